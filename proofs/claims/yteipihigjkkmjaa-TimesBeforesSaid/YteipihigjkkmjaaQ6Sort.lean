/- slices.SortFunc, by the library's contract: at rows, histories' entries, times. -/
import Derived.Test.YteipihigjkkmjaaAbsSound12
import Derived.Test.YteipihigjkkmjaaProg
import Derived.Shelf.SlSortCmp.NoneTotal
import Derived.Ground.SlsfProg
namespace Go.Proofs
open Go Go.Shelf Go.Sort
set_option maxRecDepth 100000
theorem Try.lf {P : Program} {f : FuncId} {A B : Func} (h : P.funcs[f]? = some A) (e : A = B) : P.funcs[f]? = some B := h.trans (congrArg some e)
theorem Try.lg {P : Program} {f : FuncId} {A B : Func} (h : P.funcs[f]? = some A) (n : (A.name == "runtime.NumGoroutine") = false) (e : A = { B with name := A.name }) : Bears P f B := ⟨A.name, n, h.trans (congrArg some e)⟩
def Try.sortL107_ren : Go.Shelf.Ren := ⟨fun | 6 => 107 | 15 => 140 | 14 => 139 | 28 => 159 | 29 => 160 | 20 => 151 | 21 => 152 | 22 => 153 | 23 => 154 | 24 => 155 | 25 => 156 | 26 => 157 | 27 => 158 | 46 => 180 | 47 => 181 | 48 => 182 | 49 => 183 | 50 => 184 | 57 => 191 | n => n, fun | 22 => 45 | 24 => 125 | 25 => 175 | 3 => 3 | 39 => 158 | 0 => 0 | 53 => 221 | 55 => 157 | 4 => 4 | 46 => 215 | 45 => 214 | 50 => 139 | 5 => 5 | 9 => 9 | 66 => 235 | 70 => 239 | 76 => 245 | 77 => 246 | n => n, fun | n => n⟩
open Try in
theorem Try.sortL107 : Go.Proofs.SlLaysF0.n6 Try.prog Try.sortL107_ren := {
  mixed := by kernel_rfl
  f6 := lg func107 rfl (by kernel_rfl)
  f14 := lg func139 rfl (by kernel_rfl)
  f15 := lf func140 (by kernel_rfl)
  f20 := lg func151 rfl (by kernel_rfl)
  f21 := lg func152 rfl (by kernel_rfl)
  f22 := lg func153 rfl (by kernel_rfl)
  f23 := lg func154 rfl (by kernel_rfl)
  f24 := lg func155 rfl (by kernel_rfl)
  f25 := lg func156 rfl (by kernel_rfl)
  f26 := lg func157 rfl (by kernel_rfl)
  f27 := lg func158 rfl (by kernel_rfl)
  f28 := lf func159 (by kernel_rfl)
  f29 := lf func160 (by kernel_rfl)
  f46 := lg func180 rfl (by kernel_rfl)
  f47 := lf func181 (by kernel_rfl)
  f48 := lf func182 (by kernel_rfl)
  f49 := lg func183 rfl (by kernel_rfl)
  f50 := lg func184 rfl (by kernel_rfl)
  f57 := lg func191 rfl (by kernel_rfl)
  t0 := underlying0
  a0 := isAgg0
  z0 := sizeOf0
  v0 := zeroValue0
  t3 := underlying3
  a3 := isAgg3
  z3 := sizeOf3
  v3 := zeroValue3
  t4 := underlying4
  a4 := isAgg4
  z4 := sizeOf4
  v4 := zeroValue4
  t5 := underlying5
  a5 := isAgg5
  z5 := sizeOf5
  v5 := zeroValue5
  t9 := underlying9
  a9 := isAgg9
  z9 := sizeOf9
  v9 := zeroValue9
  t22 := underlying45
  a22 := isAgg45
  z22 := sizeOf45
  v22 := zeroValue45
  t25 := underlying175
  a25 := isAgg175
  z25 := sizeOf175
  v25 := zeroValue175
  t39 := underlying158
  a39 := isAgg158
  z39 := sizeOf158
  v39 := zeroValue158
  t45 := underlying214
  a45 := isAgg214
  z45 := sizeOf214
  v45 := zeroValue214
  t46 := underlying215
  a46 := isAgg215
  z46 := sizeOf215
  v46 := zeroValue215
  t50 := underlying139
  a50 := isAgg139
  z50 := sizeOf139
  v50 := zeroValue139
  t53 := underlying221
  a53 := isAgg221
  z53 := sizeOf221
  v53 := zeroValue221
  t55 := underlying157
  a55 := isAgg157
  z55 := sizeOf157
  v55 := zeroValue157
  t66 := underlying235
  a66 := isAgg235
  z66 := sizeOf235
  v66 := zeroValue235
  t70 := underlying239
  a70 := isAgg239
  z70 := sizeOf239
  v70 := zeroValue239
  t76 := underlying245
  a76 := isAgg245
  z76 := sizeOf245
  v76 := zeroValue245
  t77 := underlying246
  a77 := isAgg246
  z77 := sizeOf246
  v77 := zeroValue246 }
def Try.sortL116_ren : Go.Shelf.Ren := ⟨fun | 6 => 116 | 15 => 140 | 14 => 145 | 28 => 159 | 29 => 160 | 20 => 163 | 21 => 164 | 22 => 165 | 23 => 166 | 24 => 167 | 25 => 168 | 26 => 169 | 27 => 170 | 46 => 185 | 47 => 181 | 48 => 182 | 49 => 186 | 50 => 187 | 57 => 192 | n => n, fun | 22 => 66 | 24 => 79 | 25 => 189 | 3 => 3 | 39 => 158 | 0 => 0 | 53 => 221 | 55 => 157 | 4 => 4 | 46 => 215 | 45 => 214 | 50 => 139 | 5 => 5 | 9 => 9 | 66 => 235 | 70 => 239 | 76 => 245 | 77 => 246 | n => n, fun | n => n⟩
open Try in
theorem Try.sortL116 : Go.Proofs.SlLaysF0.n6 Try.prog Try.sortL116_ren := {
  mixed := by kernel_rfl
  f6 := lg func116 rfl (by kernel_rfl)
  f14 := lg func145 rfl (by kernel_rfl)
  f15 := lf func140 (by kernel_rfl)
  f20 := lg func163 rfl (by kernel_rfl)
  f21 := lg func164 rfl (by kernel_rfl)
  f22 := lg func165 rfl (by kernel_rfl)
  f23 := lg func166 rfl (by kernel_rfl)
  f24 := lg func167 rfl (by kernel_rfl)
  f25 := lg func168 rfl (by kernel_rfl)
  f26 := lg func169 rfl (by kernel_rfl)
  f27 := lg func170 rfl (by kernel_rfl)
  f28 := lf func159 (by kernel_rfl)
  f29 := lf func160 (by kernel_rfl)
  f46 := lg func185 rfl (by kernel_rfl)
  f47 := lf func181 (by kernel_rfl)
  f48 := lf func182 (by kernel_rfl)
  f49 := lg func186 rfl (by kernel_rfl)
  f50 := lg func187 rfl (by kernel_rfl)
  f57 := lg func192 rfl (by kernel_rfl)
  t0 := underlying0
  a0 := isAgg0
  z0 := sizeOf0
  v0 := zeroValue0
  t3 := underlying3
  a3 := isAgg3
  z3 := sizeOf3
  v3 := zeroValue3
  t4 := underlying4
  a4 := isAgg4
  z4 := sizeOf4
  v4 := zeroValue4
  t5 := underlying5
  a5 := isAgg5
  z5 := sizeOf5
  v5 := zeroValue5
  t9 := underlying9
  a9 := isAgg9
  z9 := sizeOf9
  v9 := zeroValue9
  t22 := underlying66
  a22 := isAgg66
  z22 := sizeOf66
  v22 := zeroValue66
  t25 := underlying189
  a25 := isAgg189
  z25 := sizeOf189
  v25 := zeroValue189
  t39 := underlying158
  a39 := isAgg158
  z39 := sizeOf158
  v39 := zeroValue158
  t45 := underlying214
  a45 := isAgg214
  z45 := sizeOf214
  v45 := zeroValue214
  t46 := underlying215
  a46 := isAgg215
  z46 := sizeOf215
  v46 := zeroValue215
  t50 := underlying139
  a50 := isAgg139
  z50 := sizeOf139
  v50 := zeroValue139
  t53 := underlying221
  a53 := isAgg221
  z53 := sizeOf221
  v53 := zeroValue221
  t55 := underlying157
  a55 := isAgg157
  z55 := sizeOf157
  v55 := zeroValue157
  t66 := underlying235
  a66 := isAgg235
  z66 := sizeOf235
  v66 := zeroValue235
  t70 := underlying239
  a70 := isAgg239
  z70 := sizeOf239
  v70 := zeroValue239
  t76 := underlying245
  a76 := isAgg245
  z76 := sizeOf245
  v76 := zeroValue245
  t77 := underlying246
  a77 := isAgg246
  z77 := sizeOf246
  v77 := zeroValue246 }
def Try.sortL130_ren : Go.Shelf.Ren := ⟨fun | 6 => 130 | 15 => 140 | 14 => 149 | 28 => 159 | 29 => 160 | 20 => 172 | 21 => 173 | 22 => 174 | 23 => 175 | 24 => 176 | 25 => 177 | 26 => 178 | 27 => 179 | 46 => 188 | 47 => 181 | 48 => 182 | 49 => 189 | 50 => 190 | 57 => 193 | n => n, fun | 22 => 70 | 24 => 34 | 25 => 188 | 3 => 3 | 39 => 158 | 0 => 0 | 53 => 221 | 55 => 157 | 4 => 4 | 46 => 215 | 45 => 214 | 50 => 139 | 5 => 5 | 9 => 9 | 66 => 235 | 70 => 239 | 76 => 245 | 77 => 246 | n => n, fun | n => n⟩
open Try in
theorem Try.sortL130 : Go.Proofs.SlLaysF.n6 Try.prog Try.sortL130_ren := {
  mixed := by kernel_rfl
  f6 := lg func130 rfl (by kernel_rfl)
  f14 := lg func149 rfl (by kernel_rfl)
  f15 := lf func140 (by kernel_rfl)
  f20 := lg func172 rfl (by kernel_rfl)
  f21 := lg func173 rfl (by kernel_rfl)
  f22 := lg func174 rfl (by kernel_rfl)
  f23 := lg func175 rfl (by kernel_rfl)
  f24 := lg func176 rfl (by kernel_rfl)
  f25 := lg func177 rfl (by kernel_rfl)
  f26 := lg func178 rfl (by kernel_rfl)
  f27 := lg func179 rfl (by kernel_rfl)
  f28 := lf func159 (by kernel_rfl)
  f29 := lf func160 (by kernel_rfl)
  f46 := lg func188 rfl (by kernel_rfl)
  f47 := lf func181 (by kernel_rfl)
  f48 := lf func182 (by kernel_rfl)
  f49 := lg func189 rfl (by kernel_rfl)
  f50 := lg func190 rfl (by kernel_rfl)
  f57 := lg func193 rfl (by kernel_rfl)
  t0 := underlying0
  a0 := isAgg0
  z0 := sizeOf0
  v0 := zeroValue0
  t3 := underlying3
  a3 := isAgg3
  z3 := sizeOf3
  v3 := zeroValue3
  t4 := underlying4
  a4 := isAgg4
  z4 := sizeOf4
  v4 := zeroValue4
  t5 := underlying5
  a5 := isAgg5
  z5 := sizeOf5
  v5 := zeroValue5
  t9 := underlying9
  a9 := isAgg9
  z9 := sizeOf9
  v9 := zeroValue9
  t22 := underlying70
  a22 := isAgg70
  z22 := sizeOf70
  v22 := zeroValue70
  a24 := isAgg34
  z24 := sizeOf34
  t25 := underlying188
  a25 := isAgg188
  z25 := sizeOf188
  v25 := zeroValue188
  t39 := underlying158
  a39 := isAgg158
  z39 := sizeOf158
  v39 := zeroValue158
  t45 := underlying214
  a45 := isAgg214
  z45 := sizeOf214
  v45 := zeroValue214
  t46 := underlying215
  a46 := isAgg215
  z46 := sizeOf215
  v46 := zeroValue215
  t50 := underlying139
  a50 := isAgg139
  z50 := sizeOf139
  v50 := zeroValue139
  t53 := underlying221
  a53 := isAgg221
  z53 := sizeOf221
  v53 := zeroValue221
  t55 := underlying157
  a55 := isAgg157
  z55 := sizeOf157
  v55 := zeroValue157
  t66 := underlying235
  a66 := isAgg235
  z66 := sizeOf235
  v66 := zeroValue235
  t70 := underlying239
  a70 := isAgg239
  z70 := sizeOf239
  v70 := zeroValue239
  t76 := underlying245
  a76 := isAgg245
  z76 := sizeOf245
  v76 := zeroValue245
  t77 := underlying246
  a77 := isAgg246
  z77 := sizeOf246
  v77 := zeroValue246 }

theorem Try.agg125 (w : World) : (isAgg 125).run Try.prog w = .ok true w := by kernel_rfl
theorem Try.size125 (w : World) : (Go.sizeOf 125).run Try.prog w = .ok 3 w := by kernel_rfl
theorem Try.agg79 (w : World) : (isAgg 79).run Try.prog w = .ok true w := by kernel_rfl
theorem Try.size79 (w : World) : (Go.sizeOf 79).run Try.prog w = .ok 2 w := by kernel_rfl
/-- The function keeps the sort's contract. -/
theorem Try.sort130 : Go.Abs.Sort1 Try.prog 130 where
  fn := ⟨Try.f130, Try.func130, by kernel_rfl, by kernel_rfl⟩
  none := fun p cap fv w => AnyF.slices_SortFunc_none { Try.sortL130 with } p cap fv w
  sort := fun enc h1 cf hO g cb blk off cap d w eg hcmp hH hblk hsz => Any.slices_SortFunc Try.sortL130 enc h1 cf hO g cb blk off cap d w eg hcmp hH hblk hsz
/-- The function keeps the sort's contract. -/
theorem Try.sortN107 : Go.Abs.SortN Try.prog 107 3 where
  fn := ⟨Try.f107, Try.func107, by kernel_rfl, by kernel_rfl⟩
  none := fun p cap fv w => AnyF.slices_SortFunc_none Try.sortL107 p cap fv w
  sort := fun enc hk h1 cf hO g cb blk off cap d w eg hcmp hH hblk hsz => AnyQ.slices_SortFunc Try.sortL107 3 Try.agg125 Try.size125 enc hk h1 cf hO g cb blk off cap d w eg hcmp hH hblk hsz
/-- The function keeps the sort's contract. -/
theorem Try.sortN116 : Go.Abs.SortN Try.prog 116 2 where
  fn := ⟨Try.f116, Try.func116, by kernel_rfl, by kernel_rfl⟩
  none := fun p cap fv w => AnyF.slices_SortFunc_none Try.sortL116 p cap fv w
  sort := fun enc hk h1 cf hO g cb blk off cap d w eg hcmp hH hblk hsz => AnyQ.slices_SortFunc Try.sortL116 2 Try.agg79 Try.size79 enc hk h1 cf hO g cb blk off cap d w eg hcmp hH hblk hsz
end Go.Proofs
