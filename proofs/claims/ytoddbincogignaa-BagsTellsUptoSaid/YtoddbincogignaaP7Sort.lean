/- slices.SortFunc, by the library's contract: at summaries, times, histories' entries, rows. -/
import Derived.Test.YtoddbincogignaaAbsSound12
import Derived.Test.YtoddbincogignaaProg
import Derived.Shelf.SlSortCmp.NoneTotal
import Derived.Ground.SlsfProg
namespace Go.Proofs
open Go Go.Shelf Go.Sort
set_option maxRecDepth 100000
theorem Try.lf {P : Program} {f : FuncId} {A B : Func} (h : P.funcs[f]? = some A) (e : A = B) : P.funcs[f]? = some B := h.trans (congrArg some e)
theorem Try.lg {P : Program} {f : FuncId} {A B : Func} (h : P.funcs[f]? = some A) (n : (A.name == "runtime.NumGoroutine") = false) (e : A = { B with name := A.name }) : Bears P f B := ⟨A.name, n, h.trans (congrArg some e)⟩
def Try.sortL123_ren : Go.Shelf.Ren := ⟨fun | 6 => 123 | 15 => 170 | 14 => 169 | 28 => 195 | 29 => 196 | 20 => 187 | 21 => 188 | 22 => 189 | 23 => 190 | 24 => 191 | 25 => 192 | 26 => 193 | 27 => 194 | 46 => 225 | 47 => 226 | 48 => 227 | 49 => 228 | 50 => 229 | 57 => 239 | n => n, fun | 22 => 22 | 24 => 95 | 25 => 144 | 3 => 3 | 39 => 189 | 0 => 0 | 53 => 215 | 55 => 217 | 4 => 4 | 46 => 209 | 45 => 208 | 50 => 121 | 5 => 5 | 9 => 9 | 66 => 236 | 70 => 240 | 76 => 248 | 77 => 249 | n => n, fun | n => n⟩
open Try in
theorem Try.sortL123 : Go.Proofs.SlLaysF0.n6 Try.prog Try.sortL123_ren := {
  mixed := by kernel_rfl
  f6 := lg func123 rfl (by kernel_rfl)
  f14 := lg func169 rfl (by kernel_rfl)
  f15 := lf func170 (by kernel_rfl)
  f20 := lg func187 rfl (by kernel_rfl)
  f21 := lg func188 rfl (by kernel_rfl)
  f22 := lg func189 rfl (by kernel_rfl)
  f23 := lg func190 rfl (by kernel_rfl)
  f24 := lg func191 rfl (by kernel_rfl)
  f25 := lg func192 rfl (by kernel_rfl)
  f26 := lg func193 rfl (by kernel_rfl)
  f27 := lg func194 rfl (by kernel_rfl)
  f28 := lf func195 (by kernel_rfl)
  f29 := lf func196 (by kernel_rfl)
  f46 := lg func225 rfl (by kernel_rfl)
  f47 := lf func226 (by kernel_rfl)
  f48 := lf func227 (by kernel_rfl)
  f49 := lg func228 rfl (by kernel_rfl)
  f50 := lg func229 rfl (by kernel_rfl)
  f57 := lg func239 rfl (by kernel_rfl)
  t0 := underlying0
  a0 := isAgg0
  z0 := sizeOf0
  v0 := zeroValue0
  t3 := underlying3
  a3 := isAgg3
  z3 := sizeOf3
  v3 := zeroValue3
  t4 := underlying4
  a4 := isAgg4
  z4 := sizeOf4
  v4 := zeroValue4
  t5 := underlying5
  a5 := isAgg5
  z5 := sizeOf5
  v5 := zeroValue5
  t9 := underlying9
  a9 := isAgg9
  z9 := sizeOf9
  v9 := zeroValue9
  t22 := underlying22
  a22 := isAgg22
  z22 := sizeOf22
  v22 := zeroValue22
  t25 := underlying144
  a25 := isAgg144
  z25 := sizeOf144
  v25 := zeroValue144
  t39 := underlying189
  a39 := isAgg189
  z39 := sizeOf189
  v39 := zeroValue189
  t45 := underlying208
  a45 := isAgg208
  z45 := sizeOf208
  v45 := zeroValue208
  t46 := underlying209
  a46 := isAgg209
  z46 := sizeOf209
  v46 := zeroValue209
  t50 := underlying121
  a50 := isAgg121
  z50 := sizeOf121
  v50 := zeroValue121
  t53 := underlying215
  a53 := isAgg215
  z53 := sizeOf215
  v53 := zeroValue215
  t55 := underlying217
  a55 := isAgg217
  z55 := sizeOf217
  v55 := zeroValue217
  t66 := underlying236
  a66 := isAgg236
  z66 := sizeOf236
  v66 := zeroValue236
  t70 := underlying240
  a70 := isAgg240
  z70 := sizeOf240
  v70 := zeroValue240
  t76 := underlying248
  a76 := isAgg248
  z76 := sizeOf248
  v76 := zeroValue248
  t77 := underlying249
  a77 := isAgg249
  z77 := sizeOf249
  v77 := zeroValue249 }
def Try.sortL144_ren : Go.Shelf.Ren := ⟨fun | 6 => 144 | 15 => 170 | 14 => 178 | 28 => 195 | 29 => 196 | 20 => 199 | 21 => 200 | 22 => 201 | 23 => 202 | 24 => 203 | 25 => 204 | 26 => 205 | 27 => 206 | 46 => 230 | 47 => 226 | 48 => 227 | 49 => 231 | 50 => 232 | 57 => 240 | n => n, fun | 22 => 31 | 24 => 58 | 25 => 154 | 3 => 3 | 39 => 189 | 0 => 0 | 53 => 215 | 55 => 217 | 4 => 4 | 46 => 209 | 45 => 208 | 50 => 121 | 5 => 5 | 9 => 9 | 66 => 236 | 70 => 240 | 76 => 248 | 77 => 249 | n => n, fun | n => n⟩
open Try in
theorem Try.sortL144 : Go.Proofs.SlLaysF.n6 Try.prog Try.sortL144_ren := {
  mixed := by kernel_rfl
  f6 := lg func144 rfl (by kernel_rfl)
  f14 := lg func178 rfl (by kernel_rfl)
  f15 := lf func170 (by kernel_rfl)
  f20 := lg func199 rfl (by kernel_rfl)
  f21 := lg func200 rfl (by kernel_rfl)
  f22 := lg func201 rfl (by kernel_rfl)
  f23 := lg func202 rfl (by kernel_rfl)
  f24 := lg func203 rfl (by kernel_rfl)
  f25 := lg func204 rfl (by kernel_rfl)
  f26 := lg func205 rfl (by kernel_rfl)
  f27 := lg func206 rfl (by kernel_rfl)
  f28 := lf func195 (by kernel_rfl)
  f29 := lf func196 (by kernel_rfl)
  f46 := lg func230 rfl (by kernel_rfl)
  f47 := lf func226 (by kernel_rfl)
  f48 := lf func227 (by kernel_rfl)
  f49 := lg func231 rfl (by kernel_rfl)
  f50 := lg func232 rfl (by kernel_rfl)
  f57 := lg func240 rfl (by kernel_rfl)
  t0 := underlying0
  a0 := isAgg0
  z0 := sizeOf0
  v0 := zeroValue0
  t3 := underlying3
  a3 := isAgg3
  z3 := sizeOf3
  v3 := zeroValue3
  t4 := underlying4
  a4 := isAgg4
  z4 := sizeOf4
  v4 := zeroValue4
  t5 := underlying5
  a5 := isAgg5
  z5 := sizeOf5
  v5 := zeroValue5
  t9 := underlying9
  a9 := isAgg9
  z9 := sizeOf9
  v9 := zeroValue9
  t22 := underlying31
  a22 := isAgg31
  z22 := sizeOf31
  v22 := zeroValue31
  a24 := isAgg58
  z24 := sizeOf58
  t25 := underlying154
  a25 := isAgg154
  z25 := sizeOf154
  v25 := zeroValue154
  t39 := underlying189
  a39 := isAgg189
  z39 := sizeOf189
  v39 := zeroValue189
  t45 := underlying208
  a45 := isAgg208
  z45 := sizeOf208
  v45 := zeroValue208
  t46 := underlying209
  a46 := isAgg209
  z46 := sizeOf209
  v46 := zeroValue209
  t50 := underlying121
  a50 := isAgg121
  z50 := sizeOf121
  v50 := zeroValue121
  t53 := underlying215
  a53 := isAgg215
  z53 := sizeOf215
  v53 := zeroValue215
  t55 := underlying217
  a55 := isAgg217
  z55 := sizeOf217
  v55 := zeroValue217
  t66 := underlying236
  a66 := isAgg236
  z66 := sizeOf236
  v66 := zeroValue236
  t70 := underlying240
  a70 := isAgg240
  z70 := sizeOf240
  v70 := zeroValue240
  t76 := underlying248
  a76 := isAgg248
  z76 := sizeOf248
  v76 := zeroValue248
  t77 := underlying249
  a77 := isAgg249
  z77 := sizeOf249
  v77 := zeroValue249 }
def Try.sortL153_ren : Go.Shelf.Ren := ⟨fun | 6 => 153 | 15 => 170 | 14 => 179 | 28 => 195 | 29 => 196 | 20 => 207 | 21 => 208 | 22 => 209 | 23 => 210 | 24 => 211 | 25 => 212 | 26 => 213 | 27 => 214 | 46 => 233 | 47 => 226 | 48 => 227 | 49 => 234 | 50 => 235 | 57 => 241 | n => n, fun | 22 => 57 | 24 => 67 | 25 => 166 | 3 => 3 | 39 => 189 | 0 => 0 | 53 => 215 | 55 => 217 | 4 => 4 | 46 => 209 | 45 => 208 | 50 => 121 | 5 => 5 | 9 => 9 | 66 => 236 | 70 => 240 | 76 => 248 | 77 => 249 | n => n, fun | n => n⟩
open Try in
theorem Try.sortL153 : Go.Proofs.SlLaysF0.n6 Try.prog Try.sortL153_ren := {
  mixed := by kernel_rfl
  f6 := lg func153 rfl (by kernel_rfl)
  f14 := lg func179 rfl (by kernel_rfl)
  f15 := lf func170 (by kernel_rfl)
  f20 := lg func207 rfl (by kernel_rfl)
  f21 := lg func208 rfl (by kernel_rfl)
  f22 := lg func209 rfl (by kernel_rfl)
  f23 := lg func210 rfl (by kernel_rfl)
  f24 := lg func211 rfl (by kernel_rfl)
  f25 := lg func212 rfl (by kernel_rfl)
  f26 := lg func213 rfl (by kernel_rfl)
  f27 := lg func214 rfl (by kernel_rfl)
  f28 := lf func195 (by kernel_rfl)
  f29 := lf func196 (by kernel_rfl)
  f46 := lg func233 rfl (by kernel_rfl)
  f47 := lf func226 (by kernel_rfl)
  f48 := lf func227 (by kernel_rfl)
  f49 := lg func234 rfl (by kernel_rfl)
  f50 := lg func235 rfl (by kernel_rfl)
  f57 := lg func241 rfl (by kernel_rfl)
  t0 := underlying0
  a0 := isAgg0
  z0 := sizeOf0
  v0 := zeroValue0
  t3 := underlying3
  a3 := isAgg3
  z3 := sizeOf3
  v3 := zeroValue3
  t4 := underlying4
  a4 := isAgg4
  z4 := sizeOf4
  v4 := zeroValue4
  t5 := underlying5
  a5 := isAgg5
  z5 := sizeOf5
  v5 := zeroValue5
  t9 := underlying9
  a9 := isAgg9
  z9 := sizeOf9
  v9 := zeroValue9
  t22 := underlying57
  a22 := isAgg57
  z22 := sizeOf57
  v22 := zeroValue57
  t25 := underlying166
  a25 := isAgg166
  z25 := sizeOf166
  v25 := zeroValue166
  t39 := underlying189
  a39 := isAgg189
  z39 := sizeOf189
  v39 := zeroValue189
  t45 := underlying208
  a45 := isAgg208
  z45 := sizeOf208
  v45 := zeroValue208
  t46 := underlying209
  a46 := isAgg209
  z46 := sizeOf209
  v46 := zeroValue209
  t50 := underlying121
  a50 := isAgg121
  z50 := sizeOf121
  v50 := zeroValue121
  t53 := underlying215
  a53 := isAgg215
  z53 := sizeOf215
  v53 := zeroValue215
  t55 := underlying217
  a55 := isAgg217
  z55 := sizeOf217
  v55 := zeroValue217
  t66 := underlying236
  a66 := isAgg236
  z66 := sizeOf236
  v66 := zeroValue236
  t70 := underlying240
  a70 := isAgg240
  z70 := sizeOf240
  v70 := zeroValue240
  t76 := underlying248
  a76 := isAgg248
  z76 := sizeOf248
  v76 := zeroValue248
  t77 := underlying249
  a77 := isAgg249
  z77 := sizeOf249
  v77 := zeroValue249 }
def Try.sortL165_ren : Go.Shelf.Ren := ⟨fun | 6 => 165 | 15 => 170 | 14 => 185 | 28 => 195 | 29 => 196 | 20 => 217 | 21 => 218 | 22 => 219 | 23 => 220 | 24 => 221 | 25 => 222 | 26 => 223 | 27 => 224 | 46 => 236 | 47 => 226 | 48 => 227 | 49 => 237 | 50 => 238 | 57 => 242 | n => n, fun | 22 => 47 | 24 => 110 | 25 => 186 | 3 => 3 | 39 => 189 | 0 => 0 | 53 => 215 | 55 => 217 | 4 => 4 | 46 => 209 | 45 => 208 | 50 => 121 | 5 => 5 | 9 => 9 | 66 => 236 | 70 => 240 | 76 => 248 | 77 => 249 | n => n, fun | n => n⟩
open Try in
theorem Try.sortL165 : Go.Proofs.SlLaysF0.n6 Try.prog Try.sortL165_ren := {
  mixed := by kernel_rfl
  f6 := lg func165 rfl (by kernel_rfl)
  f14 := lg func185 rfl (by kernel_rfl)
  f15 := lf func170 (by kernel_rfl)
  f20 := lg func217 rfl (by kernel_rfl)
  f21 := lg func218 rfl (by kernel_rfl)
  f22 := lg func219 rfl (by kernel_rfl)
  f23 := lg func220 rfl (by kernel_rfl)
  f24 := lg func221 rfl (by kernel_rfl)
  f25 := lg func222 rfl (by kernel_rfl)
  f26 := lg func223 rfl (by kernel_rfl)
  f27 := lg func224 rfl (by kernel_rfl)
  f28 := lf func195 (by kernel_rfl)
  f29 := lf func196 (by kernel_rfl)
  f46 := lg func236 rfl (by kernel_rfl)
  f47 := lf func226 (by kernel_rfl)
  f48 := lf func227 (by kernel_rfl)
  f49 := lg func237 rfl (by kernel_rfl)
  f50 := lg func238 rfl (by kernel_rfl)
  f57 := lg func242 rfl (by kernel_rfl)
  t0 := underlying0
  a0 := isAgg0
  z0 := sizeOf0
  v0 := zeroValue0
  t3 := underlying3
  a3 := isAgg3
  z3 := sizeOf3
  v3 := zeroValue3
  t4 := underlying4
  a4 := isAgg4
  z4 := sizeOf4
  v4 := zeroValue4
  t5 := underlying5
  a5 := isAgg5
  z5 := sizeOf5
  v5 := zeroValue5
  t9 := underlying9
  a9 := isAgg9
  z9 := sizeOf9
  v9 := zeroValue9
  t22 := underlying47
  a22 := isAgg47
  z22 := sizeOf47
  v22 := zeroValue47
  t25 := underlying186
  a25 := isAgg186
  z25 := sizeOf186
  v25 := zeroValue186
  t39 := underlying189
  a39 := isAgg189
  z39 := sizeOf189
  v39 := zeroValue189
  t45 := underlying208
  a45 := isAgg208
  z45 := sizeOf208
  v45 := zeroValue208
  t46 := underlying209
  a46 := isAgg209
  z46 := sizeOf209
  v46 := zeroValue209
  t50 := underlying121
  a50 := isAgg121
  z50 := sizeOf121
  v50 := zeroValue121
  t53 := underlying215
  a53 := isAgg215
  z53 := sizeOf215
  v53 := zeroValue215
  t55 := underlying217
  a55 := isAgg217
  z55 := sizeOf217
  v55 := zeroValue217
  t66 := underlying236
  a66 := isAgg236
  z66 := sizeOf236
  v66 := zeroValue236
  t70 := underlying240
  a70 := isAgg240
  z70 := sizeOf240
  v70 := zeroValue240
  t76 := underlying248
  a76 := isAgg248
  z76 := sizeOf248
  v76 := zeroValue248
  t77 := underlying249
  a77 := isAgg249
  z77 := sizeOf249
  v77 := zeroValue249 }

theorem Try.agg95 (w : World) : (isAgg 95).run Try.prog w = .ok true w := by kernel_rfl
theorem Try.size95 (w : World) : (Go.sizeOf 95).run Try.prog w = .ok 3 w := by kernel_rfl
theorem Try.agg67 (w : World) : (isAgg 67).run Try.prog w = .ok true w := by kernel_rfl
theorem Try.size67 (w : World) : (Go.sizeOf 67).run Try.prog w = .ok 2 w := by kernel_rfl
theorem Try.agg110 (w : World) : (isAgg 110).run Try.prog w = .ok true w := by kernel_rfl
theorem Try.size110 (w : World) : (Go.sizeOf 110).run Try.prog w = .ok 3 w := by kernel_rfl
/-- The function keeps the sort's contract. -/
theorem Try.sort144 : Go.Abs.Sort1 Try.prog 144 where
  fn := ⟨Try.f144, Try.func144, by kernel_rfl, by kernel_rfl⟩
  none := fun p cap fv w => AnyF.slices_SortFunc_none { Try.sortL144 with } p cap fv w
  sort := fun enc h1 cf hO g cb blk off cap d w eg hcmp hH hblk hsz => Any.slices_SortFunc Try.sortL144 enc h1 cf hO g cb blk off cap d w eg hcmp hH hblk hsz
/-- The function keeps the sort's contract. -/
theorem Try.sortN123 : Go.Abs.SortN Try.prog 123 3 where
  fn := ⟨Try.f123, Try.func123, by kernel_rfl, by kernel_rfl⟩
  none := fun p cap fv w => AnyF.slices_SortFunc_none Try.sortL123 p cap fv w
  sort := fun enc hk h1 cf hO g cb blk off cap d w eg hcmp hH hblk hsz => AnyQ.slices_SortFunc Try.sortL123 3 Try.agg95 Try.size95 enc hk h1 cf hO g cb blk off cap d w eg hcmp hH hblk hsz
/-- The function keeps the sort's contract. -/
theorem Try.sortN153 : Go.Abs.SortN Try.prog 153 2 where
  fn := ⟨Try.f153, Try.func153, by kernel_rfl, by kernel_rfl⟩
  none := fun p cap fv w => AnyF.slices_SortFunc_none Try.sortL153 p cap fv w
  sort := fun enc hk h1 cf hO g cb blk off cap d w eg hcmp hH hblk hsz => AnyQ.slices_SortFunc Try.sortL153 2 Try.agg67 Try.size67 enc hk h1 cf hO g cb blk off cap d w eg hcmp hH hblk hsz
/-- The function keeps the sort's contract. -/
theorem Try.sortN165 : Go.Abs.SortN Try.prog 165 3 where
  fn := ⟨Try.f165, Try.func165, by kernel_rfl, by kernel_rfl⟩
  none := fun p cap fv w => AnyF.slices_SortFunc_none Try.sortL165 p cap fv w
  sort := fun enc hk h1 cf hO g cb blk off cap d w eg hcmp hH hblk hsz => AnyQ.slices_SortFunc Try.sortL165 3 Try.agg110 Try.size110 enc hk h1 cf hO g cb blk off cap d w eg hcmp hH hblk hsz
end Go.Proofs
