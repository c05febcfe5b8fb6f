/- slices.SortFunc, by the library's contract, at rows, at histories' entries. -/
import Derived.Test.YtgepgleagefmeaaAbsSound14
import Derived.Test.YtgepgleagefmeaaProg
import Derived.Shelf.SlSortCmp.NoneTotal
import Derived.Ground.SlsfProg
namespace Go.Proofs
open Go Go.Shelf Go.Sort
set_option maxRecDepth 100000
theorem Try.lf {P : Program} {f : FuncId} {A B : Func} (h : P.funcs[f]? = some A) (e : A = B) : P.funcs[f]? = some B := h.trans (congrArg some e)
theorem Try.lg {P : Program} {f : FuncId} {A B : Func} (h : P.funcs[f]? = some A) (n : (A.name== "runtime.NumGoroutine") = false) (e : A = { B with name := A.name }) : Bears P f B := ⟨A.name, n, h.trans (congrArg some e)⟩
def Try.sortL93_ren : Go.Shelf.Ren := ⟨fun | 6 => 93 | 15 => 120 | 14 => 119 | 28 => 133 | 29 => 134 | 20 => 125 | 21 => 126 | 22 => 127 | 23 => 128 | 24 => 129 | 25 => 130 | 26 => 131 | 27 => 132 | 46 => 144 | 47 => 145 | 48 => 146 | 49 => 147 | 50 => 148 | 57 => 152 | n => n, fun | 22 => 45 | 24 => 117 | 25 => 166 | 3 => 3 | 39 => 142 | 0 => 0 | 53 => 198 | 55 => 141 | 4 => 4 | 46 => 192 | 45 => 191 | 50 => 125 | 5 => 5 | 9 => 9 | 66 => 205 | 70 => 209 | 76 => 213 | 77 => 214 | n => n, fun | n => n⟩
open Try in
theorem Try.sortL93 : Go.Proofs.SlLaysF0.n6 Try.prog Try.sortL93_ren := {
 mixed := by kernel_rfl
 f6 := lg func93 rfl (by kernel_rfl)
 f14 := lg func119 rfl (by kernel_rfl)
 f15 := lf func120 (by kernel_rfl)
 f20 := lg func125 rfl (by kernel_rfl)
 f21 := lg func126 rfl (by kernel_rfl)
 f22 := lg func127 rfl (by kernel_rfl)
 f23 := lg func128 rfl (by kernel_rfl)
 f24 := lg func129 rfl (by kernel_rfl)
 f25 := lg func130 rfl (by kernel_rfl)
 f26 := lg func131 rfl (by kernel_rfl)
 f27 := lg func132 rfl (by kernel_rfl)
 f28 := lf func133 (by kernel_rfl)
 f29 := lf func134 (by kernel_rfl)
 f46 := lg func144 rfl (by kernel_rfl)
 f47 := lf func145 (by kernel_rfl)
 f48 := lf func146 (by kernel_rfl)
 f49 := lg func147 rfl (by kernel_rfl)
 f50 := lg func148 rfl (by kernel_rfl)
 f57 := lg func152 rfl (by kernel_rfl)
 t0 := underlying0
 a0 := isAgg0
 z0 := sizeOf0
 v0 := zeroValue0
 t3 := underlying3
 a3 := isAgg3
 z3 := sizeOf3
 v3 := zeroValue3
 t4 := underlying4
 a4 := isAgg4
 z4 := sizeOf4
 v4 := zeroValue4
 t5 := underlying5
 a5 := isAgg5
 z5 := sizeOf5
 v5 := zeroValue5
 t9 := underlying9
 a9 := isAgg9
 z9 := sizeOf9
 v9 := zeroValue9
 t22 := underlying45
 a22 := isAgg45
 z22 := sizeOf45
 v22 := zeroValue45
 t25 := underlying166
 a25 := isAgg166
 z25 := sizeOf166
 v25 := zeroValue166
 t39 := underlying142
 a39 := isAgg142
 z39 := sizeOf142
 v39 := zeroValue142
 t45 := underlying191
 a45 := isAgg191
 z45 := sizeOf191
 v45 := zeroValue191
 t46 := underlying192
 a46 := isAgg192
 z46 := sizeOf192
 v46 := zeroValue192
 t50 := underlying125
 a50 := isAgg125
 z50 := sizeOf125
 v50 := zeroValue125
 t53 := underlying198
 a53 := isAgg198
 z53 := sizeOf198
 v53 := zeroValue198
 t55 := underlying141
 a55 := isAgg141
 z55 := sizeOf141
 v55 := zeroValue141
 t66 := underlying205
 a66 := isAgg205
 z66 := sizeOf205
 v66 := zeroValue205
 t70 := underlying209
 a70 := isAgg209
 z70 := sizeOf209
 v70 := zeroValue209
 t76 := underlying213
 a76 := isAgg213
 z76 := sizeOf213
 v76 := zeroValue213
 t77 := underlying214
 a77 := isAgg214
 z77 := sizeOf214
 v77 := zeroValue214 }
def Try.sortL101_ren : Go.Shelf.Ren := ⟨fun | 6 => 101 | 15 => 120 | 14 => 122 | 28 => 133 | 29 => 134 | 20 => 135 | 21 => 136 | 22 => 137 | 23 => 138 | 24 => 139 | 25 => 140 | 26 => 141 | 27 => 142 | 46 => 149 | 47 => 145 | 48 => 146 | 49 => 150 | 50 => 151 | 57 => 153 | n => n, fun | 22 => 62 | 24 => 75 | 25 => 171 | 3 => 3 | 39 => 142 | 0 => 0 | 53 => 198 | 55 => 141 | 4 => 4 | 46 => 192 | 45 => 191 | 50 => 125 | 5 => 5 | 9 => 9 | 66 => 205 | 70 => 209 | 76 => 213 | 77 => 214 | n => n, fun | n => n⟩
open Try in
theorem Try.sortL101 : Go.Proofs.SlLaysF0.n6 Try.prog Try.sortL101_ren := {
 mixed := by kernel_rfl
 f6 := lg func101 rfl (by kernel_rfl)
 f14 := lg func122 rfl (by kernel_rfl)
 f15 := lf func120 (by kernel_rfl)
 f20 := lg func135 rfl (by kernel_rfl)
 f21 := lg func136 rfl (by kernel_rfl)
 f22 := lg func137 rfl (by kernel_rfl)
 f23 := lg func138 rfl (by kernel_rfl)
 f24 := lg func139 rfl (by kernel_rfl)
 f25 := lg func140 rfl (by kernel_rfl)
 f26 := lg func141 rfl (by kernel_rfl)
 f27 := lg func142 rfl (by kernel_rfl)
 f28 := lf func133 (by kernel_rfl)
 f29 := lf func134 (by kernel_rfl)
 f46 := lg func149 rfl (by kernel_rfl)
 f47 := lf func145 (by kernel_rfl)
 f48 := lf func146 (by kernel_rfl)
 f49 := lg func150 rfl (by kernel_rfl)
 f50 := lg func151 rfl (by kernel_rfl)
 f57 := lg func153 rfl (by kernel_rfl)
 t0 := underlying0
 a0 := isAgg0
 z0 := sizeOf0
 v0 := zeroValue0
 t3 := underlying3
 a3 := isAgg3
 z3 := sizeOf3
 v3 := zeroValue3
 t4 := underlying4
 a4 := isAgg4
 z4 := sizeOf4
 v4 := zeroValue4
 t5 := underlying5
 a5 := isAgg5
 z5 := sizeOf5
 v5 := zeroValue5
 t9 := underlying9
 a9 := isAgg9
 z9 := sizeOf9
 v9 := zeroValue9
 t22 := underlying62
 a22 := isAgg62
 z22 := sizeOf62
 v22 := zeroValue62
 t25 := underlying171
 a25 := isAgg171
 z25 := sizeOf171
 v25 := zeroValue171
 t39 := underlying142
 a39 := isAgg142
 z39 := sizeOf142
 v39 := zeroValue142
 t45 := underlying191
 a45 := isAgg191
 z45 := sizeOf191
 v45 := zeroValue191
 t46 := underlying192
 a46 := isAgg192
 z46 := sizeOf192
 v46 := zeroValue192
 t50 := underlying125
 a50 := isAgg125
 z50 := sizeOf125
 v50 := zeroValue125
 t53 := underlying198
 a53 := isAgg198
 z53 := sizeOf198
 v53 := zeroValue198
 t55 := underlying141
 a55 := isAgg141
 z55 := sizeOf141
 v55 := zeroValue141
 t66 := underlying205
 a66 := isAgg205
 z66 := sizeOf205
 v66 := zeroValue205
 t70 := underlying209
 a70 := isAgg209
 z70 := sizeOf209
 v70 := zeroValue209
 t76 := underlying213
 a76 := isAgg213
 z76 := sizeOf213
 v76 := zeroValue213
 t77 := underlying214
 a77 := isAgg214
 z77 := sizeOf214
 v77 := zeroValue214 }
theorem Try.agg117 (w : World) : (isAgg 117).run Try.prog w = .ok true w := by kernel_rfl
theorem Try.size117 (w : World) : (Go.sizeOf 117).run Try.prog w = .ok 3 w := by kernel_rfl
theorem Try.agg75 (w : World) : (isAgg 75).run Try.prog w = .ok true w := by kernel_rfl
theorem Try.size75 (w : World) : (Go.sizeOf 75).run Try.prog w = .ok 2 w := by kernel_rfl
/-- The function keeps the sort's contract. -/
theorem Try.sortN93 : Go.Abs.SortN Try.prog 93 3 where
 fn := ⟨Try.f93, Try.func93, by kernel_rfl, by kernel_rfl⟩
 none := fun p cap fv w => AnyF.slices_SortFunc_none Try.sortL93 p cap fv w
 sort := fun enc hk h1 cf hO g cb blk off cap d w eg hcmp hH hblk hsz => AnyQ.slices_SortFunc Try.sortL93 3 Try.agg117 Try.size117 enc hk h1 cf hO g cb blk off cap d w eg hcmp hH hblk hsz
/-- The function keeps the sort's contract. -/
theorem Try.sortN101 : Go.Abs.SortN Try.prog 101 2 where
 fn := ⟨Try.f101, Try.func101, by kernel_rfl, by kernel_rfl⟩
 none := fun p cap fv w => AnyF.slices_SortFunc_none Try.sortL101 p cap fv w
 sort := fun enc hk h1 cf hO g cb blk off cap d w eg hcmp hH hblk hsz => AnyQ.slices_SortFunc Try.sortL101 2 Try.agg75 Try.size75 enc hk h1 cf hO g cb blk off cap d w eg hcmp hH hblk hsz
end Go.Proofs
