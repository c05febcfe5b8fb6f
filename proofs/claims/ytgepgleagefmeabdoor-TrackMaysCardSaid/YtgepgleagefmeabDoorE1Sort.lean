/- slices.SortFunc and maps.Clone, by the library's contracts, at what this program sorts and copies. -/
import Derived.Test.YtgepgleagefmeabDoorAbsSound14
import Derived.Test.YtgepgleagefmeabDoorProg
import Derived.Shelf.SlSortCmp.NoneTotal
import Derived.Ground.SlsfProg
namespace Go.Proofs
open Go Go.Shelf Go.Sort
set_option maxRecDepth 100000
theorem Tryd.lf {P : Program} {f : FuncId} {A B : Func} (h : P.funcs[f]? = some A) (e : A = B) : P.funcs[f]? = some B := h.trans (congrArg some e)
theorem Tryd.lg {P : Program} {f : FuncId} {A B : Func} (h : P.funcs[f]? = some A) (n : (A.name== "runtime.NumGoroutine") = false) (e : A = { B with name := A.name }) : Bears P f B := ⟨A.name, n, h.trans (congrArg some e)⟩
def Tryd.sortL57_ren : Go.Shelf.Ren := ⟨fun | 6 => 57 | 15 => 77 | 14 => 76 | 28 => 91 | 29 => 92 | 20 => 83 | 21 => 84 | 22 => 85 | 23 => 86 | 24 => 87 | 25 => 88 | 26 => 89 | 27 => 90 | 46 => 94 | 47 => 95 | 48 => 96 | 49 => 97 | 50 => 98 | 57 => 99 | n => n, fun | 22 => 35 | 24 => 66 | 25 => 104 | 3 => 3 | 39 => 132 | 0 => 0 | 53 => 119 | 55 => 136 | 4 => 4 | 46 => 140 | 45 => 139 | 50 => 118 | 5 => 5 | 9 => 9 | 66 => 147 | 70 => 107 | 76 => 152 | 77 => 153 | n => n, fun | n => n⟩
open Tryd in
theorem Tryd.sortL57 : Go.Proofs.SlLaysF0.n6 Tryd.prog Tryd.sortL57_ren := {
 mixed := by kernel_rfl
 f6 := lg func57 rfl (by kernel_rfl)
 f14 := lg func76 rfl (by kernel_rfl)
 f15 := lf func77 (by kernel_rfl)
 f20 := lg func83 rfl (by kernel_rfl)
 f21 := lg func84 rfl (by kernel_rfl)
 f22 := lg func85 rfl (by kernel_rfl)
 f23 := lg func86 rfl (by kernel_rfl)
 f24 := lg func87 rfl (by kernel_rfl)
 f25 := lg func88 rfl (by kernel_rfl)
 f26 := lg func89 rfl (by kernel_rfl)
 f27 := lg func90 rfl (by kernel_rfl)
 f28 := lf func91 (by kernel_rfl)
 f29 := lf func92 (by kernel_rfl)
 f46 := lg func94 rfl (by kernel_rfl)
 f47 := lf func95 (by kernel_rfl)
 f48 := lf func96 (by kernel_rfl)
 f49 := lg func97 rfl (by kernel_rfl)
 f50 := lg func98 rfl (by kernel_rfl)
 f57 := lg func99 rfl (by kernel_rfl)
 t0 := underlying0
 a0 := isAgg0
 z0 := sizeOf0
 v0 := zeroValue0
 t3 := underlying3
 a3 := isAgg3
 z3 := sizeOf3
 v3 := zeroValue3
 t4 := underlying4
 a4 := isAgg4
 z4 := sizeOf4
 v4 := zeroValue4
 t5 := underlying5
 a5 := isAgg5
 z5 := sizeOf5
 v5 := zeroValue5
 t9 := underlying9
 a9 := isAgg9
 z9 := sizeOf9
 v9 := zeroValue9
 t22 := underlying35
 a22 := isAgg35
 z22 := sizeOf35
 v22 := zeroValue35
 t25 := underlying104
 a25 := isAgg104
 z25 := sizeOf104
 v25 := zeroValue104
 t39 := underlying132
 a39 := isAgg132
 z39 := sizeOf132
 v39 := zeroValue132
 t45 := underlying139
 a45 := isAgg139
 z45 := sizeOf139
 v45 := zeroValue139
 t46 := underlying140
 a46 := isAgg140
 z46 := sizeOf140
 v46 := zeroValue140
 t50 := underlying118
 a50 := isAgg118
 z50 := sizeOf118
 v50 := zeroValue118
 t53 := underlying119
 a53 := isAgg119
 z53 := sizeOf119
 v53 := zeroValue119
 t55 := underlying136
 a55 := isAgg136
 z55 := sizeOf136
 v55 := zeroValue136
 t66 := underlying147
 a66 := isAgg147
 z66 := sizeOf147
 v66 := zeroValue147
 t70 := underlying107
 a70 := isAgg107
 z70 := sizeOf107
 v70 := zeroValue107
 t76 := underlying152
 a76 := isAgg152
 z76 := sizeOf152
 v76 := zeroValue152
 t77 := underlying153
 a77 := isAgg153
 z77 := sizeOf153
 v77 := zeroValue153 }
theorem Tryd.agg66 (w:World):(isAgg 66).run Tryd.prog w=.ok true w:=by kernel_rfl
theorem Tryd.size66 (w:World):(Go.sizeOf 66).run Tryd.prog w=.ok 3 w:=by kernel_rfl
theorem Tryd.sortN57:Go.Abs.SortN Tryd.prog 57 3 where
 fn:=⟨Tryd.f57,Tryd.func57,by kernel_rfl,by kernel_rfl⟩
 none:=fun p cap fv w=>AnyF.slices_SortFunc_none Tryd.sortL57 p cap fv w
 sort:=fun enc hk h1 cf hO g cb blk off cap d w eg hcmp hH hblk hsz=>AnyQ.slices_SortFunc Tryd.sortL57 3 Tryd.agg66 Tryd.size66 enc hk h1 cf hO g cb blk off cap d w eg hcmp hH hblk hsz
end Go.Proofs
