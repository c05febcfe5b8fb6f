/- slices.SortFunc, by the library's contract: at concepts. -/
import Derived.Test.YtamkgeejenceaaaDoorAbsSound12
import Derived.Test.YtamkgeejenceaaaDoorProg
import Derived.Shelf.SlSortCmp.NoneTotal
import Derived.Ground.SlsfProg
namespace Go.Proofs
open Go Go.Shelf Go.Sort
set_option maxRecDepth 100000
theorem Tryd.lf {P : Program} {f : FuncId} {A B : Func} (h : P.funcs[f]? = some A) (e : A = B) : P.funcs[f]? = some B := h.trans (congrArg some e)
theorem Tryd.lg {P : Program} {f : FuncId} {A B : Func} (h : P.funcs[f]? = some A) (n : (A.name == "runtime.NumGoroutine") = false) (e : A = { B with name := A.name }) : Bears P f B := ⟨A.name, n, h.trans (congrArg some e)⟩
def Tryd.sortL86_ren : Go.Shelf.Ren := ⟨fun | 6 => 86 | 15 => 116 | 14 => 115 | 28 => 150 | 29 => 151 | 20 => 142 | 21 => 143 | 22 => 144 | 23 => 145 | 24 => 146 | 25 => 147 | 26 => 148 | 27 => 149 | 46 => 163 | 47 => 164 | 48 => 165 | 49 => 166 | 50 => 167 | 57 => 177 | n => n, fun | 22 => 107 | 24 => 114 | 25 => 173 | 3 => 3 | 39 => 86 | 0 => 0 | 53 => 81 | 55 => 190 | 4 => 4 | 46 => 238 | 45 => 237 | 50 => 198 | 5 => 5 | 9 => 9 | 66 => 270 | 70 => 215 | 76 => 280 | 77 => 281 | n => n, fun | n => n⟩
open Tryd in
theorem Tryd.sortL86 : Go.Proofs.SlLaysF0.n6 Tryd.prog Tryd.sortL86_ren := {
  mixed := by kernel_rfl
  f6 := lg func86 rfl (by kernel_rfl)
  f14 := lg func115 rfl (by kernel_rfl)
  f15 := lf func116 (by kernel_rfl)
  f20 := lg func142 rfl (by kernel_rfl)
  f21 := lg func143 rfl (by kernel_rfl)
  f22 := lg func144 rfl (by kernel_rfl)
  f23 := lg func145 rfl (by kernel_rfl)
  f24 := lg func146 rfl (by kernel_rfl)
  f25 := lg func147 rfl (by kernel_rfl)
  f26 := lg func148 rfl (by kernel_rfl)
  f27 := lg func149 rfl (by kernel_rfl)
  f28 := lf func150 (by kernel_rfl)
  f29 := lf func151 (by kernel_rfl)
  f46 := lg func163 rfl (by kernel_rfl)
  f47 := lf func164 (by kernel_rfl)
  f48 := lf func165 (by kernel_rfl)
  f49 := lg func166 rfl (by kernel_rfl)
  f50 := lg func167 rfl (by kernel_rfl)
  f57 := lg func177 rfl (by kernel_rfl)
  t0 := underlying0
  a0 := isAgg0
  z0 := sizeOf0
  v0 := zeroValue0
  t3 := underlying3
  a3 := isAgg3
  z3 := sizeOf3
  v3 := zeroValue3
  t4 := underlying4
  a4 := isAgg4
  z4 := sizeOf4
  v4 := zeroValue4
  t5 := underlying5
  a5 := isAgg5
  z5 := sizeOf5
  v5 := zeroValue5
  t9 := underlying9
  a9 := isAgg9
  z9 := sizeOf9
  v9 := zeroValue9
  t22 := underlying107
  a22 := isAgg107
  z22 := sizeOf107
  v22 := zeroValue107
  t25 := underlying173
  a25 := isAgg173
  z25 := sizeOf173
  v25 := zeroValue173
  t39 := underlying86
  a39 := isAgg86
  z39 := sizeOf86
  v39 := zeroValue86
  t45 := underlying237
  a45 := isAgg237
  z45 := sizeOf237
  v45 := zeroValue237
  t46 := underlying238
  a46 := isAgg238
  z46 := sizeOf238
  v46 := zeroValue238
  t50 := underlying198
  a50 := isAgg198
  z50 := sizeOf198
  v50 := zeroValue198
  t53 := underlying81
  a53 := isAgg81
  z53 := sizeOf81
  v53 := zeroValue81
  t55 := underlying190
  a55 := isAgg190
  z55 := sizeOf190
  v55 := zeroValue190
  t66 := underlying270
  a66 := isAgg270
  z66 := sizeOf270
  v66 := zeroValue270
  t70 := underlying215
  a70 := isAgg215
  z70 := sizeOf215
  v70 := zeroValue215
  t76 := underlying280
  a76 := isAgg280
  z76 := sizeOf280
  v76 := zeroValue280
  t77 := underlying281
  a77 := isAgg281
  z77 := sizeOf281
  v77 := zeroValue281 }

theorem Tryd.agg114 (w : World) : (isAgg 114).run Tryd.prog w = .ok true w := by kernel_rfl
theorem Tryd.size114 (w : World) : (Go.sizeOf 114).run Tryd.prog w = .ok 2 w := by kernel_rfl
/-- The function keeps the sort's contract. -/
theorem Tryd.sortN86 : Go.Abs.SortN Tryd.prog 86 2 where
  fn := ⟨Tryd.f86, Tryd.func86, by kernel_rfl, by kernel_rfl⟩
  none := fun p cap fv w => AnyF.slices_SortFunc_none Tryd.sortL86 p cap fv w
  sort := fun enc hk h1 cf hO g cb blk off cap d w eg hcmp hH hblk hsz => AnyQ.slices_SortFunc Tryd.sortL86 2 Tryd.agg114 Tryd.size114 enc hk h1 cf hO g cb blk off cap d w eg hcmp hH hblk hsz
end Go.Proofs
