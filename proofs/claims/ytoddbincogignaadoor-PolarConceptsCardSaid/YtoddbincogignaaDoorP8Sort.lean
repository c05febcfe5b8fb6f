/- slices.SortFunc at concepts, by the library's contract. -/
import Derived.Test.YtoddbincogignaaDoorAbsSound12
import Derived.Test.YtoddbincogignaaDoorProg
import Derived.Shelf.SlSortCmp.NoneTotal
import Derived.Ground.SlsfProg
namespace Go.Proofs
open Go Go.Shelf Go.Sort
set_option maxRecDepth 100000
theorem Tryd.lf {P : Program} {f : FuncId} {A B : Func} (h : P.funcs[f]? = some A) (e : A = B) : P.funcs[f]? = some B := h.trans (congrArg some e)
theorem Tryd.lg {P : Program} {f : FuncId} {A B : Func} (h : P.funcs[f]? = some A) (n : (A.name == "runtime.NumGoroutine") = false) (e : A = { B with name := A.name }) : Bears P f B := ⟨A.name, n, h.trans (congrArg some e)⟩
def Tryd.sortL11_ren : Go.Shelf.Ren := ⟨fun | 6 => 11 | 15 => 23 | 14 => 22 | 28 => 36 | 29 => 37 | 20 => 28 | 21 => 29 | 22 => 30 | 23 => 31 | 24 => 32 | 25 => 33 | 26 => 34 | 27 => 35 | 46 => 38 | 47 => 39 | 48 => 40 | 49 => 41 | 50 => 42 | 57 => 43 | n => n, fun | 22 => 25 | 24 => 33 | 25 => 44 | 3 => 3 | 39 => 46 | 0 => 0 | 53 => 31 | 55 => 57 | 4 => 4 | 46 => 61 | 45 => 60 | 50 => 65 | 5 => 5 | 9 => 9 | 66 => 69 | 70 => 73 | 76 => 75 | 77 => 76 | n => n, fun | n => n⟩
open Tryd in
theorem Tryd.sortL11 : Go.Proofs.SlLaysF0.n6 Tryd.prog Tryd.sortL11_ren := {
  mixed := by kernel_rfl
  f6 := lg func11 rfl (by kernel_rfl)
  f14 := lg func22 rfl (by kernel_rfl)
  f15 := lf func23 (by kernel_rfl)
  f20 := lg func28 rfl (by kernel_rfl)
  f21 := lg func29 rfl (by kernel_rfl)
  f22 := lg func30 rfl (by kernel_rfl)
  f23 := lg func31 rfl (by kernel_rfl)
  f24 := lg func32 rfl (by kernel_rfl)
  f25 := lg func33 rfl (by kernel_rfl)
  f26 := lg func34 rfl (by kernel_rfl)
  f27 := lg func35 rfl (by kernel_rfl)
  f28 := lf func36 (by kernel_rfl)
  f29 := lf func37 (by kernel_rfl)
  f46 := lg func38 rfl (by kernel_rfl)
  f47 := lf func39 (by kernel_rfl)
  f48 := lf func40 (by kernel_rfl)
  f49 := lg func41 rfl (by kernel_rfl)
  f50 := lg func42 rfl (by kernel_rfl)
  f57 := lg func43 rfl (by kernel_rfl)
  t0 := underlying0
  a0 := isAgg0
  z0 := sizeOf0
  v0 := zeroValue0
  t3 := underlying3
  a3 := isAgg3
  z3 := sizeOf3
  v3 := zeroValue3
  t4 := underlying4
  a4 := isAgg4
  z4 := sizeOf4
  v4 := zeroValue4
  t5 := underlying5
  a5 := isAgg5
  z5 := sizeOf5
  v5 := zeroValue5
  t9 := underlying9
  a9 := isAgg9
  z9 := sizeOf9
  v9 := zeroValue9
  t22 := underlying25
  a22 := isAgg25
  z22 := sizeOf25
  v22 := zeroValue25
  t25 := underlying44
  a25 := isAgg44
  z25 := sizeOf44
  v25 := zeroValue44
  t39 := underlying46
  a39 := isAgg46
  z39 := sizeOf46
  v39 := zeroValue46
  t45 := underlying60
  a45 := isAgg60
  z45 := sizeOf60
  v45 := zeroValue60
  t46 := underlying61
  a46 := isAgg61
  z46 := sizeOf61
  v46 := zeroValue61
  t50 := underlying65
  a50 := isAgg65
  z50 := sizeOf65
  v50 := zeroValue65
  t53 := underlying31
  a53 := isAgg31
  z53 := sizeOf31
  v53 := zeroValue31
  t55 := underlying57
  a55 := isAgg57
  z55 := sizeOf57
  v55 := zeroValue57
  t66 := underlying69
  a66 := isAgg69
  z66 := sizeOf69
  v66 := zeroValue69
  t70 := underlying73
  a70 := isAgg73
  z70 := sizeOf73
  v70 := zeroValue73
  t76 := underlying75
  a76 := isAgg75
  z76 := sizeOf75
  v76 := zeroValue75
  t77 := underlying76
  a77 := isAgg76
  z77 := sizeOf76
  v77 := zeroValue76 }

theorem Tryd.agg33 (w : World) : (isAgg 33).run Tryd.prog w = .ok true w := by kernel_rfl
theorem Tryd.size33 (w : World) : (Go.sizeOf 33).run Tryd.prog w = .ok 2 w := by kernel_rfl
/-- The function keeps the sort's contract. -/
theorem Tryd.sortN11 : Go.Abs.SortN Tryd.prog 11 2 where
  fn := ⟨Tryd.f11, Tryd.func11, by kernel_rfl, by kernel_rfl⟩
  none := fun p cap fv w => AnyF.slices_SortFunc_none Tryd.sortL11 p cap fv w
  sort := fun enc hk h1 cf hO g cb blk off cap d w eg hcmp hH hblk hsz => AnyQ.slices_SortFunc Tryd.sortL11 2 Tryd.agg33 Tryd.size33 enc hk h1 cf hO g cb blk off cap d w eg hcmp hH hblk hsz
end Go.Proofs
