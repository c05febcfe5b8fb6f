/- slices.SortFunc, by the library's contract. -/
import Derived.Test.YtammjpalmmhokaaAbsSound11
import Derived.Test.YtammjpalmmhokaaProg
import Derived.Shelf.SlSortCmp.NoneTotal
import Derived.Ground.SlsfProg
namespace Go.Proofs
open Go Go.Shelf Go.Sort
set_option maxRecDepth 100000
theorem Try.lf {P : Program} {f : FuncId} {A B : Func} (h : P.funcs[f]? = some A) (e : A = B) : P.funcs[f]? = some B := h.trans (congrArg some e)
theorem Try.lg {P : Program} {f : FuncId} {A B : Func} (h : P.funcs[f]? = some A) (n : (A.name == "runtime.NumGoroutine") = false) (e : A = { B with name := A.name }) : Bears P f B := ⟨A.name, n, h.trans (congrArg some e)⟩
def Try.sortL65_ren : Go.Shelf.Ren := ⟨fun | 6 => 65 | 15 => 72 | 14 => 71 | 28 => 82 | 29 => 83 | 20 => 74 | 21 => 75 | 22 => 76 | 23 => 77 | 24 => 78 | 25 => 79 | 26 => 80 | 27 => 81 | 46 => 84 | 47 => 85 | 48 => 86 | 49 => 87 | 50 => 88 | 57 => 89 | n => n, fun | 22 => 57 | 24 => 23 | 25 => 91 | 3 => 3 | 39 => 108 | 0 => 0 | 53 => 118 | 55 => 120 | 4 => 4 | 46 => 111 | 45 => 110 | 50 => 115 | 5 => 5 | 9 => 9 | 66 => 121 | 70 => 125 | 76 => 127 | 77 => 128 | n => n, fun | n => n⟩
open Try in
theorem Try.sortL65 : Go.Proofs.SlLaysF.n6 Try.prog Try.sortL65_ren := {
  mixed := by kernel_rfl
  f6 := lg func65 rfl (by kernel_rfl)
  f14 := lg func71 rfl (by kernel_rfl)
  f15 := lf func72 (by kernel_rfl)
  f20 := lg func74 rfl (by kernel_rfl)
  f21 := lg func75 rfl (by kernel_rfl)
  f22 := lg func76 rfl (by kernel_rfl)
  f23 := lg func77 rfl (by kernel_rfl)
  f24 := lg func78 rfl (by kernel_rfl)
  f25 := lg func79 rfl (by kernel_rfl)
  f26 := lg func80 rfl (by kernel_rfl)
  f27 := lg func81 rfl (by kernel_rfl)
  f28 := lf func82 (by kernel_rfl)
  f29 := lf func83 (by kernel_rfl)
  f46 := lg func84 rfl (by kernel_rfl)
  f47 := lf func85 (by kernel_rfl)
  f48 := lf func86 (by kernel_rfl)
  f49 := lg func87 rfl (by kernel_rfl)
  f50 := lg func88 rfl (by kernel_rfl)
  f57 := lg func89 rfl (by kernel_rfl)
  t0 := underlying0
  a0 := isAgg0
  z0 := sizeOf0
  v0 := zeroValue0
  t3 := underlying3
  a3 := isAgg3
  z3 := sizeOf3
  v3 := zeroValue3
  t4 := underlying4
  a4 := isAgg4
  z4 := sizeOf4
  v4 := zeroValue4
  t5 := underlying5
  a5 := isAgg5
  z5 := sizeOf5
  v5 := zeroValue5
  t9 := underlying9
  a9 := isAgg9
  z9 := sizeOf9
  v9 := zeroValue9
  t22 := underlying57
  a22 := isAgg57
  z22 := sizeOf57
  v22 := zeroValue57
  a24 := isAgg23
  z24 := sizeOf23
  t25 := underlying91
  a25 := isAgg91
  z25 := sizeOf91
  v25 := zeroValue91
  t39 := underlying108
  a39 := isAgg108
  z39 := sizeOf108
  v39 := zeroValue108
  t45 := underlying110
  a45 := isAgg110
  z45 := sizeOf110
  v45 := zeroValue110
  t46 := underlying111
  a46 := isAgg111
  z46 := sizeOf111
  v46 := zeroValue111
  t50 := underlying115
  a50 := isAgg115
  z50 := sizeOf115
  v50 := zeroValue115
  t53 := underlying118
  a53 := isAgg118
  z53 := sizeOf118
  v53 := zeroValue118
  t55 := underlying120
  a55 := isAgg120
  z55 := sizeOf120
  v55 := zeroValue120
  t66 := underlying121
  a66 := isAgg121
  z66 := sizeOf121
  v66 := zeroValue121
  t70 := underlying125
  a70 := isAgg125
  z70 := sizeOf125
  v70 := zeroValue125
  t76 := underlying127
  a76 := isAgg127
  z76 := sizeOf127
  v76 := zeroValue127
  t77 := underlying128
  a77 := isAgg128
  z77 := sizeOf128
  v77 := zeroValue128 }

/-- The function keeps the sort's contract. -/
theorem Try.sort65 : Go.Abs.Sort1 Try.prog 65 where
  fn := ⟨Try.f65, Try.func65, by kernel_rfl, by kernel_rfl⟩
  none := fun p cap fv w => AnyF.slices_SortFunc_none { Try.sortL65 with } p cap fv w
  sort := fun enc h1 cf hO g cb blk off cap d w eg hcmp hH hblk hsz => Any.slices_SortFunc Try.sortL65 enc h1 cf hO g cb blk off cap d w eg hcmp hH hblk hsz

end Go.Proofs
