/- slices.SortFunc and maps.Clone, by the library's contracts, at what this program sorts and copies. -/
import Derived.Test.YtgepgleagefmeabGreatAbsSound14
import Derived.Test.YtgepgleagefmeabGreatProg
import Derived.Shelf.SlSortCmp.NoneTotal
import Derived.Ground.SlsfProg
namespace Go.Proofs
open Go Go.Shelf Go.Sort
set_option maxRecDepth 100000
theorem Tryz.lf {P : Program} {f : FuncId} {A B : Func} (h : P.funcs[f]? = some A) (e : A = B) : P.funcs[f]? = some B := h.trans (congrArg some e)
theorem Tryz.lg {P : Program} {f : FuncId} {A B : Func} (h : P.funcs[f]? = some A) (n : (A.name == "runtime.NumGoroutine") = false) (e : A = { B with name := A.name }) : Bears P f B := ⟨A.name, n, h.trans (congrArg some e)⟩
def Tryz.sortL37_ren : Go.Shelf.Ren := ⟨fun | 6 => 37 | 15 => 67 | 14 => 66 | 28 => 99 | 29 => 100 | 20 => 91 | 21 => 92 | 22 => 93 | 23 => 94 | 24 => 95 | 25 => 96 | 26 => 97 | 27 => 98 | 46 => 112 | 47 => 113 | 48 => 114 | 49 => 115 | 50 => 116 | 57 => 135 | n => n, fun | 22 => 42 | 24 => 29 | 25 => 62 | 3 => 3 | 39 => 92 | 0 => 0 | 53 => 128 | 55 => 130 | 4 => 4 | 46 => 122 | 45 => 121 | 50 => 115 | 5 => 5 | 9 => 9 | 66 => 148 | 70 => 152 | 76 => 166 | 77 => 167 | n => n, fun | n => n⟩
open Tryz in
theorem Tryz.sortL37 : Go.Proofs.SlLaysF.n6 Tryz.prog Tryz.sortL37_ren := {
  mixed := by kernel_rfl
  f6 := lg func37 rfl (by kernel_rfl)
  f14 := lg func66 rfl (by kernel_rfl)
  f15 := lf func67 (by kernel_rfl)
  f20 := lg func91 rfl (by kernel_rfl)
  f21 := lg func92 rfl (by kernel_rfl)
  f22 := lg func93 rfl (by kernel_rfl)
  f23 := lg func94 rfl (by kernel_rfl)
  f24 := lg func95 rfl (by kernel_rfl)
  f25 := lg func96 rfl (by kernel_rfl)
  f26 := lg func97 rfl (by kernel_rfl)
  f27 := lg func98 rfl (by kernel_rfl)
  f28 := lf func99 (by kernel_rfl)
  f29 := lf func100 (by kernel_rfl)
  f46 := lg func112 rfl (by kernel_rfl)
  f47 := lf func113 (by kernel_rfl)
  f48 := lf func114 (by kernel_rfl)
  f49 := lg func115 rfl (by kernel_rfl)
  f50 := lg func116 rfl (by kernel_rfl)
  f57 := lg func135 rfl (by kernel_rfl)
  t0 := underlying0
  a0 := isAgg0
  z0 := sizeOf0
  v0 := zeroValue0
  t3 := underlying3
  a3 := isAgg3
  z3 := sizeOf3
  v3 := zeroValue3
  t4 := underlying4
  a4 := isAgg4
  z4 := sizeOf4
  v4 := zeroValue4
  t5 := underlying5
  a5 := isAgg5
  z5 := sizeOf5
  v5 := zeroValue5
  t9 := underlying9
  a9 := isAgg9
  z9 := sizeOf9
  v9 := zeroValue9
  t22 := underlying42
  a22 := isAgg42
  z22 := sizeOf42
  v22 := zeroValue42
  a24 := isAgg29
  z24 := sizeOf29
  t25 := underlying62
  a25 := isAgg62
  z25 := sizeOf62
  v25 := zeroValue62
  t39 := underlying92
  a39 := isAgg92
  z39 := sizeOf92
  v39 := zeroValue92
  t45 := underlying121
  a45 := isAgg121
  z45 := sizeOf121
  v45 := zeroValue121
  t46 := underlying122
  a46 := isAgg122
  z46 := sizeOf122
  v46 := zeroValue122
  t50 := underlying115
  a50 := isAgg115
  z50 := sizeOf115
  v50 := zeroValue115
  t53 := underlying128
  a53 := isAgg128
  z53 := sizeOf128
  v53 := zeroValue128
  t55 := underlying130
  a55 := isAgg130
  z55 := sizeOf130
  v55 := zeroValue130
  t66 := underlying148
  a66 := isAgg148
  z66 := sizeOf148
  v66 := zeroValue148
  t70 := underlying152
  a70 := isAgg152
  z70 := sizeOf152
  v70 := zeroValue152
  t76 := underlying166
  a76 := isAgg166
  z76 := sizeOf166
  v76 := zeroValue166
  t77 := underlying167
  a77 := isAgg167
  z77 := sizeOf167
  v77 := zeroValue167 }
def Tryz.sortL69_ren : Go.Shelf.Ren := ⟨fun | 6 => 69 | 15 => 67 | 14 => 102 | 28 => 99 | 29 => 100 | 20 => 117 | 21 => 118 | 22 => 119 | 23 => 120 | 24 => 121 | 25 => 122 | 26 => 123 | 27 => 124 | 46 => 136 | 47 => 113 | 48 => 114 | 49 => 137 | 50 => 138 | 57 => 142 | n => n, fun | 22 => 30 | 24 => 82 | 25 => 97 | 3 => 3 | 39 => 92 | 0 => 0 | 53 => 128 | 55 => 130 | 4 => 4 | 46 => 122 | 45 => 121 | 50 => 115 | 5 => 5 | 9 => 9 | 66 => 148 | 70 => 152 | 76 => 166 | 77 => 167 | n => n, fun | n => n⟩
open Tryz in
theorem Tryz.sortL69 : Go.Proofs.SlLaysF0.n6 Tryz.prog Tryz.sortL69_ren := {
  mixed := by kernel_rfl
  f6 := lg func69 rfl (by kernel_rfl)
  f14 := lg func102 rfl (by kernel_rfl)
  f15 := lf func67 (by kernel_rfl)
  f20 := lg func117 rfl (by kernel_rfl)
  f21 := lg func118 rfl (by kernel_rfl)
  f22 := lg func119 rfl (by kernel_rfl)
  f23 := lg func120 rfl (by kernel_rfl)
  f24 := lg func121 rfl (by kernel_rfl)
  f25 := lg func122 rfl (by kernel_rfl)
  f26 := lg func123 rfl (by kernel_rfl)
  f27 := lg func124 rfl (by kernel_rfl)
  f28 := lf func99 (by kernel_rfl)
  f29 := lf func100 (by kernel_rfl)
  f46 := lg func136 rfl (by kernel_rfl)
  f47 := lf func113 (by kernel_rfl)
  f48 := lf func114 (by kernel_rfl)
  f49 := lg func137 rfl (by kernel_rfl)
  f50 := lg func138 rfl (by kernel_rfl)
  f57 := lg func142 rfl (by kernel_rfl)
  t0 := underlying0
  a0 := isAgg0
  z0 := sizeOf0
  v0 := zeroValue0
  t3 := underlying3
  a3 := isAgg3
  z3 := sizeOf3
  v3 := zeroValue3
  t4 := underlying4
  a4 := isAgg4
  z4 := sizeOf4
  v4 := zeroValue4
  t5 := underlying5
  a5 := isAgg5
  z5 := sizeOf5
  v5 := zeroValue5
  t9 := underlying9
  a9 := isAgg9
  z9 := sizeOf9
  v9 := zeroValue9
  t22 := underlying30
  a22 := isAgg30
  z22 := sizeOf30
  v22 := zeroValue30
  t25 := underlying97
  a25 := isAgg97
  z25 := sizeOf97
  v25 := zeroValue97
  t39 := underlying92
  a39 := isAgg92
  z39 := sizeOf92
  v39 := zeroValue92
  t45 := underlying121
  a45 := isAgg121
  z45 := sizeOf121
  v45 := zeroValue121
  t46 := underlying122
  a46 := isAgg122
  z46 := sizeOf122
  v46 := zeroValue122
  t50 := underlying115
  a50 := isAgg115
  z50 := sizeOf115
  v50 := zeroValue115
  t53 := underlying128
  a53 := isAgg128
  z53 := sizeOf128
  v53 := zeroValue128
  t55 := underlying130
  a55 := isAgg130
  z55 := sizeOf130
  v55 := zeroValue130
  t66 := underlying148
  a66 := isAgg148
  z66 := sizeOf148
  v66 := zeroValue148
  t70 := underlying152
  a70 := isAgg152
  z70 := sizeOf152
  v70 := zeroValue152
  t76 := underlying166
  a76 := isAgg166
  z76 := sizeOf166
  v76 := zeroValue166
  t77 := underlying167
  a77 := isAgg167
  z77 := sizeOf167
  v77 := zeroValue167 }
def Tryz.sortL75_ren : Go.Shelf.Ren := ⟨fun | 6 => 75 | 15 => 67 | 14 => 105 | 28 => 99 | 29 => 100 | 20 => 125 | 21 => 126 | 22 => 127 | 23 => 128 | 24 => 129 | 25 => 130 | 26 => 131 | 27 => 132 | 46 => 139 | 47 => 113 | 48 => 114 | 49 => 140 | 50 => 141 | 57 => 143 | n => n, fun | 22 => 24 | 24 => 32 | 25 => 99 | 3 => 3 | 39 => 92 | 0 => 0 | 53 => 128 | 55 => 130 | 4 => 4 | 46 => 122 | 45 => 121 | 50 => 115 | 5 => 5 | 9 => 9 | 66 => 148 | 70 => 152 | 76 => 166 | 77 => 167 | n => n, fun | n => n⟩
open Tryz in
theorem Tryz.sortL75 : Go.Proofs.SlLaysF0.n6 Tryz.prog Tryz.sortL75_ren := {
  mixed := by kernel_rfl
  f6 := lg func75 rfl (by kernel_rfl)
  f14 := lg func105 rfl (by kernel_rfl)
  f15 := lf func67 (by kernel_rfl)
  f20 := lg func125 rfl (by kernel_rfl)
  f21 := lg func126 rfl (by kernel_rfl)
  f22 := lg func127 rfl (by kernel_rfl)
  f23 := lg func128 rfl (by kernel_rfl)
  f24 := lg func129 rfl (by kernel_rfl)
  f25 := lg func130 rfl (by kernel_rfl)
  f26 := lg func131 rfl (by kernel_rfl)
  f27 := lg func132 rfl (by kernel_rfl)
  f28 := lf func99 (by kernel_rfl)
  f29 := lf func100 (by kernel_rfl)
  f46 := lg func139 rfl (by kernel_rfl)
  f47 := lf func113 (by kernel_rfl)
  f48 := lf func114 (by kernel_rfl)
  f49 := lg func140 rfl (by kernel_rfl)
  f50 := lg func141 rfl (by kernel_rfl)
  f57 := lg func143 rfl (by kernel_rfl)
  t0 := underlying0
  a0 := isAgg0
  z0 := sizeOf0
  v0 := zeroValue0
  t3 := underlying3
  a3 := isAgg3
  z3 := sizeOf3
  v3 := zeroValue3
  t4 := underlying4
  a4 := isAgg4
  z4 := sizeOf4
  v4 := zeroValue4
  t5 := underlying5
  a5 := isAgg5
  z5 := sizeOf5
  v5 := zeroValue5
  t9 := underlying9
  a9 := isAgg9
  z9 := sizeOf9
  v9 := zeroValue9
  t22 := underlying24
  a22 := isAgg24
  z22 := sizeOf24
  v22 := zeroValue24
  t25 := underlying99
  a25 := isAgg99
  z25 := sizeOf99
  v25 := zeroValue99
  t39 := underlying92
  a39 := isAgg92
  z39 := sizeOf92
  v39 := zeroValue92
  t45 := underlying121
  a45 := isAgg121
  z45 := sizeOf121
  v45 := zeroValue121
  t46 := underlying122
  a46 := isAgg122
  z46 := sizeOf122
  v46 := zeroValue122
  t50 := underlying115
  a50 := isAgg115
  z50 := sizeOf115
  v50 := zeroValue115
  t53 := underlying128
  a53 := isAgg128
  z53 := sizeOf128
  v53 := zeroValue128
  t55 := underlying130
  a55 := isAgg130
  z55 := sizeOf130
  v55 := zeroValue130
  t66 := underlying148
  a66 := isAgg148
  z66 := sizeOf148
  v66 := zeroValue148
  t70 := underlying152
  a70 := isAgg152
  z70 := sizeOf152
  v70 := zeroValue152
  t76 := underlying166
  a76 := isAgg166
  z76 := sizeOf166
  v76 := zeroValue166
  t77 := underlying167
  a77 := isAgg167
  z77 := sizeOf167
  v77 := zeroValue167 }
theorem Tryz.agg82 (w:World):(isAgg 82).run Tryz.prog w=.ok true w:=by kernel_rfl
theorem Tryz.size82 (w:World):(Go.sizeOf 82).run Tryz.prog w=.ok 3 w:=by kernel_rfl
theorem Tryz.agg32 (w:World):(isAgg 32).run Tryz.prog w=.ok true w:=by kernel_rfl
theorem Tryz.size32 (w:World):(Go.sizeOf 32).run Tryz.prog w=.ok 2 w:=by kernel_rfl
theorem Tryz.sort37:Go.Abs.Sort1 Tryz.prog 37 where
  fn:=⟨Tryz.f37,Tryz.func37,by kernel_rfl,by kernel_rfl⟩
  none:=fun p cap fv w=>AnyF.slices_SortFunc_none { Tryz.sortL37 with } p cap fv w
  sort:=fun enc h1 cf hO g cb blk off cap d w eg hcmp hH hblk hsz=>Any.slices_SortFunc Tryz.sortL37 enc h1 cf hO g cb blk off cap d w eg hcmp hH hblk hsz
theorem Tryz.sortN69:Go.Abs.SortN Tryz.prog 69 3 where
  fn:=⟨Tryz.f69,Tryz.func69,by kernel_rfl,by kernel_rfl⟩
  none:=fun p cap fv w=>AnyF.slices_SortFunc_none Tryz.sortL69 p cap fv w
  sort:=fun enc hk h1 cf hO g cb blk off cap d w eg hcmp hH hblk hsz=>AnyQ.slices_SortFunc Tryz.sortL69 3 Tryz.agg82 Tryz.size82 enc hk h1 cf hO g cb blk off cap d w eg hcmp hH hblk hsz
theorem Tryz.sortN75:Go.Abs.SortN Tryz.prog 75 2 where
  fn:=⟨Tryz.f75,Tryz.func75,by kernel_rfl,by kernel_rfl⟩
  none:=fun p cap fv w=>AnyF.slices_SortFunc_none Tryz.sortL75 p cap fv w
  sort:=fun enc hk h1 cf hO g cb blk off cap d w eg hcmp hH hblk hsz=>AnyQ.slices_SortFunc Tryz.sortL75 2 Tryz.agg32 Tryz.size32 enc hk h1 cf hO g cb blk off cap d w eg hcmp hH hblk hsz
end Go.Proofs
