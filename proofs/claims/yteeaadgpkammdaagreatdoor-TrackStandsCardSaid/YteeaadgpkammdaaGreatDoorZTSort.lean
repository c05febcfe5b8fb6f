/- slices.SortFunc and maps.Clone, by the library's contracts, at what this program sorts and copies. -/
import Derived.Test.YteeaadgpkammdaaGreatDoorAbsSound14
import Derived.Test.YteeaadgpkammdaaGreatDoorProg
import Derived.Shelf.SlSortCmp.NoneTotal
import Derived.Ground.SlsfProg
namespace Go.Proofs
open Go Go.Shelf Go.Sort
set_option maxRecDepth 100000
theorem Tryz.lf {P : Program} {f : FuncId} {A B : Func} (h : P.funcs[f]? = some A) (e : A = B) : P.funcs[f]? = some B := h.trans (congrArg some e)
theorem Tryz.lg {P : Program} {f : FuncId} {A B : Func} (h : P.funcs[f]? = some A) (n : (A.name== "runtime.NumGoroutine") = false) (e : A = { B with name := A.name }) : Bears P f B := ⟨A.name, n, h.trans (congrArg some e)⟩
def Tryz.sortL89_ren : Go.Shelf.Ren := ⟨fun | 6 => 89 | 15 => 114 | 14 => 128 | 28 => 145 | 29 => 146 | 20 => 149 | 21 => 150 | 22 => 151 | 23 => 152 | 24 => 153 | 25 => 154 | 26 => 155 | 27 => 156 | 46 => 181 | 47 => 169 | 48 => 170 | 49 => 182 | 50 => 183 | 57 => 192 | n => n, fun | 22 => 41 | 24 => 108 | 25 => 176 | 3 => 3 | 39 => 201 | 0 => 0 | 53 => 186 | 55 => 214 | 4 => 4 | 46 => 225 | 45 => 224 | 50 => 185 | 5 => 5 | 9 => 9 | 66 => 256 | 70 => 208 | 76 => 272 | 77 => 273 | n => n, fun | n => n⟩
open Tryz in
theorem Tryz.sortL89 : Go.Proofs.SlLaysF0.n6 Tryz.prog Tryz.sortL89_ren := {
 mixed := by kernel_rfl
 f6 := lg func89 rfl (by kernel_rfl)
 f14 := lg func128 rfl (by kernel_rfl)
 f15 := lf func114 (by kernel_rfl)
 f20 := lg func149 rfl (by kernel_rfl)
 f21 := lg func150 rfl (by kernel_rfl)
 f22 := lg func151 rfl (by kernel_rfl)
 f23 := lg func152 rfl (by kernel_rfl)
 f24 := lg func153 rfl (by kernel_rfl)
 f25 := lg func154 rfl (by kernel_rfl)
 f26 := lg func155 rfl (by kernel_rfl)
 f27 := lg func156 rfl (by kernel_rfl)
 f28 := lf func145 (by kernel_rfl)
 f29 := lf func146 (by kernel_rfl)
 f46 := lg func181 rfl (by kernel_rfl)
 f47 := lf func169 (by kernel_rfl)
 f48 := lf func170 (by kernel_rfl)
 f49 := lg func182 rfl (by kernel_rfl)
 f50 := lg func183 rfl (by kernel_rfl)
 f57 := lg func192 rfl (by kernel_rfl)
 t0 := underlying0
 a0 := isAgg0
 z0 := sizeOf0
 v0 := zeroValue0
 t3 := underlying3
 a3 := isAgg3
 z3 := sizeOf3
 v3 := zeroValue3
 t4 := underlying4
 a4 := isAgg4
 z4 := sizeOf4
 v4 := zeroValue4
 t5 := underlying5
 a5 := isAgg5
 z5 := sizeOf5
 v5 := zeroValue5
 t9 := underlying9
 a9 := isAgg9
 z9 := sizeOf9
 v9 := zeroValue9
 t22 := underlying41
 a22 := isAgg41
 z22 := sizeOf41
 v22 := zeroValue41
 t25 := underlying176
 a25 := isAgg176
 z25 := sizeOf176
 v25 := zeroValue176
 t39 := underlying201
 a39 := isAgg201
 z39 := sizeOf201
 v39 := zeroValue201
 t45 := underlying224
 a45 := isAgg224
 z45 := sizeOf224
 v45 := zeroValue224
 t46 := underlying225
 a46 := isAgg225
 z46 := sizeOf225
 v46 := zeroValue225
 t50 := underlying185
 a50 := isAgg185
 z50 := sizeOf185
 v50 := zeroValue185
 t53 := underlying186
 a53 := isAgg186
 z53 := sizeOf186
 v53 := zeroValue186
 t55 := underlying214
 a55 := isAgg214
 z55 := sizeOf214
 v55 := zeroValue214
 t66 := underlying256
 a66 := isAgg256
 z66 := sizeOf256
 v66 := zeroValue256
 t70 := underlying208
 a70 := isAgg208
 z70 := sizeOf208
 v70 := zeroValue208
 t76 := underlying272
 a76 := isAgg272
 z76 := sizeOf272
 v76 := zeroValue272
 t77 := underlying273
 a77 := isAgg273
 z77 := sizeOf273
 v77 := zeroValue273 }
def Tryz.sortL120_ren : Go.Shelf.Ren := ⟨fun | 6 => 120 | 15 => 114 | 14 => 148 | 28 => 145 | 29 => 146 | 20 => 173 | 21 => 174 | 22 => 175 | 23 => 176 | 24 => 177 | 25 => 178 | 26 => 179 | 27 => 180 | 46 => 189 | 47 => 169 | 48 => 170 | 49 => 190 | 50 => 191 | 57 => 201 | n => n, fun | 22 => 116 | 24 => 118 | 25 => 206 | 3 => 3 | 39 => 201 | 0 => 0 | 53 => 186 | 55 => 214 | 4 => 4 | 46 => 225 | 45 => 224 | 50 => 185 | 5 => 5 | 9 => 9 | 66 => 256 | 70 => 208 | 76 => 272 | 77 => 273 | n => n, fun | n => n⟩
open Tryz in
theorem Tryz.sortL120 : Go.Proofs.SlLaysF0.n6 Tryz.prog Tryz.sortL120_ren := { Tryz.sortL89 with
 mixed := by kernel_rfl
 f6 := lg func120 rfl (by kernel_rfl)
 f14 := lg func148 rfl (by kernel_rfl)
 f15 := lf func114 (by kernel_rfl)
 f20 := lg func173 rfl (by kernel_rfl)
 f21 := lg func174 rfl (by kernel_rfl)
 f22 := lg func175 rfl (by kernel_rfl)
 f23 := lg func176 rfl (by kernel_rfl)
 f24 := lg func177 rfl (by kernel_rfl)
 f25 := lg func178 rfl (by kernel_rfl)
 f26 := lg func179 rfl (by kernel_rfl)
 f27 := lg func180 rfl (by kernel_rfl)
 f28 := lf func145 (by kernel_rfl)
 f29 := lf func146 (by kernel_rfl)
 f46 := lg func189 rfl (by kernel_rfl)
 f47 := lf func169 (by kernel_rfl)
 f48 := lf func170 (by kernel_rfl)
 f49 := lg func190 rfl (by kernel_rfl)
 f50 := lg func191 rfl (by kernel_rfl)
 f57 := lg func201 rfl (by kernel_rfl)
 t22 := underlying116
 a22 := isAgg116
 z22 := sizeOf116
 v22 := zeroValue116
 t25 := underlying206
 a25 := isAgg206
 z25 := sizeOf206
 v25 := zeroValue206 }
def Tryz.sortL161_ren : Go.Shelf.Ren := ⟨fun | 6 => 161 | 15 => 114 | 14 => 184 | 28 => 145 | 29 => 146 | 20 => 193 | 21 => 194 | 22 => 195 | 23 => 196 | 24 => 197 | 25 => 198 | 26 => 199 | 27 => 200 | 46 => 202 | 47 => 169 | 48 => 170 | 49 => 203 | 50 => 204 | 57 => 205 | n => n, fun | 22 => 110 | 24 => 29 | 25 => 175 | 3 => 3 | 39 => 201 | 0 => 0 | 53 => 186 | 55 => 214 | 4 => 4 | 46 => 225 | 45 => 224 | 50 => 185 | 5 => 5 | 9 => 9 | 66 => 256 | 70 => 208 | 76 => 272 | 77 => 273 | n => n, fun | n => n⟩
open Tryz in
theorem Tryz.sortL161 : Go.Proofs.SlLaysF.n6 Tryz.prog Tryz.sortL161_ren := { Tryz.sortL89 with
 mixed := by kernel_rfl
 f6 := lg func161 rfl (by kernel_rfl)
 f14 := lg func184 rfl (by kernel_rfl)
 f15 := lf func114 (by kernel_rfl)
 f20 := lg func193 rfl (by kernel_rfl)
 f21 := lg func194 rfl (by kernel_rfl)
 f22 := lg func195 rfl (by kernel_rfl)
 f23 := lg func196 rfl (by kernel_rfl)
 f24 := lg func197 rfl (by kernel_rfl)
 f25 := lg func198 rfl (by kernel_rfl)
 f26 := lg func199 rfl (by kernel_rfl)
 f27 := lg func200 rfl (by kernel_rfl)
 f28 := lf func145 (by kernel_rfl)
 f29 := lf func146 (by kernel_rfl)
 f46 := lg func202 rfl (by kernel_rfl)
 f47 := lf func169 (by kernel_rfl)
 f48 := lf func170 (by kernel_rfl)
 f49 := lg func203 rfl (by kernel_rfl)
 f50 := lg func204 rfl (by kernel_rfl)
 f57 := lg func205 rfl (by kernel_rfl)
 t22 := underlying110
 a22 := isAgg110
 z22 := sizeOf110
 v22 := zeroValue110
 a24 := isAgg29
 z24 := sizeOf29
 t25 := underlying175
 a25 := isAgg175
 z25 := sizeOf175
 v25 := zeroValue175 }
theorem Tryz.agg108 (w:World):(isAgg 108).run Tryz.prog w=.ok true w:=by kernel_rfl
theorem Tryz.size108 (w:World):(Go.sizeOf 108).run Tryz.prog w=.ok 3 w:=by kernel_rfl
theorem Tryz.agg118 (w:World):(isAgg 118).run Tryz.prog w=.ok true w:=by kernel_rfl
theorem Tryz.size118 (w:World):(Go.sizeOf 118).run Tryz.prog w=.ok 3 w:=by kernel_rfl
theorem Tryz.sortN89:Go.Abs.SortN Tryz.prog 89 3 where
 fn:=⟨Tryz.f89,Tryz.func89,by kernel_rfl,by kernel_rfl⟩
 none:=fun p cap fv w=>AnyF.slices_SortFunc_none Tryz.sortL89 p cap fv w
 sort:=fun enc hk h1 cf hO g cb blk off cap d w eg hcmp hH hblk hsz=>AnyQ.slices_SortFunc Tryz.sortL89 3 Tryz.agg108 Tryz.size108 enc hk h1 cf hO g cb blk off cap d w eg hcmp hH hblk hsz
theorem Tryz.sortN120:Go.Abs.SortN Tryz.prog 120 3 where
 fn:=⟨Tryz.f120,Tryz.func120,by kernel_rfl,by kernel_rfl⟩
 none:=fun p cap fv w=>AnyF.slices_SortFunc_none Tryz.sortL120 p cap fv w
 sort:=fun enc hk h1 cf hO g cb blk off cap d w eg hcmp hH hblk hsz=>AnyQ.slices_SortFunc Tryz.sortL120 3 Tryz.agg118 Tryz.size118 enc hk h1 cf hO g cb blk off cap d w eg hcmp hH hblk hsz
theorem Tryz.sort161:Go.Abs.Sort1 Tryz.prog 161 where
 fn:=⟨Tryz.f161,Tryz.func161,by kernel_rfl,by kernel_rfl⟩
 none:=fun p cap fv w=>AnyF.slices_SortFunc_none { Tryz.sortL161 with } p cap fv w
 sort:=fun enc h1 cf hO g cb blk off cap d w eg hcmp hH hblk hsz=>Any.slices_SortFunc Tryz.sortL161 enc h1 cf hO g cb blk off cap d w eg hcmp hH hblk hsz
end Go.Proofs
