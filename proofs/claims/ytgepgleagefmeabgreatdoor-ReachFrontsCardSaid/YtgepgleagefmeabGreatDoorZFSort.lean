/- slices.SortFunc and maps.Clone, by the library's contracts, at what this program sorts and copies. -/
import Derived.Test.YtgepgleagefmeabGreatDoorAbsSound14
import Derived.Test.YtgepgleagefmeabGreatDoorProg
import Derived.Shelf.SlSortCmp.NoneTotal
import Derived.Ground.SlsfProg
namespace Go.Proofs
open Go Go.Shelf Go.Sort
set_option maxRecDepth 100000
theorem Tryz.lf {P : Program} {f : FuncId} {A B : Func} (h : P.funcs[f]? = some A) (e : A = B) : P.funcs[f]? = some B := h.trans (congrArg some e)
theorem Tryz.lg {P : Program} {f : FuncId} {A B : Func} (h : P.funcs[f]? = some A) (n : (A.name== "runtime.NumGoroutine") = false) (e : A = { B with name := A.name }) : Bears P f B := ⟨A.name, n, h.trans (congrArg some e)⟩
def Tryz.sortL155_ren : Go.Shelf.Ren := ⟨fun | 6 => 155 | 15 => 149 | 14 => 192 | 28 => 189 | 29 => 190 | 20 => 220 | 21 => 221 | 22 => 222 | 23 => 223 | 24 => 224 | 25 => 225 | 26 => 226 | 27 => 227 | 46 => 245 | 47 => 216 | 48 => 217 | 49 => 246 | 50 => 247 | 57 => 253 | n => n, fun | 22 => 123 | 24 => 125 | 25 => 266 | 3 => 3 | 39 => 261 | 0 => 0 | 53 => 246 | 55 => 279 | 4 => 4 | 46 => 290 | 45 => 289 | 50 => 245 | 5 => 5 | 9 => 9 | 66 => 324 | 70 => 268 | 76 => 345 | 77 => 346 | n => n, fun | n => n⟩
open Tryz in
theorem Tryz.sortL155 : Go.Proofs.SlLaysF0.n6 Tryz.prog Tryz.sortL155_ren := {
 mixed := by kernel_rfl
 f6 := lg func155 rfl (by kernel_rfl)
 f14 := lg func192 rfl (by kernel_rfl)
 f15 := lf func149 (by kernel_rfl)
 f20 := lg func220 rfl (by kernel_rfl)
 f21 := lg func221 rfl (by kernel_rfl)
 f22 := lg func222 rfl (by kernel_rfl)
 f23 := lg func223 rfl (by kernel_rfl)
 f24 := lg func224 rfl (by kernel_rfl)
 f25 := lg func225 rfl (by kernel_rfl)
 f26 := lg func226 rfl (by kernel_rfl)
 f27 := lg func227 rfl (by kernel_rfl)
 f28 := lf func189 (by kernel_rfl)
 f29 := lf func190 (by kernel_rfl)
 f46 := lg func245 rfl (by kernel_rfl)
 f47 := lf func216 (by kernel_rfl)
 f48 := lf func217 (by kernel_rfl)
 f49 := lg func246 rfl (by kernel_rfl)
 f50 := lg func247 rfl (by kernel_rfl)
 f57 := lg func253 rfl (by kernel_rfl)
 t0 := underlying0
 a0 := isAgg0
 z0 := sizeOf0
 v0 := zeroValue0
 t3 := underlying3
 a3 := isAgg3
 z3 := sizeOf3
 v3 := zeroValue3
 t4 := underlying4
 a4 := isAgg4
 z4 := sizeOf4
 v4 := zeroValue4
 t5 := underlying5
 a5 := isAgg5
 z5 := sizeOf5
 v5 := zeroValue5
 t9 := underlying9
 a9 := isAgg9
 z9 := sizeOf9
 v9 := zeroValue9
 t22 := underlying123
 a22 := isAgg123
 z22 := sizeOf123
 v22 := zeroValue123
 t25 := underlying266
 a25 := isAgg266
 z25 := sizeOf266
 v25 := zeroValue266
 t39 := underlying261
 a39 := isAgg261
 z39 := sizeOf261
 v39 := zeroValue261
 t45 := underlying289
 a45 := isAgg289
 z45 := sizeOf289
 v45 := zeroValue289
 t46 := underlying290
 a46 := isAgg290
 z46 := sizeOf290
 v46 := zeroValue290
 t50 := underlying245
 a50 := isAgg245
 z50 := sizeOf245
 v50 := zeroValue245
 t53 := underlying246
 a53 := isAgg246
 z53 := sizeOf246
 v53 := zeroValue246
 t55 := underlying279
 a55 := isAgg279
 z55 := sizeOf279
 v55 := zeroValue279
 t66 := underlying324
 a66 := isAgg324
 z66 := sizeOf324
 v66 := zeroValue324
 t70 := underlying268
 a70 := isAgg268
 z70 := sizeOf268
 v70 := zeroValue268
 t76 := underlying345
 a76 := isAgg345
 z76 := sizeOf345
 v76 := zeroValue345
 t77 := underlying346
 a77 := isAgg346
 z77 := sizeOf346
 v77 := zeroValue346 }
def Tryz.sortL166_ren : Go.Shelf.Ren := ⟨fun | 6 => 166 | 15 => 149 | 14 => 193 | 28 => 189 | 29 => 190 | 20 => 228 | 21 => 229 | 22 => 230 | 23 => 231 | 24 => 232 | 25 => 233 | 26 => 234 | 27 => 235 | 46 => 248 | 47 => 216 | 48 => 217 | 49 => 249 | 50 => 250 | 57 => 254 | n => n, fun | 22 => 122 | 24 => 29 | 25 => 222 | 3 => 3 | 39 => 261 | 0 => 0 | 53 => 246 | 55 => 279 | 4 => 4 | 46 => 290 | 45 => 289 | 50 => 245 | 5 => 5 | 9 => 9 | 66 => 324 | 70 => 268 | 76 => 345 | 77 => 346 | n => n, fun | n => n⟩
open Tryz in
theorem Tryz.sortL166 : Go.Proofs.SlLaysF.n6 Tryz.prog Tryz.sortL166_ren := {
 mixed := by kernel_rfl
 f6 := lg func166 rfl (by kernel_rfl)
 f14 := lg func193 rfl (by kernel_rfl)
 f15 := lf func149 (by kernel_rfl)
 f20 := lg func228 rfl (by kernel_rfl)
 f21 := lg func229 rfl (by kernel_rfl)
 f22 := lg func230 rfl (by kernel_rfl)
 f23 := lg func231 rfl (by kernel_rfl)
 f24 := lg func232 rfl (by kernel_rfl)
 f25 := lg func233 rfl (by kernel_rfl)
 f26 := lg func234 rfl (by kernel_rfl)
 f27 := lg func235 rfl (by kernel_rfl)
 f28 := lf func189 (by kernel_rfl)
 f29 := lf func190 (by kernel_rfl)
 f46 := lg func248 rfl (by kernel_rfl)
 f47 := lf func216 (by kernel_rfl)
 f48 := lf func217 (by kernel_rfl)
 f49 := lg func249 rfl (by kernel_rfl)
 f50 := lg func250 rfl (by kernel_rfl)
 f57 := lg func254 rfl (by kernel_rfl)
 t0 := underlying0
 a0 := isAgg0
 z0 := sizeOf0
 v0 := zeroValue0
 t3 := underlying3
 a3 := isAgg3
 z3 := sizeOf3
 v3 := zeroValue3
 t4 := underlying4
 a4 := isAgg4
 z4 := sizeOf4
 v4 := zeroValue4
 t5 := underlying5
 a5 := isAgg5
 z5 := sizeOf5
 v5 := zeroValue5
 t9 := underlying9
 a9 := isAgg9
 z9 := sizeOf9
 v9 := zeroValue9
 t22 := underlying122
 a22 := isAgg122
 z22 := sizeOf122
 v22 := zeroValue122
 a24 := isAgg29
 z24 := sizeOf29
 t25 := underlying222
 a25 := isAgg222
 z25 := sizeOf222
 v25 := zeroValue222
 t39 := underlying261
 a39 := isAgg261
 z39 := sizeOf261
 v39 := zeroValue261
 t45 := underlying289
 a45 := isAgg289
 z45 := sizeOf289
 v45 := zeroValue289
 t46 := underlying290
 a46 := isAgg290
 z46 := sizeOf290
 v46 := zeroValue290
 t50 := underlying245
 a50 := isAgg245
 z50 := sizeOf245
 v50 := zeroValue245
 t53 := underlying246
 a53 := isAgg246
 z53 := sizeOf246
 v53 := zeroValue246
 t55 := underlying279
 a55 := isAgg279
 z55 := sizeOf279
 v55 := zeroValue279
 t66 := underlying324
 a66 := isAgg324
 z66 := sizeOf324
 v66 := zeroValue324
 t70 := underlying268
 a70 := isAgg268
 z70 := sizeOf268
 v70 := zeroValue268
 t76 := underlying345
 a76 := isAgg345
 z76 := sizeOf345
 v76 := zeroValue345
 t77 := underlying346
 a77 := isAgg346
 z77 := sizeOf346
 v77 := zeroValue346 }
theorem Tryz.agg125 (w:World):(isAgg 125).run Tryz.prog w=.ok true w:=by kernel_rfl
theorem Tryz.size125 (w:World):(Go.sizeOf 125).run Tryz.prog w=.ok 3 w:=by kernel_rfl
theorem Tryz.sortN155:Go.Abs.SortN Tryz.prog 155 3 where
 fn:=⟨Tryz.f155,Tryz.func155,by kernel_rfl,by kernel_rfl⟩
 none:=fun p cap fv w=>AnyF.slices_SortFunc_none Tryz.sortL155 p cap fv w
 sort:=fun enc hk h1 cf hO g cb blk off cap d w eg hcmp hH hblk hsz=>AnyQ.slices_SortFunc Tryz.sortL155 3 Tryz.agg125 Tryz.size125 enc hk h1 cf hO g cb blk off cap d w eg hcmp hH hblk hsz
theorem Tryz.sort166:Go.Abs.Sort1 Tryz.prog 166 where
 fn:=⟨Tryz.f166,Tryz.func166,by kernel_rfl,by kernel_rfl⟩
 none:=fun p cap fv w=>AnyF.slices_SortFunc_none { Tryz.sortL166 with } p cap fv w
 sort:=fun enc h1 cf hO g cb blk off cap d w eg hcmp hH hblk hsz=>Any.slices_SortFunc Tryz.sortL166 enc h1 cf hO g cb blk off cap d w eg hcmp hH hblk hsz
end Go.Proofs
