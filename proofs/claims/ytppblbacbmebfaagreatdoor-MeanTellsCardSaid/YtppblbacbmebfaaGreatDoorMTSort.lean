/- slices.SortFunc, by the library's contract, at what this program sorts; the closure that mean.At defers. -/
import Derived.Test.YtppblbacbmebfaaGreatDoorAbsFn2
import Derived.Test.YtppblbacbmebfaaGreatDoorProg
import Derived.Shelf.SlSortCmp.NoneTotal
import Derived.Ground.SlsfProg
import Derived.Tactics
import Derived.Tactics2
import Derived.RecoverIn
import Derived.WalkKit
namespace Go.Proofs
open Go Go.Shelf Go.Sort
set_option maxRecDepth 100000
theorem Tryz.lf {P : Program} {f : FuncId} {A B : Func} (h : P.funcs[f]? = some A) (e : A = B) : P.funcs[f]? = some B := h.trans (congrArg some e)
theorem Tryz.lg {P : Program} {f : FuncId} {A B : Func} (h : P.funcs[f]? = some A) (n : (A.name == "runtime.NumGoroutine") = false) (e : A = { B with name := A.name }) : Bears P f B := ⟨A.name, n, h.trans (congrArg some e)⟩
def Tryz.sortL45_ren : Go.Shelf.Ren := ⟨fun | 6 => 45 | 15 => 72 | 14 => 71 | 28 => 91 | 29 => 92 | 20 => 83 | 21 => 84 | 22 => 85 | 23 => 86 | 24 => 87 | 25 => 88 | 26 => 89 | 27 => 90 | 46 => 96 | 47 => 97 | 48 => 98 | 49 => 99 | 50 => 100 | 57 => 103 | n => n, fun | 22 => 34 | 24 => 74 | 25 => 106 | 3 => 3 | 39 => 137 | 0 => 0 | 53 => 121 | 55 => 146 | 4 => 4 | 46 => 157 | 45 => 156 | 50 => 120 | 5 => 5 | 9 => 9 | 66 => 174 | 70 => 178 | 76 => 182 | 77 => 183 | n => n, fun | n => n⟩
open Tryz in
theorem Tryz.sortL45 : Go.Proofs.SlLaysF0.n6 Tryz.prog Tryz.sortL45_ren := {
  mixed := by kernel_rfl
  f6 := lg func45 rfl (by kernel_rfl)
  f14 := lg func71 rfl (by kernel_rfl)
  f15 := lf func72 (by kernel_rfl)
  f20 := lg func83 rfl (by kernel_rfl)
  f21 := lg func84 rfl (by kernel_rfl)
  f22 := lg func85 rfl (by kernel_rfl)
  f23 := lg func86 rfl (by kernel_rfl)
  f24 := lg func87 rfl (by kernel_rfl)
  f25 := lg func88 rfl (by kernel_rfl)
  f26 := lg func89 rfl (by kernel_rfl)
  f27 := lg func90 rfl (by kernel_rfl)
  f28 := lf func91 (by kernel_rfl)
  f29 := lf func92 (by kernel_rfl)
  f46 := lg func96 rfl (by kernel_rfl)
  f47 := lf func97 (by kernel_rfl)
  f48 := lf func98 (by kernel_rfl)
  f49 := lg func99 rfl (by kernel_rfl)
  f50 := lg func100 rfl (by kernel_rfl)
  f57 := lg func103 rfl (by kernel_rfl)
  t0 := underlying0
  a0 := isAgg0
  z0 := sizeOf0
  v0 := zeroValue0
  t3 := underlying3
  a3 := isAgg3
  z3 := sizeOf3
  v3 := zeroValue3
  t4 := underlying4
  a4 := isAgg4
  z4 := sizeOf4
  v4 := zeroValue4
  t5 := underlying5
  a5 := isAgg5
  z5 := sizeOf5
  v5 := zeroValue5
  t9 := underlying9
  a9 := isAgg9
  z9 := sizeOf9
  v9 := zeroValue9
  t22 := underlying34
  a22 := isAgg34
  z22 := sizeOf34
  v22 := zeroValue34
  t25 := underlying106
  a25 := isAgg106
  z25 := sizeOf106
  v25 := zeroValue106
  t39 := underlying137
  a39 := isAgg137
  z39 := sizeOf137
  v39 := zeroValue137
  t45 := underlying156
  a45 := isAgg156
  z45 := sizeOf156
  v45 := zeroValue156
  t46 := underlying157
  a46 := isAgg157
  z46 := sizeOf157
  v46 := zeroValue157
  t50 := underlying120
  a50 := isAgg120
  z50 := sizeOf120
  v50 := zeroValue120
  t53 := underlying121
  a53 := isAgg121
  z53 := sizeOf121
  v53 := zeroValue121
  t55 := underlying146
  a55 := isAgg146
  z55 := sizeOf146
  v55 := zeroValue146
  t66 := underlying174
  a66 := isAgg174
  z66 := sizeOf174
  v66 := zeroValue174
  t70 := underlying178
  a70 := isAgg178
  z70 := sizeOf178
  v70 := zeroValue178
  t76 := underlying182
  a76 := isAgg182
  z76 := sizeOf182
  v76 := zeroValue182
  t77 := underlying183
  a77 := isAgg183
  z77 := sizeOf183
  v77 := zeroValue183 }
theorem Tryz.agg74 (w:World):(isAgg 74).run Tryz.prog w=.ok true w:=by kernel_rfl
theorem Tryz.size74 (w:World):(Go.sizeOf 74).run Tryz.prog w=.ok 3 w:=by kernel_rfl
theorem Tryz.sortN45:Go.Abs.SortN Tryz.prog 45 3 where
 fn:=⟨Tryz.f45,Tryz.func45,by kernel_rfl,by kernel_rfl⟩
 none:=fun p cap fv w=>AnyF.slices_SortFunc_none Tryz.sortL45 p cap fv w
 sort:=fun enc hk h1 cf hO g cb blk off cap d w eg hcmp hH hblk hsz=>AnyQ.slices_SortFunc Tryz.sortL45 3 Tryz.agg74 Tryz.size74 enc hk h1 cf hO g cb blk off cap d w eg hcmp hH hblk hsz
namespace Tryz
open Go Go.Abs Go.Lib
theorem j3i {w:World} {a:Addr} {c:Array Value} {ty:TypeId} (hs:a.spot=none) (h:w.heap[a.block]? = some (.cells c ty (0,0))) (hlt:a.off<c.size):(∃ v,w.cell? a=some v)/\w.frozen? a=false:=by
 obtain⟨b,o,s⟩:=a
 simp only at hs h hlt
 subst hs
 refine⟨⟨c[o],by simp[World.cell?,h,hlt]⟩,?_⟩
 simp[World.frozen?,h]
theorem y6z (p q:Addr) (w:World) (m:Nat):CallsDIn (Fr none) m prog 16 #[.pointer (some p),.pointer (some q)] .returning w fun e u w'=>(∃ v,e=.returned v)/\u=.returning/\w'=w:=by
 refine callsDIn_of_wpSIn func16 rfl trivial fun c₀ cs hu=>?_
 apply wpSIn_seq
 apply wpSIn_region
 simp[wpOpsSIn,go_sem,recoverD,hu,ntmps16,Exit.thenS,Fr]
 apply wpSIn_seq
 apply wpSIn_region
 simp[wpOpsSIn,go_sem,Exit.thenS]
 refine wpSIn_cond (t:=false) (by simp[Act.eval]) ?_
 simp only[Bool.false_eq_true,if_false]
 refine wpSIn_of_wpIn rfl (wpIn_skip ?_)
 cases c₀
 simp_all [bodyPostS,results,results16]
theorem y3a (w:World):(Instr.typeAssert (.iface 49 (.agg #[])) 20 49 true).run prog w=.ok (.tuple #[.agg #[],.bool true]) w:=by kernel_rfl
theorem y3l (p q:Addr) (w:World) (m:Nat) {x y:Value} (hp:w.cell? p=some x) (hpf:w.frozen? p=false) (hq:w.cell? q=some y) (hqf:w.frozen? q=false) :
  CallsDIn (Fr none) m prog 16 #[.pointer (some p),.pointer (some q)] (.panicking [pv 49]) w fun e u w'=>(∃ v,e=.returned v)/\u=.panicking [{ pv 49 with recovered:=true }]/\w'=((w.alloc (.cells #[] 49)).setCell p (.slice none 0 0)).setCell q (.int .i64 1):=by
 refine callsDIn_of_wpSIn func16 rfl trivial fun c₀ cs hu=>?_
 apply wpSIn_seq
 apply wpSIn_region
 simp[wpOpsSIn,go_sem,recoverD,hu,ntmps16,Exit.thenS,Fr,pv]
 apply wpSIn_seq
 apply wpSIn_region
 simp[wpOpsSIn,go_sem,Exit.thenS]
 refine wpSIn_cond (t:=true) (by simp[Act.eval]) ?_
 simp only[if_true]
 apply wpSIn_seq
 apply wpSIn_seq
 apply wpSIn_region
 simp[wpOpsSIn,go_sem,Exit.thenS,y3a]
 apply wpSIn_seq
 apply wpSIn_region
 simp[wpOpsSIn,go_sem,Exit.thenS]
 refine wpSIn_cond (t:=false) (by simp[Act.eval]) ?_
 simp only[Bool.false_eq_true,if_false]
 refine wpSIn_of_wpIn rfl (wpIn_skip ?_)
 simp only[Exit.thenS]
 apply wpSIn_region
 have h1:(w.alloc (.cells #[] 49)).cell? p=some x:=by rw[World.cell?_alloc_lt _ _ p (q4j hp)];exact hp
 have h2:(w.alloc (.cells #[] 49)).frozen? p=false:=by rw[World.frozen?_alloc_old _ _ p (Nat.ne_of_lt (q4j hp))];exact hpf
 have h3:∃ y',((w.alloc (.cells #[] 49)).setCell p (.slice none 0 0)).cell? q=some y':=Go.RowKit.cell?_setCell_some (by rw[World.cell?_alloc_lt _ _ q (q4j hq)];exact hq)
 have h4:((w.alloc (.cells #[] 49)).setCell p (.slice none 0 0)).frozen? q=false:=by rw[World.frozen?_setCell,World.frozen?_alloc_old _ _ q (Nat.ne_of_lt (q4j hq))];exact hqf
 obtain⟨y',h3⟩:=h3
 simp[wpOpsSIn,go_sem,h1,h2,h3,h4]
 cases c₀
 simp_all [bodyPostS,results,results16]
theorem y4p:DefF prog { g:=16,X:=49,vs:=[.nils,.sc (.int .i64) 1] } where
 fn:=⟨f16,func16,by kernel_rfl,by kernel_rfl⟩
 ret:=fun l w m hl=>match l,hl with
  | [p,q],_=>y6z p q w m
 pan:=fun l w m us hl hu hc=>match l,hl,hc with
  | [p,q],_,hc=>by
   cases hu
   obtain⟨h1,c,ty,h2,h3⟩:=hc p (by simp)
   obtain⟨h4,d,ty2,h5,h6⟩:=hc q (by simp)
   obtain⟨⟨x,g1⟩,g2⟩:=j3i h1 h2 h3
   obtain⟨⟨y,g3⟩,g4⟩:=j3i h4 h5 h6
   exact(y3l p q w m g1 g2 g3 g4).mono fun e u w' ⟨a,b,c⟩=>⟨a,b,_,c⟩
end Tryz
end Go.Proofs
