/- slices.SortFunc, by the library's contract, at what this program sorts; the closure that mean.At defers. -/
import Derived.Test.YtppblbacbmebfaaGreatDoorAbsFn2
import Derived.Test.YtppblbacbmebfaaGreatDoorProg
import Derived.Shelf.SlSortCmp.NoneTotal
import Derived.Shelf.Lay
import Derived.Ground.SlsfProg
import Derived.Tactics
import Derived.Tactics2
import Derived.RecoverIn
import Derived.WalkKit
namespace Go.Proofs
open Go Go.Shelf Go.Sort
set_option maxRecDepth 100000
shelf_lay_g SlLaysF0.n6 Slsf 6 at Tryz 45 as Tryz.sortL45
theorem Tryz.agg74 (w:World):(isAgg 74).run Tryz.prog w=.ok true w:=by kernel_rfl
theorem Tryz.size74 (w:World):(Go.sizeOf 74).run Tryz.prog w=.ok 3 w:=by kernel_rfl
theorem Tryz.sortN45:Go.Abs.SortN Tryz.prog 45 3 where
 fn:=⟨Tryz.f45,Tryz.func45,by kernel_rfl,by kernel_rfl⟩
 none:=fun p cap fv w=>AnyF.slices_SortFunc_none Tryz.sortL45 p cap fv w
 sort:=fun enc hk h1 cf hO g cb blk off cap d w eg hcmp hH hblk hsz=>AnyQ.slices_SortFunc Tryz.sortL45 3 Tryz.agg74 Tryz.size74 enc hk h1 cf hO g cb blk off cap d w eg hcmp hH hblk hsz
namespace Tryz
open Go Go.Abs Go.Lib
theorem j3i {w:World} {a:Addr} {c:Array Value} {ty:TypeId} (hs:a.spot=none) (h:w.heap[a.block]? = some (.cells c ty (0,0))) (hlt:a.off<c.size):(∃ v,w.cell? a=some v)/\w.frozen? a=false:=by
 obtain⟨b,o,s⟩:=a
 simp only at hs h hlt
 subst hs
 refine⟨⟨c[o],by simp[World.cell?,h,hlt]⟩,?_⟩
 simp[World.frozen?,h]
theorem y6z (p q:Addr) (w:World) (m:Nat):CallsDIn (Fr none) m prog 16 #[.pointer (some p),.pointer (some q)] .returning w fun e u w'=>(∃ v,e=.returned v)/\u=.returning/\w'=w:=by
 refine callsDIn_of_wpSIn func16 rfl trivial fun c₀ cs hu=>?_
 apply wpSIn_seq
 apply wpSIn_region
 simp[wpOpsSIn,go_sem,recoverD,hu,ntmps16,Exit.thenS,Fr]
 apply wpSIn_seq
 apply wpSIn_region
 simp[wpOpsSIn,go_sem,Exit.thenS]
 refine wpSIn_cond (t:=false) (by simp[Act.eval]) ?_
 simp only[Bool.false_eq_true,if_false]
 refine wpSIn_of_wpIn rfl (wpIn_skip ?_)
 cases c₀
 simp_all [bodyPostS,results,results16]
theorem y3a (w:World):(Instr.typeAssert (.iface 49 (.agg #[])) 20 49 true).run prog w=.ok (.tuple #[.agg #[],.bool true]) w:=by kernel_rfl
theorem y3l (p q:Addr) (w:World) (m:Nat) {x y:Value} (hp:w.cell? p=some x) (hpf:w.frozen? p=false) (hq:w.cell? q=some y) (hqf:w.frozen? q=false) :
  CallsDIn (Fr none) m prog 16 #[.pointer (some p),.pointer (some q)] (.panicking [pv 49]) w fun e u w'=>(∃ v,e=.returned v)/\u=.panicking [{ pv 49 with recovered:=true }]/\w'=((w.alloc (.cells #[] 49)).setCell p (.slice none 0 0)).setCell q (.int .i64 1):=by
 refine callsDIn_of_wpSIn func16 rfl trivial fun c₀ cs hu=>?_
 apply wpSIn_seq
 apply wpSIn_region
 simp[wpOpsSIn,go_sem,recoverD,hu,ntmps16,Exit.thenS,Fr,pv]
 apply wpSIn_seq
 apply wpSIn_region
 simp[wpOpsSIn,go_sem,Exit.thenS]
 refine wpSIn_cond (t:=true) (by simp[Act.eval]) ?_
 simp only[if_true]
 apply wpSIn_seq
 apply wpSIn_seq
 apply wpSIn_region
 simp[wpOpsSIn,go_sem,Exit.thenS,y3a]
 apply wpSIn_seq
 apply wpSIn_region
 simp[wpOpsSIn,go_sem,Exit.thenS]
 refine wpSIn_cond (t:=false) (by simp[Act.eval]) ?_
 simp only[Bool.false_eq_true,if_false]
 refine wpSIn_of_wpIn rfl (wpIn_skip ?_)
 simp only[Exit.thenS]
 apply wpSIn_region
 have h1:(w.alloc (.cells #[] 49)).cell? p=some x:=by rw[World.cell?_alloc_lt _ _ p (q4j hp)];exact hp
 have h2:(w.alloc (.cells #[] 49)).frozen? p=false:=by rw[World.frozen?_alloc_old _ _ p (Nat.ne_of_lt (q4j hp))];exact hpf
 have h3:∃ y',((w.alloc (.cells #[] 49)).setCell p (.slice none 0 0)).cell? q=some y':=Go.RowKit.cell?_setCell_some (by rw[World.cell?_alloc_lt _ _ q (q4j hq)];exact hq)
 have h4:((w.alloc (.cells #[] 49)).setCell p (.slice none 0 0)).frozen? q=false:=by rw[World.frozen?_setCell,World.frozen?_alloc_old _ _ q (Nat.ne_of_lt (q4j hq))];exact hqf
 obtain⟨y',h3⟩:=h3
 simp[wpOpsSIn,go_sem,h1,h2,h3,h4]
 cases c₀
 simp_all [bodyPostS,results,results16]
theorem y4p:DefF prog { g:=16,X:=49,vs:=[.nils,.sc (.int .i64) 1] } where
 fn:=⟨f16,func16,by kernel_rfl,by kernel_rfl⟩
 ret:=fun l w m hl=>match l,hl with
  | [p,q],_=>y6z p q w m
 pan:=fun l w m us hl hu hc=>match l,hl,hc with
  | [p,q],_,hc=>by
   cases hu
   obtain⟨h1,c,ty,h2,h3⟩:=hc p (by simp)
   obtain⟨h4,d,ty2,h5,h6⟩:=hc q (by simp)
   obtain⟨⟨x,g1⟩,g2⟩:=j3i h1 h2 h3
   obtain⟨⟨y,g3⟩,g4⟩:=j3i h4 h5 h6
   exact(y3l p q w m g1 g2 g3 g4).mono fun e u w' ⟨a,b,c⟩=>⟨a,b,_,c⟩
end Tryz
end Go.Proofs
