/- slices.SortFunc and maps.Clone, by the library's contracts, at what this program sorts and copies. -/
import Derived.Test.YtkfjlcdaepckoaaAbsFn2
import Derived.Test.YtkfjlcdaepckoaaProg
import Derived.Shelf.SlSortCmp.NoneTotal
import Derived.Shelf.Lay
import Derived.Ground.SlsfProg
import Derived.Ground.NamesProg
import Derived.Shelf.Bytes.SlEqualAll
import Derived.Tactics
import Derived.Tactics2
import Derived.RecoverIn
import Derived.WalkKit
namespace Go.Proofs
open Go Go.Shelf Go.Sort
set_option maxRecDepth 100000
shelf_lay_g SlLaysF0.n6 Slsf 6 at Try 38 as Try.sortL38
shelf_lay_g SlLaysF0.n6 Slsf 6 at Try 49 as Try.sortL49
theorem Try.agg49 (w:World):(isAgg 49).run Try.prog w=.ok true w:=by kernel_rfl
theorem Try.size49 (w:World):(Go.sizeOf 49).run Try.prog w=.ok 2 w:=by kernel_rfl
theorem Try.agg57 (w:World):(isAgg 57).run Try.prog w=.ok true w:=by kernel_rfl
theorem Try.size57 (w:World):(Go.sizeOf 57).run Try.prog w=.ok 3 w:=by kernel_rfl
theorem Try.sortN38:Go.Abs.SortN Try.prog 38 2 where
 fn:=⟨Try.f38,Try.func38,by kernel_rfl,by kernel_rfl⟩
 none:=fun p cap fv w=>AnyF.slices_SortFunc_none Try.sortL38 p cap fv w
 sort:=fun enc hk h1 cf hO g cb blk off cap d w eg hcmp hH hblk hsz=>AnyQ.slices_SortFunc Try.sortL38 2 Try.agg49 Try.size49 enc hk h1 cf hO g cb blk off cap d w eg hcmp hH hblk hsz
theorem Try.sortN49:Go.Abs.SortN Try.prog 49 3 where
 fn:=⟨Try.f49,Try.func49,by kernel_rfl,by kernel_rfl⟩
 none:=fun p cap fv w=>AnyF.slices_SortFunc_none Try.sortL49 p cap fv w
 sort:=fun enc hk h1 cf hO g cb blk off cap d w eg hcmp hH hblk hsz=>AnyQ.slices_SortFunc Try.sortL49 3 Try.agg57 Try.size57 enc hk h1 cf hO g cb blk off cap d w eg hcmp hH hblk hsz
shelf_lay Lays.nb115 Nm 115 at Try as Try.lays115
namespace Try
open Go Go.Abs Go.Lib
def q3a:(List Int×List Int×Unit)->Option (Bool×Unit):=fun x=>some (bytesOf x.1==bytesOf x.2.1,())
noncomputable def z3h:Abs.Spec:={ args:=[(false,.list (.int .u8)),(false,.list (.int .u8))],res:=[.val false .bool],f:=q3a }
theorem z53 {w:World} {A:Nat->Prop} {v:Value} {x:List Int} (h:RepVal w A false (.list (.int .u8)) v x):∃ p n c,v=.slice p n c/\x.length=n/\BytesIn w p n x:=by
 obtain⟨-,-,sa,len,cap,h1,h2,h3,h4⟩:=h
 refine⟨sa,len,cap,by simpa[E3]using h1,h2.symm,fun hn=>?_⟩
 obtain⟨b,o,e1,-,e2⟩:=h4 (fun e=>by rw[e]at h2;simp at h2;omega)
 refine⟨b,o,e1,fun i hi=>?_⟩
 have hlt:i<x.length:=by omega
 have:=e2 i x[i] (List.getElem?_eq_getElem hlt)
 simp only[RepAt,Ty.size,Nat.zero_lt_one,if_true,Nat.mul_one,Nat.add_zero]at this
 rw[this,List.getD_eq_getElem?_getD,List.getElem?_eq_getElem hlt];rfl
theorem j8j {gl:K5}:FunOK' prog gl 11 z3h:=by
 refine⟨fun x y hy L w vals hG hL hargs m=>?_,f11,func11,by kernel_rfl,by kernel_rfl⟩
 obtain⟨a,b,⟨⟩⟩:=x
 simp only[z3h,q3a]at hy hargs ⊢
 cases hy
 match vals,hargs with
 | [v,u],hargs =>
  obtain⟨h1,h2,-⟩:=hargs
  obtain⟨p,n,c,rfl,e1,e2⟩:=z53 h1
  obtain⟨q,m',d,rfl,e3,e4⟩:=z53 h2
  refine callsIn_wide.2 ((Any.bytes_Equal_all lays115 p q n c m' d a b w e1 e3 e2 e4).mono ?_)
  rintro e w' ⟨rfl,rfl⟩
  exact⟨_,rfl,Below.refl _ _,none,[.bool _],rfl,⟨rfl,rfl,rfl⟩,trivial⟩
 | [],hargs=>exact hargs.elim
 | [_],hargs=>exact hargs.2.elim
 | _::_::_::_,hargs=>exact hargs.2.2.elim
theorem z5a {w:World} {a:Addr} {c:Array Value} {ty:TypeId} (hs:a.spot=none) (h:w.heap[a.block]? = some (.cells c ty (0,0))) (hlt:a.off<c.size):(∃ v,w.cell? a=some v)/\w.frozen? a=false:=by
 obtain⟨b,o,s⟩:=a
 simp only at hs h hlt
 subst hs
 refine⟨⟨c[o],by simp[World.cell?,h,hlt]⟩,?_⟩
 simp[World.frozen?,h]
theorem j72 (p q:Addr) (w:World) (m:Nat):CallsDIn (Fr none) m prog 19 #[.pointer (some p),.pointer (some q)] .returning w fun e u w'=>(∃ v,e=.returned v)/\u=.returning/\w'=w:=by
 refine callsDIn_of_wpSIn func19 rfl trivial fun c₀ cs hu=>?_
 apply wpSIn_seq
 apply wpSIn_region
 simp[wpOpsSIn,go_sem,recoverD,hu,ntmps19,Exit.thenS,Fr]
 apply wpSIn_seq
 apply wpSIn_region
 simp[wpOpsSIn,go_sem,Exit.thenS]
 refine wpSIn_cond (t:=false) (by simp[Act.eval]) ?_
 simp only[Bool.false_eq_true,if_false]
 refine wpSIn_of_wpIn rfl (wpIn_skip ?_)
 cases c₀
 simp_all [bodyPostS,results,results19]
theorem j4r (w:World):(Instr.typeAssert (.iface 52 (.agg #[])) 20 52 true).run prog w=.ok (.tuple #[.agg #[],.bool true]) w:=by kernel_rfl
theorem j59 (p q:Addr) (w:World) (m:Nat) {x y:Value} (hp:w.cell? p=some x) (hpf:w.frozen? p=false) (hq:w.cell? q=some y) (hqf:w.frozen? q=false) :
  CallsDIn (Fr none) m prog 19 #[.pointer (some p),.pointer (some q)] (.panicking [pv 52]) w fun e u w'=>(∃ v,e=.returned v)/\u=.panicking [{ pv 52 with recovered:=true }]/\w'=((w.alloc (.cells #[] 52)).setCell p (.slice none 0 0)).setCell q (.bool false):=by
 refine callsDIn_of_wpSIn func19 rfl trivial fun c₀ cs hu=>?_
 apply wpSIn_seq
 apply wpSIn_region
 simp[wpOpsSIn,go_sem,recoverD,hu,ntmps19,Exit.thenS,Fr,pv]
 apply wpSIn_seq
 apply wpSIn_region
 simp[wpOpsSIn,go_sem,Exit.thenS]
 refine wpSIn_cond (t:=true) (by simp[Act.eval]) ?_
 simp only[if_true]
 apply wpSIn_seq
 apply wpSIn_seq
 apply wpSIn_region
 simp[wpOpsSIn,go_sem,Exit.thenS,j4r]
 apply wpSIn_seq
 apply wpSIn_region
 simp[wpOpsSIn,go_sem,Exit.thenS]
 refine wpSIn_cond (t:=false) (by simp[Act.eval]) ?_
 simp only[Bool.false_eq_true,if_false]
 refine wpSIn_of_wpIn rfl (wpIn_skip ?_)
 simp only[Exit.thenS]
 apply wpSIn_region
 have h1:(w.alloc (.cells #[] 52)).cell? p=some x:=by rw[World.cell?_alloc_lt _ _ p (q1p hp)];exact hp
 have h2:(w.alloc (.cells #[] 52)).frozen? p=false:=by rw[World.frozen?_alloc_old _ _ p (Nat.ne_of_lt (q1p hp))];exact hpf
 have h3:∃ y',((w.alloc (.cells #[] 52)).setCell p (.slice none 0 0)).cell? q=some y':=Go.RowKit.cell?_setCell_some (by rw[World.cell?_alloc_lt _ _ q (q1p hq)];exact hq)
 have h4:((w.alloc (.cells #[] 52)).setCell p (.slice none 0 0)).frozen? q=false:=by rw[World.frozen?_setCell,World.frozen?_alloc_old _ _ q (Nat.ne_of_lt (q1p hq))];exact hqf
 obtain⟨y',h3⟩:=h3
 simp[wpOpsSIn,go_sem,h1,h2,h3,h4]
 cases c₀
 simp_all [bodyPostS,results,results19]
theorem j5n:DefF prog { g:=19,X:=52,vs:=[.nils,.sc .bool false] } where
 fn:=⟨f19,func19,by kernel_rfl,by kernel_rfl⟩
 ret:=fun l w m hl=>match l,hl with
  | [p,q],_=>j72 p q w m
 pan:=fun l w m us hl hu hc=>match l,hl,hc with
  | [p,q],_,hc=>by
   cases hu
   obtain⟨h1,c,ty,h2,h3⟩:=hc p (by simp)
   obtain⟨h4,d,ty2,h5,h6⟩:=hc q (by simp)
   obtain⟨⟨x,g1⟩,g2⟩:=z5a h1 h2 h3
   obtain⟨⟨y,g3⟩,g4⟩:=z5a h4 h5 h6
   exact(j59 p q w m g1 g2 g3 g4).mono fun e u w' ⟨a,b,c⟩=>⟨a,b,_,c⟩
end Try
end Go.Proofs
