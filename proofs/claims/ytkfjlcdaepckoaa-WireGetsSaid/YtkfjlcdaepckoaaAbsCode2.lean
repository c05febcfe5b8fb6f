/- The engine, part 18: code is sound. -/
import Derived.Test.YtkfjlcdaepckoaaAbsCode
namespace Go.Abs
open Go Go.RowKit
variable {P:Program} {L:Nat->Prop} {w0:World}
theorem K7:∀ (l:List LI) (y:C7 l) (ρ:Env) (t:Nat),t∉E4 l->F2 l y ρ t=ρ t
 | [],_,_,_,_=>rfl
 | .tmp s ty::r,y,ρ,t,h=>by
  simp only[E4,List.mem_cons,not_or]at h
  simp only[F2]
  rw[A0 _ _ h.1];exact K7 r y.2 ρ t h.2
 | .own s id::r,y,ρ,t,h=>by
  simp only[E4,List.mem_cons,not_or]at h
  simp only[F2]
  rw[A0 _ _ h.1];exact K7 r y ρ t h.2
 | .arr _ _ _ _::r,y,ρ,t,h=>K7 r y.2 ρ t h
 | .arrS _ _ _::r,y,ρ,t,h=>K7 r y.2 ρ t h
 | .cel _ _::r,y,ρ,t,h=>K7 r y.2 ρ t h
 | .rng _ _::r,y,ρ,t,h=>K7 r y ρ t h
 | .ptr s id::r,y,ρ,t,h=>by
  simp only[E4,List.mem_cons,not_or]at h
  simp only[F2]
  rw[A0 _ _ h.1];exact K7 r y ρ t h.2
 | .celN _ _ _::r,y,ρ,t,h=>K7 r y.2 ρ t h
 | .mapS _ _ _ _ _::r,y,ρ,t,h=>K7 r y.2 ρ t h
 | .mpt s id::r,y,ρ,t,h=>by
  simp only[E4,List.mem_cons,not_or]at h
  simp only[F2]
  rw[A0 _ _ h.1];exact K7 r y ρ t h.2
 | .mapN _ _ _ _ _ _::r,y,ρ,t,h=>K7 r y.2 ρ t h
 | .nlp s::r,y,ρ,t,h=>by
  simp only[E4,List.mem_cons,not_or]at h
  simp only[F2]
  rw[A0 _ _ h.1];exact K7 r y ρ t h.2
 | .nlm s::r,y,ρ,t,h=>by
  simp only[E4,List.mem_cons,not_or]at h
  simp only[F2]
  rw[A0 _ _ h.1];exact K7 r y ρ t h.2
 | .itr _ _ _ _ _::r,y,ρ,t,h=>K7 r y.2.2 ρ t h
 | .arrDS _ _ _::r,y,ρ,t,h=>K7 r y.2 ρ t h
 | .mapDS _ _ _ _::r,y,ρ,t,h=>K7 r y.2 ρ t h
 | .subS s _::r,y,ρ,t,h=>by
  simp only[E4,List.mem_cons,not_or]at h
  simp only[F2]
  rw[A0 _ _ h.1];exact K7 r y.2.2 ρ t h.2
theorem K6:∀ (l:List LI) (y:C7 l) (h:Heap) (id:Nat),id∉F9 l->id∉D3 l->C2 l y h id=h id
 | [],_,_,_,_,_=>rfl
 | .tmp _ _::r,y,h,id,h1,h2=>K6 r y.2 h id h1 h2
 | .own _ _::r,y,h,id,h1,h2=>K6 r y h id h1 h2
 | .arr i e t s::r,y,h,id,h1,h2=>by
  simp only[F9,List.mem_cons,not_or]at h1
  simp only[C2]
  rw[A0 _ _ h1.1];exact K6 r y.2 h id h1.2 h2
 | .arrS i e t::r,y,h,id,h1,h2=>by
  simp only[D3,List.mem_cons,not_or]at h2
  simp only[C2]
  rw[A0 _ _ h2.1];exact K6 r y.2 h id h1 h2.2
 | .cel i cs::r,y,h,id,h1,h2=>by
  simp only[D3,List.mem_cons,not_or]at h2
  simp only[C2]
  rw[A0 _ _ h2.1];exact K6 r y.2 h id h1 h2.2
 | .rng i st::r,y,h,id,h1,h2=>by
  simp only[D3,List.mem_cons,not_or]at h2
  simp only[C2]
  rw[A0 _ _ h2.1];exact K6 r y h id h1 h2.2
 | .ptr _ _::r,y,h,id,h1,h2=>K6 r y h id h1 h2
 | .celN i cs s::r,y,h,id,h1,h2=>by
  simp only[F9,List.mem_cons,not_or]at h1
  simp only[C2]
  rw[A0 _ _ h1.1];exact K6 r y.2 h id h1.2 h2
 | .mapS i _ _ _ _::r,y,h,id,h1,h2=>by
  simp only[D3,List.mem_cons,not_or]at h2
  simp only[C2]
  rw[A0 _ _ h2.1];exact K6 r y.2 h id h1 h2.2
 | .mpt _ _::r,y,h,id,h1,h2=>K6 r y h id h1 h2
 | .nlp _::r,y,h,id,h1,h2=>K6 r y h id h1 h2
 | .nlm _::r,y,h,id,h1,h2=>K6 r y h id h1 h2
 | .subS _ _::r,y,h,id,h1,h2=>K6 r y.2.2 h id h1 h2
 | .itr i _ _ _ _::r,y,h,id,h1,h2=>by
  simp only[D3,List.mem_cons,not_or]at h2
  simp only[C2]
  rw[A0 _ _ h2.1];exact K6 r y.2.2 h id h1 h2.2
 | .arrDS i _ _::r,y,h,id,h1,h2=>by
  simp only[D3,List.mem_cons,not_or]at h2
  simp only[C2]
  rw[A0 _ _ h2.1];exact K6 r y.2 h id h1 h2.2
 | .mapDS i _ _ _::r,y,h,id,h1,h2=>by
  simp only[D3,List.mem_cons,not_or]at h2
  simp only[C2]
  rw[A0 _ _ h2.1];exact K6 r y.2 h id h1 h2.2
 | .mapN i _ _ _ _ s::r,y,h,id,h1,h2=>by
  simp only[F9,List.mem_cons,not_or]at h1
  simp only[C2]
  rw[A0 _ _ h1.1];exact K6 r y.2 h id h1.2 h2
theorem q47 {b:List Nat} {id:Nat} (h:id∉b):D6 b id=false:=by
 cases hq:D6 b id with
 | true=>exact absurd (memb_iff.1 hq) h
 | false=>rfl
theorem j6a {R:Type} {st0 st1:St} {mt mo sr stat:List Nat} {l:List LI} {K:C7 l->Option R} {z:R} (he:q1y st1 mt mo sr stat l K=some z) (y:C7 l) :
  (∀ t,t∉mt->(B9 st0 mt mo sr l y).ρ t=st0.ρ t)/\∀ id,id∉mo->id∉sr->id∉stat->(B9 st0 mt mo sr l y).h id=st0.h id:=by
 unfold q1y at he
 split at he
 ·obtain⟨hc,-⟩:=A7 he
  simp only[Bool.and_eq_true]at hc
  obtain⟨wnew,wslot,wstat,-⟩:=j34 hc.1.1.1
  refine⟨fun t ht=>?_,fun id h1 h2 h3=>?_⟩
  ·show F2 l y _ t=_
   rw[K7 _ _ _ _ (fun h=>ht (wslot t h)),q47 ht];rfl
  ·show C2 l y _ id=_
   rw[K6 _ _ _ _ (fun h=>h1 (wnew id h)) (fun h=>h3 ((wstat id).2 h)),q47 h1,q47 h2];rfl
 ·cases he
theorem q6e {R:Type} {st0 st1:St} {mt mo sr stat:List Nat} {l:List LI} {K:C7 l->Option R} {z:R} (he:K3 st1 mt mo sr stat l K=some z) (y:C7 l) :
  (∀ t,t∉mt->(B9 st0 mt mo sr l y).ρ t=st0.ρ t)/\∀ id,id∉mo->id∉sr->id∉stat->(B9 st0 mt mo sr l y).h id=st0.h id:=by
 obtain⟨v,-,-,he1⟩:=z6h (L:=fun _=>False) (w0:=default) he
 exact j6a he1 y
theorem z6x {h:Heap} {lo:Nat->Bool}:∀ {l:List Nat},q6j h lo l=true->∀ id∈l,h id=.fresh/\lo id=false
 | [],_,_,hm=>by cases hm
 | i::r,he,id,hm=>by
  simp only[q6j,Bool.and_eq_true]at he
  rcases List.mem_cons.1 hm with rfl | hm
  ·have h1:=he.1
   split at h1
   ·rename_i hf;exact⟨hf,by simpa using h1⟩
   ·cases h1
  ·exact z6x he.2 id hm
theorem q76 {p:Nat->Bool}:∀ {l:List Nat},q2c p l=true->∀ x∈l,p x=false
 | [],_,_,hm=>by cases hm
 | i::r,he,x,hm=>by
  simp only[q2c,Bool.and_eq_true,Bool.not_eq_true']at he
  rcases List.mem_cons.1 hm with rfl | hm
  ·exact he.1
  ·exact q76 he.2 x hm
structure Room (st:St) (mt mo sr stat:List Nat):Prop where
 mo:∀ id∈mo,st.h id=.fresh/\st.lo id=false
 mt:∀ t∈mt,st.lt t=false
 sr:∀ id∈sr,st.lo id=false
 stat:∀ id∈stat,st.lo id=false
 bad:st.h B6=.fresh
theorem q82 {st:St} {mt mo sr stat:List Nat} (h:q2n st mt mo sr stat=true):Room st mt mo sr stat:=by
 simp only[q2n,Bool.and_eq_true]at h
 exact⟨z6x h.1.1.1.1,q76 h.1.1.1.2,q76 h.1.1.2,q76 h.1.2,z7r h.2⟩
theorem q53 {B:Bd} {r:Option Nat} {κ:A2} {st:St} {a:Act} {w:World} (sim:Sim P L w0 B r κ st a w) (mt ob:List Nat):Sim P L w0 B r κ (O0 st mt ob) a w :=
 ⟨sim.size,sim.env,sim.heap,sim.defs,sim.rnd⟩
theorem q1z {R:Type} {st st':St} {mt mo sr stat:List Nat} {l:List LI} {K:C7 l->Option R} {z:R} (he:K3 st' mt mo sr stat l K=some z) (room:Room st mt mo sr stat) :
  ∃ y,K y=some z/\(∀ id,st.lo id=true->(B9 st mt mo sr l y).h id=st.h id)/\(∀ id,id∉mo->id∉sr->id∉stat->(B9 st mt mo sr l y).h id=st.h id)/\(∀ id∈stat,(∃ ak av tk tv l c,st'.h id=.iter ak av tk tv l c)->(B9 st mt mo sr l y).h id=st'.h id) /\
   ∀ {B:Bd} {r:Option Nat} {κ0 κ':A2} {a0 a':Act} {v0 w':World},Sim P L w0 B r κ0 st a0 v0->Sim P L w0 B r κ' st' a' w'->Ext L κ0 st.h v0 κ' st'.h w' ->
  (∀ t,t∉mt->a'.tmps.getD t undef=a0.tmps.getD t undef)->(∀ id,id≠B6->id∉mo->id∉sr->id∉stat->st'.h id=st.h id)->st'.n=st.n ->
  ∃ κ2,Sim P L w0 B r κ2 (B9 st mt mo sr l y) a' w'/\Ext L κ0 st.h v0 κ2 (B9 st mt mo sr l y).h w'/\Locks st (B9 st mt mo sr l y) a0 a':=by
 obtain⟨y,hy,hit,hs⟩:=z6g (P:=P) (L:=L) (w0:=w0) (st0:=st) he
 obtain⟨f1,f2⟩:=q6e (st0:=st) he y
 have hlo:∀ id,st.lo id=true->(B9 st mt mo sr l y).h id=st.h id:=fun id hid =>
  f2 id (fun h=>by have:=(room.mo id h).2;rw[hid]at this;cases this) (fun h=>by have:=room.sr id h;rw[hid]at this;cases this) (fun h=>by have:=room.stat id h;rw[hid]at this;cases this)
 refine⟨y,hy,hlo,f2,hit,fun {B r κ0 κ' a0 a' v0 w'} sim0 sim' ext htm hoo hn=>?_⟩
 obtain⟨κ2,h1,h2,-⟩:=hs B r κ0 a0 v0 κ' a' w' sim0 sim' ext htm (fun id h1 h2 h3=>by
  by_cases hb:id=B6
  ·rw[hb,room.bad];exact z6f he
  ·exact hoo id hb h1 h2 h3) (fun id hid=>(room.mo id hid).1) hn
 refine⟨κ2,h1,h2,⟨rfl,rfl,rfl,fun t ht=>?_,hlo⟩⟩
 have hnt:t∉mt:=fun h=>by have:=room.mt t h;rw[ht]at this;cases this
 exact⟨f1 t hnt,htm t hnt⟩
theorem q46 {st st':St} {mt ob:List Nat} {a a':Act} (lk:Locks (O0 st mt ob) st' a a') {t:Nat} (ht:t∉mt):a'.tmps.getD t undef=a.tmps.getD t undef :=
 (lk.tmp t (by show(st.lt t||!D6 mt t)=true;rw[q47 ht];simp)).2
theorem q45 {st st':St} {mt ob:List Nat} {a a':Act} (lk:Locks (O0 st mt ob) st' a a') {id:Nat} (hb:id≠B6) (hi:id∉ob):st'.h id=st.h id :=
 lk.obj id (by show(st.lo id||(!D6 ob id&&!Nat.beq id B6))=true;rw[q47 hi,show Nat.beq id B6=false from(by cases h:Nat.beq id B6<;>first | rfl | exact absurd (Nat.eq_of_beq_eq_true h) hb)];simp)
theorem q4f {S:Type} {st':St} {mt mo sr stat:List Nat} {x:XK}:∀ (es:W0) (g:L3 es->S) (o:S),N0 st' mt mo sr stat x es g=some o ->
  ∃ (l:List LI) (f:C7 l->L3 es),K3 st' mt mo sr stat l (fun y=>some (g (f y)))=some o/\∀ (R:Type) (st:St) (K:XK->St->Option R) (y:C7 l),q0d st mt mo sr K es (f y)=K x (B9 st mt mo sr l y)
 | [],_,o,he=>by cases he
 | (k,l)::r,g,o,he=>by
  simp only[N0]at he
  cases hk:(XK.beq k x&&q80 st'.h l)with
  | true =>
   rw[hk,cond_true]at he
   rw[Bool.and_eq_true]at hk
   have hkx:=XK.beq_eq hk.1
   subst hkx
   exact⟨l,fun y=>.inl y,he,fun R st K y=>rfl⟩
  | false =>
   rw[hk,cond_false]at he
   obtain⟨l',f,h1,h2⟩:=q4f r _ o he
   exact⟨l',fun y=>.inr (f y),h1,fun R st K y=>h2 R st K y⟩
def q59 (P:Program) (L:Nat->Prop) (w0:World) (c:Code) (g:Ann->(R:Type)->St->(XK->St->Option R)->Option R):Prop :=
 ∀ (an:Ann) (R:Type) (st:St) (K:XK->St->Option R) (z:R),g an R st K=some z->∃ x st',K x st'=some z/\SL st st' /\
  ∀ (B:Bd) (r:Option Nat) (m:Nat) κ a w (Q:Exit->Act->World->Prop),Sim P L w0 B r κ st a w ->
  (∀ κ' a' w',Sim P L w0 B r κ' st' a' w'->Ext L κ st.h w κ' st'.h w'->Locks st st' a a'->Q x.exit a' w')->c.wpIn (Fr r) m P Q a w
theorem z1z {c:Code} {g:Ann->(R:Type)->St->(XK->St->Option R)->Option R} (hg:q59 P L w0 c g):q59 P L w0 c (q3y g):=by
 intro an R st K z he
 unfold q3y at he
 split at he
 ·rename_i mt mo sr stat exits p
  obtain⟨hroom,he⟩:=A7 he
  have room:=q82 hroom
  obtain⟨o,ho,hres⟩:=Option.bind_eq_some_iff.1 he
  obtain⟨x,st',hk,hlo,hrun⟩:=hg p _ _ _ o ho
  obtain⟨l,f,hx,hr⟩:=q4f exits _ o hk
  obtain⟨y,hy,hlo2,-,-,hend⟩:=q1z (P:=P) (L:=L) (w0:=w0) hx room
  refine⟨x,B9 st mt mo sr l y,?_,⟨rfl,hlo2⟩,fun B r m κ a w Q sim hQ=>?_⟩
  ·rw[<-hr R st K y];cases hy;exact hres
  ·refine hrun B r m κ a w Q (q53 sim _ _) fun κ' a' w' sim' ext' lk=>?_
   obtain⟨κ2,s2,e2,l2⟩:=hend sim sim' ext' (fun t ht=>q46 lk ht) (fun id hb h1 h2 h3=>q45 lk hb (by simp[h1,h2,h3])) lk.n
   exact hQ κ2 a' w' s2 e2 l2
 ·exact hg _ _ _ _ _ he
theorem q5w {c:Code} (x:XK) (h:∀ {r:Option Nat} {m:Nat} {Q:Exit->Act->World->Prop} {a:Act} {w:World},Q x.exit a w->c.wpIn (Fr r) m P Q a w):q59 P L w0 c fun _ _ st K=>K x st :=
 fun _ _ st _ _ he=>⟨x,st,he,SL.refl _,fun _ _ _ κ a w _ sim hQ=>h (hQ κ a w sim (Ext.refl _ _ _ _) (Locks.refl _ _))⟩
theorem z1h {κ:A2} {h:Heap} {w:World} (o:Obj):Ext L κ h w κ h (w.alloc o) where
 place _ _:=rfl
 kid _ hd:=hd
 arrD _ _ _ l f hl:=.inl ⟨l,f,rfl,hl⟩
 dead _ hd:=hd
 cells _ l hl:=.inl ⟨l,hl⟩
 arr _ _ _ l hl:=.inl ⟨l,rfl,.inl hl⟩
 ice _ _ _ _ hl:=.inl hl
 lrec _ _ s hl:=.inl ⟨s,hl⟩
 maps _ hl:=.inl hl
 iter _ _ _ _ _ l c hl:=.inl ⟨l,c,hl⟩
 still b hb:=⟨⟨by have:=hb.1;simp;omega,hb.2⟩,P2 w o (by have:=hb.1;omega)⟩
 size:=by simp
 loops b r hr:=⟨r,(P2 w o (by have:=(Array.getElem?_eq_some_iff.1 hr).1;omega)).trans hr⟩
 defs b hr:=(P2 w o (by have:=(Array.getElem?_eq_some_iff.1 hr).1;omega)).trans hr
theorem z79 {κ:A2} {h:Heap} {w:World} (ok:HeapOK L w0 κ h w) (o:Obj):HeapOK L w0 κ h (w.alloc o) where
 obj id:=by
  by_cases hd:h id=.dead\/h id=.fresh
  ·rcases hd with hd | hd<;>rw[hd]<;>trivial
  ·exact RepObj.ext (z1h o) rfl (fun b c hk=>P2 w o (by have:=q78 ok (fun h=>hd (.inl h)) (fun h=>hd (.inr h)) hk;omega)) (fun _=>rfl) (fun n b c hk=>P2 w o (by have:=(ok.own (kn id n) b c (by rw[N8 ok];rfl) hk).2;omega)) (ok.obj id)
 inj:=ok.inj
 own i b c hi hk:=by have:=ok.own i b c hi hk;simp;omega
 below:=ok.below.alloc ok.below.size o
 outer b hL:=⟨by have:=(ok.outer b hL).1;simp;omega,(ok.outer b hL).2⟩
 kids:=ok.kids
theorem j5z {B:Bd} {r:Option Nat} {κ:A2} {st:St} {a:Act} {w:World} (sim:Sim P L w0 B r κ st a w) (fnid:FuncId) (ps:Array Tmp) (assign body:Code) :
  ∃ l mark W rec,(Instr.enterLoop fnid a.tmps ps assign body r).run P w=.ok (l,mark) (World.alloc W (.loop rec))/\l=W.heap.size/\rec.state=.ready/\rec.pending=none/\rec.tmps=a.tmps/\rec.params=ps/\rec.assign=assign/\rec.body=body /\
   HeapOK L w0 κ st.h W/\Ext L κ st.h w κ st.h W/\MarksOK B (mark++a.defers) W:=by
 cases r with
 | none =>
  refine⟨_,_,_,_,run_enterLoop_outer fnid a.tmps ps assign body,by simp,rfl,rfl,rfl,rfl,rfl,rfl,z79 sim.heap _,z1h _,?_⟩
  obtain⟨h0,bs,h1,h2,h3⟩:=sim.defs
  refine⟨by simp;omega,w.heap.size::bs,List.nodup_cons.2 ⟨fun hm=>?_,h1⟩,by rw[h2];rfl,fun b hb=>?_⟩
  ·have:=(Array.getElem?_eq_some_iff.1 (h3 _ hm).2).1
   omega
  ·rcases List.mem_cons.1 hb with rfl | hb
   ·exact⟨h0,World.alloc_heap_new w _⟩
   ·have:=(Array.getElem?_eq_some_iff.1 (h3 _ hb).2).1
    exact⟨(h3 b hb).1,(P2 w _ (by omega)).trans (h3 b hb).2⟩
 | some l0 =>
  obtain⟨r0,hr0⟩:=sim.rnd l0 rfl
  refine⟨w.heap.size,[],w,{ state:=.ready,pending:=none,fn:=fnid,tmps:=a.tmps,params:=ps,assign,body,defers:=r0.defers },?_,rfl,rfl,rfl,rfl,rfl,rfl,rfl,sim.heap,Ext.refl _ _ _ _,sim.defs⟩
  unfold Instr.enterLoop
  simp only[Sem.run_bind,run_getLoop hr0,run_newObj_alloc,Result.andThen,Sem.run_pure]
theorem z2v {a:Act} {g:Operand} {l:Nat} {f:FuncId} {first caps:Array Value} (hg:a.eval g=.func (.func f) first caps) {fn:Func} (hf:P.funcs[f]? = some fn) (hb:fn.body.isSome=true) (hn:(fn.name== "runtime.NumGoroutine")=false) (w:World) :
  ∃ d,(resolve a.eval (rangeCall g l) 0).run P w=.ok d w/\(invoke d.target d.args).run P w=.ok (.enter f (first++#[.func (.yield l) #[] #[]]++caps)) w:=by
 have hc:a.eval (.const (.func (.yield l) #[] #[]))=.func (.yield l) #[] #[]:=rfl
 refine⟨_,by simp[resolve,Deferred.ofValue,hg,hc];rfl,?_⟩
 cases hbb:fn.body with
 | none=>rw[hbb]at hb;cases hb
 | some c=>simpa[invoke,callFunc,hf,hbb]using hn
theorem j56 {a:Act} {g:Operand} {l:Nat} {f:FuncId} {pre post:List AV} {ρ:Env} (hg:Z1 (ev ρ g)=some (f,pre,post)) {fn:Func} (hf1:P.funcs[f]? = some fn) (hf2:fn.body.isSome=true) (hf3:(fn.name== "runtime.NumGoroutine")=false)
  {κ:A2} {h:Heap} {w:World} (hgv:RepAV L κ h w (ev ρ g) (a.eval g)) (w1:World) :
  ∃ d,∃ us vs:List Value,(resolve a.eval (rangeCall g l) 0).run P w1=.ok d w1/\(invoke d.target d.args).run P w1=.ok (.enter f (us++Value.func (.yield l) #[] #[]::vs).toArray) w1/\us.length=pre.length/\vs.length=post.length /\
   (∀ (i:Nat) (av:AV) (v:Value),pre[i]? = some av->us[i]? = some v->RepAV L κ h w av v)/\∀ (i:Nat) (av:AV) (v:Value),post[i]? = some av->vs[i]? = some v->RepAV L κ h w av v:=by
 unfold Z1 at hg
 split at hg
 ·rename_i f' caps hgf
  cases hg
  rw[hgf]at hgv
  obtain⟨cs,hgv,hcl,hcc⟩:=hgv
  obtain⟨d,hd1,hd2⟩:=z2v (l:=l) hgv hf1 hf2 hf3 w1
  refine⟨d,[],cs,hd1,?_,rfl,by simp[q0m,hcl],fun i av v hi=>by simp at hi,fun i av v hi hv=>?_⟩
  ·rw[hd2]
   congr 2
   apply Array.toList_inj.1;simp
  ·simp only[q0m,List.getElem?_map,Option.map_eq_some_iff]at hi
   obtain⟨p,hp,rfl⟩:=hi
   obtain⟨hn,b,c,hkb,hc'⟩:=hcc i p hp
   rw[hv]at hc';cases hc'
   exact⟨hn,b,c,hkb,rfl⟩
 ·rename_i f' agg cs hgf
  cases hg
  rw[hgf]at hgv
  obtain⟨us,hgv,h2,h3,h4⟩:=hgv
  obtain⟨d,hd1,hd2⟩:=z2v (l:=l) hgv hf1 hf2 hf3 w1
  refine⟨d,[cond agg (.agg us.toArray) (us.headD undef)],[],hd1,?_,rfl,rfl,fun i av v hi hv=>?_,fun i av v hi=>by simp at hi⟩
  ·rw[hd2]
   congr 2
  ·cases i with
   | zero =>
    simp only[List.getElem?_cons_zero,Option.some.injEq]at hi hv
    subst hi;subst hv
    exact q9e h2 h3 h4
   | succ i=>simp at hi
 ·rename_i f' id off hgf
  cases hg
  rw[hgf]at hgv
  obtain⟨u,hgv,h2,b,c,h3,h4⟩:=hgv
  obtain⟨d,hd1,hd2⟩:=z2v (l:=l) hgv hf1 hf2 hf3 w1
  refine⟨d,[u],[],hd1,?_,rfl,rfl,fun i av v hi hv=>?_,fun i av v hi=>by simp at hi⟩
  ·rw[hd2]
   congr 2
  ·cases i with
   | zero =>
    simp only[List.getElem?_cons_zero,Option.some.injEq]at hi hv
    subst hi;subst hv
    exact⟨h2,b,c,h3,h4⟩
   | succ i=>simp at hi
 ·cases hg
def j8a (Q:Exit->Act->World->Prop):Exit->Act->World->Prop
 | .goto _,_,_=>False
 | e,a,w=>Q e a w
theorem q2v {b:Frame} {a:Act} {k:List Item} {cs:List Frame} {w:World} {c:Code}:step P (lone (b.atR a (.code (.scope c)::k)) cs w)=.next (lone (b.atR a (.code c::.inScope c::k)) cs w) :=
 step_lone_go (by simp[stepG,stepG.exec,Frame.atR])
theorem y3i {b:Frame} {a:Act} {k:List Item} {cs:List Frame} {w:World} {c:Code}:step P (lone (b.atR a (.inScope c::k)) cs w)=.next (lone (b.atR a k) cs w) :=
 step_lone_go (by simp[stepG,stepG.exec,Frame.atR])
theorem j39 {F:Fence} {n:Nat} {c:Code} {Q:Exit->Act->World->Prop} {a:Act} {w:World} (h:c.wpIn F n P (j8a Q) a w):(Code.scope c).wpIn F n P Q a w:=by
 intro b k cs hro hb hr
 have h0:(lone (b.atR a (.code (.scope c)::k)) cs w).fenced P F:=fenced_calm hb hr rfl
 obtain⟨e,a₁,w₁,hq,harr⟩:=h b (.inScope c::k) cs hro hb hr
 cases e with
 | normal=>exact⟨.normal,a₁,w₁,hq,.head h0 q2v (StepsIn.trans harr (.one (fenced_calm hb hr rfl) y3i))⟩
 | exit id =>
  have hx:exitTo id (.inScope c::k)=exitTo id k:=by simp[exitTo]
  exact⟨.exit id,a₁,w₁,hq,fun k' hk=>.head h0 q2v (harr.1 k' (by rw[hx];exact hk)),
   fun hr' hk=>let ⟨k₁,h1,h2⟩:=harr.2 hr' (by rw[hx];exact hk);⟨k₁,h1,.head h0 q2v h2⟩⟩
 | goto l=>exact hq.elim
 | ret=>exact⟨_,a₁,w₁,hq,.of_steps (.one h0 q2v) harr⟩
 | panic ch=>exact⟨_,a₁,w₁,hq,.of_steps (.one h0 q2v) harr⟩
 | outgrown=>exact⟨_,a₁,w₁,hq,.of_steps (.one h0 q2v) harr⟩
theorem M6 {C:Ctx} (hC:CtxOK P L w0 C) (hmix:P.follows .mixedOrders=true) (ib:Nat):∀ (c:Code),q59 P L w0 c (I1 C ib c)
 | .skip=>q5w .nrm wpIn_skip
 | .label _=>q5w .nrm wpIn_label
 | .exit id=>q5w (.ex id) wpIn_exit
 | .ret=>q5w .ret wpIn_ret
 | .region id ops draw=>fun an R st K z he=>by
  obtain⟨x,st',h1,hlo,h2⟩:=j69 hC hmix (id:=id) (show q6c C (z1q st.h ib ops) ops draw st K=some z from he)
  exact⟨x,st',h1,hlo,fun B r m κ a w Q sim hQ=>h2 B r κ a w sim m Q hQ⟩
 | .seq x y=>z1z fun an R st K z he=>by
  split at he
  ·rename_i p q
   obtain⟨x1,st1,hk,hlo1,hrun⟩:=M6 hC hmix ib x p R st _ z he
   cases x1 with
   | nrm =>
    obtain⟨x2,st2,hk2,hlo2,hrun2⟩:=M6 hC hmix ib y q R st1 K z hk
    exact⟨x2,st2,hk2,hlo1.trans hlo2,fun B r m κ a w Q sim hQ=>wpIn_seq (hrun B r m κ a w _ sim fun κ' a' w' s e l =>
     hrun2 B r m κ' a' w' Q s fun κ2 a2 w2 s2 e2 l2=>hQ κ2 a2 w2 s2 (e.trans e2) (l.trans l2))⟩
   | ex j=>exact⟨.ex j,st1,hk,hlo1,fun B r m κ a w Q sim hQ=>wpIn_seq (hrun B r m κ a w _ sim hQ)⟩
   | ret=>exact⟨.ret,st1,hk,hlo1,fun B r m κ a w Q sim hQ=>wpIn_seq (hrun B r m κ a w _ sim hQ)⟩
   | pan T=>exact⟨.pan T,st1,hk,hlo1,fun B r m κ a w Q sim hQ=>wpIn_seq (hrun B r m κ a w _ sim hQ)⟩
  ·cases he
 | .cond c x y=>z1z fun an R st K z he=>by
  split at he
  ·rename_i p q
   split at he
   ·rename_i t ht
    have hv:∀ B r κ a w,Sim P L w0 B r κ st a w->a.eval c=.bool t:=fun B r κ a w sim=>by
     have hv:=L4 sim.env c
     rw[ht]at hv
     exact V1 hv
    cases t with
    | true =>
     rw[cond_true]at he
     obtain⟨x1,st1,hk,hlo,hrun⟩:=M6 hC hmix ib x p R st K z he
     exact⟨x1,st1,hk,hlo,fun B r m κ a w Q sim hQ=>wpIn_cond_true (hv B r κ a w sim) (hrun B r m κ a w Q sim hQ)⟩
    | false =>
     rw[cond_false]at he
     obtain⟨x1,st1,hk,hlo,hrun⟩:=M6 hC hmix ib y q R st K z he
     exact⟨x1,st1,hk,hlo,fun B r m κ a w Q sim hQ=>wpIn_cond_false (hv B r κ a w sim) (hrun B r m κ a w Q sim hQ)⟩
   ·cases he
  ·cases he
 | .block id x=>z1z fun an R st K z he=>by
  split at he
  ·rename_i p
   obtain⟨x1,st1,hk,hlo,hrun⟩:=M6 hC hmix ib x p R st _ z he
   cases x1 with
   | nrm=>exact⟨.nrm,st1,hk,hlo,fun B r m κ a w Q sim hQ=>wpIn_block (hrun B r m κ a w _ sim hQ)⟩
   | ret=>exact⟨.ret,st1,hk,hlo,fun B r m κ a w Q sim hQ=>wpIn_block (hrun B r m κ a w _ sim hQ)⟩
   | pan T=>exact⟨.pan T,st1,hk,hlo,fun B r m κ a w Q sim hQ=>wpIn_block (hrun B r m κ a w _ sim hQ)⟩
   | ex j =>
    have hk:cond (Nat.beq j id) (K .nrm st1) (K (.ex j) st1)=some z:=hk
    by_cases hj:j=id
    ·subst hj
     rw[Nat.beq_refl,cond_true]at hk
     refine⟨.nrm,st1,hk,hlo,fun B r m κ a w Q sim hQ=>wpIn_block (hrun B r m κ a w _ sim fun κ' a' w' s e l=>?_)⟩
     show(if j=j then Q .normal a' w' else Q (.exit j) a' w')
     rw[if_pos rfl]
     exact hQ κ' a' w' s e l
    ·have hb:Nat.beq j id=false:=by
      cases hq:Nat.beq j id with
      | true=>exact absurd (Nat.eq_of_beq_eq_true hq) hj
      | false=>rfl
     rw[hb,cond_false]at hk
     refine⟨.ex j,st1,hk,hlo,fun B r m κ a w Q sim hQ=>wpIn_block (hrun B r m κ a w _ sim fun κ' a' w' s e l=>?_)⟩
     show(if j=id then Q .normal a' w' else Q (.exit j) a' w')
     rw[if_neg hj]
     exact hQ κ' a' w' s e l
  ·cases he
 | .loop x=>fun an R st K z he=>by
  unfold I1 at he
  split at he
  ·rename_i mt mo sr stat head exits p
   obtain⟨hroom,he⟩:=A7 he
   have room:=q82 hroom
   obtain⟨y0,hy0,-,-,-,h0⟩:=q1z (P:=P) (L:=L) (w0:=w0) he room
   have frame:∀ y id,id∉mo->id∉sr->id∉stat->(B9 st mt mo sr head y).h id=st.h id:=fun y=>(q6e (st0:=st) he y).2
   obtain⟨o,ho,hres⟩:=Option.bind_eq_some_iff.1 hy0
   obtain⟨n,hn⟩:=loopM_iff.1 ho
   have hh:∀ (n:Nat) (y:C7 head),Q5 (fun y=>I1 C ib x p (C7 head⊕L3 exits) (O0 (B9 st mt mo sr head y) mt (mo++stat)) fun x st'=>match x with
      | .nrm=>K3 st' mt mo sr stat head fun y'=>some (.inl y')
      | x=>N0 st' mt mo sr stat x exits .inr) n y=some o ->
     ∃ x' st',K x' st'=some z/\SL st st'/\∀ (B:Bd) (r:Option Nat) (m:Nat) (κ:A2) (a:Act) (w:World) (Q:Exit->Act->World->Prop),Sim P L w0 B r κ st a w->(∀ κ' a' w',Sim P L w0 B r κ' st' a' w'->Ext L κ st.h w κ' st'.h w'->Locks st st' a a'->Q x'.exit a' w') ->
      ∀ (κ1:A2) (a1:Act) (w1:World),Sim P L w0 B r κ1 (B9 st mt mo sr head y) a1 w1->Ext L κ st.h w κ1 (B9 st mt mo sr head y).h w1->(∀ t,t∉mt->a1.tmps.getD t undef=a.tmps.getD t undef)->Code.roundsIn (Fr r) m P x Q n a1 w1:=by
    intro n
    induction n with
    | zero=>intro y hn;cases hn
    | succ n ih =>
     intro y hn
     simp only[Q5]at hn
     generalize hf:I1 C ib x p (C7 head⊕L3 exits) (O0 (B9 st mt mo sr head y) mt (mo++stat)) (fun x st'=>match x with
      | .nrm=>K3 st' mt mo sr stat head fun y'=>some (.inl y')
      | x=>N0 st' mt mo sr stat x exits .inr)=q at hn
     cases q with
     | none=>cases hn
     | some zz =>
      obtain⟨x1,st1,hk,-,hrun⟩:=M6 hC hmix ib x p _ _ _ zz hf
      have g2:∀ {a1 a':Act},Locks (O0 (B9 st mt mo sr head y) mt (mo++stat)) st1 a1 a'->∀ id,id≠B6->id∉mo->id∉sr->id∉stat->st1.h id=st.h id:=fun lk id hb h1 h2 h3=>(q45 lk hb (by simp[h1,h3])).trans (frame y id h1 h2 h3)
      have fin:x1≠.nrm->N0 st1 mt mo sr stat x1 exits (Sum.inr (α:=C7 head))=some zz->∃ x' st',K x' st'=some z/\SL st st'/\∀ (B:Bd) (r:Option Nat) (m:Nat) (κ:A2) (a:Act) (w:World) (Q:Exit->Act->World->Prop),Sim P L w0 B r κ st a w->(∀ κ' a' w',Sim P L w0 B r κ' st' a' w'->Ext L κ st.h w κ' st'.h w'->Locks st st' a a'->Q x'.exit a' w') ->
        ∀ (κ1:A2) (a1:Act) (w1:World),Sim P L w0 B r κ1 (B9 st mt mo sr head y) a1 w1->Ext L κ st.h w κ1 (B9 st mt mo sr head y).h w1->(∀ t,t∉mt->a1.tmps.getD t undef=a.tmps.getD t undef)->Code.roundsIn (Fr r) m P x Q (n+1) a1 w1:=fun hx1 hk=>by
       obtain⟨l,f,hx,hr⟩:=q4f exits _ zz hk
       obtain⟨y2,hy2,hlo2,-,-,hend⟩:=q1z (P:=P) (L:=L) (w0:=w0) hx room
       cases hy2
       cases hn
       refine⟨x1,B9 st mt mo sr l y2,by rw[<-hr R st K y2];exact hres,⟨rfl,hlo2⟩,fun B r m κ a w Q sim hQ κ1 a1 w1 s1 e1 t1=>?_⟩
       rw[roundsIn_succ]
       refine hrun B r m κ1 a1 w1 _ (q53 s1 _ _) fun κ' a' w' s' e' lk=>?_
       obtain⟨κ2,s2,e2,l2⟩:=hend sim s' (e1.trans e') (fun t ht=>(q46 lk ht).trans (t1 t ht)) (g2 lk) lk.n
       have:=hQ κ2 a' w' s2 e2 l2
       cases x1 with
       | nrm=>exact absurd rfl hx1
       | ex j=>exact this
       | ret=>exact this
       | pan T=>exact this
      cases x1 with
      | nrm =>
       obtain⟨y2,hy2,-,-,-,hend⟩:=q1z (P:=P) (L:=L) (w0:=w0) (show K3 st1 mt mo sr stat head (fun y'=>some (Sum.inl y'))=some zz from hk) room
       cases hy2
       obtain⟨x',st',h1,h2,h3⟩:=ih y2 hn
       refine⟨x',st',h1,h2,fun B r m κ a w Q sim hQ κ1 a1 w1 s1 e1 t1=>?_⟩
       rw[roundsIn_succ]
       refine hrun B r m κ1 a1 w1 _ (q53 s1 _ _) fun κ' a' w' s' e' lk=>?_
       have g1:∀ t,t∉mt->a'.tmps.getD t undef=a.tmps.getD t undef:=fun t ht=>(q46 lk ht).trans (t1 t ht)
       obtain⟨κ2,s2,e2,-⟩:=hend sim s' (e1.trans e') g1 (g2 lk) lk.n
       exact h3 B r m κ a w Q sim hQ κ2 a' w' s2 e2 g1
      | ex j=>exact fin (by simp) hk
      | ret=>exact fin (by simp) hk
      | pan T=>exact fin (by simp) hk
   obtain⟨x',st',h1,h2,h3⟩:=hh n y0 hn
   refine⟨x',st',h1,h2,fun B r m κ a w Q sim hQ=>wpIn_loop_rounds n ?_⟩
   obtain⟨κ0,s0,e0,-⟩:=h0 sim sim (Ext.refl _ _ _ _) (fun _ _=>rfl) (fun _ _ _ _ _=>rfl) rfl
   exact h3 B r m κ a w Q sim hQ κ0 a w s0 e0 (fun _ _=>rfl)
  ·rename_i p
   obtain⟨x1,st1,hk,hlo1,hrun⟩:=M6 hC hmix ib x p R st _ z he
   cases x1 with
   | nrm=>cases hk
   | ex j=>exact⟨.ex j,st1,hk,hlo1,fun B r m κ a w Q sim hQ=>wpIn_loop_once (hrun B r m κ a w _ sim hQ)⟩
   | ret=>exact⟨.ret,st1,hk,hlo1,fun B r m κ a w Q sim hQ=>wpIn_loop_once (hrun B r m κ a w _ sim hQ)⟩
   | pan T=>exact⟨.pan T,st1,hk,hlo1,fun B r m κ a w Q sim hQ=>wpIn_loop_once (hrun B r m κ a w _ sim hQ)⟩
  ·cases he
 | .rangeFunc g ps assign body=>fun an R st K z he=>by
  unfold I1 at he
  split at he
  ·rename_i k
   split at he
   ·rename_i f pre post hfr hg
    obtain⟨hc,he⟩:=A7 he
    simp only[Bool.and_eq_true,Bool.not_eq_true']at hc
    obtain⟨hlk,hin⟩:=hc
    obtain⟨av,h',hk,hlo,hcall⟩:=hC.ic.ok f _ _ st.lo _ R _ z hin he
    obtain⟨hnp,hk⟩:=A7 hk
    have fin:∀ (ri:RI) (s:RS) (x:XK),h' k=.lrec ri s->s.state≠.busy->s.pend=x.code->x.plain=true->K x { st with h:=upd h' k .dead }=some z ->
      ∃ x st',K x st'=some z/\SL st st'/\∀ (B:Bd) (r:Option Nat) (m:Nat) κ a w (Q:Exit->Act->World->Prop),Sim P L w0 B r κ st a w ->
       (∀ κ' a' w',Sim P L w0 B r κ' st' a' w'->Ext L κ st.h w κ' st'.h w'->Locks st st' a a'->Q x.exit a' w')->(Code.rangeFunc g ps assign body).wpIn (Fr r) m P Q a w:=by
     intro ri s x hks hsb hsp hxp hK
     have hobj:∀ id,st.lo id=true->upd h' k .dead id=st.h id:=fun id hid=>by
      have hne:id≠k:=fun e=>by rw[e,hlk]at hid;cases hid
      rw[A0 _ _ hne,hlo id hid,A0 _ _ hne]
     refine⟨x,_,hK,⟨rfl,hobj⟩,fun B r m κ a w Q sim hQ=>wpIn_rangeFunc fun fnid _=>?_⟩
     obtain⟨l,mark,W,rec,hrun,hl,r1,r2,r3,r4,r5,r6,okW,eW,dW⟩:=j5z sim fnid ps assign body
     have hgv:=L4 sim.env g
     obtain⟨fn,hf1,hf2,hf3⟩:=hC.ic.fn f hin
     obtain⟨d,us,vs,hd1,hd2,hul,hvl,hur,hvr⟩:=j56 (P:=P) (l:=l) hg hf1 hf2 hf3 hgv (W.alloc (.loop rec))
     refine⟨l,mark,_,d,_,f,_,_,hrun,hd1,fun _ _=>trivial,hd2,fun h=>by simp[Fr]at h,?_⟩
     let ri0:RI:={ ρ:=st.ρ,n:=st.n,ps:=ps.toList,assign,body }
     have e2:=N4 (L:=L) (κ:=κ) (h:=st.h) (w:=W) (.loop rec) (id:=k) (.lrec ri0 .ready) 0 hfr
     have ok2:HeapOK L w0 (upd κ k (some (W.heap.size,0))) (upd st.h k (.lrec ri0 .ready)) (W.alloc (.loop rec)) :=
      S4 okW (.loop rec) (.lrec ri0 .ready) 0 hfr ⟨W.heap.size,0,rec,A1 _ _ _,World.alloc_heap_new W _,r1,r2,by rw[r4],r5,r6,by rw[r3];exact sim.size,fun t=>by
       rw[r3];exact RepAV.ext (eW.trans e2) (sim.env t)⟩
     refine CallsIn.mono (q9f (hcall _ (W.alloc (.loop rec)) (us++Value.func (.yield l) #[] #[]::vs) (by simp[hul,hvl]) (fun i av v hi hv=>?_) ok2 (m-1))) fun e w3 hend3=>?_
     ·by_cases hlt:i<pre.length
      ·rw[List.getElem?_append_left hlt]at hi
       rw[List.getElem?_append_left (by omega)]at hv
       exact RepAV.ext (eW.trans e2) (hur i av v hi hv)
      ·rw[List.getElem?_append_right (by omega)]at hi hv
       rw[hul]at hv
       cases hd:i-pre.length with
       | zero =>
        rw[hd]at hi hv
        simp only[List.getElem?_cons_zero,Option.some.injEq]at hi hv
        subst hi;subst hv
        exact⟨by rw[A1];simp,W.heap.size,0,A1 _ _ _,by rw[hl]⟩
       | succ q =>
        rw[hd]at hi hv
        exact RepAV.ext (eW.trans e2) (hvr q av v (by simpa using hi) (by simpa using hv))
     ·obtain⟨v,κ3,hev,ok3,-,e3⟩:∃ v κ3,e=.returned v/\HeapOK L w0 κ3 h' w3/\RepAV L κ3 h' w3 av v/\Ext L (upd κ k (some (W.heap.size,0))) (upd st.h k (.lrec ri0 .ready)) (W.alloc (.loop rec)) κ3 h' w3:=by
       rcases hend3 with h | ⟨T,κ',hav,-⟩
       ·exact h
       ·rw[hav]at hnp;cases hnp
      subst hev
      have hpl:κ3 k=some (W.heap.size,0):=(e3.place k (by rw[A1];simp)).trans (A1 _ _ _)
      have ho3:=ok3.obj k
      rw[hks]at ho3
      obtain⟨b,c,rc,p1,p2,p3,p4,p5,p6,p7,p8,p9⟩:=ho3
      rw[hpl]at p1
      cases p1
      have hend:=run_endLoop (P:=P) p2 (by rw[p3];exact hsb)
      have hsize:(w3.putObj W.heap.size (.loop { rc with state:=.exhausted })).heap.size=w3.heap.size:=by simp
      have hlt:W.heap.size<w3.heap.size:=(Array.getElem?_eq_some_iff.1 p2).1
      have hnew:(w3.putObj W.heap.size (.loop { rc with state:=.exhausted })).heap[W.heap.size]? = some (.loop { rc with state:=.exhausted }):=World.putObj_heap_same hlt
      have hoth:∀ b',b'≠W.heap.size->(w3.putObj W.heap.size (.loop { rc with state:=.exhausted })).heap[b']? = w3.heap[b']?:=fun b' hb=>World.putObj_heap_other hb
      have hlike:(h' k).like (.lrec ri (.over x)):=by rw[hks];exact rfl
      have e4:=N5 (L:=L) (κ:=κ3) (h:=h') hpl hlike (.inr ⟨rc,_,p2,hnew⟩) hsize hoth
      have hown:=ok3.own k W.heap.size 0 (by rw[hks];rfl) hpl
      have ok4:=P3 ok3 hpl hlike hsize hoth (ok3.below.trans ⟨rfl,rfl,rfl,by simp,fun b' hb=>hoth b' (by omega),Nat.le_refl _⟩)
       ⟨W.heap.size,0,_,hpl,hnew,rfl,by rw[p4,hsp];rfl,p5,p6,p7,p8,fun t=>RepAV.ext e4 (p9 t)⟩
      have hg4:(upd h' k (.lrec ri (.over x)) k).gone .dead:=by rw[A1];simp[AObj.gone]
      have ok5:=X1 ok4 hg4
      have e5:=S2 (L:=L) (κ:=κ3) (w:=w3.putObj W.heap.size (.loop { rc with state:=.exhausted })) hg4
      have huu:upd (upd h' k (.lrec ri (.over x))) k .dead=upd h' k .dead:=by
       funext j
       by_cases hj:j=k
       ·subst hj;rw[A1,A1]
       ·rw[A0 _ _ hj,A0 _ _ hj,A0 _ _ hj]
      rw[huu]at ok5 e5
      have eW5:=e2.trans (e3.trans (e4.trans e5))
      have eT:=eW.trans eW5
      have hq:=hQ κ3 { a with defers:=mark++a.defers } _ ⟨sim.size,fun t=>RepAV.ext eT (sim.env t),ok5,dW.keep eW5.size eW5.defs,fun l hl=>by
       obtain⟨l',h4⟩:=sim.rnd l hl
       exact eT.loops l l' h4⟩ eT ⟨rfl,rfl,rfl,fun _ _=>⟨rfl,rfl⟩,hobj⟩
      refine⟨rc.pending,_,by rw[hl];exact hend,?_⟩
      rw[p4.trans hsp]at hq ⊢
      cases x with
      | nrm=>exact hq
      | ex id=>exact wpIn_exit hq
      | ret=>exact wpIn_ret hq
      | pan T=>cases hxp
    split at hk
    ·rename_i ri hks
     exact fin ri .ready .nrm hks (by intro h;cases h) rfl rfl hk
    ·rename_i ri x hks
     obtain⟨hxp,hk⟩:=A7 hk
     exact fin ri (.left x) x hks (by intro h;cases h) rfl hxp hk
    ·cases hk
   ·cases he
  ·cases he
 | .scope x=>fun an R st K z he=>by
  obtain⟨x1,st1,hk,hlo,hrun⟩:=M6 hC hmix ib x an R st K z he
  refine⟨x1,st1,hk,hlo,fun B r m κ a w Q sim hQ=>j39 (hrun B r m κ a w _ sim fun κ' a' w' s e l=>?_)⟩
  have hq:=hQ κ' a' w' s e l
  cases x1<;>exact hq
 | .goto _=>fun an R st K z he=>by cases he
 | .refuse _=>fun an R st K z he=>by cases he
end Go.Abs
