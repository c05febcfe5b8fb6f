/- The engine, part 18: code is sound. -/
import Derived.Test.YteeaadgpkammdaaGreatDoorAbsCode
namespace Go.Abs
open Go Go.RowKit
variable {P:Program} {L:Nat->Prop} {w0:World}
def XK.exit:XK->Exit
 | .nrm=>.normal
 | .ex id=>.exit id
 | .ret=>.ret
theorem L3:∀ (l:List LI) (y:D3 l) (ρ:Env) (t:Nat),t∉E6 l->F8 l y ρ t=ρ t
 | [],_,_,_,_=>rfl
 | .tmp s ty::r,y,ρ,t,h=>by
  simp only[E6,List.mem_cons,not_or]at h
  simp only[F8]
  rw[A0 _ _ h.1];exact L3 r y.2 ρ t h.2
 | .own s id::r,y,ρ,t,h=>by
  simp only[E6,List.mem_cons,not_or]at h
  simp only[F8]
  rw[A0 _ _ h.1];exact L3 r y ρ t h.2
 | .arr _ _ _ _::r,y,ρ,t,h=>L3 r y.2 ρ t h
 | .arrS _ _ _::r,y,ρ,t,h=>L3 r y.2 ρ t h
 | .cel _ _::r,y,ρ,t,h=>L3 r y.2 ρ t h
 | .rng _ _::r,y,ρ,t,h=>L3 r y ρ t h
 | .ptr s id::r,y,ρ,t,h=>by
  simp only[E6,List.mem_cons,not_or]at h
  simp only[F8]
  rw[A0 _ _ h.1];exact L3 r y ρ t h.2
 | .celN _ _ _::r,y,ρ,t,h=>L3 r y.2 ρ t h
 | .mapS _ _ _ _ _::r,y,ρ,t,h=>L3 r y.2 ρ t h
 | .mpt s id::r,y,ρ,t,h=>by
  simp only[E6,List.mem_cons,not_or]at h
  simp only[F8]
  rw[A0 _ _ h.1];exact L3 r y ρ t h.2
 | .mapN _ _ _ _ _ _::r,y,ρ,t,h=>L3 r y.2 ρ t h
 | .nlp s::r,y,ρ,t,h=>by
  simp only[E6,List.mem_cons,not_or]at h
  simp only[F8]
  rw[A0 _ _ h.1];exact L3 r y ρ t h.2
 | .nlm s::r,y,ρ,t,h=>by
  simp only[E6,List.mem_cons,not_or]at h
  simp only[F8]
  rw[A0 _ _ h.1];exact L3 r y ρ t h.2
 | .itr _ _ _ _ _::r,y,ρ,t,h=>L3 r y.2.2 ρ t h
 | .arrDS _ _ _::r,y,ρ,t,h=>L3 r y.2 ρ t h
 | .mapDS _ _ _ _::r,y,ρ,t,h=>L3 r y.2 ρ t h
 | .subS s _::r,y,ρ,t,h=>by
  simp only[E6,List.mem_cons,not_or]at h
  simp only[F8]
  rw[A0 _ _ h.1];exact L3 r y.2.2 ρ t h.2
theorem L2:∀ (l:List LI) (y:D3 l) (h:Heap) (id:Nat),id∉G6 l->id∉D7 l->C8 l y h id=h id
 | [],_,_,_,_,_=>rfl
 | .tmp _ _::r,y,h,id,h1,h2=>L2 r y.2 h id h1 h2
 | .own _ _::r,y,h,id,h1,h2=>L2 r y h id h1 h2
 | .arr i e t s::r,y,h,id,h1,h2=>by
  simp only[G6,List.mem_cons,not_or]at h1
  simp only[C8]
  rw[A0 _ _ h1.1];exact L2 r y.2 h id h1.2 h2
 | .arrS i e t::r,y,h,id,h1,h2=>by
  simp only[D7,List.mem_cons,not_or]at h2
  simp only[C8]
  rw[A0 _ _ h2.1];exact L2 r y.2 h id h1 h2.2
 | .cel i cs::r,y,h,id,h1,h2=>by
  simp only[D7,List.mem_cons,not_or]at h2
  simp only[C8]
  rw[A0 _ _ h2.1];exact L2 r y.2 h id h1 h2.2
 | .rng i st::r,y,h,id,h1,h2=>by
  simp only[D7,List.mem_cons,not_or]at h2
  simp only[C8]
  rw[A0 _ _ h2.1];exact L2 r y h id h1 h2.2
 | .ptr _ _::r,y,h,id,h1,h2=>L2 r y h id h1 h2
 | .celN i cs s::r,y,h,id,h1,h2=>by
  simp only[G6,List.mem_cons,not_or]at h1
  simp only[C8]
  rw[A0 _ _ h1.1];exact L2 r y.2 h id h1.2 h2
 | .mapS i _ _ _ _::r,y,h,id,h1,h2=>by
  simp only[D7,List.mem_cons,not_or]at h2
  simp only[C8]
  rw[A0 _ _ h2.1];exact L2 r y.2 h id h1 h2.2
 | .mpt _ _::r,y,h,id,h1,h2=>L2 r y h id h1 h2
 | .nlp _::r,y,h,id,h1,h2=>L2 r y h id h1 h2
 | .nlm _::r,y,h,id,h1,h2=>L2 r y h id h1 h2
 | .subS _ _::r,y,h,id,h1,h2=>L2 r y.2.2 h id h1 h2
 | .itr i _ _ _ _::r,y,h,id,h1,h2=>by
  simp only[D7,List.mem_cons,not_or]at h2
  simp only[C8]
  rw[A0 _ _ h2.1];exact L2 r y.2.2 h id h1 h2.2
 | .arrDS i _ _::r,y,h,id,h1,h2=>by
  simp only[D7,List.mem_cons,not_or]at h2
  simp only[C8]
  rw[A0 _ _ h2.1];exact L2 r y.2 h id h1 h2.2
 | .mapDS i _ _ _::r,y,h,id,h1,h2=>by
  simp only[D7,List.mem_cons,not_or]at h2
  simp only[C8]
  rw[A0 _ _ h2.1];exact L2 r y.2 h id h1 h2.2
 | .mapN i _ _ _ _ s::r,y,h,id,h1,h2=>by
  simp only[G6,List.mem_cons,not_or]at h1
  simp only[C8]
  rw[A0 _ _ h1.1];exact L2 r y.2 h id h1.2 h2
theorem q7n {b:List Nat} {id:Nat} (h:id∉b):D9 b id=false:=by
 cases hq:D9 b id with
 | true=>exact absurd (memb_iff.1 hq) h
 | false=>rfl
theorem y61 {R:Type} {st0 st1:St} {mt mo sr stat:List Nat} {l:List LI} {K:D3 l->Option R} {z:R} (he:q4d st1 mt mo sr stat l K=some z) (y:D3 l) :
  (∀ t,t∉mt->(C3 st0 mt mo sr l y).ρ t=st0.ρ t)/\∀ id,id∉mo->id∉sr->id∉stat->(C3 st0 mt mo sr l y).h id=st0.h id:=by
 unfold q4d at he
 split at he
 ·obtain⟨hc,-⟩:=B1 he
  simp only[Bool.and_eq_true]at hc
  obtain⟨wnew,wslot,wstat,-⟩:=y0z hc.1.1.1
  refine⟨fun t ht=>?_,fun id h1 h2 h3=>?_⟩
  ·show F8 l y _ t=_
   rw[L3 _ _ _ _ (fun h=>ht (wslot t h)),q7n ht];rfl
  ·show C8 l y _ id=_
   rw[L2 _ _ _ _ (fun h=>h1 (wnew id h)) (fun h=>h3 ((wstat id).2 h)),q7n h1,q7n h2];rfl
 ·cases he
theorem z0j {R:Type} {st0 st1:St} {mt mo sr stat:List Nat} {l:List LI} {K:D3 l->Option R} {z:R} (he:L4 st1 mt mo sr stat l K=some z) (y:D3 l) :
  (∀ t,t∉mt->(C3 st0 mt mo sr l y).ρ t=st0.ρ t)/\∀ id,id∉mo->id∉sr->id∉stat->(C3 st0 mt mo sr l y).h id=st0.h id:=by
 obtain⟨v,-,-,he1⟩:=j40 (L:=fun _=>False) (w0:=default) he
 exact y61 he1 y
theorem j4g {h:Heap} {lo:Nat->Bool}:∀ {l:List Nat},z0o h lo l=true->∀ id∈l,h id=.fresh/\lo id=false
 | [],_,_,hm=>by cases hm
 | i::r,he,id,hm=>by
  simp only[z0o,Bool.and_eq_true]at he
  rcases List.mem_cons.1 hm with rfl | hm
  ·have h1:=he.1
   split at h1
   ·rename_i hf;exact⟨hf,by simpa using h1⟩
   ·cases h1
  ·exact j4g he.2 id hm
theorem z2b {p:Nat->Bool}:∀ {l:List Nat},q4v p l=true->∀ x∈l,p x=false
 | [],_,_,hm=>by cases hm
 | i::r,he,x,hm=>by
  simp only[q4v,Bool.and_eq_true,Bool.not_eq_true']at he
  rcases List.mem_cons.1 hm with rfl | hm
  ·exact he.1
  ·exact z2b he.2 x hm
structure Room (st:St) (mt mo sr stat:List Nat):Prop where
 mo:∀ id∈mo,st.h id=.fresh/\st.lo id=false
 mt:∀ t∈mt,st.lt t=false
 sr:∀ id∈sr,st.lo id=false
 stat:∀ id∈stat,st.lo id=false
theorem z4f {st:St} {mt mo sr stat:List Nat} (h:q5c st mt mo sr stat=true):Room st mt mo sr stat:=by
 simp only[q5c,Bool.and_eq_true]at h
 exact⟨j4g h.1.1.1,z2b h.1.1.2,z2b h.1.2,z2b h.2⟩
theorem q8y {B:Nat} {r:Option Nat} {κ:A3} {st:St} {a:Act} {w:World} (sim:Sim P L w0 B r κ st a w) (mt ob:List Nat):Sim P L w0 B r κ (Q7 st mt ob) a w :=
 ⟨sim.size,sim.env,sim.heap,sim.defs,sim.rnd⟩
theorem q4e {R:Type} {st st':St} {mt mo sr stat:List Nat} {l:List LI} {K:D3 l->Option R} {z:R} (he:L4 st' mt mo sr stat l K=some z) (room:Room st mt mo sr stat) :
  ∃ y,K y=some z/\(∀ id,st.lo id=true->(C3 st mt mo sr l y).h id=st.h id)/\(∀ id,id∉mo->id∉sr->id∉stat->(C3 st mt mo sr l y).h id=st.h id)/\(∀ id∈stat,(∃ ak av tk tv l c,st'.h id=.iter ak av tk tv l c)->(C3 st mt mo sr l y).h id=st'.h id) /\
   ∀ {B:Nat} {r:Option Nat} {κ0 κ':A3} {a0 a':Act} {v0 w':World},Sim P L w0 B r κ0 st a0 v0->Sim P L w0 B r κ' st' a' w'->Ext L κ0 st.h v0 κ' st'.h w' ->
  (∀ t,t∉mt->a'.tmps.getD t undef=a0.tmps.getD t undef)->(∀ id,id∉mo->id∉sr->id∉stat->st'.h id=st.h id)->st'.n=st.n ->
  ∃ κ2,Sim P L w0 B r κ2 (C3 st mt mo sr l y) a' w'/\Ext L κ0 st.h v0 κ2 (C3 st mt mo sr l y).h w'/\Locks st (C3 st mt mo sr l y) a0 a':=by
 obtain⟨y,hy,hit,hs⟩:=j3z (P:=P) (L:=L) (w0:=w0) (st0:=st) he
 obtain⟨f1,f2⟩:=z0j (st0:=st) he y
 have hlo:∀ id,st.lo id=true->(C3 st mt mo sr l y).h id=st.h id:=fun id hid =>
  f2 id (fun h=>by have:=(room.mo id h).2;rw[hid]at this;cases this) (fun h=>by have:=room.sr id h;rw[hid]at this;cases this) (fun h=>by have:=room.stat id h;rw[hid]at this;cases this)
 refine⟨y,hy,hlo,f2,hit,fun {B r κ0 κ' a0 a' v0 w'} sim0 sim' ext htm hoo hn=>?_⟩
 obtain⟨κ2,h1,h2,-⟩:=hs B r κ0 a0 v0 κ' a' w' sim0 sim' ext htm hoo (fun id hid=>(room.mo id hid).1) hn
 refine⟨κ2,h1,h2,⟨rfl,rfl,rfl,fun t ht=>?_,hlo⟩⟩
 have hnt:t∉mt:=fun h=>by have:=room.mt t h;rw[ht]at this;cases this
 exact⟨f1 t hnt,htm t hnt⟩
theorem q7k {st st':St} {mt ob:List Nat} {a a':Act} (lk:Locks (Q7 st mt ob) st' a a') {t:Nat} (ht:t∉mt):a'.tmps.getD t undef=a.tmps.getD t undef :=
 (lk.tmp t (by show(st.lt t||!D9 mt t)=true;rw[q7n ht];simp)).2
theorem q7j {st st':St} {mt ob:List Nat} {a a':Act} (lk:Locks (Q7 st mt ob) st' a a') {id:Nat} (hi:id∉ob):st'.h id=st.h id :=
 lk.obj id (by show(st.lo id||!D9 ob id)=true;rw[q7n hi];simp)
theorem q7y {S:Type} {st':St} {mt mo sr stat:List Nat} {x:XK}:∀ (es:q0r) (g:M2 es->S) (o:S),P1 st' mt mo sr stat x es g=some o ->
  ∃ (l:List LI) (f:D3 l->M2 es),L4 st' mt mo sr stat l (fun y=>some (g (f y)))=some o/\∀ (R:Type) (st:St) (K:XK->St->Option R) (y:D3 l),q2q st mt mo sr K es (f y)=K x (C3 st mt mo sr l y)
 | [],_,o,he=>by cases he
 | (k,l)::r,g,o,he=>by
  simp only[P1]at he
  cases hk:(XK.beq k x&&z4e st'.h l)with
  | true =>
   rw[hk,cond_true]at he
   rw[Bool.and_eq_true]at hk
   have hkx:=XK.beq_eq hk.1
   subst hkx
   exact⟨l,fun y=>.inl y,he,fun R st K y=>rfl⟩
  | false =>
   rw[hk,cond_false]at he
   obtain⟨l',f,h1,h2⟩:=q7y r _ o he
   exact⟨l',fun y=>.inr (f y),h1,fun R st K y=>h2 R st K y⟩
def q9k (P:Program) (L:Nat->Prop) (w0:World) (c:Code) (g:Ann->(R:Type)->St->(XK->St->Option R)->Option R):Prop :=
 ∀ (an:Ann) (R:Type) (st:St) (K:XK->St->Option R) (z:R),g an R st K=some z->∃ x st',K x st'=some z/\SL st st' /\
  ∀ (B:Nat) (r:Option Nat) (m:Nat) κ a w (Q:Exit->Act->World->Prop),Sim P L w0 B r κ st a w ->
  (∀ κ' a' w',Sim P L w0 B r κ' st' a' w'->Ext L κ st.h w κ' st'.h w'->Locks st st' a a'->Q x.exit a' w')->c.wpIn (Fr r) m P Q a w
theorem z8z {c:Code} {g:Ann->(R:Type)->St->(XK->St->Option R)->Option R} (hg:q9k P L w0 c g):q9k P L w0 c (q7b g):=by
 intro an R st K z he
 unfold q7b at he
 split at he
 ·rename_i mt mo sr stat exits p
  obtain⟨hroom,he⟩:=B1 he
  have room:=z4f hroom
  obtain⟨o,ho,hres⟩:=Option.bind_eq_some_iff.1 he
  obtain⟨x,st',hk,hlo,hrun⟩:=hg p _ _ _ o ho
  obtain⟨l,f,hx,hr⟩:=q7y exits _ o hk
  obtain⟨y,hy,hlo2,-,-,hend⟩:=q4e (P:=P) (L:=L) (w0:=w0) hx room
  refine⟨x,C3 st mt mo sr l y,?_,⟨rfl,hlo2⟩,fun B r m κ a w Q sim hQ=>?_⟩
  ·rw[<-hr R st K y];cases hy;exact hres
  ·refine hrun B r m κ a w Q (q8y sim _ _) fun κ' a' w' sim' ext' lk=>?_
   obtain⟨κ2,s2,e2,l2⟩:=hend sim sim' ext' (fun t ht=>q7k lk ht) (fun id h1 h2 h3=>q7j lk (by simp[h1,h2,h3])) lk.n
   exact hQ κ2 a' w' s2 e2 l2
 ·exact hg _ _ _ _ _ he
theorem z08 {c:Code} (x:XK) (h:∀ {r:Option Nat} {m:Nat} {Q:Exit->Act->World->Prop} {a:Act} {w:World},Q x.exit a w->c.wpIn (Fr r) m P Q a w):q9k P L w0 c fun _ _ st K=>K x st :=
 fun _ _ st _ _ he=>⟨x,st,he,SL.refl _,fun _ _ _ κ a w _ sim hQ=>h (hQ κ a w sim (Ext.refl _ _ _ _) (Locks.refl _ _))⟩
theorem j44 {κ:A3} {h:Heap} {w:World} (o:Obj):Ext L κ h w κ h (w.alloc o) where
 place _ _:=rfl
 kid _ hd:=hd
 arrD _ _ _ l f hl:=.inl ⟨l,f,rfl,hl⟩
 dead _ hd:=hd
 cells _ l hl:=.inl ⟨l,hl⟩
 arr _ _ _ l hl:=.inl ⟨l,rfl,.inl hl⟩
 ice _ _ _ _ hl:=.inl hl
 lrec _ _ s hl:=.inl ⟨s,hl⟩
 maps _ hl:=.inl hl
 iter _ _ _ _ _ l c hl:=.inl ⟨l,c,hl⟩
 still b hb:=⟨⟨by have:=hb.1;simp;omega,hb.2⟩,S3 w o (by have:=hb.1;omega)⟩
 size:=by simp
 loops b r hr:=⟨r,(S3 w o (by have:=(Array.getElem?_eq_some_iff.1 hr).1;omega)).trans hr⟩
 defs b hr:=(S3 w o (by have:=(Array.getElem?_eq_some_iff.1 hr).1;omega)).trans hr
theorem y6w {κ:A3} {h:Heap} {w:World} (ok:HeapOK L w0 κ h w) (o:Obj):HeapOK L w0 κ h (w.alloc o) where
 obj id:=by
  by_cases hd:h id=.dead\/h id=.fresh
  ·rcases hd with hd | hd<;>rw[hd]<;>trivial
  ·exact RepObj.ext (j44 o) rfl (fun b c hk=>S3 w o (by have:=z2d ok (fun h=>hd (.inl h)) (fun h=>hd (.inr h)) hk;omega)) (fun _=>rfl) (fun n b c hk=>S3 w o (by have:=(ok.own (kn id n) b c (by rw[Q5 ok];rfl) hk).2;omega)) (ok.obj id)
 inj:=ok.inj
 own i b c hi hk:=by have:=ok.own i b c hi hk;simp;omega
 below:=ok.below.alloc ok.below.size o
 outer b hL:=⟨by have:=(ok.outer b hL).1;simp;omega,(ok.outer b hL).2⟩
 kids:=ok.kids
theorem y5r {B:Nat} {r:Option Nat} {κ:A3} {st:St} {a:Act} {w:World} (sim:Sim P L w0 B r κ st a w) (fnid:FuncId) (ps:Array Tmp) (assign body:Code) :
  ∃ l mark W rec,(Instr.enterLoop fnid a.tmps ps assign body r).run P w=.ok (l,mark) (World.alloc W (.loop rec))/\l=W.heap.size/\rec.state=.ready/\rec.pending=none/\rec.tmps=a.tmps/\rec.params=ps/\rec.assign=assign/\rec.body=body /\
   HeapOK L w0 κ st.h W/\Ext L κ st.h w κ st.h W/\MarksOK B (mark++a.defers) W:=by
 cases r with
 | none =>
  refine⟨_,_,_,_,run_enterLoop_outer fnid a.tmps ps assign body,by simp,rfl,rfl,rfl,rfl,rfl,rfl,y6w sim.heap _,j44 _,?_⟩
  obtain⟨h0,bs,h1,h2,h3⟩:=sim.defs
  refine⟨by simp;omega,w.heap.size::bs,List.nodup_cons.2 ⟨fun hm=>?_,h1⟩,by rw[h2];rfl,fun b hb=>?_⟩
  ·have:=(Array.getElem?_eq_some_iff.1 (h3 _ hm).2).1
   omega
  ·rcases List.mem_cons.1 hb with rfl | hb
   ·exact⟨h0,World.alloc_heap_new w _⟩
   ·have:=(Array.getElem?_eq_some_iff.1 (h3 _ hb).2).1
    exact⟨(h3 b hb).1,(S3 w _ (by omega)).trans (h3 b hb).2⟩
 | some l0 =>
  obtain⟨r0,hr0⟩:=sim.rnd l0 rfl
  refine⟨w.heap.size,[],w,{ state:=.ready,pending:=none,fn:=fnid,tmps:=a.tmps,params:=ps,assign,body,defers:=r0.defers },?_,rfl,rfl,rfl,rfl,rfl,rfl,rfl,sim.heap,Ext.refl _ _ _ _,sim.defs⟩
  unfold Instr.enterLoop
  simp only[Sem.run_bind,run_getLoop hr0,run_newObj_alloc,Result.andThen,Sem.run_pure]
theorem z9r {a:Act} {g:Operand} {l:Nat} {f:FuncId} {first caps:Array Value} (hg:a.eval g=.func (.func f) first caps) {fn:Func} (hf:P.funcs[f]? = some fn) (hb:fn.body.isSome=true) (hn:(fn.name== "runtime.NumGoroutine")=false) (w:World) :
  ∃ d,(resolve a.eval (rangeCall g l) 0).run P w=.ok d w/\(invoke d.target d.args).run P w=.ok (.enter f (first++#[.func (.yield l) #[] #[]]++caps)) w:=by
 have hc:a.eval (.const (.func (.yield l) #[] #[]))=.func (.yield l) #[] #[]:=rfl
 refine⟨_,by simp[resolve,Deferred.ofValue,hg,hc];rfl,?_⟩
 cases hbb:fn.body with
 | none=>rw[hbb]at hb;cases hb
 | some c=>simpa[invoke,callFunc,hf,hbb]using hn
theorem y4g {a:Act} {g:Operand} {l:Nat} {f:FuncId} {pre post:List AV} {ρ:Env} (hg:q1x (ev ρ g)=some (f,pre,post)) {fn:Func} (hf1:P.funcs[f]? = some fn) (hf2:fn.body.isSome=true) (hf3:(fn.name== "runtime.NumGoroutine")=false)
  {κ:A3} {h:Heap} {w:World} (hgv:RepAV L κ h w (ev ρ g) (a.eval g)) (w1:World) :
  ∃ d,∃ us vs:List Value,(resolve a.eval (rangeCall g l) 0).run P w1=.ok d w1/\(invoke d.target d.args).run P w1=.ok (.enter f (us++Value.func (.yield l) #[] #[]::vs).toArray) w1/\us.length=pre.length/\vs.length=post.length /\
   (∀ (i:Nat) (av:AV) (v:Value),pre[i]? = some av->us[i]? = some v->RepAV L κ h w av v)/\∀ (i:Nat) (av:AV) (v:Value),post[i]? = some av->vs[i]? = some v->RepAV L κ h w av v:=by
 unfold q1x at hg
 split at hg
 ·rename_i f' caps hgf
  cases hg
  rw[hgf]at hgv
  obtain⟨cs,hgv,hcl,hcc⟩:=hgv
  obtain⟨d,hd1,hd2⟩:=z9r (l:=l) hgv hf1 hf2 hf3 w1
  refine⟨d,[],cs,hd1,?_,rfl,by simp[q33,hcl],fun i av v hi=>by simp at hi,fun i av v hi hv=>?_⟩
  ·rw[hd2]
   congr 2
   apply Array.toList_inj.1;simp
  ·simp only[q33,List.getElem?_map,Option.map_eq_some_iff]at hi
   obtain⟨p,hp,rfl⟩:=hi
   obtain⟨hn,b,c,hkb,hc'⟩:=hcc i p hp
   rw[hv]at hc';cases hc'
   exact⟨hn,b,c,hkb,rfl⟩
 ·rename_i f' agg cs hgf
  cases hg
  rw[hgf]at hgv
  obtain⟨us,hgv,h2,h3,h4⟩:=hgv
  obtain⟨d,hd1,hd2⟩:=z9r (l:=l) hgv hf1 hf2 hf3 w1
  refine⟨d,[cond agg (.agg us.toArray) (us.headD undef)],[],hd1,?_,rfl,rfl,fun i av v hi hv=>?_,fun i av v hi=>by simp at hi⟩
  ·rw[hd2]
   congr 2
  ·cases i with
   | zero =>
    simp only[List.getElem?_cons_zero,Option.some.injEq]at hi hv
    subst hi;subst hv
    exact z6f h2 h3 h4
   | succ i=>simp at hi
 ·rename_i f' id off hgf
  cases hg
  rw[hgf]at hgv
  obtain⟨u,hgv,h2,b,c,h3,h4⟩:=hgv
  obtain⟨d,hd1,hd2⟩:=z9r (l:=l) hgv hf1 hf2 hf3 w1
  refine⟨d,[u],[],hd1,?_,rfl,rfl,fun i av v hi hv=>?_,fun i av v hi=>by simp at hi⟩
  ·rw[hd2]
   congr 2
  ·cases i with
   | zero =>
    simp only[List.getElem?_cons_zero,Option.some.injEq]at hi hv
    subst hi;subst hv
    exact⟨h2,b,c,h3,h4⟩
   | succ i=>simp at hi
 ·cases hg
def y8s (Q:Exit->Act->World->Prop):Exit->Act->World->Prop
 | .goto _,_,_=>False
 | e,a,w=>Q e a w
theorem q5n {b:Frame} {a:Act} {k:List Item} {cs:List Frame} {w:World} {c:Code}:step P (lone (b.atR a (.code (.scope c)::k)) cs w)=.next (lone (b.atR a (.code c::.inScope c::k)) cs w) :=
 step_lone_go (by simp[stepG,stepG.exec,Frame.atR])
theorem v5a {b:Frame} {a:Act} {k:List Item} {cs:List Frame} {w:World} {c:Code}:step P (lone (b.atR a (.inScope c::k)) cs w)=.next (lone (b.atR a k) cs w) :=
 step_lone_go (by simp[stepG,stepG.exec,Frame.atR])
theorem y1b {F:Fence} {n:Nat} {c:Code} {Q:Exit->Act->World->Prop} {a:Act} {w:World} (h:c.wpIn F n P (y8s Q) a w):(Code.scope c).wpIn F n P Q a w:=by
 intro b k cs hro hb hr
 have h0:(lone (b.atR a (.code (.scope c)::k)) cs w).fenced P F:=fenced_calm hb hr rfl
 obtain⟨e,a₁,w₁,hq,harr⟩:=h b (.inScope c::k) cs hro hb hr
 cases e with
 | normal=>exact⟨.normal,a₁,w₁,hq,.head h0 q5n (StepsIn.trans harr (.one (fenced_calm hb hr rfl) v5a))⟩
 | exit id =>
  have hx:exitTo id (.inScope c::k)=exitTo id k:=by simp[exitTo]
  exact⟨.exit id,a₁,w₁,hq,fun k' hk=>.head h0 q5n (harr.1 k' (by rw[hx];exact hk)),
   fun hr' hk=>let ⟨k₁,h1,h2⟩:=harr.2 hr' (by rw[hx];exact hk);⟨k₁,h1,.head h0 q5n h2⟩⟩
 | goto l=>exact hq.elim
 | ret=>exact⟨_,a₁,w₁,hq,.of_steps (.one h0 q5n) harr⟩
 | panic ch=>exact⟨_,a₁,w₁,hq,.of_steps (.one h0 q5n) harr⟩
 | outgrown=>exact⟨_,a₁,w₁,hq,.of_steps (.one h0 q5n) harr⟩
theorem R7 {C:Ctx} (hC:CtxOK P L w0 C) (hmix:P.follows .mixedOrders=true) (ib:Nat):∀ (c:Code),q9k P L w0 c (J1 C ib c)
 | .skip=>z08 .nrm wpIn_skip
 | .label _=>z08 .nrm wpIn_label
 | .exit id=>z08 (.ex id) wpIn_exit
 | .ret=>z08 .ret wpIn_ret
 | .region id ops draw=>fun an R st K z he=>by
  obtain⟨st',h1,hlo,h2⟩:=y60 hC hmix (id:=id) (show z0g C (j52 st.h ib ops) ops draw st (fun st'=>K .nrm st')=some z from he)
  exact⟨.nrm,st',h1,hlo,fun B r m κ a w Q sim hQ=>h2 B r κ a w sim m Q hQ⟩
 | .seq x y=>z8z fun an R st K z he=>by
  split at he
  ·rename_i p q
   obtain⟨x1,st1,hk,hlo1,hrun⟩:=R7 hC hmix ib x p R st _ z he
   cases x1 with
   | nrm =>
    obtain⟨x2,st2,hk2,hlo2,hrun2⟩:=R7 hC hmix ib y q R st1 K z hk
    exact⟨x2,st2,hk2,hlo1.trans hlo2,fun B r m κ a w Q sim hQ=>wpIn_seq (hrun B r m κ a w _ sim fun κ' a' w' s e l =>
     hrun2 B r m κ' a' w' Q s fun κ2 a2 w2 s2 e2 l2=>hQ κ2 a2 w2 s2 (e.trans e2) (l.trans l2))⟩
   | ex j=>exact⟨.ex j,st1,hk,hlo1,fun B r m κ a w Q sim hQ=>wpIn_seq (hrun B r m κ a w _ sim hQ)⟩
   | ret=>exact⟨.ret,st1,hk,hlo1,fun B r m κ a w Q sim hQ=>wpIn_seq (hrun B r m κ a w _ sim hQ)⟩
  ·cases he
 | .cond c x y=>z8z fun an R st K z he=>by
  split at he
  ·rename_i p q
   split at he
   ·rename_i t ht
    have hv:∀ B r κ a w,Sim P L w0 B r κ st a w->a.eval c=.bool t:=fun B r κ a w sim=>by
     have hv:=O4 sim.env c
     rw[ht]at hv
     exact q0j hv
    cases t with
    | true =>
     rw[cond_true]at he
     obtain⟨x1,st1,hk,hlo,hrun⟩:=R7 hC hmix ib x p R st K z he
     exact⟨x1,st1,hk,hlo,fun B r m κ a w Q sim hQ=>wpIn_cond_true (hv B r κ a w sim) (hrun B r m κ a w Q sim hQ)⟩
    | false =>
     rw[cond_false]at he
     obtain⟨x1,st1,hk,hlo,hrun⟩:=R7 hC hmix ib y q R st K z he
     exact⟨x1,st1,hk,hlo,fun B r m κ a w Q sim hQ=>wpIn_cond_false (hv B r κ a w sim) (hrun B r m κ a w Q sim hQ)⟩
   ·cases he
  ·cases he
 | .block id x=>z8z fun an R st K z he=>by
  split at he
  ·rename_i p
   obtain⟨x1,st1,hk,hlo,hrun⟩:=R7 hC hmix ib x p R st _ z he
   cases x1 with
   | nrm=>exact⟨.nrm,st1,hk,hlo,fun B r m κ a w Q sim hQ=>wpIn_block (hrun B r m κ a w _ sim hQ)⟩
   | ret=>exact⟨.ret,st1,hk,hlo,fun B r m κ a w Q sim hQ=>wpIn_block (hrun B r m κ a w _ sim hQ)⟩
   | ex j =>
    have hk:cond (Nat.beq j id) (K .nrm st1) (K (.ex j) st1)=some z:=hk
    by_cases hj:j=id
    ·subst hj
     rw[Nat.beq_refl,cond_true]at hk
     refine⟨.nrm,st1,hk,hlo,fun B r m κ a w Q sim hQ=>wpIn_block (hrun B r m κ a w _ sim fun κ' a' w' s e l=>?_)⟩
     show(if j=j then Q .normal a' w' else Q (.exit j) a' w')
     rw[if_pos rfl]
     exact hQ κ' a' w' s e l
    ·have hb:Nat.beq j id=false:=by
      cases hq:Nat.beq j id with
      | true=>exact absurd (Nat.eq_of_beq_eq_true hq) hj
      | false=>rfl
     rw[hb,cond_false]at hk
     refine⟨.ex j,st1,hk,hlo,fun B r m κ a w Q sim hQ=>wpIn_block (hrun B r m κ a w _ sim fun κ' a' w' s e l=>?_)⟩
     show(if j=id then Q .normal a' w' else Q (.exit j) a' w')
     rw[if_neg hj]
     exact hQ κ' a' w' s e l
  ·cases he
 | .loop x=>fun an R st K z he=>by
  unfold J1 at he
  split at he
  ·rename_i mt mo sr stat head exits p
   obtain⟨hroom,he⟩:=B1 he
   have room:=z4f hroom
   obtain⟨y0,hy0,-,-,-,h0⟩:=q4e (P:=P) (L:=L) (w0:=w0) he room
   have frame:∀ y id,id∉mo->id∉sr->id∉stat->(C3 st mt mo sr head y).h id=st.h id:=fun y=>(z0j (st0:=st) he y).2
   obtain⟨o,ho,hres⟩:=Option.bind_eq_some_iff.1 hy0
   obtain⟨n,hn⟩:=loopM_iff.1 ho
   have hh:∀ (n:Nat) (y:D3 head),U5 (fun y=>J1 C ib x p (D3 head⊕M2 exits) (Q7 (C3 st mt mo sr head y) mt (mo++stat)) fun x st'=>match x with
      | .nrm=>L4 st' mt mo sr stat head fun y'=>some (.inl y')
      | x=>P1 st' mt mo sr stat x exits .inr) n y=some o ->
     ∃ x' st',K x' st'=some z/\SL st st'/\∀ (B:Nat) (r:Option Nat) (m:Nat) (κ:A3) (a:Act) (w:World) (Q:Exit->Act->World->Prop),Sim P L w0 B r κ st a w->(∀ κ' a' w',Sim P L w0 B r κ' st' a' w'->Ext L κ st.h w κ' st'.h w'->Locks st st' a a'->Q x'.exit a' w') ->
      ∀ (κ1:A3) (a1:Act) (w1:World),Sim P L w0 B r κ1 (C3 st mt mo sr head y) a1 w1->Ext L κ st.h w κ1 (C3 st mt mo sr head y).h w1->(∀ t,t∉mt->a1.tmps.getD t undef=a.tmps.getD t undef)->Code.roundsIn (Fr r) m P x Q n a1 w1:=by
    intro n
    induction n with
    | zero=>intro y hn;cases hn
    | succ n ih =>
     intro y hn
     simp only[U5]at hn
     generalize hf:J1 C ib x p (D3 head⊕M2 exits) (Q7 (C3 st mt mo sr head y) mt (mo++stat)) (fun x st'=>match x with
      | .nrm=>L4 st' mt mo sr stat head fun y'=>some (.inl y')
      | x=>P1 st' mt mo sr stat x exits .inr)=q at hn
     cases q with
     | none=>cases hn
     | some zz =>
      obtain⟨x1,st1,hk,-,hrun⟩:=R7 hC hmix ib x p _ _ _ zz hf
      have g2:∀ {a1 a':Act},Locks (Q7 (C3 st mt mo sr head y) mt (mo++stat)) st1 a1 a'->∀ id,id∉mo->id∉sr->id∉stat->st1.h id=st.h id:=fun lk id h1 h2 h3=>(q7j lk (by simp[h1,h3])).trans (frame y id h1 h2 h3)
      have fin:x1≠.nrm->P1 st1 mt mo sr stat x1 exits (Sum.inr (α:=D3 head))=some zz->∃ x' st',K x' st'=some z/\SL st st'/\∀ (B:Nat) (r:Option Nat) (m:Nat) (κ:A3) (a:Act) (w:World) (Q:Exit->Act->World->Prop),Sim P L w0 B r κ st a w->(∀ κ' a' w',Sim P L w0 B r κ' st' a' w'->Ext L κ st.h w κ' st'.h w'->Locks st st' a a'->Q x'.exit a' w') ->
        ∀ (κ1:A3) (a1:Act) (w1:World),Sim P L w0 B r κ1 (C3 st mt mo sr head y) a1 w1->Ext L κ st.h w κ1 (C3 st mt mo sr head y).h w1->(∀ t,t∉mt->a1.tmps.getD t undef=a.tmps.getD t undef)->Code.roundsIn (Fr r) m P x Q (n+1) a1 w1:=fun hx1 hk=>by
       obtain⟨l,f,hx,hr⟩:=q7y exits _ zz hk
       obtain⟨y2,hy2,hlo2,-,-,hend⟩:=q4e (P:=P) (L:=L) (w0:=w0) hx room
       cases hy2
       cases hn
       refine⟨x1,C3 st mt mo sr l y2,by rw[<-hr R st K y2];exact hres,⟨rfl,hlo2⟩,fun B r m κ a w Q sim hQ κ1 a1 w1 s1 e1 t1=>?_⟩
       rw[roundsIn_succ]
       refine hrun B r m κ1 a1 w1 _ (q8y s1 _ _) fun κ' a' w' s' e' lk=>?_
       obtain⟨κ2,s2,e2,l2⟩:=hend sim s' (e1.trans e') (fun t ht=>(q7k lk ht).trans (t1 t ht)) (g2 lk) lk.n
       have:=hQ κ2 a' w' s2 e2 l2
       cases x1 with
       | nrm=>exact absurd rfl hx1
       | ex j=>exact this
       | ret=>exact this
      cases x1 with
      | nrm =>
       obtain⟨y2,hy2,-,-,-,hend⟩:=q4e (P:=P) (L:=L) (w0:=w0) (show L4 st1 mt mo sr stat head (fun y'=>some (Sum.inl y'))=some zz from hk) room
       cases hy2
       obtain⟨x',st',h1,h2,h3⟩:=ih y2 hn
       refine⟨x',st',h1,h2,fun B r m κ a w Q sim hQ κ1 a1 w1 s1 e1 t1=>?_⟩
       rw[roundsIn_succ]
       refine hrun B r m κ1 a1 w1 _ (q8y s1 _ _) fun κ' a' w' s' e' lk=>?_
       have g1:∀ t,t∉mt->a'.tmps.getD t undef=a.tmps.getD t undef:=fun t ht=>(q7k lk ht).trans (t1 t ht)
       obtain⟨κ2,s2,e2,-⟩:=hend sim s' (e1.trans e') g1 (g2 lk) lk.n
       exact h3 B r m κ a w Q sim hQ κ2 a' w' s2 e2 g1
      | ex j=>exact fin (by simp) hk
      | ret=>exact fin (by simp) hk
   obtain⟨x',st',h1,h2,h3⟩:=hh n y0 hn
   refine⟨x',st',h1,h2,fun B r m κ a w Q sim hQ=>wpIn_loop_rounds n ?_⟩
   obtain⟨κ0,s0,e0,-⟩:=h0 sim sim (Ext.refl _ _ _ _) (fun _ _=>rfl) (fun _ _ _ _=>rfl) rfl
   exact h3 B r m κ a w Q sim hQ κ0 a w s0 e0 (fun _ _=>rfl)
  ·rename_i p
   obtain⟨x1,st1,hk,hlo1,hrun⟩:=R7 hC hmix ib x p R st _ z he
   cases x1 with
   | nrm=>cases hk
   | ex j=>exact⟨.ex j,st1,hk,hlo1,fun B r m κ a w Q sim hQ=>wpIn_loop_once (hrun B r m κ a w _ sim hQ)⟩
   | ret=>exact⟨.ret,st1,hk,hlo1,fun B r m κ a w Q sim hQ=>wpIn_loop_once (hrun B r m κ a w _ sim hQ)⟩
  ·cases he
 | .rangeFunc g ps assign body=>fun an R st K z he=>by
  unfold J1 at he
  split at he
  ·rename_i k
   split at he
   ·rename_i f pre post hfr hg
    obtain⟨hc,he⟩:=B1 he
    simp only[Bool.and_eq_true,Bool.not_eq_true']at hc
    obtain⟨hlk,hin⟩:=hc
    obtain⟨av,h',hk,hlo,hcall⟩:=hC.ic.ok f _ _ st.lo _ R _ z hin he
    have fin:∀ (ri:RI) (s:RS) (x:XK),h' k=.lrec ri s->s.state≠.busy->s.pend=x.code->K x { st with h:=upd h' k .dead }=some z ->
      ∃ x st',K x st'=some z/\SL st st'/\∀ (B:Nat) (r:Option Nat) (m:Nat) κ a w (Q:Exit->Act->World->Prop),Sim P L w0 B r κ st a w ->
       (∀ κ' a' w',Sim P L w0 B r κ' st' a' w'->Ext L κ st.h w κ' st'.h w'->Locks st st' a a'->Q x.exit a' w')->(Code.rangeFunc g ps assign body).wpIn (Fr r) m P Q a w:=by
     intro ri s x hks hsb hsp hK
     have hobj:∀ id,st.lo id=true->upd h' k .dead id=st.h id:=fun id hid=>by
      have hne:id≠k:=fun e=>by rw[e,hlk]at hid;cases hid
      rw[A0 _ _ hne,hlo id hid,A0 _ _ hne]
     refine⟨x,_,hK,⟨rfl,hobj⟩,fun B r m κ a w Q sim hQ=>wpIn_rangeFunc fun fnid _=>?_⟩
     obtain⟨l,mark,W,rec,hrun,hl,r1,r2,r3,r4,r5,r6,okW,eW,dW⟩:=y5r sim fnid ps assign body
     have hgv:=O4 sim.env g
     obtain⟨fn,hf1,hf2,hf3⟩:=hC.ic.fn f hin
     obtain⟨d,us,vs,hd1,hd2,hul,hvl,hur,hvr⟩:=y4g (P:=P) (l:=l) hg hf1 hf2 hf3 hgv (W.alloc (.loop rec))
     refine⟨l,mark,_,d,_,f,_,_,hrun,hd1,fun _ _=>trivial,hd2,fun h=>by simp[Fr]at h,?_⟩
     let ri0:RI:={ ρ:=st.ρ,n:=st.n,ps:=ps.toList,assign,body }
     have e2:=Q1 (L:=L) (κ:=κ) (h:=st.h) (w:=W) (.loop rec) (id:=k) (.lrec ri0 .ready) 0 hfr
     have ok2:HeapOK L w0 (upd κ k (some (W.heap.size,0))) (upd st.h k (.lrec ri0 .ready)) (W.alloc (.loop rec)) :=
      W9 okW (.loop rec) (.lrec ri0 .ready) 0 hfr ⟨W.heap.size,0,rec,A1 _ _ _,World.alloc_heap_new W _,r1,r2,by rw[r4],r5,r6,by rw[r3];exact sim.size,fun t=>by
       rw[r3];exact RepAV.ext (eW.trans e2) (sim.env t)⟩
     refine CallsIn.mono (j2l (hcall _ (W.alloc (.loop rec)) (us++Value.func (.yield l) #[] #[]::vs) (by simp[hul,hvl]) (fun i av v hi hv=>?_) ok2 (m-1))) fun e w3 ⟨v,κ3,hev,ok3,_,e3⟩=>?_
     ·by_cases hlt:i<pre.length
      ·rw[List.getElem?_append_left hlt]at hi
       rw[List.getElem?_append_left (by omega)]at hv
       exact RepAV.ext (eW.trans e2) (hur i av v hi hv)
      ·rw[List.getElem?_append_right (by omega)]at hi hv
       rw[hul]at hv
       cases hd:i-pre.length with
       | zero =>
        rw[hd]at hi hv
        simp only[List.getElem?_cons_zero,Option.some.injEq]at hi hv
        subst hi;subst hv
        exact⟨by rw[A1];simp,W.heap.size,0,A1 _ _ _,by rw[hl]⟩
       | succ q =>
        rw[hd]at hi hv
        exact RepAV.ext (eW.trans e2) (hvr q av v (by simpa using hi) (by simpa using hv))
     ·subst hev
      have hpl:κ3 k=some (W.heap.size,0):=(e3.place k (by rw[A1];simp)).trans (A1 _ _ _)
      have ho3:=ok3.obj k
      rw[hks]at ho3
      obtain⟨b,c,rc,p1,p2,p3,p4,p5,p6,p7,p8,p9⟩:=ho3
      rw[hpl]at p1
      cases p1
      have hend:=run_endLoop (P:=P) p2 (by rw[p3];exact hsb)
      have hsize:(w3.putObj W.heap.size (.loop { rc with state:=.exhausted })).heap.size=w3.heap.size:=by simp
      have hlt:W.heap.size<w3.heap.size:=(Array.getElem?_eq_some_iff.1 p2).1
      have hnew:(w3.putObj W.heap.size (.loop { rc with state:=.exhausted })).heap[W.heap.size]? = some (.loop { rc with state:=.exhausted }):=World.putObj_heap_same hlt
      have hoth:∀ b',b'≠W.heap.size->(w3.putObj W.heap.size (.loop { rc with state:=.exhausted })).heap[b']? = w3.heap[b']?:=fun b' hb=>World.putObj_heap_other hb
      have hlike:(h' k).like (.lrec ri (.over x)):=by rw[hks];exact rfl
      have e4:=R8 (L:=L) (κ:=κ3) (h:=h') hpl hlike (.inr ⟨rc,_,p2,hnew⟩) hsize hoth
      have hown:=ok3.own k W.heap.size 0 (by rw[hks];rfl) hpl
      have ok4:=U3 ok3 hpl hlike hsize hoth (ok3.below.trans ⟨rfl,rfl,rfl,by simp,fun b' hb=>hoth b' (by omega),Nat.le_refl _⟩)
       ⟨W.heap.size,0,_,hpl,hnew,rfl,by rw[p4,hsp];rfl,p5,p6,p7,p8,fun t=>RepAV.ext e4 (p9 t)⟩
      have hg4:(upd h' k (.lrec ri (.over x)) k).gone .dead:=by rw[A1];simp[AObj.gone]
      have ok5:=q14 ok4 hg4
      have e5:=W7 (L:=L) (κ:=κ3) (w:=w3.putObj W.heap.size (.loop { rc with state:=.exhausted })) hg4
      have huu:upd (upd h' k (.lrec ri (.over x))) k .dead=upd h' k .dead:=by
       funext j
       by_cases hj:j=k
       ·subst hj;rw[A1,A1]
       ·rw[A0 _ _ hj,A0 _ _ hj,A0 _ _ hj]
      rw[huu]at ok5 e5
      have eW5:=e2.trans (e3.trans (e4.trans e5))
      have eT:=eW.trans eW5
      have hq:=hQ κ3 { a with defers:=mark++a.defers } _ ⟨sim.size,fun t=>RepAV.ext eT (sim.env t),ok5,dW.keep eW5.size eW5.defs,fun l hl=>by
       obtain⟨l',h4⟩:=sim.rnd l hl
       exact eT.loops l l' h4⟩ eT ⟨rfl,rfl,rfl,fun _ _=>⟨rfl,rfl⟩,hobj⟩
      refine⟨rc.pending,_,by rw[hl];exact hend,?_⟩
      rw[p4.trans hsp]at hq ⊢
      cases x with
      | nrm=>exact hq
      | ex id=>exact wpIn_exit hq
      | ret=>exact wpIn_ret hq
    split at hk
    ·rename_i ri hks
     exact fin ri .ready .nrm hks (by intro h;cases h) rfl hk
    ·rename_i ri x hks
     exact fin ri (.left x) x hks (by intro h;cases h) rfl hk
    ·cases hk
   ·cases he
  ·cases he
 | .scope x=>fun an R st K z he=>by
  obtain⟨x1,st1,hk,hlo,hrun⟩:=R7 hC hmix ib x an R st K z he
  refine⟨x1,st1,hk,hlo,fun B r m κ a w Q sim hQ=>y1b (hrun B r m κ a w _ sim fun κ' a' w' s e l=>?_)⟩
  have hq:=hQ κ' a' w' s e l
  cases x1<;>exact hq
 | .goto _=>fun an R st K z he=>by cases he
 | .refuse _=>fun an R st K z he=>by cases he
end Go.Abs
