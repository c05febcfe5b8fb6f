/- The engine, part 18: code is sound. -/
import Derived.Test.YtppblbacbmebfaaGreatDoorAbsCode
namespace Go.Abs
open Go Go.RowKit
variable {P:Program} {L:Nat->Prop} {w0:World}
theorem L6:∀ (l:List LI) (y:D5 l) (ρ:Env) (t:Nat),t∉F4 l->G1 l y ρ t=ρ t
 | [],_,_,_,_=>rfl
 | .tmp s ty::r,y,ρ,t,h=>by
  simp only[F4,List.mem_cons,not_or]at h
  simp only[G1]
  rw[A0 _ _ h.1];exact L6 r y.2 ρ t h.2
 | .own s id::r,y,ρ,t,h=>by
  simp only[F4,List.mem_cons,not_or]at h
  simp only[G1]
  rw[A0 _ _ h.1];exact L6 r y ρ t h.2
 | .arr _ _ _ _::r,y,ρ,t,h=>L6 r y.2 ρ t h
 | .arrS _ _ _::r,y,ρ,t,h=>L6 r y.2 ρ t h
 | .cel _ _::r,y,ρ,t,h=>L6 r y.2 ρ t h
 | .rng _ _::r,y,ρ,t,h=>L6 r y ρ t h
 | .ptr s id::r,y,ρ,t,h=>by
  simp only[F4,List.mem_cons,not_or]at h
  simp only[G1]
  rw[A0 _ _ h.1];exact L6 r y ρ t h.2
 | .celN _ _ _::r,y,ρ,t,h=>L6 r y.2 ρ t h
 | .mapS _ _ _ _ _::r,y,ρ,t,h=>L6 r y.2 ρ t h
 | .mpt s id::r,y,ρ,t,h=>by
  simp only[F4,List.mem_cons,not_or]at h
  simp only[G1]
  rw[A0 _ _ h.1];exact L6 r y ρ t h.2
 | .mapN _ _ _ _ _ _::r,y,ρ,t,h=>L6 r y.2 ρ t h
 | .nlp s::r,y,ρ,t,h=>by
  simp only[F4,List.mem_cons,not_or]at h
  simp only[G1]
  rw[A0 _ _ h.1];exact L6 r y ρ t h.2
 | .nlm s::r,y,ρ,t,h=>by
  simp only[F4,List.mem_cons,not_or]at h
  simp only[G1]
  rw[A0 _ _ h.1];exact L6 r y ρ t h.2
 | .itr _ _ _ _ _::r,y,ρ,t,h=>L6 r y.2.2 ρ t h
 | .arrDS _ _ _::r,y,ρ,t,h=>L6 r y.2 ρ t h
 | .mapDS _ _ _ _::r,y,ρ,t,h=>L6 r y.2 ρ t h
 | .arrKS _ _ _ _ _::r,y,ρ,t,h=>L6 r y.2.2 ρ t h
 | .arrKN _ _ _ _ _ _::r,y,ρ,t,h=>L6 r y.2.2 ρ t h
 | .subS s _::r,y,ρ,t,h=>by
  simp only[F4,List.mem_cons,not_or]at h
  simp only[G1]
  rw[A0 _ _ h.1];exact L6 r y.2.2 ρ t h.2
theorem L5:∀ (l:List LI) (y:D5 l) (h:Heap) (id:Nat),id∉G0 l->id∉D9 l->C6 l y h id=h id
 | [],_,_,_,_,_=>rfl
 | .tmp _ _::r,y,h,id,h1,h2=>L5 r y.2 h id h1 h2
 | .own _ _::r,y,h,id,h1,h2=>L5 r y h id h1 h2
 | .arr i e t s::r,y,h,id,h1,h2=>by
  simp only[G0,List.mem_cons,not_or]at h1
  simp only[C6]
  rw[A0 _ _ h1.1];exact L5 r y.2 h id h1.2 h2
 | .arrS i e t::r,y,h,id,h1,h2=>by
  simp only[D9,List.mem_cons,not_or]at h2
  simp only[C6]
  rw[A0 _ _ h2.1];exact L5 r y.2 h id h1 h2.2
 | .cel i cs::r,y,h,id,h1,h2=>by
  simp only[D9,List.mem_cons,not_or]at h2
  simp only[C6]
  rw[A0 _ _ h2.1];exact L5 r y.2 h id h1 h2.2
 | .rng i st::r,y,h,id,h1,h2=>by
  simp only[D9,List.mem_cons,not_or]at h2
  simp only[C6]
  rw[A0 _ _ h2.1];exact L5 r y h id h1 h2.2
 | .ptr _ _::r,y,h,id,h1,h2=>L5 r y h id h1 h2
 | .celN i cs s::r,y,h,id,h1,h2=>by
  simp only[G0,List.mem_cons,not_or]at h1
  simp only[C6]
  rw[A0 _ _ h1.1];exact L5 r y.2 h id h1.2 h2
 | .mapS i _ _ _ _::r,y,h,id,h1,h2=>by
  simp only[D9,List.mem_cons,not_or]at h2
  simp only[C6]
  rw[A0 _ _ h2.1];exact L5 r y.2 h id h1 h2.2
 | .mpt _ _::r,y,h,id,h1,h2=>L5 r y h id h1 h2
 | .nlp _::r,y,h,id,h1,h2=>L5 r y h id h1 h2
 | .nlm _::r,y,h,id,h1,h2=>L5 r y h id h1 h2
 | .subS _ _::r,y,h,id,h1,h2=>L5 r y.2.2 h id h1 h2
 | .itr i _ _ _ _::r,y,h,id,h1,h2=>by
  simp only[D9,List.mem_cons,not_or]at h2
  simp only[C6]
  rw[A0 _ _ h2.1];exact L5 r y.2.2 h id h1 h2.2
 | .arrDS i _ _::r,y,h,id,h1,h2=>by
  simp only[D9,List.mem_cons,not_or]at h2
  simp only[C6]
  rw[A0 _ _ h2.1];exact L5 r y.2 h id h1 h2.2
 | .mapDS i _ _ _::r,y,h,id,h1,h2=>by
  simp only[D9,List.mem_cons,not_or]at h2
  simp only[C6]
  rw[A0 _ _ h2.1];exact L5 r y.2 h id h1 h2.2
 | .arrKS i _ _ _ _::r,y,h,id,h1,h2=>by
  simp only[D9,List.mem_cons,not_or]at h2
  simp only[C6]
  rw[A0 _ _ h2.1];exact L5 r y.2.2 h id h1 h2.2
 | .arrKN i _ _ _ _ _::r,y,h,id,h1,h2=>by
  simp only[G0,List.mem_cons,not_or]at h1
  simp only[C6]
  rw[A0 _ _ h1.1];exact L5 r y.2.2 h id h1.2 h2
 | .mapN i _ _ _ _ s::r,y,h,id,h1,h2=>by
  simp only[G0,List.mem_cons,not_or]at h1
  simp only[C6]
  rw[A0 _ _ h1.1];exact L5 r y.2 h id h1.2 h2
theorem z2k {b:List Nat} {id:Nat} (h:id∉b):E4 b id=false:=by
 grind[memb_iff]
theorem y5l {R:Type} {st0 e:St} {mt c b a:List Nat} {l:List LI} {K:D5 l->Option R} {z:R} (g:q4u e mt c b a l K=some z) (y:D5 l) :
  (∀ t,t∉mt->(C1 st0 mt c b l y).ρ t=st0.ρ t)/\∀ id,id∉c->id∉b->id∉a->(C1 st0 mt c b l y).h id=st0.h id:=by
 unfold q4u at g
 split at g
 ·obtain⟨j,-⟩:=A8 g
  simp[Bool.and_eq_true]at j
  obtain⟨i,d,f,-⟩:=y0w j.1.1.1
  refine⟨fun t n=>?_,fun id o k m=>?_⟩
  ·show G1 l y _ t=_
   grind[L6,z2k]
  ·show C6 l y _ id=_
   grind[L5,z2k]
 grind
theorem z0v {R:Type} {st0 e:St} {mt b c a:List Nat} {l:List LI} {K:D5 l->Option R} {z:R} (f:M3 e mt b c a l K=some z) (y:D5 l) :
  (∀ t,t∉mt->(C1 st0 mt b c l y).ρ t=st0.ρ t)/\∀ id,id∉b->id∉c->id∉a->(C1 st0 mt b c l y).h id=st0.h id:=by
 obtain⟨v,-,-,d⟩:=j4r (L:=fun _=>False) (w0:=default) f
 exact y5l d y
theorem z8s {h:Heap} {lo:Nat->Bool}:∀ {l:List Nat},q75 h lo l=true->∀ id∈l,h id=.fresh/\lo id=false
 | [],_,_,a=>by grind
 | i::r,b,id,a=>by
  simp[q75,Bool.and_eq_true]at b
  rcases List.mem_cons.1 a with rfl | a
  ·have c:=b.1
   split at c
   ·rename_i d;exact⟨d,by simpa using c⟩
   ·cases c
  ·exact z8s b.2 id a
theorem q3t {p:Nat->Bool}:∀ {l:List Nat},q1s p l=true->∀ x∈l,p x=false
 | [],_,_,a=>by grind
 | i::r,b,x,a=>by
  simp[q1s,Bool.and_eq_true,Bool.not_eq_true']at b
  rcases List.mem_cons.1 a with rfl | a
  ·exact b.1
  ·exact q3t b.2 x a
structure Room (st:St) (mt mo sr stat:List Nat):Prop where
 mo:∀ id∈mo,st.h id=.fresh/\st.lo id=false
 mt:∀ t∈mt,st.lt t=false
 sr:∀ id∈sr,st.lo id=false
 stat:∀ id∈stat,st.lo id=false
 bad:st.h C0=.fresh
theorem z4k {st:St} {mt mo sr stat:List Nat} (h:q5x st mt mo sr stat=true):Room st mt mo sr stat:=by
 simp only[q5x,Bool.and_eq_true]at h
 exact⟨z8s h.1.1.1.1,q3t h.1.1.1.2,q3t h.1.1.2,q3t h.1.2,j5w h.2⟩
theorem q9d {B:Bd} {r:Option Nat} {κ:A2} {st:St} {a:Act} {w:World} (b:Sim P L w0 B r κ st a w) (mt c:List Nat):Sim P L w0 B r κ (S1 st mt c) a w :=
 ⟨b.size,b.env,b.heap,b.defs,b.rnd⟩
theorem q4v {R:Type} {st st':St} {mt mo sr stat:List Nat} {l:List LI} {K:D5 l->Option R} {z:R} (he:M3 st' mt mo sr stat l K=some z) (room:Room st mt mo sr stat) :
  ∃ y,K y=some z/\(∀ id,st.lo id=true->(C1 st mt mo sr l y).h id=st.h id)/\(∀ id,id∉mo->id∉sr->id∉stat->(C1 st mt mo sr l y).h id=st.h id)/\(∀ id∈stat,(∃ ak av tk tv l c,st'.h id=.iter ak av tk tv l c)->(C1 st mt mo sr l y).h id=st'.h id) /\
   ∀ {B:Bd} {r:Option Nat} {κ0 κ':A2} {a0 a':Act} {v0 w':World},Sim P L w0 B r κ0 st a0 v0->Sim P L w0 B r κ' st' a' w'->Ext L κ0 st.h v0 κ' st'.h w' ->
  (∀ t,t∉mt->a'.tmps.getD t undef=a0.tmps.getD t undef)->(∀ id,id≠C0->id∉mo->id∉sr->id∉stat->st'.h id=st.h id)->st'.n=st.n ->
  ∃ κ2,Sim P L w0 B r κ2 (C1 st mt mo sr l y) a' w'/\Ext L κ0 st.h v0 κ2 (C1 st mt mo sr l y).h w'/\Locks st (C1 st mt mo sr l y) a0 a':=by
 obtain⟨y,hy,hit,hs⟩:=j4q (P:=P) (L:=L) (w0:=w0) (st0:=st) he
 obtain⟨f1,f2⟩:=z0v (st0:=st) he y
 have hlo:∀ id,st.lo id=true->(C1 st mt mo sr l y).h id=st.h id:=fun id hid =>
  f2 id (fun h=>by have:=(room.mo id h).2;rw[hid]at this;cases this) (fun h=>by have:=room.sr id h;rw[hid]at this;cases this) (fun h=>by have:=room.stat id h;rw[hid]at this;cases this)
 refine⟨y,hy,hlo,f2,hit,fun {B r κ0 κ' a0 a' v0 w'} sim0 sim' ext htm hoo hn=>?_⟩
 obtain⟨κ2,h1,h2,-⟩:=hs B r κ0 a0 v0 κ' a' w' sim0 sim' ext htm (fun id h1 h2 h3=>by
  by_cases hb:id=C0
  ·rw[hb,room.bad];exact j4p he
  ·exact hoo id hb h1 h2 h3) (fun id hid=>(room.mo id hid).1) hn
 refine⟨κ2,h1,h2,⟨rfl,rfl,rfl,fun t ht=>?_,hlo⟩⟩
 have hnt:t∉mt:=fun h=>by have:=room.mt t h;rw[ht]at this;cases this
 exact⟨f1 t hnt,htm t hnt⟩
theorem q7w {st b:St} {mt d:List Nat} {a c:Act} (e:Locks (S1 st mt d) b a c) {t:Nat} (f:t∉mt):c.tmps.getD t undef=a.tmps.getD t undef :=
 (e.tmp t (by show(st.lt t||!E4 mt t)=true;grind[z2k])).2
theorem q7v {st st':St} {mt ob:List Nat} {a a':Act} (lk:Locks (S1 st mt ob) st' a a') {id:Nat} (hb:id≠C0) (hi:id∉ob):st'.h id=st.h id :=
 lk.obj id (by show(st.lo id||(!E4 ob id&&!Nat.beq id C0))=true;rw[z2k hi,show Nat.beq id C0=false from(by cases h:Nat.beq id C0<;>first | rfl | exact absurd (Nat.eq_of_beq_eq_true h) hb)];simp)
theorem q8k {S:Type} {c:St} {mt i j a:List Nat} {x:XK}:∀ (e:q15) (g:N4 e->S) (o:S),Q9 c mt i j a x e g=some o ->
  ∃ (l:List LI) (f:D5 l->N4 e),M3 c mt i j a l (fun y=>some (g (f y)))=some o/\∀ (R:Type) (d:St) (K:XK->St->Option R) (y:D5 l),q35 d mt i j K e (f y)=K x (C1 d mt i j l y)
 | [],_,o,b=>by cases b
 | (k,l)::r,g,o,b=>by
  simp[Q9]at b
  cases h:(XK.beq k x&&z4j c.h l)with
  | true =>
   rw[h,cond_true]at b
   rw[Bool.and_eq_true]at h
   have m:=XK.beq_eq h.1
   subst m
   exact⟨l,fun y=>.inl y,b,fun R d K y=>rfl⟩
  | false =>
   rw[h,cond_false]at b
   obtain⟨n,f,q,p⟩:=q8k r _ o b
   exact⟨n,fun y=>.inr (f y),q,fun R d K y=>p R d K y⟩
def q9p (P:Program) (L:Nat->Prop) (w0:World) (c:Code) (g:Ann->(R:Type)->St->(XK->St->Option R)->Option R):Prop :=
 ∀ (an:Ann) (R:Type) (st:St) (K:XK->St->Option R) (z:R),g an R st K=some z->∃ x st',K x st'=some z/\SL st st' /\
  ∀ (B:Bd) (r:Option Nat) (m:Nat) κ a w (Q:Exit->Act->World->Prop),Sim P L w0 B r κ st a w ->
  (∀ κ' a' w',Sim P L w0 B r κ' st' a' w'->Ext L κ st.h w κ' st'.h w'->Locks st st' a a'->Q x.exit a' w')->c.wpIn (Fr r) m P Q a w
theorem z9o {c:Code} {g:Ann->(R:Type)->St->(XK->St->Option R)->Option R} (hg:q9p P L w0 c g):q9p P L w0 c (q7k g):=by
 intro an R st K z he
 unfold q7k at he
 split at he
 ·rename_i mt mo sr stat exits p
  obtain⟨hroom,he⟩:=A8 he
  have room:=z4k hroom
  obtain⟨o,ho,hres⟩:=Option.bind_eq_some_iff.1 he
  obtain⟨x,st',hk,hlo,hrun⟩:=hg p _ _ _ o ho
  obtain⟨l,f,hx,hr⟩:=q8k exits _ o hk
  obtain⟨y,hy,hlo2,-,-,hend⟩:=q4v (P:=P) (L:=L) (w0:=w0) hx room
  refine⟨x,C1 st mt mo sr l y,?_,⟨rfl,hlo2⟩,fun B r m κ a w Q sim hQ=>?_⟩
  ·rw[<-hr R st K y];cases hy;exact hres
  ·refine hrun B r m κ a w Q (q9d sim _ _) fun κ' a' w' sim' ext' lk=>?_
   obtain⟨κ2,s2,e2,l2⟩:=hend sim sim' ext' (fun t ht=>q7w lk ht) (fun id hb h1 h2 h3=>q7v lk hb (by simp[h1,h2,h3])) lk.n
   exact hQ κ2 a' w' s2 e2 l2
 ·exact hg _ _ _ _ _ he
theorem z0f {c:Code} (x:XK) (h:∀ {r:Option Nat} {m:Nat} {Q:Exit->Act->World->Prop} {a:Act} {w:World},Q x.exit a w->c.wpIn (Fr r) m P Q a w):q9p P L w0 c fun _ _ b K=>K x b :=
 fun _ _ b _ _ e=>⟨x,b,e,SL.refl _,fun _ _ _ f a w _ d g=>h (g f a w d (Ext.refl _ _ _ _) (Locks.refl _ _))⟩
theorem z8l {κ:A2} {h:Heap} {w:World} (o:Obj):Ext L κ h w κ h (w.alloc o) where
 place _ _:=rfl
 kid _ hd:=hd
 arrD _ _ _ l f hl:=.inl ⟨l,f,rfl,hl⟩
 arrK _ _ _ _ _ l k f hl:=.inl ⟨l,rfl,.inl ⟨k,f,hl⟩⟩
 dead _ hd:=hd
 cells _ l hl:=.inl ⟨l,hl⟩
 arr _ _ _ l hl:=.inl ⟨l,rfl,.inl hl⟩
 ice _ _ _ _ hl:=.inl hl
 lrec _ _ s hl:=.inl ⟨s,hl⟩
 maps _ hl:=.inl hl
 iter _ _ _ _ _ l c hl:=.inl ⟨l,c,hl⟩
 still b hb:=⟨⟨by have:=hb.1;simp;omega,hb.2⟩,Q3 w o (by have:=hb.1;omega)⟩
 size:=by simp
 loops b r hr:=⟨r,(Q3 w o (by have:=(Array.getElem?_eq_some_iff.1 hr).1;omega)).trans hr⟩
 defs b hr:=(Q3 w o (by have:=(Array.getElem?_eq_some_iff.1 hr).1;omega)).trans hr
theorem j5j {κ:A2} {h:Heap} {w:World} (a:HeapOK L w0 κ h w) (o:Obj):HeapOK L w0 κ h (w.alloc o) where
 obj id:=by
  by_cases d:h id=.dead\/h id=.fresh
  ·rcases d with d | d<;>rw[d]<;>trivial
  ·exact RepObj.ext (z8l o) rfl (fun b c e=>Q3 w o (by have:=z2r a (fun h=>d (.inl h)) (fun h=>d (.inr h)) e;omega)) (fun _=>rfl) (fun n b c e=>Q3 w o (by have:=(a.own (kn id n) b c (by rw[K8 a];rfl) e).2;omega)) (a.obj id)
 inj:=a.inj
 own i b c g e:=by have:=a.own i b c g e;simp;omega
 below:=a.below.alloc a.below.size o
 outer b f:=⟨by have:=(a.outer b f).1;simp;omega,(a.outer b f).2⟩
 kids:=a.kids
theorem y52 {B:Bd} {r:Option Nat} {κ:A2} {st:St} {a:Act} {w:World} (d:Sim P L w0 B r κ st a w) (e:FuncId) (ps:Array Tmp) (assign body:Code) :
  ∃ l mark W c,(Instr.enterLoop e a.tmps ps assign body r).run P w=.ok (l,mark) (World.alloc W (.loop c))/\l=W.heap.size/\c.state=.ready/\c.pending=none/\c.tmps=a.tmps/\c.params=ps/\c.assign=assign/\c.body=body /\
   HeapOK L w0 κ st.h W/\Ext L κ st.h w κ st.h W/\MarksOK B (mark++a.defers) W:=by
 cases r with
 | none =>
  refine⟨_,_,_,_,run_enterLoop_outer e a.tmps ps assign body,by simp,rfl,rfl,rfl,rfl,rfl,rfl,j5j d.heap _,z8l _,?_⟩
  obtain⟨o,k,j,q,n⟩:=d.defs
  refine⟨by simp;omega,w.heap.size::k,List.nodup_cons.2 ⟨fun m=>?_,j⟩,by grind,fun b p=>?_⟩
  all_goals grind[World.alloc_heap_new,Q3]
 | some h =>
  obtain⟨i,g⟩:=d.rnd h rfl
  refine⟨w.heap.size,[],w,{ state:=.ready,pending:=none,fn:=e,tmps:=a.tmps,params:=ps,assign,body,defers:=i.defers },?_,rfl,rfl,rfl,rfl,rfl,rfl,rfl,d.heap,Ext.refl _ _ _ _,d.defs⟩
  unfold Instr.enterLoop
  simp[Sem.run_bind,run_getLoop g,run_newObj_alloc,Result.andThen,Sem.run_pure]
theorem j0s {a:Act} {g:Operand} {l:Nat} {f:FuncId} {b e:Array Value} (k:a.eval g=.func (.func f) b e) {fn:Func} (m:P.funcs[f]? = some fn) (n:fn.body.isSome=true) (j:(fn.name== "runtime.NumGoroutine")=false) (w:World) :
  ∃ d,(resolve a.eval (rangeCall g l) 0).run P w=.ok d w/\(invoke d.target d.args).run P w=.ok (.enter f (b++#[.func (.yield l) #[] #[]]++e)) w:=by
 have i:a.eval (.const (.func (.yield l) #[] #[]))=.func (.yield l) #[] #[]:=rfl
 refine⟨_,by simp[resolve,Deferred.ofValue,k,i];rfl,?_⟩
 cases h:fn.body with
 | none=>grind
 | some c=>simpa[invoke,callFunc,m,h]using j
theorem y3i {a:Act} {g:Operand} {l:Nat} {f:FuncId} {pre post:List AV} {ρ:Env} (x:q2c (ev ρ g)=some (f,pre,post)) {fn:Func} (n:P.funcs[f]? = some fn) (q:fn.body.isSome=true) (r:(fn.name== "runtime.NumGoroutine")=false)
  {κ:A2} {h:Heap} {w:World} (e:RepAV L κ h w (ev ρ g) (a.eval g)) (w1:World) :
  ∃ d,∃ z B:List Value,(resolve a.eval (rangeCall g l) 0).run P w1=.ok d w1/\(invoke d.target d.args).run P w1=.ok (.enter f (z++Value.func (.yield l) #[] #[]::B).toArray) w1/\z.length=pre.length/\B.length=post.length /\
   (∀ (i:Nat) (m:AV) (v:Value),pre[i]? = some m->z[i]? = some v->RepAV L κ h w m v)/\∀ (i:Nat) (m:AV) (v:Value),post[i]? = some m->B[i]? = some v->RepAV L κ h w m v:=by
 unfold q2c at x
 split at x
 ·rename_i G E j
  cases x
  rw[j]at e
  obtain⟨I,e,N,A⟩:=e
  obtain⟨d,k,s⟩:=j0s (l:=l) e n q r w1
  refine⟨d,[],I,k,?_,rfl,by grind[q3g],fun i m v o=>by grind,fun i m v o y=>?_⟩
  ·grind
  ·simp only[q3g,List.getElem?_map,Option.map_eq_some_iff]at o
   obtain⟨p,J,rfl⟩:=o
   obtain⟨K,b,c,C,t⟩:=A i p J
   rw[y]at t;cases t
   exact⟨K,b,c,C,rfl⟩
 ·rename_i G O I j
  cases x
  rw[j]at e
  obtain⟨z,e,H,F,D⟩:=e
  obtain⟨d,k,s⟩:=j0s (l:=l) e n q r w1
  all_goals grind[z5u]
 ·rename_i G id M j
  cases x
  rw[j]at e
  obtain⟨u,e,H,b,c,F,D⟩:=e
  obtain⟨d,k,s⟩:=j0s (l:=l) e n q r w1
  refine⟨d,[u],[],k,?_,rfl,rfl,fun i m v o y=>?_,fun i m v o=>by grind⟩
  ·grind
  ·cases i with
   | zero =>
    simp[List.getElem?_cons_zero,Option.some.injEq]at o y
    subst o;subst y
    exact⟨H,b,c,F,D⟩
   | succ i=>grind
 grind
def y9a (Q:Exit->Act->World->Prop):Exit->Act->World->Prop
 | .goto _,_,_=>False
 | e,a,w=>Q e a w
theorem q68 {b:Frame} {a:Act} {k:List Item} {cs:List Frame} {w:World} {c:Code}:step P (lone (b.atR a (.code (.scope c)::k)) cs w)=.next (lone (b.atR a (.code c::.inScope c::k)) cs w) :=
 step_lone_go (by rfl)
theorem v6r {b:Frame} {a:Act} {k:List Item} {cs:List Frame} {w:World} {c:Code}:step P (lone (b.atR a (.inScope c::k)) cs w)=.next (lone (b.atR a k) cs w) :=
 step_lone_go (by rfl)
theorem y0z {F:Fence} {n:Nat} {c:Code} {Q:Exit->Act->World->Prop} {a:Act} {w:World} (h:c.wpIn F n P (y9a Q) a w):(Code.scope c).wpIn F n P Q a w:=by
 intro b k s o r p
 have j:(lone (b.atR a (.code (.scope c)::k)) s w).fenced P F:=fenced_calm r p rfl
 obtain⟨e,f,g,i,d⟩:=h b (.inScope c::k) s o r p
 cases e with
 | normal=>exact⟨.normal,f,g,i,.head j q68 (StepsIn.trans d (.one (fenced_calm r p rfl) v6r))⟩
 | exit id =>
  have z:exitTo id (.inScope c::k)=exitTo id k:=by rfl
  exact⟨.exit id,f,g,i,fun u t=>.head j q68 (d.1 u (by grind)),
   fun q t=>let ⟨m,x,v⟩:=d.2 q (by grind);⟨m,x,.head j q68 v⟩⟩
 | goto l=>exact i.elim
 | ret=>exact⟨_,f,g,i,.of_steps (.one j q68) d⟩
 | panic y=>exact⟨_,f,g,i,.of_steps (.one j q68) d⟩
 | outgrown=>exact⟨_,f,g,i,.of_steps (.one j q68) d⟩
theorem P1 {C:Ctx} (hC:CtxOK P L w0 C) (hmix:P.follows .mixedOrders=true) (ib:Nat):∀ (c:Code),q9p P L w0 c (J1 C ib c)
 | .skip=>z0f .nrm wpIn_skip
 | .label _=>z0f .nrm wpIn_label
 | .exit id=>z0f (.ex id) wpIn_exit
 | .ret=>z0f .ret wpIn_ret
 | .region id ops draw=>fun an R st K z he=>by
  obtain⟨x,st',h1,hlo,h2⟩:=y5k hC hmix (id:=id) (show z7z C (z97 st.h ib ops) ops draw st K=some z from he)
  exact⟨x,st',h1,hlo,fun B r m κ a w Q sim hQ=>h2 B r κ a w sim m Q hQ⟩
 | .seq x y=>z9o fun an R st K z he=>by
  split at he
  ·rename_i p q
   obtain⟨x1,st1,hk,hlo1,hrun⟩:=P1 hC hmix ib x p R st _ z he
   cases x1 with
   | nrm =>
    obtain⟨x2,st2,hk2,hlo2,hrun2⟩:=P1 hC hmix ib y q R st1 K z hk
    exact⟨x2,st2,hk2,hlo1.trans hlo2,fun B r m κ a w Q sim hQ=>wpIn_seq (hrun B r m κ a w _ sim fun κ' a' w' s e l =>
     hrun2 B r m κ' a' w' Q s fun κ2 a2 w2 s2 e2 l2=>hQ κ2 a2 w2 s2 (e.trans e2) (l.trans l2))⟩
   | ex j=>exact⟨.ex j,st1,hk,hlo1,fun B r m κ a w Q sim hQ=>wpIn_seq (hrun B r m κ a w _ sim hQ)⟩
   | ret=>exact⟨.ret,st1,hk,hlo1,fun B r m κ a w Q sim hQ=>wpIn_seq (hrun B r m κ a w _ sim hQ)⟩
   | pan T=>exact⟨.pan T,st1,hk,hlo1,fun B r m κ a w Q sim hQ=>wpIn_seq (hrun B r m κ a w _ sim hQ)⟩
  ·cases he
 | .cond c x y=>z9o fun an R st K z he=>by
  split at he
  ·rename_i p q
   split at he
   ·rename_i t ht
    have hv:∀ B r κ a w,Sim P L w0 B r κ st a w->a.eval c=.bool t:=fun B r κ a w sim=>by
     have hv:=N7 sim.env c
     rw[ht]at hv
     exact q0s hv
    cases t with
    | true =>
     rw[cond_true]at he
     obtain⟨x1,st1,hk,hlo,hrun⟩:=P1 hC hmix ib x p R st K z he
     exact⟨x1,st1,hk,hlo,fun B r m κ a w Q sim hQ=>wpIn_cond_true (hv B r κ a w sim) (hrun B r m κ a w Q sim hQ)⟩
    | false =>
     rw[cond_false]at he
     obtain⟨x1,st1,hk,hlo,hrun⟩:=P1 hC hmix ib y q R st K z he
     exact⟨x1,st1,hk,hlo,fun B r m κ a w Q sim hQ=>wpIn_cond_false (hv B r κ a w sim) (hrun B r m κ a w Q sim hQ)⟩
   ·cases he
  ·cases he
 | .block id x=>z9o fun an R st K z he=>by
  split at he
  ·rename_i p
   obtain⟨x1,st1,hk,hlo,hrun⟩:=P1 hC hmix ib x p R st _ z he
   cases x1 with
   | nrm=>exact⟨.nrm,st1,hk,hlo,fun B r m κ a w Q sim hQ=>wpIn_block (hrun B r m κ a w _ sim hQ)⟩
   | ret=>exact⟨.ret,st1,hk,hlo,fun B r m κ a w Q sim hQ=>wpIn_block (hrun B r m κ a w _ sim hQ)⟩
   | pan T=>exact⟨.pan T,st1,hk,hlo,fun B r m κ a w Q sim hQ=>wpIn_block (hrun B r m κ a w _ sim hQ)⟩
   | ex j =>
    have hk:cond (Nat.beq j id) (K .nrm st1) (K (.ex j) st1)=some z:=hk
    by_cases hj:j=id
    ·subst hj
     rw[Nat.beq_refl,cond_true]at hk
     refine⟨.nrm,st1,hk,hlo,fun B r m κ a w Q sim hQ=>wpIn_block (hrun B r m κ a w _ sim fun κ' a' w' s e l=>?_)⟩
     show(if j=j then Q .normal a' w' else Q (.exit j) a' w')
     rw[if_pos rfl]
     exact hQ κ' a' w' s e l
    ·have hb:Nat.beq j id=false:=by
      cases hq:Nat.beq j id with
      | true=>exact absurd (Nat.eq_of_beq_eq_true hq) hj
      | false=>rfl
     rw[hb,cond_false]at hk
     refine⟨.ex j,st1,hk,hlo,fun B r m κ a w Q sim hQ=>wpIn_block (hrun B r m κ a w _ sim fun κ' a' w' s e l=>?_)⟩
     show(if j=id then Q .normal a' w' else Q (.exit j) a' w')
     rw[if_neg hj]
     exact hQ κ' a' w' s e l
  ·cases he
 | .loop x=>fun an R st K z he=>by
  unfold J1 at he
  split at he
  ·rename_i mt mo sr stat head exits p
   obtain⟨hroom,he⟩:=A8 he
   have room:=z4k hroom
   obtain⟨y0,hy0,-,-,-,h0⟩:=q4v (P:=P) (L:=L) (w0:=w0) he room
   have frame:∀ y id,id∉mo->id∉sr->id∉stat->(C1 st mt mo sr head y).h id=st.h id:=fun y=>(z0v (st0:=st) he y).2
   obtain⟨o,ho,hres⟩:=Option.bind_eq_some_iff.1 hy0
   obtain⟨n,hn⟩:=loopM_iff.1 ho
   have hh:∀ (n:Nat) (y:D5 head),V8 (fun y=>J1 C ib x p (D5 head⊕N4 exits) (S1 (C1 st mt mo sr head y) mt (mo++stat)) fun x st'=>match x with
      | .nrm=>M3 st' mt mo sr stat head fun y'=>some (.inl y')
      | x=>Q9 st' mt mo sr stat x exits .inr) n y=some o ->
     ∃ x' st',K x' st'=some z/\SL st st'/\∀ (B:Bd) (r:Option Nat) (m:Nat) (κ:A2) (a:Act) (w:World) (Q:Exit->Act->World->Prop),Sim P L w0 B r κ st a w->(∀ κ' a' w',Sim P L w0 B r κ' st' a' w'->Ext L κ st.h w κ' st'.h w'->Locks st st' a a'->Q x'.exit a' w') ->
      ∀ (κ1:A2) (a1:Act) (w1:World),Sim P L w0 B r κ1 (C1 st mt mo sr head y) a1 w1->Ext L κ st.h w κ1 (C1 st mt mo sr head y).h w1->(∀ t,t∉mt->a1.tmps.getD t undef=a.tmps.getD t undef)->Code.roundsIn (Fr r) m P x Q n a1 w1:=by
    intro n
    induction n with
    | zero=>intro y hn;cases hn
    | succ n ih =>
     intro y hn
     simp only[V8]at hn
     generalize hf:J1 C ib x p (D5 head⊕N4 exits) (S1 (C1 st mt mo sr head y) mt (mo++stat)) (fun x st'=>match x with
      | .nrm=>M3 st' mt mo sr stat head fun y'=>some (.inl y')
      | x=>Q9 st' mt mo sr stat x exits .inr)=q at hn
     cases q with
     | none=>cases hn
     | some zz =>
      obtain⟨x1,st1,hk,-,hrun⟩:=P1 hC hmix ib x p _ _ _ zz hf
      have g2:∀ {a1 a':Act},Locks (S1 (C1 st mt mo sr head y) mt (mo++stat)) st1 a1 a'->∀ id,id≠C0->id∉mo->id∉sr->id∉stat->st1.h id=st.h id:=fun lk id hb h1 h2 h3=>(q7v lk hb (by simp[h1,h3])).trans (frame y id h1 h2 h3)
      have fin:x1≠.nrm->Q9 st1 mt mo sr stat x1 exits (Sum.inr (α:=D5 head))=some zz->∃ x' st',K x' st'=some z/\SL st st'/\∀ (B:Bd) (r:Option Nat) (m:Nat) (κ:A2) (a:Act) (w:World) (Q:Exit->Act->World->Prop),Sim P L w0 B r κ st a w->(∀ κ' a' w',Sim P L w0 B r κ' st' a' w'->Ext L κ st.h w κ' st'.h w'->Locks st st' a a'->Q x'.exit a' w') ->
        ∀ (κ1:A2) (a1:Act) (w1:World),Sim P L w0 B r κ1 (C1 st mt mo sr head y) a1 w1->Ext L κ st.h w κ1 (C1 st mt mo sr head y).h w1->(∀ t,t∉mt->a1.tmps.getD t undef=a.tmps.getD t undef)->Code.roundsIn (Fr r) m P x Q (n+1) a1 w1:=fun hx1 hk=>by
       obtain⟨l,f,hx,hr⟩:=q8k exits _ zz hk
       obtain⟨y2,hy2,hlo2,-,-,hend⟩:=q4v (P:=P) (L:=L) (w0:=w0) hx room
       cases hy2
       cases hn
       refine⟨x1,C1 st mt mo sr l y2,by rw[<-hr R st K y2];exact hres,⟨rfl,hlo2⟩,fun B r m κ a w Q sim hQ κ1 a1 w1 s1 e1 t1=>?_⟩
       rw[roundsIn_succ]
       refine hrun B r m κ1 a1 w1 _ (q9d s1 _ _) fun κ' a' w' s' e' lk=>?_
       obtain⟨κ2,s2,e2,l2⟩:=hend sim s' (e1.trans e') (fun t ht=>(q7w lk ht).trans (t1 t ht)) (g2 lk) lk.n
       have:=hQ κ2 a' w' s2 e2 l2
       cases x1 with
       | nrm=>exact absurd rfl hx1
       | ex j=>exact this
       | ret=>exact this
       | pan T=>exact this
      cases x1 with
      | nrm =>
       obtain⟨y2,hy2,-,-,-,hend⟩:=q4v (P:=P) (L:=L) (w0:=w0) (show M3 st1 mt mo sr stat head (fun y'=>some (Sum.inl y'))=some zz from hk) room
       cases hy2
       obtain⟨x',st',h1,h2,h3⟩:=ih y2 hn
       refine⟨x',st',h1,h2,fun B r m κ a w Q sim hQ κ1 a1 w1 s1 e1 t1=>?_⟩
       rw[roundsIn_succ]
       refine hrun B r m κ1 a1 w1 _ (q9d s1 _ _) fun κ' a' w' s' e' lk=>?_
       have g1:∀ t,t∉mt->a'.tmps.getD t undef=a.tmps.getD t undef:=fun t ht=>(q7w lk ht).trans (t1 t ht)
       obtain⟨κ2,s2,e2,-⟩:=hend sim s' (e1.trans e') g1 (g2 lk) lk.n
       exact h3 B r m κ a w Q sim hQ κ2 a' w' s2 e2 g1
      | ex j=>exact fin (by simp) hk
      | ret=>exact fin (by simp) hk
      | pan T=>exact fin (by simp) hk
   obtain⟨x',st',h1,h2,h3⟩:=hh n y0 hn
   refine⟨x',st',h1,h2,fun B r m κ a w Q sim hQ=>wpIn_loop_rounds n ?_⟩
   obtain⟨κ0,s0,e0,-⟩:=h0 sim sim (Ext.refl _ _ _ _) (fun _ _=>rfl) (fun _ _ _ _ _=>rfl) rfl
   exact h3 B r m κ a w Q sim hQ κ0 a w s0 e0 (fun _ _=>rfl)
  ·rename_i p
   obtain⟨x1,st1,hk,hlo1,hrun⟩:=P1 hC hmix ib x p R st _ z he
   cases x1 with
   | nrm=>cases hk
   | ex j=>exact⟨.ex j,st1,hk,hlo1,fun B r m κ a w Q sim hQ=>wpIn_loop_once (hrun B r m κ a w _ sim hQ)⟩
   | ret=>exact⟨.ret,st1,hk,hlo1,fun B r m κ a w Q sim hQ=>wpIn_loop_once (hrun B r m κ a w _ sim hQ)⟩
   | pan T=>exact⟨.pan T,st1,hk,hlo1,fun B r m κ a w Q sim hQ=>wpIn_loop_once (hrun B r m κ a w _ sim hQ)⟩
  ·cases he
 | .rangeFunc g ps assign body=>fun an R st K z he=>by
  unfold J1 at he
  split at he
  ·rename_i k
   split at he
   ·rename_i f pre post hfr hg
    obtain⟨hc,he⟩:=A8 he
    simp only[Bool.and_eq_true,Bool.not_eq_true']at hc
    obtain⟨hlk,hin⟩:=hc
    obtain⟨av,h',hk,hlo,hcall⟩:=hC.ic.ok f _ _ st.lo _ R _ z hin he
    obtain⟨hnp,hk⟩:=A8 hk
    have fin:∀ (ri:RI) (s:RS) (x:XK),h' k=.lrec ri s->s.state≠.busy->s.pend=x.code->x.plain=true->K x { st with h:=upd h' k .dead }=some z ->
      ∃ x st',K x st'=some z/\SL st st'/\∀ (B:Bd) (r:Option Nat) (m:Nat) κ a w (Q:Exit->Act->World->Prop),Sim P L w0 B r κ st a w ->
       (∀ κ' a' w',Sim P L w0 B r κ' st' a' w'->Ext L κ st.h w κ' st'.h w'->Locks st st' a a'->Q x.exit a' w')->(Code.rangeFunc g ps assign body).wpIn (Fr r) m P Q a w:=by
     intro ri s x hks hsb hsp hxp hK
     have hobj:∀ id,st.lo id=true->upd h' k .dead id=st.h id:=fun id hid=>by
      have hne:id≠k:=fun e=>by rw[e,hlk]at hid;cases hid
      rw[A0 _ _ hne,hlo id hid,A0 _ _ hne]
     refine⟨x,_,hK,⟨rfl,hobj⟩,fun B r m κ a w Q sim hQ=>wpIn_rangeFunc fun fnid _=>?_⟩
     obtain⟨l,mark,W,rec,hrun,hl,r1,r2,r3,r4,r5,r6,okW,eW,dW⟩:=y52 sim fnid ps assign body
     have hgv:=N7 sim.env g
     obtain⟨fn,hf1,hf2,hf3⟩:=hC.ic.fn f hin
     obtain⟨d,us,vs,hd1,hd2,hul,hvl,hur,hvr⟩:=y3i (P:=P) (l:=l) hg hf1 hf2 hf3 hgv (W.alloc (.loop rec))
     refine⟨l,mark,_,d,_,f,_,_,hrun,hd1,fun _ _=>trivial,hd2,fun h=>by simp[Fr]at h,?_⟩
     let ri0:RI:={ ρ:=st.ρ,n:=st.n,ps:=ps.toList,assign,body }
     have e2:=R3 (L:=L) (κ:=κ) (h:=st.h) (w:=W) (.loop rec) (id:=k) (.lrec ri0 .ready) 0 hfr
     have ok2:HeapOK L w0 (upd κ k (some (W.heap.size,0))) (upd st.h k (.lrec ri0 .ready)) (W.alloc (.loop rec)) :=
      V4 okW (.loop rec) (.lrec ri0 .ready) 0 hfr ⟨W.heap.size,0,rec,A1 _ _ _,World.alloc_heap_new W _,r1,r2,by rw[r4],r5,r6,by rw[r3];exact sim.size,fun t=>by
       rw[r3];exact RepAV.ext (eW.trans e2) (sim.env t)⟩
     refine CallsIn.mono (z5x (hcall _ (W.alloc (.loop rec)) (us++Value.func (.yield l) #[] #[]::vs) (by simp[hul,hvl]) (fun i av v hi hv=>?_) ok2 (m-1))) fun e w3 hend3=>?_
     ·by_cases hlt:i<pre.length
      ·rw[List.getElem?_append_left hlt]at hi
       rw[List.getElem?_append_left (by omega)]at hv
       exact RepAV.ext (eW.trans e2) (hur i av v hi hv)
      ·rw[List.getElem?_append_right (by omega)]at hi hv
       rw[hul]at hv
       cases hd:i-pre.length with
       | zero =>
        rw[hd]at hi hv
        simp only[List.getElem?_cons_zero,Option.some.injEq]at hi hv
        subst hi;subst hv
        exact⟨by rw[A1];simp,W.heap.size,0,A1 _ _ _,by rw[hl]⟩
       | succ q =>
        rw[hd]at hi hv
        exact RepAV.ext (eW.trans e2) (hvr q av v (by simpa using hi) (by simpa using hv))
     ·obtain⟨v,κ3,hev,ok3,-,e3⟩:∃ v κ3,e=.returned v/\HeapOK L w0 κ3 h' w3/\RepAV L κ3 h' w3 av v/\Ext L (upd κ k (some (W.heap.size,0))) (upd st.h k (.lrec ri0 .ready)) (W.alloc (.loop rec)) κ3 h' w3:=by
       rcases hend3 with h | ⟨T,κ',hav,-⟩
       ·exact h
       ·rw[hav]at hnp;cases hnp
      subst hev
      have hpl:κ3 k=some (W.heap.size,0):=(e3.place k (by rw[A1];simp)).trans (A1 _ _ _)
      have ho3:=ok3.obj k
      rw[hks]at ho3
      obtain⟨b,c,rc,p1,p2,p3,p4,p5,p6,p7,p8,p9⟩:=ho3
      rw[hpl]at p1
      cases p1
      have hend:=run_endLoop (P:=P) p2 (by rw[p3];exact hsb)
      have hsize:(w3.putObj W.heap.size (.loop { rc with state:=.exhausted })).heap.size=w3.heap.size:=by simp
      have hlt:W.heap.size<w3.heap.size:=(Array.getElem?_eq_some_iff.1 p2).1
      have hnew:(w3.putObj W.heap.size (.loop { rc with state:=.exhausted })).heap[W.heap.size]? = some (.loop { rc with state:=.exhausted }):=World.putObj_heap_same hlt
      have hoth:∀ b',b'≠W.heap.size->(w3.putObj W.heap.size (.loop { rc with state:=.exhausted })).heap[b']? = w3.heap[b']?:=fun b' hb=>World.putObj_heap_other hb
      have hlike:(h' k).like (.lrec ri (.over x)):=by rw[hks];exact rfl
      have e4:=P3 (L:=L) (κ:=κ3) (h:=h') hpl hlike (.inr ⟨rc,_,p2,hnew⟩) hsize hoth
      have hown:=ok3.own k W.heap.size 0 (by rw[hks];rfl) hpl
      have ok4:=Q4 ok3 hpl hlike hsize hoth (ok3.below.trans ⟨rfl,rfl,rfl,by simp,fun b' hb=>hoth b' (by omega),Nat.le_refl _⟩)
       ⟨W.heap.size,0,_,hpl,hnew,rfl,by rw[p4,hsp];rfl,p5,p6,p7,p8,fun t=>RepAV.ext e4 (p9 t)⟩
      have hg4:(upd h' k (.lrec ri (.over x)) k).gone .dead:=by rw[A1];simp[AObj.gone]
      have ok5:=q0j ok4 hg4
      have e5:=V3 (L:=L) (κ:=κ3) (w:=w3.putObj W.heap.size (.loop { rc with state:=.exhausted })) hg4
      have huu:upd (upd h' k (.lrec ri (.over x))) k .dead=upd h' k .dead:=by
       funext j
       by_cases hj:j=k
       ·subst hj;rw[A1,A1]
       ·rw[A0 _ _ hj,A0 _ _ hj,A0 _ _ hj]
      rw[huu]at ok5 e5
      have eW5:=e2.trans (e3.trans (e4.trans e5))
      have eT:=eW.trans eW5
      have hq:=hQ κ3 { a with defers:=mark++a.defers } _ ⟨sim.size,fun t=>RepAV.ext eT (sim.env t),ok5,dW.keep eW5.size eW5.defs,fun l hl=>by
       obtain⟨l',h4⟩:=sim.rnd l hl
       exact eT.loops l l' h4⟩ eT ⟨rfl,rfl,rfl,fun _ _=>⟨rfl,rfl⟩,hobj⟩
      refine⟨rc.pending,_,by rw[hl];exact hend,?_⟩
      rw[p4.trans hsp]at hq ⊢
      cases x with
      | nrm=>exact hq
      | ex id=>exact wpIn_exit hq
      | ret=>exact wpIn_ret hq
      | pan T=>cases hxp
    split at hk
    ·rename_i ri hks
     exact fin ri .ready .nrm hks (by intro h;cases h) rfl rfl hk
    ·rename_i ri x hks
     obtain⟨hxp,hk⟩:=A8 hk
     exact fin ri (.left x) x hks (by intro h;cases h) rfl hxp hk
    ·cases hk
   ·cases he
  ·cases he
 | .scope x=>fun an R st K z he=>by
  obtain⟨x1,st1,hk,hlo,hrun⟩:=P1 hC hmix ib x an R st K z he
  refine⟨x1,st1,hk,hlo,fun B r m κ a w Q sim hQ=>y0z (hrun B r m κ a w _ sim fun κ' a' w' s e l=>?_)⟩
  have hq:=hQ κ' a' w' s e l
  cases x1<;>exact hq
 | .goto _=>fun an R st K z he=>by cases he
 | .refuse _=>fun an R st K z he=>by cases he
end Go.Abs
