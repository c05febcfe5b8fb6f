/- The engine, part 11: a function's contract, and what a call by it comes to. -/
import Derived.Test.YteeaadgpkammdaaGreatDoorAbsSound8
namespace Go.Abs
open Go Go.RowKit
variable {P:Program} {L:Nat->Prop} {w0:World}
def O3 (w:World) (A:Nat->Prop):(as:List (Bool×Ty))->List Value->I4 as->Prop
 | [],[],_=>True
 | (agg,t)::r,v::vs,x=>RepVal w A agg t v x.1/\O3 w A r vs x.2
 | _,_,_=>False
def j1k (w':World) (A:Nat->Prop) (base:Nat) (e:TypeId) (t:Ty) (v:Value) (l:List t.den) (bo:Option (Nat×(Nat×Nat))):Prop :=
 (bo=none/\l=[]/\v=.slice none 0 0) \/
 ∃ b cap cur,bo=some (b,cap)/\v=.slice (some ⟨b,cap.2,none⟩) l.length cap.1/\base<=b/\w'.heap[b]? = some (.cells cur e (0,0))/\cap.2+cap.1*t.size<=cur.size/\cap.1<=maxLen/\l.length<=cap.1 /\
  (∀ c∈cur.toList,c.oneCell'=true)/\ListCells w' A t (cur.toList.drop cap.2) l
def T3 (w':World) (A:Nat->Prop) (base:Nat) (bo:Option (Nat×(Nat×Nat))):(rs:List RTy)->List Value->I8 rs->Prop
 | [],[],_=>True
 | .val agg t::r,v::vs,y=>RepVal w' A agg t v y.1/\T3 w' A base bo r vs y.2
 | .own e t::r,v::vs,y=>j1k w' A base e t v y.1 bo/\T3 w' A base bo r vs y.2
 | _,_,_=>False
def q1n:List Value->Value
 | [v]=>v
 | l=>.tuple l.toArray
def R2 (L:Nat->Prop) (w w':World) (rs:List RTy) (v:Value) (y:I8 rs):Prop :=
 ∃ bo vs,v=q1n vs/\T3 w' (fun b=>b<w'.heap.size/\¬ L b/\∀ c,bo≠some (b,c)) w.heap.size bo rs vs y
abbrev T2:=Nat->Option (IntKind×Nat×List Int)
def GlobOK (gl:T2) (w:World):Prop:=∀ g k n l,gl g=some (k,n,l)->l.length=n/\∀ (i:Nat) (y:Int),l[i]? = some y->w.cell? ⟨g,i,none⟩=some (.int k y)
theorem y4j {w:World} {a:Addr} {v:Value} (h:w.cell? a=some v):a.block<w.heap.size:=by
 unfold World.cell? at h
 split at h
 ·rename_i hc;exact(Array.getElem?_eq_some_iff.1 hc).1
 ·cases h
theorem GlobOK.below {gl:T2} {w w':World} (h:GlobOK gl w) (hb:Below w.heap.size w w'):GlobOK gl w':=fun g k n l hg=>⟨(h g k n l hg).1,fun i y hi=>by
 have:=(h g k n l hg).2 i y hi
 rw[q6b (w:=w) (w':=w') (a:=⟨g,i,none⟩) (hb.block g (y4j this))]
 exact this⟩
def y1e (P:Program) (gl:T2) (f:FuncId) (sp:Spec):Prop :=
 ∀ x y,sp.f x=some y->∀ (L:Nat->Prop) (w:World) (vals:List Value),GlobOK gl w->(∀ b,L b->b<w.heap.size)->O3 w (fun b=>b<w.heap.size/\¬ L b) sp.args vals x ->
  ∀ m,CallsIn (Fr none) m P f vals.toArray w fun e w'=>∃ v,e=.returned v/\Below w.heap.size w w'/\R2 L w w' sp.res v y
theorem q11 {κ:A3} {h:Heap} {w w':World} (hb:Below w.heap.size w w'):Ext L κ h w κ h w' where
 place _ _:=rfl
 kid _ hd:=hd
 arrD _ _ _ l f hl:=.inl ⟨l,f,rfl,hl⟩
 dead _ hd:=hd
 cells _ l hl:=.inl ⟨l,hl⟩
 arr _ _ _ l hl:=.inl ⟨l,rfl,.inl hl⟩
 ice _ _ _ _ hl:=.inl hl
 lrec _ _ s hl:=.inl ⟨s,hl⟩
 maps _ hl:=.inl hl
 iter _ _ _ _ _ l c hl:=.inl ⟨l,c,hl⟩
 size:=hb.size
 loops b r hr:=⟨r,(hb.block b (Array.getElem?_eq_some_iff.1 hr).1).trans hr⟩
 defs b hr:=(hb.block b (Array.getElem?_eq_some_iff.1 hr).1).trans hr
 still b hf:=⟨⟨Nat.lt_of_lt_of_le hf.1 hb.size,hf.2⟩,hb.block b hf.1⟩
theorem z2d {κ:A3} {h:Heap} {w:World} (ok:HeapOK L w0 κ h w) {id b:Nat} {c:Nat×Nat} (hd:h id≠.dead) (hf:h id≠.fresh) (hk:κ id=some (b,c)):b<w.heap.size:=by
 by_cases hl:(h id).live=true
 ·exact(ok.own id b c hl hk).2
 ·cases ho:h id with
  | mice ak av tk tv l=>have:=ok.obj id;rw[ho]at this;obtain⟨b3,c3,es,cl,h1,h2,-⟩:=this;rw[hk]at h1;cases h1;exact h2.1
  | ice e t l=>have:=ok.obj id;rw[ho]at this;exact(this.2 b c hk).1
  | dead=>exact absurd ho hd
  | fresh=>exact absurd ho hf
  | _=>rw[ho]at hl;exact absurd rfl hl
theorem q25 {κ:A3} {h:Heap} {w w':World} (ok:HeapOK L w0 κ h w) (hb:Below w.heap.size w w'):HeapOK L w0 κ h w' where
 obj id:=by
  by_cases hd:h id=.dead\/h id=.fresh
  ·rcases hd with hd | hd<;>rw[hd]<;>trivial
  ·exact RepObj.ext (q11 hb) rfl (fun b c hk=>hb.block b (z2d ok (fun h=>hd (.inl h)) (fun h=>hd (.inr h)) hk)) (fun _=>rfl) (fun n b c hk=>hb.block b (z1l ok hk)) (ok.obj id)
 inj:=ok.inj
 own i b c hi hk:=by have:=ok.own i b c hi hk;have:=hb.size;omega
 below:=ok.below.trans (hb.mono ok.below.size)
 outer b hL:=⟨Nat.lt_of_lt_of_le (ok.outer b hL).1 hb.size,(ok.outer b hL).2⟩
 kids:=ok.kids
theorem z0m {κ:A3} {h:Heap} {w w':World} (hb:Below w.heap.size w w') {id b:Nat} {c:Nat×Nat} (obj:AObj) (hf:h id=.fresh) (hbb:w.heap.size<=b) :
  Ext L κ h w (upd κ id (some (b,c))) (upd h id obj) w' where
 place j hj:=A0 _ _ (fun e=>hj.1 (e▸hf))
 kid j hd:=by rw[A0 _ _ (fun e=>by rw[e,hf]at hd;cases hd)];exact hd
 arrD j e t l f hl:=by rw[A0 _ _ (fun e=>by rw[e,hf]at hl;cases hl)];exact .inl ⟨l,f,rfl,hl⟩
 dead j hd:=by rw[A0 _ _ (fun e=>by rw[e,hf]at hd;cases hd)];exact hd
 cells j l hl:=by rw[A0 _ _ (fun e=>by rw[e,hf]at hl;cases hl)];exact .inl ⟨l,hl⟩
 arr j e t l hl:=by rw[A0 _ _ (fun e=>by rw[e,hf]at hl;cases hl)];exact .inl ⟨l,rfl,.inl hl⟩
 ice j e t l hl:=by rw[A0 _ _ (fun e=>by rw[e,hf]at hl;cases hl)];exact .inl hl
 lrec j i s hl:=by rw[A0 _ _ (fun e=>by rw[e,hf]at hl;cases hl)];exact .inl ⟨s,hl⟩
 maps j hl:=by rw[A0 _ _ (fun e=>by rw[e,hf]at hl;cases hl)];exact .inl hl
 iter j _ _ _ _ l c hl:=by rw[A0 _ _ (fun e=>by rw[e,hf]at hl;cases hl)];exact .inl ⟨l,c,hl⟩
 size:=hb.size
 loops b r hr:=⟨r,(hb.block b (Array.getElem?_eq_some_iff.1 hr).1).trans hr⟩
 defs b hr:=(hb.block b (Array.getElem?_eq_some_iff.1 hr).1).trans hr
 still b' hf':=by
  obtain⟨h1,h3⟩:=hf'
  refine⟨⟨Nat.lt_of_lt_of_le h1 hb.size,fun j c' hj hk=>?_⟩,hb.block b' h1⟩
  by_cases hji:j=id
  ·subst hji;rw[A1]at hk;simp at hk;omega
  ·rw[A0 _ _ hji]at hj hk;exact h3 j c' hj hk
theorem z8p {κ:A3} {h:Heap} {w w':World} (ok:HeapOK L w0 κ h w) (hb:Below w.heap.size w w') {id b:Nat} {c:Nat×Nat} (obj:AObj) (hf:h id=.fresh) (hbb:w.heap.size<=b) (hbl:b<w'.heap.size)
  (hr:RepObj L (upd κ id (some (b,c))) (upd h id obj) w' id obj):HeapOK L w0 (upd κ id (some (b,c))) (upd h id obj) w' where
 obj j:=by
  by_cases hji:j=id
  ·subst hji;rw[A1];exact hr
  ·rw[A0 h obj hji]
   by_cases hd:h j=.dead\/h j=.fresh
   ·rcases hd with hd | hd<;>rw[hd]<;>trivial
   ·exact RepObj.ext (z0m hb obj hf hbb) (A0 _ _ hji) (fun b c hk=>hb.block b (z2d ok (fun h=>hd (.inl h)) (fun h=>hd (.inr h)) hk)) (fun n=>A0 _ _ (J7 ok (L7 hf) j n)) (fun n b c hk=>hb.block b (z1l ok hk)) (ok.obj j)
 inj i j b' c1 c2 hi hj h1 h2:=by
  by_cases hi':i=id<;>by_cases hj':j=id
  ·rw[hi',hj']
  ·subst hi';rw[A1]at h1;rw[A0 _ _ hj']at h2 hj;simp at h1;have:=(ok.own j b' c2 hj h2).2;omega
  ·subst hj';rw[A1]at h2;rw[A0 _ _ hi']at h1 hi;simp at h2;have:=(ok.own i b' c1 hi h1).2;omega
  ·rw[A0 _ _ hi']at h1 hi;rw[A0 _ _ hj']at h2 hj;exact ok.inj i j b' c1 c2 hi hj h1 h2
 own i b' c1 hi h1:=by
  by_cases hi':i=id
  ·subst hi';rw[A1]at h1;simp at h1;have:=ok.below.size;omega
  ·rw[A0 _ _ hi']at h1 hi;have:=ok.own i b' c1 hi h1;have:=hb.size;omega
 below:=ok.below.trans (hb.mono ok.below.size)
 outer b' hL:=⟨Nat.lt_of_lt_of_le (ok.outer b' hL).1 hb.size,fun i c' hi h1=>by
  by_cases hi':i=id
  ·subst hi';rw[A1]at h1;simp at h1;have:=(ok.outer b' hL).1;omega
  ·rw[A0 _ _ hi']at h1 hi;exact(ok.outer b' hL).2 i c' hi h1⟩
 kids j hj:=by rw[A0 _ _ (fun e=>by rw[<-e,ok.kids j hj]at hf;cases hf)];exact ok.kids j hj
theorem y6g {h:Heap} {ids:List Nat} {id:Nat} (hf:h id=.fresh):A5 (B3 h ids) h id=.fresh:=by
 by_cases hm:id∈ids
 ·have key:∀ (ids:List Nat) (h1:Heap),h1 id=.fresh->A5 (B3 h ids) h1 id=.fresh:=by
   intro ids
   induction ids with
   | nil=>intro h1 h1f;exact h1f
   | cons j ids ih =>
    intro h1 h1f
    cases ho:h j with
    | arr e t l =>
     have he:A5 (B3 h (j::ids)) h1=A5 (B3 h ids) (upd h1 j (.ice e t l)):=by simp[B3,ho,A5]
     have hne:id≠j:=fun e=>by rw[<-e,hf]at ho;cases ho
     rw[he];exact ih _ (by rw[A0 _ _ hne];exact h1f)
    | mapo ak av tk tv l =>
     have he:A5 (B3 h (j::ids)) h1=A5 (B3 h ids) (upd h1 j (.mice ak av tk tv l)):=by simp[B3,ho,A5]
     have hne:id≠j:=fun e=>by rw[<-e,hf]at ho;cases ho
     rw[he];exact ih _ (by rw[A0 _ _ hne];exact h1f)
    | _ =>
     have he:A5 (B3 h (j::ids)) h1=A5 (B3 h ids) h1:=by simp[B3,ho]
     rw[he];exact ih _ h1f
  exact key ids h hf
 ·exact(X0 hm).trans hf
theorem q44 {κ:A3} {h h':Heap} {w:World} (ok:HeapOK L w0 κ h w) (x:Ext L κ h w κ h' w):∀ (as:List (Bool×Ty)) (avs:List AV) (vals:List Value) (xs:I4 as) (ids:List Nat),
  vals.length=avs.length->(∀ (i:Nat) (av:AV) (v:Value),avs[i]? = some av->vals[i]? = some v->RepAV L κ h w av v)->F5 h as avs=some (xs,ids) ->
  (∀ id∈ids,q41 (h id)->∀ b c,κ id=some (b,c)->A4 L κ h' w b)->O3 w (A4 L κ h' w) as vals xs
 | [],[],[],_,_,_,_,_,_=>trivial
 | [],[],v::vs,_,_,hl,_,_,_=>by simp at hl
 | [],a::r,_,_,_,_,_,he,_=>by simp[F5]at he
 | (true,t)::as,[],_,_,_,_,_,he,_=>by simp[F5]at he
 | (false,t)::as,[],_,_,_,_,_,he,_=>by simp[F5]at he
 | (agg,t)::as,a::r,[],_,_,hl,_,_,_=>by simp at hl
 | (true,t)::as,a::r,v::vs,xs,ids,hl,hr,he,hid=>by
  cases a with
  | agg cs =>
   simp only[F5]at he
   split at he
   ·rename_i y ys ids' hy hys
    simp only[Option.some.injEq,Prod.mk.injEq]at he
    obtain⟨rfl,rfl⟩:=he
    obtain⟨us,hv,hus⟩:=hr 0 _ v rfl rfl
    obtain⟨h1,h2,h3⟩:=V8 ok x t cs (fun c=>us[c]?) y [] (fun j s hj=>q0i hus hj) (fun id hm hh b c hk=>⟨hid id (List.mem_append_left _ hm) hh b c hk,rfl⟩) hy
    have hlen:us.length=t.size:=by
     rw[hus.1];have:=congrArg List.length h2;simp at this;omega
    exact⟨⟨us,hv,hlen,q5a hus,h3⟩,q44 ok x as r vs ys ids' (by simpa using hl) (fun i av v h1 h2=>hr (i+1) av v (by simpa using h1) (by simpa using h2)) hys (fun id hm=>hid id (List.mem_append_right _ hm))⟩
   ·cases he
  | one s=>simp[F5]at he
  | tup l=>simp[F5]at he
 | (false,t)::as,a::r,v::vs,xs,ids,hl,hr,he,hid=>by
  cases a with
  | one s =>
   simp only[F5]at he
   cases hkn:s.known with
   | false=>rw[hkn]at he;cases he
   | true=>?_
   rw[hkn,cond_true]at he
   split at he
   ·rename_i y ys ids' hy hys
    simp only[Option.some.injEq,Prod.mk.injEq]at he
    obtain⟨rfl,rfl⟩:=he
    have hrep:RepSV L κ h w s v:=hr 0 _ v rfl rfl
    have hone:=j5g hkn hrep
    obtain⟨h1,h2,h3⟩:=V8 ok x t [s] (F4 v) y [] (fun j s' hj=>by
     cases j with
     | zero=>simp at hj;subst hj;exact⟨v,rfl,hrep,hone⟩
     | succ j=>simp at hj) (fun id hm hh b c hk=>⟨hid id (List.mem_append_left _ (by simpa[E5]using hm)) hh b c hk,rfl⟩) hy
    have hsz:t.size=1:=by
     have:=congrArg List.length h2
     simp at this h1;omega
    exact⟨⟨hsz,hone,h3⟩,q44 ok x as r vs ys ids' (by simpa using hl) (fun i av v h1 h2=>hr (i+1) av v (by simpa using h1) (by simpa using h2)) hys (fun id hm=>hid id (List.mem_append_right _ hm))⟩
   ·cases he
  | agg l=>simp[F5]at he
  | tup l=>simp[F5]at he
theorem T5 {h hs:Heap}:∀ (as:List (Bool×Ty)) (avs:List AV) (xs:I4 as) (ids:List Nat),F5 h as avs=some (xs,ids)->(∀ id∈ids,hs id=h id)->F5 hs as avs=some (xs,ids)
 | [],[],_,_,he,_=>he
 | [],a::r,_,_,he,_=>by simp[F5]at he
 | (true,t)::as,[],_,_,he,_=>by simp[F5]at he
 | (false,t)::as,[],_,_,he,_=>by simp[F5]at he
 | (true,t)::as,a::r,xs,ids,he,hh=>by
  cases a with
  | agg cs =>
   simp only[F5]at he ⊢
   split at he
   ·rename_i y ys ids' hy hys
    simp only[Option.some.injEq,Prod.mk.injEq]at he
    obtain⟨rfl,rfl⟩:=he
    rw[V7 t cs (fun id hm=>hh id (List.mem_append_left _ hm)),hy,T5 as r ys ids' hys (fun id hm=>hh id (List.mem_append_right _ hm))]
   ·cases he
  | one s=>simp[F5]at he
  | tup l=>simp[F5]at he
 | (false,t)::as,a::r,xs,ids,he,hh=>by
  cases a with
  | one s =>
   simp only[F5]at he ⊢
   cases hkn:s.known with
   | false=>rw[hkn]at he;cases he
   | true=>?_
   rw[hkn,cond_true]at he
   rw[cond_true]
   split at he
   ·rename_i y ys ids' hy hys
    simp only[Option.some.injEq,Prod.mk.injEq]at he
    obtain⟨rfl,rfl⟩:=he
    rw[V7 t [s] (fun id hm=>hh id (List.mem_append_left _ (by simpa[E5]using hm))),hy,T5 as r ys ids' hys (fun id hm=>hh id (List.mem_append_right _ hm))]
   ·cases he
  | agg l=>simp[F5]at he
  | tup l=>simp[F5]at he
theorem Y0 {κ':A3} {h':Heap} {w':World} {A:Nat->Prop} {base:Nat} {bo:Option (Nat×(Nat×Nat))} {id':Nat} (hA:∀ b,A b->A4 L κ' h' w' b):∀ (rs:List RTy) (vs:List Value) (y:I8 rs),T3 w' A base bo rs vs y->((I1 id' rs y).2≠[]->κ' id'=bo) ->
  (∀ p∈(I1 id' rs y).2,h' id'=p.2) ->
  vs.length=(I1 id' rs y).1.length/\∀ (i:Nat) (c:Bool×List SV) (u:Value),(I1 id' rs y).1[i]? = some c->vs[i]? = some u->RepComp L κ' h' w' c u
 | [],[],_,_,_,_=>⟨rfl,fun i c u hc=>by simp[I1]at hc⟩
 | [],v::vs,_,hr,_,_=>hr.elim
 | .val agg t::r,[],_,hr,_,_=>hr.elim
 | .own e t::r,[],_,hr,_,_=>hr.elim
 | .val agg t::r,v::vs,y,hr,hbo,hh=>by
  obtain⟨h1,h2⟩:=hr
  obtain⟨i1,i2⟩:=Y0 hA r vs y.2 h2 hbo hh
  refine⟨by simp[I1,i1],fun i c u hc hu=>?_⟩
  cases i with
  | succ i=>exact i2 i c u (by simpa[I1]using hc) (by simpa using hu)
  | zero =>
   simp[I1]at hc hu
   subst hc;subst hu
   cases agg with
   | true =>
    obtain⟨cs,c1,c2,c3,c4⟩:=h1
    refine⟨cs,c1,by rw[c2,R6],fun j s c hj hcj=>?_⟩
    obtain⟨v',v1,v2⟩:=W5 t _ y.1 (RepAt.mono (fun b hb=>⟨hA b hb,rfl⟩) t _ y.1 c4) j s hj
    rw[hcj]at v1;cases v1;exact v2
   | false =>
    obtain⟨c1,c2,c3⟩:=h1
    have hlen:=R6 t y.1
    rw[c1]at hlen
    obtain⟨s,hs⟩:=List.length_eq_one_iff.1 hlen
    rw[hs]
    obtain⟨v',v1,v2,_⟩:=W5 t _ y.1 (RepAt.mono (fun b hb=>⟨hA b hb,rfl⟩) t _ y.1 c3) 0 s (by rw[hs];rfl)
    simp[F4]at v1
    subst v1;exact v2
 | .own e t::r,v::vs,y,hr,hbo,hh=>by
  obtain⟨h1,h2⟩:=hr
  obtain⟨i1,i2⟩:=Y0 hA r vs y.2 h2 (fun _=>hbo (by simp[I1])) (fun p hp=>hh p (List.mem_cons_of_mem _ hp))
  refine⟨by simp[I1,i1],fun i c u hc hu=>?_⟩
  cases i with
  | succ i=>exact i2 i c u (by simpa[I1]using hc) (by simpa using hu)
  | zero =>
   simp[I1]at hc hu
   subst hc;subst hu
   have hid:h' id'=.arr e t y.1:=hh (id',.arr e t y.1) List.mem_cons_self
   show RepSV L κ' h' w' (.own id') v
   rcases h1 with⟨a1,a2,a3⟩ | ⟨b,cap,cur,a1,a2,a3,a4,-⟩
   ·refine⟨?_,by rw[a3];rfl⟩
    rw[hid];exact .inl ⟨(hbo (by simp[I1])).trans a1,a2,a3⟩
   ·refine⟨?_,by rw[a2];rfl⟩
    rw[hid];exact .inr ⟨b,cap,(hbo (by simp[I1])).trans a1,a2⟩
theorem q1o {κ':A3} {h':Heap} {w':World} {l:List (Bool×List SV)} {vs:List Value} (hl:vs.length=l.length)
  (hr:∀ (i:Nat) (c:Bool×List SV) (u:Value),l[i]? = some c->vs[i]? = some u->RepComp L κ' h' w' c u):RepAV L κ' h' w' (q1m l) (q1n vs):=by
 have gen:q1m l=.tup l->q1n vs=.tuple vs.toArray->RepAV L κ' h' w' (q1m l) (q1n vs):=fun h1 h2=>by
  rw[h1,h2];exact⟨vs,rfl,hl,hr⟩
 match l,vs,hl,hr,gen with
 | [],[],_,_,gen=>exact gen rfl rfl
 | [(true,cs)],[v],_,hr,_=>exact hr 0 _ v rfl rfl
 | [(false,[s])],[v],_,hr,_=>exact hr 0 _ v rfl rfl
 | [(false,[])],[v],_,hr,_=>exact(hr 0 _ v rfl rfl).elim
 | [(false,_::_::_)],[v],_,hr,_=>exact(hr 0 _ v rfl rfl).elim
 | x::y::z,_::_::_,_,_,gen=>exact gen (by simp[q1m]) rfl
theorem z4c (id':Nat):∀ (rs:List RTy) (y:I8 rs),P0 rs<=1->(∀ w' A base bo vs,T3 w' A base bo rs vs y->(I1 id' rs y).2=[] \/
  ∃ e t l v,(I1 id' rs y).2=[(id',.arr e t l)]/\j1k w' A base e t v l bo)
 | [],_,_=>fun _ _ _ _ _ _=>.inl rfl
 | .val agg t::r,y,hc=>fun w' A base bo vs hr=>by
  cases vs with
  | nil=>exact hr.elim
  | cons v vs =>
   simp[P0,RTy.isOwn]at hc
   exact z4c id' r y.2 hc w' A base bo vs hr.2
 | .own e t::r,y,hc=>fun w' A base bo vs hr=>by
  cases vs with
  | nil=>exact hr.elim
  | cons v vs =>
   simp[P0,RTy.isOwn]at hc
   have h0:P0 r=0:=by omega
   have:∀ (r:List RTy) (y:I8 r),P0 r=0->(I1 id' r y).2=[]:=by
    intro r
    induction r with
    | nil=>intro _ _;rfl
    | cons a r ih =>
     intro y h0
     cases a with
     | val agg t=>simp[P0,RTy.isOwn]at h0;exact ih y.2 h0
     | own e t=>simp[P0,RTy.isOwn]at h0
   exact .inr ⟨e,t,y.1,v,by simp[I1,this r y.2 h0],hr.1⟩
theorem q36 {a:Act} {o:Oper} {g:Operand} {args:Array Operand} {Ts:Array TypeId} (ho:o.op=.call { callee:=.value g,args:=args,argTypes:=Ts }) {f:FuncId} {first caps:Array Value} (hg:a.eval g=.func (.func f) first caps)
  {fn:Func} (hf:P.funcs[f]? = some fn) (hb:fn.body.isSome=true) (hn:(fn.name== "runtime.NumGoroutine")=false) (w:World) :
  (execOp a.eval o).run P w=.ok (.enter f (first++args.map a.eval++caps)) w:=by
 unfold execOp
 simp[ho,resolve,Deferred.ofValue,hg,invoke,callFunc,hf,Option.isNone_iff_eq_none]
 cases hbb:fn.body with
 | none=>rw[hbb]at hb;cases hb
 | some c=>simpa using hn
theorem RepAt.flat {w:World} {A A':Nat->Prop}:∀ (t:Ty) (get:Nat->Option Value) (x:t.den),t.flat=true->RepAt w A t get x->RepAt w A' t get x
 | .int _,_,_,_,h=>h
 | .bool,_,_,_,h=>h
 | .nil,_,_,_,_=>trivial
 | .cons a b,get,x,hf,h=>by
  simp only[Ty.flat,Bool.and_eq_true]at hf
  exact⟨RepAt.flat a get x.1 hf.1 h.1,RepAt.flat b _ x.2 hf.2 h.2⟩
 | .list _,_,_,hf,_=>by cases hf
theorem z4b {w:World} {A A':Nat->Prop} {base:Nat} {bo:Option (Nat×(Nat×Nat))}:∀ {rs:List RTy} {vs:List Value} {y:I8 rs},q23 rs=true->T3 w A base bo rs vs y->T3 w A' base bo rs vs y
 | [],[],_,_,h=>h
 | [],_::_,_,_,h=>h
 | .val _ _::_,[],_,_,h=>h
 | .own _ _::_,[],_,_,h=>h
 | .val agg t::r,v::vs,y,hf,h=>by
  simp only[q23,Bool.and_eq_true]at hf
  refine⟨?_,z4b hf.2 h.2⟩
  have h1:=h.1
  cases agg with
  | false=>exact⟨h1.1,h1.2.1,RepAt.flat t _ _ hf.1 h1.2.2⟩
  | true=>obtain⟨cs,c1,c2,c3,c4⟩:=h1;exact⟨cs,c1,c2,c3,RepAt.flat t _ _ hf.1 c4⟩
 | .own e t::r,v::vs,y,hf,h=>by
  simp only[q23,Bool.and_eq_true]at hf
  refine⟨?_,z4b hf.2 h.2⟩
  rcases h.1 with h1 | ⟨b,cap,cur,c1,c2,c3,c4,c5,c6,c7,c8,c9⟩
  ·exact .inl h1
  ·exact .inr ⟨b,cap,cur,c1,c2,c3,c4,c5,c6,c7,c8,fun i x hx=>RepAt.flat t _ _ hf.1 (c9 i x hx)⟩
structure FunOK' (P:Program) (gl:T2) (f:FuncId) (sp:Spec):Prop where
 ok:y1e P gl f sp
 fn:∃ fn,P.funcs[f]? = some fn/\fn.body.isSome=true/\(fn.name== "runtime.NumGoroutine")=false
theorem j2l {r:Option Nat} {m:Nat} {f:FuncId} {args:Array Value} {w:World} {R:Ending->World->Prop} (h:CallsIn (Fr none) m P f args w R):CallsIn (Fr r) m P f args w R:=h
theorem q0q {r:Option Nat} {o:Oper} {a:Act} {w:World} {m:Nat} {K:Act->World->Prop} {Q:Exit->Act->World->Prop} {f:FuncId} {args:Array Value} (hd:∀ c,o.op≠.defer c)
  (h:(execOp a.eval o).run P w=.ok (.enter f args) w) {R:Ending->World->Prop} (hc:CallsIn (Fr none) (m-1) P f args w R) (hR:∀ e w',R e w'->∃ v,e=.returned v/\K (a.put o.dst v) w'):o.wpIn (Fr r) m P a w K Q:=by
 refine⟨fun _ _=>trivial,?_⟩
 rw[Oper.semAt_eq _ _ _ hd,h]
 refine⟨fun h=>by simp[Fr]at h,CallsIn.mono (j2l hc) fun e w' he=>?_⟩
 obtain⟨v,rfl,hk⟩:=hR e w' he
 exact hk
theorem z6f {κ:A3} {h:Heap} {w:World} {agg:Bool} {cs:List ((t:Ty)×t.den)} {us:List Value} (h2:us.length=cs.length) (h3:agg=false->us.length=1)
  (h4:∀ (i:Nat) (p:(t:Ty)×t.den) (u:Value),cs[i]? = some p->us[i]? = some u->p.1.size=1/\u.oneCell'=true/\RepAt w (A4 L κ h w) p.1 (F4 u) p.2):RepAV L κ h w (q45 agg cs) (cond agg (.agg us.toArray) (us.headD undef)):=by
 cases agg with
 | true =>
  refine⟨us,rfl,by simp[h2],fun i s c hi hc=>?_⟩
  rw[List.getElem?_map,Option.map_eq_some_iff]at hi
  obtain⟨p,hp,rfl⟩:=hi
  exact⟨h4 i p c hp hc,(h4 i p c hp hc).2.1⟩
 | false =>
  have hl:=h3 rfl
  match us,cs,h2,hl,h4 with
  | [u],[p],_,_,h4=>exact h4 0 p u rfl rfl
  | [_],[],h2,_,_=>simp at h2
  | [_],_::_::_,h2,_,_=>simp at h2
theorem y4h {o:Oper} {g:Operand} {args:Array Operand} {Ts:Array TypeId} (ho:o.op=.call { callee:=.value g,args:=args,argTypes:=Ts }) {f:FuncId} {pre post:List AV} {ρ ρs:Env} (hg:q1x (ev ρ g)=some (f,pre,post))
  {fn:Func} (hf1:P.funcs[f]? = some fn) (hf2:fn.body.isSome=true) (hf3:(fn.name== "runtime.NumGoroutine")=false) {hs:Heap} (h1:∀ x,x=g\/x∈args.toList->ev ρs x=ev ρ x) {κ:A3} {a:Act} {w:World} (hev:∀ x,RepAV L κ hs w (ev ρs x) (a.eval x)) :
  ∃ vs:List Value,(execOp a.eval o).run P w=.ok (.enter f vs.toArray) w/\vs.length=(pre++args.toList.map (ev ρ)++post).length/\∀ (i:Nat) (av:AV) (v:Value),(pre++args.toList.map (ev ρ)++post)[i]? = some av->vs[i]? = some v->RepAV L κ hs w av v:=by
 have hgv:=hev g
 rw[h1 g (.inl rfl)]at hgv
 have hargs:∀ (i:Nat) (av:AV) (v:Value),(args.toList.map (ev ρ))[i]? = some av->(args.toList.map a.eval)[i]? = some v->RepAV L κ hs w av v:=fun i av v hi hv=>by
  simp only[List.getElem?_map,Option.map_eq_some_iff]at hi hv
  obtain⟨q,hq,rfl⟩:=hi
  obtain⟨q',hq',rfl⟩:=hv
  rw[hq]at hq';cases hq'
  rw[<-h1 q (.inr (List.mem_of_getElem? hq))]
  exact hev q
 have hmlen:(args.toList.map (ev ρ)).length=(args.toList.map a.eval).length:=by simp
 unfold q1x at hg
 split at hg
 ·rename_i f' caps hgf
  cases hg
  rw[hgf]at hgv
  obtain⟨cs,hgv,hcl,hcc⟩:=hgv
  have hrun:=q36 (P:=P) ho hgv hf1 hf2 hf3 w
  have harr:(#[]++args.map a.eval++cs.toArray)=(args.toList.map a.eval++cs).toArray:=by
   apply Array.toList_inj.1;simp
  rw[harr]at hrun
  refine⟨_,hrun,by simp[q33,hcl],fun i av v hi hv=>?_⟩
  rw[List.nil_append]at hi
  by_cases hlt:i<(args.toList.map (ev ρ)).length
  ·rw[List.getElem?_append_left hlt]at hi
   rw[List.getElem?_append_left (by omega)]at hv
   exact hargs i av v hi hv
  ·rw[List.getElem?_append_right (by omega)]at hi hv
   rw[hmlen]at hi
   simp only[q33,List.getElem?_map,Option.map_eq_some_iff]at hi
   obtain⟨p,hp,rfl⟩:=hi
   obtain⟨hn,b,c,hk,hc'⟩:=hcc _ p hp
   rw[hv]at hc';cases hc'
   exact⟨hn,b,c,hk,rfl⟩
 ·rename_i f' agg cs hgf
  cases hg
  rw[hgf]at hgv
  obtain⟨us,hgv,h2,h3,h4⟩:=hgv
  have hrun:=q36 (P:=P) ho hgv hf1 hf2 hf3 w
  have harr:(#[cond agg (.agg us.toArray) (us.headD undef)]++args.map a.eval++#[])=(cond agg (.agg us.toArray) (us.headD undef)::args.toList.map a.eval).toArray:=by
   apply Array.toList_inj.1;simp
  rw[harr]at hrun
  refine⟨_,hrun,by simp,fun i av v hi hv=>?_⟩
  rw[List.append_nil,List.singleton_append]at hi
  cases i with
  | zero =>
   simp only[List.getElem?_cons_zero,Option.some.injEq]at hi hv
   subst hi;subst hv
   exact z6f h2 h3 h4
  | succ i=>exact hargs i av v (by simpa using hi) (by simpa using hv)
 ·rename_i f' id off hgf
  cases hg
  rw[hgf]at hgv
  obtain⟨u,hgv,h2,b,c,h3,h4⟩:=hgv
  have hrun:=q36 (P:=P) ho hgv hf1 hf2 hf3 w
  have harr:(#[u]++args.map a.eval++#[])=(u::args.toList.map a.eval).toArray:=by
   apply Array.toList_inj.1;simp
  rw[harr]at hrun
  refine⟨_,hrun,by simp,fun i av v hi hv=>?_⟩
  rw[List.append_nil,List.singleton_append]at hi
  cases i with
  | zero =>
   simp only[List.getElem?_cons_zero,Option.some.injEq]at hi hv
   subst hi;subst hv
   exact⟨h2,b,c,h3,h4⟩
  | succ i=>exact hargs i av v (by simpa using hi) (by simpa using hv)
 ·cases hg
def q62 (P:Program) (L:Nat->Prop) (o:Oper) (f:FuncId) (avs:List AV) (X:Operand->Prop) (ρ:Env):Prop :=
 (∀ c,o.op≠.defer c)/\∀ (fn:Func),P.funcs[f]? = some fn->fn.body.isSome=true->(fn.name== "runtime.NumGoroutine")=false->∀ (ρs:Env) (hs:Heap),(∀ x,X x->ev ρs x=ev ρ x) ->
  ∀ (κ:A3) (a:Act) (w:World),(∀ x,RepAV L κ hs w (ev ρs x) (a.eval x)) ->
  ∃ vs:List Value,(execOp a.eval o).run P w=.ok (.enter f vs.toArray) w/\vs.length=avs.length/\∀ (i:Nat) (av:AV) (v:Value),avs[i]? = some av->vs[i]? = some v->RepAV L κ hs w av v
theorem q3m {o:Oper} {g:Operand} {args:Array Operand} {Ts:Array TypeId} (ho:o.op=.call { callee:=.value g,args:=args,argTypes:=Ts }) {f:FuncId} {pre post:List AV} {ρ:Env} (hg:q1x (ev ρ g)=some (f,pre,post)) :
  q62 P L o f (pre++args.toList.map (ev ρ)++post) (fun x=>x=g\/x∈args.toList) ρ :=
 ⟨(fun c hc=>by rw[ho]at hc;cases hc),fun _ hf1 hf2 hf3 _ _ h1 _ _ _ hev=>y4h ho hg hf1 hf2 hf3 h1 hev⟩
theorem v4s {o:Oper} {f:FuncId} {avs:List AV} {X:Operand->Prop} {ρ:Env} (hR:q62 P L o f avs X ρ) {sp:Spec} {gl:T2} (hsp:FunOK' P gl f sp) (hgl:GlobOK gl w0)
  {ρs:Env} {h hs:Heap} {x:I4 sp.args} {y:I8 sp.res} {ids:List Nat} (hx:F5 h sp.args avs=some (x,ids)) (hy:sp.f x=some y) (hids:∀ id∈ids,hs id=h id)
  (h1:∀ x,X x->ev ρs x=ev ρ x) {κ:A3} {a:Act} {w:World} (hev:∀ x,RepAV L κ hs w (ev ρs x) (a.eval x)) (_henv:q1u L κ hs w ρs a) (ok:HeapOK L w0 κ hs w)
  (okI:HeapOK L w0 κ (A5 (B3 hs ids) hs) w) (extI:Ext L κ hs w κ (A5 (B3 hs ids) hs) w) (freeI:∀ id∈ids,q41 (hs id)->∀ b c,κ id=some (b,c)->A4 L κ (A5 (B3 hs ids) hs) w b) (m:Nat) :
  ∃ vs0:List Value,(execOp a.eval o).run P w=.ok (.enter f vs0.toArray) w/\CallsIn (Fr none) (m-1) P f vs0.toArray w fun e w'=>∃ v,e=.returned v/\Below w.heap.size w w' /\
   R2 (fun b=>L b\/∃ id c,(A5 (B3 hs ids) hs id).live=true/\κ id=some (b,c)) w w' sp.res v y:=by
 have hxs:=T5 sp.args _ x ids hx hids
 obtain⟨fn,hf1,hf2,hf3⟩:=hsp.fn
 obtain⟨vs0,hrun,hvl,hvr⟩:=hR.2 fn hf1 hf2 hf3 ρs hs h1 κ a w hev
 have hargs:O3 w (A4 L κ (A5 (B3 hs ids) hs) w) sp.args vs0 x:=q44 ok extI sp.args _ _ x ids hvl hvr hxs freeI
 let L':Nat->Prop:=fun b=>L b\/∃ id c,(A5 (B3 hs ids) hs id).live=true/\κ id=some (b,c)
 have hL':∀ b,L' b->b<w.heap.size:=fun b hb=>by
  rcases hb with hb | ⟨id,c,hl,hk⟩
  ·have:=(ok.outer b hb).1;omega
  ·exact(okI.own id b c hl hk).2
 have hfree:∀ b,A4 L κ (A5 (B3 hs ids) hs) w b↔b<w.heap.size/\¬ L' b:=fun b =>
  ⟨fun ⟨a1,a2,a3⟩=>⟨a1,fun h=>by rcases h with h | ⟨id,c,hl,hk⟩;exact a2 h;exact a3 id c hl hk⟩,
   fun ⟨a1,a2⟩=>⟨a1,fun h=>a2 (.inl h),fun id c hl hk=>a2 (.inr ⟨id,c,hl,hk⟩)⟩⟩
 have hfe:(A4 L κ (A5 (B3 hs ids) hs) w)=fun b=>b<w.heap.size/\¬ L' b:=funext fun b=>propext (hfree b)
 rw[hfe]at hargs
 have hcall:=hsp.ok x y hy L' w vs0 (hgl.below ok.below) hL' hargs (m-1)
 exact⟨vs0,hrun,hcall⟩
theorem j01 {R:Type} {o:Oper} {f:FuncId} {avs:List AV} {X:Operand->Prop} {ρ:Env} (hR:q62 P L o f avs X ρ) {sp:Spec} {gl:T2} (hsp:FunOK' P gl f sp) (hgl:GlobOK gl w0)
  {h:Heap} {id':Nat} {K:Eff->Option R} {z:R} (he:z88 sp h id' avs K=some z) :
  ∃ q,K q=some z/\q.full=none/\∀ ρs hs,(∀ x,X x->ev ρs x=ev ρ x)->(∀ id∈q.rd,hs id=h id)->(∀ p∈q.ups,hs p.1=h p.1)->A8 P L w0 o ρs hs (q.heap hs) q.av:=by
 unfold z88 at he
 split at he
 ·cases he
 ·rename_i x ids hx
  cases hy:sp.f x with
  | none=>rw[hy]at he;cases he
  | some y =>
   rw[hy,Option.bind_some]at he
   simp only at he
   cases hc:(Nat.ble (P0 sp.res) 1&&ids.all (fun j=>!Nat.beq j id'))with
   | false=>rw[hc]at he;cases he
   | true =>
    rw[hc,cond_true]at he
    rw[Bool.and_eq_true]at hc
    have hone:=Nat.le_of_ble_eq_true hc.1
    have hni:id'∉ids:=fun hm=>by
     have:=List.all_eq_true.1 hc.2 id' hm
     simp at this
    unfold I2 at he
    split at he
    ·rename_i hfr
     refine⟨_,he,rfl,fun ρs hs h1 h2 h3=>?_⟩
     have hids:∀ id∈ids,hs id=h id:=fun id hm=>h2 id (List.mem_cons_of_mem _ hm)
     have h4:hs id'=h id':=h2 id' List.mem_cons_self
     have hxs:=T5 sp.args _ x ids hx hids
     have hfs:hs id'=.fresh:=h4.trans hfr
     cases hfl:q23 sp.res with
     | true =>
      show A8 P L w0 o ρs hs (A5 (I1 id' sp.res y).2 hs) (q1m (I1 id' sp.res y).1)
      intro r κ a w henv ok m K' Q hK
      have hev:=O4 henv
      obtain⟨okI,extI,freeI⟩:=X1 ids ok
      obtain⟨cs,hrun,hcall⟩:=v4s hR hsp hgl hx hy hids h1 hev henv ok okI extI freeI m
      refine q0q hR.1 hrun hcall fun e w' ⟨v,hev',hbel,bo,vs,hv,hres⟩=>⟨v,hev',?_⟩
      have hres:T3 w' (fun _=>False) w.heap.size bo sp.res vs y:=z4b hfl hres
      rcases z4c id' sp.res y hone w' _ _ bo vs hres with hnil | ⟨e',t,l,v',hups,hnew⟩
      ·have hrr:=Y0 (L:=L) (κ':=κ) (h':=hs) (id':=id') (A:=fun _=>False) (fun b hb=>hb.elim) sp.res vs y hres (fun h=>absurd hnil h) (fun p hp=>by rw[hnil]at hp;cases hp)
       refine hK κ v w' ?_ ?_ ?_
       ·rw[hnil];exact q25 ok hbel
       ·rw[hnil,hv];exact q1o hrr.1 hrr.2
       ·rw[hnil];exact q11 hbel
      ·rcases hnew with⟨rfl,rfl,hv'⟩ | ⟨b,cap,cur,rfl,hv',hbb,hcell,hsz,hcm,hll,h1c,hlc⟩
       ·have okN:=q26 ok e' t hfs
        have exN:=q12 (L:=L) (κ:=κ) (w:=w) e' t hfs
        have hrr:=Y0 (L:=L) (κ':=upd κ id' none) (h':=upd hs id' (.arr e' t [])) (id':=id') (A:=fun _=>False) (fun b hb=>hb.elim) sp.res vs y hres (fun _=>A1 _ _ _) (fun p hp=>by rw[hups]at hp;simp at hp;subst hp;exact A1 _ _ _)
        refine hK (upd κ id' none) v w' ?_ ?_ ?_
        ·rw[hups];exact q25 okN hbel
        ·rw[hups,hv];exact q1o hrr.1 hrr.2
        ·rw[hups];exact exN.trans (q11 hbel)
       ·have hrr:=Y0 (L:=L) (κ':=upd κ id' (some (b,cap))) (h':=upd hs id' (.arr e' t l)) (id':=id') (A:=fun _=>False) (fun b hb=>hb.elim) sp.res vs y hres (fun _=>A1 _ _ _) (fun p hp=>by rw[hups]at hp;simp at hp;subst hp;exact A1 _ _ _)
        have hbl:b<w'.heap.size:=(Array.getElem?_eq_some_iff.1 hcell).1
        refine hK (upd κ id' (some (b,cap))) v w' ?_ ?_ ?_
        ·rw[hups]
         exact z8p ok hbel _ hfs hbb hbl (q0h (cs:=cur.toList) (A1 _ _ _) (by simpa using hcell) (by simpa using hsz) hcm hll h1c (hlc.mono fun b hb=>hb.elim))
        ·rw[hups,hv];exact q1o hrr.1 hrr.2
        ·rw[hups];exact z0m hbel _ hfs hbb
     | false =>
     show A8 P L w0 o ρs hs (A5 (B3 h ids++(I1 id' sp.res y).2) hs) (q1m (I1 id' sp.res y).1)
     rw[<-q4j ids hids,K0]
     intro r κ a w henv ok m K' Q hK
     have hev:=O4 henv
     obtain⟨okI,extI,freeI⟩:=X1 ids ok
     obtain⟨fn,hf1,hf2,hf3⟩:=hsp.fn
     obtain⟨vs0,hrun,hvl,hvr⟩:=hR.2 fn hf1 hf2 hf3 ρs hs h1 κ a w hev
     have hargs:O3 w (A4 L κ (A5 (B3 hs ids) hs) w) sp.args vs0 x:=q44 ok extI sp.args _ _ x ids hvl hvr hxs freeI
     let L':Nat->Prop:=fun b=>L b\/∃ id c,(A5 (B3 hs ids) hs id).live=true/\κ id=some (b,c)
     have hL':∀ b,L' b->b<w.heap.size:=fun b hb=>by
      rcases hb with hb | ⟨id,c,hl,hk⟩
      ·have:=(ok.outer b hb).1;omega
      ·exact(okI.own id b c hl hk).2
     have hfree:∀ b,A4 L κ (A5 (B3 hs ids) hs) w b↔b<w.heap.size/\¬ L' b:=fun b =>
      ⟨fun ⟨a1,a2,a3⟩=>⟨a1,fun h=>by rcases h with h | ⟨id,c,hl,hk⟩;exact a2 h;exact a3 id c hl hk⟩,
       fun ⟨a1,a2⟩=>⟨a1,fun h=>a2 (.inl h),fun id c hl hk=>a2 (.inr ⟨id,c,hl,hk⟩)⟩⟩
     have hfe:(A4 L κ (A5 (B3 hs ids) hs) w)=fun b=>b<w.heap.size/\¬ L' b:=funext fun b=>propext (hfree b)
     rw[hfe]at hargs
     have hcall:=hsp.ok x y hy L' w vs0 (hgl.below ok.below) hL' hargs (m-1)
     refine q0q hR.1 hrun hcall fun e w' ⟨v,hev',hbel,bo,vs,hv,hres⟩=>⟨v,hev',?_⟩
     have hfI:A5 (B3 hs ids) hs id'=.fresh:=y6g hfs
     have hAw:∀ (κ':A3) (h':Heap),(∀ id c b,(h' id).live=true->κ' id=some (b,c)->(∃ id2 c2,(A5 (B3 hs ids) hs id2).live=true/\κ id2=some (b,c2))\/∃ c2,bo=some (b,c2)) ->
       ∀ b,(b<w'.heap.size/\¬ L' b/\∀ c,bo≠some (b,c))->A4 L κ' h' w' b:=fun κ' h' hh b ⟨a1,a2,a3⟩ =>
      ⟨a1,fun h=>a2 (.inl h),fun id c hl hk=>by
       rcases hh id c b hl hk with⟨id2,c2,q1,q2⟩ | ⟨c2,q⟩
       ·exact a2 (.inr ⟨id2,c2,q1,q2⟩)
       ·exact a3 c2 q⟩
     rcases z4c id' sp.res y hone w' _ _ bo vs hres with hnil | ⟨e',t,l,v',hups,hnew⟩
     ·have hrr:=Y0 (L:=L) (κ':=κ) (h':=A5 (B3 hs ids) hs) (id':=id') (hAw κ _ (fun id c b hl hk=>.inl ⟨id,c,hl,hk⟩)) sp.res vs y hres (fun h=>absurd hnil h) (fun p hp=>by rw[hnil]at hp;cases hp)
      refine hK κ v w' ?_ ?_ ?_
      ·rw[hnil];exact q25 okI hbel
      ·rw[hnil,hv];exact q1o hrr.1 hrr.2
      ·rw[hnil];exact extI.trans (q11 hbel)
     ·rcases hnew with⟨rfl,rfl,hv'⟩ | ⟨b,cap,cur,rfl,hv',hbb,hcell,hsz,hcm,hll,h1c,hlc⟩
      ·have okN:=q26 okI e' t hfI
       have exN:=q12 (L:=L) (κ:=κ) (w:=w) e' t hfI
       have hrr:=Y0 (L:=L) (κ':=upd κ id' none) (h':=upd (A5 (B3 hs ids) hs) id' (.arr e' t [])) (id':=id') (hAw _ _ (fun id c b hl hk=>by
        by_cases hid:id=id'
        ·subst hid;rw[A1]at hk;cases hk
        ·rw[A0 _ _ hid]at hl hk;exact .inl ⟨id,c,hl,hk⟩)) sp.res vs y hres (fun _=>A1 _ _ _) (fun p hp=>by rw[hups]at hp;simp at hp;subst hp;exact A1 _ _ _)
       refine hK (upd κ id' none) v w' ?_ ?_ ?_
       ·rw[hups];exact q25 okN hbel
       ·rw[hups,hv];exact q1o hrr.1 hrr.2
       ·rw[hups];exact(extI.trans exN).trans (q11 hbel)
      ·have hA':=hAw (upd κ id' (some (b,cap))) (upd (A5 (B3 hs ids) hs) id' (.arr e' t l)) (fun id c b' hl hk=>by
        by_cases hid:id=id'
        ·subst hid;rw[A1]at hk;simp at hk;exact .inr ⟨cap,by rw[hk.1]⟩
        ·rw[A0 _ _ hid]at hl hk;exact .inl ⟨id,c,hl,hk⟩)
       have hrr:=Y0 (L:=L) (κ':=upd κ id' (some (b,cap))) (h':=upd (A5 (B3 hs ids) hs) id' (.arr e' t l)) (id':=id') hA' sp.res vs y hres (fun _=>A1 _ _ _) (fun p hp=>by rw[hups]at hp;simp at hp;subst hp;exact A1 _ _ _)
       have hbl:b<w'.heap.size:=(Array.getElem?_eq_some_iff.1 hcell).1
       refine hK (upd κ id' (some (b,cap))) v w' ?_ ?_ ?_
       ·rw[hups]
        exact z8p okI hbel _ hfI hbb hbl (q0h (cs:=cur.toList) (A1 _ _ _) (by simpa using hcell) (by simpa using hsz) hcm hll h1c (hlc.mono fun b hb=>⟨hA' b hb,rfl⟩))
       ·rw[hups,hv];exact q1o hrr.1 hrr.2
       ·rw[hups];exact extI.trans (z0m hbel _ hfI hbb)
    ·cases he
end Go.Abs
