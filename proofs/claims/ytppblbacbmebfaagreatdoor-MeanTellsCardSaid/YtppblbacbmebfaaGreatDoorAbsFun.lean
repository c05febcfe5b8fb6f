/- The engine, part 11: a function's contract, and what a call by it comes to. -/
import Derived.Test.YtppblbacbmebfaaGreatDoorAbsSound8
namespace Go.Abs
open Go Go.RowKit
variable {P:Program} {L:Nat->Prop} {w0:World}
def P9 (w:World) (A:Nat->Prop):(as:List (Bool×Ty))->List Value->I8 as->Prop
 | [],[],_=>True
 | (agg,t)::r,v::vs,x=>RepVal w A agg t v x.1/\P9 w A r vs x.2
 | _,_,_=>False
def j2c (w':World) (A:Nat->Prop) (base:Nat) (e:TypeId) (t:Ty) (v:Value) (l:List t.den) (bo:Option (Nat×(Nat×Nat))):Prop :=
 (bo=none/\l=[]/\v=.slice none 0 0) \/
 ∃ b cap cur,bo=some (b,cap)/\v=.slice (some ⟨b,cap.2,none⟩) l.length cap.1/\base<=b/\w'.heap[b]? = some (.cells cur e (0,0))/\cap.2+cap.1*t.size<=cur.size/\cap.1<=maxLen/\l.length<=cap.1 /\
  (∀ c∈cur.toList,c.oneCell'=true)/\ListCells w' A t (cur.toList.drop cap.2) l
def U5 (w':World) (A:Nat->Prop) (base:Nat) (bo:Option (Nat×(Nat×Nat))):(rs:List RTy)->List Value->J2 rs->Prop
 | [],[],_=>True
 | .val agg t::r,v::vs,y=>RepVal w' A agg t v y.1/\U5 w' A base bo r vs y.2
 | .own e t::r,v::vs,y=>j2c w' A base e t v y.1 bo/\U5 w' A base bo r vs y.2
 | _,_,_=>False
def q3b:List Value->Value
 | [v]=>v
 | l=>.tuple l.toArray
def S9 (L:Nat->Prop) (w w':World) (rs:List RTy) (v:Value) (y:J2 rs):Prop :=
 ∃ bo vs,v=q3b vs/\U5 w' (fun b=>b<w'.heap.size/\¬ L b/\∀ c,bo≠some (b,c)) w.heap.size bo rs vs y
abbrev L4:=Nat->Option (IntKind×Nat×List Int)
def GlobOK (gl:L4) (w:World):Prop:=∀ g k n l,gl g=some (k,n,l)->(n≠0->l.length=n/\∀ (i:Nat) (y:Int),l[i]? = some y->w.cell? ⟨g,i,none⟩=some (.int k y)) /\
 (n=0->∃ r b e:Nat,l=[(r:Int),(b:Int),(e:Int)]/\w.cell? ⟨g,0,none⟩=some (.iface r (.agg #[.pointer (some ⟨b,e,none⟩)])))
theorem q4j {w:World} {a:Addr} {v:Value} (h:w.cell? a=some v):a.block<w.heap.size:=by
 grind[World.cell?]
theorem GlobOK.below {m:L4} {w w':World} (h:GlobOK m w) (f:Below w.heap.size w w'):GlobOK m w':=fun g k n l d=>⟨fun c=>⟨((h g k n l d).1 c).1,fun i y p=>by
 have:=((h g k n l d).1 c).2 i y p
 rw[q4i (w:=w) (w':=w') (a:=⟨g,i,none⟩) (f.block g (q4j this))]
 omega⟩,fun c=>by
 obtain⟨r,b,e,o,q⟩:=(h g k n l d).2 c
 refine⟨r,b,e,o,?_⟩
 rw[q4i (w:=w) (w':=w') (a:=⟨g,0,none⟩) (f.block g (q4j q))]
 omega⟩
def y13 (P:Program) (gl:L4) (f:FuncId) (sp:Spec):Prop :=
 ∀ x y,sp.f x=some y->∀ (L:Nat->Prop) (w:World) (vals:List Value),GlobOK gl w->(∀ b,L b->b<w.heap.size)->P9 w (fun b=>b<w.heap.size/\¬ L b) sp.args vals x ->
  ∀ m,CallsIn (Fr none) m P f vals.toArray w fun e w'=>∃ v,e=.returned v/\Below w.heap.size w w'/\S9 L w w' sp.res v y
theorem q0i {κ:A2} {h:Heap} {w w':World} (hb:Below w.heap.size w w'):Ext L κ h w κ h w' where
 place _ _:=rfl
 kid _ hd:=hd
 arrD _ _ _ l f hl:=.inl ⟨l,f,rfl,hl⟩
 arrK _ _ _ _ _ l k f hl:=.inl ⟨l,rfl,.inl ⟨k,f,hl⟩⟩
 dead _ hd:=hd
 cells _ l hl:=.inl ⟨l,hl⟩
 arr _ _ _ l hl:=.inl ⟨l,rfl,.inl hl⟩
 ice _ _ _ _ hl:=.inl hl
 lrec _ _ s hl:=.inl ⟨s,hl⟩
 maps _ hl:=.inl hl
 iter _ _ _ _ _ l c hl:=.inl ⟨l,c,hl⟩
 size:=hb.size
 loops b r hr:=⟨r,(hb.block b (Array.getElem?_eq_some_iff.1 hr).1).trans hr⟩
 defs b hr:=(hb.block b (Array.getElem?_eq_some_iff.1 hr).1).trans hr
 still b hf:=⟨⟨Nat.lt_of_lt_of_le hf.1 hb.size,hf.2⟩,hb.block b hf.1⟩
theorem z2r {κ:A2} {h:Heap} {w:World} (i:HeapOK L w0 κ h w) {id b:Nat} {c:Nat×Nat} (r:h id≠.dead) (p:h id≠.fresh) (f:κ id=some (b,c)):b<w.heap.size:=by
 by_cases d:(h id).live=true
 ·exact(i.own id b c d f).2
 ·cases g:h id with
  | mice q x m s l=>have:=i.obj id;rw[g]at this;obtain⟨o,u,v,n,j,k,-⟩:=this;rw[f]at j;cases j;exact k.1
  | ice e t l=>have:=i.obj id;rw[g]at this;exact(this.2 b c f).1
  | dead=>grind
  | fresh=>grind
  | _=>rw[g]at d;exact absurd rfl d
theorem q1m {κ:A2} {h:Heap} {w w':World} (a:HeapOK L w0 κ h w) (d:Below w.heap.size w w'):HeapOK L w0 κ h w' where
 obj id:=by
  by_cases e:h id=.dead\/h id=.fresh
  ·rcases e with e | e<;>rw[e]<;>trivial
  ·exact RepObj.ext (q0i d) rfl (fun b c f=>d.block b (z2r a (fun h=>e (.inl h)) (fun h=>e (.inr h)) f)) (fun _=>rfl) (fun n b c f=>d.block b (q7q a f)) (a.obj id)
 inj:=a.inj
 own i b c j f:=by have:=a.own i b c j f;have:=d.size;omega
 below:=a.below.trans (d.mono a.below.size)
 outer b g:=⟨Nat.lt_of_lt_of_le (a.outer b g).1 d.size,(a.outer b g).2⟩
 kids:=a.kids
theorem z0x {κ:A2} {h:Heap} {w w':World} (hb:Below w.heap.size w w') {id b:Nat} {c:Nat×Nat} (obj:AObj) (hf:h id=.fresh) (hbb:w.heap.size<=b) :
  Ext L κ h w (upd κ id (some (b,c))) (upd h id obj) w' where
 place j hj:=A0 _ _ (fun e=>hj.1 (e▸hf))
 kid j hd:=by rw[A0 _ _ (fun e=>by rw[e,hf]at hd;cases hd)];exact hd
 arrD j e t l f hl:=by rw[A0 _ _ (fun e=>by rw[e,hf]at hl;cases hl)];exact .inl ⟨l,f,rfl,hl⟩
 arrK j _ _ _ _ l k f hl:=by rw[A0 _ _ (fun e=>by rw[e,hf]at hl;cases hl)];exact .inl ⟨l,rfl,.inl ⟨k,f,hl⟩⟩
 dead j hd:=by rw[A0 _ _ (fun e=>by rw[e,hf]at hd;cases hd)];exact hd
 cells j l hl:=by rw[A0 _ _ (fun e=>by rw[e,hf]at hl;cases hl)];exact .inl ⟨l,hl⟩
 arr j e t l hl:=by rw[A0 _ _ (fun e=>by rw[e,hf]at hl;cases hl)];exact .inl ⟨l,rfl,.inl hl⟩
 ice j e t l hl:=by rw[A0 _ _ (fun e=>by rw[e,hf]at hl;cases hl)];exact .inl hl
 lrec j i s hl:=by rw[A0 _ _ (fun e=>by rw[e,hf]at hl;cases hl)];exact .inl ⟨s,hl⟩
 maps j hl:=by rw[A0 _ _ (fun e=>by rw[e,hf]at hl;cases hl)];exact .inl hl
 iter j _ _ _ _ l c hl:=by rw[A0 _ _ (fun e=>by rw[e,hf]at hl;cases hl)];exact .inl ⟨l,c,hl⟩
 size:=hb.size
 loops b r hr:=⟨r,(hb.block b (Array.getElem?_eq_some_iff.1 hr).1).trans hr⟩
 defs b hr:=(hb.block b (Array.getElem?_eq_some_iff.1 hr).1).trans hr
 still b' hf':=by
  obtain⟨h1,h3⟩:=hf'
  refine⟨⟨Nat.lt_of_lt_of_le h1 hb.size,fun j c' hj hk=>?_⟩,hb.block b' h1⟩
  by_cases hji:j=id
  ·subst hji;rw[A1]at hk;simp at hk;omega
  ·rw[A0 _ _ hji]at hj hk;exact h3 j c' hj hk
theorem z92 {κ:A2} {h:Heap} {w w':World} (f:HeapOK L w0 κ h w) (r:Below w.heap.size w w') {id b:Nat} {c:Nat×Nat} (obj:AObj) (x:h id=.fresh) (v:w.heap.size<=b) (A:b<w'.heap.size)
  (B:RepObj L (upd κ id (some (b,c))) (upd h id obj) w' id obj):HeapOK L w0 (upd κ id (some (b,c))) (upd h id obj) w' where
 obj j:=by
  by_cases q:j=id
  ·grind[A1]
  ·rw[A0 h obj q]
   by_cases o:h j=.dead\/h j=.fresh
   ·rcases o with o | o<;>rw[o]<;>trivial
   ·exact RepObj.ext (z0x r obj x v) (A0 _ _ q) (fun b c t=>r.block b (z2r f (fun h=>o (.inl h)) (fun h=>o (.inr h)) t)) (fun n=>A0 _ _ (I3 f (N8 x) j n)) (fun n b c t=>r.block b (q7q f t)) (f.obj j)
 inj i j k s y g m d p:=by
  by_cases a:i=id<;>by_cases l:j=id
  ·omega
  ·subst a;rw[A1]at d;rw[A0 _ _ l]at p m;simp at d;have:=(f.own j k y m p).2;omega
  ·subst l;rw[A1]at p;rw[A0 _ _ a]at d g;simp at p;have:=(f.own i k s g d).2;omega
  ·rw[A0 _ _ a]at d g;rw[A0 _ _ l]at p m;exact f.inj i j k s y g m d p
 own i k s g d:=by
  by_cases a:i=id
  ·subst a;rw[A1]at d;simp at d;have:=f.below.size;omega
  ·rw[A0 _ _ a]at d g;have:=f.own i k s g d;omega
 below:=f.below.trans (r.mono f.below.size)
 outer k u:=⟨Nat.lt_of_lt_of_le (f.outer k u).1 r.size,fun i z g d=>by
  by_cases a:i=id
  ·subst a;rw[A1]at d;simp at d;have:=(f.outer k u).1;omega
  ·rw[A0 _ _ a]at d g;exact(f.outer k u).2 i z g d⟩
 kids j m:=by rw[A0 _ _ (fun e=>by rw[<-e,f.kids j m]at x;grind)];exact f.kids j m
theorem y65 {h:Heap} {ids:List Nat} {id:Nat} (o:h id=.fresh):A5 (B3 h ids) h id=.fresh:=by
 by_cases m:id∈ids
 ·have g:∀ (ids:List Nat) (a:Heap),a id=.fresh->A5 (B3 h ids) a id=.fresh:=by
   intro ids
   induction ids with
   | nil=>intro a b;exact b
   | cons j ids p =>
    intro a b
    cases n:h j with
    | arr e t l =>
     have c:A5 (B3 h (j::ids)) a=A5 (B3 h ids) (upd a j (.ice e t l)):=by grind[B3,A5]
     rw[c];grind[A0]
    | mapo i d k f l =>
     have c:A5 (B3 h (j::ids)) a=A5 (B3 h ids) (upd a j (.mice i d k f l)):=by grind[B3,A5]
     rw[c];grind[A0]
    | _ =>
     grind[B3]
  grind
 grind[V5]
theorem q2b {κ:A2} {h h':Heap} {w:World} (I:HeapOK L w0 κ h w) (x:Ext L κ h w κ h' w):∀ (k:List (Bool×Ty)) (q:List AV) (g:List Value) (xs:I8 k) (ids:List Nat),
  g.length=q.length->(∀ (i:Nat) (z:AV) (v:Value),q[i]? = some z->g[i]? = some v->RepAV L κ h w z v)->F5 h k q=some (xs,ids) ->
  (∀ id∈ids,q2a (h id)->∀ b c,κ id=some (b,c)->A3 L κ h' w b)->P9 w (A3 L κ h' w) k g xs
 | [],[],[],_,_,_,_,_,_=>trivial
 | [],[],v::G,_,_,E,_,_,_=>by grind
 | [],a::r,_,_,_,_,_,d,_=>by grind[F5]
 | (true,t)::k,[],_,_,_,_,_,d,_=>by grind[F5]
 | (false,t)::k,[],_,_,_,_,_,d,_=>by grind[F5]
 | (agg,t)::k,a::r,[],_,_,E,_,_,_=>by grind
 | (true,t)::k,a::r,v::G,xs,ids,E,C,d,e=>by
  cases a with
  | agg U =>
   simp[F5]at d
   split at d
   ·rename_i y K f R o
    simp[Option.some.injEq,Prod.mk.injEq]at d
    obtain⟨rfl,rfl⟩:=d
    obtain⟨J,T,p⟩:=C 0 _ v rfl rfl
    obtain⟨H,D,O⟩:=U2 I x t U (fun c=>J[c]?) y [] (fun j s F=>W3 p F) (fun id u N b c M=>⟨e id (List.mem_append_left _ u) N b c M,rfl⟩) R
    have A:J.length=t.size:=by
     rw[p.1];have:=congrArg List.length D;simp at this;omega
    exact⟨⟨J,T,A,q34 p,O⟩,q2b I x k r G K f (by simpa using E) (fun i z v H D=>C (i+1) z v (by simpa using H) (by simpa using D)) o (fun id u=>e id (List.mem_append_right _ u))⟩
   ·cases d
  | one s=>simp[F5]at d
  | tup l=>simp[F5]at d
 | (false,t)::k,a::r,v::G,xs,ids,E,C,d,e=>by
  cases a with
  | one s =>
   simp[F5]at d
   cases B:s.known with
   | false=>grind
   | true=>?_
   rw[B,cond_true]at d
   split at d
   ·rename_i y K f R o
    obtain⟨rfl,rfl⟩:=d
    have n:RepSV L κ h w s v:=C 0 _ v rfl rfl
    have m:=j61 B n
    obtain⟨H,D,O⟩:=U2 I x t [s] (F7 v) y [] (fun j V F=>by
     cases j with
     | zero=>simp at F;subst F;exact⟨v,rfl,n,m⟩
     | succ j=>grind) (fun id u N b c M=>⟨e id (List.mem_append_left _ (by grind[F9])) N b c M,rfl⟩) R
    have Q:t.size=1:=by
     grind
    exact⟨⟨Q,m,O⟩,q2b I x k r G K f (by grind) (fun i z v H D=>C (i+1) z v (by grind) (by grind)) o (fun id u=>e id (List.mem_append_right _ u))⟩
   grind
  | agg l=>grind[F5]
  | tup l=>grind[F5]
theorem T0 {h hs:Heap}:∀ (d:List (Bool×Ty)) (i:List AV) (xs:I8 d) (ids:List Nat),F5 h d i=some (xs,ids)->(∀ id∈ids,hs id=h id)->F5 hs d i=some (xs,ids)
 | [],[],_,_,b,_=>b
 | [],a::r,_,_,b,_=>by grind[F5]
 | (true,t)::d,[],_,_,b,_=>by grind[F5]
 | (false,t)::d,[],_,_,b,_=>by grind[F5]
 | (true,t)::d,a::r,xs,ids,b,g=>by
  cases a with
  | agg n =>
   simp[F5]at b ⊢
   split at b
   ·rename_i y m c k f
    obtain⟨rfl,rfl⟩:=b
    rw[U1 t n (fun id e=>g id (List.mem_append_left _ e)),k,T0 d r m c f (fun id e=>g id (List.mem_append_right _ e))]
   ·cases b
  | one s=>simp[F5]at b
  | tup l=>simp[F5]at b
 | (false,t)::d,a::r,xs,ids,b,g=>by
  cases a with
  | one s =>
   simp[F5]at b ⊢
   cases j:s.known with
   | false=>rw[j]at b;cases b
   | true=>?_
   rw[j,cond_true]at b
   rw[cond_true]
   split at b
   ·rename_i y m c k f
    obtain⟨rfl,rfl⟩:=b
    rw[U1 t [s] (fun id e=>g id (List.mem_append_left _ (by simpa[F9]using e))),k,T0 d r m c f (fun id e=>g id (List.mem_append_right _ e))]
   ·cases b
  | agg l=>simp[F5]at b
  | tup l=>simp[F5]at b
theorem q04 {κ':A2} {h':Heap} {w':World} {A:Nat->Prop} {l:Nat} {B:Option (Nat×(Nat×Nat))} {id':Nat} (o:∀ b,A b->A3 L κ' h' w' b):∀ (rs:List RTy) (vs:List Value) (y:J2 rs),U5 w' A l B rs vs y->((I7 id' rs y).2≠[]->κ' id'=B) ->
  (∀ p∈(I7 id' rs y).2,h' id'=p.2) ->
  vs.length=(I7 id' rs y).1.length/\∀ (i:Nat) (c:Bool×List SV) (u:Value),(I7 id' rs y).1[i]? = some c->vs[i]? = some u->RepComp L κ' h' w' c u
 | [],[],_,_,_,_=>⟨rfl,fun i c u g=>by grind⟩
 | [],v::vs,_,a,_,_=>a.elim
 | .val h t::r,[],_,a,_,_=>a.elim
 | .own e t::r,[],_,a,_,_=>a.elim
 | .val h t::r,v::vs,y,a,f,n=>by
  obtain⟨m,z⟩:=a
  obtain⟨H,K⟩:=q04 o r vs y.2 z f n
  refine⟨by grind[I7],fun i c u g k=>?_⟩
  cases i with
  | succ i=>grind[I7]
  | zero =>
   simp[I7]at g k
   subst g;subst k
   cases h with
   | true =>
    obtain⟨I,x,U,D,M⟩:=m
    refine⟨I,x,by grind[R2],fun j s c R J=>?_⟩
    obtain⟨G,w,F⟩:=T2 t _ y.1 (RepAt.mono (fun b q=>⟨o b q,rfl⟩) t _ y.1 M) j s R
    grind
   | false =>
    obtain⟨x,U,D⟩:=m
    have d:=R2 t y.1
    rw[x]at d
    obtain⟨s,N⟩:=List.length_eq_one_iff.1 d
    rw[N]
    obtain⟨G,w,F,_⟩:=T2 t _ y.1 (RepAt.mono (fun b q=>⟨o b q,rfl⟩) t _ y.1 D) 0 s (by grind)
    simp[F7]at w
    subst w;exact F
 | .own e t::r,v::vs,y,a,f,n=>by
  obtain⟨m,z⟩:=a
  obtain⟨H,K⟩:=q04 o r vs y.2 z (fun _=>f (by simp[I7])) (fun p V=>n p (List.mem_cons_of_mem _ V))
  refine⟨by grind[I7],fun i c u g k=>?_⟩
  cases i with
  | succ i=>grind[I7]
  | zero =>
   simp[I7]at g k
   subst g;subst k
   have Q:h' id'=.arr e t y.1:=n (id',.arr e t y.1) List.mem_cons_self
   rcases m with⟨S,E,C⟩ | ⟨b,O,T,S,E,C,W,-⟩
   ·refine⟨?_,by rw[C];rfl⟩
    grind[I7]
   ·refine⟨?_,by rw[E];rfl⟩
    grind[I7]
theorem q25 {κ':A2} {h':Heap} {w':World} {l:List (Bool×List SV)} {vs:List Value} (d:vs.length=l.length)
  (b:∀ (i:Nat) (c:Bool×List SV) (u:Value),l[i]? = some c->vs[i]? = some u->RepComp L κ' h' w' c u):RepAV L κ' h' w' (q24 l) (q3b vs):=by
 have a:q24 l=.tup l->q3b vs=.tuple vs.toArray->RepAV L κ' h' w' (q24 l) (q3b vs):=fun f e=>by
  rw[f,e];exact⟨vs,rfl,d,b⟩
 match l,vs,d,b,a with
 | [],[],_,_,a=>exact a rfl rfl
 | [(true,g)],[v],_,b,_=>exact b 0 _ v rfl rfl
 | [(false,[s])],[v],_,b,_=>exact b 0 _ v rfl rfl
 | [(false,[])],[v],_,b,_=>exact(b 0 _ v rfl rfl).elim
 | [(false,_::_::_)],[v],_,b,_=>exact(b 0 _ v rfl rfl).elim
 | x::y::z,_::_::_,_,_,a=>exact a (by simp[q24]) rfl
theorem z4g (id':Nat):∀ (rs:List RTy) (y:J2 rs),S5 rs<=1->(∀ w' A b d vs,U5 w' A b d rs vs y->(I7 id' rs y).2=[] \/
  ∃ e t l v,(I7 id' rs y).2=[(id',.arr e t l)]/\j2c w' A b e t v l d)
 | [],_,_=>fun _ _ _ _ _ _=>.inl rfl
 | .val g t::r,y,f=>fun w' A b d vs c=>by
  cases vs with
  | nil=>exact c.elim
  | cons v vs =>
   simp[S5,RTy.isOwn]at f
   exact z4g id' r y.2 f w' A b d vs c.2
 | .own e t::r,y,f=>fun w' A b d vs c=>by
  cases vs with
  | nil=>exact c.elim
  | cons v vs =>
   simp[S5,RTy.isOwn]at f
   have:∀ (r:List RTy) (y:J2 r),S5 r=0->(I7 id' r y).2=[]:=by
    intro r
    induction r with
    | nil=>intro _ _;rfl
    | cons a r i =>
     intro y h
     cases a with
     | val g t=>simp[S5,RTy.isOwn]at h;exact i y.2 h
     | own e t=>grind[S5,RTy.isOwn]
   exact .inr ⟨e,t,y.1,v,by grind[I7],c.1⟩
theorem q2g {a:Act} {o:Oper} {g:Operand} {args:Array Operand} {e:Array TypeId} (d:o.op=.call { callee:=.value g,args:=args,argTypes:=e }) {f:FuncId} {b c:Array Value} (h:a.eval g=.func (.func f) b c)
  {fn:Func} (i:P.funcs[f]? = some fn) (j:fn.body.isSome=true) (k:(fn.name== "runtime.NumGoroutine")=false) (w:World) :
  (execOp a.eval o).run P w=.ok (.enter f (b++args.map a.eval++c)) w:=by
 unfold execOp
 simp[d,resolve,Deferred.ofValue,h,invoke,callFunc,i,Option.isNone_iff_eq_none]
 grind
theorem RepAt.flat {w:World} {A A':Nat->Prop}:∀ (t:Ty) (get:Nat->Option Value) (x:t.den),t.flat=true->RepAt w A t get x->RepAt w A' t get x
 | .int _,_,_,_,h=>h
 | .bool,_,_,_,h=>h
 | .nil,_,_,_,_=>trivial
 | .cons a b,get,x,c,h=>by
  simp[Ty.flat,Bool.and_eq_true]at c
  exact⟨RepAt.flat a get x.1 c.1 h.1,RepAt.flat b _ x.2 c.2 h.2⟩
 | .list _,_,_,c,_=>by cases c
theorem z4f {w:World} {A A':Nat->Prop} {c:Nat} {o:Option (Nat×(Nat×Nat))}:∀ {rs:List RTy} {vs:List Value} {y:J2 rs},q2h rs=true->U5 w A c o rs vs y->U5 w A' c o rs vs y
 | [],[],_,_,h=>h
 | [],_::_,_,_,h=>h
 | .val _ _::_,[],_,_,h=>h
 | .own _ _::_,[],_,_,h=>h
 | .val n t::r,v::vs,y,a,h=>by
  simp[q2h,Bool.and_eq_true]at a
  refine⟨?_,z4f a.2 h.2⟩
  have d:=h.1
  cases n with
  | false=>exact⟨d.1,d.2.1,RepAt.flat t _ _ a.1 d.2.2⟩
  | true=>obtain⟨p,l,m,k,f⟩:=d;exact⟨p,l,m,k,RepAt.flat t _ _ a.1 f⟩
 | .own e t::r,v::vs,y,a,h=>by
  simp[q2h,Bool.and_eq_true]at a
  refine⟨?_,z4f a.2 h.2⟩
  rcases h.1 with d | ⟨b,j,g,l,m,k,f,u,q,z,C,B⟩
  ·exact .inl d
  ·exact .inr ⟨b,j,g,l,m,k,f,u,q,z,C,fun i x s=>RepAt.flat t _ _ a.1 (B i x s)⟩
structure FunOK' (P:Program) (gl:L4) (f:FuncId) (sp:Spec):Prop where
 ok:y13 P gl f sp
 fn:∃ fn,P.funcs[f]? = some fn/\fn.body.isSome=true/\(fn.name== "runtime.NumGoroutine")=false
theorem z5x {r:Option Nat} {m:Nat} {f:FuncId} {args:Array Value} {w:World} {R:Ending->World->Prop} (h:CallsIn (Fr none) m P f args w R):CallsIn (Fr r) m P f args w R:=h
theorem q13 {r:Option Nat} {o:Oper} {a:Act} {w:World} {m:Nat} {K:Act->World->Prop} {Q:Exit->Act->World->Prop} {f:FuncId} {args:Array Value} (g:∀ c,o.op≠.defer c)
  (h:(execOp a.eval o).run P w=.ok (.enter f args) w) {R:Ending->World->Prop} (d:CallsIn (Fr none) (m-1) P f args w R) (j:∀ e b,R e b->∃ v,e=.returned v/\K (a.put o.dst v) b):o.wpIn (Fr r) m P a w K Q:=by
 refine⟨fun _ _=>trivial,?_⟩
 rw[Oper.semAt_eq _ _ _ g,h]
 refine⟨fun h=>by grind[Fr],CallsIn.mono (z5x d) fun e b i=>?_⟩
 grind
theorem v7k {r:Option Nat} {o:Oper} {a:Act} {w:World} {m:Nat} {K:Act->World->Prop} {Q:Exit->Act->World->Prop} {f:FuncId} {args:Array Value} (g:∀ c,o.op≠.defer c)
  (h:(execOp a.eval o).run P w=.ok (.enter f args) w) {R:Ending->World->Prop} (d:CallsIn (Fr none) (m-1) P f args w R) (j:∀ e b,R e b->(∃ v,e=.returned v/\K (a.put o.dst v) b)\/(∃ c,e=.panicked c/\Q (.panic c) a b)):o.wpIn (Fr r) m P a w K Q:=by
 refine⟨fun _ _=>trivial,?_⟩
 rw[Oper.semAt_eq _ _ _ g,h]
 refine⟨fun h=>by grind[Fr],CallsIn.mono (z5x d) fun e b i=>?_⟩
 grind
def EndOK (L:Nat->Prop) (w0:World) (κ:A2) (h:Heap) (w:World) (h':Heap) (av:AV) (e:Ending) (w':World):Prop :=
 (∃ v κ',e=.returned v/\HeapOK L w0 κ' h' w'/\RepAV L κ' h' w' av v/\Ext L κ h w κ' h' w') \/
 (∃ T κ',av=.one (.pan T)/\e=.panicked [pv T]/\HeapOK L w0 κ' (upd h' C0 .fresh) w'/\Ext L κ h w κ' (upd h' C0 .fresh) w')
theorem z5u {κ:A2} {h:Heap} {w:World} {agg:Bool} {cs:List ((t:Ty)×t.den)} {a:List Value} (d:a.length=cs.length) (j:agg=false->a.length=1)
  (b:∀ (i:Nat) (p:(t:Ty)×t.den) (u:Value),cs[i]? = some p->a[i]? = some u->p.1.size=1/\u.oneCell'=true/\RepAt w (A3 L κ h w) p.1 (F7 u) p.2):RepAV L κ h w (q4h agg cs) (cond agg (.agg a.toArray) (a.headD undef)):=by
 cases agg with
 | true =>
  refine⟨a,rfl,by grind,fun i s c f g=>?_⟩
  rw[List.getElem?_map,Option.map_eq_some_iff]at f
  obtain⟨p,e,rfl⟩:=f
  exact⟨b i p c e g,(b i p c e g).2.1⟩
 | false =>
  have k:=j rfl
  match a,cs,d,k,b with
  | [u],[p],_,_,b=>exact b 0 p u rfl rfl
  | [_],[],d,_,_=>grind
  | [_],_::_::_,d,_,_=>grind
theorem y3j {o:Oper} {g:Operand} {args:Array Operand} {S:Array TypeId} (A:o.op=.call { callee:=.value g,args:=args,argTypes:=S }) {f:FuncId} {pre post:List AV} {ρ ρs:Env} (y:q2c (ev ρ g)=some (f,pre,post))
  {fn:Func} (n:P.funcs[f]? = some fn) (q:fn.body.isSome=true) (s:(fn.name== "runtime.NumGoroutine")=false) {hs:Heap} (h1:∀ x,x=g\/x∈args.toList->ev ρs x=ev ρ x) {κ:A2} {a:Act} {w:World} (C:∀ x,RepAV L κ hs w (ev ρs x) (a.eval x)) :
  ∃ E:List Value,(execOp a.eval o).run P w=.ok (.enter f E.toArray) w/\E.length=(pre++args.toList.map (ev ρ)++post).length/\∀ (i:Nat) (l:AV) (v:Value),(pre++args.toList.map (ev ρ)++post)[i]? = some l->E[i]? = some v->RepAV L κ hs w l v:=by
 have d:=C g
 rw[h1 g (.inl rfl)]at d
 have F:∀ (i:Nat) (l:AV) (v:Value),(args.toList.map (ev ρ))[i]? = some l->(args.toList.map a.eval)[i]? = some v->RepAV L κ hs w l v:=fun i l v j m=>by
  grind
 have r:(args.toList.map (ev ρ)).length=(args.toList.map a.eval).length:=by simp
 unfold q2c at y
 split at y
 ·rename_i I K k
  cases y
  rw[k]at d
  obtain⟨D,d,N,B⟩:=d
  have e:=q2g (P:=P) A d n q s w
  have h:(#[]++args.map a.eval++D.toArray)=(args.toList.map a.eval++D).toArray:=by
   grind
  rw[h]at e
  refine⟨_,e,by grind[q3g],fun i l v j m=>?_⟩
  rw[List.nil_append]at j
  by_cases T:i<(args.toList.map (ev ρ)).length
  ·grind
  ·rw[List.getElem?_append_right (by omega)]at j m
   rw[r]at j
   simp only[q3g,List.getElem?_map,Option.map_eq_some_iff]at j
   obtain⟨p,M,rfl⟩:=j
   obtain⟨O,b,c,R,t⟩:=B _ p M
   rw[m]at t;cases t
   exact⟨O,b,c,R,rfl⟩
 ·rename_i I agg D k
  cases y
  rw[k]at d
  obtain⟨z,d,J,H,G⟩:=d
  have e:=q2g (P:=P) A d n q s w
  have h:(#[cond agg (.agg z.toArray) (z.headD undef)]++args.map a.eval++#[])=(cond agg (.agg z.toArray) (z.headD undef)::args.toList.map a.eval).toArray:=by
   grind
  rw[h]at e
  refine⟨_,e,by simp,fun i l v j m=>?_⟩
  grind[z5u]
 ·rename_i I id Q k
  cases y
  rw[k]at d
  obtain⟨u,d,J,b,c,H,G⟩:=d
  have e:=q2g (P:=P) A d n q s w
  have h:(#[u]++args.map a.eval++#[])=(u::args.toList.map a.eval).toArray:=by
   grind
  rw[h]at e
  refine⟨_,e,by simp,fun i l v j m=>?_⟩
  rw[List.append_nil,List.singleton_append]at j
  cases i with
  | zero =>
   simp[List.getElem?_cons_zero,Option.some.injEq]at j m
   subst j;subst m
   exact⟨J,b,c,H,G⟩
  | succ i=>grind
 grind
def q6e (P:Program) (L:Nat->Prop) (o:Oper) (f:FuncId) (avs:List AV) (X:Operand->Prop) (ρ:Env):Prop :=
 (∀ c,o.op≠.defer c)/\∀ (fn:Func),P.funcs[f]? = some fn->fn.body.isSome=true->(fn.name== "runtime.NumGoroutine")=false->∀ (ρs:Env) (hs:Heap),(∀ x,X x->ev ρs x=ev ρ x) ->
  ∀ (κ:A2) (a:Act) (w:World),(∀ x,RepAV L κ hs w (ev ρs x) (a.eval x)) ->
  ∃ vs:List Value,(execOp a.eval o).run P w=.ok (.enter f vs.toArray) w/\vs.length=avs.length/\∀ (i:Nat) (av:AV) (v:Value),avs[i]? = some av->vs[i]? = some v->RepAV L κ hs w av v
theorem q42 {o:Oper} {g:Operand} {args:Array Operand} {j:Array TypeId} (i:o.op=.call { callee:=.value g,args:=args,argTypes:=j }) {f:FuncId} {pre post:List AV} {ρ:Env} (k:q2c (ev ρ g)=some (f,pre,post)) :
  q6e P L o f (pre++args.toList.map (ev ρ)++post) (fun x=>x=g\/x∈args.toList) ρ :=
 ⟨(fun c l=>by grind),fun _ d e b _ _ h _ _ _ a=>y3j i k d e b h a⟩
theorem v6n {o:Oper} {f:FuncId} {p:List AV} {X:Operand->Prop} {ρ:Env} (U:q6e P L o f p X ρ) {i:Spec} {Q:L4} (q:FunOK' P Q f i) (z:GlobOK Q w0)
  {ρs:Env} {h hs:Heap} {x:I8 i.args} {y:J2 i.res} {ids:List Nat} (T:F5 h i.args p=some (x,ids)) (S:i.f x=some y) (n:∀ id∈ids,hs id=h id)
  (h1:∀ x,X x->ev ρs x=ev ρ x) {κ:A2} {a:Act} {w:World} (u:∀ x,RepAV L κ hs w (ev ρs x) (a.eval x)) (_henv:q29 L κ hs w ρs a) (ok:HeapOK L w0 κ hs w)
  (F:HeapOK L w0 κ (A5 (B3 hs ids) hs) w) (l:Ext L κ hs w κ (A5 (B3 hs ids) hs) w) (j:∀ id∈ids,q2a (hs id)->∀ b c,κ id=some (b,c)->A3 L κ (A5 (B3 hs ids) hs) w b) (m:Nat) :
  ∃ d:List Value,(execOp a.eval o).run P w=.ok (.enter f d.toArray) w/\CallsIn (Fr none) (m-1) P f d.toArray w fun e R=>∃ v,e=.returned v/\Below w.heap.size w R /\
   S9 (fun b=>L b\/∃ id c,(A5 (B3 hs ids) hs id).live=true/\κ id=some (b,c)) w R i.res v y:=by
 have s:=T0 i.args _ x ids T n
 obtain⟨V,K,A,N⟩:=q.fn
 obtain⟨d,O,D,E⟩:=U.2 V K A N ρs hs h1 κ a w u
 have g:P9 w (A3 L κ (A5 (B3 hs ids) hs) w) i.args d x:=q2b ok l i.args _ _ x ids D E s j
 let r:Nat->Prop:=fun b=>L b\/∃ id c,(A5 (B3 hs ids) hs id).live=true/\κ id=some (b,c)
 have I:∀ b,r b->b<w.heap.size:=fun b H=>by
  rcases H with H | ⟨id,c,C,M⟩
  ·have:=(ok.outer b H).1;omega
  ·exact(F.own id b c C M).2
 have k:∀ b,A3 L κ (A5 (B3 hs ids) hs) w b↔b<w.heap.size/\¬ r b:=fun b =>
  ⟨fun ⟨G,B,W⟩=>⟨G,fun h=>by grind⟩,
   fun ⟨G,B⟩=>⟨G,fun h=>B (.inl h),fun id c C M=>B (.inr ⟨id,c,C,M⟩)⟩⟩
 have J:(A3 L κ (A5 (B3 hs ids) hs) w)=fun b=>b<w.heap.size/\¬ r b:=funext fun b=>propext (k b)
 rw[J]at g
 have t:=q.ok x y S r w d (z.below ok.below) I g (m-1)
 grind
theorem j18 {R:Type} {o:Oper} {f:FuncId} {avs:List AV} {X:Operand->Prop} {ρ:Env} (hR:q6e P L o f avs X ρ) {B:Spec} {gl:L4} (hsp:FunOK' P gl f B) (hgl:GlobOK gl w0)
  {h:Heap} {id':Nat} {K:Eff->Option R} {z:R} (he:z8c B h id' avs K=some z) :
  ∃ q,K q=some z/\q.full=none/\∀ J k,(∀ x,X x->ev J x=ev ρ x)->(∀ id∈q.rd,k id=h id)->(∀ p∈q.ups,k p.1=h p.1)->A6 P L w0 o J k (q.heap k) q.av:=by
 unfold z8c at he
 split at he
 ·grind
 ·rename_i x i hx
  cases hy:B.f x with
  | none=>grind
  | some y =>
   rw[hy,Option.bind_some]at he
   simp at he
   cases hc:(Nat.ble (S5 B.res) 1&&i.all (fun j=>!Nat.beq j id'))with
   | false=>grind
   | true =>
    rw[hc,cond_true]at he
    rw[Bool.and_eq_true]at hc
    have hone:=Nat.le_of_ble_eq_true hc.1
    have hni:id'∉i:=fun hm=>by
     have:=List.all_eq_true.1 hc.2 id' hm
     simp_all
    unfold H5 at he
    split at he
    ·rename_i hfr
     refine⟨_,he,rfl,fun J k h1 h2 h3=>?_⟩
     have Y:∀ id∈i,k id=h id:=fun id hm=>h2 id (List.mem_cons_of_mem _ hm)
     have h4:k id'=h id':=h2 id' List.mem_cons_self
     have hxs:=T0 B.args _ x i hx Y
     have V:k id'=.fresh:=h4.trans hfr
     cases hfl:q2h B.res with
     | true =>
      show A6 P L w0 o J k (A5 (I7 id' B.res y).2 k) (q24 (I7 id' B.res y).1)
      intro r κ a w H ok m K' Q hK _
      have hev:=N7 H
      obtain⟨N,C,F⟩:=R8 i ok
      obtain⟨cs,hrun,G⟩:=v6n hR hsp hgl hx hy Y h1 hev H ok N C F m
      refine q13 hR.1 hrun G fun e I ⟨v,S,g,bo,vs,hv,s⟩=>⟨v,S,?_⟩
      have s:U5 I (fun _=>False) w.heap.size bo B.res vs y:=z4f hfl s
      rcases z4g id' B.res y hone I _ _ bo vs s with u | ⟨e',t,l,v',d,Z⟩
      ·have n:=q04 (L:=L) (κ':=κ) (h':=k) (id':=id') (A:=fun _=>False) (fun b O=>O.elim) B.res vs y s (fun h=>absurd u h) (fun p W=>by grind)
       refine hK κ v I ?_ ?_ ?_
       ·rw[u];exact q1m ok g
       ·rw[u,hv];exact q25 n.1 n.2
       ·rw[u];exact q0i g
      ·rcases Z with⟨rfl,rfl,hv'⟩ | ⟨b,E,cur,rfl,hv',U,D,hsz,hcm,hll,h1c,hlc⟩
       ·have okN:=q2k ok e' t V
        have exN:=q1h (L:=L) (κ:=κ) (w:=w) e' t V
        have n:=q04 (L:=L) (κ':=upd κ id' none) (h':=upd k id' (.arr e' t [])) (id':=id') (A:=fun _=>False) (fun b O=>O.elim) B.res vs y s (fun _=>A1 _ _ _) (fun p W=>by grind[A1])
        refine hK (upd κ id' none) v I ?_ ?_ ?_
        ·rw[d];exact q1m okN g
        ·rw[d,hv];exact q25 n.1 n.2
        ·rw[d];exact exN.trans (q0i g)
       ·have n:=q04 (L:=L) (κ':=upd κ id' (some (b,E))) (h':=upd k id' (.arr e' t l)) (id':=id') (A:=fun _=>False) (fun b O=>O.elim) B.res vs y s (fun _=>A1 _ _ _) (fun p W=>by grind[A1])
        have hbl:b<I.heap.size:=(Array.getElem?_eq_some_iff.1 D).1
        refine hK (upd κ id' (some (b,E))) v I ?_ ?_ ?_
        ·rw[d]
         exact z92 ok g _ V U hbl (q0r (cs:=cur.toList) (A1 _ _ _) (by omega) (by omega) hcm hll h1c (hlc.mono fun b O=>O.elim))
        ·rw[d,hv];exact q25 n.1 n.2
        ·rw[d];exact z0x g _ V U
     | false =>
     show A6 P L w0 o J k (A5 (B3 h i++(I7 id' B.res y).2) k) (q24 (I7 id' B.res y).1)
     rw[<-q57 i Y,I9]
     intro r κ a w H ok m K' Q hK _
     have hev:=N7 H
     obtain⟨N,C,F⟩:=R8 i ok
     obtain⟨fn,hf1,hf2,hf3⟩:=hsp.fn
     obtain⟨vs0,hrun,hvl,hvr⟩:=hR.2 fn hf1 hf2 hf3 J k h1 κ a w hev
     have T:P9 w (A3 L κ (A5 (B3 k i) k) w) B.args vs0 x:=q2b ok C B.args _ _ x i hvl hvr hxs F
     let L':Nat->Prop:=fun b=>L b\/∃ id c,(A5 (B3 k i) k id).live=true/\κ id=some (b,c)
     have hL':∀ b,L' b->b<w.heap.size:=fun b O=>by
      rcases O with O | ⟨id,c,hl,M⟩
      ·have:=(ok.outer b O).1;omega
      ·exact(N.own id b c hl M).2
     have hfree:∀ b,A3 L κ (A5 (B3 k i) k) w b↔b<w.heap.size/\¬ L' b:=fun b =>
      ⟨fun ⟨a1,a2,a3⟩=>⟨a1,fun h=>by grind⟩,
       fun ⟨a1,a2⟩=>⟨a1,fun h=>a2 (.inl h),fun id c hl M=>a2 (.inr ⟨id,c,hl,M⟩)⟩⟩
     have hfe:(A3 L κ (A5 (B3 k i) k) w)=fun b=>b<w.heap.size/\¬ L' b:=funext fun b=>propext (hfree b)
     rw[hfe]at T
     have G:=hsp.ok x y hy L' w vs0 (hgl.below ok.below) hL' T (m-1)
     refine q13 hR.1 hrun G fun e I ⟨v,S,g,bo,vs,hv,s⟩=>⟨v,S,?_⟩
     have hfI:A5 (B3 k i) k id'=.fresh:=y65 V
     have hAw:∀ (κ':A2) (h':Heap),(∀ id c b,(h' id).live=true->κ' id=some (b,c)->(∃ id2 c2,(A5 (B3 k i) k id2).live=true/\κ id2=some (b,c2))\/∃ c2,bo=some (b,c2)) ->
       ∀ b,(b<I.heap.size/\¬ L' b/\∀ c,bo≠some (b,c))->A3 L κ' h' I b:=fun κ' h' hh b ⟨a1,a2,a3⟩ =>
      ⟨a1,fun h=>a2 (.inl h),fun id c hl M=>by
       grind⟩
     rcases z4g id' B.res y hone I _ _ bo vs s with u | ⟨e',t,l,v',d,Z⟩
     ·have n:=q04 (L:=L) (κ':=κ) (h':=A5 (B3 k i) k) (id':=id') (hAw κ _ (fun id c b hl M=>.inl ⟨id,c,hl,M⟩)) B.res vs y s (fun h=>absurd u h) (fun p W=>by grind)
      refine hK κ v I ?_ ?_ ?_
      ·rw[u];exact q1m N g
      ·rw[u,hv];exact q25 n.1 n.2
      ·rw[u];exact C.trans (q0i g)
     ·rcases Z with⟨rfl,rfl,hv'⟩ | ⟨b,E,cur,rfl,hv',U,D,hsz,hcm,hll,h1c,hlc⟩
      ·have okN:=q2k N e' t hfI
       have exN:=q1h (L:=L) (κ:=κ) (w:=w) e' t hfI
       have n:=q04 (L:=L) (κ':=upd κ id' none) (h':=upd (A5 (B3 k i) k) id' (.arr e' t [])) (id':=id') (hAw _ _ (fun id c b hl M=>by
        grind[A1,A0])) B.res vs y s (fun _=>A1 _ _ _) (fun p W=>by rw[d]at W;simp at W;subst W;grind[A1])
       refine hK (upd κ id' none) v I ?_ ?_ ?_
       ·rw[d];exact q1m okN g
       ·rw[d,hv];exact q25 n.1 n.2
       ·rw[d];exact(C.trans exN).trans (q0i g)
      ·have hA':=hAw (upd κ id' (some (b,E))) (upd (A5 (B3 k i) k) id' (.arr e' t l)) (fun id c b' hl M=>by
        by_cases hid:id=id'
        ·subst hid;rw[A1]at M;simp at M;exact .inr ⟨E,by rw[M.1]⟩
        ·rw[A0 _ _ hid]at hl M;exact .inl ⟨id,c,hl,M⟩)
       have n:=q04 (L:=L) (κ':=upd κ id' (some (b,E))) (h':=upd (A5 (B3 k i) k) id' (.arr e' t l)) (id':=id') hA' B.res vs y s (fun _=>A1 _ _ _) (fun p W=>by rw[d]at W;simp at W;subst W;exact A1 _ _ _)
       have hbl:b<I.heap.size:=(Array.getElem?_eq_some_iff.1 D).1
       refine hK (upd κ id' (some (b,E))) v I ?_ ?_ ?_
       ·rw[d]
        exact z92 N g _ hfI U hbl (q0r (cs:=cur.toList) (A1 _ _ _) (by simpa using D) (by simpa using hsz) hcm hll h1c (hlc.mono fun b O=>⟨hA' b O,rfl⟩))
       ·rw[d,hv];exact q25 n.1 n.2
       ·rw[d];exact C.trans (z0x g _ hfI U)
    grind
end Go.Abs
