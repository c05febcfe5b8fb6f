/- The engine, part 11: a function's contract, and what a call by it comes to. -/
import Derived.Test.YtecofmaegcibeaaGreatDoorAbsSound8
namespace Go.Abs
open Go Go.RowKit
variable {P:Program} {L:Nat->Prop} {w0:World}
def q0u (w:World) (A:Nat->Prop):(as:List (Bool×Ty))->List Value->F9 as->Prop
 | [],[],_=>True
 | (agg,t)::r,v::vs,x=>RepVal w A agg t v x.1/\q0u w A r vs x.2
 | _,_,_=>False
def y91 (w:World) (A:Nat->Prop) (t:Ty) (v:Value) (x:t.den):Prop :=
 ∃b o,v=.pointer (some ⟨b,o,none⟩)/\b<w.heap.size/\RepAt w A t (λj=>if j<t.size then w.cell? ⟨b,o+j,none⟩else none) x
def W4 (w:World) (A:Nat->Prop):List Bool->(as:List (Bool×Ty))->List Value->F9 as->Prop
 | [],as,vs,x=>q0u w A as vs x
 | true::rf,(_,t)::r,v::vs,x=>y91 w A t v x.1/\W4 w A rf r vs x.2
 | false::rf,(agg,t)::r,v::vs,x=>RepVal w A agg t v x.1/\W4 w A rf r vs x.2
 | _,_,_,_=>False
def j6e (w':World) (A:Nat->Prop) (base:Nat) (e:TypeId) (t:Ty) (v:Value) (l:List t.den) (bo:Option (Nat×(Nat×Nat))):Prop :=
 (bo=none/\l=[]/\v=.slice none 0 0) \/
 ∃b cap cur,bo=some (b,cap)/\v=.slice (some ⟨b,cap.2,none⟩) l.length cap.1/\base<=b/\w'.heap[b]? = some (.cells cur e (0,0))/\cap.2+cap.1*t.size<=cur.size/\cap.1<=maxLen/\l.length<=cap.1 /\
  (∀c∈cur.toList,c.oneCell'=true)/\ListCells w' A t (cur.toList.drop cap.2) l
def W6 (w':World) (A:Nat->Prop) (base:Nat) (bo:Option (Nat×(Nat×Nat))):(rs:List RTy)->List Value->J2 rs->Prop
 | [],[],_=>True
 | .val agg t::r,v::vs,y=>RepVal w' A agg t v y.1/\W6 w' A base bo r vs y.2
 | .own e t::r,v::vs,y=>j6e w' A base e t v y.1 bo/\W6 w' A base bo r vs y.2
 | _,_,_=>False
def q4d:List Value->Value
 | [v]=>v
 | l=>.tuple l.toArray
def U4 (L:Nat->Prop) (w w':World) (rs:List RTy) (v:Value) (y:J2 rs):Prop :=
 ∃bo vs,v=q4d vs/\W6 w' (λb=>b<w'.heap.size/\¬L b/\∀c,bo≠some (b,c)) w.heap.size bo rs vs y
abbrev W5:=Nat->Option (IntKind×Nat×List Int)
def GlobOK (gl:W5) (w:World):Prop:=∀g k n l,gl g=some (k,n,l)->(n≠0->l.length=n/\∀(i:Nat) (y:Int),l[i]? = some y->w.cell? ⟨g,i,none⟩=some (.int k y)) /\
 (n=0->∃r b e:Nat,l=[(r:Int),(b:Int),(e:Int)]/\w.cell? ⟨g,0,none⟩=some (.iface r (.agg #[.pointer (some ⟨b,e,none⟩)])))
variable {w:World}
theorem j7s {a:Addr} {v:Value} (h:w.cell? a=some v):a.block<w.heap.size:=by
 grind[World.cell?]
variable {w':World}
theorem GlobOK.below {m:W5} (h:GlobOK m w) (f:Below w.heap.size w w'):GlobOK m w':=λg k n l d=>⟨λc=>⟨((h g k n l d).1 c).1,λi y p=>by
 have:=((h g k n l d).1 c).2 i y p;rw[q5z (w:=w) (w':=w') (a:=⟨g,i,none⟩) (f.block g (j7s this))];omega⟩,λc=>by
 obtain⟨r,b,e,o,q⟩:=(h g k n l d).2 c;refine⟨r,b,e,o,?_⟩;rw[q5z (w:=w) (w':=w') (a:=⟨g,0,none⟩) (f.block g (j7s q))];omega⟩
def y8u (P:Program) (gl:W5) (f:FuncId) (sp:Spec):Prop :=
 ∀x y,sp.f x=some y->∀(L:Nat->Prop) (w:World) (vals:List Value),GlobOK gl w->(∀b,L b->b<w.heap.size)->W4 w (λb=>b<w.heap.size/\¬L b) sp.refs sp.args vals x ->
  ∀m,CallsIn (Fr none) m P f vals.toArray w λe w'=>∃v,e=.returned v/\Below w.heap.size w w'/\U4 L w w' sp.res v y
variable {κ:A6} {h:Heap}
theorem q28 (hb:Below w.heap.size w w'):Ext L κ h w κ h w' where
 place _ _:=rfl
 kid _ hd:=hd
 tree _ _ _ l f hl:=.inl ⟨l,f,hl,λ_ _ h=>⟨h,λ_=>rfl⟩⟩
 dead _ hd:=hd
 cells _ l hl:=.inl ⟨l,hl⟩
 arr _ _ _ l hl:=.inl ⟨l,rfl,.inl hl⟩
 ice _ _ _ _ hl:=.inl hl
 lrec _ _ s hl:=.inl ⟨s,hl⟩
 maps _ hl:=.inl hl
 iter _ _ _ _ _ l c hl:=.inl ⟨l,c,hl⟩
 size:=hb.size
 loops b r hr:=⟨r,(hb.block b (au.1 hr).1).trans hr⟩
 defs b hr:=(hb.block b (au.1 hr).1).trans hr
 still b hf:=⟨⟨bc hf.1 hb.size,hf.2⟩,hb.block b hf.1⟩
variable {b:Nat} {c:Nat×Nat}
theorem j3m (i:HeapOK L w0 κ h w) {id:Nat} (r:h id≠.dead) (p:h id≠.fresh) (f:κ id=some (b,c)):b<w.heap.size:=by
 by_cases d:(h id).live=true
 ·exact(i.own id b c d f).2
 ·cases g:h id with
  | mice q x m s l=>have:=i.obj id;rw[g]at this;obtain⟨o,u,v,n,j,k,-⟩:=this;rw[f]at j;cases j;exact k.1
  | ice e t l=>have:=i.obj id;rw[g]at this;exact(this.2 b c f).1
  | dead=>grind
  | fresh=>grind
  | _=>rw[g]at d;exact absurd rfl d
theorem q3i (a:HeapOK L w0 κ h w) (d:Below w.heap.size w w'):HeapOK L w0 κ h w' where
 obj id:=by
  by_cases e:h id=.dead\/h id=.fresh
  ·rcases e with e | e<;>rw[e]<;>trivial
  ·exact RepObj.ext (q28 d) rfl (λb c f=>d.block b (j3m a (λh=>e (.inl h)) (λh=>e (.inr h)) f)) (λ_=>rfl) (λn b c f=>d.block b (j2x a f)) (a.obj id)
 inj:=a.inj
 own i b c j f:=by have:=a.own i b c j f;have:=d.size;omega
 below:=a.below.trans (d.mono a.below.size)
 outer b g:=⟨bc (a.outer b g).1 d.size,(a.outer b g).2⟩
 kids:=a.kids
theorem z4f (hb:Below w.heap.size w w') {id:Nat} (obj:AObj) (hf:h id=.fresh) (hbb:w.heap.size<=b) :
  Ext L κ h w (upd κ id (some (b,c))) (upd h id obj) w' where
 place j hj:=A0 _ _ (λe=>hj.1 (e▸hf))
 kid j hd:=by rw[A0 _ _ (λe=>by rw[e,hf]at hd;cases hd)];exact hd
 tree j e k l f hl:=by rw[A0 _ _ (λe=>by rw[e,hf]at hl;cases hl)];exact .inl ⟨l,f,hl,λp n h=>⟨h,λhk=>A0 _ _ (λe=>by rw[e,hf]at hk;cases hk)⟩⟩
 dead j hd:=by rw[A0 _ _ (λe=>by rw[e,hf]at hd;cases hd)];exact hd
 cells j l hl:=by rw[A0 _ _ (λe=>by rw[e,hf]at hl;cases hl)];exact .inl ⟨l,hl⟩
 arr j e t l hl:=by rw[A0 _ _ (λe=>by rw[e,hf]at hl;cases hl)];exact .inl ⟨l,rfl,.inl hl⟩
 ice j e t l hl:=by rw[A0 _ _ (λe=>by rw[e,hf]at hl;cases hl)];exact .inl hl
 lrec j i s hl:=by rw[A0 _ _ (λe=>by rw[e,hf]at hl;cases hl)];exact .inl ⟨s,hl⟩
 maps j hl:=by rw[A0 _ _ (λe=>by rw[e,hf]at hl;cases hl)];exact .inl hl
 iter j _ _ _ _ l c hl:=by rw[A0 _ _ (λe=>by rw[e,hf]at hl;cases hl)];exact .inl ⟨l,c,hl⟩
 size:=hb.size
 loops b r hr:=⟨r,(hb.block b (au.1 hr).1).trans hr⟩
 defs b hr:=(hb.block b (au.1 hr).1).trans hr
 still b' hf':=by
  obtain⟨h1,h3⟩:=hf';refine⟨⟨bc h1 hb.size,λj c' hj hk=>?_⟩,hb.block b' h1⟩;by_cases hji:j=id
  ·subst hji;rw[A2]at hk;simp at hk;omega
  ·rw[A0 _ _ hji]at hj hk;exact h3 j c' hj hk
theorem j2d (f:HeapOK L w0 κ h w) (r:Below w.heap.size w w') {id:Nat} (obj:AObj) (x:h id=.fresh) (v:w.heap.size<=b) (A:b<w'.heap.size) (B:RepObj L (upd κ id (some (b,c))) (upd h id obj) w' id obj):HeapOK L w0 (upd κ id (some (b,c))) (upd h id obj) w' where
 obj j:=by
  by_cases q:j=id
  ·grind[A2]
  ·rw[A0 h obj q];by_cases o:h j=.dead\/h j=.fresh
   ·rcases o with o | o<;>rw[o]<;>trivial
   ·exact RepObj.ext (z4f r obj x v) (A0 _ _ q) (λb c t=>r.block b (j3m f (λh=>o (.inl h)) (λh=>o (.inr h)) t)) (λn=>A0 _ _ (J0 f (R8 x) j n)) (λn b c t=>r.block b (j2x f t)) (f.obj j)
 inj i j k s y g m d p:=by
  by_cases a:i=id<;>by_cases l:j=id
  ·omega
  ·subst a;rw[A2]at d;rw[A0 _ _ l]at p m;simp at d;have:=(f.own j k y m p).2;omega
  ·subst l;rw[A2]at p;rw[A0 _ _ a]at d g;simp at p;have:=(f.own i k s g d).2;omega
  ·rw[A0 _ _ a]at d g;rw[A0 _ _ l]at p m;exact f.inj i j k s y g m d p
 own i k s g d:=by
  by_cases a:i=id
  ·subst a;rw[A2]at d;simp at d;have:=f.below.size;omega
  ·rw[A0 _ _ a]at d g;have:=f.own i k s g d;omega
 below:=f.below.trans (r.mono f.below.size)
 outer k u:=⟨bc (f.outer k u).1 r.size,λi z g d=>by
  by_cases a:i=id
  ·subst a;rw[A2]at d;simp at d;have:=(f.outer k u).1;omega
  ·rw[A0 _ _ a]at d g;exact(f.outer k u).2 i z g d⟩
 kids j m:=by rw[A0 _ _ (λe=>by rw[<-e,f.kids j m]at x;grind)];exact f.kids j m
variable {ids:List Nat}
theorem v4s {id:Nat} (o:h id=.fresh):A3 (B4 h ids) h id=.fresh:=by
 by_cases m:id∈ids
 ·have g:∀(ids:List Nat) (a:Heap),a id=.fresh->A3 (B4 h ids) a id=.fresh:=by
   intro ids
   induction ids with
   | nil=>intro a b;exact b
   | cons j ids p =>
    intro a b;cases n:h j with
    | arr e t l =>
     have c:A3 (B4 h (j::ids)) a=A3 (B4 h ids) (upd a j (.ice e t l)):=by grind[B4,A3]
     rw[c];grind[A0]
    | mapo i d k f l =>
     have c:A3 (B4 h (j::ids)) a=A3 (B4 h ids) (upd a j (.mice i d k f l)):=by grind[B4,A3]
     rw[c];grind[A0]
    | _ =>
     grind[B4]
  grind
 grind[q0g]
theorem q5x {κ:A6} {h h':Heap} {w:World} (I:HeapOK L w0 κ h w) (x:Ext L κ h w κ h' w):∀(k:List (Bool×Ty)) (q:List AV) (g:List Value) (xs:F9 k) (ids:List Nat),
  g.length=q.length->(∀(i:Nat) (z:AV) (v:Value),q[i]? = some z->g[i]? = some v->RepAV L κ h w z v)->G6 h k q=some (xs,ids) ->
  (∀id∈ids,q4f (h id)->∀b c,κ id=some (b,c)->A4 L κ h' w b)->q0u w (A4 L κ h' w) k g xs
 | [],[],[],_,_,_,_,_,_=>trivial
 | [],[],v::G,_,_,E,_,_,_=>by grind
 | [],a::r,_,_,_,_,_,d,_=>by grind[G6]
 | (true,t)::k,[],_,_,_,_,_,d,_=>by grind[G6]
 | (false,t)::k,[],_,_,_,_,_,d,_=>by grind[G6]
 | (agg,t)::k,a::r,[],_,_,E,_,_,_=>by grind
 | (true,t)::k,a::r,v::G,xs,ids,E,C,d,e=>by
  cases a with
  | agg U =>
   simp[G6]at d;split at d
   ·rename_i y K f R o;simp[aN,bZ]at d;obtain⟨rfl,rfl⟩:=d;obtain⟨J,T,p⟩:=C 0 _ v rfl rfl;obtain⟨H,D,O⟩:=q1x I x t U (λc=>J[c]?) y [] (λj s F=>q1o p F) (λid u N b c M=>⟨e id (aB _ u) N b c M,rfl⟩) R;have A:J.length=t.size:=by
     rw[p.1];have:=congrArg List.length D;simp at this;omega
    exact⟨⟨J,T,A,q42 p,O⟩,q5x I x k r G K f (by simpa using E) (λi z v H D=>C (i+1) z v (by simpa using H) (by simpa using D)) o (λid u=>e id (aC _ u))⟩
   ·cases d
  | one s=>simp[G6]at d
  | tup l=>simp[G6]at d
 | (false,t)::k,a::r,v::G,xs,ids,E,C,d,e=>by
  cases a with
  | one s =>
   simp[G6]at d;cases B:s.known with
   | false=>grind
   | true=>?_
   rw[B,cond_true]at d;split at d
   ·rename_i y K f R o;obtain⟨rfl,rfl⟩:=d;have n:RepSV L κ h w s v:=C 0 _ v rfl rfl;have m:=y14 B n;obtain⟨H,D,O⟩:=q1x I x t [s] (E6 v) y [] (λj V F=>by
     cases j with
     | zero=>simp at F;subst F;exact⟨v,rfl,n,m⟩
     | succ j=>grind) (λid u N b c M=>⟨e id (aB _ (by grind[G4])) N b c M,rfl⟩) R
    have Q:t.size=1:=by
     grind
    exact⟨⟨Q,m,O⟩,q5x I x k r G K f (by grind) (λi z v H D=>C (i+1) z v (by grind) (by grind)) o (λid u=>e id (aC _ u))⟩
   grind
  | agg l=>grind[G6]
  | tup l=>grind[G6]
theorem q09 {h hs:Heap}:∀(d:List (Bool×Ty)) (i:List AV) (xs:F9 d) (ids:List Nat),G6 h d i=some (xs,ids)->(∀id∈ids,hs id=h id)->G6 hs d i=some (xs,ids)
 | [],[],_,_,b,_=>b
 | [],a::r,_,_,b,_=>by grind[G6]
 | (true,t)::d,[],_,_,b,_=>by grind[G6]
 | (false,t)::d,[],_,_,b,_=>by grind[G6]
 | (true,t)::d,a::r,xs,ids,b,g=>by
  cases a with
  | agg n =>
   simp[G6]at b ⊢;split at b
   ·rename_i y m c k f;obtain⟨rfl,rfl⟩:=b;rw[q0s t n (λid e=>g id (aB _ e)),k,q09 d r m c f (λid e=>g id (aC _ e))]
   ·cases b
  | one s=>simp[G6]at b
  | tup l=>simp[G6]at b
 | (false,t)::d,a::r,xs,ids,b,g=>by
  cases a with
  | one s =>
   simp[G6]at b ⊢;cases j:s.known with
   | false=>rw[j]at b;cases b
   | true=>?_
   rw[j,cond_true]at b;rw[cond_true];split at b
   ·rename_i y m c k f;obtain⟨rfl,rfl⟩:=b;rw[q0s t [s] (λid e=>g id (aB _ (by simpa[G4]using e))),k,q09 d r m c f (λid e=>g id (aC _ e))]
   ·cases b
  | agg l=>simp[G6]at b
  | tup l=>simp[G6]at b
theorem j77 {rf:List Bool} {agg:Bool} {t:Ty} {r:List (Bool×Ty)} {a:AV} {vs:List AV} {xs:F9 ((agg,t)::r)} (he:J8 h (true::rf) ((agg,t)::r) (a::vs)=some (xs,ids)) :
  ∃id cs y ys ids',a=.one (.ptr id 0)/\h id=.cells cs/\F0 h t cs=some (y,[])/\J8 h rf r vs=some (ys,ids')/\xs=(y,ys)/\ids=id::(G4 cs++ids'):=by
 have key:∀s,a=.one s->(∀id,s≠.ptr id 0)->False:=λs ha hn=>by
  subst ha;cases s with
  | ptr id off =>
   cases off with
   | zero=>exact hn id rfl
   | succ n=>simp[J8]at he
  | _=>simp[J8]at he
 cases a with
 | agg l=>simp[J8]at he
 | tup l=>simp[J8]at he
 | one s =>
  by_cases hs:∃id,s=.ptr id 0
  ·obtain⟨id,rfl⟩:=hs;simp only[J8]at he;split at he
   ·rename_i cs hc;split at he
    ·rename_i y ys ids' h1 h2;simp only[aN,bZ]at he;exact⟨id,cs,y,ys,ids',rfl,hc,h1,h2,he.1.symm,he.2.symm⟩
    ·cases he
   ·cases he
  ·exact(key s rfl λid h0=>hs ⟨id,h0⟩).elim
theorem z3d {h hs:Heap}:∀(rf:List Bool) (as:List (Bool×Ty)) (avs:List AV) (xs:F9 as) (ids:List Nat),J8 h rf as avs=some (xs,ids)->(∀id∈ids,hs id=h id)->J8 hs rf as avs=some (xs,ids)
 | [],as,avs,xs,ids,he,hh=>q09 as avs xs ids he hh
 | true::rf,[],_,_,_,he,_=>by simp[J8]at he
 | true::rf,(_,t)::r,[],_,_,he,_=>by simp[J8]at he
 | false::rf,[],_,_,_,he,_=>by simp[J8]at he
 | false::rf,(_,t)::r,[],_,_,he,_=>by simp[J8]at he
 | true::rf,(_,t)::r,a::vs,xs,ids,he,hh=>by
  obtain⟨id,cs,y,ys,ids',rfl,hc,h1,h2,rfl,rfl⟩:=j77 he;simp only[J8];rw[hh id ar,hc];simp only;rw[q0s t cs (λid hm=>hh id (aj _ (aB _ hm))),h1,z3d rf r vs ys ids' h2 (λid hm=>hh id (aj _ (aC _ hm)))]
 | false::rf,(agg,t)::r,v::vs,xs,ids,he,hh=>by
  simp only[J8]at he ⊢;split at he
  ·rename_i y ids1 ys ids2 h1 h2;simp only[aN,bZ]at he;obtain⟨rfl,rfl⟩:=he;rw[q09 _ _ _ _ h1 (λid hm=>hh id (aB _ hm)),z3d rf r vs ys ids2 h2 (λid hm=>hh id (aC _ hm))]
  ·cases he
theorem z3e {κ:A6} {h h':Heap} {w:World} (ok:HeapOK L w0 κ h w) (x:Ext L κ h w κ h' w):∀(rf:List Bool) (as:List (Bool×Ty)) (avs:List AV) (vals:List Value) (xs:F9 as) (ids:List Nat),
  vals.length=avs.length->(∀(i:Nat) (av:AV) (v:Value),avs[i]? = some av->vals[i]? = some v->RepAV L κ h w av v)->J8 h rf as avs=some (xs,ids) ->
  (∀id∈ids,q4f (h id)->∀b c,κ id=some (b,c)->A4 L κ h' w b)->W4 w (A4 L κ h' w) rf as vals xs
 | [],as,avs,vals,xs,ids,hl,hr,he,hid=>q5x ok x as avs vals xs ids hl hr he hid
 | true::rf,[],_,_,_,_,_,_,he,_=>by simp[J8]at he
 | true::rf,(_,t)::r,[],_,_,_,_,_,he,_=>by simp[J8]at he
 | false::rf,[],_,_,_,_,_,_,he,_=>by simp[J8]at he
 | false::rf,(_,t)::r,[],_,_,_,_,_,he,_=>by simp[J8]at he
 | true::rf,(_,t)::r,a::avs,[],_,_,hl,_,_,_=>by simp at hl
 | false::rf,(_,t)::r,a::avs,[],_,_,hl,_,_,_=>by simp at hl
 | true::rf,(agg,t)::r,a::avs,v::vs,xs,ids,hl,hr,he,hid=>by
  obtain⟨id,cs,y,ys,ids',rfl,hc,h1,h2,rfl,rfl⟩:=j77 he;obtain⟨_,b,c,hk,hv⟩:=hr 0 _ v rfl rfl;have hob:=ok.obj id;rw[hc]at hob;obtain⟨b',c',us,ty,hk',hheap,hcl,hcs⟩:=hob;rw[hk]at hk';simp only[aN,bZ]at hk';obtain⟨rfl,rfl⟩:=hk';have hlt:b<w.heap.size:=(au.1 hheap).1;obtain⟨g1,g2,g3⟩:=q1x ok x t cs (λc=>us[c]?) y [] (λj s hj=>q1o ⟨hcl,hcs⟩ hj) (λid hm hh b c hk=>⟨hid id (aj _ (aB _ hm)) hh b c hk,rfl⟩) h1;refine⟨⟨b,0,hv,hlt,?_⟩,z3e ok x rf r avs vs ys ids' (by simpa using hl) (λi av v h1 h2=>hr (i+1) av v (by simpa using h1) (by simpa using h2)) h2 (λid hm=>hid id (aj _ (aC _ hm)))⟩;refine RepAt.congr t _ _ y (λc hc=>?_) g3;simp[hc,World.cell?,hheap]
 | false::rf,(agg,t)::r,a::avs,v::vs,xs,ids,hl,hr,he,hid=>by
  simp only[J8]at he;split at he
  ·rename_i y ids1 ys ids2 h1 h2;simp only[aN,bZ]at he;obtain⟨rfl,rfl⟩:=he;have g:=q5x ok x [(agg,t)] [a] [v] y ids1 rfl (λi av v' h1 h2=>by
    cases i with
    | zero=>exact hr 0 av v' h1 h2
    | succ i=>simp at h1) h1 (λid hm=>hid id (aB _ hm))
   exact⟨g.1,z3e ok x rf r avs vs ys ids2 (by simpa using hl) (λi av v h1 h2=>hr (i+1) av v (by simpa using h1) (by simpa using h2)) h2 (λid hm=>hid id (aC _ hm))⟩
  ·cases he
theorem q0p {κ':A6} {h':Heap} {w':World} {A:Nat->Prop} {l:Nat} {B:Option (Nat×(Nat×Nat))} {id':Nat} (o:∀b,A b->A4 L κ' h' w' b):∀(rs:List RTy) (vs:List Value) (y:J2 rs),W6 w' A l B rs vs y->((J1 id' rs y).2≠[]->κ' id'=B) ->
  (∀p∈(J1 id' rs y).2,h' id'=p.2) ->
  vs.length=(J1 id' rs y).1.length/\∀(i:Nat) (c:Bool×List SV) (u:Value),(J1 id' rs y).1[i]? = some c->vs[i]? = some u->RepComp L κ' h' w' c u
 | [],[],_,_,_,_=>⟨rfl,λi c u g=>by grind⟩
 | [],v::vs,_,a,_,_=>a.elim
 | .val h t::r,[],_,a,_,_=>a.elim
 | .own e t::r,[],_,a,_,_=>a.elim
 | .val h t::r,v::vs,y,a,f,n=>by
  obtain⟨m,z⟩:=a;obtain⟨H,K⟩:=q0p o r vs y.2 z f n;refine⟨by grind[J1],λi c u g k=>?_⟩;cases i with
  | succ i=>grind[J1]
  | zero =>
   simp[J1]at g k;subst g;subst k;cases h with
   | true =>
    obtain⟨I,x,U,D,M⟩:=m;refine⟨I,x,by grind[q16],λj s c R J=>?_⟩;obtain⟨G,w,F⟩:=q26 t _ y.1 (RepAt.mono (λb q=>⟨o b q,rfl⟩) t _ y.1 M) j s R;grind
   | false =>
    obtain⟨x,U,D⟩:=m;have d:=q16 t y.1;rw[x]at d;obtain⟨s,N⟩:=List.length_eq_one_iff.1 d;rw[N];obtain⟨G,w,F,_⟩:=q26 t _ y.1 (RepAt.mono (λb q=>⟨o b q,rfl⟩) t _ y.1 D) 0 s (by grind);simp[E6]at w;subst w;exact F
 | .own e t::r,v::vs,y,a,f,n=>by
  obtain⟨m,z⟩:=a;obtain⟨H,K⟩:=q0p o r vs y.2 z (λ_=>f (by simp[J1])) (λp V=>n p (aj _ V));refine⟨by grind[J1],λi c u g k=>?_⟩;cases i with
  | succ i=>grind[J1]
  | zero =>
   simp[J1]at g k;subst g;subst k;have Q:h' id'=.arr e t y.1:=n (id',.arr e t y.1) ar;rcases m with⟨S,E,C⟩ | ⟨b,O,T,S,E,C,W,-⟩
   ·refine⟨?_,by rw[C];rfl⟩;grind[J1]
   ·refine⟨?_,by rw[E];rfl⟩;grind[J1]
variable {h':Heap}
theorem q2w {κ':A6} {l:List (Bool×List SV)} {vs:List Value} (d:vs.length=l.length) (b:∀(i:Nat) (c:Bool×List SV) (u:Value),l[i]? = some c->vs[i]? = some u->RepComp L κ' h' w' c u):RepAV L κ' h' w' (q2v l) (q4d vs):=by
 have a:q2v l=.tup l->q4d vs=.tuple vs.toArray->RepAV L κ' h' w' (q2v l) (q4d vs):=λf e=>by
  rw[f,e];exact⟨vs,rfl,d,b⟩
 match l,vs,d,b,a with
 | [],[],_,_,a=>exact a rfl rfl
 | [(true,g)],[v],_,b,_=>exact b 0 _ v rfl rfl
 | [(false,[s])],[v],_,b,_=>exact b 0 _ v rfl rfl
 | [(false,[])],[v],_,b,_=>exact(b 0 _ v rfl rfl).elim
 | [(false,_::_::_)],[v],_,b,_=>exact(b 0 _ v rfl rfl).elim
 | x::y::z,_::_::_,_,_,a=>exact a (by simp[q2v]) rfl
theorem z7z (id':Nat):∀(rs:List RTy) (y:J2 rs),T9 rs<=1->(∀w' A b d vs,W6 w' A b d rs vs y->(J1 id' rs y).2=[] \/
  ∃e t l v,(J1 id' rs y).2=[(id',.arr e t l)]/\j6e w' A b e t v l d)
 | [],_,_=>λ_ _ _ _ _ _=>.inl rfl
 | .val g t::r,y,f=>λw' A b d vs c=>by
  cases vs with
  | nil=>exact c.elim
  | cons v vs =>
   simp[T9,RTy.isOwn]at f;exact z7z id' r y.2 f w' A b d vs c.2
 | .own e t::r,y,f=>λw' A b d vs c=>by
  cases vs with
  | nil=>exact c.elim
  | cons v vs =>
   simp[T9,RTy.isOwn]at f;have:∀(r:List RTy) (y:J2 r),T9 r=0->(J1 id' r y).2=[]:=by
    intro r
    induction r with
    | nil=>intro _ _;rfl
    | cons a r i =>
     intro y h;cases a with
     | val g t=>simp[T9,RTy.isOwn]at h;exact i y.2 h
     | own e t=>grind[T9,RTy.isOwn]
   exact .inr ⟨e,t,y.1,v,by grind[J1],c.1⟩
variable {a:Act} {o:Oper} {g:Operand} {args:Array Operand} {f:FuncId}
theorem q4q {e:Array TypeId} (d:o.op=.call { callee:=.value g,args:=args,argTypes:=e }) {b c:Array Value} (h:a.eval g=.func (.func f) b c) {fn:Func} (i:P.funcs[f]? = some fn) (j:fn.body.isSome=true) (k:(fn.name== "runtime.NumGoroutine")=false) (w:World) :
  (execOp a.eval o).run P w=.ok (.enter f (b++args.map a.eval++c)) w:=by
 unfold execOp;simp[d,resolve,Deferred.ofValue,h,invoke,callFunc,i,dA];grind
theorem RepAt.flat {w:World} {A A':Nat->Prop}:∀(t:Ty) (get:Nat->Option Value) (x:t.den),t.flat=true->RepAt w A t get x->RepAt w A' t get x
 | .int _,_,_,_,h=>h
 | .bool,_,_,_,h=>h
 | .nil,_,_,_,_=>trivial
 | .cons a b,get,x,c,h=>by
  simp[Ty.flat,ac]at c;exact⟨RepAt.flat a get x.1 c.1 h.1,RepAt.flat b _ x.2 c.2 h.2⟩
 | .list _,_,_,c,_=>by cases c
theorem z7y {w:World} {A A':Nat->Prop} {c:Nat} {o:Option (Nat×(Nat×Nat))}:∀{rs:List RTy} {vs:List Value} {y:J2 rs},q3e rs=true->W6 w A c o rs vs y->W6 w A' c o rs vs y
 | [],[],_,_,h=>h
 | [],_::_,_,_,h=>h
 | .val _ _::_,[],_,_,h=>h
 | .own _ _::_,[],_,_,h=>h
 | .val n t::r,v::vs,y,a,h=>by
  simp[q3e,ac]at a;refine⟨?_,z7y a.2 h.2⟩;have d:=h.1;cases n with
  | false=>exact⟨d.1,d.2.1,RepAt.flat t _ _ a.1 d.2.2⟩
  | true=>obtain⟨p,l,m,k,f⟩:=d;exact⟨p,l,m,k,RepAt.flat t _ _ a.1 f⟩
 | .own e t::r,v::vs,y,a,h=>by
  simp[q3e,ac]at a;refine⟨?_,z7y a.2 h.2⟩;rcases h.1 with d | ⟨b,j,g,l,m,k,f,u,q,z,C,B⟩
  ·exact .inl d
  ·exact .inr ⟨b,j,g,l,m,k,f,u,q,z,C,λi x s=>RepAt.flat t _ _ a.1 (B i x s)⟩
structure FunOK' (P:Program) (gl:W5) (f:FuncId) (sp:Spec):Prop where
 ok:y8u P gl f sp
 fn:∃fn,P.funcs[f]? = some fn/\fn.body.isSome=true/\(fn.name== "runtime.NumGoroutine")=false
variable {m:Nat} {r:Option Nat} {R:Ending->World->Prop}
theorem j0b {args:Array Value} (h:CallsIn (Fr none) m P f args w R):CallsIn (Fr r) m P f args w R:=h
theorem q30 {K:Act->World->Prop} {Q:Exit->Act->World->Prop} {args:Array Value} (g:∀c,o.op≠.defer c) (h:(execOp a.eval o).run P w=.ok (.enter f args) w) (d:CallsIn (Fr none) (m-1) P f args w R) (j:∀e b,R e b->∃v,e=.returned v/\K (a.put o.dst v) b):o.wpIn (Fr r) m P a w K Q:=by
 refine⟨λ_ _=>trivial,?_⟩;rw[Oper.semAt_eq _ _ _ g,h];refine⟨λh=>by grind[Fr],CallsIn.mono (j0b d) λe b i=>?_⟩;grind
theorem k4z {K:Act->World->Prop} {Q:Exit->Act->World->Prop} {args:Array Value} (g:∀c,o.op≠.defer c) (h:(execOp a.eval o).run P w=.ok (.enter f args) w) (d:CallsIn (Fr none) (m-1) P f args w R) (j:∀e b,R e b->(∃v,e=.returned v/\K (a.put o.dst v) b)\/(∃c,e=.panicked c/\Q (.panic c) a b)):o.wpIn (Fr r) m P a w K Q:=by
 refine⟨λ_ _=>trivial,?_⟩;rw[Oper.semAt_eq _ _ _ g,h];refine⟨λh=>by grind[Fr],CallsIn.mono (j0b d) λe b i=>?_⟩;grind
def EndOK (L:Nat->Prop) (w0:World) (κ:A6) (h:Heap) (w:World) (h':Heap) (av:AV) (e:Ending) (w':World):Prop :=
 (∃v κ',e=.returned v/\HeapOK L w0 κ' h' w'/\RepAV L κ' h' w' av v/\Ext L κ h w κ' h' w') \/
 (∃T κ',av=.one (.pan T)/\e=.panicked [pv T]/\HeapOK L w0 κ' (upd h' D1 .fresh) w'/\Ext L κ h w κ' (upd h' D1 .fresh) w')
theorem j7m {agg:Bool} {cs:List ((t:Ty)×t.den)} {a:List Value} (d:a.length=cs.length) (j:agg=false->a.length=1) (b:∀(i:Nat) (p:(t:Ty)×t.den) (u:Value),cs[i]? = some p->a[i]? = some u->p.1.size=1/\u.oneCell'=true/\RepAt w (A4 L κ h w) p.1 (E6 u) p.2):RepAV L κ h w (z3j agg cs) (cond agg (.agg a.toArray) (a.headD undef)):=by
 cases agg with
 | true =>
  refine⟨a,rfl,by grind,λi s c f g=>?_⟩;rw[bK,az]at f;obtain⟨p,e,rfl⟩:=f;exact⟨b i p c e g,(b i p c e g).2.1⟩
 | false =>
  have k:=j rfl
  match a,cs,d,k,b with
  | [u],[p],_,_,b=>exact b 0 p u rfl rfl
  | [_],[],d,_,_=>grind
  | [_],_::_::_,d,_,_=>grind
variable {hs:Heap} {ρ:Env}
theorem v2h {S:Array TypeId} (A:o.op=.call { callee:=.value g,args:=args,argTypes:=S }) {pre post:List AV} {ρs:Env} (y:q24 (ev ρ g)=some (f,pre,post)) {fn:Func} (n:P.funcs[f]? = some fn) (q:fn.body.isSome=true) (s:(fn.name== "runtime.NumGoroutine")=false) (h1:∀x,x=g\/x∈args.toList->ev ρs x=ev ρ x) (C:∀x,RepAV L κ hs w (ev ρs x) (a.eval x)) :
  ∃E:List Value,(execOp a.eval o).run P w=.ok (.enter f E.toArray) w/\E.length=(pre++args.toList.map (ev ρ)++post).length/\∀(i:Nat) (l:AV) (v:Value),(pre++args.toList.map (ev ρ)++post)[i]? = some l->E[i]? = some v->RepAV L κ hs w l v:=by
 have d:=C g;rw[h1 g (.inl rfl)]at d;have F:∀(i:Nat) (l:AV) (v:Value),(args.toList.map (ev ρ))[i]? = some l->(args.toList.map a.eval)[i]? = some v->RepAV L κ hs w l v:=λi l v j m=>by
  grind
 have r:(args.toList.map (ev ρ)).length=(args.toList.map a.eval).length:=by simp
 unfold q24 at y;split at y
 ·rename_i I K k;cases y;rw[k]at d;obtain⟨D,d,N,B⟩:=d;have e:=q4q (P:=P) A d n q s w;have h:(#[]++args.map a.eval++D.toArray)=(args.toList.map a.eval++D).toArray:=by
   grind
  rw[h]at e;refine⟨_,e,by grind[q4j],λi l v j m=>?_⟩;rw[cN]at j;by_cases T:i<(args.toList.map (ev ρ)).length
  ·grind
  ·rw[aP (by omega)]at j m;rw[r]at j;simp only[q4j,bK,az]at j;obtain⟨p,M,rfl⟩:=j;obtain⟨O,b,c,R,t⟩:=B _ p M;rw[m]at t;cases t;exact⟨O,b,c,R,rfl⟩
 ·rename_i I agg D k;cases y;rw[k]at d;obtain⟨z,d,J,H,G⟩:=d;have e:=q4q (P:=P) A d n q s w;have h:(#[cond agg (.agg z.toArray) (z.headD undef)]++args.map a.eval++#[])=(cond agg (.agg z.toArray) (z.headD undef)::args.toList.map a.eval).toArray:=by
   grind
  rw[h]at e;refine⟨_,e,by simp,λi l v j m=>?_⟩;grind[j7m]
 ·rename_i I id Q k;cases y;rw[k]at d;obtain⟨u,d,J,b,c,H,G⟩:=d;have e:=q4q (P:=P) A d n q s w;have h:(#[u]++args.map a.eval++#[])=(u::args.toList.map a.eval).toArray:=by
   grind
  rw[h]at e;refine⟨_,e,by simp,λi l v j m=>?_⟩;rw[bP,List.singleton_append]at j;cases i with
  | zero =>
   simp[bS,aN]at j m;subst j;subst m;exact⟨J,b,c,H,G⟩
  | succ i=>grind
 grind
def z2u (P:Program) (L:Nat->Prop) (o:Oper) (f:FuncId) (avs:List AV) (X:Operand->Prop) (ρ:Env):Prop :=
 (∀c,o.op≠.defer c)/\∀(fn:Func),P.funcs[f]? = some fn->fn.body.isSome=true->(fn.name== "runtime.NumGoroutine")=false->∀(ρs:Env) (hs:Heap),(∀x,X x->ev ρs x=ev ρ x) ->
  ∀(κ:A6) (a:Act) (w:World),(∀x,RepAV L κ hs w (ev ρs x) (a.eval x)) ->
  ∃vs:List Value,(execOp a.eval o).run P w=.ok (.enter f vs.toArray) w/\vs.length=avs.length/\∀(i:Nat) (av:AV) (v:Value),avs[i]? = some av->vs[i]? = some v->RepAV L κ hs w av v
theorem q1u {j:Array TypeId} (i:o.op=.call { callee:=.value g,args:=args,argTypes:=j }) {pre post:List AV} (k:q24 (ev ρ g)=some (f,pre,post)) :
  z2u P L o f (pre++args.toList.map (ev ρ)++post) (λx=>x=g\/x∈args.toList) ρ :=
 ⟨(λc l=>by grind),λ_ d e b _ _ h _ _ _ a=>v2h i k d e b h a⟩
theorem k3j {avs:List AV} {X:Operand->Prop} (hR:z2u P L o f avs X ρ) {sp:Spec} {gl:W5} (hsp:FunOK' P gl f sp) (hgl:GlobOK gl w0) {ρs:Env} {x:F9 sp.args} {y:J2 sp.res} {ids:List Nat} (hx:J8 h sp.refs sp.args avs=some (x,ids)) (hy:sp.f x=some y) (hids:∀id∈ids,hs id=h id) (h1:∀x,X x->ev ρs x=ev ρ x) (hev:∀x,RepAV L κ hs w (ev ρs x) (a.eval x)) (_henv:q32 L κ hs w ρs a) (ok:HeapOK L w0 κ hs w) (okI:HeapOK L w0 κ (A3 (B4 hs ids) hs) w) (extI:Ext L κ hs w κ (A3 (B4 hs ids) hs) w) (freeI:∀id∈ids,q4f (hs id)->∀b c,κ id=some (b,c)->A4 L κ (A3 (B4 hs ids) hs) w b) (m:Nat) :
  ∃vs0:List Value,(execOp a.eval o).run P w=.ok (.enter f vs0.toArray) w/\CallsIn (Fr none) (m-1) P f vs0.toArray w λe w'=>∃v,e=.returned v/\Below w.heap.size w w' /\
   U4 (λb=>L b\/∃id c,(A3 (B4 hs ids) hs id).live=true/\κ id=some (b,c)) w w' sp.res v y:=by
 have hxs:=z3d sp.refs sp.args _ x ids hx hids;obtain⟨fn,hf1,hf2,hf3⟩:=hsp.fn;obtain⟨vs0,hrun,hvl,hvr⟩:=hR.2 fn hf1 hf2 hf3 ρs hs h1 κ a w hev;have hargs:W4 w (A4 L κ (A3 (B4 hs ids) hs) w) sp.refs sp.args vs0 x:=z3e ok extI sp.refs sp.args _ _ x ids hvl hvr hxs freeI
 let L':Nat->Prop:=λb=>L b\/∃id c,(A3 (B4 hs ids) hs id).live=true/\κ id=some (b,c)
 have hL':∀b,L' b->b<w.heap.size:=λb hb=>by
  rcases hb with hb | ⟨id,c,hl,hk⟩
  ·have:=(ok.outer b hb).1;omega
  ·exact(okI.own id b c hl hk).2
 have hfree:∀b,A4 L κ (A3 (B4 hs ids) hs) w b↔b<w.heap.size/\¬L' b:=λb =>
  ⟨λ⟨a1,a2,a3⟩=>⟨a1,λh=>by rcases h with h | ⟨id,c,hl,hk⟩;exact a2 h;exact a3 id c hl hk⟩,
   λ⟨a1,a2⟩=>⟨a1,λh=>a2 (.inl h),λid c hl hk=>a2 (.inr ⟨id,c,hl,hk⟩)⟩⟩
 have hfe:(A4 L κ (A3 (B4 hs ids) hs) w)=λb=>b<w.heap.size/\¬L' b:=funext λb=>propext (hfree b);rw[hfe]at hargs;have hcall:=hsp.ok x y hy L' w vs0 (hgl.below ok.below) hL' hargs (m-1);exact⟨vs0,hrun,hcall⟩
theorem j4p {R:Type} {avs:List AV} {X:Operand->Prop} (hR:z2u P L o f avs X ρ) {sp:Spec} {gl:W5} (hsp:FunOK' P gl f sp) (hgl:GlobOK gl w0) {id':Nat} {K:Eff->Option R} {z:R} (he:j1q sp h id' avs K=some z) :
  ∃q,K q=some z/\q.full=none/\∀ρs hs,(∀x,X x->ev ρs x=ev ρ x)->(∀id∈q.rd,hs id=h id)->(∀p∈q.ups,hs p.1=h p.1)->A9 P L w0 o ρs hs (q.heap hs) q.av:=by
 unfold j1q at he;split at he
 ·cases he
 ·rename_i x ids hx;cases hy:sp.f x with
  | none=>rw[hy]at he;cases he
  | some y =>
   rw[hy,aa]at he;simp only at he;cases hc:(Nat.ble (T9 sp.res) 1&&ids.all (λj=>!Nat.beq j id'))with
   | false=>rw[hc]at he;cases he
   | true =>
    rw[hc,cond_true]at he;rw[ac]at hc;have hone:=ao hc.1;have hni:id'∉ids:=λhm=>by
     have:=aG.1 hc.2 id' hm;simp at this
    unfold I3 at he;split at he
    ·rename_i hfr;refine⟨_,he,rfl,λρs hs h1 h2 h3=>?_⟩;have hids:∀id∈ids,hs id=h id:=λid hm=>h2 id (aj _ hm);have h4:hs id'=h id':=h2 id' ar;have hxs:=z3d sp.refs sp.args _ x ids hx hids;have hfs:hs id'=.fresh:=h4.trans hfr;cases hfl:q3e sp.res with
     | true =>
      show A9 P L w0 o ρs hs (A3 (J1 id' sp.res y).2 hs) (q2v (J1 id' sp.res y).1);intro r κ a w henv ok m K' Q hK _;have hev:=R5 henv;obtain⟨okI,extI,freeI⟩:=V2 ids ok;obtain⟨cs,hrun,hcall⟩:=k3j hR hsp hgl hx hy hids h1 hev henv ok okI extI freeI m;refine q30 hR.1 hrun hcall λe w' ⟨v,hev',hbel,bo,vs,hv,hres⟩=>⟨v,hev',?_⟩;have hres:W6 w' (λ_=>False) w.heap.size bo sp.res vs y:=z7y hfl hres;rcases z7z id' sp.res y hone w' _ _ bo vs hres with hnil | ⟨e',t,l,v',hups,hnew⟩
      ·have hrr:=q0p (L:=L) (κ':=κ) (h':=hs) (id':=id') (A:=λ_=>False) (λb hb=>hb.elim) sp.res vs y hres (λh=>absurd hnil h) (λp hp=>by rw[hnil]at hp;cases hp);refine hK κ v w' ?_ ?_ ?_
       ·rw[hnil];exact q3i ok hbel
       ·rw[hnil,hv];exact q2w hrr.1 hrr.2
       ·rw[hnil];exact q28 hbel
      ·rcases hnew with⟨rfl,rfl,hv'⟩ | ⟨b,cap,cur,rfl,hv',hbb,hcell,hsz,hcm,hll,h1c,hlc⟩
       ·have okN:=q4y ok e' t hfs;have exN:=q3d (L:=L) (κ:=κ) (w:=w) e' t hfs;have hrr:=q0p (L:=L) (κ':=upd κ id' none) (h':=upd hs id' (.arr e' t [])) (id':=id') (A:=λ_=>False) (λb hb=>hb.elim) sp.res vs y hres (λ_=>A2 _ _ _) (λp hp=>by rw[hups]at hp;simp at hp;subst hp;exact A2 _ _ _);refine hK (upd κ id' none) v w' ?_ ?_ ?_
        ·rw[hups];exact q3i okN hbel
        ·rw[hups,hv];exact q2w hrr.1 hrr.2
        ·rw[hups];exact exN.trans (q28 hbel)
       ·have hrr:=q0p (L:=L) (κ':=upd κ id' (some (b,cap))) (h':=upd hs id' (.arr e' t l)) (id':=id') (A:=λ_=>False) (λb hb=>hb.elim) sp.res vs y hres (λ_=>A2 _ _ _) (λp hp=>by rw[hups]at hp;simp at hp;subst hp;exact A2 _ _ _);have hbl:b<w'.heap.size:=(au.1 hcell).1;refine hK (upd κ id' (some (b,cap))) v w' ?_ ?_ ?_
        ·rw[hups];exact j2d ok hbel _ hfs hbb hbl (q2m (cs:=cur.toList) (A2 _ _ _) (by simpa using hcell) (by simpa using hsz) hcm hll h1c (hlc.mono λb hb=>hb.elim))
        ·rw[hups,hv];exact q2w hrr.1 hrr.2
        ·rw[hups];exact z4f hbel _ hfs hbb
     | false =>
     show A9 P L w0 o ρs hs (A3 (B4 h ids++(J1 id' sp.res y).2) hs) (q2v (J1 id' sp.res y).1);rw[<-q6f ids hids,M4];intro r κ a w henv ok m K' Q hK _;have hev:=R5 henv;obtain⟨okI,extI,freeI⟩:=V2 ids ok;obtain⟨fn,hf1,hf2,hf3⟩:=hsp.fn;obtain⟨vs0,hrun,hvl,hvr⟩:=hR.2 fn hf1 hf2 hf3 ρs hs h1 κ a w hev;have hargs:W4 w (A4 L κ (A3 (B4 hs ids) hs) w) sp.refs sp.args vs0 x:=z3e ok extI sp.refs sp.args _ _ x ids hvl hvr hxs freeI
     let L':Nat->Prop:=λb=>L b\/∃id c,(A3 (B4 hs ids) hs id).live=true/\κ id=some (b,c)
     have hL':∀b,L' b->b<w.heap.size:=λb hb=>by
      rcases hb with hb | ⟨id,c,hl,hk⟩
      ·have:=(ok.outer b hb).1;omega
      ·exact(okI.own id b c hl hk).2
     have hfree:∀b,A4 L κ (A3 (B4 hs ids) hs) w b↔b<w.heap.size/\¬L' b:=λb =>
      ⟨λ⟨a1,a2,a3⟩=>⟨a1,λh=>by rcases h with h | ⟨id,c,hl,hk⟩;exact a2 h;exact a3 id c hl hk⟩,
       λ⟨a1,a2⟩=>⟨a1,λh=>a2 (.inl h),λid c hl hk=>a2 (.inr ⟨id,c,hl,hk⟩)⟩⟩
     have hfe:(A4 L κ (A3 (B4 hs ids) hs) w)=λb=>b<w.heap.size/\¬L' b:=funext λb=>propext (hfree b);rw[hfe]at hargs;have hcall:=hsp.ok x y hy L' w vs0 (hgl.below ok.below) hL' hargs (m-1);refine q30 hR.1 hrun hcall λe w' ⟨v,hev',hbel,bo,vs,hv,hres⟩=>⟨v,hev',?_⟩;have hfI:A3 (B4 hs ids) hs id'=.fresh:=v4s hfs;have hAw:∀(κ':A6) (h':Heap),(∀id c b,(h' id).live=true->κ' id=some (b,c)->(∃id2 c2,(A3 (B4 hs ids) hs id2).live=true/\κ id2=some (b,c2))\/∃c2,bo=some (b,c2)) ->
       ∀b,(b<w'.heap.size/\¬L' b/\∀c,bo≠some (b,c))->A4 L κ' h' w' b:=λκ' h' hh b ⟨a1,a2,a3⟩ =>
      ⟨a1,λh=>a2 (.inl h),λid c hl hk=>by
       rcases hh id c b hl hk with⟨id2,c2,q1,q2⟩ | ⟨c2,q⟩
       ·exact a2 (.inr ⟨id2,c2,q1,q2⟩)
       ·exact a3 c2 q⟩
     rcases z7z id' sp.res y hone w' _ _ bo vs hres with hnil | ⟨e',t,l,v',hups,hnew⟩
     ·have hrr:=q0p (L:=L) (κ':=κ) (h':=A3 (B4 hs ids) hs) (id':=id') (hAw κ _ (λid c b hl hk=>.inl ⟨id,c,hl,hk⟩)) sp.res vs y hres (λh=>absurd hnil h) (λp hp=>by rw[hnil]at hp;cases hp);refine hK κ v w' ?_ ?_ ?_
      ·rw[hnil];exact q3i okI hbel
      ·rw[hnil,hv];exact q2w hrr.1 hrr.2
      ·rw[hnil];exact extI.trans (q28 hbel)
     ·rcases hnew with⟨rfl,rfl,hv'⟩ | ⟨b,cap,cur,rfl,hv',hbb,hcell,hsz,hcm,hll,h1c,hlc⟩
      ·have okN:=q4y okI e' t hfI;have exN:=q3d (L:=L) (κ:=κ) (w:=w) e' t hfI;have hrr:=q0p (L:=L) (κ':=upd κ id' none) (h':=upd (A3 (B4 hs ids) hs) id' (.arr e' t [])) (id':=id') (hAw _ _ (λid c b hl hk=>by
        by_cases hid:id=id'
        ·subst hid;rw[A2]at hk;cases hk
        ·rw[A0 _ _ hid]at hl hk;exact .inl ⟨id,c,hl,hk⟩)) sp.res vs y hres (λ_=>A2 _ _ _) (λp hp=>by rw[hups]at hp;simp at hp;subst hp;exact A2 _ _ _)
       refine hK (upd κ id' none) v w' ?_ ?_ ?_
       ·rw[hups];exact q3i okN hbel
       ·rw[hups,hv];exact q2w hrr.1 hrr.2
       ·rw[hups];exact(extI.trans exN).trans (q28 hbel)
      ·have hA':=hAw (upd κ id' (some (b,cap))) (upd (A3 (B4 hs ids) hs) id' (.arr e' t l)) (λid c b' hl hk=>by
        by_cases hid:id=id'
        ·subst hid;rw[A2]at hk;simp at hk;exact .inr ⟨cap,by rw[hk.1]⟩
        ·rw[A0 _ _ hid]at hl hk;exact .inl ⟨id,c,hl,hk⟩)
       have hrr:=q0p (L:=L) (κ':=upd κ id' (some (b,cap))) (h':=upd (A3 (B4 hs ids) hs) id' (.arr e' t l)) (id':=id') hA' sp.res vs y hres (λ_=>A2 _ _ _) (λp hp=>by rw[hups]at hp;simp at hp;subst hp;exact A2 _ _ _);have hbl:b<w'.heap.size:=(au.1 hcell).1;refine hK (upd κ id' (some (b,cap))) v w' ?_ ?_ ?_
       ·rw[hups];exact j2d okI hbel _ hfI hbb hbl (q2m (cs:=cur.toList) (A2 _ _ _) (by simpa using hcell) (by simpa using hsz) hcm hll h1c (hlc.mono λb hb=>⟨hA' b hb,rfl⟩))
       ·rw[hups,hv];exact q2w hrr.1 hrr.2
       ·rw[hups];exact extI.trans (z4f hbel _ hfI hbb)
    ·cases he
end Go.Abs
