/- The engine, part 3b: maps as lists of entries by rising keys: plain laws. -/
import Derived.Test.YtecofmaegcibeaaGreatDoorAbsBase
namespace Go.Abs
theorem Ty.eqb_iff:∀(t:Ty),t.flat=true->∀x y:t.den,t.eqb x y=true↔x=y
 | .int _,_,x,y=>by simp[Ty.eqb]
 | .bool,_,x,y=>by simp[Ty.eqb]
 | .nil,_,x,y=>by simp[Ty.eqb]
 | .list _,h,_,_=>by simp[Ty.flat]at h
 | .cons a b,h,x,y=>by
  simp only[Ty.flat,ac]at h;simp only[Ty.eqb,ac,Ty.eqb_iff a h.1,Ty.eqb_iff b h.2];exact⟨λh=>eI h.1 h.2,λh=>by rw[h];exact⟨rfl,rfl⟩⟩
theorem Ty.eqb_self (t:Ty) (h:t.flat=true) (x:t.den):t.eqb x x=true:=(t.eqb_iff h x x).2 rfl
theorem Ty.eqb_false (t:Ty) (h:t.flat=true) {x y:t.den} (hn:x≠y):t.eqb x y=false:=by
 cases hb:t.eqb x y with
 | true=>exact absurd ((t.eqb_iff h x y).1 hb) hn
 | false=>rfl
theorem Ty.lt_irr:∀(t:Ty),t.flat=true->∀x:t.den,t.lt x x=false
 | .int _,_,x=>by simp[Ty.lt]
 | .bool,_,x=>by cases x<;>rfl
 | .nil,_,_=>rfl
 | .list _,_,_=>rfl
 | .cons a b,h,x=>by
  simp only[Ty.flat,ac]at h;simp[Ty.lt,Ty.lt_irr a h.1,Ty.lt_irr b h.2]
theorem Ty.lt_trans:∀(t:Ty),t.flat=true->∀x y z:t.den,t.lt x y=true->t.lt y z=true->t.lt x z=true
 | .int _,_,x,y,z=>by
  simp only[Ty.lt,decide_eq_true_eq]
  exactλh1 h2=>Int.lt_trans h1 h2
 | .bool,_,x,y,z=>by cases x<;>cases y<;>cases z<;>simp[Ty.lt]
 | .nil,_,_,_,_=>by simp[Ty.lt]
 | .list _,_,_,_,_=>by simp[Ty.lt]
 | .cons a b,h,x,y,z=>by
  simp only[Ty.flat,ac]at h;simp only[Ty.lt,bD,ac,Ty.eqb_iff a h.1];rintro (h1 | ⟨h1,h2⟩) (h3 | ⟨h3,h4⟩)
  ·exact .inl (Ty.lt_trans a h.1 _ _ _ h1 h3)
  ·exact .inl (h3▸h1)
  ·exact .inl (h1▸h3)
  ·exact .inr ⟨h1.trans h3,Ty.lt_trans b h.2 _ _ _ h2 h4⟩
theorem Ty.lt_tri:∀(t:Ty),t.flat=true->∀x y:t.den,t.lt x y=true\/x=y\/t.lt y x=true
 | .int _,_,x,y=>by simp only[Ty.lt,decide_eq_true_eq];exact Int.lt_trichotomy x y
 | .bool,_,x,y=>by cases x<;>cases y<;>simp[Ty.lt]
 | .nil,_,x,y=>.inr (.inl rfl)
 | .list _,h,_,_=>by simp[Ty.flat]at h
 | .cons a b,h,x,y=>by
  simp only[Ty.flat,ac]at h;simp only[Ty.lt,bD,ac,Ty.eqb_iff a h.1];rcases Ty.lt_tri a h.1 x.1 y.1 with h1 | h1 | h1
  ·exact .inl (.inl h1)
  ·rcases Ty.lt_tri b h.2 x.2 y.2 with h2 | h2 | h2
   ·exact .inl (.inr ⟨h1,h2⟩)
   ·exact .inr (.inl (eI h1 h2))
   ·exact .inr (.inr (.inr ⟨h1.symm,h2⟩))
  ·exact .inr (.inr (.inl h1))
section
variable {β:Type} {t:Ty}
def Rise (t:Ty) (l:List (t.den×β)):Prop:=l.Pairwise λp q=>t.lt p.1 q.1=true
theorem Rise.ne (hf:t.flat=true) {l:List (t.den×β)} (h:Rise t l):l.Pairwise λp q=>p.1≠q.1 :=
 eC (λ{a b} hab e=>by rw[e,t.lt_irr hf]at hab;cases hab) h
theorem v7w {l:List (t.den×β)} (h:l.Pairwise λp q=>p.1≠q.1):∀{p q:t.den×β},p∈l->q∈l->p.1=q.1->p=q:=by
 induction l with
 | nil=>intro p q hp;cases hp
 | cons a r ih =>
  intro p q hp hq e;obtain⟨h1,h2⟩:=ba.1 h;rcases al.1 hp with rfl | hp'<;>rcases al.1 hq with rfl | hq'
  ·rfl
  ·exact absurd e (h1 q hq')
  ·exact absurd e.symm (h1 p hp')
  ·exact ih h2 hp' hq' e
theorem q3l (hf:t.flat=true) {l:List (t.den×β)} (h:Rise t l) {k:t.den} {v:β}:D2 t l k=some v↔(k,v)∈l:=by
 unfold D2;constructor
 ·intro he;obtain⟨p,hp,rfl⟩:=az.1 he;have h1:=eA hp;have h2:t.eqb k p.1=true:=by simpa using eV hp
  rw[(t.eqb_iff hf _ _).1 h2];exact h1
 ·intro hm;cases hp:l.find? λp=>t.eqb k p.1 with
  | none =>
   have:=er.1 hp (k,v) hm;exact absurd (t.eqb_self hf k) this
  | some p =>
   have h1:=eA hp;have h2:t.eqb k p.1=true:=by simpa using eV hp
   have h3:=(t.eqb_iff hf _ _).1 h2;have:=v7w (h.ne hf) h1 hm h3.symm;rw[this];rfl
theorem y1r (hf:t.flat=true) {l:List (t.den×β)} {k:t.den}:D2 t l k=none↔∀p∈l,p.1≠k:=by
 unfold D2;rw[Option.map_eq_none_iff,er];constructor
 ·intro h p hp e;exact h p hp (by rw[e];exact t.eqb_self hf k)
 ·intro h p hp hb;exact h p hp ((t.eqb_iff hf _ _).1 hb).symm
theorem q9i (hf:t.flat=true):∀(l:List (t.den×β)) (k:t.den) (v:β),D2 t (C9 t l k v) k=some v
 | [],k,v=>by simp[C9,D2,t.eqb_self hf]
 | p::r,k,v=>by
  simp only[C9];cases h1:t.eqb k p.1 with
  | true=>simp[D2,t.eqb_self hf]
  | false =>
   rw[cond_false];cases h2:t.lt k p.1 with
   | true=>simp[D2,t.eqb_self hf]
   | false =>
    rw[cond_false];have ih:=q9i hf r k v;unfold D2 at ih ⊢;rw[db,h1];exact ih
theorem q6t (hf:t.flat=true):∀(l:List (t.den×β)) (k j:t.den) (v:β),j≠k->D2 t (C9 t l k v) j=D2 t l j
 | [],k,j,v,h=>by simp[C9,D2,t.eqb_false hf h]
 | p::r,k,j,v,h=>by
  simp only[C9];cases h1:t.eqb k p.1 with
  | true =>
   have e:=(t.eqb_iff hf _ _).1 h1;simp only[cond_true,D2,db];rw[<-e,t.eqb_false hf h]
  | false =>
   rw[cond_false];cases h2:t.lt k p.1 with
   | true=>simp only[cond_true,D2,db,t.eqb_false hf h]
   | false =>
    rw[cond_false];have ih:=q6t hf r k j v h;unfold D2 at ih ⊢;rw[db,db];cases t.eqb j p.1 with
    | true=>rfl
    | false=>exact ih
theorem y1u (hf:t.flat=true):∀{l:List (t.den×β)} {k:t.den} {v:β} {q:t.den×β},q∈C9 t l k v->q=(k,v)\/q∈l
 | [],k,v,q,h=>by simp[C9]at h;exact .inl h
 | p::r,k,v,q,h=>by
  simp only[C9]at h;cases h1:t.eqb k p.1 with
  | true =>
   rw[h1,cond_true]at h;rcases al.1 h with h | h
   ·exact .inl h
   ·exact .inr (aj _ h)
  | false =>
   rw[h1,cond_false]at h;cases h2:t.lt k p.1 with
   | true =>
    rw[h2,cond_true]at h;rcases al.1 h with h | h
    ·exact .inl h
    ·exact .inr h
   | false =>
    rw[h2,cond_false]at h;rcases al.1 h with h | h
    ·exact .inr (h▸ar)
    ·rcases y1u hf h with h | h
     ·exact .inl h
     ·exact .inr (aj _ h)
theorem q9j (hf:t.flat=true):∀{l:List (t.den×β)} {k:t.den} {v:β},Rise t l->Rise t (C9 t l k v)
 | [],k,v,_=>by simp[C9,Rise]
 | p::r,k,v,h=>by
  obtain⟨h1,h2⟩:=ba.1 h;simp only[C9];cases e1:t.eqb k p.1 with
  | true =>
   have e:=(t.eqb_iff hf _ _).1 e1;exact ba.2 ⟨λq hq=>by rw[show((k,v):t.den×β).1=p.1 from e];exact h1 q hq,h2⟩
  | false =>
   rw[cond_false];cases e2:t.lt k p.1 with
   | true =>
    refine ba.2 ⟨λq hq=>?_,h⟩;rcases al.1 hq with rfl | hq
    ·exact e2
    ·exact t.lt_trans hf _ _ _ e2 (h1 q hq)
   | false =>
    rw[cond_false];refine ba.2 ⟨λq hq=>?_,q9j hf h2⟩;rcases y1u hf hq with rfl | hq
    ·rcases t.lt_tri hf k p.1 with h | h | h
     ·rw[h]at e2;cases e2
     ·rw[h,t.eqb_self hf]at e1;cases e1
     ·exact h
    ·exact h1 q hq
theorem z5p (hf:t.flat=true):∀{l:List (t.den×β)} {k:t.den} {v:β},Rise t l->(C9 t l k v).Perm ((k,v)::H2 t l k)
 | [],k,v,_=>by simp[C9,H2]
 | p::r,k,v,h=>by
  obtain⟨h1,h2⟩:=ba.1 h;simp only[C9];have none_of:(∀q∈r,t.lt p.1 q.1=true)->(t.lt k p.1=true\/k=p.1)->H2 t r k=r:=λhr hk=>by
   unfold H2;refine cH.2 λq hq=>?_;rw[t.eqb_false hf,bv];intro e;have:=hr q hq;rw[<-e]at this;rcases hk with hk | hk
   ·have:=t.lt_trans hf _ _ _ hk this;rw[t.lt_irr hf]at this;cases this
   ·rw[hk,t.lt_irr hf]at this;cases this
  cases e1:t.eqb k p.1 with
  | true =>
   have e:=(t.eqb_iff hf _ _).1 e1;rw[cond_true];have:H2 t (p::r) k=H2 t r k:=by simp[H2,e1]
   rw[this,none_of h1 (.inr e)]
  | false =>
   rw[cond_false];have hd:H2 t (p::r) k=p::H2 t r k:=by simp[H2,e1]
   cases e2:t.lt k p.1 with
   | true =>
    rw[cond_true,hd,none_of h1 (.inl e2)]
   | false =>
    rw[cond_false,hd];exact((z5p hf h2).cons p).trans (List.Perm.swap _ _ _)
theorem z5n {l:List (t.den×β)} {k:t.den} (h:Rise t l):Rise t (H2 t l k):=List.Pairwise.filter _ h
theorem v7a (hf:t.flat=true) (l:List (t.den×β)) (k:t.den):D2 t (H2 t l k) k=none :=
 (y1r hf).2 λp hp e=>by
  have:=(bn.1 hp).2;rw[e,t.eqb_self hf]at this;cases this
theorem v74 (hf:t.flat=true) {l:List (t.den×β)} (h:Rise t l) {k j:t.den} (hj:j≠k):D2 t (H2 t l k) j=D2 t l j:=by
 apply Option.ext;intro v;rw[q3l hf (z5n h),q3l hf h];unfold H2;rw[bn];exact⟨λh=>h.1,λh=>⟨h,by rw[t.eqb_false hf (λe=>hj e.symm)];rfl⟩⟩
theorem y4n (hf:t.flat=true):∀{l m:List (t.den×β)},Rise t l->Rise t m->l.Perm m->l=m:=by
 intro l m hl hm hp;refine List.Perm.eq_of_pairwise (le:=λp q:t.den×β=>t.lt p.1 q.1=true) (λa b _ _ h1 h2=>?_) hl hm hp;have:=t.lt_trans hf _ _ _ h1 h2;rw[t.lt_irr hf]at this;cases this
end
section
variable {β:Type} {t:Ty}
theorem v9n {p l:List (t.den×β)} (hp:p.Perm l) (h:Rise t l) (hf:t.flat=true):p.Pairwise λa b=>a.1≠b.1 :=
 (hp.pairwise_iff (λh e=>h e.symm)).2 (h.ne hf)
theorem y5l (hf:t.flat=true) {p l:List (t.den×β)} (hp:p.Perm l) (h:Rise t l) {i:Nat} {q:t.den×β} (hi:p[i]? = some q) (v:β):(p.set i (q.1,v)).Perm (C9 t l q.1 v):=by
 obtain⟨hlt,he⟩:=ag.1 hi;have hpd:(H2 t p q.1).Perm (H2 t l q.1):=hp.filter _;refine List.Perm.trans ?_ ((List.Perm.cons _ hpd).trans (z5p hf h).symm);have hsplit:p=p.take i++q::p.drop (i+1):=by
  rw[<-he,eR,cv]
 have hn:=v9n hp h hf;have hdel:H2 t p q.1=p.take i++p.drop (i+1):=by
  rw[hsplit]at hn;obtain⟨h1,h2,h3⟩:=fa.1 hn;obtain⟨h4,h5⟩:=ba.1 h2
  conv=>lhs;rw[hsplit]
  unfold H2;rw[bW,List.filter_cons,t.eqb_self hf];simp only[bp,bO,if_false];congr 1
  ·exact cH.2 λa ha=>by rw[t.eqb_false hf (λe=>h3 a ha q ar e.symm)];rfl
  ·exact cH.2 λa ha=>by rw[t.eqb_false hf (h4 a ha)];rfl
 rw[hdel,List.set_eq_take_append_cons_drop,if_pos hlt];exact List.perm_middle
theorem k01 (hf:t.flat=true) {p l:List (t.den×β)} (hp:p.Perm l) (h:Rise t l) {k:t.den} (hk:∀q∈p,q.1≠k) (v:β):(p++[(k,v)]).Perm (C9 t l k v):=by
 have hd:H2 t l k=l:=cH.2 λa ha=>by rw[t.eqb_false hf (λe=>hk a (hp.mem_iff.2 ha) e.symm)];rfl
 have:=z5p hf (k:=k) (v:=v) h;rw[hd]at this;exact(dX.trans (hp.cons (k,v))).trans this.symm
theorem j0u (hf:t.flat=true) {p l:List (t.den×β)} (hp:p.Perm l) (h:Rise t l) {i:Nat} {q:t.den×β} (hi:p[i]? = some q):(p.eraseIdx i).Perm (H2 t l q.1):=by
 have h1:=y5l hf hp h hi q.2;have h2:=z5p hf (k:=q.1) (v:=q.2) h;obtain⟨hlt,he⟩:=ag.1 hi;have h3:p.set i (q.1,q.2)=p:=by
  rw[show((q.1,q.2):t.den×β)=p[i]from he.symm];exact List.set_getElem_self hlt
 rw[h3]at h1;have h4:p.Perm (q::p.eraseIdx i):=by
  have hsplit:p=p.take i++q::p.drop (i+1):=by
   rw[<-he,eR,cv]
  rw[dU]
  conv=>lhs;rw[hsplit]
  exact List.perm_middle
 exact(h4.symm.trans (h1.trans h2)).cons_inv
end
end Go.Abs
