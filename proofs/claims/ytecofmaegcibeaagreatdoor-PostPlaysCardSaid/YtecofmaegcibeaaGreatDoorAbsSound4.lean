/- The engine, part 7: new objects; append. -/
import Derived.Test.YtecofmaegcibeaaGreatDoorAbsSound3
import Derived.Laws.CopyRow
namespace Go.Abs
open Go Go.RowKit
variable {P:Program} {L:Nat->Prop} {w0:World}
theorem T2 (κ:A6) (h:Heap) (w:World):Ext L κ h w κ h w.drew where
 place _ _:=rfl
 kid _ hd:=hd
 dead _ hd:=hd
 cells _ l hl:=.inl ⟨l,hl⟩
 arr _ _ _ l hl:=.inl ⟨l,rfl,.inl hl⟩
 tree _ _ _ l f hl:=.inl ⟨l,f,hl,λ_ _ h=>⟨h,λ_=>rfl⟩⟩
 ice _ _ _ _ hl:=.inl hl
 lrec _ _ s hl:=.inl ⟨s,hl⟩
 maps _ hl:=.inl hl
 iter _ _ _ _ _ l c hl:=.inl ⟨l,c,hl⟩
 size:=ax _
 loops _ r hr:=⟨r,hr⟩
 defs _ hr:=hr
 still _ hb:=⟨hb,rfl⟩
variable {κ:A6} {h:Heap} {w:World}
theorem q3j (a:HeapOK L w0 κ h w):HeapOK L w0 κ h w.drew where
 obj id:=RepObj.ext (T2 κ h w) rfl (λ_ _ _=>rfl) (λ_=>rfl) (λ_ _ _ _=>rfl) (a.obj id)
 inj:=a.inj
 own:=a.own
 below:=a.below.drew
 outer:=a.outer
 kids:=a.kids
theorem q3d {id:Nat} (e:TypeId) (t:Ty) (hf:h id=.fresh):Ext L κ h w (upd κ id none) (upd h id (.arr e t [])) w where
 place j hj:=A0 _ _ (λe=>hj.1 (e▸hf))
 kid j hd:=by rw[A0 _ _ (λe=>by rw[e,hf]at hd;cases hd)];exact hd
 tree j e k l f hl:=by rw[A0 _ _ (λe=>by rw[e,hf]at hl;cases hl)];exact .inl ⟨l,f,hl,λp n h=>⟨h,λhk=>A0 _ _ (λe=>by rw[e,hf]at hk;cases hk)⟩⟩
 dead j hd:=by rw[A0 _ _ (λe=>by rw[e,hf]at hd;cases hd)];exact hd
 cells j l hl:=by rw[A0 _ _ (λe=>by rw[e,hf]at hl;cases hl)];exact .inl ⟨l,hl⟩
 arr j e t l hl:=by rw[A0 _ _ (λe=>by rw[e,hf]at hl;cases hl)];exact .inl ⟨l,rfl,.inl hl⟩
 ice j e t l hl:=by rw[A0 _ _ (λe=>by rw[e,hf]at hl;cases hl)];exact .inl hl
 lrec j i s hl:=by rw[A0 _ _ (λe=>by rw[e,hf]at hl;cases hl)];exact .inl ⟨s,hl⟩
 maps j hl:=by rw[A0 _ _ (λe=>by rw[e,hf]at hl;cases hl)];exact .inl hl
 iter j _ _ _ _ l c hl:=by rw[A0 _ _ (λe=>by rw[e,hf]at hl;cases hl)];exact .inl ⟨l,c,hl⟩
 size:=ax _
 loops _ r hr:=⟨r,hr⟩
 defs _ hr:=hr
 still b hb:=by
  obtain⟨h1,h3⟩:=hb;refine⟨⟨h1,λj c' hj hk=>?_⟩,rfl⟩;by_cases hji:j=id
  ·subst hji;rw[A2]at hk;cases hk
  ·rw[A0 _ _ hji]at hj hk;exact h3 j c' hj hk
theorem q4y (c:HeapOK L w0 κ h w) {id:Nat} (e:TypeId) (t:Ty) (m:h id=.fresh) :
  HeapOK L w0 (upd κ id none) (upd h id (.arr e t [])) w where
 obj j:=by
  by_cases g:j=id
  ·subst g;rw[A2];exact .inl ⟨A2 _ _ _,rfl⟩
  ·rw[A0 h _ g];exact RepObj.ext (q3d e t m) (A0 _ _ g) (λ_ _ _=>rfl) (λn=>A0 _ _ (J0 c (R8 m) j n)) (λ_ _ _ _=>rfl) (c.obj j)
 inj i j b l r f k d q:=by
  by_cases a:i=id
  ·grind[A2]
  ·by_cases o:j=id
   ·grind[A2]
   ·rw[A0 _ _ a]at d f;rw[A0 _ _ o]at q k;exact c.inj i j b l r f k d q
 own i b l f d:=by
  by_cases a:i=id
  ·grind[A2]
  ·rw[A0 _ _ a]at d f;exact c.own i b l f d
 below:=c.below
 outer b p:=⟨(c.outer b p).1,λi l f d=>by
  by_cases a:i=id
  ·grind[A2]
  ·rw[A0 _ _ a]at d f;exact(c.outer b p).2 i l f d⟩
 kids j k:=by rw[A0 _ _ (λe=>by rw[<-e,c.kids j k]at m;grind)];exact c.kids j k
variable {w':World} {id':Nat} {b:Nat}
theorem q4r {id:Nat} {c c':Nat×Nat} {obj':AObj} (hl:(h id).live=true) (hnk:h id≠.kid) (hk:κ id=some (b,c)) (hf:h id'=.fresh) (hw:z2w w w' b) (hs:w'.heap.size=w.heap.size) (hb:∀b',b'≠b->w'.heap[b']? = w.heap[b']?) :
  Ext L κ h w (upd κ id' (some (b,c'))) (upd (upd h id .dead) id' obj') w' where
 place j hj:=A0 _ _ (λe=>hj.1 (e▸hf))
 kid j hd:=by
  have hj:j≠id':=λe=>by rw[e,hf]at hd;cases hd
  rw[A0 _ _ hj,A0 _ _ (λe=>hnk (by rw[<-e];exact hd))];exact hd
 tree j e k l f hl:=by
  have hj:j≠id':=λe=>by rw[e,hf]at hl;cases hl
  rw[A0 _ _ hj];by_cases hji:j=id
  ·subst hji;rw[A2];exact .inr rfl
  ·rw[A0 _ _ hji];exact .inl ⟨l,f,hl,λp n h=>⟨h,λhk=>A0 _ _ (λe=>by rw[e,hf]at hk;cases hk)⟩⟩
 dead j hd:=by
  have hj:j≠id':=λe=>by rw[e,hf]at hd;cases hd
  rw[A0 _ _ hj];by_cases hji:j=id
  ·subst hji;rw[A2]
  ·rw[A0 _ _ hji];exact hd
 cells j l hl:=by
  have hj:j≠id':=λe=>by rw[e,hf]at hl;cases hl
  rw[A0 _ _ hj];by_cases hji:j=id
  ·subst hji;rw[A2];exact .inr rfl
  ·rw[A0 _ _ hji];exact .inl ⟨l,hl⟩
 arr j e t l hl:=by
  have hj:j≠id':=λe=>by rw[e,hf]at hl;cases hl
  rw[A0 _ _ hj];by_cases hji:j=id
  ·subst hji;rw[A2];exact .inr rfl
  ·rw[A0 _ _ hji];exact .inl ⟨l,rfl,.inl hl⟩
 ice j e t l hl:=by
  have hj:j≠id':=λe=>by rw[e,hf]at hl;cases hl
  rw[A0 _ _ hj];by_cases hji:j=id
  ·subst hji;rw[A2];exact .inr rfl
  ·rw[A0 _ _ hji];exact .inl hl
 lrec j i s hl:=by
  have hj:j≠id':=λe=>by rw[e,hf]at hl;cases hl
  rw[A0 _ _ hj];by_cases hji:j=id
  ·subst hji;rw[A2];exact .inr rfl
  ·rw[A0 _ _ hji];exact .inl ⟨s,hl⟩
 maps j hl:=by
  have hj:j≠id':=λe=>by rw[e,hf]at hl;cases hl
  rw[A0 _ _ hj];by_cases hji:j=id
  ·subst hji;rw[A2];exact .inr rfl
  ·rw[A0 _ _ hji];exact .inl hl
 iter j _ _ _ _ l c hl:=by
  have hj:j≠id':=λe=>by rw[e,hf]at hl;cases hl
  rw[A0 _ _ hj];by_cases hji:j=id
  ·subst hji;rw[A2];exact .inr rfl
  ·rw[A0 _ _ hji];exact .inl ⟨l,c,hl⟩
 size:=by omega
 loops b' r hr:=by
  by_cases e:b'=b
  ·subst e;rcases hw with(⟨c,t,f,h1⟩ | ⟨es,cl,h1⟩ | ⟨m,s,n,c,h1⟩) | ⟨r1,r2,h1,h2⟩
   ·rw[hr]at h1;cases h1
   ·rw[hr]at h1;cases h1
   ·rw[hr]at h1;cases h1
   ·exact⟨r2,h2⟩
  ·exact⟨r,(hb b' e).trans hr⟩
 defs b' hr:=by
  by_cases e:b'=b
  ·subst e;rcases hw with(⟨c,t,f,h1⟩ | ⟨es,cl,h1⟩ | ⟨m,s,n,c,h1⟩) | ⟨r1,r2,h1,h2⟩<;>rw[hr]at h1<;>cases h1
  ·exact(hb b' e).trans hr
 still b' hb':=by
  obtain⟨h1,h3⟩:=hb';have hne:b'≠b:=λe=>h3 id c hl (by rw[e];exact hk);refine⟨⟨by omega,λj c2 hj hk2=>?_⟩,hb b' hne⟩;by_cases hji:j=id'
  ·subst hji;rw[A2]at hk2;simp at hk2;exact hne hk2.1.symm
  ·rw[A0 _ _ hji]at hj hk2;by_cases hji2:j=id
   ·subst hji2;rw[A2]at hj;cases hj
   ·rw[A0 _ _ hji2]at hj;exact h3 j c2 hj hk2
theorem q6e (g:HeapOK L w0 κ h w) {id:Nat} {c c':Nat×Nat} {obj':AObj} (s:(h id).live=true) (v:h id≠.kid) (B:κ id=some (b,c)) (I:h id'=.fresh) (M:z2w w w' b) (hs:w'.heap.size=w.heap.size) (H:∀d,d≠b->w'.heap[d]? = w.heap[d]?) (C:Below w0.heap.size w0 w') (V:RepObj L (upd κ id' (some (b,c'))) (upd (upd h id .dead) id' obj') w' id' obj') :
  HeapOK L w0 (upd κ id' (some (b,c'))) (upd (upd h id .dead) id' obj') w' where
 obj j:=by
  by_cases E:j=id'
  ·grind[A2]
  ·rw[A0 _ _ E];by_cases hji2:j=id
   ·subst hji2;rw[A2];trivial
   ·rw[A0 _ _ hji2];by_cases F:h j=.dead\/h j=.fresh
    ·rcases F with F | F<;>rw[F]<;>trivial
    ·refine RepObj.ext (q4r s v B I M hs H) (A0 _ _ E) (λd u o=>H d λe=>?_) (λn=>A0 _ _ (J0 g (R8 I) j n)) (λn d u o=>H d λe=>by
      subst e;exact J0 g v j n (g.inj _ _ d u c (q1d g j n) s o B)) (g.obj j)
     subst e;by_cases x:(h j).live=true
     ·exact hji2 (g.inj j id d u c x s o B)
     ·cases f:h j with
      | ice e t l =>
       have:=g.obj j;rw[f]at this;exact(this.2 d u o).2.2 id c s B
      | mice U W Q R l =>
       have:=g.obj j;rw[f]at this;obtain⟨S,X,Y,O,m,y,-⟩:=this;rw[o]at m;cases m;exact y.2.2 id c s B
      | dead=>grind
      | fresh=>grind
      | _=>rw[f]at x;exact x rfl
 inj i j d A u k z m y:=by
  have r:∀i,i≠id'->(upd (upd h id .dead) id' obj' i).live=true->i≠id/\(h i).live=true:=λi J k=>by
   rw[A0 _ _ J]at k;by_cases e:i=id
   ·subst e;rw[A2]at k;cases k
   grind[A0]
  by_cases a:i=id'<;>by_cases f:j=id'
  ·omega
  ·subst a;obtain⟨G,D⟩:=r j f z;rw[A2]at m;rw[A0 _ _ f]at y;exact absurd (g.inj j id d u c D s y (by grind)) G
  ·subst f;obtain⟨G,D⟩:=r i a k;rw[A2]at y;rw[A0 _ _ a]at m;exact absurd (g.inj i id d A c D s m (by grind)) G
  ·obtain⟨G,D⟩:=r i a k;obtain⟨T,N⟩:=r j f z;rw[A0 _ _ a]at m;rw[A0 _ _ f]at y;exact g.inj i j d A u D N m y
 own i d A k m:=by
  rw[hs];by_cases a:i=id'
  ·subst a;rw[A2]at m;simp at m;rw[<-m.1];exact g.own id b c s B
  ·rw[A0 _ _ a]at m k;by_cases e:i=id
   ·subst e;rw[A2]at k;cases k
   ·rw[A0 _ _ e]at k;exact g.own i d A k m
 below:=C
 outer d K:=⟨by rw[hs];exact(g.outer d K).1,λi A k m=>by
  by_cases a:i=id'
  ·subst a;rw[A2]at m;exact(g.outer d K).2 id c s (by grind)
  ·rw[A0 _ _ a]at m k;by_cases e:i=id
   ·subst e;rw[A2]at k;cases k
   ·rw[A0 _ _ e]at k;exact(g.outer d K).2 i A k m⟩
 kids j z:=by
  rw[A0 _ _ (λe=>by rw[<-e,g.kids j z]at I;grind),A0 _ _ (λe=>v (by rw[<-e];exact g.kids j z))];exact g.kids j z
def ListCells (w:World) (A:Nat->Prop) (t:Ty) (cs:List Value) (l:List t.den):Prop :=
 ∀i y,l[i]? = some y->RepAt w A t (λc=>if c<t.size then cs[i*t.size+c]? else none) y
variable {A:Nat->Prop} {t:Ty} {cs:List Value} {l:List t.den}
theorem ListCells.append {d:List Value} {m:List t.den} (h:cs.length=l.length*t.size) (h1:ListCells w A t cs l) (f:ListCells w A t d m) :
  ListCells w A t (cs++d) (l++m):=by
 intro i y b;by_cases a:i<l.length
 ·rw[aH a]at b;refine RepAt.congr t _ _ y (λc g=>?_) (h1 i y b);have e:(i+1)*t.size<=l.length*t.size:=aJ _ a;grind
 ·rw[aP (by omega)]at b;refine RepAt.congr t _ _ y (λc g=>?_) (f _ y b);have e:l.length*t.size<=i*t.size:=aJ _ (by omega);grind[Nat.sub_mul]
theorem ListCells.more {d:List Value} (e:l.length*t.size<=cs.length) (h1:ListCells w A t cs l):ListCells w A t (cs++d) l:=by
 intro i y b;have a:=(ag.1 b).1;refine RepAt.congr t _ _ y (λc g=>?_) (h1 i y b);have f:(i+1)*t.size<=l.length*t.size:=aJ _ a;grind
theorem ListCells.take (h1:ListCells w A t cs l):ListCells w A t (cs.take (l.length*t.size)) l:=by
 intro i y b;have a:=(ag.1 b).1;refine RepAt.congr t _ _ y (λc d=>?_) (h1 i y b);have e:(i+1)*t.size<=l.length*t.size:=aJ _ a;grind
theorem ListCells.mono {A':Nat->Prop} (a:∀b,A b->A' b/\w'.heap[b]? = w.heap[b]?) (h1:ListCells w A t cs l):ListCells w' A' t cs l :=
 λi y c=>RepAt.mono a t _ y (h1 i y c)
theorem z3l {e:Ty} {l:List e.den} {o:Nat} (g:∀i y,l[i]? = some y->RepAt w (A4 L κ h w) e (λc=>if c<e.size then w.cell? ⟨b,o+(i*e.size+c),none⟩else none) y) :
  ∃a:List Value,a.length=l.length*e.size/\(∀(j:Nat) (u:Value),a[j]? = some u->w.cell? ((⟨b,o,none⟩:Addr).add j)=some u)/\(∀u∈a,u.oneCell'=true)/\ListCells w (A4 L κ h w) e a l:=by
 have k:∀q,q<l.length*e.size->∃v,w.cell? ⟨b,o+q,none⟩=some v/\v.oneCell'=true:=by
  intro q C;have d:0<e.size:=dG λs=>by grind
  have n:q / e.size<l.length:=dv (by grind);have x:q % e.size<e.size:=dH _ d;have r:=g (q / e.size) _ (af n);have m:=q16 e l[q / e.size];obtain⟨v,z,-,D⟩:=q26 e _ _ r (q % e.size) _ (af (by omega));grind[Nat.div_add_mod']
 let a:=(List.range (l.length*e.size)).map λq=>(w.cell? ⟨b,o+q,none⟩).getD undef
 refine⟨a,by grind,λj u t=>?_,λu B=>?_,λi y p=>?_⟩
 ·grind[U5]
 ·grind
 ·have f:=(ag.1 p).1;have A:(i+1)*e.size<=l.length*e.size:=aJ _ f;grind
variable {v:Value}
theorem j36 (ok:HeapOK L w0 κ h w) {e:Ty} {s:SV} (hr:RepSV L κ h w s v) {l:List e.den} (hl:C2 h e s=some l) :
  ∃sa cap,v=.slice sa l.length cap/\((sa=none/\l=[])\/∃(ad:Addr) (cs:List Value),sa=some ad/\cs.length=l.length*e.size /\
   (∀(j:Nat) (u:Value),cs[j]? = some u->w.cell? (ad.add j)=some u)/\(∀u∈cs,u.oneCell'=true)/\ListCells w (A4 L κ h w) e cs l):=by
 have hempty:∀(sa:Option Addr) (cap:Nat),v=.slice sa 0 cap->l=[]->∃sa cap,v=.slice sa l.length cap/\((sa=none/\l=[])\/∃(ad:Addr) (cs:List Value),sa=some ad/\cs.length=l.length*e.size /\
   (∀(j:Nat) (u:Value),cs[j]? = some u->w.cell? (ad.add j)=some u)/\(∀u∈cs,u.oneCell'=true)/\ListCells w (A4 L κ h w) e cs l):=by
  intro sa cap hv hl;subst hl;refine⟨sa,cap,hv,?_⟩;cases sa with
  | none=>exact .inl ⟨rfl,rfl⟩
  | some ad=>exact .inr ⟨ad,[],rfl,by simp,λj u hj=>by simp at hj,λu hu=>by simp at hu,λi y hy=>by simp at hy⟩
 cases s with
 | nils =>
  simp[C2]at hl;subst hl;exact hempty none 0 (show v=_ from hr) rfl
 | sc t y =>
  simp only[C2]at hl;obtain⟨he,hy⟩:=H9 hl;subst he;subst hy;obtain⟨_,_,sa,len,cap,hg,hlen,hcap,hx⟩:=hr;simp[E6]at hg;subst hlen;by_cases hne:y=[]
  ·subst hne;exact hempty sa cap hg rfl
  ·obtain⟨b,o,hs,_,hel⟩:=hx hne;subst hs;obtain⟨cs,c1,c2,c3,c4⟩:=z3l hel;exact⟨_,cap,hg,.inr ⟨_,cs,rfl,c1,c2,c3,c4⟩⟩
 | ne t y =>
  simp only[C2]at hl;obtain⟨he,hy⟩:=H9 hl;cases he;change y=l at hy;subst hy;obtain⟨_,⟨sa,len,cap,hg,hlen,hcap,hx⟩,_⟩:=hr;simp[E6]at hg;subst hlen;by_cases hne:y=[]
  ·subst hne;exact hempty sa cap hg rfl
  ·obtain⟨b,o,hs,_,hel⟩:=hx hne;subst hs;obtain⟨cs,c1,c2,c3,c4⟩:=z3l hel;exact⟨_,cap,hg,.inr ⟨_,cs,rfl,c1,c2,c3,c4⟩⟩
 | nx=>simp[C2]at hl
 | own id =>
  simp only[C2]at hl;have key:∀(e':TypeId) (t:Ty) (l':List t.den),(h id=.arr e' t l'\/h id=.ice e' t l')->H0 (.list t) (.list e) l'=some l->∃sa cap,v=.slice sa l.length cap/\((sa=none/\l=[])\/∃(ad:Addr) (cs:List Value),sa=some ad/\cs.length=l.length*e.size /\
   (∀(j:Nat) (u:Value),cs[j]? = some u->w.cell? (ad.add j)=some u)/\(∀u∈cs,u.oneCell'=true)/\ListCells w (A4 L κ h w) e cs l):=by
   intro e' t l' ho hc;obtain⟨he,hy⟩:=H9 hc;cases he;change l'=l at hy;subst hy;have hrep:RepArr L κ h w id e' e l':=by
    have:=ok.obj id;rcases ho with ho | ho<;>rw[ho]at this
    ·exact this
    ·exact this.1
   have hv:(κ id=none/\l'=[]/\v=.slice none 0 0)\/∃b cap,κ id=some (b,cap)/\v=.slice (some ⟨b,cap.2,none⟩) l'.length cap.1:=by
    simp only[RepSV]at hr;rcases ho with ho | ho<;>rw[ho]at hr<;>exact hr.1
   rcases hv with⟨hk,hnil,hv⟩ | ⟨b,cap,hk,hv⟩
   ·exact hempty none 0 hv hnil
   ·obtain⟨cs,c1,c2,c3,c4⟩:=z3l (b:=b) (o:=cap.2) (λi y hy=>by
     refine RepAt.congr e _ _ y (λc hc=>?_) (j01 hrep hk hy);simp only[hc,if_true,bT])
    exact⟨_,cap.1,hv,.inr ⟨_,cs,rfl,c1,c2,c3,c4⟩⟩
  cases ho:h id with
  | arr e' t l'=>rw[ho]at hl;exact key e' t l' (.inl ho) hl
  | ice e' t l'=>rw[ho]at hl;exact key e' t l' (.inr ho) hl
  | _=>rw[ho]at hl;simp at hl
 | sub id off len =>
  simp only[C2]at hl;have key:∀(e':TypeId) (t:Ty) (l':List t.den),(h id=.arr e' t l'\/h id=.ice e' t l')->H0 (.list t) (.list e) ((l'.drop off).take len)=some l->∃sa cap,v=.slice sa l.length cap/\((sa=none/\l=[])\/∃(ad:Addr) (cs:List Value),sa=some ad/\cs.length=l.length*e.size /\
   (∀(j:Nat) (u:Value),cs[j]? = some u->w.cell? (ad.add j)=some u)/\(∀u∈cs,u.oneCell'=true)/\ListCells w (A4 L κ h w) e cs l):=by
   intro e' t l' ho hc;obtain⟨he,hy⟩:=H9 hc;cases he;change (l'.drop off).take len=l at hy;subst hy;have hrep:RepArr L κ h w id e' e l':=by
    have:=ok.obj id;rcases ho with ho | ho<;>rw[ho]at this
    ·exact this
    ·exact this.1
   have hv:off+len<=l'.length/\((κ id=none/\v=.slice none 0 0)\/∃b cap o,κ id=some (b,cap)/\v=.slice (some ⟨b,o,none⟩) len (cap.1-off)/\(o=cap.2+off*e.size\/cap.1<=off/\o<=cap.2+cap.1*e.size)):=by
    simp only[RepSV]at hr;rcases ho with ho | ho<;>rw[ho]at hr<;>exact hr.1
   obtain⟨hle',hv⟩:=hv;have hlen:((l'.drop off).take len).length=len:=by simp;omega
   rcases hv with⟨hk,hv⟩ | ⟨b,cap,o,hk,hv,ho'⟩
   ·rcases hrep with⟨_,hnil⟩ | ⟨b',cap',cur,hk',_⟩
    ·subst hnil;exact hempty none 0 hv (by simp)
    ·rw[hk]at hk';cases hk'
   ·by_cases h0:len=0
    ·subst h0;exact hempty _ _ hv (by simp)
    ·have hoo:=ho'.resolve_right λhc=>by
      rcases hrep with⟨q,_⟩ | ⟨_,_,_,q,_,_,_,hle,_⟩
      ·rw[hk]at q;cases q
      ·rw[hk]at q;cases q;omega
     obtain⟨cs,c1,c2,c3,c4⟩:=z3l (l:=(l'.drop off).take len) (b:=b) (o:=o) (λi y hy=>by
      have hi:i<len:=by
       have:=(ag.1 hy).1;omega
      have hy':l'[off+i]? = some y:=by
       rw[aV hi,aT]at hy;exact hy
      refine RepAt.congr e _ _ y (λc hc=>?_) (j01 hrep hk hy');simp only[hc,if_true];rw[hoo,bH];simp only[bT])
     exact⟨_,_,by rw[hlen];exact hv,.inr ⟨_,cs,rfl,c1,c2,c3,c4⟩⟩
  cases ho:h id with
  | arr e' t l'=>rw[ho]at hl;exact key e' t l' (.inl ho) hl
  | ice e' t l'=>rw[ho]at hl;exact key e' t l' (.inr ho) hl
  | _=>rw[ho]at hl;simp at hl
 | unk=>simp[C2]at hl
 | ptr _ _=>simp[C2]at hl
 | eptr _ _ _ _=>simp[C2]at hl
 | ro _ _ _=>simp[C2]at hl
 | fn _ _=>simp[C2]at hl
 | yld _=>simp[C2]at hl
 | gl _=>simp[C2]at hl
 | gp _ _=>simp[C2]at hl
 | cstr _=>simp[C2]at hl
 | bfn _ _ _=>simp[C2]at hl
 | bfp _ _ _=>simp[C2]at hl
 | ifc _ _ _=>simp[C2]at hl
 | nif=>simp[C2]at hl
 | nilf=>simp[C2]at hl
 | pan _=>simp[C2]at hl
 | mp _=>simp[C2]at hl
 | mpn=>simp[C2]at hl
 | stmp _=>simp[C2]at hl
 | csl _ _ _ _=>simp[C2]at hl
 | ts _ _=>simp[C2]at hl
 | tp _ _ _=>simp[C2]at hl
 | nilp=>simp[C2]at hl
 | udf=>simp[C2]at hl
variable {e:TypeId}
theorem q2m {id:Nat} {cap:Nat×Nat} {cs:List Value} (f:κ id=some (b,cap)) (hh:w.heap[b]? = some (.cells cs.toArray e (0,0))) (hs:cap.2+cap.1*t.size<=cs.length) (a:cap.1<=maxLen) (j:l.length<=cap.1) (h1:∀u∈cs,u.oneCell'=true) (d:ListCells w (A4 L κ h w) t (cs.drop cap.2) l):RepArr L κ h w id e t l :=
 .inr ⟨b,cap,cs.toArray,f,hh,by omega,a,j,by omega,λi y g=>RepAt.congr t _ _ y (λc d=>by grind) (d i y g)⟩
theorem y4e {id:Nat} {cap:Nat} {cs:List Value} (c:κ id=some (b,(cap,0))) (hh:w.heap[b]? = some (.cells cs.toArray e (0,0))) (hs:cs.length=cap*t.size) (a:cap<=maxLen) (d:l.length<=cap) (h1:∀u∈cs,u.oneCell'=true) (f:ListCells w (A4 L κ h w) t cs l):RepArr L κ h w id e t l :=
 q2m c hh (by grind) a d h1 (by grind)
theorem y4w (t ty e:TypeId) (i:TypeInfo) (v:P.underlying t=some (.slice e)) (hi:P.info? e=some i) (w:World) (g f d h:Nat) (k:Array Value) (r:w.heap[g]? = some (.cells k e (0,0))) (a:Addr) (m c:Nat) (b:List Value) (q:b.length=m*i.size) (l:∀j u,b[j]? = some u->w.cell? (a.add j)=some u) (h1:∀u∈b,u.oneCell'=true) (n:d+m<=h) (p:f+d*i.size+b.length<=k.size) :
  (Builtin.append_ #[t,t] ty #[.slice (some ⟨g,f,none⟩) d h,.slice (some a) m c]).run P w =
   .ok (.slice (some ⟨g,f,none⟩) (d+m) h) (w.setRow g (k.toList.take (f+d*i.size)++b++k.toList.drop (f+d*i.size+b.length)).toArray):=by
 have s:=run_firstCells_some (P:=P) w i.size m a m c b q l;have o:=run_storeCells_at P g (f+d*i.size) e b 0 k w r (by omega) h1;simp[Builtin.append_,run_underlying v,sizeOf,typeInfo,hi,Builtin.lenOf,n,s,Addr.add_lit,o]
theorem v3o {a:Type} (A B C:List a) {o n:Nat} (h:o+n<=A.length):(A.take (o+n)++B++C).drop o=(A.drop o).take n++B++C:=by
 grind
variable {o:Oper} {s:Operand} {x:Operand} {T:TypeId}
theorem q4p {a:Act} {b:TypeId} (c:o.op=.call { callee:=.builtin .append,args:=#[s,x],argTypes:=#[T,b] }) (h:(Builtin.append_ #[T,b] o.type #[a.eval s,a.eval x]).run P w=.ok v w'):(execOp a.eval o).run P w=.ok (.value v) w':=by
 unfold execOp;grind[resolve,invoke,builtin,Sem.run_bind,Sem.run_pure,Result.andThen_ok]
theorem z9i {z:Value} (d:∀c∈z.cells.toList,c.oneCell'=true) (n:Nat):∀c∈(Builtin.zeroCells z.cells n).toList,c.oneCell'=true:=by
 intro c a;simp[Builtin.zeroCells,eK,aW]at a;obtain⟨i,_,rfl⟩:=a;by_cases b:i % z.cells.size<z.cells.size
 ·grind
 ·rw[getElem!_neg z.cells _ b];rfl
theorem TInfo.OK.zero_one {b:TInfo} (e:b.OK P T):∃i z,P.info? T=some i/\i.size=b.size/\i.bytes=b.bytes/\i.zero=some z/\z.cells.size=b.size/\b.zeros.length=b.size /\
  (∀(d:A6) (h:Heap) (w:World),RepCells L d h w b.zeros z.cells.toList)/\(∀c∈z.cells.toList,c.oneCell'=true):=by
 obtain⟨⟨i,z,n,m,f,o,p,l,k⟩,-⟩:=e.base;have a:∀(d:A6) (h:Heap) (w:World),RepCells L d h w b.zeros z.cells.toList:=λd h w =>
  ⟨by grind,λj s c g q=>(k j s c g (by grind)).rep⟩
 exact⟨i,z,n,m,f,o,p,l,a,q42 (a (λ_=>none) (λ_=>.fresh) default)⟩
theorem j70 (j:HeapOK L w0 κ h w) (f:h id'=.fresh) {cs rest:List Value} {cap:Nat} (hs:cs.length=l.length*t.size) (i:rest.length=(cap-l.length)*t.size) (b:l.length<=cap) (c:cap<=maxLen) (h1:∀u∈cs,u.oneCell'=true) (m:∀u∈rest,u.oneCell'=true) (g:ListCells w (A4 L κ h w) t cs l) :
  ∃a,HeapOK L w0 a (upd h id' (.arr e t l)) (w.alloc (.cells (cs++rest).toArray e)) /\
   RepAV L a (upd h id' (.arr e t l)) (w.alloc (.cells (cs++rest).toArray e)) (.one (.own id')) (.slice (some ⟨w.heap.size,0,none⟩) l.length cap) /\
   Ext L κ h w a (upd h id' (.arr e t l)) (w.alloc (.cells (cs++rest).toArray e)):=by
 have d:=X0 (L:=L) (κ:=κ) (h:=h) (w:=w) (.cells (cs++rest).toArray e) (AObj.arr e t l) (cap,0) f;refine⟨_,q1c j _ _ (cap,0) f (q2m (A2 _ _ _) (heap_alloc_new w _) ?_ c b (λu k=>?_) (by exact ListCells.more (by omega) (g.mono d.free))),⟨?_,rfl⟩,d⟩
 ·rw[aK,hs,i,<-bH,cA];grind
 all_goals grind[A2]
theorem q7d {n:Nat} (h:A8 n b=true):n<=140737488355328/\n*b<=140737488355328:=by
 unfold A8 at h;simp_all
variable {ty:TypeId}
theorem y4v {i:TypeInfo} (f:P.underlying T=some (.slice e)) (hi:P.info? e=some i) (w:World) (b:Option Addr) (c n cap:Nat) (a:Option Addr) (d:n<=cap) :
  (Builtin.append_ #[T,T] ty #[.slice a n cap,.slice b 0 c]).run P w=.ok (.slice a n cap) w:=by
 cases b<;>cases a<;>simp[Builtin.append_,run_underlying f,sizeOf,typeInfo,hi,Builtin.lenOf,Builtin.firstCells,loadCells,loadCellsFrom,d,storeCells]
variable {hs:Heap}
theorem j72 (ok:HeapOK L w0 κ hs w) {A a:TInfo} (s:A.OK P T) (S:A.elem=some e) (n:a.OK P e) (x:hs id'=.fresh) {m:List a.ty.den} (c:A8 m.length a.bytes=true) (_hpos:1<=a.size) (Q:a.ty.size=a.size) {xv:Value} (r:∃f cap,xv=.slice f m.length cap/\((f=none/\m=[])\/∃(k:Addr) (cs:List Value),f=some k/\cs.length=m.length*a.ty.size /\
   (∀(j:Nat) (u:Value),cs[j]? = some u->w.cell? (k.add j)=some u)/\(∀u∈cs,u.oneCell'=true)/\ListCells w (A4 L κ hs w) a.ty cs m)) :
  ∃b v h,(Builtin.append_ #[T,T] ty #[.slice none 0 0,xv]).run P w=.ok v h/\HeapOK L w0 b (upd hs id' (.arr e a.ty m)) h /\
   RepAV L b (upd hs id' (.arr e a.ty m)) h (.one (.own id')) v/\Ext L κ hs w b (upd hs id' (.arr e a.ty m)) h:=by
 obtain⟨-,d,X,-,W,-⟩:=s.base;have G:P.underlying T=some (.slice e):=by
  grind
 obtain⟨i,z,H,C,F,q,U,-,-,o⟩:=n.zero_one (L:=L);obtain⟨f,cap,rfl,r⟩:=r;have M:=q7d c;by_cases B:m=[]
 ·subst B;refine⟨_,_,_,y4v G H w f cap 0 0 none (ax _),q4y ok e a.ty x,⟨?_,rfl⟩,q3d e a.ty x⟩;grind[A2]
 ·rcases r with⟨_,D⟩ | ⟨k,cs,rfl,N,R,V,I⟩
  ·grind
  ·have g:0<m.length:=fo.2 B;have K:=run_append_nil (P:=P) w T ty e i z G H q k m.length cap cs (by grind) R g (by omega) (by grind);have p:=grownCap_ge w m.length 0 e;have y:grownCap w m.length 0 e<=maxLen:=grownCap_le_maxLen w m.length 0 e (by grind[maxLen]);obtain⟨b,Y,O,J⟩:=j70 (q3j ok) x (e:=e) (t:=a.ty) (l:=m) (cs:=cs) (rest:=(Builtin.zeroCells z.cells (grownCap w m.length 0 e-m.length)).toList) (cap:=grownCap w m.length 0 e)
    N (by grind[size_zeroCells]) p y V (z9i o _) (I.mono (T2 κ hs w).free)
   refine⟨b,_,_,K,?_,?_,?_⟩
   ·have:(cs.toArray++Builtin.zeroCells z.cells (grownCap w m.length 0 e-m.length))=(cs++(Builtin.zeroCells z.cells (grownCap w m.length 0 e-m.length)).toList).toArray:=by
     grind
    grind
   ·exact O
   ·have:(cs.toArray++Builtin.zeroCells z.cells (grownCap w m.length 0 e-m.length))=(cs++(Builtin.zeroCells z.cells (grownCap w m.length 0 e-m.length)).toList).toArray:=by
     grind
    rw[this];exact(T2 κ hs w).trans J
theorem k1p {p b:TInfo} (n:p.OK P T) (k:p.elem=some e) (l:b.OK P e) (G:o.op=.call { callee:=.builtin .append,args:=#[s,x],argTypes:=#[T,T] }) {ρs:Env} (A:hs id'=.fresh) {q:SV} {m:List b.ty.den} (h1:ev ρs s=.one .nils) (y:ev ρs x=.one q) (u:C2 hs b.ty q=some m) (d:A8 m.length b.bytes=true) (h:1<=b.size) (j:b.ty.size=b.size) :
  A9 P L w0 o ρs hs (upd hs id' (.arr e b.ty m)) (.one (.own id')):=by
 refine M7 (λc D=>by grind) λI a w g r=>?_;have f:=g s;rw[h1]at f;have t:a.eval s=.slice none 0 0:=f;have i:=g x;rw[y]at i;obtain⟨z,v,C,F,B,E,H⟩:=j72 (T:=T) (ty:=o.type) r n k l A d h j (j36 r i u);grind[q4p]
theorem k1q {ti f:TInfo} (hti:ti.OK P T) (hel:ti.elem=some e) (hte:f.OK P e) (ho:o.op=.call { callee:=.builtin .append,args:=#[s,x],argTypes:=#[T,T] }) {ρs:Env} {id:Nat} (hf:hs id'=.fresh) {sx:SV} {l m:List f.ty.den} (h1:ev ρs s=.one (.own id)) (K:hs id=.arr e f.ty l) (h2:ev ρs x=.one sx) (hl:C2 hs f.ty sx=some m) (X:A8 (l.length+m.length) f.bytes=true) (hpos:1<=f.size) (D:f.ty.size=f.size) :
  A9 P L w0 o ρs hs (upd (upd hs id .dead) id' (.arr e f.ty (l++m))) (.one (.own id')):=by
 refine M7 (λc hc=>by grind) λκ a w hev ok=>?_;have hsv:=(hev s);rw[h1]at hsv;have hxv:=hev x;rw[h2]at hxv;have F:=j36 ok hxv hl;have U:=hsv.1;rw[K]at U;have C:(hs id).live=true:=by rw[K];rfl
 have S:=ok.obj id;rw[K]at S;have p:(hs id).gone .dead:=by rw[K];simp[AObj.gone]
 have Z:id'≠id:=λh=>by grind
 rcases U with⟨hk,hnil,hv⟩ | ⟨b,cap,hk,hv⟩
 ·subst hnil;have Y:=q2b ok p;have G:=q0d (L:=L) (κ:=κ) (w:=w) p;obtain⟨sa,cap,hxe,N⟩:=F;obtain⟨q,v,I,Q,c2,c3,c4⟩:=j72 (T:=T) (ty:=o.type) (xv:=a.eval x) Y hti hel hte (by rw[A0 _ _ Z];omega) (m:=m) (by grind) hpos D
   ⟨sa,cap,hxe,by
    rcases N with N | ⟨ad,cs,d1,d2,d3,d4,d5⟩
    ·grind
    ·exact .inr ⟨ad,cs,d1,d2,d3,d4,d5.mono G.free⟩⟩
  exact⟨q,v,I,q4p ho (by grind),c2,c3,G.trans c4⟩
 ·obtain⟨-,d,hd,-,hde,-⟩:=hti.base;have ht:P.underlying T=some (.slice e):=by
   grind
  obtain⟨i,z,hi,A,hiby,hiz,hzs,-,-,hz1⟩:=hte.zero_one (L:=L);obtain⟨hb1,hb2⟩:=q7d X;obtain⟨sa,W,hxe,N⟩:=F;rcases S with⟨J,_⟩ | ⟨b',cap',k,J,n,hcsz,hcm,hll,hone,O⟩
  ·grind
  rw[hk]at J;simp at J;obtain⟨rfl,rfl⟩:=J;have hown:=ok.own id b cap C hk;obtain⟨cap,g⟩:=cap;simp at hcsz hcm hll O hv;have hLl:ListCells w (A4 L κ hs w) f.ty (k.toList.drop g) l:=λj y hy=>RepAt.congr f.ty _ _ y (λc hc=>by grind) (O j y hy);have hlsz0:l.length*f.ty.size<=cap*f.ty.size:=aJ _ hll;have hlsz:g+l.length*f.ty.size<=k.size:=by omega
  have V:∀(cs:List Value) (I:World),cs.length=m.length*f.ty.size->(∀u∈cs,u.oneCell'=true)->ListCells w (A4 L κ hs w) f.ty cs m->l.length+m.length<=cap ->
    I=w.setRow b (k.toList.take (g+l.length*f.ty.size)++cs++k.toList.drop (g+l.length*f.ty.size+cs.length)).toArray ->
    ∃q,HeapOK L w0 q (upd (upd hs id .dead) id' (.arr e f.ty (l++m))) I/\RepAV L q (upd (upd hs id .dead) id' (.arr e f.ty (l++m))) I (.one (.own id')) (.slice (some ⟨b,g,none⟩) (l.length+m.length) cap) /\
     Ext L κ hs w q (upd (upd hs id .dead) id' (.arr e f.ty (l++m))) I:=by
   intro cs I Q c3 c4 r hw';have H:I.heap.size=w.heap.size:=by simp_all
   have R:∀b',b'≠b->I.heap[b']? = w.heap[b']?:=λb' Z=>by grind[setRow_other]
   have hbel:Below w0.heap.size w0 I:=by rw[hw'];exact q0y _ ok.below hown.1
   have hx:=q4r (L:=L) (κ:=κ) (h:=hs) (c':=(cap,g)) (obj':=.arr e f.ty (l++m)) C (by grind) hk hf (.inl (.inl ⟨_,_,_,n⟩)) H R;have B:(l.length+m.length)*f.ty.size<=cap*f.ty.size:=aJ _ r;rw[bH]at B;have M:(k.toList.take (g+l.length*f.ty.size)).length=g+l.length*f.ty.size:=by grind
   refine⟨_,q6e ok C (by grind) hk hf (.inl (.inl ⟨_,_,_,n⟩)) H R hbel (q2m (A2 _ _ _) (by rw[hw'];exact setRow_heap w b _ _ e (0,0) n) ?_ hcm (by grind) (λu hu=>?_) ?_),⟨?_,rfl⟩,hx⟩
   ·grind
   ·grind
   ·have htd:((k.toList.drop g).take (l.length*f.ty.size)).length=l.length*f.ty.size:=by grind
    show ListCells I _ f.ty (List.drop g _) _;rw[v3o _ _ _ (by omega)];refine ListCells.more ?_ (ListCells.append htd (hLl.take.mono hx.free) (c4.mono hx.free));simp only[aK,htd,Q,bH];omega
   grind[A2]
  rcases N with⟨rfl,hm⟩ | ⟨ad,cs,rfl,Q,c2,c3,c4⟩
  ·subst hm;have hself:w=w.setRow b (k.toList.take (g+l.length*f.ty.size)++[]++k.toList.drop (g+l.length*f.ty.size+([]:List Value).length)).toArray:=by
    simp[bP,aq,cz,cv,dx];grind[setRow_self]
   obtain⟨q,a1,a2,a3⟩:=V [] w (by simp) (λu hu=>by grind) (λi y hy=>by grind) (by omega) hself;grind[q4p,y4v]
  ·by_cases r:l.length+m.length<=cap
   ·have B:(l.length+m.length)*f.ty.size<=cap*f.ty.size:=aJ _ r;rw[bH]at B;have hr:=y4w (P:=P) T o.type e i ht hi w b g l.length cap k n ad m.length W cs (by rw[Q,A,D]) c2 c3 r (by rw[A,<-D,Q];omega);rw[A,<-D]at hr;obtain⟨q,a1,a2,a3⟩:=V cs _ Q c3 c4 r rfl;grind[q4p]
   ·have Y:=q2b ok p;have G:=q0d (L:=L) (κ:=κ) (w:=w) p;have M:((k.toList.drop g).take (l.length*f.ty.size)).length=l.length*f.ty.size:=by simp;omega
    have hr:=run_append_grow (P:=P) w T o.type e i z ht hi hiz ⟨b,g,none⟩ l.length cap ((k.toList.drop g).take (l.length*f.ty.size)) (by rw[M,A,D]) (λj v hj=>by
     have hjl:j<l.length*f.ty.size:=by have:=(ag.1 hj).1;omega
     rw[aV hjl,aT]at hj;rw[U5];simp[World.cell?,n,ft,bO,if_false];simpa using hj) ad m.length W cs (by rw[Q,A,D]) c2 (by omega) (by omega) (growslice_fits (by omega) (by rw[hiby];exact hb2))
    have hge:=grownCap_ge w (l.length+m.length) cap e;have hcm':grownCap w (l.length+m.length) cap e<=maxLen:=grownCap_le_maxLen w _ cap e (by simp[maxLen];omega);have E:(l++m).length=l.length+m.length:=aK;obtain⟨q,a1,a2,a3⟩:=j70 (q3j Y) (id':=id') (by rw[A0 _ _ Z];exact hf) (e:=e) (t:=f.ty) (l:=l++m) (cs:=(k.toList.drop g).take (l.length*f.ty.size)++cs)
     (rest:=(Builtin.zeroCells z.cells (grownCap w (l.length+m.length) cap e-(l.length+m.length))).toList) (cap:=grownCap w (l.length+m.length) cap e)
     (by rw[aK,M,Q,E,bH]) (by rw[bj,size_zeroCells,hzs,D,E]) (by rw[E];exact hge) hcm' (λu hu=>by
      rcases aQ.1 hu with hu | hu
      ·exact hone u (bY (bq hu))
      ·exact c3 u hu) (z9i hz1 _) ((ListCells.append M (hLl.take.mono G.free) (c4.mono G.free)).mono (T2 κ _ w).free)
    have harr:(((k.toList.drop g).take (l.length*f.ty.size)).toArray++cs.toArray++Builtin.zeroCells z.cells (grownCap w (l.length+m.length) cap e-(l.length+m.length))) =
      (((k.toList.drop g).take (l.length*f.ty.size)++cs)++(Builtin.zeroCells z.cells (grownCap w (l.length+m.length) cap e-(l.length+m.length))).toList).toArray:=by
     simp
    rw[harr]at hr;rw[E]at a2;exact⟨q,_,_,q4p ho (by rw[show a.eval s=_ from hv,show a.eval x=_ from hxe];exact hr),a1,a2,(G.trans (T2 κ _ w)).trans a3⟩
theorem v4g {a:Act} {b:TypeId} (c:o.op=.call { callee:=.builtin .copy,args:=#[s,x],argTypes:=#[T,b] }) (h:(Builtin.copy_ #[T,b] o.type #[a.eval s,a.eval x]).run P w=.ok v w'):(execOp a.eval o).run P w=.ok (.value v) w':=by
 unfold execOp;grind[resolve,invoke,builtin,Sem.run_bind,Sem.run_pure,Result.andThen_ok]
theorem k1e {g:TypeId} {i:TypeInfo} (h:P.underlying T=some (.slice e)) (hi:P.info? e=some i) (w:World) (b a:Option Addr) (n c d j:Nat) (f:Nat.min n d=0) :
  (Builtin.copy_ #[T,g] ty #[.slice a d j,.slice b n c]).run P w=.ok (goInt 0) w:=by
 cases b<;>cases a<;>simp[Builtin.copy_,run_underlying h,sizeOf,typeInfo,hi,Builtin.lenOf,Builtin.firstCells,loadCells,loadCellsFrom,f,storeCells]
theorem ListCells.pick {a:List Value} (f:t.size=1) (h:ListCells w A t cs l) {i:Nat} {y:t.den} (b:l[i]? = some y) (e:a[i]? = cs[i]?) :
  RepAt w A t (λc=>if c<t.size then a[i*t.size+c]? else none) y:=by
 refine RepAt.congr t _ _ y (λc d=>?_) (h i y b);grind
theorem q5p {a:Type} (f:Nat->a) (i:Nat) (v:a) (h:f i=v):upd f i v=f:=by
 grind[A2,A0]
end Go.Abs
