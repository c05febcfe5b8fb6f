/- The engine, part 7: new objects; append. -/
import Derived.Test.YtppblbacbmebfaaGreatDoorAbsSound3
import Derived.Laws.CopyRow
namespace Go.Abs
open Go Go.RowKit
variable {P:Program} {L:Nat->Prop} {w0:World}
theorem V2 (κ:A2) (h:Heap) (w:World):Ext L κ h w κ h w.drew where
 place _ _:=rfl
 kid _ hd:=hd
 dead _ hd:=hd
 cells _ l hl:=.inl ⟨l,hl⟩
 arr _ _ _ l hl:=.inl ⟨l,rfl,.inl hl⟩
 arrD _ _ _ l f hl:=.inl ⟨l,f,rfl,hl⟩
 arrK _ _ _ _ _ l k f hl:=.inl ⟨l,rfl,.inl ⟨k,f,hl⟩⟩
 ice _ _ _ _ hl:=.inl hl
 lrec _ _ s hl:=.inl ⟨s,hl⟩
 maps _ hl:=.inl hl
 iter _ _ _ _ _ l c hl:=.inl ⟨l,c,hl⟩
 size:=Nat.le_refl _
 loops _ r hr:=⟨r,hr⟩
 defs _ hr:=hr
 still _ hb:=⟨hb,rfl⟩
theorem q55 {κ:A2} {h:Heap} {w:World} (a:HeapOK L w0 κ h w):HeapOK L w0 κ h w.drew where
 obj id:=RepObj.ext (V2 κ h w) rfl (fun _ _ _=>rfl) (fun _=>rfl) (fun _ _ _ _=>rfl) (a.obj id)
 inj:=a.inj
 own:=a.own
 below:=a.below.drew
 outer:=a.outer
 kids:=a.kids
theorem q1h {κ:A2} {h:Heap} {w:World} {id:Nat} (e:TypeId) (t:Ty) (hf:h id=.fresh):Ext L κ h w (upd κ id none) (upd h id (.arr e t [])) w where
 place j hj:=A0 _ _ (fun e=>hj.1 (e▸hf))
 kid j hd:=by rw[A0 _ _ (fun e=>by rw[e,hf]at hd;cases hd)];exact hd
 arrD j e t l f hl:=by rw[A0 _ _ (fun e=>by rw[e,hf]at hl;cases hl)];exact .inl ⟨l,f,rfl,hl⟩
 arrK j _ _ _ _ l k f hl:=by rw[A0 _ _ (fun e=>by rw[e,hf]at hl;cases hl)];exact .inl ⟨l,rfl,.inl ⟨k,f,hl⟩⟩
 dead j hd:=by rw[A0 _ _ (fun e=>by rw[e,hf]at hd;cases hd)];exact hd
 cells j l hl:=by rw[A0 _ _ (fun e=>by rw[e,hf]at hl;cases hl)];exact .inl ⟨l,hl⟩
 arr j e t l hl:=by rw[A0 _ _ (fun e=>by rw[e,hf]at hl;cases hl)];exact .inl ⟨l,rfl,.inl hl⟩
 ice j e t l hl:=by rw[A0 _ _ (fun e=>by rw[e,hf]at hl;cases hl)];exact .inl hl
 lrec j i s hl:=by rw[A0 _ _ (fun e=>by rw[e,hf]at hl;cases hl)];exact .inl ⟨s,hl⟩
 maps j hl:=by rw[A0 _ _ (fun e=>by rw[e,hf]at hl;cases hl)];exact .inl hl
 iter j _ _ _ _ l c hl:=by rw[A0 _ _ (fun e=>by rw[e,hf]at hl;cases hl)];exact .inl ⟨l,c,hl⟩
 size:=Nat.le_refl _
 loops _ r hr:=⟨r,hr⟩
 defs _ hr:=hr
 still b hb:=by
  obtain⟨h1,h3⟩:=hb
  refine⟨⟨h1,fun j c' hj hk=>?_⟩,rfl⟩
  by_cases hji:j=id
  ·subst hji;rw[A1]at hk;cases hk
  ·rw[A0 _ _ hji]at hj hk;exact h3 j c' hj hk
theorem q2k {κ:A2} {h:Heap} {w:World} (c:HeapOK L w0 κ h w) {id:Nat} (e:TypeId) (t:Ty) (m:h id=.fresh) :
  HeapOK L w0 (upd κ id none) (upd h id (.arr e t [])) w where
 obj j:=by
  by_cases g:j=id
  ·subst g;rw[A1];exact .inl ⟨A1 _ _ _,rfl⟩
  ·rw[A0 h _ g];exact RepObj.ext (q1h e t m) (A0 _ _ g) (fun _ _ _=>rfl) (fun n=>A0 _ _ (I3 c (N8 m) j n)) (fun _ _ _ _=>rfl) (c.obj j)
 inj i j b l r f k d q:=by
  by_cases a:i=id
  ·grind[A1]
  ·by_cases o:j=id
   ·grind[A1]
   ·rw[A0 _ _ a]at d f;rw[A0 _ _ o]at q k;exact c.inj i j b l r f k d q
 own i b l f d:=by
  by_cases a:i=id
  ·grind[A1]
  ·rw[A0 _ _ a]at d f;exact c.own i b l f d
 below:=c.below
 outer b p:=⟨(c.outer b p).1,fun i l f d=>by
  by_cases a:i=id
  ·grind[A1]
  ·rw[A0 _ _ a]at d f;exact(c.outer b p).2 i l f d⟩
 kids j k:=by rw[A0 _ _ (fun e=>by rw[<-e,c.kids j k]at m;grind)];exact c.kids j k
theorem q4x {κ:A2} {h:Heap} {w w':World} {id id' b:Nat} {c c':Nat×Nat} {obj':AObj} (hl:(h id).live=true) (hnk:h id≠.kid) (hk:κ id=some (b,c)) (hf:h id'=.fresh)
  (hw:q9u w w' b) (hs:w'.heap.size=w.heap.size) (hb:∀ b',b'≠b->w'.heap[b']? = w.heap[b']?) :
  Ext L κ h w (upd κ id' (some (b,c'))) (upd (upd h id .dead) id' obj') w' where
 place j hj:=A0 _ _ (fun e=>hj.1 (e▸hf))
 kid j hd:=by
  have hj:j≠id':=fun e=>by rw[e,hf]at hd;cases hd
  rw[A0 _ _ hj,A0 _ _ (fun e=>hnk (by rw[<-e];exact hd))];exact hd
 arrD j e t l f hl:=by
  have hj:j≠id':=fun e=>by rw[e,hf]at hl;cases hl
  rw[A0 _ _ hj]
  by_cases hji:j=id
  ·subst hji;rw[A1];exact .inr (.inr rfl)
  ·rw[A0 _ _ hji];exact .inl ⟨l,f,rfl,hl⟩
 arrK j e t c t1 l k f hl:=by
  have hj:j≠id':=fun e=>by rw[e,hf]at hl;cases hl
  rw[A0 _ _ hj]
  by_cases hji:j=id
  ·subst hji;rw[A1];exact .inr rfl
  ·rw[A0 _ _ hji];exact .inl ⟨l,rfl,.inl ⟨k,f,hl⟩⟩
 dead j hd:=by
  have hj:j≠id':=fun e=>by rw[e,hf]at hd;cases hd
  rw[A0 _ _ hj]
  by_cases hji:j=id
  ·subst hji;rw[A1]
  ·rw[A0 _ _ hji];exact hd
 cells j l hl:=by
  have hj:j≠id':=fun e=>by rw[e,hf]at hl;cases hl
  rw[A0 _ _ hj]
  by_cases hji:j=id
  ·subst hji;rw[A1];exact .inr rfl
  ·rw[A0 _ _ hji];exact .inl ⟨l,hl⟩
 arr j e t l hl:=by
  have hj:j≠id':=fun e=>by rw[e,hf]at hl;cases hl
  rw[A0 _ _ hj]
  by_cases hji:j=id
  ·subst hji;rw[A1];exact .inr rfl
  ·rw[A0 _ _ hji];exact .inl ⟨l,rfl,.inl hl⟩
 ice j e t l hl:=by
  have hj:j≠id':=fun e=>by rw[e,hf]at hl;cases hl
  rw[A0 _ _ hj]
  by_cases hji:j=id
  ·subst hji;rw[A1];exact .inr rfl
  ·rw[A0 _ _ hji];exact .inl hl
 lrec j i s hl:=by
  have hj:j≠id':=fun e=>by rw[e,hf]at hl;cases hl
  rw[A0 _ _ hj]
  by_cases hji:j=id
  ·subst hji;rw[A1];exact .inr rfl
  ·rw[A0 _ _ hji];exact .inl ⟨s,hl⟩
 maps j hl:=by
  have hj:j≠id':=fun e=>by rw[e,hf]at hl;cases hl
  rw[A0 _ _ hj]
  by_cases hji:j=id
  ·subst hji;rw[A1];exact .inr rfl
  ·rw[A0 _ _ hji];exact .inl hl
 iter j _ _ _ _ l c hl:=by
  have hj:j≠id':=fun e=>by rw[e,hf]at hl;cases hl
  rw[A0 _ _ hj]
  by_cases hji:j=id
  ·subst hji;rw[A1];exact .inr rfl
  ·rw[A0 _ _ hji];exact .inl ⟨l,c,hl⟩
 size:=by omega
 loops b' r hr:=by
  by_cases e:b'=b
  ·subst e
   rcases hw with(⟨c,t,f,h1⟩ | ⟨es,cl,h1⟩ | ⟨m,s,n,c,h1⟩) | ⟨r1,r2,h1,h2⟩
   ·rw[hr]at h1;cases h1
   ·rw[hr]at h1;cases h1
   ·rw[hr]at h1;cases h1
   ·exact⟨r2,h2⟩
  ·exact⟨r,(hb b' e).trans hr⟩
 defs b' hr:=by
  by_cases e:b'=b
  ·subst e
   rcases hw with(⟨c,t,f,h1⟩ | ⟨es,cl,h1⟩ | ⟨m,s,n,c,h1⟩) | ⟨r1,r2,h1,h2⟩<;>rw[hr]at h1<;>cases h1
  ·exact(hb b' e).trans hr
 still b' hb':=by
  obtain⟨h1,h3⟩:=hb'
  have hne:b'≠b:=fun e=>h3 id c hl (by rw[e];exact hk)
  refine⟨⟨by omega,fun j c2 hj hk2=>?_⟩,hb b' hne⟩
  by_cases hji:j=id'
  ·subst hji;rw[A1]at hk2;simp at hk2;exact hne hk2.1.symm
  ·rw[A0 _ _ hji]at hj hk2
   by_cases hji2:j=id
   ·subst hji2;rw[A1]at hj;cases hj
   ·rw[A0 _ _ hji2]at hj;exact h3 j c2 hj hk2
theorem q7e {κ:A2} {h:Heap} {w w':World} (g:HeapOK L w0 κ h w) {id id' b:Nat} {c c':Nat×Nat} {obj':AObj} (s:(h id).live=true) (v:h id≠.kid) (B:κ id=some (b,c)) (I:h id'=.fresh)
  (M:q9u w w' b) (hs:w'.heap.size=w.heap.size) (H:∀ d,d≠b->w'.heap[d]? = w.heap[d]?) (C:Below w0.heap.size w0 w')
  (V:RepObj L (upd κ id' (some (b,c'))) (upd (upd h id .dead) id' obj') w' id' obj') :
  HeapOK L w0 (upd κ id' (some (b,c'))) (upd (upd h id .dead) id' obj') w' where
 obj j:=by
  by_cases E:j=id'
  ·grind[A1]
  ·rw[A0 _ _ E]
   by_cases hji2:j=id
   ·subst hji2;rw[A1];trivial
   ·rw[A0 _ _ hji2]
    by_cases F:h j=.dead\/h j=.fresh
    ·rcases F with F | F<;>rw[F]<;>trivial
    ·refine RepObj.ext (q4x s v B I M hs H) (A0 _ _ E) (fun d u o=>H d fun e=>?_) (fun n=>A0 _ _ (I3 g (N8 I) j n)) (fun n d u o=>H d fun e=>by
      subst e
      exact I3 g v j n (g.inj _ _ d u c (Q5 g j n) s o B)) (g.obj j)
     subst e
     by_cases x:(h j).live=true
     ·exact hji2 (g.inj j id d u c x s o B)
     ·cases f:h j with
      | ice e t l =>
       have:=g.obj j;rw[f]at this
       exact(this.2 d u o).2.2 id c s B
      | mice U W Q R l =>
       have:=g.obj j;rw[f]at this
       obtain⟨S,X,Y,O,m,y,-⟩:=this
       rw[o]at m;cases m
       exact y.2.2 id c s B
      | dead=>grind
      | fresh=>grind
      | _=>rw[f]at x;exact x rfl
 inj i j d A u k z m y:=by
  have r:∀ i,i≠id'->(upd (upd h id .dead) id' obj' i).live=true->i≠id/\(h i).live=true:=fun i J k=>by
   rw[A0 _ _ J]at k
   by_cases e:i=id
   ·subst e;rw[A1]at k;cases k
   grind[A0]
  by_cases a:i=id'<;>by_cases f:j=id'
  ·omega
  ·subst a;obtain⟨G,D⟩:=r j f z
   rw[A1]at m;rw[A0 _ _ f]at y;exact absurd (g.inj j id d u c D s y (by grind)) G
  ·subst f;obtain⟨G,D⟩:=r i a k
   rw[A1]at y;rw[A0 _ _ a]at m;exact absurd (g.inj i id d A c D s m (by grind)) G
  ·obtain⟨G,D⟩:=r i a k
   obtain⟨T,N⟩:=r j f z
   rw[A0 _ _ a]at m;rw[A0 _ _ f]at y
   exact g.inj i j d A u D N m y
 own i d A k m:=by
  rw[hs]
  by_cases a:i=id'
  ·subst a;rw[A1]at m;simp at m;rw[<-m.1];exact g.own id b c s B
  ·rw[A0 _ _ a]at m k
   by_cases e:i=id
   ·subst e;rw[A1]at k;cases k
   ·rw[A0 _ _ e]at k;exact g.own i d A k m
 below:=C
 outer d K:=⟨by rw[hs];exact(g.outer d K).1,fun i A k m=>by
  by_cases a:i=id'
  ·subst a;rw[A1]at m;exact(g.outer d K).2 id c s (by grind)
  ·rw[A0 _ _ a]at m k
   by_cases e:i=id
   ·subst e;rw[A1]at k;cases k
   ·rw[A0 _ _ e]at k;exact(g.outer d K).2 i A k m⟩
 kids j z:=by
  rw[A0 _ _ (fun e=>by rw[<-e,g.kids j z]at I;grind),A0 _ _ (fun e=>v (by rw[<-e];exact g.kids j z))];exact g.kids j z
def ListCells (w:World) (A:Nat->Prop) (t:Ty) (cs:List Value) (l:List t.den):Prop :=
 ∀ i y,l[i]? = some y->RepAt w A t (fun c=>if c<t.size then cs[i*t.size+c]? else none) y
theorem ListCells.append {w:World} {A:Nat->Prop} {t:Ty} {cs d:List Value} {l m:List t.den} (h:cs.length=l.length*t.size) (h1:ListCells w A t cs l) (f:ListCells w A t d m) :
  ListCells w A t (cs++d) (l++m):=by
 intro i y b
 by_cases a:i<l.length
 ·rw[List.getElem?_append_left a]at b
  refine RepAt.congr t _ _ y (fun c g=>?_) (h1 i y b)
  have e:(i+1)*t.size<=l.length*t.size:=Nat.mul_le_mul_right _ a
  grind
 ·rw[List.getElem?_append_right (by omega)]at b
  refine RepAt.congr t _ _ y (fun c g=>?_) (f _ y b)
  have e:l.length*t.size<=i*t.size:=Nat.mul_le_mul_right _ (by omega)
  grind[Nat.sub_mul]
theorem ListCells.more {w:World} {A:Nat->Prop} {t:Ty} {cs d:List Value} {l:List t.den} (e:l.length*t.size<=cs.length) (h1:ListCells w A t cs l):ListCells w A t (cs++d) l:=by
 intro i y b
 have a:=(List.getElem?_eq_some_iff.1 b).1
 refine RepAt.congr t _ _ y (fun c g=>?_) (h1 i y b)
 have f:(i+1)*t.size<=l.length*t.size:=Nat.mul_le_mul_right _ a
 grind
theorem ListCells.take {w:World} {A:Nat->Prop} {t:Ty} {cs:List Value} {l:List t.den} (h1:ListCells w A t cs l):ListCells w A t (cs.take (l.length*t.size)) l:=by
 intro i y b
 have a:=(List.getElem?_eq_some_iff.1 b).1
 refine RepAt.congr t _ _ y (fun c d=>?_) (h1 i y b)
 have e:(i+1)*t.size<=l.length*t.size:=Nat.mul_le_mul_right _ a
 grind
theorem ListCells.mono {w w':World} {A A':Nat->Prop} {t:Ty} {cs:List Value} {l:List t.den} (a:∀ b,A b->A' b/\w'.heap[b]? = w.heap[b]?) (h1:ListCells w A t cs l):ListCells w' A' t cs l :=
 fun i y c=>RepAt.mono a t _ y (h1 i y c)
theorem z07 {κ:A2} {h:Heap} {w:World} {e:Ty} {l:List e.den} {b o:Nat}
  (g:∀ i y,l[i]? = some y->RepAt w (A3 L κ h w) e (fun c=>if c<e.size then w.cell? ⟨b,o+(i*e.size+c),none⟩else none) y) :
  ∃ a:List Value,a.length=l.length*e.size/\(∀ (j:Nat) (u:Value),a[j]? = some u->w.cell? ((⟨b,o,none⟩:Addr).add j)=some u)/\(∀ u∈a,u.oneCell'=true)/\ListCells w (A3 L κ h w) e a l:=by
 have k:∀ q,q<l.length*e.size->∃ v,w.cell? ⟨b,o+q,none⟩=some v/\v.oneCell'=true:=by
  intro q C
  have d:0<e.size:=Nat.pos_of_ne_zero fun s=>by grind
  have n:q / e.size<l.length:=Nat.div_lt_of_lt_mul (by grind)
  have x:q % e.size<e.size:=Nat.mod_lt _ d
  have r:=g (q / e.size) _ (List.getElem?_eq_getElem n)
  have m:=R2 e l[q / e.size]
  obtain⟨v,z,-,D⟩:=T2 e _ _ r (q % e.size) _ (List.getElem?_eq_getElem (by omega))
  grind[Nat.div_add_mod']
 let a:=(List.range (l.length*e.size)).map fun q=>(w.cell? ⟨b,o+q,none⟩).getD undef
 refine⟨a,by grind,fun j u t=>?_,fun u B=>?_,fun i y p=>?_⟩
 ·grind[Q0]
 ·grind
 ·have f:=(List.getElem?_eq_some_iff.1 p).1
  have A:(i+1)*e.size<=l.length*e.size:=Nat.mul_le_mul_right _ f
  grind
theorem z1x {κ:A2} {h:Heap} {w:World} (Z:HeapOK L w0 κ h w) {e:Ty} {s:SV} {v:Value} (U:RepSV L κ h w s v) {l:List e.den} (A:B7 h e s=some l) :
  ∃ g a,v=.slice g l.length a/\((g=none/\l=[])\/∃ (x:Addr) (f:List Value),g=some x/\f.length=l.length*e.size /\
   (∀ (j:Nat) (u:Value),f[j]? = some u->w.cell? (x.add j)=some u)/\(∀ u∈f,u.oneCell'=true)/\ListCells w (A3 L κ h w) e f l):=by
 have D:∀ (g:Option Addr) (a:Nat),v=.slice g 0 a->l=[]->∃ g a,v=.slice g l.length a/\((g=none/\l=[])\/∃ (x:Addr) (f:List Value),g=some x/\f.length=l.length*e.size /\
   (∀ (j:Nat) (u:Value),f[j]? = some u->w.cell? (x.add j)=some u)/\(∀ u∈f,u.oneCell'=true)/\ListCells w (A3 L κ h w) e f l):=by
  intro g a z A
  subst A
  refine⟨g,a,z,?_⟩
  cases g with
  | none=>grind
  | some x=>exact .inr ⟨x,[],rfl,by simp,fun j u hj=>by grind,fun u hu=>by grind,fun i y r=>by grind⟩
 cases s with
 | nils =>
  simp[B7]at A
  subst A
  exact D none 0 (show v=_ from U) rfl
 | sc t y =>
  simp[B7]at A
  obtain⟨G,r⟩:=H2 A
  subst G;subst r
  obtain⟨_,_,g,d,a,V,q,I,S⟩:=U
  simp[F7]at V
  subst q
  by_cases F:y=[]
  ·grind
  ·obtain⟨b,o,N,_,E⟩:=S F
   subst N
   obtain⟨f,R,M,Q,O⟩:=z07 E
   grind
 | ne t y =>
  simp[B7]at A
  obtain⟨G,r⟩:=H2 A
  cases G
  change y=l at r
  subst r
  obtain⟨_,⟨g,d,a,V,q,I,S⟩,_⟩:=U
  simp[F7]at V
  subst q
  by_cases F:y=[]
  ·grind
  ·obtain⟨b,o,N,_,E⟩:=S F
   subst N
   obtain⟨f,R,M,Q,O⟩:=z07 E
   grind
 | nx=>grind[B7]
 | own id =>
  simp[B7]at A
  have W:∀ (B:TypeId) (t:Ty) (k:List t.den),(h id=.arr B t k\/h id=.ice B t k)->G2 (.list t) (.list e) k=some l->∃ g a,v=.slice g l.length a/\((g=none/\l=[])\/∃ (x:Addr) (f:List Value),g=some x/\f.length=l.length*e.size /\
   (∀ (j:Nat) (u:Value),f[j]? = some u->w.cell? (x.add j)=some u)/\(∀ u∈f,u.oneCell'=true)/\ListCells w (A3 L κ h w) e f l):=by
   intro B t k C K
   obtain⟨G,r⟩:=H2 K
   cases G
   change k=l at r
   subst r
   have p:RepArr L κ h w id B e k:=by
    have:=Z.obj id
    rcases C with C | C<;>rw[C]at this
    ·exact this
    ·exact this.1
   have z:(κ id=none/\k=[]/\v=.slice none 0 0)\/∃ b a,κ id=some (b,a)/\v=.slice (some ⟨b,a.2,none⟩) k.length a.1:=by
    grind[RepSV]
   rcases z with⟨H,J,z⟩ | ⟨b,a,H,z⟩
   ·grind
   ·obtain⟨f,R,M,Q,O⟩:=z07 (b:=b) (o:=a.2) (fun i y r=>by
     refine RepAt.congr e _ _ y (fun c K=>?_) (z5m p H r)
     grind)
    grind
  grind
 | sub id n d =>
  simp[B7]at A
  have W:∀ (B:TypeId) (t:Ty) (k:List t.den),(h id=.arr B t k\/h id=.ice B t k)->G2 (.list t) (.list e) ((k.drop n).take d)=some l->∃ g a,v=.slice g l.length a/\((g=none/\l=[])\/∃ (x:Addr) (f:List Value),g=some x/\f.length=l.length*e.size /\
   (∀ (j:Nat) (u:Value),f[j]? = some u->w.cell? (x.add j)=some u)/\(∀ u∈f,u.oneCell'=true)/\ListCells w (A3 L κ h w) e f l):=by
   intro B t k C K
   obtain⟨G,r⟩:=H2 K
   cases G
   change (k.drop n).take d=l at r
   subst r
   have p:RepArr L κ h w id B e k:=by
    have:=Z.obj id
    rcases C with C | C<;>rw[C]at this
    ·exact this
    ·exact this.1
   have z:n+d<=k.length/\((κ id=none/\v=.slice none 0 0)\/∃ b a o,κ id=some (b,a)/\v=.slice (some ⟨b,o,none⟩) d (a.1-n)/\(d≠0->o=a.2+n*e.size)):=by
    grind[RepSV]
   obtain⟨Y,z⟩:=z
   have q:((k.drop n).take d).length=d:=by grind
   rcases z with⟨H,z⟩ | ⟨b,a,o,H,z,ho'⟩
   ·rcases p with⟨_,J⟩ | ⟨b',X,cur,hk',_⟩
    all_goals grind
   ·by_cases h0:d=0
    ·grind
    ·obtain⟨f,R,M,Q,O⟩:=z07 (l:=(k.drop n).take d) (b:=b) (o:=o) (fun i y r=>by
      have T:k[n+i]? = some y:=by
       grind
      refine RepAt.congr e _ _ y (fun c K=>?_) (z5m p H T)
      grind)
     grind
  grind
 | unk=>grind[B7]
 | ptr _ _=>grind[B7]
 | eptr _ _ _ _=>grind[B7]
 | ro _ _ _=>grind[B7]
 | fn _ _=>grind[B7]
 | yld _=>grind[B7]
 | gl _=>grind[B7]
 | gp _ _=>grind[B7]
 | cstr _=>grind[B7]
 | bfn _ _ _=>grind[B7]
 | bfp _ _ _=>grind[B7]
 | ifc _ _ _=>grind[B7]
 | nif=>grind[B7]
 | nilf=>grind[B7]
 | pan _=>grind[B7]
 | mp _=>grind[B7]
 | mpn=>grind[B7]
 | stmp _=>grind[B7]
 | csl _ _ _ _=>grind[B7]
 | nilp=>grind[B7]
 | udf=>grind[B7]
theorem q0r {κ:A2} {h:Heap} {w:World} {id b:Nat} {cap:Nat×Nat} {e:TypeId} {t:Ty} {l:List t.den} {cs:List Value} (f:κ id=some (b,cap)) (hh:w.heap[b]? = some (.cells cs.toArray e (0,0)))
  (hs:cap.2+cap.1*t.size<=cs.length) (a:cap.1<=maxLen) (j:l.length<=cap.1) (h1:∀ u∈cs,u.oneCell'=true) (d:ListCells w (A3 L κ h w) t (cs.drop cap.2) l):RepArr L κ h w id e t l :=
 .inr ⟨b,cap,cs.toArray,f,hh,by omega,a,j,by omega,fun i y g=>RepAt.congr t _ _ y (fun c d=>by grind) (d i y g)⟩
theorem j7s {κ:A2} {h:Heap} {w:World} {id b:Nat} {cap:Nat} {e:TypeId} {t:Ty} {l:List t.den} {cs:List Value} (c:κ id=some (b,(cap,0))) (hh:w.heap[b]? = some (.cells cs.toArray e (0,0)))
  (hs:cs.length=cap*t.size) (a:cap<=maxLen) (d:l.length<=cap) (h1:∀ u∈cs,u.oneCell'=true) (f:ListCells w (A3 L κ h w) t cs l):RepArr L κ h w id e t l :=
 q0r c hh (by grind) a d h1 (by grind)
theorem j85 (t ty e:TypeId) (i:TypeInfo) (v:P.underlying t=some (.slice e)) (hi:P.info? e=some i) (w:World)
  (g f d h:Nat) (k:Array Value) (r:w.heap[g]? = some (.cells k e (0,0)))
  (a:Addr) (m c:Nat) (b:List Value) (q:b.length=m*i.size) (l:∀ j u,b[j]? = some u->w.cell? (a.add j)=some u) (h1:∀ u∈b,u.oneCell'=true)
  (n:d+m<=h) (p:f+d*i.size+b.length<=k.size) :
  (Builtin.append_ #[t,t] ty #[.slice (some ⟨g,f,none⟩) d h,.slice (some a) m c]).run P w =
   .ok (.slice (some ⟨g,f,none⟩) (d+m) h) (w.setRow g (k.toList.take (f+d*i.size)++b++k.toList.drop (f+d*i.size+b.length)).toArray):=by
 have s:=run_firstCells_some (P:=P) w i.size m a m c b q l
 have o:=run_storeCells_at P g (f+d*i.size) e b 0 k w r (by omega) h1
 simp[Builtin.append_,run_underlying v,sizeOf,typeInfo,hi,Builtin.lenOf,n,s,Addr.add_lit,o]
theorem y4u {a:Type} (A B C:List a) {o n:Nat} (h:o+n<=A.length):(A.take (o+n)++B++C).drop o=(A.drop o).take n++B++C:=by
 grind
theorem q1f {a:Act} {o:Oper} {s x:Operand} {T b:TypeId} (c:o.op=.call { callee:=.builtin .append,args:=#[s,x],argTypes:=#[T,b] }) {w w':World} {v:Value}
  (h:(Builtin.append_ #[T,b] o.type #[a.eval s,a.eval x]).run P w=.ok v w'):(execOp a.eval o).run P w=.ok (.value v) w':=by
 unfold execOp
 grind[resolve,invoke,builtin,Sem.run_bind,Sem.run_pure,Result.andThen_ok]
theorem q9n {z:Value} (d:∀ c∈z.cells.toList,c.oneCell'=true) (n:Nat):∀ c∈(Builtin.zeroCells z.cells n).toList,c.oneCell'=true:=by
 intro c a
 simp[Builtin.zeroCells,Array.toList_map,List.mem_map]at a
 obtain⟨i,_,rfl⟩:=a
 by_cases b:i % z.cells.size<z.cells.size
 ·grind
 ·rw[getElem!_neg z.cells _ b];rfl
theorem TInfo.OK.zero_one {b:TInfo} {T:TypeId} (e:b.OK P T):∃ i z,P.info? T=some i/\i.size=b.size/\i.bytes=b.bytes/\i.zero=some z/\z.cells.size=b.size/\b.zeros.length=b.size /\
  (∀ (d:A2) (h:Heap) (w:World),RepCells L d h w b.zeros z.cells.toList)/\(∀ c∈z.cells.toList,c.oneCell'=true):=by
 obtain⟨⟨i,z,n,m,f,o,p,l,k⟩,-⟩:=e.base
 have a:∀ (d:A2) (h:Heap) (w:World),RepCells L d h w b.zeros z.cells.toList:=fun d h w =>
  ⟨by grind,fun j s c g q=>(k j s c g (by grind)).rep⟩
 exact⟨i,z,n,m,f,o,p,l,a,q34 (a (fun _=>none) (fun _=>.fresh) default)⟩
theorem z5h {κ:A2} {h:Heap} {w:World} (j:HeapOK L w0 κ h w) {id':Nat} (f:h id'=.fresh) {e:TypeId} {t:Ty} {l:List t.den} {cs rest:List Value} {cap:Nat}
  (hs:cs.length=l.length*t.size) (i:rest.length=(cap-l.length)*t.size) (b:l.length<=cap) (c:cap<=maxLen) (h1:∀ u∈cs,u.oneCell'=true) (m:∀ u∈rest,u.oneCell'=true)
  (g:ListCells w (A3 L κ h w) t cs l) :
  ∃ a,HeapOK L w0 a (upd h id' (.arr e t l)) (w.alloc (.cells (cs++rest).toArray e)) /\
   RepAV L a (upd h id' (.arr e t l)) (w.alloc (.cells (cs++rest).toArray e)) (.one (.own id')) (.slice (some ⟨w.heap.size,0,none⟩) l.length cap) /\
   Ext L κ h w a (upd h id' (.arr e t l)) (w.alloc (.cells (cs++rest).toArray e)):=by
 have d:=R3 (L:=L) (κ:=κ) (h:=h) (w:=w) (.cells (cs++rest).toArray e) (AObj.arr e t l) (cap,0) f
 refine⟨_,V4 j _ _ (cap,0) f (q0r (A1 _ _ _) (heap_alloc_new w _) ?_ c b (fun u k=>?_) (by exact ListCells.more (by omega) (g.mono d.free))),⟨?_,rfl⟩,d⟩
 ·rw[List.length_append,hs,i,<-Nat.add_mul,Nat.zero_add];grind
 all_goals grind[A1]
theorem q5y {n b:Nat} (h:C2 n b=true):n<=140737488355328/\n*b<=140737488355328:=by
 unfold C2 at h
 simp_all
theorem j84 {T ty e:TypeId} {i:TypeInfo} (f:P.underlying T=some (.slice e)) (hi:P.info? e=some i) (w:World) (b:Option Addr) (c n cap:Nat) (a:Option Addr) (d:n<=cap) :
  (Builtin.append_ #[T,T] ty #[.slice a n cap,.slice b 0 c]).run P w=.ok (.slice a n cap) w:=by
 cases b<;>cases a<;>simp[Builtin.append_,run_underlying f,sizeOf,typeInfo,hi,Builtin.lenOf,Builtin.firstCells,loadCells,loadCellsFrom,d,storeCells]
theorem j2q {κ:A2} {hs:Heap} {w:World} (ok:HeapOK L w0 κ hs w) {T e ty:TypeId} {A a:TInfo} (s:A.OK P T) (S:A.elem=some e) (n:a.OK P e) {id':Nat} (x:hs id'=.fresh)
  {m:List a.ty.den} (c:C2 m.length a.bytes=true) (_hpos:1<=a.size) (Q:a.ty.size=a.size) {xv:Value}
  (r:∃ f cap,xv=.slice f m.length cap/\((f=none/\m=[])\/∃ (k:Addr) (cs:List Value),f=some k/\cs.length=m.length*a.ty.size /\
   (∀ (j:Nat) (u:Value),cs[j]? = some u->w.cell? (k.add j)=some u)/\(∀ u∈cs,u.oneCell'=true)/\ListCells w (A3 L κ hs w) a.ty cs m)) :
  ∃ b v h,(Builtin.append_ #[T,T] ty #[.slice none 0 0,xv]).run P w=.ok v h/\HeapOK L w0 b (upd hs id' (.arr e a.ty m)) h /\
   RepAV L b (upd hs id' (.arr e a.ty m)) h (.one (.own id')) v/\Ext L κ hs w b (upd hs id' (.arr e a.ty m)) h:=by
 obtain⟨-,d,X,-,W,-⟩:=s.base
 have G:P.underlying T=some (.slice e):=by
  grind
 obtain⟨i,z,H,C,F,q,U,-,-,o⟩:=n.zero_one (L:=L)
 obtain⟨f,cap,rfl,r⟩:=r
 have M:=q5y c
 by_cases B:m=[]
 ·subst B
  refine⟨_,_,_,j84 G H w f cap 0 0 none (Nat.le_refl _),q2k ok e a.ty x,⟨?_,rfl⟩,q1h e a.ty x⟩
  grind[A1]
 ·rcases r with⟨_,D⟩ | ⟨k,cs,rfl,N,R,V,I⟩
  ·grind
  ·have g:0<m.length:=List.length_pos_iff.2 B
   have K:=run_append_nil (P:=P) w T ty e i z G H q k m.length cap cs (by grind) R g (by omega) (by grind)
   have p:=grownCap_ge w m.length 0 e
   have y:grownCap w m.length 0 e<=maxLen:=grownCap_le_maxLen w m.length 0 e (by grind[maxLen])
   obtain⟨b,Y,O,J⟩:=z5h (q55 ok) x (e:=e) (t:=a.ty) (l:=m) (cs:=cs) (rest:=(Builtin.zeroCells z.cells (grownCap w m.length 0 e-m.length)).toList) (cap:=grownCap w m.length 0 e)
    N (by grind[size_zeroCells]) p y V (q9n o _) (I.mono (V2 κ hs w).free)
   refine⟨b,_,_,K,?_,?_,?_⟩
   ·have:(cs.toArray++Builtin.zeroCells z.cells (grownCap w m.length 0 e-m.length))=(cs++(Builtin.zeroCells z.cells (grownCap w m.length 0 e-m.length)).toList).toArray:=by
     grind
    grind
   ·exact O
   ·have:(cs.toArray++Builtin.zeroCells z.cells (grownCap w m.length 0 e-m.length))=(cs++(Builtin.zeroCells z.cells (grownCap w m.length 0 e-m.length)).toList).toArray:=by
     grind
    rw[this];exact(V2 κ hs w).trans J
theorem v3w {o:Oper} {T e:TypeId} {s x:Operand} {p b:TInfo} (n:p.OK P T) (k:p.elem=some e) (l:b.OK P e)
  (G:o.op=.call { callee:=.builtin .append,args:=#[s,x],argTypes:=#[T,T] }) {ρs:Env} {hs:Heap} {id':Nat} (A:hs id'=.fresh) {q:SV} {m:List b.ty.den}
  (h1:ev ρs s=.one .nils) (y:ev ρs x=.one q) (u:B7 hs b.ty q=some m) (d:C2 m.length b.bytes=true) (h:1<=b.size) (j:b.ty.size=b.size) :
  A6 P L w0 o ρs hs (upd hs id' (.arr e b.ty m)) (.one (.own id')):=by
 refine I4 (fun c D=>by grind) fun I a w g r=>?_
 have f:=g s
 rw[h1]at f
 have t:a.eval s=.slice none 0 0:=f
 have i:=g x
 rw[y]at i
 obtain⟨z,v,C,F,B,E,H⟩:=j2q (T:=T) (ty:=o.type) r n k l A d h j (z1x r i u)
 grind[q1f]
theorem v3x {o:Oper} {T e:TypeId} {s x:Operand} {ti f:TInfo} (hti:ti.OK P T) (hel:ti.elem=some e) (hte:f.OK P e)
  (ho:o.op=.call { callee:=.builtin .append,args:=#[s,x],argTypes:=#[T,T] }) {ρs:Env} {hs:Heap} {id id':Nat} (hf:hs id'=.fresh) {sx:SV} {l m:List f.ty.den}
  (h1:ev ρs s=.one (.own id)) (K:hs id=.arr e f.ty l) (h2:ev ρs x=.one sx) (hl:B7 hs f.ty sx=some m) (X:C2 (l.length+m.length) f.bytes=true) (hpos:1<=f.size) (D:f.ty.size=f.size) :
  A6 P L w0 o ρs hs (upd (upd hs id .dead) id' (.arr e f.ty (l++m))) (.one (.own id')):=by
 refine I4 (fun c hc=>by grind) fun κ a w hev ok=>?_
 have hsv:=(hev s)
 rw[h1]at hsv
 have hxv:=hev x
 rw[h2]at hxv
 have F:=z1x ok hxv hl
 have U:=hsv.1
 rw[K]at U
 have C:(hs id).live=true:=by rw[K];rfl
 have S:=ok.obj id
 rw[K]at S
 have p:(hs id).gone .dead:=by rw[K];simp[AObj.gone]
 have Z:id'≠id:=fun h=>by grind
 rcases U with⟨hk,hnil,hv⟩ | ⟨b,cap,hk,hv⟩
 ·subst hnil
  have Y:=q0j ok p
  have G:=V3 (L:=L) (κ:=κ) (w:=w) p
  obtain⟨sa,cap,hxe,N⟩:=F
  obtain⟨q,v,I,Q,c2,c3,c4⟩:=j2q (T:=T) (ty:=o.type) (xv:=a.eval x) Y hti hel hte (by rw[A0 _ _ Z];omega) (m:=m) (by grind) hpos D
   ⟨sa,cap,hxe,by
    rcases N with N | ⟨ad,cs,d1,d2,d3,d4,d5⟩
    ·grind
    ·exact .inr ⟨ad,cs,d1,d2,d3,d4,d5.mono G.free⟩⟩
  exact⟨q,v,I,q1f ho (by grind),c2,c3,G.trans c4⟩
 ·obtain⟨-,d,hd,-,hde,-⟩:=hti.base
  have ht:P.underlying T=some (.slice e):=by
   grind
  obtain⟨i,z,hi,A,hiby,hiz,hzs,-,-,hz1⟩:=hte.zero_one (L:=L)
  obtain⟨hb1,hb2⟩:=q5y X
  obtain⟨sa,W,hxe,N⟩:=F
  rcases S with⟨J,_⟩ | ⟨b',cap',k,J,n,hcsz,hcm,hll,hone,O⟩
  ·grind
  rw[hk]at J;simp at J;obtain⟨rfl,rfl⟩:=J
  have hown:=ok.own id b cap C hk
  obtain⟨cap,g⟩:=cap
  simp at hcsz hcm hll O hv
  have hLl:ListCells w (A3 L κ hs w) f.ty (k.toList.drop g) l:=fun j y hy=>RepAt.congr f.ty _ _ y (fun c hc=>by grind) (O j y hy)
  have hlsz0:l.length*f.ty.size<=cap*f.ty.size:=Nat.mul_le_mul_right _ hll
  have hlsz:g+l.length*f.ty.size<=k.size:=by omega
  have V:∀ (cs:List Value) (I:World),cs.length=m.length*f.ty.size->(∀ u∈cs,u.oneCell'=true)->ListCells w (A3 L κ hs w) f.ty cs m->l.length+m.length<=cap ->
    I=w.setRow b (k.toList.take (g+l.length*f.ty.size)++cs++k.toList.drop (g+l.length*f.ty.size+cs.length)).toArray ->
    ∃ q,HeapOK L w0 q (upd (upd hs id .dead) id' (.arr e f.ty (l++m))) I/\RepAV L q (upd (upd hs id .dead) id' (.arr e f.ty (l++m))) I (.one (.own id')) (.slice (some ⟨b,g,none⟩) (l.length+m.length) cap) /\
     Ext L κ hs w q (upd (upd hs id .dead) id' (.arr e f.ty (l++m))) I:=by
   intro cs I Q c3 c4 r hw'
   have H:I.heap.size=w.heap.size:=by simp_all
   have R:∀ b',b'≠b->I.heap[b']? = w.heap[b']?:=fun b' Z=>by grind[setRow_other]
   have hbel:Below w0.heap.size w0 I:=by rw[hw'];exact X0 _ ok.below hown.1
   have hx:=q4x (L:=L) (κ:=κ) (h:=hs) (c':=(cap,g)) (obj':=.arr e f.ty (l++m)) C (by grind) hk hf (.inl (.inl ⟨_,_,_,n⟩)) H R
   have B:(l.length+m.length)*f.ty.size<=cap*f.ty.size:=Nat.mul_le_mul_right _ r
   rw[Nat.add_mul]at B
   have M:(k.toList.take (g+l.length*f.ty.size)).length=g+l.length*f.ty.size:=by grind
   refine⟨_,q7e ok C (by grind) hk hf (.inl (.inl ⟨_,_,_,n⟩)) H R hbel (q0r (A1 _ _ _) (by rw[hw'];exact setRow_heap w b _ _ e (0,0) n) ?_ hcm (by grind) (fun u hu=>?_) ?_),⟨?_,rfl⟩,hx⟩
   ·grind
   ·grind
   ·have htd:((k.toList.drop g).take (l.length*f.ty.size)).length=l.length*f.ty.size:=by grind
    show ListCells I _ f.ty (List.drop g _) _
    rw[y4u _ _ _ (by omega)]
    refine ListCells.more ?_ (ListCells.append htd (hLl.take.mono hx.free) (c4.mono hx.free))
    simp only[List.length_append,htd,Q,Nat.add_mul];omega
   grind[A1]
  rcases N with⟨rfl,hm⟩ | ⟨ad,cs,rfl,Q,c2,c3,c4⟩
  ·subst hm
   have hself:w=w.setRow b (k.toList.take (g+l.length*f.ty.size)++[]++k.toList.drop (g+l.length*f.ty.size+([]:List Value).length)).toArray:=by
    simp[List.append_nil,List.length_nil,Nat.add_zero,List.take_append_drop,Array.toArray_toList]
    grind[setRow_self]
   obtain⟨q,a1,a2,a3⟩:=V [] w (by simp) (fun u hu=>by grind) (fun i y hy=>by grind) (by omega) hself
   grind[q1f,j84]
  ·by_cases r:l.length+m.length<=cap
   ·have B:(l.length+m.length)*f.ty.size<=cap*f.ty.size:=Nat.mul_le_mul_right _ r
    rw[Nat.add_mul]at B
    have hr:=j85 (P:=P) T o.type e i ht hi w b g l.length cap k n ad m.length W cs (by rw[Q,A,D]) c2 c3 r (by rw[A,<-D,Q];omega)
    rw[A,<-D]at hr
    obtain⟨q,a1,a2,a3⟩:=V cs _ Q c3 c4 r rfl
    grind[q1f]
   ·have Y:=q0j ok p
    have G:=V3 (L:=L) (κ:=κ) (w:=w) p
    have M:((k.toList.drop g).take (l.length*f.ty.size)).length=l.length*f.ty.size:=by simp;omega
    have hr:=run_append_grow (P:=P) w T o.type e i z ht hi hiz ⟨b,g,none⟩ l.length cap ((k.toList.drop g).take (l.length*f.ty.size)) (by rw[M,A,D]) (fun j v hj=>by
     have hjl:j<l.length*f.ty.size:=by have:=(List.getElem?_eq_some_iff.1 hj).1;omega
     rw[List.getElem?_take_of_lt hjl,List.getElem?_drop]at hj
     rw[Q0]
     simp[World.cell?,n,Option.isSome_none,Bool.false_eq_true,if_false]
     simpa using hj) ad m.length W cs (by rw[Q,A,D]) c2 (by omega) (by omega) (growslice_fits (by omega) (by rw[hiby];exact hb2))
    have hge:=grownCap_ge w (l.length+m.length) cap e
    have hcm':grownCap w (l.length+m.length) cap e<=maxLen:=grownCap_le_maxLen w _ cap e (by simp[maxLen];omega)
    have E:(l++m).length=l.length+m.length:=List.length_append
    obtain⟨q,a1,a2,a3⟩:=z5h (q55 Y) (id':=id') (by rw[A0 _ _ Z];exact hf) (e:=e) (t:=f.ty) (l:=l++m) (cs:=(k.toList.drop g).take (l.length*f.ty.size)++cs)
     (rest:=(Builtin.zeroCells z.cells (grownCap w (l.length+m.length) cap e-(l.length+m.length))).toList) (cap:=grownCap w (l.length+m.length) cap e)
     (by rw[List.length_append,M,Q,E,Nat.add_mul]) (by rw[Array.length_toList,size_zeroCells,hzs,D,E]) (by rw[E];exact hge) hcm' (fun u hu=>by
      rcases List.mem_append.1 hu with hu | hu
      ·exact hone u (List.mem_of_mem_drop (List.mem_of_mem_take hu))
      ·exact c3 u hu) (q9n hz1 _) ((ListCells.append M (hLl.take.mono G.free) (c4.mono G.free)).mono (V2 κ _ w).free)
    have harr:(((k.toList.drop g).take (l.length*f.ty.size)).toArray++cs.toArray++Builtin.zeroCells z.cells (grownCap w (l.length+m.length) cap e-(l.length+m.length))) =
      (((k.toList.drop g).take (l.length*f.ty.size)++cs)++(Builtin.zeroCells z.cells (grownCap w (l.length+m.length) cap e-(l.length+m.length))).toList).toArray:=by
     simp
    rw[harr]at hr
    rw[E]at a2
    exact⟨q,_,_,q1f ho (by rw[show a.eval s=_ from hv,show a.eval x=_ from hxe];exact hr),a1,a2,(G.trans (V2 κ _ w)).trans a3⟩
theorem z8k {a:Act} {o:Oper} {s x:Operand} {T b:TypeId} (c:o.op=.call { callee:=.builtin .copy,args:=#[s,x],argTypes:=#[T,b] }) {w w':World} {v:Value}
  (h:(Builtin.copy_ #[T,b] o.type #[a.eval s,a.eval x]).run P w=.ok v w'):(execOp a.eval o).run P w=.ok (.value v) w':=by
 unfold execOp
 grind[resolve,invoke,builtin,Sem.run_bind,Sem.run_pure,Result.andThen_ok]
theorem j86 {T g ty e:TypeId} {i:TypeInfo} (h:P.underlying T=some (.slice e)) (hi:P.info? e=some i) (w:World) (b a:Option Addr) (n c d j:Nat) (f:Nat.min n d=0) :
  (Builtin.copy_ #[T,g] ty #[.slice a d j,.slice b n c]).run P w=.ok (goInt 0) w:=by
 cases b<;>cases a<;>simp[Builtin.copy_,run_underlying h,sizeOf,typeInfo,hi,Builtin.lenOf,Builtin.firstCells,loadCells,loadCellsFrom,f,storeCells]
theorem ListCells.pick {w:World} {A:Nat->Prop} {t:Ty} {cs a:List Value} {l:List t.den} (f:t.size=1) (h:ListCells w A t cs l) {i:Nat} {y:t.den} (b:l[i]? = some y) (e:a[i]? = cs[i]?) :
  RepAt w A t (fun c=>if c<t.size then a[i*t.size+c]? else none) y:=by
 refine RepAt.congr t _ _ y (fun c d=>?_) (h i y b)
 grind
theorem q48 {a:Type} (f:Nat->a) (i:Nat) (v:a) (h:f i=v):upd f i v=f:=by
 grind[A1,A0]
theorem y4n {a:Type} (l m:List a) (h:Nat.min m.length l.length=0):m.take l.length++l.drop m.length=l:=by
 grind
theorem v4j {o:Oper} {T T' e:TypeId} {s x:Operand} {ti q:TInfo} (hti:ti.OK P T) (hel:ti.elem=some e) (hte:q.OK P e)
  (ho:o.op=.call { callee:=.builtin .copy,args:=#[s,x],argTypes:=#[T,T'] }) {ρs:Env} {hs:Heap} {id:Nat} {sx:SV} {l m:List q.ty.den}
  (h1:ev ρs s=.one (.own id)) (D:hs id=.arr e q.ty l) (h2:ev ρs x=.one sx) (hl:B7 hs q.ty sx=some m) (hs1:q.size=1) (N:q.ty.size=1) :
  A6 P L w0 o ρs hs (upd hs id (.arr e q.ty (m.take l.length++l.drop m.length))) (F0 .i64 (Nat.min m.length l.length:Nat)):=by
 refine I4 (fun c hc=>by grind) fun κ a w hev X=>?_
 have hsv:=(hev s)
 rw[h1]at hsv
 have Y:=hev x
 rw[h2]at Y
 obtain⟨sa,K,hxe,hxc⟩:=z1x X Y hl
 have H:=hsv.1
 rw[D]at H
 have O:(hs id).live=true:=by rw[D];rfl
 have M:=X.obj id
 rw[D]at M
 obtain⟨-,d,hd,-,hde,-⟩:=hti.base
 have ht:P.underlying T=some (.slice e):=by
  grind
 obtain⟨i,z,hi,hisz,-⟩:=hte.zero_one (L:=L)
 by_cases p:Nat.min m.length l.length=0
 ·rw[y4n l m p,q48 hs id _ D,p]
  obtain⟨C,dc,U⟩:∃ C dc,a.eval s=.slice C l.length dc:=by
   grind
  exact⟨κ,_,w,z8k ho (by rw[U,hxe];exact j86 ht hi w sa C m.length K l.length dc p),X,H6 _ _,Ext.refl L κ hs w⟩
 ·rcases H with⟨-,hnil,-⟩ | ⟨b,t,hk,U⟩
  ·grind
  rcases hxc with⟨-,hm⟩ | ⟨ad,Q,rfl,c1,c2,c3,c4⟩
  ·grind
  rcases M with⟨F,_⟩ | ⟨W,cap',g,F,k,G,hcm,hll,hone,J⟩
  ·grind
  rw[hk]at F;simp at F;obtain⟨rfl,rfl⟩:=F
  have Z:=X.own id b t O hk
  obtain⟨t,f⟩:=t
  simp at G hcm hll J U
  have hLl:ListCells w (A3 L κ hs w) q.ty (g.toList.drop f) l:=fun j y hy=>RepAt.congr q.ty _ _ y (fun c hc=>by grind) (J j y hy)
  have c1:Q.length=m.length:=by grind
  have G:f+t<=g.size:=by grind
  have hn1:Nat.min m.length l.length<=m.length:=Nat.min_le_left _ _
  have hn2:Nat.min m.length l.length<=l.length:=Nat.min_le_right _ _
  have hn3:m.length<=l.length->Nat.min m.length l.length=m.length:=fun h=>Nat.min_eq_left h
  have hn4:l.length<=m.length->Nat.min m.length l.length=l.length:=fun h=>Nat.min_eq_right h
  generalize hn:Nat.min m.length l.length=n at hn1 hn2 hn3 hn4 p ⊢
  have R:(Q.take n).length=n:=by grind
  have hr:=run_copy_row P w T T' o.type e b f l.length t ad m.length K g e (Q.take n) ht (by grind) k (by omega)
   (fun j v hj=>by
    grind) (by omega) (fun v U=>c3 v (List.mem_of_mem_take U))
  rw[R]at hr
  have B:(hs id).like (.arr e q.ty (m.take l.length++l.drop m.length)):=by
   rw[D]
   refine⟨rfl,rfl,?_⟩
   grind
  let V:=w.setRow b (g.toList.take f++Q.take n++g.toList.drop (f+n)).toArray
  have r:V.heap.size=w.heap.size:=by simp[V]
  have I:∀ W,W≠b->V.heap[W]? = w.heap[W]?:=fun W hne=>setRow_other w b W _ hne
  have A:=P3 (L:=L) (κ:=κ) (h:=hs) hk B (.inl (.inl ⟨_,_,_,k⟩)) r I
  have E:V.heap[b]? = some (.cells (g.toList.take f++Q.take n++g.toList.drop (f+n)).toArray e (0,0)):=setRow_heap w b _ _ e (0,0) k
  refine⟨κ,_,V,z8k ho (by rw[U,hxe];exact hr),Q4 X hk B r I (X0 _ X.below Z.1) ?_,H6 _ _,A⟩
  have hlen':(m.take l.length++l.drop m.length).length=l.length:=by
   grind
  refine q0r hk E ?_ hcm (by omega) (fun u hu=>?_) (fun j y hy=>?_)
  ·simp[List.length_append,List.length_take,R,List.length_drop,Array.length_toList,N,Nat.mul_one];omega
  ·grind
  ·have hjl:j<l.length:=by grind
   have hto:(g.toList.take f).length=f:=by rw[List.length_take,Array.length_toList];omega
   have hdr:List.drop f (g.toList.take f++Q.take n++g.toList.drop (f+n))=Q.take n++g.toList.drop (f+n):=by
    grind
   show RepAt V _ q.ty (fun c=>if c<q.ty.size then(List.drop f _)[j*q.ty.size+c]? else none) y
   rw[hdr]
   by_cases hj:j<n
   ·have S:m[j]? = some y:=by
     grind
    refine ListCells.pick N (c4.mono A.free) S ?_
    grind
   ·have S:l[j]? = some y:=by
     rw[List.getElem?_append_right (by rw[List.length_take];omega),List.getElem?_drop,List.length_take]at hy
     rw[<-hy];congr 1;omega
    refine ListCells.pick N (hLl.mono A.free) S ?_
    rw[List.getElem?_append_right (by omega),List.getElem?_drop,R,List.getElem?_drop]
    congr 1;omega
end Go.Abs
