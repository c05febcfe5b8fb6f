/- The engine, part 7: new objects; append. -/
import Derived.Test.YtkfjlcdaepckoaaAbsSound3
import Derived.Laws.CopyRow
namespace Go.Abs
open Go Go.RowKit
variable {P:Program} {L:Nat->Prop} {w0:World}
theorem S1 (κ:A2) (h:Heap) (w:World):Ext L κ h w κ h w.drew where
 place _ _:=rfl
 kid _ hd:=hd
 dead _ hd:=hd
 cells _ l hl:=.inl ⟨l,hl⟩
 arr _ _ _ l hl:=.inl ⟨l,rfl,.inl hl⟩
 arrD _ _ _ l f hl:=.inl ⟨l,f,rfl,hl⟩
 ice _ _ _ _ hl:=.inl hl
 lrec _ _ s hl:=.inl ⟨s,hl⟩
 maps _ hl:=.inl hl
 iter _ _ _ _ _ l c hl:=.inl ⟨l,c,hl⟩
 size:=Nat.le_refl _
 loops _ r hr:=⟨r,hr⟩
 defs _ hr:=hr
 still _ hb:=⟨hb,rfl⟩
theorem q3v {κ:A2} {h:Heap} {w:World} (ok:HeapOK L w0 κ h w):HeapOK L w0 κ h w.drew where
 obj id:=RepObj.ext (S1 κ h w) rfl (fun _ _ _=>rfl) (fun _=>rfl) (fun _ _ _ _=>rfl) (ok.obj id)
 inj:=ok.inj
 own:=ok.own
 below:=ok.below.drew
 outer:=ok.outer
 kids:=ok.kids
theorem W9 {κ:A2} {h:Heap} {w:World} {id:Nat} (e:TypeId) (t:Ty) (hf:h id=.fresh):Ext L κ h w (upd κ id none) (upd h id (.arr e t [])) w where
 place j hj:=A0 _ _ (fun e=>hj.1 (e▸hf))
 kid j hd:=by rw[A0 _ _ (fun e=>by rw[e,hf]at hd;cases hd)];exact hd
 arrD j e t l f hl:=by rw[A0 _ _ (fun e=>by rw[e,hf]at hl;cases hl)];exact .inl ⟨l,f,rfl,hl⟩
 dead j hd:=by rw[A0 _ _ (fun e=>by rw[e,hf]at hd;cases hd)];exact hd
 cells j l hl:=by rw[A0 _ _ (fun e=>by rw[e,hf]at hl;cases hl)];exact .inl ⟨l,hl⟩
 arr j e t l hl:=by rw[A0 _ _ (fun e=>by rw[e,hf]at hl;cases hl)];exact .inl ⟨l,rfl,.inl hl⟩
 ice j e t l hl:=by rw[A0 _ _ (fun e=>by rw[e,hf]at hl;cases hl)];exact .inl hl
 lrec j i s hl:=by rw[A0 _ _ (fun e=>by rw[e,hf]at hl;cases hl)];exact .inl ⟨s,hl⟩
 maps j hl:=by rw[A0 _ _ (fun e=>by rw[e,hf]at hl;cases hl)];exact .inl hl
 iter j _ _ _ _ l c hl:=by rw[A0 _ _ (fun e=>by rw[e,hf]at hl;cases hl)];exact .inl ⟨l,c,hl⟩
 size:=Nat.le_refl _
 loops _ r hr:=⟨r,hr⟩
 defs _ hr:=hr
 still b hb:=by
  obtain⟨h1,h3⟩:=hb
  refine⟨⟨h1,fun j c' hj hk=>?_⟩,rfl⟩
  by_cases hji:j=id
  ·subst hji;rw[A1]at hk;cases hk
  ·rw[A0 _ _ hji]at hj hk;exact h3 j c' hj hk
theorem q00 {κ:A2} {h:Heap} {w:World} (ok:HeapOK L w0 κ h w) {id:Nat} (e:TypeId) (t:Ty) (hf:h id=.fresh) :
  HeapOK L w0 (upd κ id none) (upd h id (.arr e t [])) w where
 obj j:=by
  by_cases hji:j=id
  ·subst hji;rw[A1];exact .inl ⟨A1 _ _ _,rfl⟩
  ·rw[A0 h _ hji];exact RepObj.ext (W9 e t hf) (A0 _ _ hji) (fun _ _ _=>rfl) (fun n=>A0 _ _ (J6 ok (K8 hf) j n)) (fun _ _ _ _=>rfl) (ok.obj j)
 inj i j b c1 c2 hi hj h1 h2:=by
  by_cases hi':i=id
  ·subst hi';rw[A1]at h1;cases h1
  ·by_cases hj':j=id
   ·subst hj';rw[A1]at h2;cases h2
   ·rw[A0 _ _ hi']at h1 hi;rw[A0 _ _ hj']at h2 hj;exact ok.inj i j b c1 c2 hi hj h1 h2
 own i b c1 hi h1:=by
  by_cases hi':i=id
  ·subst hi';rw[A1]at h1;cases h1
  ·rw[A0 _ _ hi']at h1 hi;exact ok.own i b c1 hi h1
 below:=ok.below
 outer b hL:=⟨(ok.outer b hL).1,fun i c1 hi h1=>by
  by_cases hi':i=id
  ·subst hi';rw[A1]at h1;cases h1
  ·rw[A0 _ _ hi']at h1 hi;exact(ok.outer b hL).2 i c1 hi h1⟩
 kids j hj:=by rw[A0 _ _ (fun e=>by rw[<-e,ok.kids j hj]at hf;cases hf)];exact ok.kids j hj
theorem q3t {κ:A2} {h:Heap} {w w':World} {id id' b:Nat} {c c':Nat×Nat} {obj':AObj} (hl:(h id).live=true) (hnk:h id≠.kid) (hk:κ id=some (b,c)) (hf:h id'=.fresh)
  (hw:q5c w w' b) (hs:w'.heap.size=w.heap.size) (hb:∀ b',b'≠b->w'.heap[b']? = w.heap[b']?) :
  Ext L κ h w (upd κ id' (some (b,c'))) (upd (upd h id .dead) id' obj') w' where
 place j hj:=A0 _ _ (fun e=>hj.1 (e▸hf))
 kid j hd:=by
  have hj:j≠id':=fun e=>by rw[e,hf]at hd;cases hd
  rw[A0 _ _ hj,A0 _ _ (fun e=>hnk (by rw[<-e];exact hd))];exact hd
 arrD j e t l f hl:=by
  have hj:j≠id':=fun e=>by rw[e,hf]at hl;cases hl
  rw[A0 _ _ hj]
  by_cases hji:j=id
  ·subst hji;rw[A1];exact .inr (.inr rfl)
  ·rw[A0 _ _ hji];exact .inl ⟨l,f,rfl,hl⟩
 dead j hd:=by
  have hj:j≠id':=fun e=>by rw[e,hf]at hd;cases hd
  rw[A0 _ _ hj]
  by_cases hji:j=id
  ·subst hji;rw[A1]
  ·rw[A0 _ _ hji];exact hd
 cells j l hl:=by
  have hj:j≠id':=fun e=>by rw[e,hf]at hl;cases hl
  rw[A0 _ _ hj]
  by_cases hji:j=id
  ·subst hji;rw[A1];exact .inr rfl
  ·rw[A0 _ _ hji];exact .inl ⟨l,hl⟩
 arr j e t l hl:=by
  have hj:j≠id':=fun e=>by rw[e,hf]at hl;cases hl
  rw[A0 _ _ hj]
  by_cases hji:j=id
  ·subst hji;rw[A1];exact .inr rfl
  ·rw[A0 _ _ hji];exact .inl ⟨l,rfl,.inl hl⟩
 ice j e t l hl:=by
  have hj:j≠id':=fun e=>by rw[e,hf]at hl;cases hl
  rw[A0 _ _ hj]
  by_cases hji:j=id
  ·subst hji;rw[A1];exact .inr rfl
  ·rw[A0 _ _ hji];exact .inl hl
 lrec j i s hl:=by
  have hj:j≠id':=fun e=>by rw[e,hf]at hl;cases hl
  rw[A0 _ _ hj]
  by_cases hji:j=id
  ·subst hji;rw[A1];exact .inr rfl
  ·rw[A0 _ _ hji];exact .inl ⟨s,hl⟩
 maps j hl:=by
  have hj:j≠id':=fun e=>by rw[e,hf]at hl;cases hl
  rw[A0 _ _ hj]
  by_cases hji:j=id
  ·subst hji;rw[A1];exact .inr rfl
  ·rw[A0 _ _ hji];exact .inl hl
 iter j _ _ _ _ l c hl:=by
  have hj:j≠id':=fun e=>by rw[e,hf]at hl;cases hl
  rw[A0 _ _ hj]
  by_cases hji:j=id
  ·subst hji;rw[A1];exact .inr rfl
  ·rw[A0 _ _ hji];exact .inl ⟨l,c,hl⟩
 size:=by omega
 loops b' r hr:=by
  by_cases e:b'=b
  ·subst e
   rcases hw with(⟨c,t,f,h1⟩ | ⟨es,cl,h1⟩ | ⟨m,s,n,c,h1⟩) | ⟨r1,r2,h1,h2⟩
   ·rw[hr]at h1;cases h1
   ·rw[hr]at h1;cases h1
   ·rw[hr]at h1;cases h1
   ·exact⟨r2,h2⟩
  ·exact⟨r,(hb b' e).trans hr⟩
 defs b' hr:=by
  by_cases e:b'=b
  ·subst e
   rcases hw with(⟨c,t,f,h1⟩ | ⟨es,cl,h1⟩ | ⟨m,s,n,c,h1⟩) | ⟨r1,r2,h1,h2⟩<;>rw[hr]at h1<;>cases h1
  ·exact(hb b' e).trans hr
 still b' hb':=by
  obtain⟨h1,h3⟩:=hb'
  have hne:b'≠b:=fun e=>h3 id c hl (by rw[e];exact hk)
  refine⟨⟨by omega,fun j c2 hj hk2=>?_⟩,hb b' hne⟩
  by_cases hji:j=id'
  ·subst hji;rw[A1]at hk2;simp at hk2;exact hne hk2.1.symm
  ·rw[A0 _ _ hji]at hj hk2
   by_cases hji2:j=id
   ·subst hji2;rw[A1]at hj;cases hj
   ·rw[A0 _ _ hji2]at hj;exact h3 j c2 hj hk2
theorem q6n {κ:A2} {h:Heap} {w w':World} (ok:HeapOK L w0 κ h w) {id id' b:Nat} {c c':Nat×Nat} {obj':AObj} (hl:(h id).live=true) (hnk:h id≠.kid) (hk:κ id=some (b,c)) (hf:h id'=.fresh)
  (hw:q5c w w' b) (hs:w'.heap.size=w.heap.size) (hb:∀ b',b'≠b->w'.heap[b']? = w.heap[b']?) (hbel:Below w0.heap.size w0 w')
  (hr:RepObj L (upd κ id' (some (b,c'))) (upd (upd h id .dead) id' obj') w' id' obj') :
  HeapOK L w0 (upd κ id' (some (b,c'))) (upd (upd h id .dead) id' obj') w' where
 obj j:=by
  by_cases hji:j=id'
  ·subst hji;rw[A1];exact hr
  ·rw[A0 _ _ hji]
   by_cases hji2:j=id
   ·subst hji2;rw[A1];trivial
   ·rw[A0 _ _ hji2]
    by_cases hd:h j=.dead\/h j=.fresh
    ·rcases hd with hd | hd<;>rw[hd]<;>trivial
    ·refine RepObj.ext (q3t hl hnk hk hf hw hs hb) (A0 _ _ hji) (fun b' c2 hk'=>hb b' fun e=>?_) (fun n=>A0 _ _ (J6 ok (K8 hf) j n)) (fun n b' c2 hk'=>hb b' fun e=>by
      subst e
      exact J6 ok hnk j n (ok.inj _ _ b' c2 c (q0s ok j n) hl hk' hk)) (ok.obj j)
     subst e
     by_cases hlj:(h j).live=true
     ·exact hji2 (ok.inj j id b' c2 c hlj hl hk' hk)
     ·cases hj':h j with
      | ice e t l =>
       have:=ok.obj j;rw[hj']at this
       exact(this.2 b' c2 hk').2.2 id c hl hk
      | mice ak av tk tv l =>
       have:=ok.obj j;rw[hj']at this
       obtain⟨b3,c3,es,cl,h1,h2,-⟩:=this
       rw[hk']at h1;cases h1
       exact h2.2.2 id c hl hk
      | dead=>exact hd (.inl hj')
      | fresh=>exact hd (.inr hj')
      | _=>rw[hj']at hlj;exact hlj rfl
 inj i j b' c1 c2 hi hj h1 h2:=by
  have aux:∀ i,i≠id'->(upd (upd h id .dead) id' obj' i).live=true->i≠id/\(h i).live=true:=fun i hne hi=>by
   rw[A0 _ _ hne]at hi
   by_cases e:i=id
   ·subst e;rw[A1]at hi;cases hi
   ·rw[A0 _ _ e]at hi;exact⟨e,hi⟩
  by_cases hi':i=id'<;>by_cases hj':j=id'
  ·rw[hi',hj']
  ·subst hi';obtain⟨n1,n2⟩:=aux j hj' hj
   rw[A1]at h1;rw[A0 _ _ hj']at h2;simp at h1
   exact absurd (ok.inj j id b' c2 c n2 hl h2 (by rw[<-h1.1];exact hk)) n1
  ·subst hj';obtain⟨n1,n2⟩:=aux i hi' hi
   rw[A1]at h2;rw[A0 _ _ hi']at h1;simp at h2
   exact absurd (ok.inj i id b' c1 c n2 hl h1 (by rw[<-h2.1];exact hk)) n1
  ·obtain⟨n1,n2⟩:=aux i hi' hi
   obtain⟨m1,m2⟩:=aux j hj' hj
   rw[A0 _ _ hi']at h1;rw[A0 _ _ hj']at h2
   exact ok.inj i j b' c1 c2 n2 m2 h1 h2
 own i b' c1 hi h1:=by
  rw[hs]
  by_cases hi':i=id'
  ·subst hi';rw[A1]at h1;simp at h1;rw[<-h1.1];exact ok.own id b c hl hk
  ·rw[A0 _ _ hi']at h1 hi
   by_cases e:i=id
   ·subst e;rw[A1]at hi;cases hi
   ·rw[A0 _ _ e]at hi;exact ok.own i b' c1 hi h1
 below:=hbel
 outer b' hL:=⟨by rw[hs];exact(ok.outer b' hL).1,fun i c1 hi h1=>by
  by_cases hi':i=id'
  ·subst hi';rw[A1]at h1;simp at h1;exact(ok.outer b' hL).2 id c hl (by rw[<-h1.1];exact hk)
  ·rw[A0 _ _ hi']at h1 hi
   by_cases e:i=id
   ·subst e;rw[A1]at hi;cases hi
   ·rw[A0 _ _ e]at hi;exact(ok.outer b' hL).2 i c1 hi h1⟩
 kids j hj:=by
  rw[A0 _ _ (fun e=>by rw[<-e,ok.kids j hj]at hf;cases hf),A0 _ _ (fun e=>hnk (by rw[<-e];exact ok.kids j hj))];exact ok.kids j hj
def ListCells (w:World) (A:Nat->Prop) (t:Ty) (cs:List Value) (l:List t.den):Prop :=
 ∀ i y,l[i]? = some y->RepAt w A t (fun c=>if c<t.size then cs[i*t.size+c]? else none) y
theorem ListCells.append {w:World} {A:Nat->Prop} {t:Ty} {cs ds:List Value} {l m:List t.den} (hl:cs.length=l.length*t.size) (h1:ListCells w A t cs l) (h2:ListCells w A t ds m) :
  ListCells w A t (cs++ds) (l++m):=by
 intro i y hy
 by_cases hlt:i<l.length
 ·rw[List.getElem?_append_left hlt]at hy
  refine RepAt.congr t _ _ y (fun c hc=>?_) (h1 i y hy)
  simp only[hc,if_true]
  have h3:(i+1)*t.size<=l.length*t.size:=Nat.mul_le_mul_right _ hlt
  rw[Nat.succ_mul]at h3
  rw[List.getElem?_append_left (by omega)]
 ·rw[List.getElem?_append_right (by omega)]at hy
  refine RepAt.congr t _ _ y (fun c hc=>?_) (h2 _ y hy)
  simp only[hc,if_true]
  have h3:l.length*t.size<=i*t.size:=Nat.mul_le_mul_right _ (by omega)
  rw[List.getElem?_append_right (by omega),hl,Nat.sub_mul]
  congr 1;omega
theorem ListCells.more {w:World} {A:Nat->Prop} {t:Ty} {cs ds:List Value} {l:List t.den} (hl:l.length*t.size<=cs.length) (h1:ListCells w A t cs l):ListCells w A t (cs++ds) l:=by
 intro i y hy
 have hlt:=(List.getElem?_eq_some_iff.1 hy).1
 refine RepAt.congr t _ _ y (fun c hc=>?_) (h1 i y hy)
 simp only[hc,if_true]
 have h3:(i+1)*t.size<=l.length*t.size:=Nat.mul_le_mul_right _ hlt
 rw[Nat.succ_mul]at h3
 rw[List.getElem?_append_left (by omega)]
theorem ListCells.take {w:World} {A:Nat->Prop} {t:Ty} {cs:List Value} {l:List t.den} (h1:ListCells w A t cs l):ListCells w A t (cs.take (l.length*t.size)) l:=by
 intro i y hy
 have hlt:=(List.getElem?_eq_some_iff.1 hy).1
 refine RepAt.congr t _ _ y (fun c hc=>?_) (h1 i y hy)
 simp only[hc,if_true]
 have h3:(i+1)*t.size<=l.length*t.size:=Nat.mul_le_mul_right _ hlt
 rw[Nat.succ_mul]at h3
 rw[List.getElem?_take_of_lt (by omega)]
theorem ListCells.mono {w w':World} {A A':Nat->Prop} {t:Ty} {cs:List Value} {l:List t.den} (hA:∀ b,A b->A' b/\w'.heap[b]? = w.heap[b]?) (h1:ListCells w A t cs l):ListCells w' A' t cs l :=
 fun i y hy=>RepAt.mono hA t _ y (h1 i y hy)
theorem q5o {κ:A2} {h:Heap} {w:World} {e:Ty} {l:List e.den} {b o:Nat}
  (hel:∀ i y,l[i]? = some y->RepAt w (A4 L κ h w) e (fun c=>if c<e.size then w.cell? ⟨b,o+(i*e.size+c),none⟩else none) y) :
  ∃ cs:List Value,cs.length=l.length*e.size/\(∀ (j:Nat) (u:Value),cs[j]? = some u->w.cell? ((⟨b,o,none⟩:Addr).add j)=some u)/\(∀ u∈cs,u.oneCell'=true)/\ListCells w (A4 L κ h w) e cs l:=by
 have hcell:∀ q,q<l.length*e.size->∃ v,w.cell? ⟨b,o+q,none⟩=some v/\v.oneCell'=true:=by
  intro q hq
  have hpos:0<e.size:=Nat.pos_of_ne_zero fun h0=>by rw[h0]at hq;simp at hq
  have hi:q / e.size<l.length:=Nat.div_lt_of_lt_mul (by rw[Nat.mul_comm];exact hq)
  have hm:q % e.size<e.size:=Nat.mod_lt _ hpos
  have hr:=hel (q / e.size) _ (List.getElem?_eq_getElem hi)
  have hlen:=P1 e l[q / e.size]
  obtain⟨v,h1,-,h2⟩:=S0 e _ _ hr (q % e.size) _ (List.getElem?_eq_getElem (by omega))
  simp only[hm,if_true]at h1
  rw[Nat.div_add_mod' q e.size]at h1
  exact⟨v,h1,h2⟩
 let cs:=(List.range (l.length*e.size)).map fun q=>(w.cell? ⟨b,o+q,none⟩).getD undef
 have hget:∀ q,q<l.length*e.size->cs[q]? = w.cell? ⟨b,o+q,none⟩:=by
  intro q hq
  obtain⟨v,h1,_⟩:=hcell q hq
  simp only[cs,List.getElem?_map,List.getElem?_range hq,Option.map_some,h1,Option.getD_some]
 refine⟨cs,by simp[cs],fun j u hj=>?_,fun u hu=>?_,fun i y hy=>?_⟩
 ·have hlt:j<l.length*e.size:=by have:=(List.getElem?_eq_some_iff.1 hj).1;simpa[cs]using this
  rw[P0,<-hget j hlt];exact hj
 ·obtain⟨j,hj⟩:=List.getElem?_of_mem hu
  have hlt:j<l.length*e.size:=by have:=(List.getElem?_eq_some_iff.1 hj).1;simpa[cs]using this
  obtain⟨v,h1,h2⟩:=hcell j hlt
  rw[hget j hlt,h1]at hj
  cases hj;exact h2
 ·have hlt:=(List.getElem?_eq_some_iff.1 hy).1
  refine RepAt.congr e _ _ y (fun c hc=>?_) (hel i y hy)
  simp only[hc,if_true]
  have h3:(i+1)*e.size<=l.length*e.size:=Nat.mul_le_mul_right _ hlt
  rw[Nat.succ_mul]at h3
  rw[hget _ (by omega)]
theorem q6u {κ:A2} {h:Heap} {w:World} (ok:HeapOK L w0 κ h w) {e:Ty} {s:SV} {v:Value} (hr:RepSV L κ h w s v) {l:List e.den} (hl:B5 h e s=some l) :
  ∃ sa cap,v=.slice sa l.length cap/\((sa=none/\l=[])\/∃ (ad:Addr) (cs:List Value),sa=some ad/\cs.length=l.length*e.size /\
   (∀ (j:Nat) (u:Value),cs[j]? = some u->w.cell? (ad.add j)=some u)/\(∀ u∈cs,u.oneCell'=true)/\ListCells w (A4 L κ h w) e cs l):=by
 have hempty:∀ (sa:Option Addr) (cap:Nat),v=.slice sa 0 cap->l=[]->∃ sa cap,v=.slice sa l.length cap/\((sa=none/\l=[])\/∃ (ad:Addr) (cs:List Value),sa=some ad/\cs.length=l.length*e.size /\
   (∀ (j:Nat) (u:Value),cs[j]? = some u->w.cell? (ad.add j)=some u)/\(∀ u∈cs,u.oneCell'=true)/\ListCells w (A4 L κ h w) e cs l):=by
  intro sa cap hv hl
  subst hl
  refine⟨sa,cap,hv,?_⟩
  cases sa with
  | none=>exact .inl ⟨rfl,rfl⟩
  | some ad=>exact .inr ⟨ad,[],rfl,by simp,fun j u hj=>by simp at hj,fun u hu=>by simp at hu,fun i y hy=>by simp at hy⟩
 cases s with
 | nils =>
  simp[B5]at hl
  subst hl
  exact hempty none 0 (show v=_ from hr) rfl
 | sc t y =>
  simp only[B5]at hl
  obtain⟨he,hy⟩:=G4 hl
  subst he;subst hy
  obtain⟨_,_,sa,len,cap,hg,hlen,hcap,hx⟩:=hr
  simp[E3]at hg
  subst hlen
  by_cases hne:y=[]
  ·subst hne;exact hempty sa cap hg rfl
  ·obtain⟨b,o,hs,_,hel⟩:=hx hne
   subst hs
   obtain⟨cs,c1,c2,c3,c4⟩:=q5o hel
   exact⟨_,cap,hg,.inr ⟨_,cs,rfl,c1,c2,c3,c4⟩⟩
 | ne t y =>
  simp only[B5]at hl
  obtain⟨he,hy⟩:=G4 hl
  cases he
  change y=l at hy
  subst hy
  obtain⟨_,⟨sa,len,cap,hg,hlen,hcap,hx⟩,_⟩:=hr
  simp[E3]at hg
  subst hlen
  by_cases hne:y=[]
  ·subst hne;exact hempty sa cap hg rfl
  ·obtain⟨b,o,hs,_,hel⟩:=hx hne
   subst hs
   obtain⟨cs,c1,c2,c3,c4⟩:=q5o hel
   exact⟨_,cap,hg,.inr ⟨_,cs,rfl,c1,c2,c3,c4⟩⟩
 | nx=>simp[B5]at hl
 | own id =>
  simp only[B5]at hl
  have key:∀ (e':TypeId) (t:Ty) (l':List t.den),(h id=.arr e' t l'\/h id=.ice e' t l')->F8 (.list t) (.list e) l'=some l->∃ sa cap,v=.slice sa l.length cap/\((sa=none/\l=[])\/∃ (ad:Addr) (cs:List Value),sa=some ad/\cs.length=l.length*e.size /\
   (∀ (j:Nat) (u:Value),cs[j]? = some u->w.cell? (ad.add j)=some u)/\(∀ u∈cs,u.oneCell'=true)/\ListCells w (A4 L κ h w) e cs l):=by
   intro e' t l' ho hc
   obtain⟨he,hy⟩:=G4 hc
   cases he
   change l'=l at hy
   subst hy
   have hrep:RepArr L κ h w id e' e l':=by
    have:=ok.obj id
    rcases ho with ho | ho<;>rw[ho]at this
    ·exact this
    ·exact this.1
   have hv:(κ id=none/\l'=[]/\v=.slice none 0 0)\/∃ b cap,κ id=some (b,cap)/\v=.slice (some ⟨b,cap.2,none⟩) l'.length cap.1:=by
    simp only[RepSV]at hr
    rcases ho with ho | ho<;>rw[ho]at hr<;>exact hr.1
   rcases hv with⟨hk,hnil,hv⟩ | ⟨b,cap,hk,hv⟩
   ·exact hempty none 0 hv hnil
   ·obtain⟨cs,c1,c2,c3,c4⟩:=q5o (b:=b) (o:=cap.2) (fun i y hy=>by
     refine RepAt.congr e _ _ y (fun c hc=>?_) (q9b hrep hk hy)
     simp only[hc,if_true,Nat.add_assoc])
    exact⟨_,cap.1,hv,.inr ⟨_,cs,rfl,c1,c2,c3,c4⟩⟩
  cases ho:h id with
  | arr e' t l'=>rw[ho]at hl;exact key e' t l' (.inl ho) hl
  | ice e' t l'=>rw[ho]at hl;exact key e' t l' (.inr ho) hl
  | _=>rw[ho]at hl;simp at hl
 | sub id off len =>
  simp only[B5]at hl
  have key:∀ (e':TypeId) (t:Ty) (l':List t.den),(h id=.arr e' t l'\/h id=.ice e' t l')->F8 (.list t) (.list e) ((l'.drop off).take len)=some l->∃ sa cap,v=.slice sa l.length cap/\((sa=none/\l=[])\/∃ (ad:Addr) (cs:List Value),sa=some ad/\cs.length=l.length*e.size /\
   (∀ (j:Nat) (u:Value),cs[j]? = some u->w.cell? (ad.add j)=some u)/\(∀ u∈cs,u.oneCell'=true)/\ListCells w (A4 L κ h w) e cs l):=by
   intro e' t l' ho hc
   obtain⟨he,hy⟩:=G4 hc
   cases he
   change (l'.drop off).take len=l at hy
   subst hy
   have hrep:RepArr L κ h w id e' e l':=by
    have:=ok.obj id
    rcases ho with ho | ho<;>rw[ho]at this
    ·exact this
    ·exact this.1
   have hv:off+len<=l'.length/\((κ id=none/\v=.slice none 0 0)\/∃ b cap o,κ id=some (b,cap)/\v=.slice (some ⟨b,o,none⟩) len (cap.1-off)/\(len≠0->o=cap.2+off*e.size)):=by
    simp only[RepSV]at hr
    rcases ho with ho | ho<;>rw[ho]at hr<;>exact hr.1
   obtain⟨hle',hv⟩:=hv
   have hlen:((l'.drop off).take len).length=len:=by simp;omega
   rcases hv with⟨hk,hv⟩ | ⟨b,cap,o,hk,hv,ho'⟩
   ·rcases hrep with⟨_,hnil⟩ | ⟨b',cap',cur,hk',_⟩
    ·subst hnil;exact hempty none 0 hv (by simp)
    ·rw[hk]at hk';cases hk'
   ·by_cases h0:len=0
    ·subst h0;exact hempty _ _ hv (by simp)
    ·have hoo:=ho' h0
     obtain⟨cs,c1,c2,c3,c4⟩:=q5o (l:=(l'.drop off).take len) (b:=b) (o:=o) (fun i y hy=>by
      have hi:i<len:=by
       have:=(List.getElem?_eq_some_iff.1 hy).1;omega
      have hy':l'[off+i]? = some y:=by
       rw[List.getElem?_take_of_lt hi,List.getElem?_drop]at hy;exact hy
      refine RepAt.congr e _ _ y (fun c hc=>?_) (q9b hrep hk hy')
      simp only[hc,if_true]
      rw[hoo,Nat.add_mul];simp only[Nat.add_assoc])
     exact⟨_,_,by rw[hlen];exact hv,.inr ⟨_,cs,rfl,c1,c2,c3,c4⟩⟩
  cases ho:h id with
  | arr e' t l'=>rw[ho]at hl;exact key e' t l' (.inl ho) hl
  | ice e' t l'=>rw[ho]at hl;exact key e' t l' (.inr ho) hl
  | _=>rw[ho]at hl;simp at hl
 | unk=>simp[B5]at hl
 | ptr _ _=>simp[B5]at hl
 | eptr _ _ _ _=>simp[B5]at hl
 | ro _ _ _=>simp[B5]at hl
 | fn _ _=>simp[B5]at hl
 | yld _=>simp[B5]at hl
 | gl _=>simp[B5]at hl
 | gp _ _=>simp[B5]at hl
 | cstr _=>simp[B5]at hl
 | bfn _ _ _=>simp[B5]at hl
 | bfp _ _ _=>simp[B5]at hl
 | ifc _ _ _=>simp[B5]at hl
 | nif=>simp[B5]at hl
 | nilf=>simp[B5]at hl
 | pan _=>simp[B5]at hl
 | mp _=>simp[B5]at hl
 | mpn=>simp[B5]at hl
 | stmp _=>simp[B5]at hl
 | csl _ _ _ _=>simp[B5]at hl
 | nilp=>simp[B5]at hl
 | udf=>simp[B5]at hl
theorem U9 {κ:A2} {h:Heap} {w:World} {id b:Nat} {cap:Nat×Nat} {e:TypeId} {t:Ty} {l:List t.den} {cs:List Value} (hk:κ id=some (b,cap)) (hh:w.heap[b]? = some (.cells cs.toArray e (0,0)))
  (hs:cap.2+cap.1*t.size<=cs.length) (hcm:cap.1<=maxLen) (hl:l.length<=cap.1) (h1:∀ u∈cs,u.oneCell'=true) (hc:ListCells w (A4 L κ h w) t (cs.drop cap.2) l):RepArr L κ h w id e t l :=
 .inr ⟨b,cap,cs.toArray,hk,hh,by simpa using hs,hcm,hl,by simpa using h1,fun i y hy=>RepAt.congr t _ _ y (fun c hc=>by simp only[hc,if_true,List.getElem?_toArray,List.getElem?_drop,Nat.add_assoc]) (hc i y hy)⟩
theorem z9w {κ:A2} {h:Heap} {w:World} {id b:Nat} {cap:Nat} {e:TypeId} {t:Ty} {l:List t.den} {cs:List Value} (hk:κ id=some (b,(cap,0))) (hh:w.heap[b]? = some (.cells cs.toArray e (0,0)))
  (hs:cs.length=cap*t.size) (hcm:cap<=maxLen) (hl:l.length<=cap) (h1:∀ u∈cs,u.oneCell'=true) (hc:ListCells w (A4 L κ h w) t cs l):RepArr L κ h w id e t l :=
 U9 hk hh (by simp[hs]) hcm hl h1 (by simpa using hc)
theorem y0o (t ty e:TypeId) (i:TypeInfo) (ht:P.underlying t=some (.slice e)) (hi:P.info? e=some i) (w:World)
  (g off sLen sCap:Nat) (cur:Array Value) (hg:w.heap[g]? = some (.cells cur e (0,0)))
  (a:Addr) (m c:Nat) (news:List Value) (hl:news.length=m*i.size) (hnews:∀ j u,news[j]? = some u->w.cell? (a.add j)=some u) (h1:∀ u∈news,u.oneCell'=true)
  (hroom:sLen+m<=sCap) (hfit:off+sLen*i.size+news.length<=cur.size) :
  (Builtin.append_ #[t,t] ty #[.slice (some ⟨g,off,none⟩) sLen sCap,.slice (some a) m c]).run P w =
   .ok (.slice (some ⟨g,off,none⟩) (sLen+m) sCap) (w.setRow g (cur.toList.take (off+sLen*i.size)++news++cur.toList.drop (off+sLen*i.size+news.length)).toArray):=by
 have hf:=run_firstCells_some (P:=P) w i.size m a m c news hl hnews
 have hst:=run_storeCells_at P g (off+sLen*i.size) e news 0 cur w hg (by simpa using hfit) h1
 simp only[Nat.add_zero]at hst
 simp[Builtin.append_,run_underlying ht,sizeOf,typeInfo,hi,Builtin.lenOf,hroom,hf,Addr.add_lit,hst]
theorem j5s {α:Type} (A B C:List α) {o n:Nat} (h:o+n<=A.length):(A.take (o+n)++B++C).drop o=(A.drop o).take n++B++C:=by
 rw[List.append_assoc,List.drop_append_of_le_length (by rw[List.length_take];omega),List.drop_take,List.append_assoc]
 congr 2;omega
theorem q0p {a:Act} {o:Oper} {s x:Operand} {T T':TypeId} (ho:o.op=.call { callee:=.builtin .append,args:=#[s,x],argTypes:=#[T,T'] }) {w w':World} {v:Value}
  (h:(Builtin.append_ #[T,T'] o.type #[a.eval s,a.eval x]).run P w=.ok v w'):(execOp a.eval o).run P w=.ok (.value v) w':=by
 unfold execOp
 simp only[ho,resolve,invoke,builtin,Sem.run_bind,Sem.run_pure,Result.andThen_ok,List.map_toArray,List.map_cons,List.map_nil,h]
theorem q8w {z:Value} (hz:∀ c∈z.cells.toList,c.oneCell'=true) (n:Nat):∀ c∈(Builtin.zeroCells z.cells n).toList,c.oneCell'=true:=by
 intro c hc
 simp only[Builtin.zeroCells,Array.toList_map,List.mem_map]at hc
 obtain⟨i,_,rfl⟩:=hc
 by_cases h0:i % z.cells.size<z.cells.size
 ·rw[getElem!_pos z.cells _ h0];exact hz _ (by simp)
 ·rw[getElem!_neg z.cells _ h0];rfl
theorem TInfo.OK.zero_one {ti:TInfo} {T:TypeId} (hti:ti.OK P T):∃ i z,P.info? T=some i/\i.size=ti.size/\i.bytes=ti.bytes/\i.zero=some z/\z.cells.size=ti.size/\ti.zeros.length=ti.size /\
  (∀ (κ:A2) (h:Heap) (w:World),RepCells L κ h w ti.zeros z.cells.toList)/\(∀ c∈z.cells.toList,c.oneCell'=true):=by
 obtain⟨⟨i,z,h1,h2,h3,h4,h5,h6,h7⟩,-⟩:=hti.base
 have hrep:∀ (κ:A2) (h:Heap) (w:World),RepCells L κ h w ti.zeros z.cells.toList:=fun κ h w =>
  ⟨by simp[h5,h6],fun j s c hs hc=>(h7 j s c hs (by simpa using hc)).rep⟩
 exact⟨i,z,h1,h2,h3,h4,h5,h6,hrep,q2m (hrep (fun _=>none) (fun _=>.fresh) default)⟩
theorem q96 {κ:A2} {h:Heap} {w:World} (ok:HeapOK L w0 κ h w) {id':Nat} (hf:h id'=.fresh) {e:TypeId} {t:Ty} {l:List t.den} {cs rest:List Value} {cap:Nat}
  (hs:cs.length=l.length*t.size) (hr:rest.length=(cap-l.length)*t.size) (hcap:l.length<=cap) (hcm:cap<=maxLen) (h1:∀ u∈cs,u.oneCell'=true) (h2:∀ u∈rest,u.oneCell'=true)
  (hc:ListCells w (A4 L κ h w) t cs l) :
  ∃ κ',HeapOK L w0 κ' (upd h id' (.arr e t l)) (w.alloc (.cells (cs++rest).toArray e)) /\
   RepAV L κ' (upd h id' (.arr e t l)) (w.alloc (.cells (cs++rest).toArray e)) (.one (.own id')) (.slice (some ⟨w.heap.size,0,none⟩) l.length cap) /\
   Ext L κ h w κ' (upd h id' (.arr e t l)) (w.alloc (.cells (cs++rest).toArray e)):=by
 have hx:=N4 (L:=L) (κ:=κ) (h:=h) (w:=w) (.cells (cs++rest).toArray e) (AObj.arr e t l) (cap,0) hf
 refine⟨_,S4 ok _ _ (cap,0) hf (U9 (A1 _ _ _) (heap_alloc_new w _) ?_ hcm hcap (fun u hu=>?_) (by rw[List.drop_zero];exact ListCells.more (by omega) (hc.mono hx.free))),⟨?_,rfl⟩,hx⟩
 ·show 0+cap*t.size<=_
  rw[List.length_append,hs,hr,<-Nat.add_mul,Nat.zero_add];exact Nat.mul_le_mul_right _ (by omega)
 ·rcases List.mem_append.1 hu with hu | hu
  ·exact h1 u hu
  ·exact h2 u hu
 ·rw[A1]
  exact .inr ⟨w.heap.size,(cap,0),A1 _ _ _,rfl⟩
theorem q4z {n b:Nat} (h:C1 n b=true):n<=140737488355328/\n*b<=140737488355328:=by
 unfold C1 at h
 rw[Bool.and_eq_true]at h
 exact⟨Nat.le_of_ble_eq_true h.1,Nat.le_of_ble_eq_true h.2⟩
theorem j0c {T ty e:TypeId} {i:TypeInfo} (ht:P.underlying T=some (.slice e)) (hi:P.info? e=some i) (w:World) (sa:Option Addr) (c n cap:Nat) (base:Option Addr) (hc:n<=cap) :
  (Builtin.append_ #[T,T] ty #[.slice base n cap,.slice sa 0 c]).run P w=.ok (.slice base n cap) w:=by
 cases sa<;>cases base<;>simp[Builtin.append_,run_underlying ht,sizeOf,typeInfo,hi,Builtin.lenOf,Builtin.firstCells,loadCells,loadCellsFrom,hc,storeCells]
theorem z4i {κ:A2} {hs:Heap} {w:World} (ok:HeapOK L w0 κ hs w) {T e ty:TypeId} {ti te:TInfo} (hti:ti.OK P T) (hel:ti.elem=some e) (hte:te.OK P e) {id':Nat} (hf:hs id'=.fresh)
  {m:List te.ty.den} (hroom:C1 m.length te.bytes=true) (_hpos:1<=te.size) (hsz:te.ty.size=te.size) {xv:Value}
  (hx:∃ sa cap,xv=.slice sa m.length cap/\((sa=none/\m=[])\/∃ (ad:Addr) (cs:List Value),sa=some ad/\cs.length=m.length*te.ty.size /\
   (∀ (j:Nat) (u:Value),cs[j]? = some u->w.cell? (ad.add j)=some u)/\(∀ u∈cs,u.oneCell'=true)/\ListCells w (A4 L κ hs w) te.ty cs m)) :
  ∃ κ' v w',(Builtin.append_ #[T,T] ty #[.slice none 0 0,xv]).run P w=.ok v w'/\HeapOK L w0 κ' (upd hs id' (.arr e te.ty m)) w' /\
   RepAV L κ' (upd hs id' (.arr e te.ty m)) w' (.one (.own id')) v/\Ext L κ hs w κ' (upd hs id' (.arr e te.ty m)) w':=by
 obtain⟨-,d,hd,-,hde,-⟩:=hti.base
 have ht:P.underlying T=some (.slice e):=by
  rcases hde with hde | ⟨e',he',hde⟩
  ·rw[hel]at hde;cases hde
  ·rw[hel]at he';cases he';rw[hd,hde]
 obtain⟨i,z,hi,hisz,hiby,hiz,hzs,-,-,hz1⟩:=hte.zero_one (L:=L)
 obtain⟨sa,cap,rfl,hx⟩:=hx
 have hby:=q4z hroom
 by_cases hm:m=[]
 ·subst hm
  refine⟨_,_,_,j0c ht hi w sa cap 0 0 none (Nat.le_refl _),q00 ok e te.ty hf,⟨?_,rfl⟩,W9 e te.ty hf⟩
  rw[A1];exact .inl ⟨A1 _ _ _,rfl,rfl⟩
 ·rcases hx with⟨_,hnil⟩ | ⟨ad,cs,rfl,c1,c2,c3,c4⟩
  ·exact absurd hnil hm
  ·have hlen:0<m.length:=List.length_pos_iff.2 hm
   obtain⟨hb1,hb2⟩:=hby
   have hr:=run_append_nil (P:=P) w T ty e i z ht hi hiz ad m.length cap cs (by rw[c1,hisz,hsz]) c2 hlen (by omega) (by rw[hiby];omega)
   have hge:=grownCap_ge w m.length 0 e
   have hcm:grownCap w m.length 0 e<=maxLen:=grownCap_le_maxLen w m.length 0 e (by simp only[maxLen];omega)
   obtain⟨κ',a1,a2,a3⟩:=q96 (q3v ok) hf (e:=e) (t:=te.ty) (l:=m) (cs:=cs) (rest:=(Builtin.zeroCells z.cells (grownCap w m.length 0 e-m.length)).toList) (cap:=grownCap w m.length 0 e)
    c1 (by rw[Array.length_toList,size_zeroCells,hzs,hsz]) hge hcm c3 (q8w hz1 _) (c4.mono (S1 κ hs w).free)
   refine⟨κ',_,_,hr,?_,?_,?_⟩
   ·have:(cs.toArray++Builtin.zeroCells z.cells (grownCap w m.length 0 e-m.length))=(cs++(Builtin.zeroCells z.cells (grownCap w m.length 0 e-m.length)).toList).toArray:=by
     apply Array.toList_inj.1;simp
    rw[this];exact a1
   ·have:(cs.toArray++Builtin.zeroCells z.cells (grownCap w m.length 0 e-m.length))=(cs++(Builtin.zeroCells z.cells (grownCap w m.length 0 e-m.length)).toList).toArray:=by
     apply Array.toList_inj.1;simp
    rw[this];exact a2
   ·have:(cs.toArray++Builtin.zeroCells z.cells (grownCap w m.length 0 e-m.length))=(cs++(Builtin.zeroCells z.cells (grownCap w m.length 0 e-m.length)).toList).toArray:=by
     apply Array.toList_inj.1;simp
    rw[this];exact(S1 κ hs w).trans a3
theorem y12 {o:Oper} {T e:TypeId} {s x:Operand} {ti te:TInfo} (hti:ti.OK P T) (hel:ti.elem=some e) (hte:te.OK P e)
  (ho:o.op=.call { callee:=.builtin .append,args:=#[s,x],argTypes:=#[T,T] }) {ρs:Env} {hs:Heap} {id':Nat} (hf:hs id'=.fresh) {sx:SV} {m:List te.ty.den}
  (h1:ev ρs s=.one .nils) (h2:ev ρs x=.one sx) (hl:B5 hs te.ty sx=some m) (hroom:C1 m.length te.bytes=true) (hpos:1<=te.size) (hsz:te.ty.size=te.size) :
  A6 P L w0 o ρs hs (upd hs id' (.arr e te.ty m)) (.one (.own id')):=by
 refine I3 (fun c hc=>by rw[ho]at hc;cases hc) fun κ a w hev ok=>?_
 have hsv:=hev s
 rw[h1]at hsv
 have hsv':a.eval s=.slice none 0 0:=hsv
 have hxv:=hev x
 rw[h2]at hxv
 obtain⟨κ',v,w',c1,c2,c3,c4⟩:=z4i (T:=T) (ty:=o.type) ok hti hel hte hf hroom hpos hsz (q6u ok hxv hl)
 exact⟨κ',v,w',q0p ho (by rw[hsv'];exact c1),c2,c3,c4⟩
theorem y18 {o:Oper} {T e:TypeId} {s x:Operand} {ti te:TInfo} (hti:ti.OK P T) (hel:ti.elem=some e) (hte:te.OK P e)
  (ho:o.op=.call { callee:=.builtin .append,args:=#[s,x],argTypes:=#[T,T] }) {ρs:Env} {hs:Heap} {id id':Nat} (hf:hs id'=.fresh) {sx:SV} {l m:List te.ty.den}
  (h1:ev ρs s=.one (.own id)) (hid:hs id=.arr e te.ty l) (h2:ev ρs x=.one sx) (hl:B5 hs te.ty sx=some m) (hroom:C1 (l.length+m.length) te.bytes=true) (hpos:1<=te.size) (hsz:te.ty.size=te.size) :
  A6 P L w0 o ρs hs (upd (upd hs id .dead) id' (.arr e te.ty (l++m))) (.one (.own id')):=by
 refine I3 (fun c hc=>by rw[ho]at hc;cases hc) fun κ a w hev ok=>?_
 have hsv:=(hev s)
 rw[h1]at hsv
 have hxv:=hev x
 rw[h2]at hxv
 have hcells:=q6u ok hxv hl
 have hsv':=hsv.1
 rw[hid]at hsv'
 have hlive:(hs id).live=true:=by rw[hid];rfl
 have hobj:=ok.obj id
 rw[hid]at hobj
 have hgone:(hs id).gone .dead:=by rw[hid];simp[AObj.gone]
 have hne:id'≠id:=fun h=>by rw[h,hid]at hf;cases hf
 rcases hsv' with⟨hk,hnil,hv⟩ | ⟨b,cap,hk,hv⟩
 ·subst hnil
  have okD:=X1 ok hgone
  have exD:=S2 (L:=L) (κ:=κ) (w:=w) hgone
  obtain⟨sa,cap,hxe,hxc⟩:=hcells
  obtain⟨κ',v,w',c1,c2,c3,c4⟩:=z4i (T:=T) (ty:=o.type) (xv:=a.eval x) okD hti hel hte (by rw[A0 _ _ hne];exact hf) (m:=m) (by simpa using hroom) hpos hsz
   ⟨sa,cap,hxe,by
    rcases hxc with hxc | ⟨ad,cs,d1,d2,d3,d4,d5⟩
    ·exact .inl hxc
    ·exact .inr ⟨ad,cs,d1,d2,d3,d4,d5.mono exD.free⟩⟩
  exact⟨κ',v,w',q0p ho (by rw[show a.eval s=_ from hv];exact c1),c2,c3,exD.trans c4⟩
 ·obtain⟨-,d,hd,-,hde,-⟩:=hti.base
  have ht:P.underlying T=some (.slice e):=by
   rcases hde with hde | ⟨e',he',hde⟩
   ·rw[hel]at hde;cases hde
   ·rw[hel]at he';cases he';rw[hd,hde]
  obtain⟨i,z,hi,hisz,hiby,hiz,hzs,-,-,hz1⟩:=hte.zero_one (L:=L)
  obtain⟨hb1,hb2⟩:=q4z hroom
  obtain⟨sa,xcap,hxe,hxc⟩:=hcells
  rcases hobj with⟨hk',_⟩ | ⟨b',cap',cur,hk',hheap,hcsz,hcm,hll,hone,hel'⟩
  ·rw[hk]at hk';cases hk'
  rw[hk]at hk';simp at hk';obtain⟨rfl,rfl⟩:=hk'
  have hown:=ok.own id b cap hlive hk
  obtain⟨cap,off⟩:=cap
  simp only at hcsz hcm hll hel' hv
  have hLl:ListCells w (A4 L κ hs w) te.ty (cur.toList.drop off) l:=fun j y hy=>RepAt.congr te.ty _ _ y (fun c hc=>by simp only[hc,if_true,List.getElem?_drop,Array.getElem?_toList,Nat.add_assoc]) (hel' j y hy)
  have hlsz0:l.length*te.ty.size<=cap*te.ty.size:=Nat.mul_le_mul_right _ hll
  have hlsz:off+l.length*te.ty.size<=cur.size:=by omega
  have room:∀ (cs:List Value) (w':World),cs.length=m.length*te.ty.size->(∀ u∈cs,u.oneCell'=true)->ListCells w (A4 L κ hs w) te.ty cs m->l.length+m.length<=cap ->
    w'=w.setRow b (cur.toList.take (off+l.length*te.ty.size)++cs++cur.toList.drop (off+l.length*te.ty.size+cs.length)).toArray ->
    ∃ κ',HeapOK L w0 κ' (upd (upd hs id .dead) id' (.arr e te.ty (l++m))) w'/\RepAV L κ' (upd (upd hs id .dead) id' (.arr e te.ty (l++m))) w' (.one (.own id')) (.slice (some ⟨b,off,none⟩) (l.length+m.length) cap) /\
     Ext L κ hs w κ' (upd (upd hs id .dead) id' (.arr e te.ty (l++m))) w':=by
   intro cs w' c1 c3 c4 hfit hw'
   have hsize:w'.heap.size=w.heap.size:=by rw[hw'];simp
   have hoth:∀ b',b'≠b->w'.heap[b']? = w.heap[b']?:=fun b' hne=>by rw[hw'];exact setRow_other w b b' _ hne
   have hbel:Below w0.heap.size w0 w':=by rw[hw'];exact Y9 _ ok.below hown.1
   have hx:=q3t (L:=L) (κ:=κ) (h:=hs) (c':=(cap,off)) (obj':=.arr e te.ty (l++m)) hlive (by rw[hid];simp) hk hf (.inl (.inl ⟨_,_,_,hheap⟩)) hsize hoth
   have hfit':(l.length+m.length)*te.ty.size<=cap*te.ty.size:=Nat.mul_le_mul_right _ hfit
   rw[Nat.add_mul]at hfit'
   have htl:(cur.toList.take (off+l.length*te.ty.size)).length=off+l.length*te.ty.size:=by simp;omega
   refine⟨_,q6n ok hlive (by rw[hid];simp) hk hf (.inl (.inl ⟨_,_,_,hheap⟩)) hsize hoth hbel (U9 (A1 _ _ _) (by rw[hw'];exact setRow_heap w b _ _ e (0,0) hheap) ?_ hcm (by simpa using hfit) (fun u hu=>?_) ?_),⟨?_,rfl⟩,hx⟩
   ·simp only[List.length_append,htl,List.length_drop,Array.length_toList,c1];omega
   ·rcases List.mem_append.1 hu with hu | hu
    ·rcases List.mem_append.1 hu with hu | hu
     ·exact hone u (List.mem_of_mem_take hu)
     ·exact c3 u hu
    ·exact hone u (List.mem_of_mem_drop hu)
   ·have htd:((cur.toList.drop off).take (l.length*te.ty.size)).length=l.length*te.ty.size:=by simp;omega
    show ListCells w' _ te.ty (List.drop off _) _
    rw[j5s _ _ _ (by simpa using hlsz)]
    refine ListCells.more ?_ (ListCells.append htd (hLl.take.mono hx.free) (c4.mono hx.free))
    simp only[List.length_append,htd,c1,Nat.add_mul];omega
   ·rw[A1]
    exact .inr ⟨b,(cap,off),A1 _ _ _,by rw[List.length_append]⟩
  rcases hxc with⟨rfl,hm⟩ | ⟨ad,cs,rfl,c1,c2,c3,c4⟩
  ·subst hm
   have hself:w=w.setRow b (cur.toList.take (off+l.length*te.ty.size)++[]++cur.toList.drop (off+l.length*te.ty.size+([]:List Value).length)).toArray:=by
    simp only[List.append_nil,List.length_nil,Nat.add_zero,List.take_append_drop,Array.toArray_toList]
    exact(setRow_self w b cur e (0,0) hheap).symm
   obtain⟨κ',a1,a2,a3⟩:=room [] w (by simp) (fun u hu=>by simp at hu) (fun i y hy=>by simp at hy) (by simpa using hll) hself
   refine⟨κ',_,w,q0p ho ?_,a1,a2,a3⟩
   rw[show a.eval s=_ from hv,show a.eval x=_ from hxe]
   simpa using j0c ht hi w none xcap l.length cap (some ⟨b,off,none⟩) hll
  ·by_cases hfit:l.length+m.length<=cap
   ·have hfit':(l.length+m.length)*te.ty.size<=cap*te.ty.size:=Nat.mul_le_mul_right _ hfit
    rw[Nat.add_mul]at hfit'
    have hr:=y0o (P:=P) T o.type e i ht hi w b off l.length cap cur hheap ad m.length xcap cs (by rw[c1,hisz,hsz]) c2 c3 hfit (by rw[hisz,<-hsz,c1];omega)
    rw[hisz,<-hsz]at hr
    obtain⟨κ',a1,a2,a3⟩:=room cs _ c1 c3 c4 hfit rfl
    exact⟨κ',_,_,q0p ho (by rw[show a.eval s=_ from hv,show a.eval x=_ from hxe];exact hr),a1,a2,a3⟩
   ·have okD:=X1 ok hgone
    have exD:=S2 (L:=L) (κ:=κ) (w:=w) hgone
    have htl:((cur.toList.drop off).take (l.length*te.ty.size)).length=l.length*te.ty.size:=by simp;omega
    have hr:=run_append_grow (P:=P) w T o.type e i z ht hi hiz ⟨b,off,none⟩ l.length cap ((cur.toList.drop off).take (l.length*te.ty.size)) (by rw[htl,hisz,hsz]) (fun j v hj=>by
     have hjl:j<l.length*te.ty.size:=by have:=(List.getElem?_eq_some_iff.1 hj).1;omega
     rw[List.getElem?_take_of_lt hjl,List.getElem?_drop]at hj
     rw[P0]
     simp only[World.cell?,hheap,Option.isSome_none,Bool.false_eq_true,if_false]
     simpa using hj) ad m.length xcap cs (by rw[c1,hisz,hsz]) c2 (by omega) (by omega) (growslice_fits (by omega) (by rw[hiby];exact hb2))
    have hge:=grownCap_ge w (l.length+m.length) cap e
    have hcm':grownCap w (l.length+m.length) cap e<=maxLen:=grownCap_le_maxLen w _ cap e (by simp only[maxLen];omega)
    have hlen:(l++m).length=l.length+m.length:=List.length_append
    obtain⟨κ',a1,a2,a3⟩:=q96 (q3v okD) (id':=id') (by rw[A0 _ _ hne];exact hf) (e:=e) (t:=te.ty) (l:=l++m) (cs:=(cur.toList.drop off).take (l.length*te.ty.size)++cs)
     (rest:=(Builtin.zeroCells z.cells (grownCap w (l.length+m.length) cap e-(l.length+m.length))).toList) (cap:=grownCap w (l.length+m.length) cap e)
     (by rw[List.length_append,htl,c1,hlen,Nat.add_mul]) (by rw[Array.length_toList,size_zeroCells,hzs,hsz,hlen]) (by rw[hlen];exact hge) hcm' (fun u hu=>by
      rcases List.mem_append.1 hu with hu | hu
      ·exact hone u (List.mem_of_mem_drop (List.mem_of_mem_take hu))
      ·exact c3 u hu) (q8w hz1 _) ((ListCells.append htl (hLl.take.mono exD.free) (c4.mono exD.free)).mono (S1 κ _ w).free)
    have harr:(((cur.toList.drop off).take (l.length*te.ty.size)).toArray++cs.toArray++Builtin.zeroCells z.cells (grownCap w (l.length+m.length) cap e-(l.length+m.length))) =
      (((cur.toList.drop off).take (l.length*te.ty.size)++cs)++(Builtin.zeroCells z.cells (grownCap w (l.length+m.length) cap e-(l.length+m.length))).toList).toArray:=by
     apply Array.toList_inj.1;simp
    rw[harr]at hr
    rw[hlen]at a2
    exact⟨κ',_,_,q0p ho (by rw[show a.eval s=_ from hv,show a.eval x=_ from hxe];exact hr),a1,a2,(exD.trans (S1 κ _ w)).trans a3⟩
theorem z1g {a:Act} {o:Oper} {s x:Operand} {T T':TypeId} (ho:o.op=.call { callee:=.builtin .copy,args:=#[s,x],argTypes:=#[T,T'] }) {w w':World} {v:Value}
  (h:(Builtin.copy_ #[T,T'] o.type #[a.eval s,a.eval x]).run P w=.ok v w'):(execOp a.eval o).run P w=.ok (.value v) w':=by
 unfold execOp
 simp only[ho,resolve,invoke,builtin,Sem.run_bind,Sem.run_pure,Result.andThen_ok,List.map_toArray,List.map_cons,List.map_nil,h]
theorem j0d {T T' ty e:TypeId} {i:TypeInfo} (ht:P.underlying T=some (.slice e)) (hi:P.info? e=some i) (w:World) (sa base:Option Addr) (n c dn dc:Nat) (h0:Nat.min n dn=0) :
  (Builtin.copy_ #[T,T'] ty #[.slice base dn dc,.slice sa n c]).run P w=.ok (goInt 0) w:=by
 cases sa<;>cases base<;>simp[Builtin.copy_,run_underlying ht,sizeOf,typeInfo,hi,Builtin.lenOf,Builtin.firstCells,loadCells,loadCellsFrom,h0,storeCells]
theorem ListCells.pick {w:World} {A:Nat->Prop} {t:Ty} {cs cs':List Value} {l:List t.den} (ht:t.size=1) (h:ListCells w A t cs l) {i:Nat} {y:t.den} (hy:l[i]? = some y) (hc:cs'[i]? = cs[i]?) :
  RepAt w A t (fun c=>if c<t.size then cs'[i*t.size+c]? else none) y:=by
 refine RepAt.congr t _ _ y (fun c hc'=>?_) (h i y hy)
 have h0:c=0:=by omega
 subst h0
 simp only[ht,Nat.mul_one,Nat.add_zero,hc]
theorem q2z {α:Type} (f:Nat->α) (i:Nat) (v:α) (h:f i=v):upd f i v=f:=by
 funext j
 by_cases hj:j=i
 ·subst hj;rw[A1,h]
 ·rw[A0 _ _ hj]
theorem j5l {α:Type} (l m:List α) (h:Nat.min m.length l.length=0):m.take l.length++l.drop m.length=l:=by
 rcases Nat.le_total m.length l.length with h1 | h1
 ·have h2:m.length=0:=by rw[<-h];exact(Nat.min_eq_left h1).symm
  have:m=[]:=List.length_eq_zero_iff.1 h2
  subst this;simp
 ·have h2:l.length=0:=by rw[<-h];exact(Nat.min_eq_right h1).symm
  have:l=[]:=List.length_eq_zero_iff.1 h2
  subst this;simp
theorem y1l {o:Oper} {T T' e:TypeId} {s x:Operand} {ti te:TInfo} (hti:ti.OK P T) (hel:ti.elem=some e) (hte:te.OK P e)
  (ho:o.op=.call { callee:=.builtin .copy,args:=#[s,x],argTypes:=#[T,T'] }) {ρs:Env} {hs:Heap} {id:Nat} {sx:SV} {l m:List te.ty.den}
  (h1:ev ρs s=.one (.own id)) (hid:hs id=.arr e te.ty l) (h2:ev ρs x=.one sx) (hl:B5 hs te.ty sx=some m) (hs1:te.size=1) (ht1:te.ty.size=1) :
  A6 P L w0 o ρs hs (upd hs id (.arr e te.ty (m.take l.length++l.drop m.length))) (D8 .i64 (Nat.min m.length l.length:Nat)):=by
 refine I3 (fun c hc=>by rw[ho]at hc;cases hc) fun κ a w hev ok=>?_
 have hsv:=(hev s)
 rw[h1]at hsv
 have hxv:=hev x
 rw[h2]at hxv
 obtain⟨sa,xcap,hxe,hxc⟩:=q6u ok hxv hl
 have hsv':=hsv.1
 rw[hid]at hsv'
 have hlive:(hs id).live=true:=by rw[hid];rfl
 have hobj:=ok.obj id
 rw[hid]at hobj
 obtain⟨-,d,hd,-,hde,-⟩:=hti.base
 have ht:P.underlying T=some (.slice e):=by
  rcases hde with hde | ⟨e',he',hde⟩
  ·rw[hel]at hde;cases hde
  ·rw[hel]at he';cases he';rw[hd,hde]
 obtain⟨i,z,hi,hisz,-⟩:=hte.zero_one (L:=L)
 by_cases hmin:Nat.min m.length l.length=0
 ·rw[j5l l m hmin,q2z hs id _ hid,hmin]
  obtain⟨base,dc,hv⟩:∃ base dc,a.eval s=.slice base l.length dc:=by
   rcases hsv' with⟨-,hnil,hv⟩ | ⟨b,cap,-,hv⟩
   ·subst hnil;exact⟨none,0,hv⟩
   ·exact⟨_,_,hv⟩
  exact⟨κ,_,w,z1g ho (by rw[hv,hxe];exact j0d ht hi w sa base m.length xcap l.length dc hmin),ok,G7 _ _,Ext.refl L κ hs w⟩
 ·rcases hsv' with⟨-,hnil,-⟩ | ⟨b,cap,hk,hv⟩
  ·subst hnil;exact absurd (by simp) hmin
  rcases hxc with⟨-,hm⟩ | ⟨ad,cs,rfl,c1,c2,c3,c4⟩
  ·subst hm;exact absurd (by simp) hmin
  rcases hobj with⟨hk',_⟩ | ⟨b',cap',cur,hk',hheap,hcsz,hcm,hll,hone,hel'⟩
  ·rw[hk]at hk';cases hk'
  rw[hk]at hk';simp at hk';obtain⟨rfl,rfl⟩:=hk'
  have hown:=ok.own id b cap hlive hk
  obtain⟨cap,off⟩:=cap
  simp only at hcsz hcm hll hel' hv
  have hLl:ListCells w (A4 L κ hs w) te.ty (cur.toList.drop off) l:=fun j y hy=>RepAt.congr te.ty _ _ y (fun c hc=>by simp only[hc,if_true,List.getElem?_drop,Array.getElem?_toList,Nat.add_assoc]) (hel' j y hy)
  have c1:cs.length=m.length:=by rw[c1,ht1,Nat.mul_one]
  have hcsz:off+cap<=cur.size:=by rw[ht1,Nat.mul_one]at hcsz;exact hcsz
  have hn1:Nat.min m.length l.length<=m.length:=Nat.min_le_left _ _
  have hn2:Nat.min m.length l.length<=l.length:=Nat.min_le_right _ _
  have hn3:m.length<=l.length->Nat.min m.length l.length=m.length:=fun h=>Nat.min_eq_left h
  have hn4:l.length<=m.length->Nat.min m.length l.length=l.length:=fun h=>Nat.min_eq_right h
  generalize hn:Nat.min m.length l.length=n at hn1 hn2 hn3 hn4 hmin ⊢
  have htl:(cs.take n).length=n:=by rw[List.length_take];omega
  have hr:=run_copy_row P w T T' o.type e b off l.length cap ad m.length xcap cur e (cs.take n) ht (by rw[hi];simp only[Option.map_some,hisz,hs1]) hheap (by rw[htl];exact hn.symm)
   (fun j v hj=>by
    have hjn:j<n:=by have:=(List.getElem?_eq_some_iff.1 hj).1;omega
    rw[List.getElem?_take_of_lt hjn]at hj
    exact c2 j v hj) (by rw[htl];omega) (fun v hv=>c3 v (List.mem_of_mem_take hv))
  rw[htl]at hr
  have hlike:(hs id).like (.arr e te.ty (m.take l.length++l.drop m.length)):=by
   rw[hid]
   refine⟨rfl,rfl,?_⟩
   simp only[List.length_append,List.length_take,List.length_drop]
   omega
  let w':=w.setRow b (cur.toList.take off++cs.take n++cur.toList.drop (off+n)).toArray
  have hsize:w'.heap.size=w.heap.size:=by simp[w']
  have hoth:∀ b',b'≠b->w'.heap[b']? = w.heap[b']?:=fun b' hne=>setRow_other w b b' _ hne
  have extW:=N5 (L:=L) (κ:=κ) (h:=hs) hk hlike (.inl (.inl ⟨_,_,_,hheap⟩)) hsize hoth
  have hheap':w'.heap[b]? = some (.cells (cur.toList.take off++cs.take n++cur.toList.drop (off+n)).toArray e (0,0)):=setRow_heap w b _ _ e (0,0) hheap
  refine⟨κ,_,w',z1g ho (by rw[hv,hxe];exact hr),P3 ok hk hlike hsize hoth (Y9 _ ok.below hown.1) ?_,G7 _ _,extW⟩
  have hlen':(m.take l.length++l.drop m.length).length=l.length:=by
   simp only[List.length_append,List.length_take,List.length_drop];omega
  refine U9 hk hheap' ?_ hcm (by rw[hlen'];exact hll) (fun u hu=>?_) (fun j y hy=>?_)
  ·simp only[List.length_append,List.length_take,htl,List.length_drop,Array.length_toList,ht1,Nat.mul_one];omega
  ·rcases List.mem_append.1 hu with hu | hu
   ·rcases List.mem_append.1 hu with hu | hu
    ·exact hone u (List.mem_of_mem_take hu)
    ·exact c3 u (List.mem_of_mem_take hu)
   ·exact hone u (List.mem_of_mem_drop hu)
  ·have hjl:j<l.length:=by rw[<-hlen'];exact(List.getElem?_eq_some_iff.1 hy).1
   have hto:(cur.toList.take off).length=off:=by rw[List.length_take,Array.length_toList];omega
   have hdr:List.drop off (cur.toList.take off++cs.take n++cur.toList.drop (off+n))=cs.take n++cur.toList.drop (off+n):=by
    rw[List.append_assoc,List.drop_append_of_le_length (by omega),List.drop_eq_nil_of_le (by omega),List.nil_append]
   show RepAt w' _ te.ty (fun c=>if c<te.ty.size then(List.drop off _)[j*te.ty.size+c]? else none) y
   rw[hdr]
   by_cases hj:j<n
   ·have hy':m[j]? = some y:=by
     rw[List.getElem?_append_left (by rw[List.length_take];omega),List.getElem?_take_of_lt hjl]at hy
     exact hy
    refine ListCells.pick ht1 (c4.mono extW.free) hy' ?_
    rw[List.getElem?_append_left (by omega),List.getElem?_take_of_lt hj]
   ·have hml:m.length=n:=by
     rcases Nat.le_total m.length l.length with h | h
     ·exact(hn3 h).symm
     ·have:=hn4 h;omega
    have hy':l[j]? = some y:=by
     rw[List.getElem?_append_right (by rw[List.length_take];omega),List.getElem?_drop,List.length_take]at hy
     rw[<-hy];congr 1;omega
    refine ListCells.pick ht1 (hLl.mono extW.free) hy' ?_
    rw[List.getElem?_append_right (by omega),List.getElem?_drop,htl,List.getElem?_drop]
    congr 1;omega
end Go.Abs
