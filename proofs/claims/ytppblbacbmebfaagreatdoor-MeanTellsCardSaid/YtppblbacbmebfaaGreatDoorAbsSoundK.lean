/- The engine: arrays of structs that own a cell. -/
import Derived.Test.YtppblbacbmebfaaGreatDoorAbsSoundM
namespace Go.Abs
open Go Go.RowKit
variable {P:Program} {L:Nat->Prop} {w0:World}
theorem z5p {h:Heap} {t:KTy} {g:Nat} {x:t.den} (a:t.back h (h g)=some x):∀ e b c d l k f,h g≠.arrK e b c d l k f:=by
 intro e b c d l k f i
 rw[i]at a;cases t<;>cases a
theorem q6r {κ:A2} {h:Heap} {w:World} (D:HeapOK L w0 κ h w) {id:Nat} {e:TypeId} {t:Ty} {c:Nat} {d:KTy} {l:List t.den} {k k1:List d.den} {f:Option (Nat×Nat)} {u:List (Nat×AObj)} (a:h id=.arrK e t c d l k f) (G:M2 h d k f=some (k1,u)) :
  ∃ n,(HeapOK L w0 n (upd (A5 u h) id (.arrK e t c d l k1 none)) w/\Ext L κ h w n (upd (A5 u h) id (.arrK e t c d l k1 none)) w)/\(∀ b,A3 L κ h w b->A3 L n (upd (A5 u h) id (.arrK e t c d l k1 none)) w b)/\k1.length=k.length/\∀ p∈u,p.1≠id/\(h p.1).Held:=by
 cases f with
 | none =>
  cases G
  have Y:upd (A5 [] h) id (.arrK e t c d l k none)=h:=q48 h id _ a
  grind[Ext.refl]
 | some q =>
  obtain⟨i,g⟩:=q
  simp[M2,Option.map_eq_some_iff,Prod.mk.injEq]at G
  obtain⟨x,E,rfl,rfl⟩:=G
  have B:=D.obj id
  rw[a]at B
  rcases B with⟨_,_,_,h3⟩ | ⟨b,H,K,r1,S,X,V,W,M,Q,r8,U,s⟩
  ·grind
  have J:g≠id:=fun z=>z5p E e t c d l k (some (i,g)) ((congrArg h z).trans a)
  have A:(h g).live=true/\(h g).Held:=by
   cases d<;>cases N:h g<;>rw[N]at E<;>first | cases E;done | exact⟨rfl,by simp⟩
  obtain⟨O,R⟩:=z65 (i:=i) D (id:=id) (g:=g) (obj':=.arrK e t c d l (k.set i x) none) (by simp_all) (by rw[a];rfl) A.1 A.2 J (by rw[a];exact .arrK _ _ _ _ _ _ _ _ _ _ rfl) (fun I=>by
   refine .inr ⟨b,H,K,?_,S,X,V,W,M,Q,by grind,fun j y o=>RepAt.mono (fun b T=>⟨I b T,rfl⟩) t _ y (U j y o),fun j y o=>?_⟩
   ·rw[A0 _ _ (fun z=>I3 D (by grind) id i z.symm)];omega
   ·by_cases m:j=i
    ·subst m
     have r:j<k.length:=by grind
     rw[List.getElem?_set_self r]at o
     cases o
     obtain⟨v,F,C⟩:=s j k[j] (List.getElem?_eq_getElem r)
     rw[q5i]at C
     exact⟨v,F,(q4f D I E C.1 (A1 _ _ _)).1⟩
    ·rw[List.getElem?_set_ne (Ne.symm m)]at o
     obtain⟨v,F,C⟩:=s j y o
     rw[q2x (Ne.symm m)]at C
     exact⟨v,F,RepKid.at I (A0 _ _ (fun z=>m (N0 z).2)) C⟩)
  exact⟨_,O,R,by simp,fun p Z=>by grind⟩
theorem y6y {κ:A2} {h:Heap} {w:World} {t:Ty} {y:t.den} {b o c:Nat} {a:Array Value} {e:TypeId} (m:w.heap[b]? = some (.cells a e (0,0))) (l:RepAt w (A3 L κ h w) t (R7 c fun j=>if j<t.size then a[o+j]? else none) y) (g:o+c<a.size) (h1:∀ c∈a.toList,c.oneCell'=true) :
  ∀ (i:Nat) (s:SV),(z0j t c y)[i]? = some s->∃ v,w.cell? ⟨b,o+i,none⟩=some v/\RepSV L κ h w s v/\v.oneCell'=true:=by
 intro i s k
 have d:∀ j,w.cell? ⟨b,o+j,none⟩=a[o+j]?:=fun j=>by grind[World.cell?]
 rw[d]
 by_cases f:i=c
 ·subst f
  refine⟨a[o+i],Array.getElem?_eq_getElem g,?_,h1 _ (by simp)⟩
  rw[z0j,List.getElem?_set_self (by grind)]at k
  cases k;trivial
 grind[z0j,T2,R7]
theorem v5e {R:Type} {o:Oper} {T:TypeId} {x:Operand} {ti:TInfo} (hti:ti.OK P T) (ho:o.op=.load T x) {ρ:Env} {h:Heap} {id id' i c:Nat} {tt:Ty} (hx:ev ρ x=.one (.eptr id tt i c)) {K:Eff->Option R} {z:R}
  (J:z7m ti h id' id tt i c K=some z):∃ q,K q=some z/\q.full=none/\∀ r d,ev r x=ev ρ x->(∀ j∈q.rd,d j=h j)->(∀ p∈q.ups,d p.1=h p.1)->A6 P L w0 o r d (q.heap d) q.av:=by
 have I:∀ c,o.op≠.defer c:=fun c hc=>by grind
 unfold z7m at J
 split at J
 ·rename_i e t c0 B l k f hid
  obtain⟨htt,J⟩:=A8 J
  have htt:=Nat.eq_of_beq_eq_true htt
  cases A:(Nat.beq c c0&&Nat.beq ti.size 1&&!ti.agg)with
  | false =>
   rw[A,cond_false]at J
   obtain⟨y,hy,J⟩:=Option.bind_eq_some_iff.1 J
   obtain⟨av,h1,h2⟩:=q5j (L:=L) hti J
   refine⟨_,h1,rfl,fun r d G hh _=>D1 I fun N a w E ok=>?_⟩
   have hxr:=E x
   rw[G,hx]at hxr
   obtain⟨_,b,m,hk,hv⟩:=hxr
   have M:=ok.obj id
   rw[hh id (by simp[E9]),hid]at M
   rcases M with⟨h3,_⟩ | ⟨b',cap',n,U,r2,r3,r4,r5,r6,r7,r8,r9,H⟩
   ·grind
   rw[hk]at U;simp at U;obtain⟨rfl,rfl⟩:=U
   have hilt:i<l.length:=(List.getElem?_eq_some_iff.1 hy).1
   have hcap:(i+1)*t.size<=m.1*t.size:=Nat.mul_le_mul_right _ (by omega)
   have hsucc:(i+1)*t.size=i*t.size+t.size:=Nat.succ_mul _ _
   obtain⟨v,hv1,hv2⟩:=h2 N d w b (m.2+i*t.size) (y6y r2 (r9 i y hy) (by omega) r6)
   rw[htt]at hv
   exact⟨v,q3m ho hv w hv1,hv2⟩
  | true =>
   rw[A,cond_true]at J
   simp only[Bool.and_eq_true,Bool.not_eq_true']at A
   obtain⟨⟨c2,c3⟩,c4⟩:=A
   have c2:=Nat.eq_of_beq_eq_true c2
   subst c2
   split at J
   ·rename_i C u hcl
    obtain⟨y,hy,he3⟩:=Option.bind_eq_some_iff.1 J
    obtain⟨hfr,he4⟩:=O2 he3
    have W:∀ (d:Heap),d id=h id->(∀ p∈u,d p.1=h p.1)->∀ r,ev r x=ev ρ x->∀ N (a:Act) w,(∀ x,RepAV L N d w (ev r x) (a.eval x))->HeapOK L w0 N d w ->
      ∃ κ1 b m n v,(HeapOK L w0 κ1 (upd (A5 u d) id (.arrK e t c B l C none)) w/\Ext L N d w κ1 (upd (A5 u d) id (.arrK e t c B l C none)) w)/\(∀ p∈u,p.1≠id/\(d p.1).Held) /\
       κ1 id=some (b,m)/\w.heap[b]? = some (.cells n e (0,0))/\m.2+m.1*t.size<=n.size/\m.1<=maxLen/\l.length<=m.1/\(∀ c∈n.toList,c.oneCell'=true)/\c<t.size/\C.length<=l.length /\
       (∀ j y,l[j]? = some y->RepAt w (A3 L κ1 (upd (A5 u d) id (.arrK e t c B l C none)) w) t (R7 c fun q=>if q<t.size then n[m.2+j*t.size+q]? else none) y) /\
       (∀ j y,C[j]? = some y->∃ v,n[m.2+j*t.size+c]? = some v/\RepKid L κ1 (upd (A5 u d) id (.arrK e t c B l C none)) w (kn id j) B v y) /\
       RepKid L κ1 (upd (A5 u d) id (.arrK e t c B l C none)) w (kn id i) B v y/\n[m.2+i*t.size+c]? = some v/\(execOp a.eval o).run P w=.ok (.value v) w:=by
     intro d hsid hsu r G N a w E ok
     have hids:d id=.arrK e t c B l k f:=hsid.trans hid
     obtain⟨κ1,h1,h2,h3,h4⟩:=q6r ok hids (q6o hcl hsu)
     have M:=h1.1.obj id
     rw[A1]at M
     rcases M with⟨_,_,hl,_⟩ | ⟨b,m,n,U,r2,r3,r4,r5,r6,r7,r8,r9,H⟩
     ·grind
     obtain⟨v,v1,v2⟩:=H i y hy
     have hxv:=E x
     rw[G,hx]at hxv
     obtain⟨hh,b',cap',q1,q2⟩:=hxv
     have:=(h1.2.place id hh).trans q1
     rw[U]at this
     simp[Option.some.injEq,Prod.mk.injEq]at this
     obtain⟨rfl,rfl⟩:=this
     refine⟨κ1,b,m,n,v,h1,h4,U,r2,r3,r4,r5,r6,r7,r8,r9,fun j y hj=>?_,v2,v1,?_⟩
     ·obtain⟨v,a1,a2⟩:=H j y hj;exact⟨v,a1,a2⟩
     grind[q3m,j88,World.cell?]
    obtain⟨s,og,hk,D⟩:=j0i he4
    cases og with
    | none =>
     refine⟨_,hk,rfl,fun r d G Z O=>I4 I fun N a w E ok=>?_⟩
     obtain⟨κ1,b,m,n,v,h1,h4,U,r2,r3,r4,r5,r6,r7,r8,r9,H,v2,v1,hex⟩:=W d (Z id (by simp)) (fun p hp=>O p (by grind)) r G N a w E ok
     have F:Eff.heap { av:=.one s,rd:=[id],ups:=u++[(id,.arrK e t c B l C none)],full:=none } d=upd (A5 u d) id (.arrK e t c B l C none):=by
      show A5 (u++_) d=_
      rw[I9];rfl
     rw[F]
     refine⟨κ1,v,w,hex,h1.1,?_,h1.2⟩
     cases B with
     | arr e2 t2=>cases D
     | map ak av k vt=>cases y with
      | none=>cases D;exact v2.2
      | some l2=>cases D
     | ptr t2=>cases y with
      | none=>cases D;exact v2.2
      | some l2=>cases D
    | some og =>
     refine⟨_,hk,rfl,fun r d G Z O=>I4 I fun N a w E ok=>?_⟩
     obtain⟨κ1,b,m,n,v,h1,h4,U,r2,r3,r4,r5,r6,r7,r8,r9,H,v2,v1,hex⟩:=W d (Z id (by simp)) (fun p hp=>O p (by grind)) r G N a w E ok
     have hfs:d id'=.fresh:=(O (id',og) (by simp)).trans hfr
     have V:id'≠id:=fun e0=>by
      grind
     have Y:upd (A5 u d) id (.arrK e t c B l C none) id'=.fresh:=by
      rw[A0 _ _ V,q3f u d (z55 h4 hfs)];omega
     have hkg:upd (upd κ1 id' (κ1 (kn id i))) (kn id i) none id'=κ1 (kn id i):=by
      rw[A0 _ _ (fun e0=>I3 h1.1 (N8 Y) id i e0.symm),A1]
     obtain⟨g1,g2⟩:=j0k h1.1 (id:=id) (g:=id') (i:=i) (obj':=.arrK e t c B l C (some (i,id'))) (og:=og) (by rw[A1];simp) (by rw[A1];rfl) Y (by rw[A1];exact .arrK _ _ _ _ _ _ _ _ _ _ rfl) (fun hf=>by
      obtain⟨s',o',Q,X,_⟩:=q3r hf hkg v2 D
      simp[Option.some.injEq,Prod.mk.injEq]at Q
      obtain⟨rfl,rfl⟩:=Q
      obtain⟨hs1,hs2⟩:=X
      obtain⟨C,k2,k3,k4⟩:=hs2 (A1 _ _ _)
      subst hs1
      refine⟨.inr ⟨b,m,n,?_,r2,r3,r4,r5,r6,r7,r8,fun j y' hj=>RepAt.mono (fun b hb=>⟨hf b hb,rfl⟩) t _ y' (r9 j y' hj),fun j y' hj=>?_⟩,k2⟩
      ·rw[A0 _ _ (fun e0=>I3 h1.1 (by grind[A1]) id i e0.symm),A0 _ _ (Ne.symm V)];omega
      ·by_cases hji:i=j
       ·subst hji
        rw[q5i]
        exact⟨v,v1,C,by grind[A1]⟩
       ·rw[q2x hji]
        obtain⟨v',a1,a2⟩:=H j y' hj
        refine⟨v',a1,RepKid.at hf ?_ a2⟩
        rw[A0 _ _ (fun e0=>hji (N0 e0).2.symm),A0 _ _ (I3 h1.1 (N8 Y) id j)])
     have F:Eff.heap { av:=.one s,rd:=[id],ups:=u++[(id,.arrK e t c B l C (some (i,id'))),(id',og)],full:=none } d=upd (upd (upd (A5 u d) id (.arrK e t c B l C none)) id (.arrK e t c B l C (some (i,id')))) id' og:=by
      show A5 (u++_) d=_
      rw[I9,q11];rfl
     rw[F]
     refine⟨_,v,w,hex,g1.1,?_,h1.2.trans g1.2⟩
     obtain⟨s',o',Q,X,_⟩:=q3r (κ1:=upd (upd κ1 id' (κ1 (kn id i))) (kn id i) none) (h1:=upd (upd (upd (A5 u d) id (.arrK e t c B l C none)) id (.arrK e t c B l C (some (i,id')))) id' og) g2 hkg v2 D
     obtain⟨rfl,rfl⟩:=Q
     obtain⟨hs1,hs2⟩:=X
     exact(hs2 (A1 _ _ _)).1
   grind
 grind
theorem z5y {n i j a b:Nat} (c:a<n) (d:b<n) (h:i*n+a=j*n+b):i=j/\a=b:=by
 rcases Nat.lt_trichotomy i j with q | q | q
 ·have:=Nat.mul_le_mul_right n q;grind
 ·grind
 ·have:=Nat.mul_le_mul_right n q;grind
theorem v6t {κ:A2} {hs:Heap} {w:World} (E:HeapOK L w0 κ hs w) {id g i:Nat} {e:TypeId} {t:Ty} {c:Nat} {d:KTy} {l:List t.den} {k:List d.den} {f:Option (Nat×Nat)} {x:d.den} {v:Value} {b:Nat} {cap:Nat×Nat}
  (z:hs id=.arrK e t c d l k f) (K:d.back hs (hs g)=some x) (hv:RepSV L κ hs w (d.sv g) v) (m:κ id=some (b,cap)) (hi:i<k.length) (hf:∀ j,j≠i->X9 f j=none) :
  ∃ a C A,w.heap[b]? = some (.cells a e (0,0))/\cap.2+i*t.size+c<a.size/\v.oneCell'=true/\A=w.setRow b (C9 a.toList (cap.2+i*t.size+c) [v]).toArray /\
   HeapOK L w0 C (upd (upd hs g .dead) id (.arrK e t c d l (k.set i x) none)) A/\Ext L κ hs w C (upd (upd hs g .dead) id (.arrK e t c d l (k.set i x) none)) A:=by
 obtain⟨-,hgl,S,M⟩:=q4f (n:=g) E (fun b hb=>hb) K hv rfl
 have G:g≠id:=fun Q=>z5p K e t c d l k f ((congrArg hs Q).trans z)
 have J:=E.obj id
 rw[z]at J
 rcases J with⟨O,_⟩ | ⟨H,cap',a,Y,R,r3,r4,r5,r6,U,r8,r9,r10⟩
 ·grind
 rw[m]at Y
 simp[Option.some.injEq,Prod.mk.injEq]at Y
 obtain⟨rfl,rfl⟩:=Y
 have hcap:(i+1)*t.size<=cap.1*t.size:=Nat.mul_le_mul_right _ (by omega)
 have V:(i+1)*t.size=i*t.size+t.size:=Nat.succ_mul _ _
 have X:cap.2+i*t.size+c<a.size:=by omega
 have r:(hs id).live=true:=by rw[z];rfl
 have N:=E.own id b cap r m
 have hle:cap.2+i*t.size+c+[v].length<=a.toList.length:=by grind
 let A:=w.setRow b (C9 a.toList (cap.2+i*t.size+c) [v]).toArray
 have o:(hs id).like (.arrK e t c d l k (some (i,g))):=by rw[z];exact⟨rfl,rfl,rfl,rfl,rfl⟩
 have s:A.heap.size=w.heap.size:=by simp[A]
 have p:∀ H,H≠b->A.heap[H]? = w.heap[H]?:=fun H G=>setRow_other w b H _ G
 have I:=P3 (L:=L) (κ:=κ) (h:=hs) m o (.inl (.inl ⟨_,_,_,R⟩)) s p
 have D:∀ q:Nat,(C9 a.toList (cap.2+i*t.size+c) [v]).toArray[q]? = if q=cap.2+i*t.size+c then some v else a[q]?:=by
  grind[q0w]
 have Z:HeapOK L w0 κ (upd hs id (.arrK e t c d l k (some (i,g)))) A:=by
  refine Q4 E m o s p (X0 _ E.below N.1) (.inr ⟨b,cap,_,m,setRow_heap w b _ _ e (0,0) R,?_,r4,r5,fun c hc=>?_,U,r8,fun j y T=>?_,fun j y T=>?_⟩)
  ·grind[q21]
  ·obtain⟨q,hq⟩:=List.getElem?_of_mem hc
   have:=D q
   grind
  ·refine RepAt.congr t _ _ y (fun q hq=>?_) (RepAt.ext I (r9 j y T))
   simp[R7]
   grind[z5y]
  ·rw[D]
   by_cases B:j=i
   ·subst B
    rw[if_pos rfl,q5i]
    exact⟨v,rfl,RepSV.ext I _ _ hv,I.keeps S⟩
   ·rw[if_neg (fun Q=>B (z5y U U (by omega:j*t.size+c=i*t.size+c)).1),q2x (Ne.symm B)]
    obtain⟨v',a1,a2⟩:=r10 j y T
    rw[hf j B]at a2
    exact⟨v',a1,RepKid.ext I rfl (fun b2 c2 W=>p b2 fun Q=>by
     subst Q
     exact I3 E (by grind) id j (E.inj _ _ b2 c2 cap (Q5 E id j) r W m)) a2⟩
 have hg1:upd hs id (.arrK e t c d l k (some (i,g))) g=hs g:=A0 _ _ G
 obtain⟨C,O,h2,-⟩:=q6r Z (A1 _ _ _) (k1:=k.set i x) (u:=[(g,.dead)]) (by
  grind[M2,q0c])
 have F:upd (A5 [(g,.dead)] (upd hs id (.arrK e t c d l k (some (i,g))))) id (.arrK e t c d l (k.set i x) none)=upd (upd hs g .dead) id (.arrK e t c d l (k.set i x) none):=by
  show upd (upd (upd hs id _) g .dead) id _=_
  grind[j1x,q11]
 rw[F]at O
 exact⟨a,C,A,R,X,M,rfl,O.1,I.trans O.2⟩
theorem v6b {R:Type} {o:Oper} {T:TypeId} {x y:Operand} {ti:TInfo} (hti:ti.OK P T) (ho:o.op=.store T x y) {ρ:Env} {h:Heap} {id i c:Nat} {tt:Ty} (hx:ev ρ x=.one (.eptr id tt i c)) {K:Eff->Option R} {z:R}
  (n:z8f ti h id tt i c (ev ρ y) K=some z):∃ q,K q=some z/\q.full=none/\∀ S C,ev S x=ev ρ x->ev S y=ev ρ y->(∀ j∈q.rd,C j=h j)->(∀ p∈q.ups,C p.1=h p.1)->A6 P L w0 o S C (q.heap C) q.av:=by
 have hdef:∀ c,o.op≠.defer c:=fun c hc=>by grind
 obtain⟨⟨ii,_,hi,hisz,-⟩,-⟩:=hti.base
 unfold z8f at n
 split at n
 ·rename_i e t c0 t1 l k f hid
  obtain⟨htt,n⟩:=A8 n
  have htt:=Nat.eq_of_beq_eq_true htt
  cases r:(Nat.beq c c0&&Nat.beq ti.size 1)with
  | true =>
   rw[r,cond_true]at n
   simp only[Bool.and_eq_true]at r
   obtain⟨c2,c3⟩:=r
   have c2:=Nat.eq_of_beq_eq_true c2
   have c3:=Nat.eq_of_beq_eq_true c3
   subst c2
   split at n
   ·rename_i s hy
    split at n
    ·rename_i x' g0 hput
     obtain⟨yo,hyo,n⟩:=Option.bind_eq_some_iff.1 n
     obtain⟨hg,n⟩:=A8 n
     have G:i<k.length:=(List.getElem?_eq_some_iff.1 hyo).1
     obtain⟨hsv,hbk⟩:=j0r hput
     subst hsv
     have hf:∀ j,j≠i->X9 f j=none:=fun j hj=>by
      split at hg
      ·rfl
      grind[Nat.eq_of_beq_eq_true,q2x]
     refine⟨_,n,rfl,fun S C V U hrd hup=>q0n hdef fun κ a w O X=>?_⟩
     have m:C id=.arrK e t c t1 l k f:=(hrd id (by simp)).trans hid
     have hgs:C g0=h g0:=hup (g0,.dead) (by simp)
     have hxv:=O x
     rw[V,hx]at hxv
     obtain⟨_,b,d,q1,q2⟩:=hxv
     have M:=O y
     rw[U,hy]at M
     obtain⟨g,κ',w',s1,s2,s3,s4,s5,s6⟩:=v6t X m (by rw[hgs,q0c (h:=h)];omega) M q1 G hf
     refine⟨κ',w',q4w ho q2 w w' ?_,s5,s6⟩
     grind[j1l]
    grind
   grind
  | false =>
   rw[r,cond_false]at n
   split at n
   ·rename_i vs hvs
    obtain⟨hc,n⟩:=A8 n
    simp only[Bool.and_eq_true]at hc
    obtain⟨⟨⟨⟨hk,hsz⟩,hap⟩,hfit⟩,hown⟩:=hc
    have hsz:=Nat.eq_of_beq_eq_true hsz
    have hfit:=Nat.le_of_ble_eq_true hfit
    have hap:c+vs.length<=c0\/c0<c:=by
     rcases (Bool.or_eq_true _ _).mp hap with q | q
     ·simp_all
     ·exact .inr (Nat.le_of_ble_eq_true q)
    have hown:F9 vs=[]:=List.isEmpty_iff.1 hown
    obtain⟨y0,hy0,n⟩:=Option.bind_eq_some_iff.1 n
    have W:∀ id',id'∉F9 (C9 (F6 t y0) c vs):=fun id' hm=>by
     have:=j0n (q8i t y0) hm
     grind
    split at n
    ·rename_i y' hd
     refine⟨_,n,rfl,fun S C V U hrd hup=>q0n hdef fun κ a w O X=>?_⟩
     have m:C id=.arrK e t c0 t1 l k f:=(hup (id,.arrK e t c0 t1 (l.set i y') k f) (by simp)).trans hid
     have hxr:=O x
     rw[V,hx]at hxr
     obtain⟨_,b,d,D,hv⟩:=hxr
     have M:=O y
     rw[U]at M
     obtain⟨E,hus,N⟩:=q3h M hvs hk
     have hob:=X.obj id
     rw[m]at hob
     rcases hob with⟨hk',_⟩ | ⟨b',cap',g,hk',B,hcsz,hcm,hll,h1,r7,r8,hel,r10⟩
     ·grind
     rw[D]at hk';simp at hk';obtain⟨rfl,rfl⟩:=hk'
     have G:i<l.length:=(List.getElem?_eq_some_iff.1 hy0).1
     have hcap:(i+1)*t.size<=d.1*t.size:=Nat.mul_le_mul_right _ (by omega)
     have hsucc:(i+1)*t.size=i*t.size+t.size:=Nat.succ_mul _ _
     have hlen:E.length=vs.length:=N.1
     have hule:d.2+i*t.size+c+E.length<=g.size:=by omega
     have hst:=z4n (P:=P) hi (v:=a.eval y) hus (by omega) B hule (q34 N)
     have H:(C id).live=true:=by rw[m];rfl
     have hown':=X.own id b d H D
     let w':=w.setRow b (C9 g.toList (d.2+i*t.size+c) E).toArray
     have I:(C id).like (.arrK e t c0 t1 (l.set i y') k f):=by rw[m];exact⟨rfl,rfl,rfl,rfl,by simp⟩
     have J:w'.heap.size=w.heap.size:=by simp[w']
     have Q:∀ b',b'≠b->w'.heap[b']? = w.heap[b']?:=fun b' hne=>setRow_other w b b' _ hne
     have hX:=P3 (L:=L) (κ:=κ) (h:=C) D I (.inl (.inl ⟨_,_,_,B⟩)) J Q
     have Y:w'.heap[b]? = some (.cells (C9 g.toList (d.2+i*t.size+c) E).toArray e (0,0)):=setRow_heap w b _ _ e (0,0) B
     have F:∀ q:Nat,(C9 g.toList (d.2+i*t.size+c) E).toArray[q]? = if q<d.2+i*t.size+c then g[q]? else if q<d.2+i*t.size+c+E.length then E[q-(d.2+i*t.size+c)]? else g[q]?:=by
      grind[q0w]
     have hoff:∀ j q,q<t.size->(j≠i\/q<c\/c+E.length<=q)->(C9 g.toList (d.2+i*t.size+c) E).toArray[d.2+j*t.size+q]? = g[d.2+j*t.size+q]?:=fun j q A ho=>by
      rw[F]
      by_cases a1:d.2+j*t.size+q<d.2+i*t.size+c
      ·grind
      ·rw[if_neg a1]
       by_cases a2:d.2+j*t.size+q<d.2+i*t.size+c+E.length
       ·exfalso
        have e0:j*t.size+q=i*t.size+(c+(j*t.size+q-(i*t.size+c))):=by omega
        obtain⟨e1,e2⟩:=z5y A (by omega) e0
        omega
       grind
     rw[htt]at hv
     refine⟨κ,w',q4w ho hv w _ hst,Q4 X D I J Q (X0 _ X.below hown'.1) (.inr ⟨b,d,_,D,Y,?_,hcm,by grind,?_,r7,by grind,?_,?_⟩),hX⟩
     ·grind[q21]
     ·intro q A
      obtain⟨j,hj⟩:=List.getElem?_of_mem A
      have hj':=F j
      grind[q34]
     ·intro j u hu
      by_cases hji:j=i
      ·subst hji
       rw[List.getElem?_set_self G]at hu
       cases hu
       refine(U2 X hX t (C9 (F6 t y0) c vs) _ y' [] (fun q s A=>?_) (fun j' hm=>absurd hm (W j')) ((U1 t _ fun id' hm=>absurd hm (W id')).trans hd)).2.2
       have hel':=T2 t _ y0 (hel j y0 hy0)
       have hfit':c+vs.length<=(F6 t y0).length:=by grind[R2]
       have hqlt:q<t.size:=by
        grind[q21,R2]
       rw[q0w _ _ _ hfit']at A
       have old:(F6 t y0)[q]? = some s->(q<c\/c+E.length<=q)->∃ v,R7 c0 (fun q=>if q<t.size then(C9 g.toList (d.2+j*t.size+c) E).toArray[d.2+j*t.size+q]? else none) q=some v/\RepSV L κ C w s v/\v.oneCell'=true:=fun hs' ha=>by
        obtain⟨v,v1,v2⟩:=hel' q s hs'
        grind[R7]
       by_cases q1:q<c
       ·rw[if_pos q1]at A
        exact old A (.inl q1)
       ·rw[if_neg q1]at A
        by_cases q2:q<c+vs.length
        ·rw[if_pos q2]at A
         obtain⟨v,v1,v2⟩:=W3 N A
         refine⟨v,?_,v2⟩
         simp only[R7]
         rw[if_neg (by omega),if_pos hqlt,F,if_neg (by omega),if_pos (by omega),show d.2+j*t.size+q-(d.2+j*t.size+c)=q-c from by omega]
         exact v1
        ·rw[if_neg q2]at A
         exact old A (.inr (by omega))
      ·rw[List.getElem?_set_ne (Ne.symm hji)]at hu
       refine RepAt.congr t _ _ u (fun q A=>?_) (RepAt.ext hX (hel j u hu))
       simp only[R7]
       by_cases Z:q=c0
       ·rw[if_pos Z,if_pos Z]
       ·rw[if_neg Z,if_neg Z,if_pos A,if_pos A,hoff j q A (.inl hji)]
     ·intro j u hu
      obtain⟨v',a1,a2⟩:=r10 j u hu
      refine⟨v',(hoff j c0 r7 (by omega)).trans a1,?_⟩
      exact RepPart.ext hX rfl (fun b2 c2 hk2=>Q b2 fun e0=>by
       subst e0
       exact I3 X (by rw[m];simp) id j (X.inj _ _ b2 c2 d (Q5 X id j) H hk2 D)) a2
    grind
   grind
 grind
theorem v54 {o:Oper} {T e:TypeId} {x i:Operand} {z r:TInfo} (v:z.OK P T) (s:z.elem=some e) (u:r.OK P e) (F:o.op=.indexAddr T x i) {ρ:Env} {h:Heap} {id:Nat} (K:ev ρ x=.one (.own id)) {J:TypeId} {t:Ty} {c:Nat} {y:KTy} {l:List t.den} {k:List y.den} {f:Option (Nat×Nat)} (q:h id=.arrK J t c y l k f)
  {B:IntKind} {n:Int} (hi:ev ρ i=.one (.sc (.int B) n)) (M:r.size=t.size) (A:inB n l.length=true):∀ ρs hs,ev ρs x=ev ρ x->ev ρs i=ev ρ i->hs id=h id->A6 P L w0 o ρs hs hs (.one (.eptr id t n.toNat 0)):=by
 have I:∀ c,o.op≠.defer c:=fun c R=>by grind
 refine fun ρs hs D G H=>D1 I fun Q a w g O=>?_
 have j:=H.trans q
 have d:=g x
 rw[D,K]at d
 have p:=g i
 rw[G,hi]at p
 have d:=d.1
 rw[j]at d
 rcases d with⟨_,N,_⟩ | ⟨b,m,E,C⟩
 ·have:=z1q A;grind
 ·refine⟨.pointer (some ⟨b,m.2+n.toNat*r.size,none⟩),?_,by simp_all,b,m,E,by grind⟩
  unfold execOp
  simp[F,C,H7 p,Sem.run_bind,j14 v s u A,Result.andThen_ok,Sem.run_pure]
theorem v5b {o:Oper} {T e:TypeId} {x:Operand} {g:TInfo} (j:g.OK P T) (i:g.elem=some e) (u:o.op=.call { callee:=.builtin .len,args:=#[x],argTypes:=#[T] }) {ρs:Env} {hs:Heap} {id:Nat} {p:TypeId} {t:Ty} {c:Nat} {h:KTy} {l:List t.den} {k:List h.den} {f:Option (Nat×Nat)}
  (n:ev ρs x=.one (.own id)) (m:hs id=.arrK p t c h l k f):A6 P L w0 o ρs hs hs (F0 .i64 l.length):=by
 refine D1 (fun c r=>by grind) fun q a w d s=>⟨.int .i64 l.length,?_,H6 _ _⟩
 have b:=d x
 rw[n]at b
 have b:=b.1
 grind[q3l]
noncomputable def O0 (κ:A2) (id id2 id' N:Nat):A2:=fun q=>open Classical in if h:∃ i,q=kn id' i then(if h.choose<N then κ (kn id h.choose)else κ (kn id2 (h.choose-N)))else if(∃ i,q=kn id i)\/∃ i,q=kn id2 i then none else κ q
theorem z9l (κ:A2) (id a id' N i:Nat):O0 κ id a id' N (kn id' i)=if i<N then κ (kn id i)else κ (kn a (i-N)):=by
 have h:∃ j,kn id' i=kn id' j:=⟨i,rfl⟩
 grind[N0,O0]
theorem j5y {κ:A2} {id a id' N q:Nat} (h:∀ i,q≠kn id' i) (h1:∀ i,q≠kn id i) (b:∀ i,q≠kn a i):O0 κ id a id' N q=κ q:=by
 grind[O0]
theorem z9m {κ:A2} {id a id' N q:Nat} {x:Nat×(Nat×Nat)} (h:O0 κ id a id' N q=some x):(∃ i,q=kn id' i)\/((∀ i,q≠kn id' i)/\(∀ i,q≠kn id i)/\(∀ i,q≠kn a i)/\κ q=some x):=by
 grind[O0]
theorem v6y {κ:A2} {h:Heap} {w:World} (D:HeapOK L w0 κ h w) {id a id':Nat} {e g:TypeId} {t:Ty} {c:Nat} {r:KTy} {l m:List t.den} {k n:List r.den} (u:h id=.arrK e t c r l k none) (S:h a=.arrK g t c r m n none) (hne:id≠a) (hf:h id'=.fresh) (N:Nat) :
  (HeapOK L w0 (O0 κ id a id' N) (upd (upd h id (.arrK e t c r l [] none)) a .dead) w/\Ext L κ h w (O0 κ id a id' N) (upd (upd h id (.arrK e t c r l [] none)) a .dead) w)/\∀ b,A3 L κ h w b->A3 L (O0 κ id a id' N) (upd (upd h id (.arrK e t c r l [] none)) a .dead) w b:=by
 have n1:id'≠id:=fun M=>by grind
 have n2:id'≠a:=fun M=>by grind
 have f:∀ q,h q≠.kid->∀ p i,q≠kn p i:=fun q d p i M=>d (by grind[K8])
 have hlv:∀ q,(upd (upd h id (.arrK e t c r l [] none)) a .dead q).live=true->(h q).live=true:=fun q d=>by
  by_cases s:q=a
  ·subst s;rw[A1]at d;cases d
  ·rw[A0 _ _ s]at d
   by_cases g:q=id
   ·subst g;rw[u];rfl
   grind[A0]
 let I:Nat->Nat:=fun q=>open Classical in if h:∃ i,q=kn id' i then(if h.choose<N then kn id h.choose else kn a (h.choose-N))else q
 have o:∀ i,I (kn id' i)=if i<N then kn id i else kn a (i-N):=fun i=>by
  have h:∃ j,kn id' i=kn id' j:=⟨i,rfl⟩
  grind[N0]
 have A:∀ q,(∀ i,q≠kn id' i)->I q=q:=fun q d=>by grind
 have F:Moves κ h (O0 κ id a id' N) (upd (upd h id (.arrK e t c r l [] none)) a .dead) I:=by
  refine⟨fun q b x d C=>?_,fun i j b x b' x' hi hj C E K=>?_⟩
  ·rcases z9m C with⟨i,rfl⟩ | ⟨B,J,Q,R⟩
   all_goals grind[z9l]
  ·rcases z9m C with⟨i0,rfl⟩ | ⟨B,J,Q,R⟩<;>rcases z9m E with⟨j0,rfl⟩ | ⟨Y,b2,b3,b4⟩
   ·rw[o,o]at K
    grind[N0]
   ·rw[o,A j Y]at K
    grind
   ·rw[o,A i B]at K
    grind
   grind
 have v:∀ q,h q≠.kid->O0 κ id a id' N q=κ q:=fun q d=>j5y (f q d id') (f q d id) (f q d a)
 refine⟨q56 D F (fun q d=>v q d.2) (fun q=>?_) (fun q d=>?_) (fun q=>?_),F.free⟩
 ·by_cases s:q=a
  ·subst s;rw[A1];exact .gone _ (by simp_all)
  ·rw[A0 _ _ s]
   by_cases g:q=id
   ·subst g;rw[A1,u];exact .arrK _ _ _ _ _ _ _ _ _ _ rfl
   ·rw[A0 _ _ g];exact .same _
 ·have C:=D.kids q d
  grind[A0]
 ·by_cases s:q=a
  ·subst s;rw[A1];exact .inl trivial
  ·rw[A0 _ _ s]
   by_cases g:q=id
   ·subst g;rw[A1]
    have z:=D.obj q
    rw[u]at z
    have d:=v q (by grind)
    rcases z with⟨B,J,Q,R⟩ | ⟨b,G,H,r1,U,X,W,r5,r6,T,r8,r9,Z⟩
    ·exact .inl (.inl ⟨d.trans B,J,rfl,rfl⟩)
    ·exact .inl (.inr ⟨b,G,H,d.trans r1,U,X,W,r5,r6,T,Nat.zero_le _,fun i y O=>RepAt.mono (fun b hb=>⟨F.free b hb,rfl⟩) t _ y (r9 i y O),fun i y O=>by grind⟩)
   ·rw[A0 _ _ g]
    by_cases V:q=id'
    ·rw[V,hf];exact .inl trivial
    ·by_cases e4:h q=.kid
     ·rw[e4];exact .inl trivial
     grind[j5y,N0]
theorem j7t {κ κA κ':A2} {h hA h':Heap} {w w':World} (ok:HeapOK L w0 κ h w) {id f id' b b2 cap B H r b' d a:Nat} {e e2:TypeId} {t:Ty} {c:Nat} {A:KTy} {l m:List t.den} {k n:List A.den} (Z:h id=.arrK e t c A l k none) (E:h f=.arrK e2 t c A m n none)
  (hk:κ id=some (b,(cap,B))) (K:κ f=some (b2,(H,r))) (V:k.length=l.length) (hnl:n.length=m.length) {G s cur':Array Value} {ee S:TypeId} (z:w.heap[b]? = some (.cells G ee (0,0))) (X:w.heap[b2]? = some (.cells s S (0,0)))
  (hκA:∀ i,κA (kn id' i)=if i<l.length then κ (kn id i)else κ (kn f (i-l.length))) (o:∀ b,A3 L κ h w b->A3 L κA hA w b) (J:Ext L κA hA w κ' h' w') (hκB:∀ i,κ' (kn id' i)=κA (kn id' i)) (hbB:∀ i b x,κA (kn id' i)=some (b,x)->w'.heap[b]? = w.heap[b]?)
  (R:κ' id'=some (b',(d,a))) (U:w'.heap[b']? = some (.cells cur' e (0,0))) (hs:a+d*t.size<=cur'.size) (hcm:d<=maxLen) (hl:l.length+m.length<=d) (h1:∀ c∈cur'.toList,c.oneCell'=true)
  (Y:∀ j q,j<l.length->q<t.size->cur'[a+j*t.size+q]? = G[B+j*t.size+q]?)
  (C:∀ j q,j<m.length->q<t.size->cur'[a+(l.length+j)*t.size+q]? = s[r+j*t.size+q]?):RepObj L κ' h' w' id' (.arrK e t c A (l++m) (k++n) none):=by
 have ho:=ok.obj id
 rw[Z]at ho
 have F:=ok.obj f
 rw[E]at F
 rcases ho with⟨a1,_⟩ | ⟨_,_,_,W,r2,_,_,_,_,r7,_,r9,Q⟩
 ·grind
 rcases F with⟨a1,_⟩ | ⟨_,_,_,N,s2,_,_,_,_,s7,_,s9,O⟩
 ·grind
 rw[hk]at W;simp[Option.some.injEq,Prod.mk.injEq]at W;obtain⟨rfl,rfl⟩:=W
 rw[K]at N;simp[Option.some.injEq,Prod.mk.injEq]at N;obtain⟨rfl,rfl⟩:=N
 rw[z]at r2;cases r2
 rw[X]at s2;cases s2
 have D:∀ i p y v,(i<l.length->p=kn id i)->(¬ i<l.length->p=kn f (i-l.length))->RepKid L κ h w p A v y->RepKid L κ' h' w' (kn id' i) A v y:=fun i p y v q1 q2 hr=>by
  grind[RepKid.ext,RepKid.at]
 refine .inr ⟨b',(d,a),cur',R,U,hs,hcm,by grind,h1,r7,by grind,fun i y g=>?_,fun i y g=>?_⟩
 ·by_cases I:i<l.length
  ·rw[List.getElem?_append_left I]at g
   refine RepAt.congr t _ _ y (fun q hq=>?_) (RepAt.mono (fun b z=>⟨(J.free b (o b z)).1,(J.free b (o b z)).2⟩) t _ y (r9 i y g))
   grind
  ·rw[List.getElem?_append_right (by omega)]at g
   have:=C (i-l.length)
   rw[show l.length+(i-l.length)=i by omega]at this
   refine RepAt.congr t _ _ y (fun q hq=>?_) (RepAt.mono (fun b z=>⟨(J.free b (o b z)).1,(J.free b (o b z)).2⟩) t _ y (s9 (i-l.length) y g))
   grind
 ·by_cases I:i<l.length
  ·rw[List.getElem?_append_left (by omega)]at g
   obtain⟨v,M,T⟩:=Q i y g
   exact⟨v,(Y i c I r7).trans M,D i _ y v (fun _=>rfl) (fun h=>absurd I h) T⟩
  ·rw[List.getElem?_append_right (by omega),V]at g
   have hj:i-l.length<m.length:=by grind
   obtain⟨v,M,T⟩:=O (i-l.length) y g
   have:=C (i-l.length) c hj r7
   rw[show l.length+(i-l.length)=i by omega]at this
   exact⟨v,this.trans M,D i _ y v (fun h=>absurd h I) (fun _=>rfl) T⟩
theorem v3u {R:Type} {o:Oper} {T e:TypeId} {s x:Operand} {ti te:TInfo} (hti:ti.OK P T) (hel:ti.elem=some e) (hte:te.OK P e)
  (ho:o.op=.call { callee:=.builtin .append,args:=#[s,x],argTypes:=#[T,T] }) {ρ:Env} {h:Heap} {id r id':Nat} (h1:ev ρ s=.one (.own id)) (h2:ev ρ x=.one (.own r)) {K:Eff->Option R} {z:R}
  (he:z6n te e h id' id r K=some z):∃ q,K q=some z/\q.full=none/\∀ ρs hs,ev ρs s=ev ρ s->ev ρs x=ev ρ x->(∀ j∈q.rd,hs j=h j)->(∀ p∈q.ups,hs p.1=h p.1)->A6 P L w0 o ρs hs (q.heap hs) q.av:=by
 unfold z6n at he
 split at he
 rotate_left
 ·grind
 rename_i e1 t c t1 l k f e2 t2 c2 F C k2 hid hid2
 split at he
 rotate_left
 ·grind
 rename_i k1 u m n hcl hm hn
 obtain⟨hfr,he1⟩:=O2 he
 obtain⟨hc,he2⟩:=A8 he1
 clear he he1
 simp only[Bool.and_eq_true,Bool.not_eq_true']at hc
 obtain⟨⟨⟨⟨⟨⟨⟨⟨⟨b1,b2⟩,b3⟩,b4⟩,hroom⟩,b6⟩,b7⟩,b8⟩,b9⟩,b10⟩:=hc
 have b1:=Nat.eq_of_beq_eq_true b1
 have b2:=Nat.eq_of_beq_eq_true b2
 have b3:=Nat.eq_of_beq_eq_true b3
 have hsz:=Nat.eq_of_beq_eq_true b4
 have hkl:=Nat.eq_of_beq_eq_true b7
 have hnl:=Nat.eq_of_beq_eq_true b8
 have hl1:=Nat.le_of_ble_eq_true b9
 have hm1:=Nat.le_of_ble_eq_true b10
 have W:id≠r:=fun e0=>by simp_all
 subst b1;subst b2;subst b3
 obtain⟨htt,hxx⟩:=H2 hm
 cases htt
 change C=m at hxx
 subst hxx
 unfold j3h at hn
 split at hn
 rotate_left
 ·grind
 rename_i ht1 _
 subst ht1
 simp[Option.some.injEq]at hn
 change k2=n at hn
 subst hn
 refine⟨_,he2,rfl,fun ρs hs hρs hρx hrd hup=>I4 (fun c hc=>by grind) fun κ0 a w hev ok0=>?_⟩
 have hids:hs id=.arrK e t c F l k f:=(hrd id (by simp)).trans hid
 have U:hs r=.arrK e t c F C k2 none:=(hrd r (by simp)).trans hid2
 have hfs:hs id'=.fresh:=(hup (id',.arrK e t c F (l++C) (k1++k2) none) (by simp)).trans hfr
 have M:=q6o (hs:=hs) hcl (fun p hp=>hup p (by grind))
 obtain⟨κ,⟨ok,x0⟩,-,-,hu⟩:=q6r ok0 hids M
 have hu2:∀ p∈u,p.1≠r:=fun p hp e0=>by
  cases f with
  | none=>cases M;grind
  | some q =>
   obtain⟨i,g⟩:=q
   simp[M2,Option.map_eq_some_iff,Prod.mk.injEq]at M
   obtain⟨y,hy,_,rfl⟩:=M
   simp[List.mem_singleton]at hp
   subst hp
   exact z5p hy _ _ _ _ _ _ _ ((congrArg hs e0).trans U)
 generalize hh1:upd (A5 u hs) id (.arrK e t c F l k1 none)=hc1 at ok x0
 have k0:hc1 id=.arrK e t c F l k1 none:=by rw[<-hh1,A1]
 have Q:hc1 r=.arrK e t c F C k2 none:=by rw[<-hh1,A0 _ _ (Ne.symm W),q3f u hs hu2,U]
 have kf:hc1 id'=.fresh:=by rw[<-hh1,A0 _ _ (fun e0=>by grind),q3f u hs (z55 hu hfs),hfs]
 have hsv:RepSV L κ0 hs w (.own id) (a.eval s):=by have q:=hev s;rw[hρs,h1]at q;exact q
 have hxv:RepSV L κ0 hs w (.own r) (a.eval x):=by have q:=hev x;rw[hρx,h2]at q;exact q
 have hsv:=(RepSV.ext x0 _ _ hsv).1
 have hxv:=(RepSV.ext x0 _ _ hxv).1
 rw[k0]at hsv
 rw[Q]at hxv
 rcases hsv with⟨_,hnil,_⟩ | ⟨b,⟨D,A⟩,hk,Y⟩
 ·grind
 rcases hxv with⟨_,hnil,_⟩ | ⟨bb,⟨cap2,J⟩,hk2,hv2⟩
 ·grind
 simp at Y hv2
 have hob:=ok.obj id
 rw[k0]at hob
 have hob2:=ok.obj r
 rw[Q]at hob2
 rcases hob with⟨q,_⟩ | ⟨_,_,I,r1,r2,r3,r4,r5,r6,r7,r8,r9,r10⟩
 ·grind
 rcases hob2 with⟨q,_⟩ | ⟨_,_,cur2,s1,s2,s3,s4,s5,s6,s7,s8,s9,s10⟩
 ·grind
 rw[hk]at r1;simp[Option.some.injEq,Prod.mk.injEq]at r1;obtain⟨rfl,rfl⟩:=r1
 rw[hk2]at s1;simp only[Option.some.injEq,Prod.mk.injEq]at s1;obtain⟨rfl,rfl⟩:=s1
 simp only at r3 r4 r5 s3 s4 s5
 obtain⟨⟨H,xA⟩,hfA⟩:=v6y ok k0 Q W kf l.length
 generalize hhA:upd (upd hc1 id (.arrK e t c F l [] none)) r .dead=hA at H xA hfA
 have nid:id'≠id:=fun e0=>by grind
 have nid2:id'≠r:=fun e0=>by grind
 have kA:hA id=.arrK e t c F l [] none:=by rw[<-hhA,A0 _ _ W,A1]
 have kfA:hA id'=.fresh:=by rw[<-hhA,A0 _ _ nid2,A0 _ _ nid,kf]
 have hkA:O0 κ id r id' l.length id=some (b,(D,A)):=by rw[xA.place id (by simp_all)];omega
 have E:(hA id).live=true:=by rw[kA];rfl
 have hown:=H.own id b _ E hkA
 have nkn:∀ i,kn id' i≠id':=fun i=>I3 ok (N8 kf) id' i
 have hfin:∀ X,Eff.heap { av:=.one (.own id'),rd:=[id,r],ups:=u++[(id,.dead),(r,.dead),(id',X)],full:=none } hs=upd (upd hA id .dead) id' X:=fun X=>by
  show A5 (u++_) hs=_
  rw[I9,<-hhA,<-hh1]
  funext j
  show upd (upd (upd (A5 u hs) id .dead) r .dead) id' X j=_
  grind[A1,A0]
 rw[hfin]
 obtain⟨-,d,hd,-,hde,-⟩:=hti.base
 have ht:P.underlying T=some (.slice e):=by
  grind
 obtain⟨i,zz,hi,hisz,hiby,hiz,hzs,-,-,hz1⟩:=hte.zero_one (L:=L)
 obtain⟨hb1,hb2⟩:=q5y hroom
 have hl2c:C.length*t.size<=cap2*t.size:=Nat.mul_le_mul_right _ s5
 have hlc:l.length*t.size<=D*t.size:=Nat.mul_le_mul_right _ r5
 let cs:=(cur2.toList.drop J).take (C.length*t.size)
 have c1:cs.length=C.length*t.size:=by grind
 have cget:∀ q,q<C.length*t.size->cs[q]? = cur2[J+q]?:=fun q hq=>by
  grind
 have c2:∀ j v,cs[j]? = some v->w.cell? ((⟨bb,J,none⟩:Addr).add j)=some v:=fun j v O=>by
  grind[Q0,World.cell?]
 have c3:∀ v∈cs,v.oneCell'=true:=fun v Y=>s6 v (List.mem_of_mem_drop (List.mem_of_mem_take Y))
 have add_mul:(l.length+C.length)*t.size=l.length*t.size+C.length*t.size:=Nat.add_mul _ _ _
 have inl:∀ j q n,j<n->q<t.size->j*t.size+q<n*t.size:=fun j q n O hq=>by
  have:=Nat.mul_le_mul_right t.size O;grind
 by_cases Z:l.length+C.length<=D
 ·have hfit':(l.length+C.length)*t.size<=D*t.size:=Nat.mul_le_mul_right _ Z
  have hr:=j85 (P:=P) T o.type e i ht hi w b A l.length D I r2 ⟨bb,J,none⟩ C.length cap2 cs (by grind) c2 c3 Z (by grind)
  rw[hisz,<-hsz]at hr
  let B:=I.toList.take (A+l.length*t.size)++cs++I.toList.drop (A+l.length*t.size+cs.length)
  have N:(I.toList.take (A+l.length*t.size)).length=A+l.length*t.size:=by grind
  have hnl':B.length=I.size:=by grind
  have V:(w.setRow b B.toArray).heap.size=w.heap.size:=by simp
  have hoth:∀ b',b'≠b->(w.setRow b B.toArray).heap[b']? = w.heap[b']?:=fun b' W=>setRow_other w b b' _ W
  have hx:=q4x (L:=L) (κ:=O0 κ id r id' l.length) (h:=hA) (c':=(D,A)) (obj':=.arrK e t c F (l++C) (k1++k2) none) E (by grind) hkA kfA (.inl (.inl ⟨_,_,_,r2⟩)) V hoth
  refine⟨_,.slice (some ⟨b,A,none⟩) (l.length+C.length) D,_,q1f ho (by grind),q7e H E (by grind) hkA kfA (.inl (.inl ⟨_,_,_,r2⟩)) V hoth (X0 _ H.below hown.1) ?_,⟨?_,rfl⟩,(x0.trans xA).trans hx⟩
  ·refine j7t (κA:=O0 κ id r id' l.length) (hA:=hA) (cur':=B.toArray) ok k0 Q hk hk2 hkl hnl r2 s2 (z9l κ id r id' l.length) hfA hx (fun i=>A0 _ _ (nkn i)) (fun i b0 x0 hk0=>hoth b0 fun e0=>?_) (A1 _ _ _) (setRow_heap w b _ _ e (0,0) r2) (by grind) r4 Z (fun v Y=>?_) (fun j q O hq=>?_) (fun j q O hq=>?_)
   ·subst e0
    exact I3 H (by grind) id' i (H.inj _ _ _ _ _ (Q5 H id' i) E hk0 hkA)
   ·grind
   ·have hp:=inl j q _ O hq
    rw[List.getElem?_toArray]
    simp only[B]
    rw[List.getElem?_append_left (by grind),List.getElem?_append_left (by omega),List.getElem?_take_of_lt (by omega),Array.getElem?_toList]
   ·have hp:=inl j q _ O hq
    rw[List.getElem?_toArray]
    simp only[B]
    have hadd:(l.length+j)*t.size=l.length*t.size+j*t.size:=Nat.add_mul _ _ _
    rw[List.getElem?_append_left (by grind),List.getElem?_append_right (by omega),N,show A+(l.length+j)*t.size+q-(A+l.length*t.size)=j*t.size+q by omega,cget _ hp,Nat.add_assoc]
  grind[A1]
 ·have S:(hA id).gone .dead:=by rw[kA];simp[AObj.gone]
  have okD:=q55 (q0j H S)
  have exD:=(V3 (L:=L) (κ:=O0 κ id r id' l.length) (w:=w) S).trans (V2 _ _ w)
  have N:((I.toList.drop A).take (l.length*t.size)).length=l.length*t.size:=by grind
  have hr:=run_append_grow (P:=P) w T o.type e i zz ht hi hiz ⟨b,A,none⟩ l.length D ((I.toList.drop A).take (l.length*t.size)) (by grind) (fun j v O=>by
   grind[Q0,World.cell?]) ⟨bb,J,none⟩ C.length cap2 cs (by grind) c2 (by omega) (by omega) (growslice_fits (by omega) (by grind))
  have hge:=grownCap_ge w (l.length+C.length) D e
  have hcm':grownCap w (l.length+C.length) D e<=maxLen:=grownCap_le_maxLen w _ D e (by grind[maxLen])
  generalize hG:grownCap w (l.length+C.length) D e=G at hr hge hcm'
  let rest:=Builtin.zeroCells zz.cells (G-(l.length+C.length))
  let B:Array Value:=((I.toList.drop A).take (l.length*t.size)).toArray++cs.toArray++rest
  have hrs:rest.size=(G-(l.length+C.length))*t.size:=by grind[size_zeroCells]
  have hfD:upd hA id .dead id'=.fresh:=by grind[A0]
  have hx:=R3 (L:=L) (κ:=O0 κ id r id' l.length) (h:=upd hA id .dead) (w:=w.drew) (.cells B e) (.arrK e t c F (l++C) (k1++k2) none) (G,0) hfD
  refine⟨_,.slice (some ⟨w.heap.size,0,none⟩) (l.length+C.length) G,_,q1f ho (by grind),V4 okD (.cells B e) _ (G,0) hfD ?_,⟨?_,rfl⟩,((x0.trans xA).trans exD).trans hx⟩
  ·refine j7t (κA:=O0 κ id r id' l.length) (hA:=hA) (cur':=B) ok k0 Q hk hk2 hkl hnl r2 s2 (z9l κ id r id' l.length) hfA (exD.trans hx) (fun i=>A0 _ _ (nkn i)) (fun i b0 x0 hk0=>Q3 w.drew _ (by have:=q7q H hk0;simp;omega)) (A1 _ _ _) (heap_alloc_new w.drew _) ?_ hcm' hge (fun v Y=>?_) (fun j q O hq=>?_) (fun j q O hq=>?_)
   ·have:(l.length+C.length)*t.size+(G-(l.length+C.length))*t.size=G*t.size:=by rw[<-Nat.add_mul];grind
    grind
   ·simp only[B,Array.toList_append,List.mem_append]at Y
    rcases Y with(Y | Y) | Y
    ·grind
    ·grind
    ·exact q9n hz1 _ v Y
   ·have hp:=inl j q _ O hq
    rw[<-Array.getElem?_toList]
    simp only[B,Array.toList_append]
    rw[Nat.zero_add,List.getElem?_append_left (by rw[List.length_append,N];omega),List.getElem?_append_left (by rw[N];omega),List.getElem?_take_of_lt (by omega),List.getElem?_drop,Array.getElem?_toList,Nat.add_assoc]
   ·have hp:=inl j q _ O hq
    have hadd:(l.length+j)*t.size=l.length*t.size+j*t.size:=Nat.add_mul _ _ _
    rw[<-Array.getElem?_toList]
    simp only[B,Array.toList_append]
    rw[Nat.zero_add,List.getElem?_append_left (by rw[List.length_append,N,c1];omega),List.getElem?_append_right (by omega),N,show(l.length+j)*t.size+q-l.length*t.size=j*t.size+q by omega,cget _ hp,Nat.add_assoc]
  ·rw[A1]
   exact .inr ⟨w.heap.size,(G,0),A1 _ _ _,by rw[List.length_append]⟩
theorem j19 {w:World} {A:Nat->Prop}:∀ (t:Ty) (c:Nat) (e:Ty) (y z:t.den) (x:List e.den) (get:Nat->Option Value),RepAt w A t (R7 c get) y->RepAt w A (.list e) (fun j=>get (c+j)) x->t.setL c e y x=some z->RepAt w A t get z
 | .list s,0,e,y,z,x,get,_,k,d=>by
  grind[Ty.setL,H2]
 | .cons a b,c,e,y,z,x,get,g,k,d=>by
  simp[Ty.setL]at d
  cases f:Nat.ble (c+1) a.size with
  | true =>
   have o:=Nat.le_of_ble_eq_true f
   rw[f,cond_true,Option.map_eq_some_iff]at d
   obtain⟨p,i,rfl⟩:=d
   exact⟨j19 a c e y.1 p x get g.1 k i,RepAt.congr b _ _ y.2 (fun j _=>by simp only[R7];rw[if_neg (by omega)]) g.2⟩
  | false =>
   have m:¬ c+1<=a.size:=fun h=>by rw[Nat.ble_eq_true_of_le h]at f;cases f
   rw[f,cond_false,Option.map_eq_some_iff]at d
   obtain⟨n,i,rfl⟩:=d
   refine⟨RepAt.congr a _ _ y.1 (fun j l=>by simp only[R7];rw[if_neg (by omega)]) g.1,j19 b (c-a.size) e y.2 n x (fun j=>get (a.size+j)) (RepAt.congr b _ _ y.2 (fun j _=>?_) g.2) (by simpa[show ∀ j,a.size+(c-a.size+j)=c+j from fun j=>by omega]using k) i⟩
   simp[R7]
   by_cases l:j=c-a.size
   ·rw[if_pos l,if_pos (by omega)]
   ·rw[if_neg l,if_neg (by omega)]
 | .int _,_,_,_,_,_,_,_,_,d=>by grind[Ty.setL]
 | .bool,_,_,_,_,_,_,_,_,d=>by grind[Ty.setL]
 | .nil,_,_,_,_,_,_,_,_,d=>by grind[Ty.setL]
 | .map _ _ _ _,_,_,_,_,_,_,_,_,d=>by grind[Ty.setL]
 | .list _,_+1,_,_,_,_,_,_,_,d=>by simp[Ty.setL]at d
theorem j6m {t:Ty} {c:Nat} {e:Ty}:∀ {l:List t.den} {k:List (List e.den)} {z:List t.den},q1r t c e l k=some z->z.length=l.length/\∀ (i:Nat) (y:t.den),z[i]? = some y->∃ (a:t.den) (x:List e.den),l[i]? = some a/\k[i]? = some x/\t.setL c e a x=some y
 | [],[],z,h=>by grind[q1r]
 | a::l,x::k,z,h=>by
  obtain⟨y,m,d⟩:=Option.bind_eq_some_iff.1 h
  rw[Option.map_eq_some_iff]at d
  obtain⟨r,j,rfl⟩:=d
  obtain⟨f,g⟩:=j6m j
  refine⟨by simp[f],fun i u b=>?_⟩
  cases i with
  | zero=>simp at b;subst b;exact⟨a,x,rfl,rfl,m⟩
  | succ i=>exact g i u b
 | [],_::_,_,h=>by cases h
 | _::_,[],_,h=>by cases h
theorem y8z {κ:A2} {h:Heap} {w:World} (f:HeapOK L w0 κ h w) {id:Nat} {e S:TypeId} {t u:Ty} {c:Nat} {l z:List t.den} {k:List (List u.den)} (r:h id=.arrK e t c (.arr S u) l k none) (T:q1r t c u l k=some z) :
  HeapOK L w0 (G8 κ id) (upd h id (.arr e t z)) w/\Ext L κ h w (G8 κ id) (upd h id (.arr e t z)) w:=by
 obtain⟨G,F⟩:=j6m T
 have p:(h id).Held:=by simp_all
 have M:∀ j,(h j).Held->∀ n,j≠kn id n:=fun j o n e=>o.2 (by grind[K8])
 have B:∀ j b c,G8 κ id j=some (b,c)->(∀ n,j≠kn id n)/\κ j=some (b,c):=fun j b c s=>by
  grind[q5g,P4]
 have C:∀ j,(upd h id (.arr e t z) j).live=true->(h j).live=true:=fun j o=>by
  by_cases g:j=id
  ·rw[g,r];rfl
  grind[A0]
 have m:Moves κ h (G8 κ id) (upd h id (.arr e t z)) (fun j=>j) :=
  ⟨fun j b c o s=>⟨C j o,c,(B j b c s).2⟩,fun i j b c b' E _ _ _ _ he=>he⟩
 have d:G8 κ id id=κ id:=P4 (M id p)
 refine q56 f m (fun j o=>P4 (M j o)) (fun j=>?_) (fun j o=>?_) (fun j=>?_)
 ·by_cases g:j=id
  ·subst g;rw[A1,r];exact .melt _ _ _ _ _ _ _ _ G
  ·rw[A0 _ _ g];exact .same _
 ·rw[A0 _ _ (fun g=>p.2 (by rw[<-g];exact f.kids j o))];exact f.kids j o
 ·by_cases g:j=id
  ·subst g;rw[A1]
   have A:=f.obj j
   rw[r]at A
   rcases A with⟨a1,a2,_⟩ | ⟨b,H,J,X,R,r3,N,r5,V,r7,r8,r9,D⟩
   ·exact .inl (.inl ⟨d.trans a1,List.eq_nil_of_length_eq_zero (by grind)⟩)
   ·refine .inl (.inr ⟨b,H,J,d.trans X,R,r3,N,by omega,V,fun i y O=>?_⟩)
    obtain⟨a,x,Q,q2,q3⟩:=F i y O
    obtain⟨v,v1,W⟩:=D i x q2
    have I:∀ b c,κ (kn j i)=some (b,c)->A3 L (G8 κ j) (upd h j (.arr e t z)) w b:=fun b c s=>by
     have U:=f.own _ b c (Q5 f j i) s
     refine⟨U.2,fun hL=>(f.outer b hL).2 _ _ (Q5 f j i) s,fun q E hi K=>?_⟩
     obtain⟨i3,Z⟩:=B q b E K
     exact i3 i (f.inj _ _ b E c (C q hi) (Q5 f j i) Z s)
    refine j19 t c u a y x _ (RepAt.mono (fun b hb=>⟨m.free b hb,rfl⟩) t _ a (r9 i a Q)) ?_ q3
    refine RepAt.congr (.list u) _ _ x (fun q hq=>?_) (z9q I m.free W)
    grind[Ty.size,F7]
  ·rw[A0 _ _ g]
   by_cases Y:∃ n,j=kn id n
   ·obtain⟨n,rfl⟩:=Y;rw[K8 f];exact .inl trivial
   grind[P4,N0]
theorem y7w {ρ:Operand->AV} {c:Nat} {a:List (Nat×Operand)} (h:j68 ρ c a=true) {q:Nat×Operand} (d:q∈a):∃ b,cellsOf (ρ q.2)=some b/\b[c]? = some .nils:=by
 have:=List.all_eq_true.1 h q d
 grind
theorem j66 {h:Heap} {t:Ty} {ρ:Operand->AV}:∀ {a:List (Nat×Operand)} {n:Nat} {r:List t.den×List Nat},Q6 h t ρ n a=some r->r.1.length=a.length/\∀ q∈a,∀ g,cellsOf (ρ q.2)=some g->g.all SV.known=true
 | [],n,r,b=>by grind[Q6]
 | (i,p)::j,n,r,b=>by
  obtain⟨_,b⟩:=A8 b
  split at b
  ·rename_i g e
   obtain⟨k,b⟩:=A8 b
   split at b
   ·rename_i y v s u f
    cases b
    obtain⟨l,m⟩:=j66 f
    refine⟨by simp[l],fun q d o c=>?_⟩
    rcases List.mem_cons.1 d with rfl | d
    ·rw[e]at c;cases c;exact k
    ·exact m q d o c
   ·cases b
  ·cases b
theorem v4a {R:Type} {o:Oper} {T e:TypeId} {len c:Nat} {A:KTy} {d:Array (Nat×Operand)} {ti f:TInfo} (X:ti.OK P T) (J:ti.elem=some e) (I:f.OK P e) (ho:o.op=.buildSlice T len d) {ρ:Env} {h:Heap} {id':Nat} {K:Eff->Option R} {z:R}
  (V:z6p f e len c A (ev ρ) d.toList h id' K=some z):∃ q,K q=some z/\q.full=none/\∀ g i,(∀ p∈d.toList,ev g p.2=ev ρ p.2)->(∀ p∈q.ups,i p.1=h p.1)->(∀ l,Q6 h f.ty (ev ρ) 0 d.toList=some (l,[])->Q6 i f.ty (ev g) 0 d.toList=some (l,[]))->A6 P L w0 o g i (q.heap i) q.av:=by
 unfold z6p at V
 split at V
 ·rename_i Y A l hl
  obtain⟨E,H⟩:=O2 V
  obtain⟨D,W⟩:=A8 H
  simp only[Bool.and_eq_true]at D
  obtain⟨⟨⟨⟨b1,b2⟩,b3⟩,b4⟩,b5⟩:=D
  have t:=Nat.eq_of_beq_eq_true b1
  have x:=Nat.le_of_ble_eq_true b2
  have hcl:=Nat.le_of_ble_eq_true b3
  have U:=Nat.eq_of_beq_eq_true b4
  refine⟨_,W,rfl,fun g i O F m=>I4 (fun c D=>by grind) fun κ a w s ok=>?_⟩
  have S:i id'=.fresh:=(F (id',.arrK e f.ty c (.arr Y A) l (List.replicate l.length []) none) (by simp)).trans E
  obtain⟨G,c1,c2,c3,c4,c5⟩:=j3d X J I ho (m l hl) t x (by omega) U s ok
  obtain⟨a1,a2⟩:=j66 hl
  have Z:∀ j,j<l.length->G[j*f.ty.size+c]? = some (.slice none 0 0):=fun j u=>by
   have M:j<d.toList.length:=by grind
   have B:d.toList[j]? = some d.toList[j]:=List.getElem?_eq_getElem M
   have N:=List.mem_of_getElem? B
   obtain⟨vs,v1,v2⟩:=y7w b5 N
   have k:=s d.toList[j].2
   rw[O _ N]at k
   obtain⟨us,u1,u2⟩:=q3h k v1 (a2 _ N _ v1)
   obtain⟨v,q1,q2,-⟩:=W3 u2 v2
   rw[c5 j _ c B (by omega),u1,List.getElem?_toArray,q1]
   exact congrArg some q2
  have r:G8 (upd κ id' (some (w.heap.size,(len,0)))) id' id'=some (w.heap.size,(len,0)):=by grind[P4,K8,A1]
  obtain⟨Q,x'⟩:=z95 (κ:=κ) (h:=i) (w:=w) ok (.cells G.toArray e) (id:=id') (obj:=.arrK e f.ty c (.arr Y A) l (List.replicate l.length []) none) (len,0) S (fun n=>by
   refine .inr ⟨w.heap.size,(len,0),G.toArray,r,heap_alloc_new w _,by grind,by grind[maxLen],by omega,by omega,by omega,by simp,fun j y u=>?_,fun j y u=>?_⟩
   ·refine RepAt.congr f.ty _ _ y (fun q B=>?_) (RepAt.mono (fun b hb=>⟨n b hb,Q3 w _ (by have:=hb.1;omega)⟩) f.ty _ y (c4 j y u))
    grind[R7]
   ·have C:j<l.length:=by grind
    rw[List.getElem?_replicate,if_pos C]at u
    cases u
    exact⟨_,by grind,⟨.inl ⟨q5g _ _ _,rfl,rfl⟩,.inl ⟨q5g _ _ _,rfl⟩⟩⟩)
  refine⟨_,_,_,c2,Q,⟨?_,rfl⟩,x'⟩
  show(match upd i id' _ id' with | .arr _ _ l=>_ | .ice _ _ l=>_ | .arrD _ _ l _=>_ | .arrK _ _ _ _ l _ _=>_ | .dead=>True | _=>False)
  grind[A1]
 grind
end Go.Abs
