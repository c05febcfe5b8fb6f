/- The engine: trees of what is owned, made and put together. -/
import Derived.Test.YtecofmaegcibeaaGreatDoorAbsSoundT
namespace Go.Abs
open Go Go.RowKit
variable {P:Program} {L:Nat->Prop} {w0:World}
theorem j2y (D:List Nat):∀(h:Heap) (j:Nat),A3 (D.map λg=>(g,AObj.dead)) h j=if j∈D then .dead else h j:=by
 induction D with
 | nil=>intro h j;rfl
 | cons d D a =>
  intro h j;show A3 (D.map λg=>(g,AObj.dead)) (upd h d .dead) j=_;grind[A2,A0]
noncomputable def P2 (κ:A6) (D:List Nat) (id':Nat) (π:List Nat->Option (Nat×(Nat×Nat))):A6:=λj=>open Classical in
 if h:∃p,j=gh id' p then π h.choose else if ∃d∈D,∃n,j=kn d n then none else κ j
def Use (h:Heap) (D:List Nat) (s:Nat):Prop:=(s∈D/\(h s).live=true)\/∃d∈D,∃n,s=kn d n
variable {κ:A6} {h:Heap} {w:World} {D:List Nat} {s:Nat}
theorem Use.live (b:HeapOK L w0 κ h w) (hs:Use h D s):(h s).live=true:=by
 rcases hs with⟨_,a⟩ | ⟨d,_,n,rfl⟩
 all_goals grind[q1d]
theorem Use.mono {D b:List Nat} (a:∀d∈D,d∈b) (hs:Use h D s):Use h b s:=by
 rcases hs with⟨c,f⟩ | ⟨d,e,n,rfl⟩
 ·exact .inl ⟨a _ c,f⟩
 ·exact .inr ⟨d,a _ e,n,rfl⟩
variable {id':Nat} {π:List Nat->Option (Nat×(Nat×Nat))}
theorem q3f (ok:HeapOK L w0 κ h w) (hf:h id'=.fresh) (p:List Nat):P2 κ D id' π (gh id' p)=π p:=by
 have hh:∃q,gh id' p=gh id' q:=⟨p,rfl⟩;have e:hh.choose=p:=(q3g (R8 hf) ok hh.choose_spec).symm;simp only[P2];rw[dif_pos hh,e]
theorem j27 {D:List Nat} {j:Nat} (h1:∀p,j≠gh id' p) (h2:∀d∈D,∀n,j≠kn d n):P2 κ D id' π j=κ j:=by
 simp only[P2];rw[dif_neg (λ⟨p,hp⟩=>h1 p hp),if_neg (λ⟨d,hd,n,hn⟩=>h2 d hd n hn)]
theorem j28 {D:List Nat} {j:Nat} {x:Nat×(Nat×Nat)} (h:P2 κ D id' π j=some x):(∃p,j=gh id' p)\/((∀p,j≠gh id' p)/\(∀d∈D,∀n,j≠kn d n)/\κ j=some x):=by
 by_cases h0:∃p,j=gh id' p
 ·exact .inl h0
 ·simp only[P2]at h;rw[dif_neg h0]at h;split at h
  ·cases h
  ·rename_i h1;exact .inr ⟨λp e=>h0 ⟨p,e⟩,λd hd n e=>h1 ⟨d,hd,n,e⟩,h⟩
structure Picks (κ:A6) (h:Heap) (D:List Nat) (π:List Nat->Option (Nat×(Nat×Nat))):Prop where
 src:∀p b c,π p=some (b,c)->∃s c',Use h D s/\κ s=some (b,c')
 inj:∀p q b c c',π p=some (b,c)->π q=some (b,c')->p=q
theorem j9t (ok:HeapOK L w0 κ h w) {D:List Nat} (hf:h id'=.fresh) (hD:∀d∈D,(h d).Held) (hs:Picks κ h D π) (o':AObj) (hr:(∀b,A4 L κ h w b->A4 L (P2 κ D id' π) (upd (A3 (D.map λg=>(g,AObj.dead)) h) id' o') w b)->RepObj L (P2 κ D id' π) (upd (A3 (D.map λg=>(g,AObj.dead)) h) id' o') w id' o') :
  (HeapOK L w0 (P2 κ D id' π) (upd (A3 (D.map λg=>(g,AObj.dead)) h) id' o') w/\Ext L κ h w (P2 κ D id' π) (upd (A3 (D.map λg=>(g,AObj.dead)) h) id' o') w) /\
   ∀b,A4 L κ h w b->A4 L (P2 κ D id' π) (upd (A3 (D.map λg=>(g,AObj.dead)) h) id' o') w b:=by
 have h1o:∀j,j≠id'->upd (A3 (D.map λg=>(g,AObj.dead)) h) id' o' j=if j∈D then .dead else h j:=λj hj=>by rw[A0 _ _ hj,j2y]
 have held:∀j,h j≠.kid->∀p n,j≠kn p n:=λj hj p n e0=>hj (by rw[e0];exact N4 ok p n);have ghn:∀j,h j≠.kid->j≠id'->∀p,j≠gh id' p:=λj hj hne p e0=>by
  cases p with
  | nil=>exact hne e0
  | cons i p=>exact held j hj _ _ e0
 have hκ:∀j,h j≠.kid->j≠id'->P2 κ D id' π j=κ j:=λj hj hne=>j27 (ghn j hj hne) λd _ n=>held j hj d n
 let φ:Nat->Nat:=λj=>open Classical in if hh:∃s p b c c',j=gh id' p/\π p=some (b,c)/\Use h D s/\κ s=some (b,c')then hh.choose else j
 have φn:∀p b c,π p=some (b,c)->Use h D (φ (gh id' p))/\∃c',κ (φ (gh id' p))=some (b,c'):=λp b c hp=>by
  have hh:∃s q b c c',gh id' p=gh id' q/\π q=some (b,c)/\Use h D s/\κ s=some (b,c'):=by
   obtain⟨s,c',s1,s2⟩:=hs.src p b c hp;exact⟨s,p,b,c,c',rfl,hp,s1,s2⟩
  simp only[φ];rw[dif_pos hh];obtain⟨q,b1,c1,c2,e1,e2,e3,e4⟩:=hh.choose_spec;rw[<-q3g (R8 hf) ok e1,hp]at e2;cases e2;exact⟨e3,_,e4⟩
 have φo:∀j,(∀p,j≠gh id' p)->φ j=j:=λj hj=>by simp only[φ];rw[dif_neg (λ⟨_,p,_,_,_,hp,_⟩=>hj p hp)]
 have old:∀j,(upd (A3 (D.map λg=>(g,AObj.dead)) h) id' o' j).live=true->(∀p,j≠gh id' p)->j∉D/\(h j).live=true:=λj hl hp=>by
  rw[h1o j (hp [])]at hl;by_cases e:j∈D
  ·rw[if_pos e]at hl;cases hl
  ·rw[if_neg e]at hl;exact⟨e,hl⟩
 have mix:∀(s j:Nat),Use h D s->j∉D->(∀d∈D,∀n,j≠kn d n)->s≠j:=λs j hp hj hk e=>by
  rcases hp with⟨hm,_⟩ | ⟨d,hd,n,hn⟩
  ·exact hj (e▸hm)
  ·exact hk d hd n (e▸hn)
 have mv:Moves κ h (P2 κ D id' π) (upd (A3 (D.map λg=>(g,AObj.dead)) h) id' o') φ:=by
  refine⟨λj b c hl hk=>?_,λi j b c b' c' hil hjl hk hk' he=>?_⟩
  ·rcases j28 hk with⟨p,rfl⟩ | ⟨a1,a2,a3⟩
   ·rw[q3f ok hf]at hk;exact⟨(φn p b c hk).1.live ok,(φn p b c hk).2⟩
   ·rw[φo j a1];exact⟨(old j hl a1).2,c,a3⟩
  ·rcases j28 hk with⟨p,rfl⟩ | ⟨a1,a2,a3⟩<;>rcases j28 hk' with⟨q,rfl⟩ | ⟨b1,b2,b3⟩
   ·rw[q3f ok hf]at hk hk';obtain⟨_,c1,s2⟩:=φn p b c hk;obtain⟨_,c2,s2'⟩:=φn q b' c' hk';rw[he,s2']at s2;cases s2;rw[hs.inj p q _ c c' hk hk']
   ·rw[q3f ok hf]at hk;rw[φo j b1]at he;exact absurd he (mix _ j (φn p b c hk).1 (old j hjl b1).1 b2)
   ·rw[q3f ok hf]at hk';rw[φo i a1]at he;exact absurd he.symm (mix _ i (φn q b' c' hk').1 (old i hil a1).1 a2)
   ·rw[φo i a1,φo j b1]at he;exact he
 refine⟨q8z ok mv (λj hj=>hκ j hj.2 (λe=>hj.1 (by rw[e];exact hf))) (λj=>?_) (λj e k l f hj hd p n _ hk=>?_) (λj hj=>?_) (λ_ j=>?_),mv.free⟩
 ·by_cases e:j=id'
  ·subst e;rw[A2,hf];exact .new _
  ·rw[h1o j e];by_cases e2:j∈D
   ·rw[if_pos e2];exact .gone _ (hD j e2)
   ·rw[if_neg e2];exact .same _
 ·have hne:j≠id':=λe0=>by rw[e0,hf]at hj;cases hj
  have hjD:j∉D:=λe0=>hd (by rw[h1o j hne,if_pos e0]);cases p with
  | nil=>rw[show gh j []=j from rfl,hj]at hk;cases hk
  | cons i p =>
   refine j27 (λq e0=>?_) (λd hd' m e0=>hjD ((J6 e0).1▸hd'));cases q with
   | nil=>exact held id' (R8 hf) _ _ e0.symm
   | cons i' q=>exact hne (J6 e0).1
 ·rw[h1o j (λe=>by rw[<-e,ok.kids j hj]at hf;cases hf),if_neg (λe=>(hD j e).2 (ok.kids j hj))];exact ok.kids j hj
 ·by_cases e:j=id'
  ·subst e;rw[A2];exact .inl (hr mv.free)
  ·rw[h1o j e];by_cases e2:j∈D
   ·rw[if_pos e2];exact .inl trivial
   ·rw[if_neg e2];by_cases e3:h j=.kid
    ·rw[e3];exact .inl trivial
    ·refine .inr ⟨rfl,hκ j e3 e,λn=>j27 (λq e0=>?_) λd hd m e0=>e2 ((J6 e0).1▸hd)⟩;cases q with
     | nil=>exact held id' (R8 hf) _ _ e0.symm
     | cons i' q=>exact e (J6 e0).1
variable {e:TypeId} {k:OT} {l:List k.den}
theorem z9e (ok:HeapOK L w0 κ h w) {D:List Nat} (hf:h id'=.fresh) (hD:∀d∈D,(h d).Held) (hs:Picks κ h D π) {cs:List Value} {cap:Nat} (hl:l.length<=cap) (hcm:cap<=maxLen) (hc:cap<=cs.length) (h1:∀c∈cs,c.oneCell'=true) (hr:∀i y,l[i]? = some y->RepO L κ h w k (λp=>π (i::p)) [] (λj=>if j=0 then cs[i]? else none) y) :
  ∃κ',HeapOK L w0 κ' (upd (A3 (D.map λg=>(g,AObj.dead)) h) id' (.tree e k l [])) (w.alloc (.cells cs.toArray e))/\Ext L κ h w κ' (upd (A3 (D.map λg=>(g,AObj.dead)) h) id' (.tree e k l [])) (w.alloc (.cells cs.toArray e)) /\
   RepSV L κ' (upd (A3 (D.map λg=>(g,AObj.dead)) h) id' (.tree e k l [])) (w.alloc (.cells cs.toArray e)) (.ts id' []) (.slice (some ⟨w.heap.size,0,none⟩) l.length cap):=by
 have nD:id'∉D:=λe=>(hD id' e).1 hf;obtain⟨⟨ok1,x1⟩,f1⟩:=j9t ok hf hD hs .fresh (λ_=>trivial);have hself:upd (A3 (D.map λg=>(g,AObj.dead)) h) id' .fresh=A3 (D.map λg=>(g,AObj.dead)) h:=q5p _ _ _ (by rw[j2y,if_neg nD];exact hf);rw[hself]at ok1 x1 f1;have hf1:A3 (D.map λg=>(g,AObj.dead)) h id'=.fresh:=by rw[j2y,if_neg nD];exact hf
 have x2:=X0 (L:=L) (κ:=P2 κ D id' π) (h:=A3 (D.map λg=>(g,AObj.dead)) h) (w:=w) (.cells cs.toArray e) (.tree e k l []) (cap,0) hf1;refine⟨_,q1c ok1 (.cells cs.toArray e) (.tree e k l []) (cap,0) hf1 (.inr ⟨w.heap.size,(cap,0),cs.toArray,A2 _ _ _,heap_alloc_new w _,by simpa using hc,hcm,hl,by simpa using h1,λi y hy=>?_⟩),x1.trans x2,⟨?_,rfl⟩⟩
 ·have e1:(λp=>upd (P2 κ D id' π) id' (some (w.heap.size,(cap,0))) (gh id' (i::p)))=λp=>π (i::p):=funext λp=>by
   rw[A0 _ _ (show gh id' (i::p)≠id' from J0 ok (R8 hf) id' _),q3f ok hf]
  have e2:(λj=>if j=0 then cs.toArray[0+i]? else none)=λj=>if j=0 then cs[i]? else none:=by simp
  show RepO _ _ _ _ k _ (M1 [] i) (λj=>if j=0 then cs.toArray[0+i]? else none) y
  rw[e1,e2];refine RepO.move (κ:=P2 κ D id' π) (λb hb=>x2.free b hb) k (λq b c hq=>?_) (RepO.free f1 k (hr i y hy));have:b<w.heap.size:=by
   obtain⟨s,c',s1,s2⟩:=hs.src _ _ _ hq;exact(ok.own s b c' (s1.live ok) s2).2
  exact X3 w _ (by omega)
 ·rw[A2];exact .inr ⟨l.length,w.heap.size,(cap,0),rfl,A2 _ _ _,.inl rfl,rfl⟩
variable {x:Operand} {R:Type} {o:Oper} {T:TypeId} {ti:TInfo} {te:TInfo} {ρ:Env} {K:Eff->Option R} {z:R}
theorem k2o {y:Operand} (Y:ti.OK P T) (Q:ti.elem=some e) (hte:te.OK P e) (ho:o.op=.makeSlice T x y) {n c:Int} (hx:ev ρ x=.one (.sc (.int .i64) n)) (hy:ev ρ y=.one (.sc (.int .i64) c)) (Z:j1e te e k h id' n c K=some z) :
  ∃q,K q=some z/\q.full=none/\∀g s,ev g x=ev ρ x->ev g y=ev ρ y->(∀p∈q.ups,s p.1=h p.1)->A9 P L w0 o g s (q.heap s) q.av:=by
 unfold j1e at Z;split at Z
 rotate_left
 ·grind
 rename_i e1 t1 hzz;obtain⟨hf,X⟩:=Q7 Z;obtain⟨S,I⟩:=B1 X;simp only[ac,decide_eq_true_eq]at S;obtain⟨⟨⟨⟨h0,N⟩,r⟩,B⟩,E⟩:=S;have E:=ab E;refine⟨_,I,rfl,λg s h1 h2 h3=>M7 (λc S=>by grind) λκ a w A ok=>?_⟩;have M:s id'=.fresh:=(h3 (id',.tree e (.arr e1 t1) (List.replicate n.toNat []) []) (by simp)).trans hf;obtain⟨i,f,hi,hisz,hiby,W,hzs,hzl,v,hz1⟩:=hte.zero_one (L:=L);have hu:=q38 Y Q;have G:=A x;rw[h1,hx]at G;have J:=A y;rw[h2,hy]at J;obtain⟨hb1,hb2⟩:=q7d r;have hrun:=run_make (P:=P) w T e i f hu hi W .i64 .i64 n c h0 N (by
  grind) B
 have C:f.cells.size=1:=by omega
 obtain⟨m,F⟩:∃m,f.cells.toList=[m]:=by
  match hq:f.cells.toList with
  | [m]=>grind
  | []=>simp_all
  | _::_::_=>grind[Array.length_toList]
 have hget:∀j,j<c.toNat->(madeCells f.cells (c.toNat*i.size))[j]? = some m:=by
  intro j U;have O:j<c.toNat*i.size:=by grind
  have hm:j % f.cells.size<f.cells.size:=dH _ (by omega);simp only[madeCells,ey,ej,O,if_true,bu];rw[getElem!_pos f.cells _ hm,<-bh hm,C,Nat.mod_one,<-aE,F];rfl
 have t:m=.slice none 0 0:=((v κ s w).2 0 .nils m (by grind) (by grind)).1;obtain⟨V,q1,q2,q3⟩:=z9e (D:=[]) (π:=λ_=>none) ok M (λd hd=>by grind) ⟨λp b c hp=>(by grind),λp q b c c' hp _=>(by grind)⟩ (e:=e) (k:=.arr e1 t1) (l:=List.replicate n.toNat []) (cs:=(madeCells f.cells (c.toNat*i.size)).toList) (cap:=c.toNat)
  (by grind) (by grind[maxLen]) (by grind) (λu hu=>by
   grind[List.getElem?_of_mem,size_madeCells]) (λj y U=>by
   have H:j<n.toNat:=by grind
   rw[dO,if_pos H]at U;cases U;exact⟨m,by grind,.inl ⟨rfl,rfl,t⟩,.inl ⟨rfl,rfl⟩⟩)
 rw[ch,dx]at q3;rw[dx]at q1 q2;refine⟨V,.slice (some ⟨w.heap.size,0,none⟩) n.toNat c.toNat,_,?_,q1,q3,q2⟩;grind[execOp,K1,Sem.run_bind,Result.andThen_ok,Sem.run_pure]
variable {t:Ty}
theorem v1w {o:AObj} {y:List t.den} (h:(OT.arr e t).back o=some y):o=.arr e t y:=by
 cases o with
 | arr a b l =>
  obtain⟨c,d⟩:=B1 h;grind[Nat.eq_of_beq_eq_true,H9]
 | _=>cases h
theorem v1x {e av:Bool} {k v:Ty} {o:AObj} {y:List (k.den×v.den)} (h:(OT.map e av k v).back o=some y):o=.mapo e av k v y:=by
 cases o with
 | mapo a b c d l =>
  obtain⟨g,f⟩:=H9 h;grind
 | _=>cases h
variable {m:List k.den}
theorem j0c {a:OT} {l:List a.den} (h:q5y k a l=some m):∃e:a=k,(e▸l:List k.den)=m:=by
 unfold q5y at h;split at h
 all_goals grind
theorem j6k {h:Heap}:∀(t:OT) {d:List SV} {r:t.den×List Nat},q6i t=true->I5 h t d=some r->d.length=t.row
 | .nil,d,r,_,e=>by
  cases d with
  | nil=>rfl
  | cons a b=>cases e
 | .cons a b,d,r,c,e=>by
  cases d with
  | nil=>cases e
  | cons s d =>
   simp[I5]at e;split at e
   ·rename_i x y g f;show d.length+1=b.row+1;rw[j6k b c f]
   ·cases e
 | .arr _ _,_,_,c,_=>by cases c
 | .map _ _ _ _,_,_,c,_=>by cases c
 | .arrs _ _,_,_,c,_=>by cases c
 | .ptr _,_,_,c,_=>by cases c
 | .opt _,_,_,c,_=>by cases c
theorem k18:∀(t:OT) (_:q6i t=true) {e d:List Nat->Option (Nat×(Nat×Nat))} (_:∀i p,d (i::p)=e (i::p)) {o:List (List Nat×Nat)} {get:Nat->Option Value} {y:t.den},RepO L κ h w t e o get y->RepO L κ h w t d o get y
 | .nil,_,_,_,_,_,_,_,_=>trivial
 | .cons a b,_,e,d,f,o,get,y,⟨g,j⟩=>by
  refine⟨?_,?_⟩
  all_goals grind
 | .arr _ _,c,_,_,_,_,_,_,_=>by cases c
 | .map _ _ _ _,c,_,_,_,_,_,_,_=>by cases c
 | .arrs _ _,c,_,_,_,_,_,_,_=>by cases c
 | .ptr _,c,_,_,_,_,_,_,_=>by cases c
 | .opt _,c,_,_,_,_,_,_,_=>by cases c
theorem y7g (g:HeapOK L w0 κ h w) {A B:List Nat} (hA:∀d∈A,(h d).Held) (i:∀d∈B,(h d).Held) (k:∀a∈A,∀b∈B,a≠b) (h1:Use h A s) (j:Use h B s):False:=by
 rcases h1 with⟨f,_⟩ | ⟨d,f,n,rfl⟩<;>rcases j with⟨c,_⟩ | ⟨l,c,m,e⟩
 ·grind
 ·subst e;exact(hA _ f).2 (N4 g _ _)
 ·exact(i _ c).2 (N4 g _ _)
 grind[J6]
theorem y9c (t:OT) (d:List SV) (K:t.den->List Nat->Option R) (e:q4g h t d K=some z):∃y a,I5 h t d=some (y,a)/\K y a=some z:=by
 fun_induction q4g h t d K
 all_goals try (cases e;done)
 ·grind[Option.bind_eq_some_iff,I5]
 ·grind[I5]
 ·grind[I5]
 ·rename_i c b;obtain⟨x,i,l,f⟩:=b e;obtain⟨y,j,k,g⟩:=c _ _ f;grind[I5]
 grind[Option.bind_eq_some_iff]
variable {ids:List Nat}
theorem j6i {b:List SV} {y:List t.den} (a:I5 h (.arr e t) b=some (y,ids)):(b=[.nils]/\y=[]/\ids=[])\/∃g,b=[.own g]/\h g=.arr e t y/\ids=[g]:=by
 rcases b with _ | ⟨s,_ | ⟨f,r⟩⟩
 ·cases a
 ·cases s with
  | nils=>cases a;grind
  | own g =>
   obtain⟨x,d,c⟩:=az.1 a;grind[v1w]
  | _=>cases a
 ·cases s<;>cases a
theorem j6l {c av:Bool} {k v:Ty} {b:List SV} {y:List (k.den×v.den)} (a:I5 h (.map c av k v) b=some (y,ids)):∃g,b=[.mp g]/\h g=.mapo c av k v y/\ids=[g]:=by
 rcases b with _ | ⟨s,_ | ⟨e,r⟩⟩
 ·cases a
 ·cases s with
  | mp g =>
   obtain⟨x,f,d⟩:=az.1 a;grind[v1x]
  | _=>cases a
 ·cases s<;>cases a
theorem j6j {f:List SV} {y:List k.den} (c:I5 h (.arrs e k) f=some (y,ids)):∃g,f=[.ts g []]/\h g=.tree e k y []/\1<=y.length/\ids=[g]:=by
 rcases f with _ | ⟨s,_ | ⟨l,r⟩⟩
 ·cases c
 ·cases s with
  | ts g p =>
   cases p with
   | cons _ _=>cases c
   | nil =>
    simp[I5]at c;split at c
    ·obtain⟨m,d⟩:=B1 c;obtain⟨x,i,n⟩:=az.1 d;obtain⟨j,i⟩:=j0c i;subst j;simp_all
    grind
  | _=>cases c
 ·cases s<;>first | cases c;done | (rename_i a b;cases b<;>cases c)
theorem j6m {c:OT} {e:List SV} {y:c.den} (d:I5 h (.ptr c) e=some (y,ids)):∃g i f,e=[.ptr g 0]/\h g=.cells i/\q6i c=true/\I5 h c i=some (y,f)/\ids=g::f:=by
 rcases e with _ | ⟨s,_ | ⟨j,r⟩⟩
 ·cases d
 ·cases s with
  | ptr g o =>
   cases o with
   | succ _=>cases d
   | zero =>
    grind[I5,Option.map_eq_some_iff]
  | _=>cases d
 ·cases s<;>first | cases d;done | (rename_i a b;cases b<;>cases d)
theorem y3f (κ:A6) (h:Heap) (D:List Nat):Picks κ h D λ_=>none:=⟨λp b c a=>(by grind),λp q b c d a _=>(by grind)⟩
theorem y3g {g:Nat} (d:(h g).live=true):Picks κ h [g] λp=>if p=[]then κ g else none:=by
 refine⟨λp b c a=>?_,λp q b c f a e=>?_⟩
 ·split at a
  ·exact⟨g,c,.inl ⟨by simp,d⟩,a⟩
  grind
 grind
theorem q80 {κ:A6} {h:Heap} {w:World} (o:HeapOK L w0 κ h w):∀(t:OT) {I:List SV} {get:Nat->Option Value} {y:t.den} {ids:List Nat},(∀(i:Nat) (s:SV),I[i]? = some s->∃v,get i=some v/\RepSV L κ h w s v)->I5 h t I=some (y,ids)->ids.Nodup ->
  (∀d∈ids,(h d).Held)/\∃π,Picks κ h ids π/\RepO L κ h w t π [] get y
 | .arr e t,I,get,y,ids,J,C,T=>by
  rcases j6i C with⟨rfl,rfl,rfl⟩ | ⟨g,rfl,D,rfl⟩
  ·obtain⟨v,m,l⟩:=J 0 _ rfl;exact⟨λd G=>(by grind),_,y3f _ _ _,v,m,.inl ⟨rfl,rfl,l⟩,.inl ⟨rfl,rfl⟩⟩
  ·obtain⟨v,m,l⟩:=J 0 _ rfl;refine⟨λd G=>(by simp_all),_,y3g (by rw[D];rfl),v,m,?_,?_⟩
   ·have:=l.1;grind
   ·have:=o.obj g;rw[D]at this;exact this
 | .map ak av k x,I,get,y,ids,J,C,T=>by
  obtain⟨g,rfl,D,rfl⟩:=j6l C;obtain⟨v,m,_,b,c,Q,l⟩:=J 0 _ rfl;refine⟨λd G=>(by grind),_,y3g (by rw[D];rfl),v,m,?_⟩;have:=o.obj g;rw[D]at this;obtain⟨b',E,es,cl,h1,Y,h3⟩:=this;rw[Q]at h1;cases h1;exact⟨b,c,es,cl,Q,l,Y,h3⟩
 | .opt k,I,get,y,ids,J,C,T=>by
  obtain⟨⟨x,is⟩,hx,Y⟩:=az.1 (show(I5 h k I).map (λr=>(some r.1,r.2))=some (y,ids)from C);cases Y;exact q80 o k J hx T
 | .arrs e k,I,get,y,ids,J,C,T=>by
  obtain⟨g,rfl,D,hl,rfl⟩:=j6j C;obtain⟨v,m,l,_⟩:=J 0 _ rfl;rw[D]at l;have M:=o.obj g;rw[D]at M;rcases l with⟨_,_,h0,_⟩ | ⟨n,b,cap,W,Q,_,hv⟩
  ·grind
  rcases M with⟨h0,_⟩ | ⟨b',cap',cur,X,r2,r3,r4,r5,r6,r7⟩
  ·grind
  rw[show gh g []=g from rfl,X]at Q;cases Q;have W:y.length=n:=bI W;refine⟨λd G=>(by simp_all),λp=>κ (gh g p),⟨λp b c f=>?_,λp q b c E f K=>?_⟩,v,b,cap,cur,m,X,by grind,r2,r3,r4,r5,r6,r7⟩
  ·cases p with
   | nil=>exact⟨g,c,.inl ⟨by simp,by rw[D];rfl⟩,f⟩
   | cons i p=>exact⟨_,c,.inr ⟨g,by simp,_,rfl⟩,f⟩
  ·exact q3g (by grind) o (o.inj _ _ b c E (q8n o D p) (q8n o D q) f K)
 | .ptr c,I,get,y,ids,J,C,T=>by
  obtain⟨g,cs,is,rfl,D,hrow,ha',rfl⟩:=j6m C;obtain⟨v,m,_,b,c0,Q,l⟩:=J 0 _ rfl;have M:=o.obj g;rw[D]at M;obtain⟨b',E,us,ty,X,r2,r3⟩:=M;rw[Q]at X;cases X;obtain⟨hgn,hn2⟩:=cM.1 T;obtain⟨i1,π,U,i3⟩:=q80 o c (get:=λj=>us[j]?) (λi s hs=>by
   grind[q1o]) ha' hn2
  have hgh:(h g).Held:=by omega
  refine⟨λd G=>?_,λp=>if p=[]then some (b,(c0.1,0))else π p,⟨λp R H f=>?_,λp q R H S f K=>?_⟩,v,b,(c0.1,0),us,ty,m,by simp,rfl,l,r2,?_,λu hu=>q42 r3 u hu,?_⟩
  ·grind
  ·split at f
   ·cases f;exact⟨g,_,.inl ⟨by simp,by rw[D];rfl⟩,Q⟩
   ·obtain⟨s,E,N,O⟩:=U.src p R H f;exact⟨s,E,N.mono λd G=>aj _ G,O⟩
  ·have ap:∀p H,π p=some (b,H)->False:=λp H f=>by
    obtain⟨s,E,N,O⟩:=U.src p b H f;have:=o.inj s g b E c0 (N.live o) (by rw[D];rfl) O Q;subst this;exact y7g o (A:=[s]) (B:=is) (λd G=>by grind) i1 (λa C b hb e=>by grind) (.inl ⟨by simp,by rw[D];rfl⟩) N
   split at f<;>split at K
   ·grind
   ·grind
   ·grind
   ·exact U.inj p q R H S f K
  ·rw[r3.1];grind[j6k]
  grind[k18]
 | .nil,I,get,y,ids,J,C,T=>by
  cases I with
  | nil=>cases C;exact⟨λd G=>(by grind),_,y3f _ _ _,trivial⟩
  | cons a b=>cases C
 | .cons a b,I,get,y,ids,J,C,T=>by
  cases I with
  | nil=>cases C
  | cons s I =>
   simp[I5]at C;split at C
   ·rename_i x z h1 Y;cases C;obtain⟨n1,n2,n3⟩:=List.nodup_append.1 T;obtain⟨i1,Z,U,i3⟩:=q80 o a (get:=λj=>if j=0 then get 0 else none) (λi s' hs=>by
     cases i with
     | zero=>simp_all
     | succ i=>grind) h1 n1
    obtain⟨j1,V,j2,j3⟩:=q80 o b (get:=λj=>get (j+1)) (λi s' hs=>J (i+1) s' hs) Y n2;have ap:∀p q b c E,Z p=some (b,c)->V q=some (b,E)->False:=λp q b c E f K=>by
     obtain⟨s,e1,N,O⟩:=U.src p b c f;obtain⟨s',e2,s1',s2'⟩:=j2.src q b E K;have:=o.inj s s' b e1 e2 (N.live o) (s1'.live o) O s2';grind[y7g]
    refine⟨λd G=>(aQ.1 G).elim (i1 d) (j1 d),λp=>match p with | 0::p=>Z p | 1::p=>V p | _=>none,⟨λp R H f=>?_,λp q R H S f K=>?_⟩,i3,j3⟩
    ·split at f
     ·obtain⟨s,E,N,O⟩:=U.src _ R H f;exact⟨s,E,N.mono λd G=>aB _ G,O⟩
     ·obtain⟨s,E,N,O⟩:=j2.src _ R H f;exact⟨s,E,N.mono λd G=>aC _ G,O⟩
     grind
    ·split at f<;>split at K
     all_goals first | (cases f;done) | (cases K;done) | skip
     ·rw[U.inj _ _ R H S f K]
     ·grind
     ·grind
     ·rw[j2.inj _ _ R H S f K]
   grind
theorem y2d:∀{l:List Nat},z5v l=true->l.Nodup
 | [],_=>dS
 | a::r,h=>by
  simp only[z5v,ac,aU]at h;refine cM.2 ⟨λc=>?_,y2d h.2⟩;have:=cE.1 h.1 a c;rw[cT]at this;exact this rfl
theorem q7z {h hs:Heap}:∀(t:OT) {i:List SV} {y:t.den} {ids:List Nat},I5 h t i=some (y,ids)->(∀d∈ids,hs d=h d)->I5 hs t i=some (y,ids)
 | .arr e t,i,y,ids,f,j=>by
  rcases j6i f with⟨rfl,rfl,rfl⟩ | ⟨g,rfl,p,rfl⟩
  ·rfl
  ·have:=j g (by simp);show((OT.arr e t).back (hs g)).map (·,[g])=_;rw[this];exact f
 | .map A v k x,i,y,ids,f,j=>by
  obtain⟨g,rfl,p,rfl⟩:=j6l f;have:=j g (by simp);show((OT.map A v k x).back (hs g)).map (·,[g])=_;rw[this];exact f
 | .opt k,i,y,ids,f,j=>by
  obtain⟨⟨x,u⟩,B,o⟩:=az.1 (show(I5 h k i).map (λr=>(some r.1,r.2))=some (y,ids)from f);cases o;show(I5 hs k i).map (λr=>(some r.1,r.2))=_;rw[q7z k B j];rfl
 | .arrs e k,i,y,ids,f,j=>by
  grind[j6j,I5]
 | .ptr c,i,y,ids,f,j=>by
  obtain⟨g,C,u,rfl,p,n,q,rfl⟩:=j6m f;have:=j g (by simp);simp[I5];rw[this,p];simp only;rw[n,q7z c q λd l=>j d (aj _ l)];rfl
 | .nil,i,y,ids,f,j=>by
  cases i with
  | nil=>exact f
  | cons a b=>cases f
 | .cons a b,i,y,ids,f,j=>by
  cases i with
  | nil=>cases f
  | cons s i =>
   simp[I5]at f ⊢;split at f
   ·rename_i x z w o;cases f;rw[q7z a w λd l=>j d (aB _ l),q7z b o λd l=>j d (aC _ l)]
   ·cases f
variable {len:Nat}
theorem k1v {d:Array (Nat×Operand)} (hti:ti.OK P T) (hel:ti.elem=some e) (hte:te.OK P e) (ho:o.op=.buildSlice T len d) (f:j0x te e len k (ev ρ) d.toList h id' K=some z):∃q,K q=some z/\q.full=none/\∀t hs,(∀p∈d.toList,ev t p.2=ev ρ p.2)->(∀j∈q.rd,hs j=h j)->(∀p∈q.ups,hs p.1=h p.1)->A9 P L w0 o t hs (q.heap hs) q.av:=by
 unfold j0x at f;split at f
 rotate_left
 ·grind
 rename_i x G;obtain⟨vs,H,f⟩:=ae.1 f;obtain⟨B,f⟩:=B1 f;simp only[ac]at B;obtain⟨V,r⟩:=B;have r:=ab r;obtain⟨y,m,N,f⟩:=y9c _ _ _ f;obtain⟨hf,f⟩:=Q7 f;obtain⟨F,he2⟩:=B1 f;simp only[ac]at F;obtain⟨⟨X,b2⟩,b3⟩:=F;have X:=ab X;have b2:=ab b2;subst X;refine⟨_,he2,rfl,λt hs hρ S W=>M7 (λc F=>by grind) λκ a w M ok=>?_⟩;have Z:hs id'=.fresh:=(W (id',.tree e k [y] []) (by simp)).trans hf;have J:=hρ (0,x) (by grind);have C:=M x;rw[J]at C;obtain⟨I,hus,E⟩:=q60 C H V;have D:=q7z (hs:=hs) k N S;have hul:I.length=1:=E.1.trans r;obtain⟨u0,rfl⟩:∃u,I=[u]:=by
  match I,hul with
  | [u],_=>grind
 obtain⟨hD,π,hP,hR⟩:=q80 ok k (get:=λj=>if j=0 then some u0 else none) (λi s hs=>by
  grind[q1o]) D (y2d b3)
 obtain⟨i,Q,hi,hisz,hiby,O,hzs,-,-,hz1⟩:=hte.zero_one (L:=L);have hrun:(Instr.buildSlice T 1 (d.map fun(i,x)=>(i,a.eval x))).run P w=.ok (.slice (some ⟨w.heap.size,0,none⟩) 1 1) (w.alloc (.cells [u0].toArray e)):=by
  refine run_buildSlice w T e 1 _ _ i Q (q38 hti hel) hi O (by omega) (by omega) ?_;have hf':=Great.fill_whole (s:=i.size) (by omega) [a.eval x] ((Array.range (1*i.size)).map (Q.cells[· % Q.cells.size]!)) (λv hv=>by grind) (by simp);simp_all
 have Y:Picks κ hs m λp=>match p with | 0::p=>π p | _=>none:=by
  refine⟨λp b c A=>?_,λp q b c c' A U=>?_⟩
  ·split at A
   ·exact hP.src _ b c A
   grind
  ·split at A<;>split at U
   all_goals first | (cases A;done) | (cases U;done) | skip
   rw[hP.inj _ _ b c c' A U]
 obtain⟨κ',q1,q2,q3⟩:=z9e ok Z hD Y (e:=e) (k:=k) (l:=[y]) (cs:=[u0]) (cap:=1) (by simp) (by grind[maxLen]) (by simp) (λc F=>by grind[q42]) (λi z hz=>by
  cases i with
  | zero=>grind
  | succ i=>grind)
 have n:Eff.heap { av:=.one (.ts id' []),rd:=m,ups:=m.map (λg=>(g,.dead))++[(id',.tree e k [y] [])],full:=none } hs=upd (A3 (m.map λg=>(g,.dead)) hs) id' (.tree e k [y] []):=by
  show A3 (_++_) hs=_;rw[M4];rfl
 rw[n];refine⟨κ',_,_,?_,q1,q3,q2⟩;grind[execOp,Sem.run_bind,Result.andThen_ok,Sem.run_pure]
def q6j (r:Option (Nat×(Nat×Nat))) (κ:A6) (id id2 N:Nat):List Nat->Option (Nat×(Nat×Nat))
 | []=>r
 | i::p=>if i<N then κ (gh id (i::p))else κ (gh id2 ((i-N)::p))
theorem j41 (o:HeapOK L w0 κ h w) {r:Option (Nat×(Nat×Nat))} {id a N:Nat} {M:TypeId} {B:OT} {m:List B.den} {V:List (List Nat×Nat)} (E:h a=.tree M B m V) (W:a∈D) (H:(N=0/\r=none)\/(id∈D/\(∃e k l f,h id=.tree e k l f)/\id≠a/\(r=none\/r=κ id))):Picks κ h D (q6j r κ id a N):=by
 have v:∀p b c,q6j r κ id a N p=some (b,c)->∃s,Use h D s/\κ s=some (b,c) /\
   ((p=[]/\s=id/\id∈D/\(∃e k l f,h id=.tree e k l f)/\id≠a)\/(∃i q,p=i::q/\i<N/\s=gh id (i::q)/\(∃e k l f,h id=.tree e k l f)/\id≠a)\/∃i q,p=i::q/\¬i<N/\s=gh a ((i-N)::q)):=λp b c d=>by
  cases p with
  | nil =>
   have d:r=some (b,c):=d;rcases H with⟨_,J⟩ | ⟨u,n,x,t⟩
   ·grind
   ·rcases t with t | t
    ·grind
    ·refine⟨id,.inl ⟨u,?_⟩,t▸d,.inl ⟨rfl,rfl,u,n,x⟩⟩;obtain⟨_,_,_,_,R⟩:=n;rw[R];rfl
  | cons i q =>
   simp[q6j]at d;split at d
   ·rename_i y;rcases H with⟨J,_⟩ | ⟨u,n,x,t⟩
    ·omega
    ·exact⟨_,.inr ⟨id,u,_,rfl⟩,d,.inr (.inl ⟨i,q,rfl,y,rfl,n,x⟩)⟩
   ·rename_i z;exact⟨_,.inr ⟨a,W,_,rfl⟩,d,.inr (.inr ⟨i,q,rfl,z,rfl⟩)⟩
 refine⟨λp b c d=>?_,λp q b c C d U=>?_⟩
 ·grind
 ·obtain⟨s,s1,T,O⟩:=v p b c d;obtain⟨X,Z,Q,t3⟩:=v q b C U;have:=o.inj s X b c C (s1.live o) (Z.live o) T Q;subst this;rcases O with⟨rfl,n,x,⟨_,_,_,_,t⟩,F⟩ | ⟨i,Y,rfl,u,n,⟨_,_,_,_,t⟩,F⟩ | ⟨i,Y,rfl,u,n⟩<;>rcases t3 with⟨rfl,g,b3,⟨_,_,_,_,K⟩,G⟩ | ⟨j,S,rfl,I,g,⟨_,_,_,_,K⟩,G⟩ | ⟨j,S,rfl,I,g⟩<;>rw[n]at g
  ·exact absurd g.symm (J0 o (by grind) _ _)
  ·exact absurd g.symm (J0 o (by grind) _ _)
  ·exact absurd g (J0 o (by grind) _ _)
  ·grind[q3g]
  ·exact absurd (J6 g).1 F
  ·exact absurd g (J0 o (by grind) _ _)
  ·exact absurd (J6 g).1.symm G
  grind[q3g]
theorem y8c (E:HeapOK L w0 κ h w) {id:Nat} (l:h id=.tree e k m []) {v:Value} (g:RepSV L κ h w (.ts id []) v) (I:1<=m.length) :
  ∃b a f d,κ id=some (b,(a,f))/\v=.slice (some ⟨b,f,none⟩) m.length a/\w.heap[b]? = some (.cells d e (0,0))/\f+a<=d.size/\a<=maxLen/\m.length<=a/\(∀c∈d.toList,c.oneCell'=true) /\
   (∀i y,m[i]? = some y->RepO L κ h w k (λp=>κ (gh id (i::p))) [] (λj=>if j=0 then d[f+i]? else none) y) /\
   ((d.toList.drop f).take m.length).length=m.length/\∀j u,((d.toList.drop f).take m.length)[j]? = some u->w.cell? (Addr.add ⟨b,f,none⟩ j)=some u:=by
 have g:=g.1;rw[l]at g;rcases g with⟨_,_,D,_⟩ | ⟨n,b,a,q,t,_,g⟩
 ·grind
 have o:=E.obj id;rw[l]at o;rcases o with⟨D,_⟩ | ⟨J,s,d,r,A,G,z,F,B,C⟩
 ·grind
 rw[show gh id []=id from rfl,r]at t;cases t;have q:m.length=n:=bI q;subst q;have x:((d.toList.drop a.2).take m.length).length=m.length:=by grind
 refine⟨b,a.1,a.2,d,r,g,A,G,z,F,B,C,x,λj u H=>?_⟩;grind[U5,World.cell?]
theorem j60 {b:TInfo} (a:b.OK P T) (c:b.elem=some e):P.underlying T=some (.slice e):=by
 obtain⟨-,d,g,-,f,-⟩:=a.base;grind
theorem j71 (ok:HeapOK L w0 κ h w) {ty:TypeId} {I A:TInfo} (F:I.OK P T) (E:I.elem=some e) (x:A.OK P e) (Y:A.size=1) {n:Nat} (hf:h id'=.fresh) {D:List Nat} (hD:∀d∈D,(h d).Held) (S:n∈D) (o:h n=.tree e k m []) (U:1<=m.length) (p:A8 m.length A.bytes=true) {xv:Value} (hx:RepSV L κ h w (.ts n []) xv) :
  ∃f v t,(Builtin.append_ #[T,T] ty #[.slice none 0 0,xv]).run P w=.ok v t/\HeapOK L w0 f (upd (A3 (D.map λg=>(g,.dead)) h) id' (.tree e k m [])) t /\
   RepAV L f (upd (A3 (D.map λg=>(g,.dead)) h) id' (.tree e k m [])) t (.one (.ts id' [])) v/\Ext L κ h w f (upd (A3 (D.map λg=>(g,.dead)) h) id' (.tree e k m [])) t:=by
 obtain⟨b,cap,a,c,hk,rfl,r2,r3,r4,r5,r6,R,hl,q⟩:=y8c ok o hx U;obtain⟨i,z,Z,K,J,B,hzs,-,-,M⟩:=x.zero_one (L:=L);obtain⟨W,hb2⟩:=q7d p;have H:=run_append_nil (P:=P) w T ty e i z (j60 F E) Z B ⟨b,a,none⟩ m.length cap ((c.toList.drop a).take m.length) (by grind) q (by omega) (by omega) (by grind);have C:=grownCap_ge w m.length 0 e;have G:grownCap w m.length 0 e<=maxLen:=grownCap_le_maxLen w m.length 0 e (by omega);have O:(Builtin.zeroCells z.cells (grownCap w m.length 0 e-m.length)).toList.length=grownCap w m.length 0 e-m.length:=by grind[size_zeroCells]
 have s:(((c.toList.drop a).take m.length).toArray++Builtin.zeroCells z.cells (grownCap w m.length 0 e-m.length))=((c.toList.drop a).take m.length++(Builtin.zeroCells z.cells (grownCap w m.length 0 e-m.length)).toList).toArray:=by
  grind
 rw[s]at H;obtain⟨f,X,q2,Q⟩:=z9e (q3j ok) hf hD (j41 (q3j ok) (r:=none) (id:=n) (N:=0) o S (.inl ⟨rfl,rfl⟩)) (e:=e) (k:=k) (l:=m) (cs:=(c.toList.drop a).take m.length++(Builtin.zeroCells z.cells (grownCap w m.length 0 e-m.length)).toList) (cap:=grownCap w m.length 0 e) C G
  (by grind) (λu hu=>by
   grind[z9i]) (λi y V=>by
   have e2:(λj=>if j=0 then((c.toList.drop a).take m.length++(Builtin.zeroCells z.cells (grownCap w m.length 0 e-m.length)).toList)[i]? else none)=λj=>if j=0 then c[a+i]? else none:=by
    grind
   rw[e2];exact RepO.move (T2 κ h w).free k (λ_ _ _ _=>rfl) (R i y V))
 exact⟨f,_,_,H,X,Q,(T2 κ h w).trans q2⟩
theorem v5k {w':World} (m:HeapOK L w0 κ h w) {id b:Nat} {cap:Nat×Nat} (a:h id=.tree e k l []) (p:κ id=some (b,cap)) {g cur':Array Value} (s:w.heap[b]? = some (.cells g e (0,0))) (t:w'.heap[b]? = some (.cells cur' e (0,0))) (hs:w'.heap.size=w.heap.size) (u:∀f,f≠b->w'.heap[f]? = w.heap[f]?) (r:Below w0.heap.size w0 w') (F:cur'.size=g.size) (h1:∀c∈cur'.toList,c.oneCell'=true) (n:∀i,i<l.length->cur'[cap.2+i]? = g[cap.2+i]?):HeapOK L w0 κ h w'/\Ext L κ h w κ h w':=by
 have d:(h id).like (.tree e k l []):=by rw[a];rfl
 have j:upd h id (.tree e k l [])=h:=q5p h id _ a;have x:=U9 (L:=L) p d (.inl (.inl ⟨_,_,_,s⟩)) hs u;have D:=X4 (w':=w') m p d hs u r;rw[j]at x D;refine⟨D ?_,x⟩;have o:=m.obj id;rw[a]at o;rcases o with⟨N,_⟩ | ⟨f,C,z,B,A,M,H,J,K,G⟩
 ·grind
 rw[p]at B;cases B;rw[s]at A;cases A;refine .inr ⟨b,cap,cur',p,t,by omega,H,J,h1,λi y v=>?_⟩;rw[n i (ag.1 v).1];refine RepO.move x.free k (λq f c E=>u f λI=>?_) (G i y v);subst I;have:=q3g (by grind) m (m.inj _ (gh id []) f c cap (q8n m a _) (q8n m a []) E p);grind
theorem v1t (ok:HeapOK L w0 κ h w) {ty:TypeId} (hti:ti.OK P T) (hel:ti.elem=some e) (hte:te.OK P e) (hsz:te.size=1) {id:Nat} (hf:h id'=.fresh) (hne:id≠s) (A:h id=.tree e k l []) (t:h s=.tree e k m []) (hm:1<=m.length) (B:A8 (l.length+m.length) te.bytes=true) {sv xv:Value} (hs:RepSV L κ h w (.ts id []) sv) (hx:RepSV L κ h w (.ts s []) xv) :
  ∃O v X,(Builtin.append_ #[T,T] ty #[sv,xv]).run P w=.ok v X/\HeapOK L w0 O (upd (A3 ([id,s].map λg=>(g,.dead)) h) id' (.tree e k (l++m) [])) X /\
   RepAV L O (upd (A3 ([id,s].map λg=>(g,.dead)) h) id' (.tree e k (l++m) [])) X (.one (.ts id' [])) v/\Ext L κ h w O (upd (A3 ([id,s].map λg=>(g,.dead)) h) id' (.tree e k (l++m) [])) X:=by
 have hD:∀d∈[id,s],(h d).Held:=λd hd=>by
  simp[al,List.not_mem_nil,or_false]at hd;rcases hd with rfl | rfl
  all_goals simp_all
 have hv:=hs.1;rw[A]at hv;rcases hv with⟨_,_,h0,hv⟩ | ⟨n0,b0,cap0,Y,hk0,_,hv⟩
 ·subst h0;rw[hv];simp[aq,cA]at B;exact j71 ok hti hel hte hsz hf hD (by simp) t hm B hx
 obtain⟨b2,S,f,n,s1,rfl,s2,s3,s4,s5,s6,s7,V,E⟩:=y8c ok t hx hm;have hob:=ok.obj id;rw[A]at hob;rcases hob with⟨h0,_⟩ | ⟨b,⟨cap,a⟩,o,r1,r2,r3,r4,r5,r6,r7⟩
 ·grind[gh]
 rw[show gh id []=id from rfl,r1]at hk0;obtain⟨rfl,rfl⟩:b=b0/\(cap,a)=cap0:=by grind
 have Y:l.length=n0:=bI Y;subst Y;subst hv;simp at r3 r4 r5 r7;obtain⟨i,z,hi,hisz,hiby,hiz,hzs,-,-,hz1⟩:=hte.zero_one (L:=L);obtain⟨hb1,hb2⟩:=q7d B;have J:i.size=1:=hisz.trans hsz;have hnew:∀j,j<m.length->((n.toList.drop f).take m.length)[j]? = n[f+j]?:=λj hj=>by
  grind
 by_cases hfit:l.length+m.length<=cap
 ·have Z:=y4w (P:=P) T ty e i (j60 hti hel) hi w b a l.length cap o r2 ⟨b2,f,none⟩ m.length S ((n.toList.drop f).take m.length) (by grind) E (λu R=>s6 u (bY (bq R))) hfit (by grind);rw[J,dP,V]at Z;generalize hw':w.setRow b _=X at Z;have hown:=ok.own id b (cap,a) (by rw[A];rfl) r1;have C:(o.toList.take (a+l.length)).length=a+l.length:=by grind
  have hg:∀q,(o.toList.take (a+l.length)++(n.toList.drop f).take m.length++o.toList.drop (a+l.length+m.length)).toArray[q]? = if q<a+l.length then o[q]? else if q<a+l.length+m.length then n[f+(q-(a+l.length))]? else o[q]?:=λq=>by
   rw[cx];by_cases h1:q<a+l.length
   ·grind
   ·rw[if_neg h1];by_cases h2:q<a+l.length+m.length
    ·grind
    ·rw[if_neg h2,aP (by grind),aK,C,V,aT,aE,show a+l.length+m.length+(q-(a+l.length+m.length))=q by omega]
  have F:X.heap[b]? = some (.cells (o.toList.take (a+l.length)++(n.toList.drop f).take m.length++o.toList.drop (a+l.length+m.length)).toArray e (0,0)):=by grind[setRow_heap]
  have M:∀c∈(o.toList.take (a+l.length)++(n.toList.drop f).take m.length++o.toList.drop (a+l.length+m.length)).toArray.toList,c.oneCell'=true:=λu R=>by
   grind
  have K:(o.toList.take (a+l.length)++(n.toList.drop f).take m.length++o.toList.drop (a+l.length+m.length)).toArray.size=o.size:=by
   grind
  generalize (o.toList.take (a+l.length)++(n.toList.drop f).take m.length++o.toList.drop (a+l.length+m.length)).toArray=U at hg F M K;obtain⟨I,x1⟩:=v5k ok A r1 r2 F (by rw[<-hw'];simp) (λb' hb'=>by grind[setRow_other]) (by rw[<-hw'];exact q0y _ ok.below hown.1) K M (λi hi=>by grind);have hbb:b2≠b:=λe0=>hne (ok.inj id s b (cap,a) (S,f) (by rw[A];rfl) (by rw[t];rfl) r1 (e0▸s1));obtain⟨⟨ok2,x2⟩,f2⟩:=j9t I hf hD (j41 I (D:=[id,s]) (r:=κ id) (N:=l.length) t (by simp) (.inr ⟨by simp,⟨_,_,_,_,A⟩,hne,.inr rfl⟩)) (.tree e k (l++m) []) (λhfr=>by
   refine .inr ⟨b,(cap,a),U,?_,F,by omega,r4,by grind,M,λi y Q=>?_⟩
   ·have:=q3f (D:=[id,s]) (π:=q6j (κ id) κ id s l.length) I hf [];exact this.trans r1
   ·have e1:(λp=>P2 κ [id,s] id' (q6j (κ id) κ id s l.length) (gh id' (i::p)))=λp=>if i<l.length then κ (gh id (i::p))else κ (gh s ((i-l.length)::p)):=funext λp=>q3f I hf (i::p)
    rw[e1];by_cases x:i<l.length
    ·rw[aH x]at Q;simp[x,if_true];have:=I.obj id;rw[A]at this;rcases this with⟨h0,_⟩ | ⟨b3,cap3,cur3,t1,t2,_,_,_,_,t7⟩
     ·grind
     rw[r1]at t1;cases t1;rw[F]at t2;cases t2;exact RepO.free hfr k (t7 i y Q)
    ·rw[aP (by omega)]at Q;have hj:i-l.length<m.length:=(ag.1 Q).1;simp[x,if_false];have:=I.obj s;rw[t]at this;rcases this with⟨h0,_⟩ | ⟨b3,cap3,cur3,t1,t2,_,_,_,_,t7⟩
     ·grind
     rw[s1]at t1;cases t1;rw[show X.heap[b2]? = w.heap[b2]? by grind[setRow_other],s2]at t2;cases t2;have e2:U[a+i]? = n[f+(i-l.length)]?:=by
      rw[hg,if_neg (by omega),if_pos (by omega),show a+i-(a+l.length)=i-l.length by omega]
     show RepO _ _ _ _ _ _ _ (λj=>if j=0 then U[a+i]? else none) _
     rw[e2];exact RepO.free hfr k (t7 (i-l.length) y Q))
  refine⟨_,_,X,Z,ok2,⟨?_,rfl⟩,x1.trans x2⟩;rw[A2];refine .inr ⟨_,b,(cap,a),rfl,?_,.inl rfl,?_⟩
  all_goals grind[q3f,q6j]
 ·have C:((o.toList.drop a).take l.length).length=l.length:=by grind
  have Z:=run_append_grow (P:=P) w T ty e i z (j60 hti hel) hi hiz ⟨b,a,none⟩ l.length cap ((o.toList.drop a).take l.length) (by grind) (λj v hj=>by
   have hjl:j<l.length:=by have:=(ag.1 hj).1;omega
   rw[aV hjl,aT]at hj;grind[U5,World.cell?]) ⟨b2,f,none⟩ m.length S ((n.toList.drop f).take m.length) (by rw[V,J];omega) E (by omega) (by omega) (growslice_fits (by omega) (by rw[hiby];exact hb2))
  have hge:=grownCap_ge w (l.length+m.length) cap e;have W:grownCap w (l.length+m.length) cap e<=maxLen:=grownCap_le_maxLen w _ cap e (by simp[maxLen];omega);generalize hG:grownCap w (l.length+m.length) cap e=G at Z hge W;have hzl:(Builtin.zeroCells z.cells (G-(l.length+m.length))).toList.length=G-(l.length+m.length):=by rw[bj,size_zeroCells,hzs,hsz];omega
  have harr:(((o.toList.drop a).take l.length).toArray++((n.toList.drop f).take m.length).toArray++Builtin.zeroCells z.cells (G-(l.length+m.length)))=((o.toList.drop a).take l.length++(n.toList.drop f).take m.length++(Builtin.zeroCells z.cells (G-(l.length+m.length))).toList).toArray:=by
   apply aX.1;simp
  rw[harr]at Z;obtain⟨O,q1,q2,q3⟩:=z9e (q3j ok) hf hD (j41 (q3j ok) (r:=none) (N:=l.length) t (by simp) (.inr ⟨by simp,⟨_,_,_,_,A⟩,hne,.inl rfl⟩)) (e:=e) (k:=k) (l:=l++m)
   (cs:=(o.toList.drop a).take l.length++(n.toList.drop f).take m.length++(Builtin.zeroCells z.cells (G-(l.length+m.length))).toList) (cap:=G) (by rw[aK];exact hge) W
   (by rw[aK,aK,C,V,hzl];omega) (λu R=>by
    simp only[aQ]at R;rcases R with(R | R) | R
    ·exact r6 u (bY (bq R))
    ·exact s6 u (bY (bq R))
    ·exact z9i hz1 _ u R) (λi y Q=>by
    by_cases x:i<l.length
    ·rw[aH x]at Q;have e2:((o.toList.drop a).take l.length++(n.toList.drop f).take m.length++(Builtin.zeroCells z.cells (G-(l.length+m.length))).toList)[i]? = o[a+i]?:=by
      rw[aH (by rw[aK,C];omega),aH (by rw[C];exact x),aV x,aT,aE]
     rw[e2];show RepO _ _ _ _ _ (λp=>if i<l.length then κ (gh id (i::p))else κ (gh s ((i-l.length)::p))) _ _ _
     simp only[x,if_true];exact RepO.move (T2 κ h w).free k (λ_ _ _ _=>rfl) (r7 i y Q)
    ·rw[aP (by omega)]at Q;have hj:i-l.length<m.length:=(ag.1 Q).1;have e2:((o.toList.drop a).take l.length++(n.toList.drop f).take m.length++(Builtin.zeroCells z.cells (G-(l.length+m.length))).toList)[i]? = n[f+(i-l.length)]?:=by
      rw[aH (by rw[aK,C,V];omega),aP (by omega),C,hnew _ hj]
     rw[e2];show RepO _ _ _ _ _ (λp=>if i<l.length then κ (gh id (i::p))else κ (gh s ((i-l.length)::p))) _ _ _
     simp only[x,if_false];exact RepO.move (T2 κ h w).free k (λ_ _ _ _=>rfl) (s7 (i-l.length) y Q))
  rw[aK]at q3;exact⟨O,_,_,Z,q1,q3,(T2 κ h w).trans q2⟩
theorem k1o {s:Operand} (V:ti.OK P T) (Y:ti.elem=some e) (Z:te.OK P e) (ho:o.op=.call { callee:=.builtin .append,args:=#[s,x],argTypes:=#[T,T] }) {b:Nat} {sx:SV} (h1:ev ρ s=.one sx) (h2:ev ρ x=.one (.ts b [])) (i:j0w te e h id' sx b K=some z):∃q,K q=some z/\q.full=none/\∀r t,ev r s=ev ρ s->ev r x=ev ρ x->(∀j∈q.rd,t j=h j)->(∀p∈q.ups,t p.1=h p.1)->A9 P L w0 o r t (q.heap t) q.av:=by
 have H:∀c,o.op≠.defer c:=λc U=>by grind
 unfold j0w at i;split at i
 ·rename_i e2 k m I;obtain⟨hf,i⟩:=Q7 i;obtain⟨U,O⟩:=B1 i;simp only[ac]at U;obtain⟨⟨⟨J,S⟩,X⟩,W⟩:=U;have J:=ab J;have S:=ab S;have W:=ao W;subst J;refine⟨_,O,rfl,λr t E C M G=>M7 H λκ a w y ok=>?_⟩;have B:=y s;rw[E,h1]at B;have A:=y x;rw[C,h2]at A;have hsv':a.eval s=.slice none 0 0:=B;have F:=(M b (by simp)).trans I;obtain⟨N,v,w',c1,c2,c3,c4⟩:=j71 (T:=T) (ty:=o.type) ok V Y Z S (id':=id') ((G (id',.tree e k m []) (by simp)).trans hf) (D:=[b]) (λd hd=>by simp_all) (by simp) F W X A;exact⟨N,v,w',q4p ho (by grind),c2,c3,c4⟩
 ·rename_i id e2 k2 m I;split at i
  rotate_left
  ·grind
  rename_i e1 k l f hid;rw[q10]at i;obtain⟨⟨l1,u⟩,hcl,i⟩:=ae.1 i;obtain⟨n,hn,i⟩:=ae.1 i;obtain⟨hf,i⟩:=Q7 i;obtain⟨U,O⟩:=B1 i;simp only[ac,aU]at U;obtain⟨⟨⟨⟨⟨⟨J,S⟩,X⟩,W⟩,b5⟩,b6⟩,b7⟩:=U;have J:=ab J;have S:=ab S;have X:=ab X;have b6:=ao b6;have hne:id≠b:=λe0=>by simp_all
  subst J;obtain⟨hk,hm⟩:=j0c hn;subst hk;subst hm;refine⟨_,O,rfl,λr t E C M G=>M7 H λκ a w y ok=>?_⟩;have F:=(M id (by simp)).trans hid;have hfs:=(G (id',.tree e k2 (l1++m) []) (by simp)).trans hf;have B:=y s;rw[E,h1]at B;have A:=y x;rw[C,h2]at A;obtain⟨l1',u',hlu,hin',h4,κ1,h5,hf1⟩:=q62 ok F (q61 hcl (λp hp=>G p (by grind)));cases hlu;have hu2:∀p∈u,p.1≠b:=λp hp e0=>by
   grind[Nat.beq_refl]
  have n1:id'≠id:=λe0=>by grind
  obtain⟨N,v,w',c1,c2,c3,c4⟩:=v1t (T:=T) (ty:=o.type) h5.1 V Y Z X (id':=id') (by rw[A0 _ _ n1,q4h u t (y8l h4 hfs)];omega) hne (A2 _ _ _) (by grind[A0,q4h]) b6 W (RepSV.ext h5.2 _ _ B) (RepSV.ext h5.2 _ _ A);have Q:upd (A3 ([id,b].map λg=>(g,AObj.dead)) (upd (A3 u t) id (.tree e k2 l1 []))) id' (.tree e k2 (l1++m) [])=Eff.heap { av:=.one (.ts id' []),rd:=[id,b],ups:=u++[(id,.dead),(b,.dead),(id',.tree e k2 (l1++m) [])],full:=none } t:=by
   show upd (upd (upd (upd (A3 u t) id _) id .dead) b .dead) id' _=A3 (u++_) t;rw[M4,z2o];rfl
  rw[Q]at c2 c3 c4;exact⟨N,v,w',q4p ho c1,c2,c3,h5.2.trans c4⟩
 grind
theorem j8g (ok:HeapOK L w0 κ h w) {g g' off:Nat} {l:List t.den} (hg:h g=.arr e t l) (hf:h g'=.fresh) (hlen:off+len=l.length) {v:Value} (hv:RepSV L κ h w (.sub g off len) v) :
  ∃κ',HeapOK L w0 κ' (upd (upd h g .dead) g' (.arr e t (l.drop off))) w/\Ext L κ h w κ' (upd (upd h g .dead) g' (.arr e t (l.drop off))) w/\RepSV L κ' (upd (upd h g .dead) g' (.arr e t (l.drop off))) w (.own g') v:=by
 have hone:=hv.2;have hv:=hv.1;rw[hg]at hv;obtain⟨hle,hv⟩:=hv;have hob:=ok.obj g;rw[hg]at hob;have hlive:(h g).live=true:=by rw[hg];rfl
 have hne:g'≠g:=λe0=>by rw[e0,hg]at hf;cases hf
 have hdl:(l.drop off).length=len:=by rw[bR];omega
 rcases hv with⟨hk,hv⟩ | ⟨b,cap,o,hk,hv,ho⟩
 ·rcases hob with⟨_,hnil⟩ | ⟨b',cap',cur,hk',_⟩
  ·subst hnil;have hgone:(h g).gone .dead:=by rw[hg];simp[AObj.gone]
   have okD:=q2b ok hgone;have exD:=q0d (L:=L) (κ:=κ) (w:=w) hgone;have hfD:upd h g .dead g'=.fresh:=by rw[A0 _ _ hne];exact hf
   rw[List.drop_nil];refine⟨_,q4y okD e t hfD,exD.trans (q3d e t hfD),?_,hone⟩;rw[A2];exact .inl ⟨A2 _ _ _,rfl,hv⟩
  ·rw[hk]at hk';cases hk'
 ·rcases hob with⟨hk',_⟩ | ⟨b',cap',cur,hk',hheap,hcsz,hcm,hll,h1,hel⟩
  ·rw[hk]at hk';cases hk'
  rw[hk]at hk';simp at hk';obtain⟨rfl,rfl⟩:=hk';have hx:=q4r (L:=L) (κ:=κ) (h:=h) (w:=w) (w':=w) (c':=(cap.1-off,o)) (obj':=.arr e t (l.drop off)) hlive (by rw[hg];simp) hk hf (.inl (.inl ⟨_,_,_,hheap⟩)) rfl (λ_ _=>rfl);have hsz:o+(cap.1-off)*t.size<=cur.size:=by
   rcases ho with rfl | ⟨h2,h3⟩
   ·have hmul:off*t.size+(cap.1-off)*t.size=cap.1*t.size:=by rw[<-bH];congr 1;omega
    omega
   ·rw[show cap.1-off=0 by omega,fD];omega
  refine⟨_,q6e ok hlive (by rw[hg];simp) hk hf (.inl (.inl ⟨_,_,_,hheap⟩)) rfl (λ_ _=>rfl) ok.below (.inr ⟨b,(cap.1-off,o),cur,A2 _ _ _,hheap,hsz,by show cap.1-off<=_;omega,by show _<=cap.1-off;omega,h1,λi y hy=>?_⟩),hx,?_,hone⟩
  ·have hi:i<len:=by have:=(ag.1 hy).1;omega
   have ho:=ho.resolve_right (by omega);rw[aT]at hy;refine RepAt.congr t _ _ y (λc hc=>?_) (RepAt.ext hx (hel _ y hy));simp only[hc,if_true,ho];rw[bH];congr 1;omega
  ·rw[A2];exact .inr ⟨b,(cap.1-off,o),A2 _ _ _,by rw[hdl];exact hv⟩
theorem k30 {y:Operand} (hti:ti.OK P T) (ho:o.op=.store T x y) {id i g0 off:Nat} {p:List Nat} (hx:ev ρ x=.one (.tp id p i)) (hy:ev ρ y=.one (.sub g0 off len)) (he:j1s ti h id' id p i g0 off len K=some z):∃q,K q=some z/\q.full=none/\∀ρs hs,ev ρs x=ev ρ x->ev ρs y=ev ρ y->(∀j∈q.rd,hs j=h j)->(∀p∈q.ups,hs p.1=h p.1)->A9 P L w0 o ρs hs (q.heap hs) q.av:=by
 have hdef:∀c,o.op≠.defer c:=λc hc=>by rw[ho]at hc;cases hc
 obtain⟨⟨ii,_,hi,hisz,-⟩,-⟩:=hti.base;unfold j1s at he;split at he
 ·rename_i e k l f e0 t0 l0 hid hg0;obtain⟨hc1,he⟩:=B1 he;simp only[ac]at hc1;have hsz1:=ab hc1.1;have hlen:=ab hc1.2;obtain⟨c,hc,he⟩:=ae.1 he;obtain⟨hov,he⟩:=B1 he;simp only[ac]at hov;obtain⟨hov,hpe⟩:=hov;obtain⟨c0,cr,y0,ob,hcc,hy0,hgk,he⟩:=q7t he;obtain⟨g1,hg1,he⟩:=ae.1 he;obtain⟨t,hat,hin⟩:=ae.1 hg1;have hin':g1=id':=by
   have key:∀(t:OT) {g1:Nat},q6m t (.own id')=some g1->g1=id':=by
    intro t
    induction t with
    | arr _ _=>intro g1 h;cases h;rfl
    | opt k ih=>intro g1 h;exact ih h
    | _=>intro g1 h;cases h
   exact key t hin
  subst hin';obtain⟨hfr,he⟩:=Q7 he;rw[q4c]at he;obtain⟨l1,hl1,he⟩:=ae.1 he;have hf0:f=[]\/∃g',f=[(c,g')]:=by
   match f,hov,hpe with
   | [],_,_=>exact .inl rfl
   | [(q,g)],_,hpe=>exact .inr ⟨g,by rw[show q=c from q9u (aG.1 hpe (q,g) (by simp))]⟩
  refine⟨_,he,rfl,λρs hs hρx hρy hrd hup=>q55 hdef λκ a w hev ok=>?_⟩;have hids:hs id=.tree e k l f:=(hrd id (by simp)).trans hid;have hgs:hs g0=.arr e0 t0 l0:=(hup (g0,.dead) (by simp)).trans hg0;have hfs:hs g1=.fresh:=(hup (g1,.dead) (by simp)).trans hfr;have hn1:id≠g0:=λe1=>by rw[e1,hgs]at hids;cases hids
  have hn2:id≠g1:=λe1=>by rw[e1,hfs]at hids;cases hids
  have hyv:=hev y;rw[hρy,hy]at hyv;obtain⟨κ1,ok1,x1,hv1⟩:=j8g ok hgs hfs hlen hyv;have hids1:upd (upd hs g0 .dead) g1 (.arr e0 t0 (l0.drop off)) id=.tree e k l f:=by rw[A0 _ _ hn2,A0 _ _ hn1];exact hids
  have hxv:=hev x;rw[hρx,hx]at hxv;obtain⟨_,b,cap,_,q1,_,q2⟩:=q1q (L:=L) (w:=w) (RepSV.ext x1 _ _ hxv) hids1;obtain⟨b',cap',cur,ty,κ',s1,s2,s3,s4,s5⟩:=j5h ok1 hids1 hc hcc hy0 hgk hat hin hf0 hv1 (by rw[A2];rfl) (by rw[A2];exact hl1);rw[q1]at s1;cases s1;rw[z2o]at s4 s5;exact⟨κ',_,q8j ho q2 w _ (j5g hi hyv.2 (by rw[hisz,hsz1]) s2 s3),s4,x1.trans s5⟩
 ·cases he
end Go.Abs
