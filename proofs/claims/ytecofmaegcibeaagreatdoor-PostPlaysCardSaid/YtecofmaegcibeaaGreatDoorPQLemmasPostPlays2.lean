/- Lemmas on functions of the program, by name. -/
import Derived.Test.YtecofmaegcibeaaGreatDoorPQFuns
import Derived.Test.YtecofmaegcibeaaGreatDoorAbsSums
import Derived.Test.YtecofmaegcibeaaGreatDoorPQLemmasPostPlays1
namespace Go.Proofs.Tryz
section
open Go Go.Abs

abbrev Sm:=Int×Int×List Int×Unit
def okS (s:Sm):Prop:=sck s.1 s.2.1 s.2.2.1 4=0
def leS (a b:Sm):Bool:=decide (a.1.toNat+a.2.2.1.length=b.1.toNat+b.2.2.1.length)&&!(List.range (a.1.toNat+a.2.2.1.length)).any (q2d a.1.toNat a.2.1 a.2.2.1 b.1.toNat b.2.1 b.2.2.1)
theorem q9q {s:Sm} (h:okS s):∃(n:Nat) (d:Int) (p:List Int),s=((n:Int),d,p,())/\1<=n/\n+p.length<=4:=by
 obtain⟨n,d,p,⟨⟩⟩:=s;obtain⟨g,f,b,e,a,c⟩:=Q9 (show sck n d p 4=0 from h);obtain⟨k,rfl⟩:=bL (show 0<=n by omega);grind
variable {a:Sm} {b:Sm}
theorem y7w (f:okS a) (c:okS b):q7o (a,b,())=some (leS a b,()):=by
 obtain⟨n,d,p,rfl,-⟩:=q9q f;obtain⟨m,e,q,rfl,-⟩:=q9q c;exact k45 f c
theorem k0g (f:okS a) (c:okS b):z0s (a,b,())=some (leS a b,()):=by
 obtain⟨n,d,p,rfl,-⟩:=q9q f;obtain⟨m,e,q,rfl,-⟩:=q9q c;exact k0f f c
def q1l (s:Sm):Int:=s.1+(s.2.2.1.length:Int)
def F2 (s:Sm):List Int:=s.1::s.2.1::s.2.2.1
def q7v:List Int->Sm
 | n::d::p=>(n,d,p,())
 | _=>(0,0,[],())
theorem j61 (s:Sm):q7v (F2 s)=s:=rfl
theorem z5c (h:F2 a=F2 b):a=b:=by grind[j61]
theorem v3e (a b c:Int):q35 ([a,b,c],())=some (if a≠0 then a else if b≠0 then b else c,()):=by
 have g:∀(i:Nat) (v:Int),[a,b,c][i]? = some v->q13 ([a,b,c],()) ((i:Int),())=some (if v≠0 then .inr (.inl (v,()))else .inl (((i+1:Nat):Int),())):=λi v m=>by
  grind[q13,X1,B2]
 have f:q13 ([a,b,c],()) ((0:Int),())=some (if a≠0 then .inr (.inl (a,()))else .inl ((1:Int),())):=g 0 a rfl
 have e:q13 ([a,b,c],()) ((1:Int),())=some (if b≠0 then .inr (.inl (b,()))else .inl ((2:Int),())):=g 1 b rfl
 have d:q13 ([a,b,c],()) ((2:Int),())=some (if c≠0 then .inr (.inl (c,()))else .inl ((3:Int),())):=g 2 c rfl
 have l:q13 ([a,b,c],()) ((3:Int),())=some (.inr (.inr (.inl ()))):=rfl;unfold q35;by_cases h:a=0
 ·rw[if_neg (by omega)]at f;rw[H4 f];by_cases j:b=0
  ·rw[if_neg (by omega)]at e;rw[H4 e];by_cases k:c=0
   ·rw[if_neg (by omega)]at d;rw[H4 d,D9 l];grind
   ·rw[if_pos k]at d;rw[D9 d];grind
  ·rw[if_pos j]at e;rw[D9 e];grind
 ·rw[if_pos h]at f;rw[D9 f];grind
theorem y7v (a b:Sm) (c:a.2.2.1.length<=1000000):q5k (a,b,())=some (B6 (F2 a) (F2 b),()):=by
 grind[q5k,j85,z8g,v3e,F2,B6]
theorem j09 (a b:Sm) (c:a.2.2.1.length<=1000000):z29 (a,b,())=some (decide (a=b),()):=by
 unfold z29;rw[y7v a b c];by_cases h:a=b
 all_goals grind[cmpL_eq,z5c]
noncomputable def z3p (a b:Sm):Option Int:=(q5k (a,b,())).map λr=>r.1
theorem j83 (c:a.2.2.1.length<=1000000):z3p a b=some (B6 (F2 a) (F2 b)):=by
 grind[z3p,y7v]
theorem q6r (c:a.2.2.1.length<=1000000):ltF z3p a b↔B6 (F2 a) (F2 b)<0:=by
 grind[ltF,j83]
def R1 (l:List Sm):List Sm:=(G1 (l.map F2)).map q7v
theorem z1r (l:List Sm):(R1 l).Perm l:=by
 have h:=(q2q (l.map F2)).map q7v;rw[fB]at h;have e:l.map (q7v∘F2)=l:=(cW λa _=>j61 a).trans (fb _);rw[e]at h;exact h
theorem y5q (l:List Sm):(R1 l).map F2=G1 (l.map F2):=by
 unfold R1;rw[fB];refine(cW λk a=>?_).trans (fb _);obtain⟨s,-,rfl⟩:=aW.1 ((q2q _).mem_iff.1 a);rfl
theorem k3f {l:List Sm} (h:∀s∈l,s.2.2.1.length<=1000000):O6 z3p l=some (R1 l):=by
 refine z8i ⟨λx e y _=>⟨_,j83 (h x e)⟩,λx e d=>S9 _ ((q6r (h x e)).1 d),λx e y i z _ g j=>(q6r (h x e)).2 (q11 ((q6r (h x e)).1 g) ((q6r (h y i)).1 j)),λx e y i g j=>?_⟩ (z1r l) ?_
 ·grind[q6r,T0,z5c,cmpL_eq]
 ·have:=z1q (l.map F2);rw[<-y5q]at this;rw[cO]at this;exact this.imp_of_mem λ{a b} m k f d=>f ((q6r (h b ((z1r l).mem_iff.1 k))).1 d)
def P0 (s:List Sm) (k:Nat):Bool:=decide (k=0)||!decide (s.getD k (0,0,[],())=s.getD (k-1) (0,0,[],()))
structure PartI (q:Nat->Bool) (s:List Sm) (i j:Nat) (l:List Sm):Prop where
 ij:i<j
 js:j<=s.length
 len:l.length=s.length
 head:l.take i=((List.range j).filter q).map λk=>s.getD k (0,0,[],())
 tail:l.drop i=s.drop i
variable {s:List Sm} {l:List Sm} {q:Nat->Bool} {i:Nat} {j:Nat}
theorem PartI.get {k:Nat} (h:PartI q s i j l) (c:i<=k) (a:k<s.length):l[k]? = some (s.getD k (0,0,[],())):=by
 have b:(l.drop i)[k-i]? = (s.drop i)[k-i]?:=by rw[h.tail]
 grind
theorem PartI.skip (h:PartI q s i j l) (a:j<s.length) (b:q j=false):PartI q s i (j+1) l:=by
 refine⟨by have:=h.ij;omega,a,h.len,?_,h.tail⟩;rw[cF,bW,h.head];grind
theorem PartI.keep (h:PartI q s i j l) (a:j<s.length) (b:q j=true):PartI q s (i+1) (j+1) (l.set i (s.getD j (0,0,[],()))):=by
 have c:=h.ij;have d:=h.len;refine⟨by omega,a,by grind,?_,?_⟩
 ·rw[cF,bW,bC,<-h.head];grind[List.take_succ_eq_append_getElem,List.take_set_of_le]
 ·rw[fk (by omega)];have e:=congrArg (List.drop 1) h.tail;simp_all
theorem v9k (hi:i<s.length) (h:∀k,k<i->q k=true) (a:q i=false):PartI q s i (i+1) s:=by
 refine⟨by omega,hi,rfl,?_,rfl⟩;rw[cF,bW,bC];have:(List.range i).filter q=List.range i:=by
  simp_all
 refine ec (by grind) λk c b=>?_;grind
def T8 (s:List Sm):List Sm:=((List.range s.length).filter (P0 s)).map λk=>s.getD k (0,0,[],())
theorem j2j {s:List Sm} (hs:s.length<=20000000) (f:∀x∈s,x.2.2.1.length<=1000000) {k0:Nat} (z:List Sm×Unit) (k:z.1.length=s.length) (d:k0<s.length) :
  ∀(n i j:Nat) (l:List Sm),k0+j+n=s.length->0<j->k0<=i->PartI (P0 s) s i (k0+j) l ->
   ∃(m:Nat) (g:List Sm),A1 (z2a ((k0:Int),z)) ((i:Int),(j:Int),l,())=some (.inl ((m:Int),g,()))/\PartI (P0 s) s m s.length g
 | 0,i,j,l,t,r,b,h=>by
  grind[D9,z2a]
 | n+1,i,j,l,t,r,b,h=>by
  have B:=h.len;have p:=h.ij;have a:k0+j<s.length:=by omega
  have v:s.getD (k0+j) (0,0,[],())∈s:=by
   grind
  have w:IntKind.i64.wrap ((j:Int)-1)=((j-1:Nat):Int):=by grind[F6]
  have q:inB (j:Int) (z.1.length-k0)=true:=C3 (by omega);have y:inB ((j-1:Nat):Int) (z.1.length-k0)=true:=C3 (by omega);have A:l[k0+j]? = some (s.getD (k0+j) (0,0,[],())):=h.get (by omega) a;have u:l[k0+(j-1)]? = some (s.getD (k0+j-1) (0,0,[],())):=by
   rw[show k0+(j-1)=k0+j-1 from by omega];exact h.get (by omega) (by omega)
  have o:P0 s (k0+j)=!decide (s.getD (k0+j) (0,0,[],())=s.getD (k0+j-1) (0,0,[],())):=by
   grind[P0]
  have e:z2a ((k0:Int),z) ((i:Int),(j:Int),l,())=some (.inl (if P0 s (k0+j)=true then(((i+1:Nat):Int),((j+1:Nat):Int),l.set i (s.getD (k0+j) (0,0,[],())),())else((i:Int),((j+1:Nat):Int),l,()))):=by
   unfold z2a;simp (disch:=omega) only [ah,d1,cond_true,q,w,y,A,u,aa,j09 _ _ (f _ v),<-o,B2];grind[C3]
  rw[H4 e];cases c:P0 s (k0+j)with
  | true=>exact j2j hs f z k d n (i+1) (j+1) _ (by omega) (by omega) (by omega) (h.keep a c)
  | false=>exact j2j hs f z k d n i (j+1) _ (by omega) (by omega) b (h.skip a c)
theorem v3j {s:List Sm} (hs:s.length<=20000000) (t:∀x∈s,x.2.2.1.length<=1000000) :
  (((cond (decide ((s.length:Int)<(2:Int))) (some (Sum.inl (s,()))) ((A1 (q2s) ((1:Int),s,())).bind (Sum.elim (λb=>(some (Sum.inl (((b.2.2.1.drop b.1).take b.2.1),())))) (Sum.elim (λp=>(some (Sum.inl p))) Empty.elim)))):Option ((List Sm×Unit)⊕Empty)))=some (.inl (T8 s,())):=by
 by_cases y:s.length<2
 ·simp (disch:=omega) only [dcT,cond_true];congr 3
  match s,y with
  | [],_=>rfl
  | [a],_=>rfl
 ·simp (disch:=omega) only [dcF,cond_false];have l:∀k:Nat,1<=k->k<s.length->P0 s k=true->q2s ((k:Int),s,())=some (.inl (((k+1:Nat):Int),s,())):=λk g o i=>by
   have w:IntKind.i64.wrap ((k:Int)-1)=((k-1:Nat):Int):=by grind[F6]
   have u:s.getD k (0,0,[],())∈s:=by
    grind
   grind[P0,q2s,C3,Int.toNat_natCast,j09,B2]
  have r:q2s ((s.length:Int),s,())=some (.inr (.inr (.inl (s,())))):=by
   grind[q2s]
  have q:∀k:Nat,1<=k->k<s.length->(∀m,m<k->P0 s m=true)->P0 s k=false->∃(f:Nat) (h:List Sm),f<=h.length/\h.take f=T8 s/\∃z:List Sm,q2s ((k:Int),s,())=some (.inr (.inl (0,f,h.take f++z,()))):=λk g o e i=>by
   have w:IntKind.i64.wrap ((k:Int)-1)=((k-1:Nat):Int):=by grind[F6]
   have u:s.getD k (0,0,[],())∈s:=by
    grind
   obtain⟨f,h,c,j⟩:=j2j hs t (k0:=k) (s,()) rfl o (s.length-(k+1)) k 1 s (by omega) (by omega) (ax _) (v9k o e i);have D:=j.ij;have J:=j.len;refine⟨f,h,by omega,j.head,?_⟩;unfold P0 at i;rw[decide_eq_false (show ¬k=0 by omega),dh,Bool.not_eq_false']at i;have A:(decide (0<=(k:Int))&&decide ((k:Int)<=(s.length:Int))&&decide ((s.length:Int)<=s.length))=true:=by
    grind
   have F:(decide (0<=(f:Int))&&decide ((f:Int)<=(h.length:Int))&&decide ((h.length:Int)<=h.length))=true:=by
    grind
   have I:∀z:List Sm,(decide (0<=(0:Int))&&decide ((0:Int)<=(f:Int))&&decide ((f:Int)<=(h.take f++z).length))=true:=λz=>by
    grind
   have H:((1:Nat):Int)=1:=rfl;rw[H]at c;unfold q2s;simp only[dcT (show(k:Int)<(s.length:Int)by omega),cond_true,C3 o,w,C3 (show k-1<s.length by omega),ah,q4u (d:=((0,0,[],()):Sm)) o,q4u (d:=((0,0,[],()):Sm)) (show k-1<s.length by omega),aa,j09 _ _ (t _ u),i,A,c,am,F];simp_all
  have c:∀(n k:Nat),k+n=s.length->1<=k->(∀m,m<k->P0 s m=true)->((A1 (q2s) ((k:Int),s,())).bind (Sum.elim (λb=>(some (Sum.inl (((b.2.2.1.drop b.1).take b.2.1),())))) (Sum.elim (λp=>(some (Sum.inl p))) Empty.elim)):Option ((List Sm×Unit)⊕Empty))=some (.inl (T8 s,())):=by
   intro n
   induction n with
   | zero =>
    intro k o g e;obtain rfl:k=s.length:=by omega
    rw[D9 r];simp[aa,bt,am];congr 3;unfold T8;have:(List.range s.length).filter (P0 s)=List.range s.length:=by
     simp_all
    rw[this];refine ec (by simp) λk D y=>?_;grind
   | succ n C =>
    intro k o g e;cases i:P0 s k with
    | true =>
     rw[H4 (l k g (by omega) i)];exact C (k+1) (by omega) (by omega) λm E=>by
      grind
    | false =>
     obtain⟨f,h,G,K,z,B⟩:=q k g (by omega) e i;rw[D9 B];grind
  exact c (s.length-1) 1 (by omega) (ax _) λm E=>by
   obtain rfl:m=0:=by omega
   rfl
end

section
open Go Go.Abs

theorem z65 {l:List Sm}:up ((T8 (R1 l)).map F2)/\(∀s,s∈T8 (R1 l)↔s∈l):=by
 have f:((R1 l).map F2).Pairwise λa b=>¬B6 b a<0:=by grind[y5q,z1q]
 have d:∀s,s∈R1 l↔s∈l:=λs=>(z1r l).mem_iff;generalize R1 l=S at f d;rw[cO,ct]at f;have r:∀k (o:k<S.length),S.getD k (0,0,[],())=S[k]:=λk o=>by
  grind
 have F:∀i j (p:i<S.length) (D:j<S.length),i<=j->¬B6 (F2 S[j]) (F2 S[i])<0:=λi j p D y=>by
  grind[S9]
 constructor
 ·show(((T8 S).map F2)).Pairwise _;unfold T8;rw[fB,cO];refine((eO (n:=S.length)).filter _).imp_of_mem λ{a b} C z A=>?_;have h:=bn.1 z;have w:=bn.1 C;have t:=aL.1 h.1;have u:=aL.1 w.1;show B6 (F2 (S.getD a _)) (F2 (S.getD b _))<0;rw[r a u,r b t];have q:=h.2;unfold P0 at q;grind[z5c,cmpL_eq,T0]
 ·intro s;rw[<-d];unfold T8;rw[aW];constructor
  ·rintro ⟨k,o,rfl⟩;have:=aL.1 (bn.1 o).1;rw[r k this];exact ay this
  ·intro E;obtain⟨i,p,rfl⟩:=bl.1 E;have:∃k,k<S.length/\S.getD k (0,0,[],())=S[i]/\∀m,m<k->S.getD m (0,0,[],())≠S[i]:=by
    cases q:(List.range S.length).find? λk=>decide (S.getD k (0,0,[],())=S[i])with
    | none =>
     have:=j21 q i p;rw[r i p]at this;simp at this
    | some k =>
     have v:=List.find?_range_eq_some.1 q;refine⟨k,aL.1 v.2.1,of_decide_eq_true v.1,λm B e=>?_⟩;have:=v.2.2 m B;rw[decide_eq_true e]at this;cases this
   obtain⟨k,o,e,g⟩:=this;refine⟨k,bn.2 ⟨aL.2 o,?_⟩,e⟩;unfold P0;by_cases x:k=0
   ·simp[x]
   ·have:=g (k-1) (by omega);rw[e,decide_eq_false x,decide_eq_false (Ne.symm this)];rfl
def P6 (D:List Sm) (s:Sm):Bool:=D.all λr=>decide (r=s)||!leS r s
theorem v7j {D E:List Sm} (h:∀r,r∈D↔r∈E) (s:Sm):P6 D s=P6 E s:=by
 grind[P6]
theorem v7v {D:List Sm} (h:D.Nodup) {i j:Nat} (hi:i<D.length) (a:j<D.length) (e:D[j]=D[i]):j=i:=by
 grind[List.pairwise_iff_getElem]
theorem v6i {D:List Sm} (l:D.length<=20000000) (b:∀s∈D,okS s) (d:D.Nodup) (g:Unit) {K:List Sm} {i:Nat} (hi:i<D.length) :
  A1 (z8y (D,g) (K,(i:Int),()) D[i]) (true,(0:Int),())=some (.inl (P6 D D[i],())):=by
 have a:P6 D D[i]=(List.range D.length).all λj=>decide (j=i)||!leS (D.getD j (0,0,[],())) D[i]:=by
  rw[ci];unfold P6;rw[aG,aG];constructor
  ·grind[v7v]
  ·intro h r f;obtain⟨j,e,rfl⟩:=bl.1 f;have:=h j (aL.2 e);grind
 refine D3 D.length (λk=>((List.range k).all λj=>decide (j=i)||!leS (D.getD j (0,0,[],())) D[i],(k:Int),())) _ (λk c=>?_) ?_ rfl
 ·rw[cF,List.all_append];unfold z8y;simp (disch:=omega) only [dcT,cond_true,C6 c,aa,B2,cp,cI,aI];grind[y7w,decide_eq_false]
 grind[z8y]
def Q6 (l:List Sm):List Sm:=(T8 (R1 l)).filter (P6 l)
theorem v9e (s:List Sm):(T8 s).length<=s.length:=by
 grind[T8]
theorem y2f {D:List Sm} (h:up (D.map F2)):D.Nodup:=by
 unfold up at h;rw[cO]at h;exact h.imp λ{a b} c e=>by subst e;exact S9 _ c
theorem q6y {s:Sm} (h:okS s):s.2.2.1.length<=4:=by
 grind[q9q]
theorem k44 {l:List Sm} (q:l.length<=10000000) (n:∀s∈l,okS s):z28 (l,())=some (Q6 l,()):=by
 obtain⟨d,c⟩:=z65 (l:=l);have m:(R1 l).length=l.length:=(z1r l).length_eq;have e:=v9e (R1 l);have p:z8e (l,())=some (l,()):=by
  grind[z8e,D4]
 have j:O6 (λa b=>(q5k (a,b,())).map λr=>r.1) l=some (R1 l):=k3f λs j=>by grind[q6y]
 have g:=v3j (s:=R1 l) (by omega) λx t=>by grind[q6y,z1r]
 have f:∀s,P6 (T8 (R1 l)) s=P6 l s:=v7j c;have k:=y2f d;unfold Q6;generalize T8 (R1 l)=D at *
 have o:A1 (z8z (D,())) (([]:List Sm),(0:Int),())=some (.inl (D.filter (P6 l),())):=by
  refine D3 D.length (λi=>((D.take i).filter (P6 l),(i:Int),())) _ (λi h=>?_) ?_ rfl
  ·rw[aw h,bW];unfold z8z;simp (disch:=omega) only [dcT,cond_true,C6 h,aa];grind[v6i,q6y,j7y,D4,B2]
  grind[z8z]
 grind[z28,D4]
theorem y47 {a b:Sm} (g:a.2.2.1.length<=1000000):z0t (a,b,())=some (decide (a=b),()):=by
 unfold z0t;obtain⟨n,d,p,⟨⟩⟩:=a;obtain⟨m,e,q,⟨⟩⟩:=b;simp[q41 g,aa];by_cases c:n=m
 ·by_cases f:d=e
  ·simp_all
  ·rw[J5 c,U6 f];simp[f]
 ·rw[U6 c];simp[c]
theorem j0k (a b:Int) (r s:List Int):B6 (a::r) (b::s)<0↔a<b\/a=b/\B6 r s<0:=by
 grind[B6]
theorem k3e {p q:Prop} [Decidable p] [Decidable q] (h:p↔q):some (decide p,())=some (decide q,()):=by grind
def Q2 (a b:Sm):Bool:=decide (B6 (F2 a) (F2 b)<0)
theorem j6s {p q:List Int} (j:p.length<=1000) (f:q.length=p.length) (a b:Sm) (m:a.2.2.1=p) (o:b.2.2.1=q):∀(n i:Nat),i+n=p.length->p.take i=q.take i ->
  (A1 (q7b (a,b,())) ((i:Int),())).bind (Sum.elim (λr=>(some r)) (Sum.elim (λt=>(some (false,()))) Empty.elim))=some (decide (B6 (p.drop i) (q.drop i)<0),())
 | 0,i,k,_=>by
  obtain rfl:i=p.length:=by omega
  have:q7b (a,b,()) ((p.length:Int),())=some (.inr (.inr (.inl ()))):=by
   grind[q7b]
  rw[D9 this,List.drop_length,<-f,List.drop_length];rfl
 | n+1,i,k,s=>by
  have l:i<p.length:=by omega
  have d:i<q.length:=by omega
  have c:q7b (a,b,()) ((i:Int),())=some (if p[i]=q[i]then .inl (((i+1:Nat):Int),())else .inr (.inl (decide (p[i]<q[i]),()))):=by
   grind[q7b,C6,B2]
  rw[aM l,aM d,decide_eq_decide.2 (j0k p[i] q[i] _ _)];by_cases h:p[i]=q[i]
  ·rw[if_pos h]at c;rw[H4 c,j6s j f a b m o n (i+1) (by omega) (by grind[List.take_succ_eq_append_getElem])];grind
  ·rw[if_neg h]at c;rw[D9 c];exact k3e ⟨.inl,λg=>g.resolve_right λg=>h g.1⟩
theorem k0n {a b:Sm} (e:okS a) (i:okS b) (j:q1l a=q1l b):z7q (a,b,())=some (Q2 a b,()):=by
 have g:=q6y e;have d:Q2 a b=decide (a.1<b.1\/a.1=b.1/\(a.2.1<b.2.1\/a.2.1=b.2.1/\B6 a.2.2.1 b.2.2.1<0)):=decide_eq_decide.2 ((j0k a.1 b.1 _ _).trans (or_congr_right (and_congr_right λ_=>j0k a.2.1 b.2.1 a.2.2.1 b.2.2.1)));unfold z7q;by_cases f:a.1=b.1
 ·by_cases h:a.2.1=b.2.1
  ·have c:b.2.2.1.length=a.2.2.1.length:=by grind[q1l]
   have:=j6s (p:=a.2.2.1) (q:=b.2.2.1) (by omega) c a b rfl rfl a.2.2.1.length 0 (by omega) rfl;grind
  grind
 grind
def L8 (s:Sm):List Sm->List Sm
 | []=>[s]
 | r::o=>if Q2 s r=true then s::r::o else r::L8 s o
theorem y0o {s r:Sm}:∀{m:List Sm},m.any (Q2 s)=true->L8 s (m++[r])=L8 s m++[r]
 | [],h=>by grind
 | x::m,h=>by
  rw[cJ,bD]at h;simp[ee,L8];cases a:Q2 s x with
  | true=>simp
  | false =>
   rw[a]at h;simp[bO,if_false,ee];rw[y0o (h.resolve_left (by simp))]
theorem j2l {s:Sm}:∀{m t:List Sm},m.any (Q2 s)=false->L8 s (m++t)=m++L8 s t
 | [],t,_=>rfl
 | x::m,t,h=>by
  rw[cJ,dq]at h;simp[ee,L8,h.1,bO,if_false];rw[j2l h.2]
theorem j2k {s x:Sm}:∀{m:List Sm},x∈L8 s m↔x=s\/x∈m
 | []=>by simp[L8]
 | r::m=>by
  simp only[L8];split
  ·simp
  ·rw[al,j2k,al];constructor
   ·rintro (h | h | h)
    ·exact .inr (.inl h)
    ·exact .inl h
    ·exact .inr (.inr h)
   ·rintro (h | h | h)
    ·exact .inr (.inl h)
    ·exact .inl h
    ·exact .inr (.inr h)
theorem z56 (s:Sm):∀m:List Sm,(L8 s m).length=m.length+1
 | []=>rfl
 | r::m=>by
  simp only[L8];split
  ·rfl
  ·rw[ai,z56,ai]
theorem y0p {s:Sm}:∀{m:List Sm},up (m.map F2)->s∉m->up ((L8 s m).map F2)
 | [],_,_=>by simp[L8,up]
 | r::m,h,a=>by
  unfold up at h ⊢;rw[bB,ba]at h;have d:¬B6 (F2 s) (F2 r)=0:=λe=>a (by grind[z5c,cmpL_eq]);simp[L8];split
  ·grind[Q2,List.pairwise_cons,q11]
  ·rename_i c;unfold Q2 at c;have g:B6 (F2 r) (F2 s)<0:=by grind[T0]
   rw[bB,ba];refine⟨λt f=>?_,y0p h.2 λb=>a (aj _ b)⟩;grind[j2k]
theorem v5t {s:Sm} {out:List Sm} (hs:okS s) (h:∀r∈out,okS r/\q1l r=q1l s) (j:out.length<=20000000) (i:Int) (z:Unit) :
  ∃(a:List Sm) (put:Bool),A1 (z0q (out,i,z) s) (([]:List Sm),false,(0:Int),())=some (.inl (a,put,()))/\a.length<=out.length+1/\(if put=true then a else a++[s])=L8 s out:=by
 refine⟨if out.any (Q2 s)=true then L8 s out else out,out.any (Q2 s),?_,?_,?_⟩
 ·have f:A1 (z0q (out,i,z) s) (([]:List Sm),false,(0:Int),())=some (.inl (if(out.take out.length).any (Q2 s)=true then L8 s (out.take out.length)else out.take out.length,(out.take out.length).any (Q2 s),())):=by
   refine D3 out.length (λk=>(if(out.take k).any (Q2 s)=true then L8 s (out.take k)else out.take k,(out.take k).any (Q2 s),(k:Int),())) _ (λk c=>?_) ?_ rfl
   ·rw[aw c,eU];have g:(out.take k).length=k:=by grind
    generalize out.take k=m at *
    have e:=z56 s m;unfold z0q;simp (disch:=omega) only [dcT,cond_true,C3 c,ah,af c,aa,B2,cJ,fC,ei];cases d:m.any (Q2 s)with
    | true =>
     grind[y0o,D4]
    | false =>
     grind[k0n,j2l,D4,L8]
   grind[z0q]
  grind
 ·grind[z56]
 ·cases d:out.any (Q2 s)with
  | true=>rfl
  | false =>
   have:=j2l (t:=[]) d;rw[bP]at this;rw[this];rfl
def q6d (l:List Sm) (i:Nat):Bool:=((List.range l.length).all λj=>!decide (l.getD j (0,0,[],())=l.getD i (0,0,[],()))||decide (i<=j))&&P6 l (l.getD i (0,0,[],()))
theorem v5c {l:List Sm} (m:l.length<=20000000) (a:∀s∈l,okS s) (z:Unit) (K:List Sm) {i:Nat} (hi:i<l.length) :
  A1 (z7d (l,z) l[i] (K,(i:Int),())) (true,(0:Int),())=some (.inl (q6d l i,())):=by
 have o:q6d l i=(List.range l.length).all λj=>if l.getD j (0,0,[],())=l[i]then decide (i<=j)else !leS (l.getD j (0,0,[],())) l[i]:=by
  have e:l.getD i (0,0,[],())=l[i]:=by grind
  rw[ci];unfold q6d P6;rw[ac,aG,aG,aG,e];constructor
  ·grind
  ·intro h;refine⟨λj d=>?_,λr f=>?_⟩
   ·grind
   ·obtain⟨j,d,rfl⟩:=bl.1 f;have g:l.getD j (0,0,[],())=l[j]:=by grind
    grind
 refine D3 l.length (λk=>((List.range k).all λj=>if l.getD j (0,0,[],())=l[i]then decide (i<=j)else !leS (l.getD j (0,0,[],())) l[i],(k:Int),())) _ (λk b=>?_) ?_ rfl
 ·have c:l.getD k (0,0,[],())=l[k]:=by grind
  have n:=q6y (a _ (ay hi));unfold z7d;simp (disch:=omega) only [dcT,cond_true,C6 b,aa,B2,cp,cI,aI,c,y47 (show(l[i]).2.2.1.length<=1000000 by omega),k0g (a _ (ay b)) (a _ (ay hi))];grind[decide_eq_false]
 grind[z7d]
theorem k0e {l:List Sm} (J:l.length<=10000000) (f:∀s∈l,okS s) (K:∀s∈l,∀r∈l,q1l s=q1l r):z7c (l,())=some (Q6 l,()):=by
 have g:∀n i (out:List Sm),i+n=l.length->out.length<=i->(∀s,s∈out↔s∈l.take i/\P6 l s=true)->up (out.map F2) ->
   ∃b:List Sm,A1 (z0r (l,())) (out,(i:Int),())=some (.inl (b,()))/\(∀s,s∈b↔s∈l/\P6 l s=true)/\up (b.map F2):=by
  intro n
  induction n with
  | zero =>
   grind[D9,z0r]
  | succ n y =>
   intro i out F D I G;have o:i<l.length:=by omega
   have A:l.getD i (0,0,[],())=l[i]:=by grind
   have u:=ay o;obtain⟨w,put,B,z,x⟩:=v5t (out:=out) (f _ u) (λr H=>by
    grind) (by omega) (i:Int) ()
   have p:z0r (l,()) (out,(i:Int),())=some (.inl (if q6d l i=true then L8 l[i] out else out,((i+1:Nat):Int),())):=by
    unfold z0r;simp (disch:=omega) only [dcT,cond_true,C6 o,aa];rw[v5c (by omega) f () out o];simp (disch:=omega) only [aa,am,B2];grind[D4]
   rw[H4 p];have k:q6d l i=true↔l[i]∉l.take i/\P6 l l[i]=true:=by
    unfold q6d;rw[ac,aG,A];constructor
    ·rintro ⟨q,v⟩;refine⟨λc=>?_,v⟩;obtain⟨j,d,e⟩:=bl.1 c;rw[aY]at d;rw[List.getElem_take]at e;have:=q j (aL.2 (by omega));grind
    ·rintro ⟨q,v⟩;refine⟨λj d=>?_,v⟩;have d:=aL.1 d;rw[aR,af d,bm];by_cases e:l[j]=l[i]
     ·have:i<=j:=cd λh=>q (bl.2 ⟨j,by grind,by grind⟩);grind
     grind
   refine y (i+1) _ (by omega) ?_ (λs=>?_) ?_
   all_goals grind[z56,List.take_succ_eq_append_getElem,j2k,y0p]
 obtain⟨out,B,z,x⟩:=g l.length 0 [] (by omega) (ax _) (λs=>by simp) (by simp[up]);unfold z7c;obtain⟨E,c⟩:=z65 (l:=l);have C:out.map F2=(Q6 l).map F2:=by
  refine j62 x ?_ λt=>?_
  all_goals grind[Q6,up]
 have:=congrArg (List.map q7v) C;have e:∀m:List Sm,m.map (q7v∘F2)=m:=λm=>(cW λa _=>j61 a).trans (fb _);grind
end

section
open Go Go.Abs

def kN (s:Sm):Nat:=s.1.toNat
def oN (s:Sm):Nat:=s.1.toNat+s.2.2.1.length
def pN (s:Sm) (i:Nat):Int:=plc (kN s) s.2.1 s.2.2.1 i
theorem q52 (s:Sm):kN s<=oN s:=cy ..
variable {s:Sm} {i:Nat}
theorem j3z (h:i+1<kN s):pN s i=0:=by
 grind[pN,plc]
theorem q9s (h:oN s<=i):pN s i=0:=by
 grind[oN,pN,plc,kN]
variable {a:Sm} {b:Sm}
theorem leS_iff:leS a b=true↔oN a=oN b/\∀i,i<oN a->pN a i<=pN b i/\(i<kN a->i<kN b):=by
 unfold leS;rw[ac,decide_eq_true_eq,aU,cE];refine and_congr_right λe=>⟨λh i c=>?_,λh i c=>?_⟩
 ·have:=h i (aL.2 c);unfold q2d at this;show plc _ _ _ i<=plc _ _ _ i/\_;grind[kN]
 ·have:=h i (aL.1 c);grind[pN,kN,q2d]
theorem V4 (a:Sm):leS a a=true:=leS_iff.2 ⟨rfl,λi _=>⟨Int.le_refl _,id⟩⟩
theorem S1 {c:Sm} (h1:leS a b=true) (d:leS b c=true):leS a c=true:=by
 grind[leS_iff]
def wfS (s:Sm):Prop:=0<=s.1/\1<=kN s
theorem z8h (s:wfS a) (t:wfS b) (g:kN a=kN b) (j:oN a=oN b) (c:∀i,i<oN a->pN a i=pN b i):a=b:=by
 obtain⟨n,d,l,⟨⟩⟩:=a;obtain⟨m,e,k,⟨⟩⟩:=b;obtain⟨q,h⟩:=s;obtain⟨o,f⟩:=t;unfold kN at h f g;unfold oN at j;unfold pN kN oN at c;simp at q h o f g j c;have p:l.length=k.length:=by omega
 have v:d=e:=by
  have:=c (n.toNat-1) (by omega);grind[plc]
 have r:l=k:=by
  refine ec p λi u w=>?_;have:=c (n.toNat+i) (by omega);grind[plc]
 grind
theorem j33 (k:wfS a) (h:wfS b) (h1:leS a b=true) (j:leS b a=true):a=b:=by
 obtain⟨n,c⟩:=leS_iff.1 h1;obtain⟨o,d⟩:=leS_iff.1 j;have p:=q52 a;have r:=q52 b;obtain⟨l,e⟩:=k;obtain⟨m,f⟩:=h;refine z8h ⟨l,e⟩ ⟨m,f⟩ ?_ n λi g=>Int.le_antisymm (c i g).1 (d i (by omega)).1;have q:=(c (kN a-1) (by omega)).2 (by omega);have s:=(d (kN b-1) (by omega)).2 (by omega);omega
def cS (s r:Sm):Sm:=(((min (kN r) (kN s):Nat):Int),I4 (kN s) s.2.1 s.2.2.1 (kN r) r.2.1 r.2.2.1 (min (kN r) (kN s)-1),(List.range' (min (kN r) (kN s)) (oN r-min (kN r) (kN s))).map (I4 (kN s) s.2.1 s.2.2.1 (kN r) r.2.1 r.2.2.1),())
theorem T4 (s r:Sm):kN (cS s r)=min (kN r) (kN s):=by
 rfl
theorem M6 (s r:Sm):oN (cS s r)=oN r:=by
 grind[kN,cS,oN]
variable {r:Sm}
theorem M8 (hs:1<=kN s) (b:1<=kN r) (hi:i<oN r):pN (cS s r) i=if i<kN r then pN r i+pN s i else pN r i:=by
 show plc (kN (cS s r)) (I4 (kN s) s.2.1 s.2.2.1 (kN r) r.2.1 r.2.2.1 (min (kN r) (kN s)-1)) ((List.range' (min (kN r) (kN s)) (oN r-min (kN r) (kN s))).map (I4 (kN s) s.2.1 s.2.2.1 (kN r) r.2.1 r.2.2.1)) i=_;have a:∀j,I4 (kN s) s.2.1 s.2.2.1 (kN r) r.2.1 r.2.2.1 j=if j<kN r then pN r j+pN s j else pN r j:=λj=>rfl
 grind[T4,plc,j3z]
theorem W3 (hs:wfS s) (a:wfS r):wfS (cS s r):=⟨aZ _,by have:=hs.2;have:=a.2;grind[T4]⟩
variable {x:Sm} {q:Sm}
theorem j7n (c:wfS x) (hs:wfS s) (d:wfS q) (h1:kN q<=oN s):cS (cS x s) q=cS x (cS s q):=by
 have h:=c.2;have g:=hs.2;have f:=d.2;have b:=W3 c hs;have a:=W3 hs d;refine z8h (W3 b d) (W3 c a) (by grind[T4]) (by grind[M6]) λi e=>?_;rw[M6]at e;rw[M8 b.2 f e,M8 h a.2 (by grind[M6]),M8 g f e,T4 s q];grind[M8]
theorem j0a (e:wfS x) (a:∀i,0<=pN x i) (f:wfS q) (d:wfS b) (h:leS q b=true):leS (cS x q) (cS x b)=true:=by
 obtain⟨o,p⟩:=leS_iff.1 h;refine leS_iff.2 ⟨by grind[M6],λi c=>?_⟩;rw[M6]at c;have j:=a i;have g:=p i c;rw[M8 e.2 f.2 c,M8 e.2 d.2 (by omega),T4,T4];omega
theorem j7p (e:wfS x) (b:wfS a) (d:wfS q) (f:kN q<=oN x) (h:leS x a=true):leS (cS x q) (cS a q)=true:=by
 obtain⟨o,p⟩:=leS_iff.1 h;refine leS_iff.2 ⟨by grind[M6],λi c=>?_⟩;rw[M6]at c;rw[M8 e.2 d.2 c,M8 b.2 d.2 c,T4,T4];grind
structure bx (s:Sm):Prop where
 wf:wfS s
 o4:oN s<=4
 p0:∀i,0<=pN s i/\pN s i<=12
theorem v28 {v:Int} (h:0<=v/\v<=12):bad v=false:=by
 grind[bad]
theorem bx.parts {s:Sm} (h:bx s):(0<=s.2.1/\s.2.1<=12)/\∀v∈s.2.2.1,0<=v/\v<=12:=by
 have c:=h.wf.2;constructor
 ·have:=h.p0 (kN s-1);grind[pN,plc]
 ·intro v a;obtain⟨i,b,rfl⟩:=bl.1 a;have:=h.p0 (kN s+i);grind[pN,plc]
theorem bx.sck (h:bx s) {m:Nat} (h1:kN s<=m) (c:m<=4):sck s.1 s.2.1 s.2.2.1 (m:Int)=0:=by
 obtain⟨e,g⟩:=h.parts;obtain⟨f,b⟩:=h.wf;have a:=h.o4;unfold oN at a;unfold kN at b h1;have d:(bad s.2.1||s.2.2.1.any bad)=false:=by
  grind[v28]
 show(if(m:Int)<1\/(m:Int)>4\/s.1<1\/s.1>(m:Int)\/(s.2.2.1.length:Int)>4-s.1 then(1:Int)else if(bad s.2.1||s.2.2.1.any bad)=true then 2 else 0)=0
 rw[if_neg (by omega),if_neg (by grind)]
theorem bx.ok (h:bx s):okS s:=h.sck (m:=4) (bw (q52 s) h.o4) (ax _)
theorem bx.nat (h:bx s):s=(((kN s:Nat):Int),s.2.1,s.2.2.1,()):=by
 have:=h.wf.1;obtain⟨n,d,l,⟨⟩⟩:=s;show(n,d,l,())=(((n.toNat:Nat):Int),d,l,());grind
theorem y83 (hs:bx s) (b:bx r):q4a (kN s) s.2.1 s.2.2.1 (kN r) r.2.1 r.2.2.1=(cS s r,0,()):=by
 unfold q4a;have c:=hs.p0 (kN r-1);have d:=b.p0 (kN r-1);have:¬I4 (kN s) s.2.1 s.2.2.1 (kN r) r.2.1 r.2.2.1 (kN r-1)>1048576:=by
  show ¬(if kN r-1<kN r then pN r (kN r-1)+pN s (kN r-1)else pN r (kN r-1))>1048576
  omega
 rw[if_neg this];rfl
theorem k47 (hs:bx s) (b:bx r) (h:kN r<=oN s):q5m (s,r,())=some (cS s r,0,()):=by
 have f:=hs.ok;have a:=b.sck h hs.o4;have g:=hs.nat;have c:=b.nat;have:=k46 (n:=kN s) (d:=s.2.1) (l:=s.2.2.1) (m:=kN r) (e:=r.2.1) (k:=r.2.2.1) (by grind[okS]) (by rw[c]at a;exact a);grind[y83]
theorem k0j (hs:bx s) (b:bx r) (h:kN r<=oN s):z0u (s,r,())=some (cS s r,0,()):=by
 have f:=hs.ok;have a:=b.sck h hs.o4;have g:=hs.nat;have c:=b.nat;have:=k0i (n:=kN s) (d:=s.2.1) (l:=s.2.2.1) (m:=kN r) (e:=r.2.1) (k:=r.2.2.1) (by grind[okS]) (by rw[c]at a;exact a);grind[y83]
theorem q89 {α:Type} {p q:α->Bool}:∀{l:List α},(∀x∈l,p x=true->q x=true)->(∃x∈l,p x=false/\q x=true)->l.countP p<l.countP q
 | [],_,⟨x,hx,_⟩=>by cases hx
 | a::l,h,⟨x,hx,h1,h2⟩=>by
  have hm:l.countP p<=l.countP q:=eY λy hy=>h y (aj _ hy);rw[ef,ef];rcases al.1 hx with rfl | hx
  ·rw[h1,h2];simp only[bO,if_false,if_true];omega
  ·have ih:=q89 (l:=l) (λy hy=>h y (aj _ hy)) ⟨x,hx,h1,h2⟩;have:=h a ar;cases hp:p a with
   | true=>rw[this hp];simp only[if_true];omega
   | false=>simp only[bO,if_false];split<;>omega
theorem mem_front {l:List Sm}:x∈Q6 l↔x∈l/\∀r∈l,leS r x=true->r=x:=by
 grind[Q6,z65,P6]
theorem v4t (l:List Sm):up ((Q6 l).map F2):=by
 have h:=(z65 (l:=l)).1;unfold up at h ⊢;rw[cO]at h ⊢;exact h.filter _
theorem z4h {l:List Sm} (j:∀s∈l,wfS s):∀{x:Sm},x∈l->∃y∈Q6 l,leS y x=true:=by
 have b:∀(n:Nat) (x:Sm),x∈l->l.countP (λr=>leS r x)<=n->∃y∈Q6 l,leS y x=true:=by
  intro n
  induction n with
  | zero =>
   grind[V4]
  | succ n h =>
   intro x a k;by_cases d:∀r∈l,leS r x=true->r=x
   ·exact⟨x,mem_front.2 ⟨a,d⟩,V4 x⟩
   ·have:∃r,r∈l/\leS r x=true/\r≠x:=by
     grind
    obtain⟨r,i,e,m⟩:=this;have g:l.countP (λt=>leS t r)<l.countP (λt=>leS t x):=q89 (λt _ f=>S1 f e) ⟨x,a,by
     grind[j33],V4 x⟩
    grind[S1]
 exactλ{x} a=>b _ x a (ax _)
theorem y8h:∀{a b:List Sm},up (a.map F2)->up (b.map F2)->(∀x,x∈a↔x∈b)->a=b
 | [],[],_,_,_=>rfl
 | [],y::b,_,_,h=>by grind[List.mem_cons_self]
 | x::a,[],_,_,h=>by grind[List.mem_cons_self]
 | x::a,y::b,d,c,h=>by
  unfold up at d c;rw[bB,ba]at d c;have k:x=y:=by
   rcases al.1 ((h x).1 ar)with e | f
   ·omega
   rcases al.1 ((h y).2 ar)with e | i
   ·grind
   exact absurd (q11 (d.1 _ (ep i)) (c.1 _ (ep f))) (S9 _)
  have m:∀{l:List Sm},(∀t∈l.map F2,B6 (F2 x) t<0)->x∉l:=λg f=>S9 _ (g _ (ep f));congr 1;refine y8h d.2 c.2 λt=>⟨λj=>?_,λj=>?_⟩
  all_goals grind
structure anti (l:List Sm):Prop where
 u:up (l.map F2)
 m:∀x∈l,∀y∈l,leS y x=true->y=x
theorem j6z (l:List Sm):anti (Q6 l):=⟨v4t l,λx b y a h=>(mem_front.1 b).2 y (mem_front.1 a).1 h⟩
theorem z9v:anti []:=⟨List.Pairwise.nil,λx a=>by grind⟩
theorem j6y {a b:List Sm} (k:anti a) (i:anti b) (l:∀s∈a,wfS s) (m:∀s∈b,wfS s) (h1:∀x∈a,∃y∈b,leS y x=true) (j:∀x∈b,∃y∈a,leS y x=true):a=b:=by
 refine y8h k.u i.u λx=>⟨λf=>?_,λf=>?_⟩
 ·obtain⟨y,g,c⟩:=h1 x f;obtain⟨z,h,d⟩:=j y g;have e:=k.m x f z h (S1 d c);grind[j33]
 ·obtain⟨y,g,c⟩:=j x f;obtain⟨z,h,d⟩:=h1 y g;have e:=i.m x f z h (S1 d c);grind[j33]
end

section
open Go Go.Abs

theorem z5w {α:Type} [DecidableEq α]:∀{l m:List α},l.Nodup->(∀x∈l,x∈m)->l.length<=m.length
 | [],_,_,_=>cB _
 | a::l,m,h,hs=>by
  have h':=cM.1 h;have ha:=hs a ar;have h1:=z5w (l:=l) (m:=m.erase a) h'.2 λx hx=>(List.mem_erase_of_ne (λe=>h'.1 (by rw[<-e];exact hx))).2 (hs x (aj _ hx));have h2:=List.length_erase_of_mem ha;have h3:=List.length_pos_of_mem ha;rw[ai];omega
end

section
open Go Go.Abs

structure GR (n:Nat) (dep:Nat->Nat) (S:Nat->Sm) (ed:List (Nat×Nat)):Prop where
 n12:n<=12
 d1:∀a,a<n->1<=dep a/\dep a<=4
 s0:∀a,a<n->wfS (S a)/\kN (S a)<=dep a/\oN (S a)<=4/\∀i,pN (S a) i=0\/(pN (S a) i=1/\i+1=dep a/\kN (S a)=dep a/\oN (S a)=dep a)
 e:∀a b,(a,b)∈ed->a<n/\b<n/\oN (S a)=dep b
def idS (d:Nat):Sm:=((d:Int),0,[],())
theorem q99 (d:Nat):kN (idS d)=d:=ah d
theorem q9o (d:Nat):oN (idS d)=d:=by rfl
theorem q57 (d i:Nat):pN (idS d) i=0:=by
 grind[pN,plc,idS]
theorem q2z {d:Nat} (h:1<=d):wfS (idS d):=⟨aZ _,by grind[q99]⟩
structure shp (p q:Nat) (x:Sm):Prop where
 wf:wfS x
 k:kN x<=p
 o:oN x=q
 p0:∀i,0<=pN x i
section
variable {n:Nat} {dep:Nat->Nat} {S:Nat->Sm} {ed:List (Nat×Nat)}
inductive Gf (n:Nat) (dep:Nat->Nat) (S:Nat->Sm) (ed:List (Nat×Nat)):Nat->Nat->Sm->Prop
 | id (u:Nat):u<n->Gf n dep S ed u u (idS (dep u))
 | snoc (u v b:Nat) (x:Sm):Gf n dep S ed u v x->(v,b)∈ed->Gf n dep S ed u b (cS x (S v))
inductive Gb (n:Nat) (dep:Nat->Nat) (S:Nat->Sm) (ed:List (Nat×Nat)):Nat->Nat->Sm->Prop
 | id (u:Nat):u<n->Gb n dep S ed u u (idS (dep u))
 | cons (a c b:Nat) (x:Sm):(a,c)∈ed->Gb n dep S ed c b x->Gb n dep S ed a b (cS (S a) x)
theorem GR.S0 (g:GR n dep S ed) {a:Nat} (c:a<n) (i:Nat):0<=pN (S a) i:=by
 rcases (g.s0 a c).2.2.2 i with h | h<;>omega
theorem GR.bxS (g:GR n dep S ed) {a:Nat} (b:a<n):bx (S a):=⟨(g.s0 a b).1,(g.s0 a b).2.2.1,λi=>by rcases (g.s0 a b).2.2.2 i with h | h<;>omega⟩
theorem y5m (g:GR n dep S ed) {u:Nat} (b:u<n):shp (dep u) (dep u) (idS (dep u)):=⟨q2z (g.d1 u b).1,by grind[q99],q9o _,λi=>by grind[q57]⟩
theorem j7q {s r:Sm} (hs:wfS s) (b:wfS r) (s0:∀i,0<=pN s i) (r0:∀i,0<=pN r i) (i:Nat):0<=pN (cS s r) i:=by
 by_cases a:i<oN r
 ·rw[M8 hs.2 b.2 a]
  grind
 grind[q9s,M6]
theorem k3b (g:GR n dep S ed) {p v b:Nat} {x:Sm} (h:shp p (dep v) x) (e:(v,b)∈ed):shp p (dep b) (cS x (S v)):=by
 obtain⟨c,m,i⟩:=g.e v b e
 obtain⟨d,k,l,j⟩:=g.s0 v c
 exact⟨W3 h.wf d,by rw[T4];have:=h.k;omega,by grind[M6],j7q h.wf d h.p0 (g.S0 c)⟩
theorem k3a (g:GR n dep S ed) {a c q:Nat} {x:Sm} (f:(a,c)∈ed) (h:shp (dep c) q x):shp (dep a) q (cS (S a) x):=by
 obtain⟨d,o,j⟩:=g.e a c f
 obtain⟨e,l,m,k⟩:=g.s0 a d
 exact⟨W3 e h.wf,by grind[T4],by rw[M6,h.o],j7q e h.wf (g.S0 d) h.p0⟩
theorem Gf.ok (g:GR n dep S ed) {u v:Nat} {x:Sm} (h:Gf n dep S ed u v x):u<n/\v<n/\shp (dep u) (dep v) x:=by
 induction h with
 | id f=>grind[y5m]
 | snoc v b x _ c d=>exact⟨d.1,(g.e v b c).2.1,k3b g d.2.2 c⟩
theorem Gb.ok (g:GR n dep S ed) {u v:Nat} {x:Sm} (h:Gb n dep S ed u v x):u<n/\v<n/\shp (dep u) (dep v) x:=by
 induction h with
 | id u j=>grind[y5m]
 | cons a c b x e _ f=>exact⟨(g.e a c e).1,f.2.1,k3a g e f.2.2⟩
abbrev Tb:=Nat->Nat->List Sm
structure PF (n:Nat) (dep:Nat->Nat) (S:Nat->Sm) (ed:List (Nat×Nat)) (P:Tb):Prop where
 gen:∀u v,∀x∈P u v,Gf n dep S ed u v x
 an:∀u v,anti (P u v)
 st:∀u,u<n->∃y∈P u u,leS y (idS (dep u))=true
 ex:∀u v,∀x∈P u v,∀b,(v,b)∈ed->∃y∈P u b,leS y (cS x (S v))=true
structure QF (n:Nat) (dep:Nat->Nat) (S:Nat->Sm) (ed:List (Nat×Nat)) (Q:Tb):Prop where
 gen:∀a b,∀x∈Q a b,Gb n dep S ed a b x
 an:∀a b,anti (Q a b)
 st:∀u,u<n->∃y∈Q u u,leS y (idS (dep u))=true
 ex:∀c b,∀x∈Q c b,∀a,(a,c)∈ed->∃y∈Q a b,leS y (cS (S a) x)=true
theorem y0l {d:Nat} {q:Sm} (h1:1<=d) (a:wfS q) (c:kN q<=d):cS (idS d) q=q:=by
 refine z8h (W3 (q2z h1) a) a (by grind[T4,q99]) (M6 ..) λi b=>?_
 rw[M6]at b
 rw[M8 (q2z h1).2 a.2 b,q57]
 omega
theorem j7o {d:Nat} {x:Sm} (h1:1<=d) (a:wfS x) (c:oN x=d):cS x (idS d)=x:=by
 have:=q52 x
 refine z8h (W3 a (q2z h1)) a (by grind[T4,q99]) (by grind[M6,q9o]) λi b=>?_
 rw[M6,q9o]at b
 rw[M8 a.2 (q2z h1).2 (by grind[q9o]),q57,q99,if_pos b]
 omega
theorem Gf.lows (g:GR n dep S ed) {Q:Tb} (j:QF n dep S ed Q) {u v:Nat} {x:Sm} (h:Gf n dep S ed u v x):∀w,∀q∈Q v w,∃y∈Q u w,leS y (cS x q)=true:=by
 induction h with
 | id B =>
  intro w q i
  have o:=((j.gen _ w q i).ok g).2.2
  rw[y0l (g.d1 _ B).1 o.wf o.k]
  grind[V4]
 | snoc v b x C k z =>
  intro w q i
  obtain⟨s,F,t⟩:=g.e v b k
  obtain⟨p,E,H,G⟩:=g.s0 v s
  have a:=(C.ok g).2.2
  have c:=((j.gen b w q i).ok g).2.2
  obtain⟨m,f,D⟩:=j.ex b w q i v k
  obtain⟨y,r,A⟩:=z w m f
  have d:=((j.gen v w m f).ok g).2.2
  refine⟨y,r,?_⟩
  rw[j7n a.wf p c.wf (by rw[t];exact c.k)]
  exact S1 A (j0a a.wf a.p0 d.wf (W3 p c.wf) D)
theorem Gb.lows (g:GR n dep S ed) {P:Tb} (k:PF n dep S ed P) {a b:Nat} {r:Sm} (h:Gb n dep S ed a b r):∀u,∀x∈P u a,∃y∈P u b,leS y (cS x r)=true:=by
 induction h with
 | id a m =>
  intro u x l
  have p:=((k.gen u a x l).ok g).2.2
  rw[j7o (g.d1 a m).1 p.wf p.o]
  grind[V4]
 | cons a c b r s w A =>
  intro u x l
  obtain⟨m,G,z⟩:=g.e a c s
  obtain⟨q,D,E,F⟩:=g.s0 a m
  have i:=((k.gen u a x l).ok g).2.2
  have d:=(w.ok g).2.2
  obtain⟨t,j,C⟩:=k.ex u a x l c s
  obtain⟨y,B,v⟩:=A u t j
  have e:=((k.gen u c t j).ok g).2.2
  refine⟨y,B,?_⟩
  rw[<-j7n i.wf q d.wf (by rw[z];exact d.k)]
  exact S1 v (j7p e.wf (W3 i.wf q) d.wf (by rw[e.o];exact d.k) C)
theorem y8z (g:GR n dep S ed) {P Q:Tb} (b:PF n dep S ed P) (c:QF n dep S ed Q) (u v:Nat):P u v=Q u v:=by
 refine j6y (b.an u v) (c.an u v) (λs a=>((b.gen u v s a).ok g).2.2.wf) (λs a=>((c.gen u v s a).ok g).2.2.wf) (λx m=>?_) λx m=>?_
 ·have h:=b.gen u v x m
  obtain⟨j,k,a⟩:=h.ok g
  obtain⟨q,d,p⟩:=c.st v k
  obtain⟨y,o,l⟩:=h.lows g c v q d
  refine⟨y,o,S1 l ?_⟩
  have:=j0a a.wf a.p0 (((c.gen v v q d).ok g).2.2.wf) (q2z (g.d1 v k).1) p
  rw[j7o (g.d1 v k).1 a.wf a.o]at this
  omega
 ·have h:=c.gen u v x m
  obtain⟨j,k,a⟩:=h.ok g
  obtain⟨q,d,p⟩:=b.st u j
  obtain⟨y,o,l⟩:=h.lows g b u q d
  refine⟨y,o,S1 l ?_⟩
  have e:=((b.gen u u q d).ok g).2.2
  have:=j7p e.wf (q2z (g.d1 u j).1) a.wf (by rw[e.o];exact a.k) p
  rw[y0l (g.d1 u j).1 a.wf a.k]at this
  omega
def rng13:List Int:=(List.range 13).map λi:Nat=>(i:Int)
def q3k:Nat->List (List Int)
 | 0=>[[]]
 | m+1=>[]::rng13.flatMap λv=>(q3k m).map (v::·)
theorem q9f {α β:Type} {f:α->List β} {c:Nat}:∀{l:List α},(∀x∈l,(f x).length=c)->(l.flatMap f).length=l.length*c
 | [],_=>by simp
 | a::l,h=>by
  rw[dR,aK,h a ar,q9f λx hx=>h x (aj _ hx),ai,cP,dz]
theorem j35 (m:Nat):(q3k (m+1)).length=1+13*(q3k m).length:=by
 show(rng13.flatMap λv=>(q3k m).map (v::·)).length+1=_
 rw[q9f (c:=(q3k m).length) λx _=>bi ..]
 show 13*_+1=_
 omega
theorem y22 {v:Int} (h:0<=v/\v<=12):v∈rng13:=aW.2 ⟨v.toNat,aL.2 (by omega),by omega⟩
theorem y20:∀{m:Nat} {l:List Int},l.length<=m->(∀v∈l,0<=v/\v<=12)->l∈q3k m
 | 0,[],_,_=>ar
 | 0,_::_,h,_=>by grind
 | m+1,[],_,_=>ar
 | m+1,v::l,h,a=>by
  rw[ai]at h
  exact aj _ (bb.2 ⟨v,y22 (a v ar),aW.2 ⟨l,y20 (by omega) λw b=>a w (aj _ b),rfl⟩⟩)
def boxS:List Sm:=(List.range 5).flatMap λk:Nat=>rng13.flatMap λd=>(q3k 3).map λl=>((k:Int),d,l,())
theorem y1f:boxS.length=154700:=by
 have a:(q3k 3).length=2380:=by
  rw[j35,j35,j35];rfl
 unfold boxS
 rw[q9f (c:=13*2380),eD]
 intro x _
 rw[q9f (c:=2380) λy _=>by grind]
 rfl
theorem y1z {s:Sm} (h:bx s):s∈boxS:=by
 obtain⟨b,c⟩:=h.parts
 have e:=h.nat
 have f:=h.o4
 have d:=h.wf.2
 have a:s.2.2.1.length<=3:=by grind[oN]
 have:=q52 s
 rw[e]
 exact bb.2 ⟨kN s,aL.2 (by omega),bb.2 ⟨s.2.1,y22 b,aW.2 ⟨s.2.2.1,y20 a c,rfl⟩⟩⟩
theorem q33 {l:List Sm} (h:anti l) (a:∀s∈l,bx s):l.length<=154700:=by
 rw[<-y1f]
 exact z5w (y2f h.u) λs b=>y1z (a s b)
def z3k (n:Nat):List ((Nat×Nat)×Sm):=(List.range n).flatMap λu=>(List.range n).flatMap λv=>boxS.map λs=>((u,v),s)
theorem v6n (n:Nat):(z3k n).length=n*(n*154700):=by
 grind[z3k,q9f,List.length_map,y1f]
theorem v7h {u v:Nat} {s:Sm} (b:u<n) (a:v<n) (h:bx s):((u,v),s)∈z3k n :=
 bb.2 ⟨u,aL.2 b,bb.2 ⟨v,aL.2 a,aW.2 ⟨s,y1z h,rfl⟩⟩⟩
def q8a (P:Tb) (t:(Nat×Nat)×Sm):Bool:=(P t.1.1 t.1.2).any λy=>leS y t.2
def q25 (n:Nat) (P:Tb):Nat:=(z3k n).countP (q8a P)
theorem j8a (n:Nat) (P:Tb) (h:n<=12):q25 n P<=22276800:=by
 refine bw List.countP_le_length ?_
 rw[v6n]
 calc n*(n*154700)<=12*(12*154700):=du h (du h (ax _))
  _=22276800:=rfl
def q02 (P P':Tb):Prop:=∀u v,∀y∈P u v,∃y'∈P' u v,leS y' y=true
theorem domB_iff {P:Tb} {u v:Nat} {s:Sm}:q8a P ((u,v),s)=true↔∃y∈P u v,leS y s=true:=by
 grind[q8a]
theorem v3n {P a:Tb} (h:q02 P a) {t:(Nat×Nat)×Sm} (b:q8a P t=true):q8a a t=true:=by
 obtain⟨⟨u,v⟩,s⟩:=t
 obtain⟨y,c,f⟩:=domB_iff.1 b
 obtain⟨e,d,g⟩:=h u v y c
 grind[domB_iff,S1]
theorem j8b {P a:Tb} (h:q02 P a) {u v:Nat} {s:Sm} (e:u<n) (c:v<n) (hs:bx s) (h1:¬∃y∈P u v,leS y s=true) (b:∃y∈a u v,leS y s=true):q25 n P<q25 n a :=
 q89 (λt _ d=>v3n h d) ⟨((u,v),s),v7h e c hs,by grind[domB_iff],domB_iff.2 b⟩
def q6q (i:Nat) (y s:Sm):Prop:=∀j,j<=i->pN y j<=pN s j/\(j<kN y->j<kN s)
def Wj (n:Nat) (dep:Nat->Nat) (P:Tb) (u v:Nat) (s:Sm):Prop :=
 ∃F:Nat->List Nat,∀i,i<dep v->(F i).Nodup/\pN s i<=(F i).length/\∀f∈F i,f<n/\dep f=i+1/\∃y∈P u f,oN y=i+1/\q6q i y s
theorem y1p {i:Nat} {a y s:Sm} (f:oN y=i+1) (h:leS a y=true) (c:q6q i y s):q6q i a s:=by
 obtain⟨o,p⟩:=leS_iff.1 h
 intro j b
 have e:=p j (by omega)
 have d:=c j b
 omega
theorem y9a {P d:Tb} (h:q02 P d) {u v:Nat} {s:Sm} (p:Wj n dep P u v s):Wj n dep d u v s:=by
 obtain⟨F,g⟩:=p
 refine⟨F,λi j=>?_⟩
 obtain⟨k,q,m⟩:=g i j
 refine⟨k,q,λf l=>?_⟩
 obtain⟨a,b,y,e,w,r⟩:=m f l
 obtain⟨x,o,t⟩:=h u f y e
 grind[leS_iff,y1p]
theorem j6g (g:GR n dep S ed) {P:Tb} {u v:Nat} {s:Sm} (c:v<n) (hs:shp (dep u) (dep v) s) (k:Wj n dep P u v s):bx s:=by
 obtain⟨F,h⟩:=k
 refine⟨hs.wf,by rw[hs.o];exact(g.d1 v c).2,λi=>⟨hs.p0 i,?_⟩⟩
 by_cases b:i<dep v
 ·obtain⟨e,o,l⟩:=h i b
  have d:(F i).length<=(List.range n).length:=z5w e λf j=>aL.2 (l f j).1
  rw[eD]at d
  have:=g.n12
  omega
 ·rw[q9s (by rw[hs.o];omega)];omega
theorem y99 (g:GR n dep S ed) (P:Tb) {u:Nat}:Wj n dep P u u (idS (dep u)) :=
 ⟨λ_=>[],λi _=>⟨dS,by grind[q57],λf c=>by grind⟩⟩
theorem y1o (g:GR n dep S ed) {v:Nat} (a:v<n) {i:Nat} (hi:i<kN (S v)) {y s:Sm} (hs:wfS s) (h:q6q i y s):q6q i y (cS s (S v)):=by
 intro j b
 have f:=h j b
 have:=g.S0 a j
 have e:=q52 (S v)
 rw[M8 hs.2 (g.s0 v a).1.2 (by omega),if_pos (by omega),T4]
 omega
theorem y9b (g:GR n dep S ed) {P k:Tb} (o:q02 P k) {u v b:Nat} {s:Sm} (hs:shp (dep u) (dep v) s) (C:Wj n dep P u v s) (G:¬∃y∈P u v,leS y s=true) (r:s∈k u v) (J:(v,b)∈ed):Wj n dep k u b (cS s (S v)):=by
 obtain⟨l,O,M⟩:=g.e v b J
 obtain⟨A,R,N,x⟩:=g.s0 v l
 obtain⟨F,D⟩:=C
 refine⟨λi=>if i<kN (S v)then(if pN (S v) i=1 then v::F i else F i)else [],λi T=>?_⟩
 have w:=x i
 rw[M8 hs.wf.2 A.2 (by omega)]
 by_cases q:i<kN (S v)
 ·obtain⟨f1,f2,f3⟩:=D i (by omega)
  have H:∀f∈F i,f<n/\dep f=i+1/\∃y∈k u f,oN y=i+1/\q6q i y (cS s (S v)):=λf m=>by
   obtain⟨a,b,y,t,d,e⟩:=f3 f m
   obtain⟨I,p,B⟩:=o u f y t
   exact⟨a,b,I,p,by grind[leS_iff],y1o g l q hs.wf (y1p d B e)⟩
  simp only[if_pos q]
  by_cases K:pN (S v) i=1
  ·simp only[if_pos K]
   have h:v∉F i:=λz=>by
    obtain⟨a,b,y,t,d,e⟩:=f3 v z
    exact G ⟨y,t,leS_iff.2 ⟨by rw[d,hs.o];omega,λj Q=>e j (by omega)⟩⟩
   refine⟨cM.2 ⟨h,f1⟩,by grind,λf m=>?_⟩
   rcases al.1 m with rfl | m
   ·exact⟨l,by omega,s,r,by rw[hs.o];omega,y1o g l q hs.wf λj _=>⟨Int.le_refl _,id⟩⟩
   grind
  grind
 grind
abbrev Jb:=Nat×Nat×Sm
def z3t (P:Tb) (J:List Jb) (u v:Nat) (s:Sm):Prop:=(∃y∈P u v,leS y s=true)\/∃y,(u,v,y)∈J/\leS y s=true
structure PI (n:Nat) (dep:Nat->Nat) (S:Nat->Sm) (ed:List (Nat×Nat)) (P:Tb) (J:List Jb):Prop where
 gen:∀u v,∀x∈P u v,Gf n dep S ed u v x/\bx x
 an:∀u v,anti (P u v)
 job:∀j∈J,Gf n dep S ed j.1 j.2.1 j.2.2/\Wj n dep P j.1 j.2.1 j.2.2
 st:∀u,u<n->z3t P J u u (idS (dep u))
 ex:∀u v,∀x∈P u v,∀b,(v,b)∈ed->z3t P J u b (cS x (S v))
theorem PI.done {P:Tb} (h:PI n dep S ed P []):PF n dep S ed P :=
 ⟨λu v x c=>(h.gen u v x c).1,h.an,λu e=>(h.st u e).resolve_right λ⟨y,f,_⟩=>(by grind),λu v x c b g=>(h.ex u v x c b g).resolve_right λ⟨y,f,_⟩=>(by grind)⟩
theorem PI.jbx (g:GR n dep S ed) {P:Tb} {J:List Jb} (h:PI n dep S ed P J):∀j∈J,j.1<n/\j.2.1<n/\bx j.2.2/\shp (dep j.1) (dep j.2.1) j.2.2:=λj c=>by
 obtain⟨d,f⟩:=h.job j c
 obtain⟨i,k,e⟩:=d.ok g
 grind[j6g]
theorem z3u {P l:Tb} {J m:List Jb} {u v:Nat} {s:Sm} (k:q02 P l) (n:∀j∈J,j∈m) (hs:∃y∈l u v,leS y s=true) {a b:Nat} {x:Sm} (h:z3t P ((u,v,s)::J) a b x):z3t l m a b x:=by
 rcases h with⟨y,f,g⟩ | ⟨y,f,g⟩
 ·obtain⟨i,c,d⟩:=k a b y f
  exact .inl ⟨i,c,S1 d g⟩
 ·rcases al.1 f with e | f
  ·cases e
   obtain⟨i,c,d⟩:=hs
   exact .inl ⟨i,c,S1 d g⟩
  ·exact .inr ⟨y,n _ f,g⟩
theorem y7r (P:Tb):q02 P P:=λu v y a=>⟨y,a,V4 y⟩
theorem PI.known {P:Tb} {J:List Jb} {u v:Nat} {s:Sm} (h:PI n dep S ed P ((u,v,s)::J)) (e:∃y∈P u v,leS y s=true):PI n dep S ed P J :=
 ⟨h.gen,h.an,λj c=>h.job j (aj _ c),λu g=>z3u (y7r P) (λj c=>c) e (h.st u g),λa v x i b k=>z3u (y7r P) (λj c=>c) e (h.ex a v x i b k)⟩
def S6 (P:Tb) (u v:Nat) (s:Sm):Tb:=λa b=>if a=u/\b=v then Q6 (P u v++[s])else P a b
def U8 (S:Nat->Sm) (ed:List (Nat×Nat)) (u v:Nat) (s:Sm):List Jb:=(ed.filter λe=>decide (e.1=v)).map λe=>(u,e.2,cS s (S v))
theorem k05 (P:Tb) (u v:Nat) (s:Sm):S6 P u v s u v=Q6 (P u v++[s]):=if_pos ⟨rfl,rfl⟩
theorem k06 {P:Tb} {u v:Nat} {s:Sm} (d:∀x∈P u v,wfS x) (hs:wfS s):q02 P (S6 P u v s):=by
 intro a b y e
 unfold S6
 by_cases h:a=u/\b=v
 ·obtain⟨rfl,rfl⟩:=h
  rw[if_pos ⟨rfl,rfl⟩]
  exact z4h (λx c=>(aQ.1 c).elim (d x) λg=>by grind) (aB _ e)
 grind[V4]
theorem y3s {P:Tb} {u v:Nat} {s:Sm} {a b:Nat} {x:Sm} (h:x∈S6 P u v s a b):x∈P a b\/(a=u/\b=v/\x=s):=by
 grind[S6,mem_front]
theorem k04 {P:Tb} {u v:Nat} {s:Sm} (a:¬∃y∈P u v,leS y s=true):s∈S6 P u v s u v:=by
 grind[k05,mem_front]
theorem PI.put (g:GR n dep S ed) {P:Tb} {J:List Jb} {u v:Nat} {s:Sm} (h:PI n dep S ed P ((u,v,s)::J)) (t:¬∃y∈P u v,leS y s=true) :
  PI n dep S ed (S6 P u v s) (J++U8 S ed u v s)/\q25 n P<q25 n (S6 P u v s):=by
 obtain⟨z,B⟩:=h.job (u,v,s) ar
 obtain⟨F,A,q⟩:=z.ok g
 have C:bx s:=j6g g A q B
 have d:q02 P (S6 P u v s):=k06 (λx i=>(h.gen u v x i).2.wf) q.wf
 have p:s∈S6 P u v s u v:=k04 t
 have f:∃y∈S6 P u v s u v,leS y s=true:=⟨s,p,V4 s⟩
 refine⟨⟨λa b x i=>?_,λa b=>?_,λj k=>?_,λw D=>?_,λa c x i b m=>?_⟩,j8b d F A C t f⟩
 ·rcases y3s i with i | ⟨rfl,rfl,rfl⟩
  ·exact h.gen a b x i
  grind
 ·unfold S6
  split
  ·exact j6z _
  ·exact h.an a b
 ·rcases aQ.1 k with k | k
  ·have:=h.job j (aj _ k)
   grind[y9a]
  ·obtain⟨e,m,rfl⟩:=aW.1 k
   obtain⟨m,l⟩:=bn.1 m
   have l:=of_decide_eq_true l
   obtain⟨E,G⟩:=e
   obtain rfl:v=E:=l.symm
   exact⟨.snoc _ _ _ _ z m,y9b g d q B t p m⟩
 ·exact z3u d (λj k=>aB _ k) f (h.st w D)
 ·rcases y3s i with i | ⟨rfl,rfl,rfl⟩
  ·exact z3u d (λj k=>aB _ k) f (h.ex a c x i b m)
  ·exact .inr ⟨_,aC _ (aW.2 ⟨(c,b),bn.2 ⟨m,decide_eq_true rfl⟩,rfl⟩),V4 _⟩
theorem PI.start (g:GR n dep S ed):PI n dep S ed (λ_ _=>[]) ((List.range n).map λu=>(u,u,idS (dep u))):=by
 refine⟨λu v x e=>(by grind),λu v=>z9v,λj d=>?_,λu b=>.inr ⟨_,aW.2 ⟨u,aL.2 b,rfl⟩,V4 _⟩,λu v x e=>(by grind)⟩
 obtain⟨u,b,rfl⟩:=aW.1 d
 exact⟨.id u (aL.1 b),y99 g _⟩
def q2k (dep:Nat->Nat) (S:Nat->Sm) (ed:List (Nat×Nat)) (Q:Tb) (a b:Nat):List Sm :=
 (if a=b then [idS (dep a)]else [])++ed.flatMap λe=>if e.1=a then(Q e.2 b).map (cS (S a))else []
def F3 (n:Nat) (dep:Nat->Nat) (S:Nat->Sm) (ed:List (Nat×Nat)) (Q:Tb):Tb:=λa b=>if a<n/\b<n then Q6 (q2k dep S ed Q a b)else []
theorem mem_pre {Q:Tb} {a b:Nat} {x:Sm}:x∈q2k dep S ed Q a b↔(a=b/\x=idS (dep a))\/∃c r,(a,c)∈ed/\r∈Q c b/\x=cS (S a) r:=by
 grind[q2k]
def WR (n:Nat) (dep:Nat->Nat) (Q:Tb) (b:Nat) (r:Sm):Prop :=
 (∀i,kN r<=i->pN r i<=12)/\∃F:List Nat,F.Nodup/\pN r (kN r-1)<=F.length/\∀f∈F,f<n/\dep f=kN r/\∃y∈Q f b,leS y r=true
theorem j6f (g:GR n dep S ed) {Q:Tb} {a b:Nat} {r:Sm} (d:b<n) (hs:shp (dep a) (dep b) r) (j:WR n dep Q b r):bx r:=by
 obtain⟨l,F,f1,f2,f3⟩:=j
 refine⟨hs.wf,by rw[hs.o];exact(g.d1 b d).2,λi=>⟨hs.p0 i,?_⟩⟩
 rcases Nat.lt_trichotomy (i+1) (kN r)with h | h | h
 ·grind[j3z]
 ·have k:F.length<=(List.range n).length:=z5w f1 λf e=>aL.2 (f3 f e).1
  have:=g.n12
  grind
 grind
structure RI (n:Nat) (dep:Nat->Nat) (S:Nat->Sm) (ed:List (Nat×Nat)) (Q:Tb):Prop where
 gen:∀a b,∀x∈Q a b,Gb n dep S ed a b x/\WR n dep Q b x
 an:∀a b,anti (Q a b)
 asc:q02 Q (F3 n dep S ed Q)
theorem RI.bx (g:GR n dep S ed) {Q:Tb} (h:RI n dep S ed Q) {a b:Nat}:∀x∈Q a b,bx x:=λx f=>by
 obtain⟨j,i⟩:=h.gen a b x f
 obtain⟨l,k,e⟩:=j.ok g
 exact j6f g k e i
theorem z6i (g:GR n dep S ed) {Q:Tb} (j:∀c b,∀x∈Q c b,wfS x) {a b:Nat} (e:a<n):∀x∈q2k dep S ed Q a b,wfS x:=λx i=>by
 rcases mem_pre.1 i with⟨_,rfl⟩ | ⟨c,r,k,h,rfl⟩
 ·exact q2z (g.d1 a e).1
 ·exact W3 (g.s0 a e).1 (j c b r h)
theorem k16 (g:GR n dep S ed) {Q Q':Tb} (t:∀c b,∀x∈Q c b,wfS x) (j:∀c b,∀x∈Q' c b,wfS x) (h:q02 Q Q'):q02 (F3 n dep S ed Q) (F3 n dep S ed Q'):=by
 intro a b y i
 unfold F3 at i ⊢
 split at i
 ·rename_i f
  have o:=(mem_front.1 i).1
  have:∃s∈q2k dep S ed Q' a b,leS s y=true:=by
   rcases mem_pre.1 o with⟨u,rfl⟩ | ⟨c,r,q,m,rfl⟩
   ·exact⟨_,mem_pre.2 (.inl ⟨u,rfl⟩),V4 _⟩
   ·obtain⟨l,e,p⟩:=h c b r m
    exact⟨_,mem_pre.2 (.inr ⟨c,l,q,e,rfl⟩),j0a (g.s0 a f.1).1 (g.S0 f.1) (j c b l e) (t c b r m) p⟩
  grind[z4h,z6i,S1]
 grind
theorem y96 (g:GR n dep S ed) {Q Q':Tb} (h:q02 Q Q') {a c b:Nat} {r:Sm} (N:a<n) (I:b<n) (M:(a,c)∈ed) (hs:shp (dep c) (dep b) r) (v:WR n dep Q b r) (q:cS (S a) r∈Q' a b) (o:anti (Q' a b)):WR n dep Q' b (cS (S a) r):=by
 obtain⟨-,hc,V⟩:=g.e a c M
 obtain⟨z,U,W,K⟩:=g.s0 a N
 have p:=j6f g I hs v
 obtain⟨h1,F,f1,f2,f3⟩:=v
 have R:=hs.wf.2
 have k2:=z.2
 have Z:=q52 r
 have ks:=hs.k
 have T:=T4 (S a) r
 have m:kN r<=kN (S a)->leS r (cS (S a) r)=true:=λB=>leS_iff.2 ⟨(M6 ..).symm,λi x=>by
  grind[M8]⟩
 by_cases B:kN r<=kN (S a)
 ·have t:kN (cS (S a) r)=kN r:=by omega
  have k:=m B
  have H:∀f∈F,f<n/\dep f=kN r/\∃y∈Q' f b,leS y (cS (S a) r)=true:=λf u=>by
   obtain⟨E,C,y,s,w⟩:=f3 f u
   obtain⟨A,l,j⟩:=h f b y s
   grind[S1]
  refine⟨λi x=>?_,?_⟩
  ·grind[M8,q9s,M6]
  ·rw[t,M8 z.2 hs.wf.2 (by omega),if_pos (by omega)]
   rcases K (kN r-1)with G | ⟨G,h2,Y,X⟩
   ·grind
   ·refine⟨a::F,cM.2 ⟨λD=>?_,f1⟩,by grind,λf u=>?_⟩
    ·obtain⟨E,C,y,s,w⟩:=f3 a D
     obtain⟨A,l,j⟩:=h a b y s
     have e:=o.m _ q A l (S1 j (S1 w k))
     grind[leS_iff,M8]
    grind[V4]
 ·refine⟨λi x=>?_,[],dS,?_,λf u=>by grind⟩
  ·by_cases O:i<oN r
   ·have:=(p.p0 i).2
    grind[M8]
   grind[q9s,M6]
  grind[M8,j3z]
theorem y97 (g:GR n dep S ed) (Q:Tb) {b:Nat}:WR n dep Q b (idS (dep b)) :=
 ⟨λi _=>by grind[q57],[],dS,by grind[q57],λf d=>by grind⟩
theorem RI.next (g:GR n dep S ed) {Q:Tb} (h:RI n dep S ed Q):RI n dep S ed (F3 n dep S ed Q):=by
 have m:∀c b,∀x∈Q c b,wfS x:=λc b x f=>(h.bx g x f).wf
 have i:∀c b,∀x∈F3 n dep S ed Q c b,wfS x:=λc b x f=>by
  grind[F3,z6i,mem_front]
 have k:∀a b,anti (F3 n dep S ed Q a b):=λa b=>by
  grind[F3,j6z,z9v]
 refine⟨λa b x f=>?_,k,k16 g m i h.asc⟩
 have l:=f
 unfold F3 at f
 split at f
 ·rename_i e
  rcases mem_pre.1 (mem_front.1 f).1 with⟨rfl,rfl⟩ | ⟨c,r,o,q,rfl⟩
  ·exact⟨.id a e.1,y97 g _⟩
  ·obtain⟨p,s⟩:=h.gen c b r q
   exact⟨.cons _ _ _ _ o p,y96 g h.asc e.1 e.2 o (p.ok g).2.2 s l (k a b)⟩
 grind
theorem RI.start (g:GR n dep S ed):RI n dep S ed λ_ _=>[] :=
 ⟨λa b x f=>(by grind),λa b=>z9v,λa b y e=>(by grind)⟩
theorem RI.fixed (g:GR n dep S ed) {Q:Tb} (h:RI n dep S ed Q) (l:∀a b,a<n->b<n->F3 n dep S ed Q a b=Q a b):QF n dep S ed Q:=by
 have i:∀c b,∀x∈Q c b,wfS x:=λc b x e=>(h.bx g x e).wf
 refine⟨λa b x e=>(h.gen a b x e).1,h.an,λu f=>?_,λc b x e a m=>?_⟩
 ·rw[<-l u u f f]
  unfold F3
  rw[if_pos ⟨f,f⟩]
  exact z4h (z6i g i f) (mem_pre.2 (.inl ⟨rfl,rfl⟩))
 ·obtain⟨k,p,-⟩:=g.e a c m
  have o:=((h.gen c b x e).1.ok g).2.1
  rw[<-l a b k o]
  unfold F3
  rw[if_pos ⟨k,o⟩]
  exact z4h (z6i g i k) (mem_pre.2 (.inr ⟨c,x,m,e,rfl⟩))
theorem RI.grow (g:GR n dep S ed) {Q:Tb} (h:RI n dep S ed Q) (k:¬∀a b,a<n->b<n->F3 n dep S ed Q a b=Q a b):q25 n Q<q25 n (F3 n dep S ed Q):=by
 have i:=h.next g
 apply cd
 intro o
 refine k λa b l m=>j6y (i.an a b) (h.an a b) (λs e=>(i.bx g s e).wf) (λs e=>(h.bx g s e).wf) (λx d=>?_) λx d=>h.asc a b x d
 apply cd
 intro f
 exact o (j8b h.asc l m (i.bx g x d) f ⟨x,d,V4 x⟩)
end
end

section
open Go Go.Abs

inductive Way (A:Nat->Nat->Bool):Nat->Nat->Prop
 | one {i j:Nat} (h:A i j=true):Way A i j
 | more {i k j:Nat} (h:Way A i k) (h2:A k j=true):Way A i j
variable {i:Nat} {j:Nat} {k:Nat}
theorem Way.trans {A:Nat->Nat->Bool} (h:Way A i j) (h2:Way A j k):Way A i k:=by
 induction h2 with
 | one h2=>exact .more h h2
 | more _ h3 ih=>exact .more ih h3
def fwR (w:Nat->Nat->Bool) (k:Nat):Nat->Nat->Bool:=λi j=>w i j||(w i k&&w k j)
def fwN (A:Nat->Nat->Bool):Nat->Nat->Nat->Bool
 | 0=>A
 | k+1=>fwR (fwN A k) k
theorem z4j (A:Nat->Nat->Bool):∀k i j,fwN A k i j=true->Way A i j
 | 0,i,j,h=>.one h
 | k+1,i,j,h=>by
  simp only[fwN,fwR,bD,ac]at h;rcases h with h | ⟨h,h2⟩
  ·exact z4j A k i j h
  ·exact(z4j A k i k h).trans (z4j A k k j h2)
theorem j26 (A:Nat->Nat->Bool) (k:Nat):∀m i j,fwN A k i j=true->fwN A (k+m) i j=true
 | 0,_,_,h=>h
 | m+1,i,j,h=>by
  show fwR (fwN A (k+m)) (k+m) i j=true;simp only[fwR,bD];exact .inl (j26 A k m i j h)
theorem j9s (A:Nat->Nat->Bool):∀k m,m<k->∀i j,fwN A k i m=true->fwN A k m j=true->fwN A k i j=true
 | 0,_,h,_,_,_,_=>by omega
 | k+1,m,hm,i,j,h1,h2=>by
  simp only[fwN,fwR,bD,ac]at h1 h2 ⊢;by_cases hmk:m=k
  ·subst hmk;have h1':fwN A m i m=true:=by
    rcases h1 with h | ⟨h,_⟩<;>exact h
   have h2':fwN A m m j=true:=by
    rcases h2 with h | ⟨_,h⟩<;>exact h
   exact .inr ⟨h1',h2'⟩
  ·have hlt:m<k:=by omega
   have ih:=j9s A k m hlt;rcases h1 with h1 | ⟨h1,h1'⟩<;>rcases h2 with h2 | ⟨h2,h2'⟩
   ·exact .inl (ih i j h1 h2)
   ·exact .inr ⟨ih i k h1 h2,h2'⟩
   ·exact .inr ⟨h1,ih k j h1' h2⟩
   ·exact .inr ⟨h1,h2'⟩
variable {n:Nat}
theorem z4i {A:Nat->Nat->Bool} (hA:∀i j,A i j=true->i<n/\j<n) (i j:Nat):fwN A n i j=true↔Way A i j:=by
 constructor
 ·exact z4j A n i j
 ·intro h
  induction h with
  | one h=>have:=j26 A 0 n _ _ h;rwa [cA]at this
  | more _ h2 ih =>
   have h3:=j26 A 0 n _ _ h2;rw[cA]at h3;exact j9s A n _ (hA _ _ h2).1 _ _ ih h3
def V0 (w:Nat->Nat->Bool) (n k x:Nat):Nat->Bool:=λy=>if y<x then fwR w k (y / n) (y % n)else w (y / n) (y % n)
variable {w:Nat->Nat->Bool}
theorem v4x {x:Nat} (hk:k<n):V0 w n k x (i*n+k)=w i k:=by
 have h1:(i*n+k) / n=i:=by rw[bG,dE (by omega),cm hk];rfl
 have h2:(i*n+k) % n=k:=by rw[bG,dd,bN hk]
 unfold V0;rw[h1,h2];split
 ·unfold fwR;cases w i k<;>simp
 ·rfl
theorem v4z {x:Nat} (hj:j<n):V0 w n k x (k*n+j)=w k j:=by
 have h1:(k*n+j) / n=k:=by rw[bG,dE (by omega),cm hj];rfl
 have h2:(k*n+j) % n=j:=by rw[bG,dd,bN hj]
 unfold V0;rw[h1,h2];split
 ·unfold fwR;cases w k j<;>simp
 ·rfl
theorem v4y (hj:j<n):V0 w n k (i*n+j) (i*n+j)=w i j:=by
 have h1:(i*n+j) / n=i:=by rw[bG,dE (by omega),cm hj];rfl
 have h2:(i*n+j) % n=j:=by rw[bG,dd,bN hj]
 unfold V0;rw[if_neg (by omega),h1,h2]
theorem j9r (hj:j<n) (y:Nat):V0 w n k (i*n+(j+1)) y=if y=i*n+j then fwR w k i j else V0 w n k (i*n+j) y:=by
 have h1:(i*n+j) / n=i:=by rw[bG,dE (by omega),cm hj];rfl
 have h2:(i*n+j) % n=j:=by rw[bG,dd,bN hj]
 by_cases hy:y=i*n+j
 ·subst hy;rw[if_pos rfl];unfold V0;rw[if_pos (by omega),h1,h2]
 ·rw[if_neg hy];unfold V0;by_cases hlt:y<i*n+j
  ·rw[if_pos hlt,if_pos (by omega)]
  ·rw[if_neg hlt,if_neg (by omega)]
theorem q5i (hi:i<n) (hj:j<n):i*n+j<n*n:=by
 have:(i+1)*n<=n*n:=aJ n hi;rw[bH,dL]at this;omega
theorem q7k (hn:n<=64) (hi:i<n) (hj:j<n):IntKind.i64.wrap ((IntKind.i64.wrap ((i:Int)*(n:Int)))+(j:Int))=((i*n+j:Nat):Int):=by
 have h1:=q5i hi hj;have h2:n*n<=64*64:=du hn hn;have h3:(i:Int)*(n:Int)=((i*n:Nat):Int):=(Int.natCast_mul i n).symm;have e1:IntKind.i64.wrap ((i*n:Nat):Int)=((i*n:Nat):Int):=F6 (by omega) (by omega);rw[h3,e1];rw[F6 (by omega) (by omega)];simp
end

section
open Go Go.Abs

theorem k4p:∀r:Fin 64,A5 j38 (q45 .u64 (IntKind.u64.wrap (((2^r.val:Nat):Int)*(285870213051353865:Int))) (58:Int))=some (r.val:Int):=by decide +kernel
theorem z9f {r q:Nat} (h:2^r*(2*q+1)<2^64):q3o (((2^r*(2*q+1):Nat):Int),())=some ((r:Int),()):=by
 have hr:r<64:=q22 h (by rw[q9p];simp);have hp:0<2^r*(2*q+1):=fG (cj r) (by omega);unfold q3o;have e0:((((2^r*(2*q+1):Nat):Int),()).1==(0:Int))=false:=by
  simp only[beq_eq_false_iff_ne];omega
 have e1:IntKind.u64.wrap (0-((2^r*(2*q+1):Nat):Int))=((2^64-2^r*(2*q+1):Nat):Int):=by
  unfold IntKind.wrap;simp only[IntKind.bits,IntKind.signed];generalize 2^r*(2*q+1)=v at *
  simp;omega
 simp only[e0,cond_false];rw[e1,j6x h (by omega),v6x h,j9y,tab0_eq,k4p ⟨r,hr⟩];simp only[aa];rw[F6 (by omega) (by omega)]
theorem j4q {i:Nat} (h:i<32):q5e ((i:Int),())=some (((2^i:Nat):Int),()):=by
 unfold q5e;have:decide ((i:Int)<0)=false:=decide_eq_false (by omega);simp only[this,cond_false];rw[k39 h]
theorem k38 {a:Nat} (i:Nat) (h:a<2^32):z8c ((a:Int),(i:Int),())=some (a.testBit i,()):=by
 unfold z8c;have:decide ((i:Int)<0)=false:=decide_eq_false (by omega);simp only[this,cond_false];rw[v5h i h]
def below (ws:List Nat) (i j:Nat):Bool:=(ws.getD i 0).testBit j
end

section
open Go Go.Abs

abbrev B5:=Int×(Int×((Int×(Int×(Int×Unit)))×Unit))
abbrev Edge:=Int×(Int×(Int×Unit))
def D5 (v:B5):Bool:=decide (1<=v.2.1/\v.2.1<=4/\1<=v.1/\v.1<=6/\(v.1=1->v.2.1=1)/\(v.1=4->v.2.1≠4)/\(5<=v.1->2<=v.2.1))
def H5 (v:B5):Int:=if v.1=1 then 0 else if v.1=3 then 2 else 1
def q0i (v:B5):Int:=if v.1=4 then v.2.1+1 else if v.1=5 then v.2.1-1 else v.2.1
theorem k08 (v:B5):z6s (v,())=some (D5 v,()):=by
 obtain⟨k,d,op,_⟩:=v;unfold z6s D5;simp only[q0b,O0,q36]
 repeat' split
 all_goals first
  | (congr 2;symm;apply decide_eq_false;intro h;obtain⟨h1,h2,h3,h4,h5,h6,h7⟩:=h;omega)
  | (congr 2;symm;apply decide_eq_true;omega)
  | (congr 2;apply decide_eq_decide.2;omega)
theorem y09 (v:B5):q8x (v,())=some (D5 v,()):=by
 obtain⟨k,d,op,_⟩:=v;have w1:IntKind.i64.wrap ((4:Int)-1)=3:=by decide
 have w2:IntKind.i64.wrap ((1:Int)+1)=2:=by decide
 unfold q8x D5;simp only[w1,w2,q0b,q36];have fin:∀{p q:Bool},(p=true↔q=true)->some (p,())=some (q,()):=λh=>by rw[ci.2 h]
 have hk:k=1\/k=4\/k=5\/k=6\/k=2\/k=3\/(k≠1/\k≠4/\k≠5/\k≠6/\k≠2/\k≠3):=by omega
 rcases hk with rfl | rfl | rfl | rfl | rfl | rfl | ⟨h1,h4,h5,h6,h2,h3⟩
 case inr.inr.inr.inr.inr.inr =>
  simp only[h1,h4,h5,h2,h3,if_false,beq_eq_false_iff_ne.2 h6,aa,am,cond_false];refine fin ?_;simp;omega
 all_goals
  simp;split
  ·refine fin ?_;simp;omega
  ·refine fin ?_;simp;omega
theorem v5d (v:B5):z4q (v,())=some (!D5 v,()):=by
 unfold z4q;rw[y09];rfl
theorem y08 (v:B5):q8v (v,())=some (H5 v,()):=by
 unfold q8v H5;simp only[q0b];split
 ·rfl
 ·split<;>rfl
theorem y42 (v:B5):z08 (v,())=some (H5 v,()):=by
 unfold z08 H5;simp only[q0b];split
 ·rfl
 ·split<;>rfl
variable {v:B5}
theorem q3p (h:D5 v=true):1<=v.2.1/\v.2.1<=4:=by
 have:=of_decide_eq_true h;exact⟨this.1,this.2.1⟩
theorem v5f (h:D5 v=true):z4t (v,())=some (q0i v,()):=by
 have hd:=q3p h;unfold z4t q0i;simp only[q0b];rw[F6 (by omega) (by omega),F6 (by omega) (by omega)];split
 ·rfl
 ·split<;>rfl
theorem k0a (h:D5 v=true):((q3x (v,())).bind λr=>S7 r)=some (q0i v,()):=by
 have hd:=q3p h;obtain⟨k,d,op,u⟩:=v;simp only at hd;unfold q3x S7 q0i;simp only[q0b];have w:∀z:Int,-100<=z->z<=100->IntKind.i64.wrap z=z:=λz h1 h2=>F6 (by omega) (by omega);by_cases h4:k=4
 ·simp only[h4,if_true,aa,ai,aq];rw[w _ (by omega) (by omega)];rfl
 ·by_cases h5:k=5
  ·subst h5;simp only[h4,if_false,if_true,aa,aq];rw[w (d-1) (by omega) (by omega),w _ (by omega) (by omega)];simp
  ·by_cases h6:k=6
   ·subst h6;simp only[h4,h5,if_false,if_true,aa,aq];rw[w _ (by omega) (by omega)];simp
   ·simp only[h4,h5,h6,if_false,aa,aq];rw[w _ (by omega) (by omega)];simp
end

section
open Go Go.Abs

theorem v6s {l U o:Type} {f:l->Option (l⊕(U⊕o))} (n:Nat) (s:Nat->l) (g:Nat->Option U) (e:o) (h:∀i,i<n->(∀j,j<i->g j=none)->f (s i)=some (y7k (g i) (s (i+1)))) (a:(∀j,j<n->g j=none)->f (s n)=some (.inr (.inr e))) :
  A1 f (s 0)=some (O1 ((List.range n).findSome? g) e):=by
 have q:∀k i,i+k=n->(∀j,j<i->g j=none)->A1 f (s i)=some (O1 ((List.range' i k).findSome? g) e):=by
  intro k
  induction k with
  | zero =>
   intro i r d;have:i=n:=by omega
   subst this;rw[D9 (a d)];rfl
  | succ k t =>
   intro i r d;have c:=h i (by omega) d;rw[cY,bM];cases m:g i with
   | some b=>rw[m]at c;rw[D9 c];rfl
   | none =>
    rw[m]at c;rw[H4 c];grind
 grind[List.range_eq_range']
def e0:Edge:=(0,0,0,())
def v0:B5:=(0,0,(0,0,0,()),())
def frE (E:List Edge) (i:Nat):Int:=(E.getD i e0).1
def toE (E:List Edge) (i:Nat):Int:=(E.getD i e0).2.1
def poE (E:List Edge) (i:Nat):Int:=(E.getD i e0).2.2.1
def q2x (E:List Edge) (i:Nat):Bool:=(List.range i).any λj=>toE E j==toE E i&&poE E j==poE E i
def F5 (N:List B5) (E:List Edge) (i:Nat):Int :=
 if frE E i<0\/(N.length:Int)<=frE E i\/toE E i<0\/(N.length:Int)<=toE E i then 8
 else if poE E i<0\/H5 (N.getD (toE E i).toNat v0)<=poE E i then 8
 else if q2x E i=true then 8
 else if q0i (N.getD (frE E i).toNat v0)=(N.getD (toE E i).toNat v0).2.1 then 0 else 7
theorem j3d {N:List B5} (a:N.all D5=true) {i:Int} (b:0<=i) (h1:i<N.length):D5 (N.getD i.toNat v0)=true:=by
 grind
variable {E:List Edge}
theorem v3s (N:List B5) (b:E.length<=20) {i:Nat} (hi:i<E.length) :
  A1 (z1h ((N,E,()),(i:Int),()) (E.getD i e0)) ((0:Int),())=some (if q2x E i=true then .inl (8,())else .inr (.inl ())):=by
 have h:=P5 (f:=z1h ((N,E,()),(i:Int),()) (E.getD i e0)) i (λj=>((j:Int),())) (λj=>cond (toE E j==toE E i&&poE E j==poE E i) (some (8,())) none) (.inl ()) (λj e=>by
  unfold z1h;simp (disch:=omega) only [dcT,cond_true,K7 e0 (aZ j) (show(j:Int)<(E.length:Int)by omega),ah,aa];rw[B2 (by omega)];show(cond (toE E j==toE E i) _ _)=_;cases c:toE E j==toE E i with
  | false=>rfl
  | true =>
   show(cond (poE E j==poE E i) _ _)=_;cases k:poE E j==poE E i<;>rfl) (by
  grind[z1h]) rfl
 refine fH h ?_;have:((List.range i).findSome? λj=>cond (toE E j==toE E i&&poE E j==poE E i) (some ((8:Int),())) none)=if q2x E i=true then some (8,())else none:=by
  unfold q2x;cases g:(List.range i).any (λj=>toE E j==toE E i&&poE E j==poE E i)with
  | true =>
   cases d:(List.range i).findSome? λj=>cond (toE E j==toE E i&&poE E j==poE E i) (some ((8:Int),())) none with
   | none =>
    grind
   | some z =>
    grind[List.findSome?_eq_some_iff]
  | false =>
   grind
 rw[this];split<;>rfl
theorem k0q {N:List B5} (o:N.all D5=true) (n:E.length<=20) {i:Nat} (hi:i<E.length):z7w ((N,E,()),(i:Int),())=some (F5 N E i,()):=by
 unfold z7w F5;simp only[K7 e0 (aZ i) (show(i:Int)<(E.length:Int)by omega),ah,aa];show(cond (decide (frE E i<0)) _ (cond (decide (frE E i≥(N.length:Int))) _ (cond (decide (toE E i<0)) _ (cond (decide (toE E i≥(N.length:Int))) _ (cond (decide (poE E i<0)) _ ((A5 N (toE E i)).bind _))))))=_;by_cases e:frE E i<0
 ·grind
 by_cases h:frE E i≥(N.length:Int)
 ·grind
 by_cases f:toE E i<0
 ·grind
 by_cases g:toE E i≥(N.length:Int)
 ·grind
 have c:¬(frE E i<0\/(N.length:Int)<=frE E i\/toE E i<0\/(N.length:Int)<=toE E i):=by omega
 simp only[dcF e,dcF h,dcF f,dcF g,cond_false,if_neg c];by_cases k:poE E i<0
 ·grind
 have b:=K7 (l:=N) v0 (Int.not_lt.1 f) (Int.not_le.1 g);simp only[dcF k,cond_false,b,aa,y42];show(cond (decide (poE E i≥H5 (N.getD (toE E i).toNat v0))) _ _)=_;by_cases j:poE E i≥H5 (N.getD (toE E i).toNat v0)
 ·grind
 have a:¬(poE E i<0\/H5 (N.getD (toE E i).toNat v0)<=poE E i):=by omega
 simp only[dcF j,cond_false,if_neg a];rw[v3s N n hi];by_cases m:q2x E i=true
 ·grind
 simp[m,aa];have d:=K7 (l:=N) v0 (Int.not_lt.1 e) (Int.not_le.1 h);show((A5 N (frE E i)).bind _)=_;rw[d,aa];grind[k0a,Option.bind_eq_some_iff,toE]
abbrev tkT:Ty:=.cons (.int .i64) (.cons (.int .i64) .nil)
def R3 (E:List Edge):Nat->List ((Int×(Int×Unit))×Int)
 | 0=>[]
 | i+1=>C9 tkT (R3 E i) (toE E i,poE E i,()) (i:Int)
theorem j5o (E:List Edge) (t p:Int):∀i,(D2 tkT (R3 E i) (t,p,())).isSome=(List.range i).any λj=>toE E j==t&&poE E j==p
 | 0=>rfl
 | i+1=>by
  rw[cF,eU,<-j5o E t p i];simp[R3,cJ,fC,ei];by_cases h:((t,p,()):tkT.den)=(toE E i,poE E i,())
  ·have b:toE E i=t:=by have:=congrArg (·.1) h;exact this.symm
   have c:poE E i=p:=by have:=congrArg (·.2.1) h;exact this.symm
   rw[h,q9i rfl];simp[b,c]
  ·rw[q6t rfl _ _ _ _ h];have:(toE E i==t&&poE E i==p)=false:=by
    rw[Bool.and_eq_false_iff,beq_eq_false_iff_ne,beq_eq_false_iff_ne];by_cases b:toE E i=t
    ·right;intro c;exact h (by rw[b,c])
    ·exact .inl b
   rw[this,ei]
def toW (E:List Edge):Nat->Nat->Nat
 | 0,_=>0
 | i+1,a=>if(a:Int)=frE E i then toW E i a ||| 2^(toE E i).toNat else toW E i a
theorem y87 (E:List Edge) (a b:Nat):∀i,(∀j,j<i->0<=toE E j)->((toW E i a).testBit b=true↔∃j,j<i/\frE E j=a/\toE E j=b)
 | 0,_=>by simp[toW]
 | i+1,h=>by
  have f:=y87 E a b i (λj g=>h j (by omega));have n:=h i (by omega);simp[toW];constructor
  ·intro c;split at c
   ·rename_i m;rw[cC,bD]at c;rcases c with c | c
    ·obtain⟨j,k,d⟩:=f.1 c;exact⟨j,by omega,d⟩
    ·rw[cG,decide_eq_true_eq]at c;exact⟨i,by omega,m.symm,by omega⟩
   ·obtain⟨j,k,d⟩:=f.1 c;exact⟨j,by omega,d⟩
  ·rintro ⟨j,k,d,l⟩;by_cases g:j=i
   ·subst g;rw[if_pos d.symm,cC,cG,decide_eq_true (by omega:(toE E j).toNat=b),eP]
   ·have:=f.2 ⟨j,by omega,d,l⟩;split
    ·rw[cC,this,eN]
    ·exact this
theorem j5t {E:List Edge} {n:Nat} (a:Nat):∀i,(∀j,j<i->0<=toE E j/\toE E j<n)->toW E i a<2^n
 | 0,_=>cj n
 | i+1,h=>by
  have c:=j5t a i (λj d=>h j (by omega));have b:=h i (by omega);simp[toW];split
  ·exact cQ c (cR (by decide) (by omega))
  omega
end

section
open Go Go.Abs

theorem q15 {N:List B5} {E:List Edge} {i:Nat} (h:F5 N E i=0):0<=frE E i/\frE E i<N.length/\0<=toE E i/\toE E i<N.length/\0<=poE E i/\poE E i<H5 (N.getD (toE E i).toNat v0)/\q2x E i=false /\
  q0i (N.getD (frE E i).toNat v0)=(N.getD (toE E i).toNat v0).2.1:=by
 unfold F5 at h;split at h
 ·cases h
 ·rename_i h1;split at h
  ·cases h
  ·rename_i h2;split at h
   ·cases h
   ·rename_i h3;split at h
    ·rename_i h4;exact⟨by omega,by omega,by omega,by omega,by omega,by omega,by simpa using h3,h4⟩
    ·cases h
def q64 (N:List B5) (E:List Edge) (i:Nat):Option (List Int×(Int×Int×Unit)×List ((Int×(Int×Unit))×Int)×Unit) :=
 if F5 N E i=0 then none else some (cl (tab N.length (toW E i)),(F5 N E i,(i:Int),()),R3 E i,())
theorem v2p {N:List B5} {E:List Edge} (hn:N.length<=12) (hN:N.all D5=true) (hE:E.length<=20) :
  A1 (q8r ((N,E,()),())) ((0:Int),cl (tab N.length λ_=>0),((0:Int),(0:Int),()),([]:List ((Int×(Int×Unit))×Int)),()) =
   some (O1 ((List.range E.length).findSome? (q64 N E)) (.inl (cl (tab N.length (toW E E.length)),((0:Int),(0:Int),()),R3 E E.length,()))):=by
 refine v6s (f:=q8r ((N,E,()),())) E.length (λi=>((i:Int),cl (tab N.length (toW E i)),((0:Int),(0:Int),()),R3 E i,())) (q64 N E) _ (λi hi hprev=>?_) (λ_=>?_)
 ·have hok:∀j,j<i->F5 N E j=0:=λj hj=>by
   have:=hprev j hj;unfold q64 at this;split at this
   ·assumption
   ·cases this
  have hw:∀a,toW E i a<2^32:=λa=>bc (j5t a i λj hj=>⟨(q15 (hok j hj)).2.2.1,(q15 (hok j hj)).2.2.2.1⟩) (bX (by decide) (by omega));unfold q8r q64 F5;simp (disch:=omega) only [dcT,cond_true,K7 e0 (aZ i) (show(i:Int)<(E.length:Int)by omega),ah,aa];show(cond (decide ((if toE E i<frE E i then toE E i else frE E i)<0)) _ (cond (decide ((if toE E i>frE E i then toE E i else frE E i)≥(N.length:Int))) _ (cond (decide (poE E i<0)) _ ((A5 N (toE E i)).bind _))))=_
  by_cases h1:(if toE E i<frE E i then toE E i else frE E i)<0
  ·have hy:frE E i<0\/(N.length:Int)<=frE E i\/toE E i<0\/(N.length:Int)<=toE E i:=by split at h1<;>omega
   rw[dcT h1,cond_true,if_pos hy];rfl
  by_cases h2:(if toE E i>frE E i then toE E i else frE E i)≥(N.length:Int)
  ·have hy:frE E i<0\/(N.length:Int)<=frE E i\/toE E i<0\/(N.length:Int)<=toE E i:=by split at h2<;>omega
   rw[dcF h1,cond_false,dcT h2,cond_true,if_pos hy];rfl
  have hno:¬(frE E i<0\/(N.length:Int)<=frE E i\/toE E i<0\/(N.length:Int)<=toE E i):=by
   split at h1<;>split at h2<;>omega
  have f0:0<=frE E i:=by omega
  have f1:frE E i<N.length:=by omega
  have t0:0<=toE E i:=by omega
  have t1:toE E i<N.length:=by omega
  rw[dcF h1,cond_false,dcF h2,cond_false];simp only[if_neg hno];by_cases h5:poE E i<0
  ·have hy:poE E i<0\/H5 (N.getD (toE E i).toNat v0)<=poE E i:=.inl h5;rw[dcT h5,cond_true];simp only[if_pos hy];rfl
  have hto:=K7 (l:=N) v0 t0 t1;rw[dcF h5,cond_false,hto,aa,y08,aa];show(cond (decide (poE E i≥H5 (N.getD (toE E i).toNat v0))) _ _)=_;by_cases h6:poE E i≥H5 (N.getD (toE E i).toNat v0)
  ·have hy:poE E i<0\/H5 (N.getD (toE E i).toNat v0)<=poE E i:=.inr h6;rw[dcT h6,cond_true];simp only[if_pos hy];rfl
  have hno2:¬(poE E i<0\/H5 (N.getD (toE E i).toNat v0)<=poE E i):=by omega
  rw[dcF h6,cond_false];simp only[if_neg hno2];have htk:(D2 tkT (R3 E i) (toE E i,poE E i,())).isSome=q2x E i:=j5o E _ _ i;show(cond (D2 tkT (R3 E i) (toE E i,poE E i,())).isSome _ _)=_;rw[htk];cases h7:q2x E i with
  | true=>rfl
  | false =>
   rw[cond_false];simp only[if_neg (show ¬(false=true)by simp)];have hfr:=K7 (l:=N) v0 f0 f1;show((A5 N (frE E i)).bind _)=_;rw[hfr,aa,v5f (j3d hN f0 f1),aa];show((A5 N (toE E i)).bind _)=_;rw[hto,aa];show(cond (q0i (N.getD (frE E i).toNat v0) != (N.getD (toE E i).toNat v0).2.1) _ _)=_;rw[O0];by_cases h8:q0i (N.getD (frE E i).toNat v0)=(N.getD (toE E i).toNat v0).2.1
   ·rw[if_pos h8];simp only[if_pos h8];obtain⟨a,ha⟩:=bL f0;obtain⟨b,hb⟩:=bL t0;have han:a<N.length:=by omega
    have hbn:b<N.length:=by omega
    have ha':(E.getD i e0).1=(a:Int):=ha;have hb':(E.getD i e0).2.1=(b:Int):=hb;have hg:(cl (tab N.length (toW E i)))[a]? = some ((toW E i a:Nat):Int):=by
     rw[z4l (by rw[P4];exact han),z4k han]
    simp (disch:=omega) only [ha',hb',z5i,P4,C3 han,cond_true,ah,hg,aa,j4q (show b<32 by omega),q9r (hw a) (j5x (show b<32 by omega)),v32,q1v,B2];have ht:(tab N.length λj=>if j=a then toW E i a ||| 2^b else toW E i j)=tab N.length (toW E (i+1)):=M3 λj hj=>?_
    ·rw[ht];show some (Sum.inl (((i+1:Nat):Int),cl (tab N.length (toW E (i+1))),((0:Int),(0:Int),()),C9 tkT (R3 E i) ((b:Int),poE E i,()) (i:Int),()))=some (Sum.inl (((i+1:Nat):Int),cl (tab N.length (toW E (i+1))),((0:Int),(0:Int),()),C9 tkT (R3 E i) (toE E i,poE E i,()) (i:Int),()));rw[hb]
    simp only[toW];by_cases hja:j=a
    ·subst hja;rw[if_pos rfl,if_pos ha.symm,hb];rfl
    ·rw[if_neg hja,if_neg (by omega)]
   ·rw[if_neg h8];simp only[if_neg h8];rfl
 ·unfold q8r;simp (disch:=omega) only [dcF,cond_false]
end

section
open Go Go.Abs

theorem y3j (v:B5):H5 v=0\/H5 v=1\/H5 v=2:=by
 grind[H5]
theorem v9q (v:B5):0<=H5 v/\H5 v<=2:=by grind[y3j]
def q8y (E:List Edge) (t p:Int):Bool:=(List.range E.length).any λj=>toE E j==t&&poE E j==p
def X8 (N:List B5) (E:List Edge) (i:Nat):Bool:=(List.range (H5 (N.getD i v0)).toNat).any λp=>!q8y E i p
theorem v2q (N:List B5) (E:List Edge) (a:List Int) (b:Int×Int×Unit) (i:Nat) (y:Int×Int×Unit) :
  A1 (q8s (H5 (N.getD i v0),()) (a,b,R3 E E.length,()) ((i:Int),y,())) ((0:Int),((0:Int),(0:Int),()),())=some (if X8 N E i=true then .inl (((5:Int),(i:Int),()),())else .inr (.inl (((0:Int),(0:Int),()),()))):=by
 have e:0<=H5 (N.getD i v0)/\H5 (N.getD i v0)<=2:=v9q _;have h:=P5 (f:=q8s (H5 (N.getD i v0),()) (a,b,R3 E E.length,()) ((i:Int),y,())) (H5 (N.getD i v0)).toNat (λp=>((p:Int),((0:Int),(0:Int),()),())) (λp=>cond (!q8y E i p) (some (((5:Int),(i:Int),()),())) none) (.inl (((0:Int),(0:Int),()),())) (λp d=>by
  unfold q8s;simp (disch:=omega) only [dcT,cond_true];rw[B2 (by omega)];have c:(D2 tkT (R3 E E.length) ((i:Int),(p:Int),())).isSome=q8y E i p:=j5o E _ _ _;rw[c];cases q8y E i p<;>rfl) (by
  grind[q8s]) rfl
 grind[j9j,O1,X8]
theorem v2r {N:List B5} (E:List Edge) (d:N.length<=12) (a:List Int) (b:Int×Int×Unit) :
  A1 (q8t ((N,E,()),()) (a,b,R3 E E.length,())) ((0:Int),((0:Int),(0:Int),()),())=some (O1 ((List.range N.length).findSome? λi=>cond (X8 N E i) (some (((5:Int),(i:Int),()),())) none) (.inl (((0:Int),(0:Int),()),()))):=by
 refine P5 (f:=q8t ((N,E,()),()) (a,b,R3 E E.length,())) N.length (λi=>((i:Int),((0:Int),(0:Int),()),())) (λi=>cond (X8 N E i) (some (((5:Int),(i:Int),()),())) none) _ (λi c=>?_) ?_ rfl
 ·unfold q8t;simp (disch:=omega) only [dcT,cond_true,K7 v0 (aZ i) (show(i:Int)<(N.length:Int)by omega),ah,aa,y08,v2q];rw[B2 (by omega)];cases X8 N E i<;>rfl
 grind[q8t]
theorem j88 {p:Nat->Bool}:∀(m:Nat),(∀j k,j<m->k<m->p j=true->p k=true->j=k)->I1 m p=if(List.range m).any p=true then 1 else 0
 | 0,_=>rfl
 | m+1,h=>by
  have e:=j88 m (λj k b f=>h j k (by omega) (by omega));rw[cF,eU];simp only[I1,e,cJ,fC,ei];cases d:p m with
  | false=>simp
  | true =>
   have a:(List.range m).any p=false:=by
    rw[cE];intro j b c;have:=h j m (by have:=aL.1 b;omega) (by omega) c d;have:=aL.1 b;omega
   rw[a];simp
theorem j89 {p q r:Nat->Bool}:∀(m:Nat),(∀j,j<m->p j=(q j||r j)/\(q j&&r j)=false)->I1 m p=I1 m q+I1 m r
 | 0,_=>rfl
 | m+1,h=>by
  have e:=j89 m (λj f=>h j (by omega));obtain⟨b,a⟩:=h m (by omega);simp[I1,e,b];cases d:q m<;>cases c:r m<;>rw[d,c]at a<;>simp at a ⊢<;>omega
theorem v7l {N:List B5} {E:List Edge} (d:∀j,j<E.length->F5 N E j=0) (i:Nat) :
  decide (((I1 E.length λj=>toE E j==(i:Int):Nat):Int)<H5 (N.getD i v0))=X8 N E i:=by
 have c:∀j,j<E.length->toE E j=i->0<=poE E j/\poE E j<H5 (N.getD i v0):=λj e q=>by
  have h:=q15 (d j e);grind
 have a:∀t p:Int,∀j k,j<E.length->k<E.length->(toE E j==t&&poE E j==p)=true->(toE E k==t&&poE E k==p)=true->j=k:=λt p j k e g r o=>by
  simp[ac,beq_iff_eq]at r o;have n:∀j k,j<k->k<E.length->toE E j=toE E k->poE E j=poE E k->False:=λj k m g q b=>by
   have h:=(q15 (d k g)).2.2.2.2.2.2.1;grind[q2x]
  grind
 have f:∀p:Int,I1 E.length (λj=>toE E j==(i:Int)&&poE E j==p)=if q8y E i p=true then 1 else 0:=λp=>j88 _ (a i p)
 have b:H5 (N.getD i v0)=0\/H5 (N.getD i v0)=1\/H5 (N.getD i v0)=2:=y3j _;unfold X8;rcases b with b | b | b
 ·grind
 ·have:I1 E.length (λj=>toE E j==(i:Int))=I1 E.length λj=>toE E j==(i:Int)&&poE E j==0:=by
   grind[j86]
  grind
 ·rw[b]at c ⊢;have:I1 E.length (λj=>toE E j==(i:Int))=I1 E.length (λj=>toE E j==(i:Int)&&poE E j==0)+I1 E.length λj=>toE E j==(i:Int)&&poE E j==1:=by
   refine j89 _ λj e=>?_;grind
  rw[this,f 0,f 1];grind[List.range_succ]
end

section
open Go Go.Abs

def O7 (T:Nat->Nat) (w:Nat) (a b:Nat):Bool:=(T a).testBit b&&w.testBit b
def unN (T:Nat->Nat) (w v:Nat):Nat->Nat
 | 0=>0
 | r+1=>if v.testBit r=true then unN T w v r ||| (T r &&& w)else unN T w v r
theorem y8f (T:Nat->Nat) (w v b:Nat):∀r,(unN T w v r).testBit b=true↔∃j,j<r/\v.testBit j=true/\O7 T w j b=true
 | 0=>by simp[unN]
 | r+1=>by
  have d:=y8f T w v b r;simp[unN];constructor
  ·intro h;split at h
   ·rename_i g;rw[cC,bD,dg]at h;rcases h with h | h
    ·obtain⟨j,e,a⟩:=d.1 h;exact⟨j,by omega,a⟩
    ·exact⟨r,by omega,g,h⟩
   ·obtain⟨j,e,a⟩:=d.1 h;exact⟨j,by omega,a⟩
  ·rintro ⟨j,e,a,f⟩;by_cases i:j=r
   ·subst i;rw[if_pos a,cC,dg,bD];exact .inr f
   ·have:=d.2 ⟨j,by omega,a,f⟩;split
    ·rw[cC,this,eN]
    ·exact this
theorem z9g {T:Nat->Nat} {w v n:Nat} (a:w<2^n):∀r,unN T w v r<2^n
 | 0=>cj n
 | r+1=>by
  simp[unN];split
  ·exact cQ (z9g a r) (cZ eJ a)
  ·exact z9g a r
variable {n:Nat}
theorem S2 {a:Nat} (b:n<=12) (h:a<2^n):a<2^32:=bc h (bX (by decide) (by omega))
variable {T:Nat->Nat} {w:Nat}
theorem v2t (c:n<=12) (i:∀a,T a<2^n) {v:Nat} (d:w<2^n) (j:v<2^n) (b:Int×Int×Unit) :
  A1 (q8u (b,cl (tab n T),()) (((w:Int),()),())) ((v:Int),((0:Int),()),())=some (.inl ((((unN T w v n:Nat):Int),()),())):=by
 refine j3a (f:=q8u (b,cl (tab n T),()) (((w:Int),()),())) n (λr=>((((unN T w v r:Nat):Int),()),())) _ j (by omega) (λr q g h e=>?_) (λr e h=>?_) ?_
 ·unfold q8u;simp only[j3l r q,cond_true,z9f g,aa,z5i,P4,C3 e,ah];rw[z4l (by grind[P4]),z4k e,aa,z3n g,z3c (S2 c (i r)) (S2 c d),q9r (S2 c (z9g d r)) (S2 c (cZ eJ d))];grind[unN]
 all_goals grind[unN,q8u]
theorem j87 {p q:Nat->Bool}:∀(m:Nat),(∀j,j<m->p j=true->q j=true)->I1 m p<=I1 m q
 | 0,_=>ax _
 | m+1,h=>by
  have a:=j87 m (λj b=>h j (by omega));grind[I1]
theorem j0m {p q:Nat->Bool}:∀(m:Nat),(∀j,j<m->p j=true->q j=true)->(∃j,j<m/\p j=false/\q j=true)->I1 m p<I1 m q
 | 0,_,⟨_,h,_⟩=>by omega
 | m+1,h,⟨j,a,d,b⟩=>by
  have e:=j87 m (λj a=>h j (by omega));simp[I1];by_cases c:j=m
  ·grind
  ·have:=j0m m (λj a=>h j (by omega)) ⟨j,by omega,d,b⟩;grind
noncomputable def W8 (T:Nat->Nat) (w n i:Nat):Nat:=R4 n λj=>@decide (Way (O7 T w) i j) (Classical.propDecidable _)
theorem q84 (T:Nat->Nat) (w n i:Nat):W8 T w n i<2^n:=j65 n _
theorem q83 {i j:Nat} (a:w<2^n):(W8 T w n i).testBit j=true↔Way (O7 T w) i j:=by
 unfold W8;rw[y8r,ac,decide_eq_true_eq];refine⟨λh=>@of_decide_eq_true _ (Classical.propDecidable _) h.2,λh=>⟨?_,@decide_eq_true _ (Classical.propDecidable _) h⟩⟩;cases h with
 | one h=>exact q22 a (cn.1 h).2
 | more _ h=>exact q22 a (cn.1 h).2
theorem v2u (H:n<=12) (N:∀a,T a<2^n) (o:w<2^n) (b:Int×Int×Unit) (i:Nat):∀(k all e:Nat),all<2^n->e<2^n->n<=I1 n (λj=>all.testBit j)+k ->
  (∀j,all.testBit j=true\/e.testBit j=true->Way (O7 T w) i j)->(∀j,O7 T w i j=true->all.testBit j=true\/e.testBit j=true) ->
  (∀a j,all.testBit a=true->O7 T w a j=true->all.testBit j=true\/e.testBit j=true)->(∀j,e.testBit j=true->all.testBit j=false) ->
  A1 (q3h (b,cl (tab n T),()) (((w:Int),()),())) ((all:Int),(e:Int),())=some (.inl (((W8 T w n i:Nat):Int),())):=by
 intro k
 induction k with
 | zero =>
  intro all e t g K x Q J C;have u:e=0:=by
   refine j66 (k:=n) g (cj n) λj f=>?_;rw[Nat.zero_testBit];cases I:e.testBit j with
   | false=>rfl
   | true =>
    exfalso;have O:=C j I;have S:=j0m (p:=λj=>all.testBit j) (q:=λ_=>true) n (λ_ _ _=>rfl) ⟨j,f,O,rfl⟩;grind[j0l]
  subst u;refine D9 ?_;unfold q3h;show some (Sum.inr (Sum.inl ((all:Int),())))=_;have:all=W8 T w n i:=by
   refine j66 (k:=n) t (q84 T w n i) λj f=>?_;rw[ci,q83 o];refine⟨λh=>x j (.inl h),λh=>?_⟩
   induction h with
   | one h=>grind
   | more _ h A =>
    have z:∀{c d},O7 T w c d=true->d<n:=λh=>q22 o (cn.1 h).2;rename_i c d l;have R:c<n:=by
     cases l with
     | one h=>grind
     | more _ h=>grind
    grind
  grind
 | succ k A =>
  intro all e t g K x Q J C;by_cases u:e=0
  ·subst u;refine D9 ?_;unfold q3h;show some (Sum.inr (Sum.inl ((all:Int),())))=_;have:all=W8 T w n i:=by
    refine j66 (k:=n) t (q84 T w n i) λj f=>?_;rw[ci,q83 o];refine⟨λh=>x j (.inl h),λh=>?_⟩
    induction h with
    | one h=>grind
    | more _ h A =>
     have z:∀{c d},O7 T w c d=true->d<n:=λh=>q22 o (cn.1 h).2;rename_i c d l;have R:c<n:=by
      cases l with
      | one h=>grind
      | more _ h=>grind
     grind
   grind
  ·have D:all ||| e<2^n:=cQ t g;have y:=z9g (T:=T) (v:=e) o n;have m:q3h (b,cl (tab n T),()) (((w:Int),()),()) ((all:Int),(e:Int),())=some (.inl (((all ||| e:Nat):Int),((dif (unN T w e n) (all ||| e):Nat):Int),())):=by
    unfold q3h;have B:((e:Int) != 0)=true:=by grind
    simp[B,cond_true,q7w (z5m (S2 H g)),v2t H N o g,aa,am];grind[q9r,S2,v7z]
   rw[H4 m];have r:∀j,(all ||| e).testBit j=true↔all.testBit j=true\/e.testBit j=true:=λj=>by grind
   have s:∀j,(unN T w e n).testBit j=true↔∃a,e.testBit a=true/\O7 T w a j=true:=λj=>by
    rw[y8f];exact⟨λ⟨a,_,h⟩=>⟨a,h⟩,λ⟨a,h⟩=>⟨a,q22 g h.1,h⟩⟩
   have G:∀j,(dif (unN T w e n) (all ||| e)).testBit j=true↔(unN T w e n).testBit j=true/\(all ||| e).testBit j=false:=λj=>by grind[j8j]
   refine A (all ||| e) _ D (j8k y) ?_ (λj f=>?_) (λj f=>?_) (λa j M U=>?_) (λj f=>((G j).1 f).2)
   ·obtain⟨j,f⟩:=Nat.exists_testBit_of_ne_zero u;have:=j0m (p:=λj=>all.testBit j) (q:=λj=>(all ||| e).testBit j) n (λj _ h=>(r j).2 (.inl h)) ⟨j,q22 g f,C j f,(r j).2 (.inr f)⟩;omega
   ·rcases f with f | f
    ·grind
    ·obtain⟨a,E,F⟩:=(s j).1 ((G j).1 f).1;exact .more (x a (.inr E)) F
   all_goals grind
theorem j7v (e:n<=12) (g:∀a,T a<2^n) (d:w<2^n) (b:Int×Int×Unit) (i:Nat) :
  A1 (q3h (b,cl (tab n T),()) (((w:Int),()),())) ((0:Int),((T i &&& w:Nat):Int),())=some (.inl (((W8 T w n i:Nat):Int),())):=by
 have f:T i &&& w<2^n:=cZ eJ d;refine v2u e g d b i n 0 (T i &&& w) (cj n) f (by omega) (λj c=>?_) (λj c=>?_) (λa j h=>by grind) (λj _=>Nat.zero_testBit j)
 ·rcases c with c | c
  ·grind
  ·rw[dg]at c;exact .one c
 ·exact .inr (by rw[dg];exact c)
theorem v6d:y07=q3h:=rfl
end

section
open Go Go.Abs

def W7 (p:Nat->Bool) (v b0:Nat):Nat->Nat
 | 0=>b0
 | r+1=>if v.testBit r=true/\p r=true then W7 p v b0 r ||| 2^r else W7 p v b0 r
theorem z32 {p:Nat->Bool} {v b0 n:Nat} (a:b0<2^n):∀r,r<=n->W7 p v b0 r<2^n
 | 0,_=>a
 | r+1,b=>by
  simp[W7];split
  ·exact cQ (z32 a r (by omega)) (cR (by decide) (by omega))
  ·exact z32 a r (by omega)
theorem j6n {p:Nat->Bool} {v b0 j:Nat}:∀r,(W7 p v b0 r).testBit j=true↔b0.testBit j=true\/(j<r/\v.testBit j=true/\p j=true)
 | 0=>by simp[W7]
 | r+1=>by
  have c:=j6n (p:=p) (v:=v) (b0:=b0) (j:=j) r;simp[W7];by_cases h:v.testBit r=true/\p r=true
  ·rw[if_pos h,cC,bD,c,cG,decide_eq_true_eq];constructor
   ·rintro ((a | ⟨a,b⟩) | rfl)
    ·exact .inl a
    ·exact .inr ⟨by omega,b⟩
    ·exact .inr ⟨by omega,h⟩
   ·rintro (a | ⟨a,b⟩)
    ·exact .inl (.inl a)
    ·by_cases d:r=j
     ·exact .inr d
     ·exact .inl (.inr ⟨by omega,b⟩)
  ·rw[if_neg h,c];constructor
   ·rintro (a | ⟨a,b⟩)
    ·exact .inl a
    ·exact .inr ⟨by omega,b⟩
   ·rintro (a | ⟨a,b⟩)
    ·exact .inl a
    ·refine .inr ⟨?_,b⟩;have:j≠r:=λe=>h (e▸b);omega
variable {v:Nat} {b0:Nat} {w:Nat}
section
variable {n:Nat} {T:Nat->Nat}
theorem v2l (c:n<=12) (k:∀a,T a<2^n) (g:w<2^n) (b:Int×Int×Unit) {i:Nat} (m:v<2^n) (e:b0<2^n) :
  A1 (q8p (b,cl (tab n T),()) (((w:Int),()),()) ((i:Int),())) ((v:Int),((b0:Int),()),())=some (.inl ((((W7 (λj=>(W8 T w n j).testBit i) v b0 n:Nat):Int),()),())):=by
 refine j3a (f:=q8p (b,cl (tab n T),()) (((w:Int),()),()) ((i:Int),())) n (λr=>((((W7 (λj=>(W8 T w n j).testBit i) v b0 r:Nat):Int),()),())) _ m (by omega) (λr q h l d=>?_) (λr d l=>?_) ?_
 ·unfold q8p;simp only[j3l r q,cond_true,z9f h,aa,z5i,P4,C3 d,ah];rw[z4l (by grind[P4]),z4k d,aa,z3c (S2 c (k r)) (S2 c g),v6d,j7v c k g,aa,am,k38 i (S2 c (q84 T w n r)),aa];simp only[z3n h,W7,l,true_and];cases o:(W8 T w n r).testBit i with
  | false=>simp
  | true =>
   simp only[cond_true,j4q (show r<32 by omega),aa,if_true];rw[q9r (S2 c (z32 e r (by omega))) (j5x (by omega))]
 all_goals grind[W7,q8p]
noncomputable def V8 (T:Nat->Nat) (w n:Nat) (D:Nat->Bool) (b0:Nat):Nat->Nat
 | 0=>b0
 | i+1=>if w.testBit i=true/\D i=true then W7 (λj=>(W8 T w n j).testBit i) (W8 T w n i) (V8 T w n D b0 i) n else V8 T w n D b0 i
theorem z85 {w:Nat} {D:Nat->Bool} {b0:Nat} (a:b0<2^n):∀i,V8 T w n D b0 i<2^n
 | 0=>a
 | i+1=>by
  simp[V8];split
  ·exact z32 (z85 a i) n (ax _)
  ·exact z85 a i
theorem y4m {w:Nat} {D:Nat->Bool} {b0 j:Nat} (g:w<2^n):∀m,(V8 T w n D b0 m).testBit j=true↔b0.testBit j=true\/∃i,i<m/\w.testBit i=true/\D i=true/\Way (O7 T w) i j/\Way (O7 T w) j i
 | 0=>by simp[V8]
 | i+1=>by
  have k:=y4m (D:=D) (b0:=b0) (j:=j) g i;simp[V8];by_cases h:w.testBit i=true/\D i=true
  ·rw[if_pos h,j6n,k,q83 g,q83 g];constructor
   ·rintro ((b | ⟨a,b,c⟩) | ⟨b,c,d⟩)
    ·exact .inl b
    ·exact .inr ⟨a,by omega,c⟩
    ·exact .inr ⟨i,by omega,h.1,h.2,c,d⟩
   ·rintro (b | ⟨a,b,c,d,f,l⟩)
    ·exact .inl (.inl b)
    ·by_cases o:a=i
     ·subst o;exact .inr ⟨q22 (q84 T w n a) ((q83 g).2 f),f,l⟩
     ·exact .inl (.inr ⟨a,by omega,c,d,f,l⟩)
  ·rw[if_neg h,k];constructor
   ·rintro (b | ⟨a,b,c⟩)
    ·exact .inl b
    ·exact .inr ⟨a,by omega,c⟩
   ·rintro (b | ⟨a,b,c,d,f⟩)
    ·exact .inl b
    ·have:a≠i:=λe=>h (e▸⟨c,d⟩);exact .inr ⟨a,by omega,c,d,f⟩
end
def L6 (N:List B5) (i:Nat):Int:=(N.getD i v0).2.1
def j2z (N:List B5) (i:Nat):Int:=(N.getD i v0).1
variable {N:List B5}
theorem v2m (E:List Edge) (c:N.length<=12) {T:Nat->Nat} (h:∀a,T a<2^N.length) (e:w<2^N.length) (b:Int×Int×Unit) (f:Int) (y:(Int×Unit)×Unit) (g:b0<2^N.length) :
  A1 (q8q ((N,E,()),()) ((f,()),y) (b,cl (tab N.length T),()) (((w:Int),()),())) ((w:Int),((b0:Int),()),())=some (.inl ((((V8 T w N.length (λi=>L6 N i==f) b0 N.length:Nat):Int),()),())):=by
 refine j3a (f:=q8q ((N,E,()),()) ((f,()),y) (b,cl (tab N.length T),()) (((w:Int),()),())) N.length (λr=>((((V8 T w N.length (λi=>L6 N i==f) b0 r:Nat):Int),()),())) _ e (by omega) (λr q k l j=>?_) (λr j l=>?_) ?_
 ·unfold q8q;simp only[j3l r q,cond_true,z9f k,aa,K7 v0 (aZ r) (show(r:Int)<(N.length:Int)by omega),ah];show(cond (L6 N r != f) _ _)=_;rw[O0];by_cases m:L6 N r=f
  ·simp only[z5i,P4,C3 j,cond_true];have d:=q84 T w N.length r;rw[z4l (by grind[P4]),z4k j,aa,z3c (S2 c (h r)) (S2 c e),j7v c h e,aa,am,q7w (z5m (S2 c d)),v2l c h e b d (z85 g r),aa,am,aa,am,z3n k];grind[V8]
  grind[z3n,V8]
 all_goals grind[V8,q8q]
def K9 (N:List B5) (f:Nat) (i:Nat):Bool:=decide ((f:Int)<L6 N i)||(L6 N i==(f:Int)&&j2z N i != 6)
def P3 (N:List B5) (f:Nat):Nat:=R4 N.length (K9 N f)
theorem v2s (E:List Edge) (c:N.length<=12) (f:Nat) (y:(Int×Unit)×Unit) :
  A1 (z4s ((N,E,()),()) (((f:Int),()),y)) ((0:Int),((0:Int),()),())=some (.inl ((((P3 N f:Nat):Int),()),())):=by
 refine D3 N.length (λi=>((i:Int),((((R4 i (K9 N f):Nat):Int)),()),())) _ (λi b=>?_) ?_ rfl
 ·unfold z4s;have a:R4 i (K9 N f)<2^32:=k4w _ (by omega);simp (disch:=omega) only [dcT,cond_true,K7 v0 (aZ i) (show(i:Int)<(N.length:Int)by omega),ah,aa,j4q (show i<32 by omega),q9r a (j5x (show i<32 by omega)),B2,k4x];grind[L6,j2z,K9]
 ·unfold z4s;simp (disch:=omega) only [dcF,cond_false];rfl
noncomputable def q21 (N:List B5) (T:Nat->Nat):Nat->Nat
 | 0=>0
 | f+1=>V8 T (P3 N (f+1)) N.length (λi=>L6 N i==((f+1:Nat):Int)) (q21 N T f) N.length
theorem j2n (N:List B5) (f:Nat):P3 N f<2^N.length:=j65 _ _
theorem j04 (N:List B5) (T:Nat->Nat):∀f,q21 N T f<2^N.length
 | 0=>cj _
 | f+1=>z85 (j04 N T f) _
theorem j7d (N:List B5) (T:Nat->Nat) (j:Nat):∀m,(q21 N T m).testBit j=true↔∃f i,1<=f/\f<=m/\i<N.length/\(P3 N f).testBit i=true/\L6 N i=(f:Int)/\Way (O7 T (P3 N f)) i j/\Way (O7 T (P3 N f)) j i
 | 0=>by grind[q21]
 | m+1=>by
  simp only[q21];rw[y4m (j2n N (m+1)),j7d N T j m];constructor
  ·rintro (⟨f,i,a,c,h⟩ | ⟨i,a,c,b,h⟩)
   ·exact⟨f,i,a,by omega,h⟩
   ·exact⟨m+1,i,by omega,by omega,a,c,by simpa using b,h⟩
  ·rintro ⟨f,i,a,c,b,e,d,h⟩;by_cases g:f=m+1
   ·subst g;exact .inr ⟨i,b,e,by simpa using d,h⟩
   ·exact .inl ⟨f,i,a,by omega,b,e,d,h⟩
theorem v2n (E:List Edge) (c:N.length<=12) {T:Nat->Nat} (d:∀a,T a<2^N.length) (b:Int×Int×Unit) :
  A1 (j2c ((N,E,()),()) (b,cl (tab N.length T),())) (((1:Int),()),((0:Int),()),())=some (.inl ((((q21 N T 4:Nat):Int),()),())):=by
 refine D3 4 (λf=>((((f+1:Nat):Int),()),((((q21 N T f:Nat):Int)),()),())) _ (λf e=>?_) ?_ rfl
 ·unfold j2c;simp (disch:=omega) only [dcT,cond_true,v2s E c (f+1),aa,am,q7w (z5m (S2 c (j2n N (f+1))))];rw[v2m E c d (j2n N (f+1)) b _ _ (j04 N T f),aa,am,aa,am,B2 (by omega)];rfl
 rfl
theorem v2o {n:Nat} (d:n<=12) (a:v<2^n):A1 z4r ((v:Int),((0:Int),()),())=some (((List.range n).findSome? λj=>if v.testBit j=true then some (Sum.inl (((j:Int),()),()))else none).getD (.inr (.inl (((0:Int),()),())))):=by
 refine v6r (f:=z4r) n (λ_=>(((0:Int),()),())) (λj=>some (Sum.inl (((j:Int),()),()))) _ a (by omega) (λr q e b c=>?_) (λ_ _ _=>rfl) ?_
 all_goals grind[z4r,z9f]
end

section
open Go Go.Abs

def edM (N:List B5) (E:List Edge) (f k:Nat) (a b:Nat):Bool:=K9 N f a&&K9 N f b&&(List.range k).any λj=>frE E j==(a:Int)&&toE E j==(b:Int)
def sqT (n:Nat) (w:Nat->Nat->Bool):List Bool:=tab (n*n) λy=>w (y / n) (y % n)
variable {n:Nat} {i:Nat} {j:Nat}
theorem y7d (a:j<n):(i*n+j) / n=i:=by grind[Nat.mul_comm,Nat.mul_add_div,Nat.div_eq_of_lt]
theorem y7e (a:j<n):(i*n+j) % n=j:=by grind[Nat.mul_comm,Nat.mul_add_mod,Nat.mod_eq_of_lt]
variable {w:Nat->Nat->Bool}
theorem j59 (hi:i<n) (a:j<n):(sqT n w)[i*n+j]? = some (w i j):=by
 grind[sqT,H7,q5i,y7d,y7e]
theorem k3k:(sqT n w).length=n*n:=E8 _ _
theorem k3l (a:n<=12):IntKind.i64.wrap ((n:Int)*(n:Int))=((n*n:Nat):Int):=by
 have h:n*n<=12*12:=du a a;grind[F6]
theorem y4p (h:n<=1000000):A8 n 1=true:=by
 grind[A8,Nat.ble_eq_true_of_le]
variable {k:Nat}
section
variable {N:List B5} {E:List Edge}
theorem v3f (h:N.length<=12) (f:Nat):A1 (z7s ((N,E,()),(f:Int),())) ((0:Int),List.replicate N.length false,())=some (.inl (tab N.length (K9 N f),())):=by
 have e:List.replicate N.length false=tab N.length λj=>if j<0 then K9 N f j else false:=by grind[q0o]
 rw[e];have a:(tab N.length λj=>if j<N.length then K9 N f j else false)=tab N.length (K9 N f):=M3 λj k=>by grind
 refine D3 N.length (λi=>((i:Int),(tab N.length λj=>if j<i then K9 N f j else false),())) _ (λi c=>?_) ?_ rfl
 ·unfold z7s;have d:∀b:Bool,b=K9 N f i->(tab N.length λj=>if j<i then K9 N f j else false).set i b=tab N.length λj=>if j<i+1 then K9 N f j else false:=λb g=>by
   rw[q1v];grind
  simp (disch:=omega) only [dcT,cond_true,K7 v0 (aZ i) (show(i:Int)<(N.length:Int)by omega),ah,aa,P4,C3 c,H7 _ c,B2];grind[L6,K9,j2z]
 grind[z7s]
theorem v3g (t:N.length<=12) (u:E.length<=20) (e:∀j,j<E.length->F5 N E j=0) (f:Nat) :
  A1 (z7t ((N,E,()),(f:Int),()) (tab N.length (K9 N f),())) ((0:Int),List.replicate (N.length*N.length) false,())=some (.inl (sqT N.length (edM N E f E.length),())):=by
 have s:List.replicate (N.length*N.length) false=sqT N.length (edM N E f 0):=by
  rw[q0o];exact M3 λj _=>by simp[edM]
 rw[s];refine D3 E.length (λi=>((i:Int),sqT N.length (edM N E f i),())) _ (λi r=>?_) ?_ rfl
 ·have m:=q15 (e i r);obtain⟨a,q⟩:=bL m.1;obtain⟨b,o⟩:=bL m.2.2.1;have c:a<N.length:=by omega
  have d:b<N.length:=by omega
  have k:(E.getD i e0).1=(a:Int):=q;have g:(E.getD i e0).2.1=(b:Int):=o;have l:(K9 N f a&&K9 N f b)=false->sqT N.length (edM N E f i)=sqT N.length (edM N E f (i+1)):=λh=>M3 λy _=>by
   unfold edM;grind
  have n:(K9 N f a&&K9 N f b)=true->(sqT N.length (edM N E f i)).set (a*N.length+b) true=sqT N.length (edM N E f (i+1)):=λh=>by
   unfold sqT;rw[q1v];refine M3 λy v=>?_;unfold edM;by_cases p:y=a*N.length+b
   ·grind[y7d,y7e]
   grind[Nat.div_add_mod]
  unfold z7t;simp (disch:=omega) only [dcT,cond_true,K7 e0 (aZ i) (show(i:Int)<(E.length:Int)by omega),ah,aa,k,g,P4,C3 c,C3 d,H7 _ c,H7 _ d,q7k (show N.length<=64 by omega) c d,k3k,C3 (q5i c d),j59 c d,B2];grind
 grind[z7t]
def fwL (w:Nat->Nat->Bool) (n k x:Nat):List Bool:=tab (n*n) (V0 w n k x)
theorem v58 {x:Nat}:(fwL w n k x).length=n*n:=E8 _ _
theorem j25 {x:Nat} (hi:i<n) (a:j<n):(fwL w n k x)[i*n+j]? = some (V0 w n k x (i*n+j)):=H7 _ (q5i hi a)
theorem v59 (w:Nat->Nat->Bool) (n k:Nat):sqT n w=fwL w n k 0:=M3 λy _=>by rfl
theorem v54 (w:Nat->Nat->Bool) (n k:Nat):fwL w n k (n*n)=sqT n (fwR w k):=M3 λy a=>by grind[V0]
theorem v3h (n:N.length<=12) (f:Nat) (w:Nat->Nat->Bool) (d:k<N.length) (hi:i<N.length) (m l:List Bool×Unit) :
  A1 (z7u ((N,E,()),(f:Int),()) ((i:Int),m) ((k:Int),l)) ((0:Int),fwL w N.length k (i*N.length),())=some (.inl (fwL w N.length k ((i+1)*N.length),())):=by
 refine D3 N.length (λj=>((j:Int),fwL w N.length k (i*N.length+j),())) _ (λj c=>?_) ?_ rfl
 ·have a:N.length<=64:=by omega
  have g:∀b:Bool,b=fwR w k i j->(fwL w N.length k (i*N.length+j)).set (i*N.length+j) b=fwL w N.length k (i*N.length+(j+1)):=λb o=>by
   grind[fwL,q1v,M3,j9r]
  have e:w i j=fwR w k i j->fwL w N.length k (i*N.length+j)=fwL w N.length k (i*N.length+(j+1)):=λh=>M3 λy _=>by
   grind[j9r,v4y]
  unfold z7u;simp (disch:=omega) only [dcT,cond_true,q7k a hi d,q7k a d c,q7k a hi c,v58,C3 (q5i hi d),C3 (q5i d c),C3 (q5i hi c),ah,j25 hi d,j25 d c,j25 hi c,v4x d,v4z c,aa,B2];grind[fwR]
 grind[z7u]
theorem v3i (b:N.length<=12) (f:Nat) (w:Nat->Nat->Bool) (a:k<N.length) (y:List Bool×Unit) :
  A1 (j4c ((N,E,()),(f:Int),()) ((k:Int),y)) ((0:Int),sqT N.length w,())=some (.inl (sqT N.length (fwR w k),())):=by
 rw[v59 w N.length k,<-v54];refine D3 N.length (λi=>((i:Int),fwL w N.length k (i*N.length),())) _ (λi c=>?_) ?_ (by simp)
 all_goals grind[j4c,v3h,B2]
theorem k0o (a:N.length<=12) (e:E.length<=20) (b:∀j,j<E.length->F5 N E j=0) (f:Nat) :
  z7r ((N,E,()),(f:Int),())=some (sqT N.length (fwN (edM N E f E.length) N.length),()):=by
 have d:N.length*N.length<=12*12:=du a a;unfold z7r;simp only[k3l a,ah];rw[dcT (show(0:Int)<=((N.length*N.length:Nat):Int)by omega),dcT (show((N.length*N.length:Nat):Int)<=((N.length*N.length:Nat):Int)by omega),y4p (by omega),dcT (show((N.length*N.length:Nat):Int)<=9223372036854775807 by omega),
  dcT (show(0:Int)<=(N.length:Int)by omega),dcT (show(N.length:Int)<=(N.length:Int)by omega),y4p (show N.length<=1000000 by omega),dcT (show(N.length:Int)<=9223372036854775807 by omega)]
 simp[aD,cond_true,v3f a f,aa,am,v3g a e b f];have g:A1 (z7v ((N,E,()),(f:Int),())) ((0:Int),sqT N.length (edM N E f E.length),())=some (.inl (sqT N.length (fwN (edM N E f E.length) N.length),())):=by
  refine D3 N.length (λk=>((k:Int),sqT N.length (fwN (edM N E f E.length) k),())) _ (λk c=>?_) ?_ rfl
  ·unfold z7v;simp (disch:=omega) only [dcT,cond_true,v3i a f _ c,aa,am,B2];rfl
  grind[z7v]
 grind
end
end

section
open Go Go.Abs

theorem v4m {p q:Nat->Bool} {n:Nat} (h:∀i,i<n->p i=q i):(List.range n).find? p=(List.range n).find? q:=by
 have b:∀l:List Nat,(∀i,i∈l->p i=q i)->l.find? p=l.find? q:=by
  intro l
  induction l with
  | nil=>grind
  | cons a r c =>
   grind
 grind
def q0q (N:List B5) (E:List Edge) (j:Nat):Bool:=(List.range N.length).any λi=>fwN (edM N E (L6 N i).toNat E.length) N.length j i&&fwN (edM N E (L6 N i).toNat E.length) N.length i j
variable {f:Nat} {a:Nat} {b:Nat} {j:Nat}
section
variable {N:List B5} {E:List Edge}
theorem edM_iff:edM N E f E.length a b=true↔K9 N f a=true/\K9 N f b=true/\∃j,j<E.length/\frE E j=a/\toE E j=b:=by
 grind[edM]
theorem q95 (f a:Nat):(P3 N f).testBit a=true↔a<N.length/\K9 N f a=true:=by
 grind[P3,y8r]
theorem q8b (c:∀j,j<E.length->F5 N E j=0) (h:edM N E f E.length a b=true):a<N.length/\b<N.length:=by
 obtain⟨_,_,j,d,i,g⟩:=edM_iff.1 h;have e:=q15 (c j d);omega
theorem j5e (c:∀j,j<E.length->F5 N E j=0):O7 (toW E E.length) (P3 N f) a b=true↔(∃j,j<E.length/\frE E j=a/\toE E j=b)/\(P3 N f).testBit b=true:=by
 unfold O7;rw[ac,y87 E a b E.length λj d=>(q15 (c j d)).2.2.1]
theorem y8n (b:∀j,j<E.length->F5 N E j=0) {i j:Nat} (h:Way (O7 (toW E E.length) (P3 N f)) i j):(P3 N f).testBit i=true->Way (edM N E f E.length) i j/\(P3 N f).testBit j=true:=by
 intro e
 induction h with
 | one h =>
  obtain⟨c,a⟩:=(j5e b).1 h;exact⟨.one (edM_iff.2 ⟨((q95 _ _).1 e).2,((q95 _ _).1 a).2,c⟩),a⟩
 | more _ a d =>
  obtain⟨c,a⟩:=(j5e b).1 a;exact⟨.more d.1 (edM_iff.2 ⟨((q95 _ _).1 d.2).2,((q95 _ _).1 a).2,c⟩),a⟩
theorem j8m (e:∀j,j<E.length->F5 N E j=0) {i j:Nat} (h:Way (edM N E f E.length) i j):Way (O7 (toW E E.length) (P3 N f)) i j/\(P3 N f).testBit i=true:=by
 have c:∀{a b},edM N E f E.length a b=true->O7 (toW E E.length) (P3 N f) a b=true/\(P3 N f).testBit a=true:=λ{a b} h=>by
  grind[q8b,edM_iff,j5e,q95]
 induction h with
 | one h=>exact⟨.one (c h).1,(c h).2⟩
 | more _ g d=>exact⟨.more d.1 (c g).1,d.2⟩
theorem k14 (g:N.all D5=true) (c:∀j,j<E.length->F5 N E j=0) (j:Nat):(q21 N (toW E E.length) 4).testBit j=q0q N E j:=by
 rw[ci,j7d];unfold q0q;rw[bQ];constructor
 ·rintro ⟨f,i,s,v,n,k,u,r,q⟩;have l:(L6 N i).toNat=f:=by omega
  have e:=y8n c r k;have o:=y8n c q e.2;refine⟨i,aL.2 n,?_⟩;rw[l,ac];exact⟨(z4i (λa b h=>q8b c h) _ _).2 o.1,(z4i (λa b h=>q8b c h) _ _).2 e.1⟩
 ·rintro ⟨i,d,h⟩;have d:=aL.1 d;rw[ac]at h;have p:=q3p (j3d g (aZ i) (by omega));have m:1<=L6 N i/\L6 N i<=4:=p;have w:=j8m c ((z4i (λa b h=>q8b c h) _ _).1 h.1);have t:=j8m c ((z4i (λa b h=>q8b c h) _ _).1 h.2);grind
def q5r (N:List B5) (E:List Edge):List (List Bool):=tab 4 λf=>sqT N.length (fwN (edM N E (f+1) E.length) N.length)
theorem k0r (b:N.length<=12) (z:Int×Int×Unit):A1 (z02 ((N,E,()),())) ((0:Int),z,())=some (O1 (((List.range N.length).find? λi=>!D5 (N.getD i v0)).map λi:Nat=>(((2:Int),(i:Int),()),())) (.inl (z,()))):=by
 rw[<-q29];refine P5 (f:=z02 ((N,E,()),())) N.length (λi=>((i:Int),z,())) _ _ (λi a=>?_) ?_ rfl
 ·unfold z02;simp (disch:=omega) only [dcT,cond_true,K7 v0 (aZ i) (show(i:Int)<(N.length:Int)by omega),ah,aa,k08];rw[B2 (by omega)];cases D5 (N.getD i v0)<;>rfl
 grind[z02]
theorem k0s (a:N.all D5=true) (c:E.length<=20) (z:Int×Int×Unit):A1 (z03 ((N,E,()),())) ((0:Int),z,())=some (O1 (((List.range E.length).find? λi=>F5 N E i != 0).map λi:Nat=>((F5 N E i,(i:Int),()),())) (.inl (z,()))):=by
 rw[<-q29];refine P5 (f:=z03 ((N,E,()),())) E.length (λi=>((i:Int),z,())) _ _ (λi b=>?_) ?_ rfl
 ·unfold z03;simp (disch:=omega) only [dcT,cond_true,k0q a c b,aa];rw[B2 (by omega)];cases F5 N E i != 0<;>rfl
 grind[z03]
theorem k0t (a:E.length<=20) (i:Nat) (z:(Int×Int×Unit)×Unit):A1 (z6n ((N,E,()),()) ((i:Int),z)) ((0:Int),(0:Int),())=some (.inl (((I1 E.length λj=>toE E j==(i:Int):Nat):Int),())):=by
 refine D3 E.length (λj=>(((I1 j λj=>toE E j==(i:Int):Nat):Int),(j:Int),())) _ (λj b=>?_) ?_ rfl
 ·unfold z6n;grind[j0l,toE,K7,Int.toNat_natCast,B2,I1]
 grind[z6n]
theorem k0u (c:N.length<=12) (b:E.length<=20) (a:∀j,j<E.length->F5 N E j=0) (z:Int×Int×Unit):A1 (z04 ((N,E,()),())) ((0:Int),z,())=some (O1 (((List.range N.length).find? λi=>X8 N E i).map λi:Nat=>(((5:Int),(i:Int),()),())) (.inl (z,()))):=by
 rw[<-q29];refine P5 (f:=z04 ((N,E,()),())) N.length (λi=>((i:Int),z,())) _ _ (λi d=>?_) ?_ rfl
 ·unfold z04;simp (disch:=omega) only [dcT,cond_true,k0t b i (z,()),am,K7 v0 (aZ i) (show(i:Int)<(N.length:Int)by omega),ah,aa,y42];rw[B2 (by omega),v7l a];cases X8 N E i<;>rfl
 grind[z04]
theorem k0v (b:N.length<=12) (d:E.length<=20) (a:∀j,j<E.length->F5 N E j=0):A1 (j47 ((N,E,()),())) (([]:List (List Bool)),(1:Int),())=some (.inl (q5r N E,())):=by
 refine D3 4 (λf=>(tab f λf=>sqT N.length (fwN (edM N E (f+1) E.length) N.length),((f+1:Nat):Int),())) _ (λf e=>?_) ?_ rfl
 ·unfold j47;simp (disch:=omega) only [dcT,cond_true,k0o b d a (f+1),aa,P4,ai,aq];have c:A8 (f+(0+1)) 24=true:=by
   grind[A8,Nat.ble_eq_true_of_le]
  rw[c,B2 (by omega),<-j5n];rfl
 rfl
theorem k0w (q:N.length<=12) (p:N.all D5=true) (c:j<N.length) (z w:Int×Int×Unit) :
  A1 (z05 ((N,E,()),()) (q5r N E,()) ((j:Int),z,())) ((0:Int),w,())=some (if q0q N E j=true then .inl (((9:Int),(j:Int),()),())else .inr (.inl (w,()))):=by
 have h:=P5 (f:=z05 ((N,E,()),()) (q5r N E,()) ((j:Int),z,())) N.length (λi=>((i:Int),w,())) (λi=>cond (fwN (edM N E (L6 N i).toNat E.length) N.length j i&&fwN (edM N E (L6 N i).toNat E.length) N.length i j) (some (((9:Int),(j:Int),()),())) none) (.inl (w,())) (λi d=>by
  have m:=q3p (j3d p (aZ i) (show(i:Int)<(N.length:Int)by omega));have l:1<=L6 N i/\L6 N i<=4:=m;obtain⟨f,r⟩:=bL (show 0<=L6 N i-1 by omega);have g:L6 N i=((f+1:Nat):Int):=by omega
  have e:(N.getD i v0).2.1=((f+1:Nat):Int):=g;have k:IntKind.i64.wrap (((f+1:Nat):Int)-1)=(f:Int):=by grind[F6]
  have b:f<4:=by omega
  have o:(q5r N E)[f]? = some (sqT N.length (fwN (edM N E (f+1) E.length) N.length)):=H7 _ b;have n:(q5r N E).length=4:=P4;have a:N.length<=64:=by omega
  unfold z05;simp (disch:=omega) only [dcT,cond_true,K7 v0 (aZ i) (show(i:Int)<(N.length:Int)by omega),ah,aa,e,k,n,C3 b,o,q7k a c d,q7k a d c,X1,j59 c d,j59 d c,B2,g];cases fwN (edM N E (f+1) E.length) N.length j i<;>cases fwN (edM N E (f+1) E.length) N.length i j<;>rfl) (by
  grind[z05]) rfl
 refine fH h ?_;rw[j9j];grind[O1,q0q]
theorem k0x (c:N.length<=12) (a:N.all D5=true) (z:Int×Int×Unit):A1 (z06 ((N,E,()),()) (q5r N E,())) ((0:Int),z,())=some (O1 (((List.range N.length).find? λj=>q0q N E j).map λj:Nat=>(((9:Int),(j:Int),()),())) (.inl (z,()))):=by
 rw[<-q29];refine P5 (f:=z06 ((N,E,()),()) (q5r N E,())) N.length (λi=>((i:Int),z,())) _ _ (λj b=>?_) ?_ rfl
 ·unfold z06;simp (disch:=omega) only [dcT,cond_true,k0w c a b z z,aa];rw[B2 (by omega)];cases q0q N E j<;>rfl
 grind[z06]
end
def X2 (N:List B5) (E:List Edge):Int×Int×Unit :=
 if 12<N.length\/20<E.length then(1,0,())
 else match(List.range N.length).find? λi=>!D5 (N.getD i v0)with
 | some i=>(2,(i:Int),())
 | none=>match(List.range E.length).find? λi=>F5 N E i != 0 with
  | some i=>(F5 N E i,(i:Int),())
  | none=>match(List.range N.length).find? λi=>X8 N E i with
   | some i=>(5,(i:Int),())
   | none=>match(List.range N.length).find? λj=>q0q N E j with
    | some j=>(9,(j:Int),())
    | none=>(0,0,())
theorem z9u {N:List B5} (h:(List.range N.length).find? (λi=>!D5 (N.getD i v0))=none):N.all D5=true:=by
 grind[List.mem_iff_getElem,j21]
theorem y41 (N:List B5) (E:List Edge):z01 ((N,E,()),())=some (X2 N E,()):=by
 unfold z01 X2;by_cases m:12<N.length
 ·grind
 by_cases l:20<E.length
 ·grind
 have b:N.length<=12:=by omega
 have c:E.length<=20:=by omega
 simp (disch:=omega) only [dcF,cond_false,if_neg (show ¬(12<N.length\/20<E.length)by omega),k0r b,aa];cases d:(List.range N.length).find? λi=>!D5 (N.getD i v0)with
 | some i=>rfl
 | none =>
  have e:=z9u d;simp[bJ,q0c,bt,am,k0s e c,aa];cases f:(List.range E.length).find? λi=>F5 N E i != 0 with
  | some i=>rfl
  | none =>
   have a:∀j,j<E.length->F5 N E j=0:=λj k=>by grind
   simp[bJ,q0c,bt,am,k0u b c a,aa];cases g:(List.range N.length).find? λi=>X8 N E i with
   | some i=>rfl
   | none =>
    simp[bJ,q0c,bt,am,k0v b c a,k0x b e,aa];cases h:(List.range N.length).find? λj=>q0q N E j<;>rfl
end

section
open Go Go.Abs

theorem z4u (a b:Int):V1 (a,b,())=some ((a,b,()),()):=rfl
theorem k0z (n:Nat):List.replicate n (0:Int)=cl (tab n λ_=>0):=by
 unfold cl;rw[show(tab n λ_=>0)=List.replicate n 0 from(q0o ..).symm,List.map_replicate];rfl
section
variable {N:List B5} {E:List Edge}
theorem v2k (hn:N.length<=12):A1 (q8o ((N,E,()),())) ((0:Int),())=some (O1 (((List.range N.length).find? λi=>!D5 (N.getD i v0)).map λi:Nat=>((i:Int),())) (.inl ())):=by
 rw[<-q29];refine P5 (f:=q8o ((N,E,()),())) N.length (λi=>((i:Int),())) _ _ (λi hi=>?_) ?_ rfl
 ·unfold q8o;simp (disch:=omega) only [dcT,cond_true,K7 v0 (aZ i) (show(i:Int)<(N.length:Int)by omega),ah,aa,v5d];rw[B2 (by omega)];cases D5 (N.getD i v0)<;>rfl
 ·unfold q8o;simp (disch:=omega) only [dcF,cond_false]
theorem v3q:(List.range E.length).findSome? (q64 N E)=((List.range E.length).find? λi=>F5 N E i != 0).map λi=>(cl (tab N.length (toW E i)),(F5 N E i,(i:Int),()),R3 E i,()):=by
 rw[<-q29];refine congrArg (λf=>(List.range E.length).findSome? f) (funext λi=>?_);unfold q64;rw[O0]
theorem v2d {n v:Nat} (hv:v<2^n):((List.range n).findSome? λj=>if v.testBit j=true then some (Sum.inl (((j:Int),()),()):(((Int×Unit)×Unit)⊕((Int×Unit)×Unit)⊕Empty))else none)=((List.range n).find? λj=>v.testBit j).map λj:Nat=>Sum.inl (((j:Int),()),()):=by
 rw[<-q29];refine congrArg (λf=>(List.range n).findSome? f) (funext λi=>?_);cases v.testBit i<;>rfl
theorem y06 (N:List B5) (E:List Edge):z4p ((N,E,()),())=some (X2 N E,()):=by
 unfold z4p X2;by_cases h1:12<N.length
 ·simp (disch:=omega) only [dcT,cond_true,if_pos (Or.inl h1:12<N.length\/20<E.length),z4u,aa]
 by_cases h2:20<E.length
 ·simp (disch:=omega) only [dcF,dcT,cond_true,cond_false,if_pos (Or.inr h2:12<N.length\/20<E.length),z4u,aa]
 have hn:N.length<=12:=by omega
 have hE:E.length<=20:=by omega
 simp (disch:=omega) only [dcF,cond_false,if_neg (show ¬(12<N.length\/20<E.length)by omega),v2k hn,aa];cases hf1:(List.range N.length).find? λi=>!D5 (N.getD i v0)with
 | some i =>
  simp (disch:=omega) only [bu,z4e,am,aa,dcT,cond_true,z4u]
 | none =>
  have hN:=z9u hf1;have hr4:A8 N.length 4=true:=by
   unfold A8;rw[ac];exact⟨bg (by omega),bg (by omega)⟩
  have d1:decide ((-1:Int)≥0)=false:=by decide
  simp (disch:=omega) only [bJ,q0c,bt,am,aa,d1,cond_false,dcT,ah,hr4,aD,cond_true,k0z,v2p hn hN hE,v3q];cases hf2:(List.range E.length).find? λi=>F5 N E i != 0 with
  | some i =>
   have hne:(F5 N E i != 0)=true:=by have:=eV hf2;exact this
   simp only[bu,z4e,am,aa,hne,cond_true]
  | none =>
   have hok:∀j,j<E.length->F5 N E j=0:=λj hj=>by simpa using j21 hf2 j hj
   have hT:∀a,toW E E.length a<2^N.length:=λa=>j5t a E.length λj hj=>⟨(q15 (hok j hj)).2.2.1,(q15 (hok j hj)).2.2.2.1⟩;simp only[bJ,q0c,bt,am,aa,v2r E hn,q29];cases hf3:(List.range N.length).find? λi=>X8 N E i with
   | some i=>rfl
   | none =>
    have hb:=j04 N (toW E E.length) 4;have h0:((0:Int) != 0)=false:=rfl;have hs:(List.range N.length).find? (λj=>(q21 N (toW E E.length) 4).testBit j)=(List.range N.length).find? λj=>q0q N E j:=v4m λj _=>k14 hN hok j;simp only[bJ,q0c,bt,am,aa,h0,cond_false,v2n E hn hT,q7w (z5m (S2 hn hb)),v2o hn hb,v2d hb,hs];cases hf4:(List.range N.length).find? λj=>q0q N E j with
    | some j =>
     simp (disch:=omega) only [bu,bm,am,aa,dcT,cond_true,z4u]
    | none =>
     simp only[bJ,Option.getD_none,bt,am,aa,d1,cond_false]
end
end

end Go.Proofs.Tryz
