/- Lemmas on functions of the program, by name. -/
import Derived.Test.YtecofmaegcibeaaGreatDoorPQFuns
import Derived.Test.YtecofmaegcibeaaGreatDoorAbsSums
namespace Go.Proofs.Tryz
section
open Go Go.Abs

abbrev HKy:=Int×(Int×Int×Int×Int×Unit)×Unit
abbrev HT:Ty:=.cons (.int .i64) (.cons (.cons (.int .i64) (.cons (.int .i64) (.cons (.int .i64) (.cons (.int .i64) .nil)))) .nil)
def E0 (t:List Int):HKy:=((t.length:Int),((t[0]?).getD 0,(t[1]?).getD 0,(t[2]?).getD 0,(t[3]?).getD 0,()),())
def j5q (k:HKy):List Int:=([k.2.1.1,k.2.1.2.1,k.2.1.2.2.1,k.2.1.2.2.2.1]:List Int).take k.1.toNat
theorem z96 {t:List Int} (h:t.length<=4):j5q (E0 t)=t:=by
 match t,h with
 | [],_=>rfl
 | [a],_=>rfl
 | [a,b],_=>rfl
 | [a,b,c],_=>rfl
 | [a,b,c,d],_=>rfl
 | _::_::_::_::_::_,h=>simp at h
theorem y0x {t u:List Int} (ht:t.length<=4) (hu:u.length<=4) (h:E0 t=E0 u):t=u:=by
 rw[<-z96 ht,h,z96 hu]
end

section
open Go Go.Abs

abbrev KK:Ty:=.cons (.int .i64) HT
abbrev KyK:=Int×HKy
abbrev BgK:=List (KyK×Int)
abbrev Mk:=Int×List Int×Int×Unit
noncomputable instance kyDec:DecidableEq KyK:=λ_ _=>Classical.propDecidable _
theorem N5:KK.flat=true:=rfl
def kyM (r:Mk):KyK:=(r.1,E0 r.2.1)
def Wk (n:Int):Int:=IntKind.i64.wrap n
def J7 (m:BgK) (k:KyK):Int:=(D2 KK m k).getD 0
structure BagK (m:BgK) (T:KyK->Int):Prop where
 rise:Rise KK m
 num:∀k,J7 m k=T k
 nz:∀p∈m,p.2≠0
def Q0 (m:BgK) (k:KyK) (n:Int):BgK :=
 cond (J7 (C9 KK (F4 KK m k 0) k (Wk (J7 m k+n))) k==0) (H2 KK (C9 KK (F4 KK m k 0) k (Wk (J7 m k+n))) k) (C9 KK (F4 KK m k 0) k (Wk (J7 m k+n)))
theorem y2c (m:BgK) (k j:KyK) (v:Int):J7 (C9 KK m k v) j=if j=k then v else J7 m j:=by
 grind[J7,q9i,N5,q6t]
variable {m:BgK}
theorem v3w (h:Rise KK m) (k:KyK):Rise KK (F4 KK m k 0):=q9j N5 h
theorem v7q (m:BgK) (k j:KyK):J7 (F4 KK m k 0) j=J7 m j:=by
 unfold F4;rw[y2c];split
 ·rename_i h;subst h;rfl
 rfl
variable {T:KyK->Int}
theorem v9x (h:BagK m T) (k:KyK) (n:Int):BagK (Q0 m k n) (λj=>if j=k then Wk (T k+n)else T j):=by
 have d:=q9j N5 (k:=k) (v:=Wk (J7 m k+n)) (v3w h.rise k);have i:∀j,J7 (C9 KK (F4 KK m k 0) k (Wk (J7 m k+n))) j=if j=k then Wk (T k+n)else T j:=λj=>by
  rw[y2c,v7q,h.num,h.num]
 have a:∀p∈C9 KK (F4 KK m k 0) k (Wk (J7 m k+n)),p=(k,Wk (T k+n))\/(p∈m/\p.1≠k):=λp c=>by
  by_cases g:p.1=k
  ·have b:D2 KK (C9 KK (F4 KK m k 0) k (Wk (J7 m k+n))) p.1=some p.2:=(q3l N5 d).2 c;rw[g,q9i N5]at b;left;exact eI g ((bI b).symm.trans (by rw[h.num]))
  ·have b:D2 KK (C9 KK (F4 KK m k 0) k (Wk (J7 m k+n))) p.1=some p.2:=(q3l N5 d).2 c;unfold F4 at b;rw[q6t N5 _ _ _ _ g,q6t N5 _ _ _ _ g]at b;exact .inr ⟨(q3l N5 h.rise).1 b,g⟩
 unfold Q0;generalize C9 KK (F4 KK m k 0) k (Wk (J7 m k+n))=M at d i a ⊢;have l:=i k;rw[if_pos rfl]at l;rw[l];by_cases q:Wk (T k+n)=0
 ·rw[q];refine⟨z5n d,λj=>?_,λp c=>?_⟩
  ·grind[J7,v7a,N5,v74]
  ·have e:p∈M/\¬KK.eqb k p.1=true:=by
    grind[H2]
   rcases a p e.1 with f | ⟨f,-⟩
   ·exact absurd ((KK.eqb_iff N5 k p.1).2 (by grind)) e.2
   ·exact h.nz p f
 ·have o:(Wk (T k+n)==0)=false:=by grind
  rw[o,cond_false];refine⟨d,i,λp c=>?_⟩;rcases a p c with f | ⟨f,-⟩
  ·grind
  ·exact h.nz p f
theorem j07 (h:BagK m T) (p:KyK×Int):p∈m↔p.2≠0/\T p.1=p.2:=by
 constructor
 ·intro b;refine⟨h.nz p b,?_⟩;rw[<-h.num];unfold J7;rw[(q3l N5 h.rise).2 b];rfl
 ·rintro ⟨d,a⟩;rw[<-h.num]at a;unfold J7 at a;cases c:D2 KK m p.1 with
  | none=>grind
  | some v =>
   rw[c]at a;subst a;exact(q3l N5 h.rise).1 c
theorem z3g (h:Rise KK m):m.Nodup:=eC (λ{a b} c e=>c (by rw[e])) (h.ne N5)
theorem v2a {a:BgK} (h:BagK m T) (h':BagK a T):m=a :=
 y4n N5 h.rise h'.rise ((eq (z3g h.rise) (z3g h'.rise)).2 λp=>(j07 h p).trans (j07 h' p).symm)
noncomputable def z2g:List Mk->(KyK->Int)->(KyK->Int)
 | [],T=>T
 | r::l,T=>z2g l (λj=>if j=kyM r then Wk (T (kyM r)+r.2.2.1)else T j)
def G9 (l:List Mk) (m:BgK):BgK:=l.foldl (λm r=>Q0 m (kyM r) r.2.2.1) m
theorem j08:∀(l:List Mk) {m:BgK} {T:KyK->Int},BagK m T->BagK (G9 l m) (z2g l T)
 | [],_,_,h=>h
 | r::l,_,_,h=>j08 l (v9x h (kyM r) r.2.2.1)
theorem v9y (m:BgK) (k:KyK) (n:Int):(Q0 m k n).length<=m.length+1:=by
 have c:∀(m:BgK) (k:KyK) (v:Int),(C9 KK m k v).length<=m.length+1:=by
  intro m
  induction m with
  | nil=>grind[C9]
  | cons p r e =>
   grind[C9]
 have a:(C9 KK (F4 KK m k 0) k (Wk (J7 m k+n))).length=(F4 KK m k 0).length:=by
  have d:∀(m:BgK) (k:KyK) (v w:Int),(C9 KK (C9 KK m k v) k w).length=(C9 KK m k v).length:=by
   intro m
   induction m with
   | nil=>simp[C9,KK.eqb_self N5]
   | cons p r e =>
    intro k v w;simp[C9];cases b:KK.eqb k p.1 with
    | true=>simp only[cond_true,C9,KK.eqb_self N5];rfl
    | false =>
     cases f:KK.lt k p.1 with
     | true=>simp only[cond_true,cond_false,C9,KK.eqb_self N5];rfl
     | false=>grind[C9]
  exact d _ _ _ _
 have b:=c m k ((D2 KK m k).getD 0);unfold Q0;cases(J7 (C9 KK (F4 KK m k 0) k (Wk (J7 m k+n))) k==0)with
 | true =>
  refine bw (bA _ _) ?_;rw[a];exact b
 | false =>
  simp[cond_false];rw[a];exact b
theorem j06:∀(l:List Mk) (m:BgK),(G9 l m).length<=m.length+l.length
 | [],m=>ax _
 | r::l,m=>by
  have a:=v9y m (kyM r) r.2.2.1;have b:=j06 l (Q0 m (kyM r) r.2.2.1);show(G9 l (Q0 m (kyM r) r.2.2.1)).length<=_;rw[ai];omega
end

section
open Go Go.Abs

def bad (v:Int):Bool:=decide (v<0)||decide (v>1048576)
theorem j05 {β:Type} (v:Int) (b:β) (s:Int×Unit):(cond (decide (v<(0:Int))) (some (Sum.inr b)) (cond (decide (v>(1048576:Int))) (some (Sum.inr b)) (some (Sum.inl s))):Option ((Int×Unit)⊕β))=some (if bad v=true then .inr b else .inl s):=by
 unfold bad;by_cases h1:v<0
 ·simp[h1]
 ·by_cases h2:v>1048576
  ·simp[h1,h2]
  ·simp[h1,h2]
theorem z3f {v:Int} (h:bad v=false):0<=v/\v<=1048576:=by
 unfold bad at h;simp at h;omega
end

section
open Go Go.Abs

def chk (l:List Int):Int:=if l.length=0\/l.length>4 then 1 else if l.any bad=true then 2 else 0
theorem U7 {l:List Int} (h:chk l=0):0<l.length/\l.length<=4/\∀(i:Nat) (v:Int),l[i]? = some v->0<=v/\v<=1048576:=by
 unfold chk at h;split at h
 ·cases h
 ·split at h
  ·cases h
  ·rename_i h1 h2;refine⟨by omega,by omega,λi v hi=>z3f ?_⟩;have hm:=bk hi;cases hb:bad v with
   | false=>rfl
   | true=>exact absurd (bQ.2 ⟨v,hm,hb⟩) h2
theorem k4g (l:List Int) (hl:l.length<=4):A1 (z97 (l,())) (0,())=some (if l.any bad=true then Sum.inl (2,())else Sum.inr (Sum.inl ())):=by
 refine z5l l bad (Sum.inl (2,())) (Sum.inr (Sum.inl ())) (λi v hi=>?_) ?_
 ·have hlt:=(ag.1 hi).1;have hi':((i:Int)<(l.length:Int)):=by omega
  unfold z97;simp only[hi',decide_true,cond_true,X1,hi,aa];rw[F6 (by omega) (by omega)];exact j05 v _ _
 ·simp[z97]
theorem k0k (l:List Int) (hl:l.length<=4):A1 (z7i (l,())) (0,())=some (if l.any bad=true then Sum.inl (2,())else Sum.inr (Sum.inl ())):=by
 refine z5l l bad (Sum.inl (2,())) (Sum.inr (Sum.inl ())) (λi v hi=>?_) ?_
 ·have hlt:=(ag.1 hi).1;have hi':((i:Int)<(l.length:Int)):=by omega
  unfold z7i;simp only[hi',decide_true,cond_true,X1,hi,aa];rw[F6 (by omega) (by omega)];exact j05 v _ _
 ·simp[z7i]
theorem y84 (l:List Int):z2c (l,())=some (chk l,()):=by
 unfold z2c chk;by_cases h0:l.length=0
 ·simp[h0]
 ·by_cases h4:l.length>4
  ·have:((l.length:Int)>4):=by omega
   simp[h0,h4,this]
  ·have h5:¬((l.length:Int)>4):=by omega
   have h6:((l.length:Int)==0)=false:=by simp;exactλh=>h0 (by simp[h])
   simp only[h6,cond_false,h5,decide_false];have hn:¬(l.length=0\/l.length>4):=by omega
   rw[k4g l (by omega),if_neg hn];split<;>rfl
theorem z7h (l:List Int):q0m (l,())=some (chk l,()):=by
 unfold q0m chk;by_cases h0:l.length=0
 ·simp[h0]
 ·have h6:¬((l.length:Int)<1):=by omega
  by_cases h4:l.length>4
  ·have:((l.length:Int)>4):=by omega
   simp[h4,this,h6]
  ·have h5:¬((l.length:Int)>4):=by omega
   simp only[h6,cond_false,h5,decide_false];have hn:¬(l.length=0\/l.length>4):=by omega
   rw[k0k l (by omega),if_neg hn];split<;>rfl
end

section
open Go Go.Abs

theorem q29 {β:Type} (p:Nat->Bool) (g:Nat->β) (l:List Nat):(l.findSome? λi=>cond (p i) (some (g i)) none)=(l.find? p).map g:=by
 induction l with
 | nil=>rfl
 | cons a r ih =>
  rw[bM,db];cases p a with
  | true=>rfl
  | false=>exact ih
theorem j21 {p:Nat->Bool} {n:Nat} (h:(List.range n).find? p=none):∀i,i<n->p i=false:=λi hi=>by
 have:=er.1 h i (aL.2 hi);simpa using this
theorem j9j {β:Type} (p:Nat->Bool) (b:β) (l:List Nat):(l.findSome? λr=>cond (p r) (some b) none)=if l.any p=true then some b else none:=by
 induction l with
 | nil=>rfl
 | cons a r ih =>
  rw[bM,cJ];cases p a with
  | true=>rfl
  | false=>rw[cond_false,ih];simp
theorem K7 {α:Type} {l:List α} {i:Int} (d:α) (h0:0<=i) (h1:i<l.length):A5 l i=some (l.getD i.toNat d):=by
 obtain⟨k,rfl⟩:=bL h0;rw[X1];rw[ah];exact q4u (by omega)
theorem C6 {α:Type} {l:List α} {i:Nat} (h:i<l.length):A5 l (i:Int)=some l[i]:=by
 rw[X1,af h]
theorem D4 {n k:Nat} (h:n<=140737488355328) (h2:n*k<=140737488355328):A8 n k=true:=by
 unfold A8;rw[ac];exact⟨bg h,bg h2⟩
end

section
open Go Go.Abs

def B6:List Int->List Int->Int
 | [],[]=>0
 | [],_::_=>-1
 | _::_,[]=>1
 | a::r,b::s=>if a<b then -1 else if a>b then 1 else B6 r s
theorem cmpL_eq:∀{a b:List Int},B6 a b=0↔a=b
 | [],[]=>by simp[B6]
 | [],_::_=>by simp[B6]
 | _::_,[]=>by simp[B6]
 | a::r,b::s=>by
  have c:=cmpL_eq (a:=r) (b:=s);simp[B6,en];split
  ·constructor
   ·omega
   ·omega
  ·split
   ·constructor
    ·omega
    ·omega
   ·rw[c];constructor
    ·intro h;exact⟨by omega,h⟩
    ·exactλh=>h.2
theorem T0:∀(a b:List Int),B6 b a=- B6 a b
 | [],[]=>rfl
 | [],_::_=>rfl
 | _::_,[]=>rfl
 | a::r,b::s=>by
  have e:=T0 r s;simp[B6];by_cases c:a<b
  ·rw[if_pos c,if_neg (by omega),if_pos (by omega)];rfl
  ·by_cases d:a>b
   ·rw[if_pos (show b<a from d),if_neg c,if_pos d]
   ·rw[if_neg c,if_neg d,if_neg (by omega),if_neg (by omega),e]
theorem q11:∀{a b c:List Int},B6 a b<0->B6 b c<0->B6 a c<0
 | [],[],c,h,_=>by omega
 | [],_::_,[],_,h=>by grind[B6]
 | [],_::_,_::_,_,_=>by simp[B6]
 | _::_,[],_,h,_=>by grind[B6]
 | _::_,_::_,[],_,h=>by grind[B6]
 | a::r,b::s,c::t,d,e=>by
  simp[B6]at d e ⊢;have f:=q11 (a:=r) (b:=s) (c:=t);omega
theorem S9 (a:List Int):¬B6 a a<0:=by grind[cmpL_eq]
theorem j85 (v w:Int):q12 (v,w,())=some (if v<w then -1 else if v>w then 1 else 0,()):=by
 grind[q12,q88]
variable {a:List Int} {b:List Int}
theorem z8g (q:a.length<=1000000):q46 (a,b,())=some (B6 a b,()):=by
 have g:∀k i,i+k=a.length->i<=b.length->(A1 (q5f (a,b,())) ((i:Int),())).bind (Sum.elim (λj=>(some j)) (Sum.elim (λp=>(cond (decide ((a.length:Int)<(b.length:Int))) (some ((-1:Int),())) (some ((0:Int),())))) Empty.elim))=some (B6 (a.drop i) (b.drop i),()):=by
  intro k
  induction k with
  | zero =>
   intro i m n;have o:i=a.length:=by omega
   rw[D9 (b:=.inr (.inl ())) (by
    grind[q5f])]
   rw[bF (by omega)];simp[aa,am,bt,q36];by_cases h:i<b.length
   ·rw[aM h,if_pos (by omega)];rfl
   ·rw[bF (by omega),if_neg (by omega)];rfl
  | succ k t =>
   intro i m n;have d:i<a.length:=by omega
   by_cases e:i<b.length
   ·have c:q5f (a,b,()) ((i:Int),())=cond (B6 [a[i]] [b[i]] != 0) (some (.inr (.inl (B6 [a[i]] [b[i]],())))) (some (.inl (((i+1:Nat):Int),()))):=by
     unfold q5f;simp (disch:=omega) only [dcT,dcF,cond_true,cond_false,C6 d,C6 e,aa,j85,B2];rfl
    rw[aM d,aM e];by_cases r:a[i]<b[i]
    ·have f:B6 [a[i]] [b[i]]=-1:=by grind[B6]
     rw[f]at c;rw[D9 c];grind[B6]
    ·by_cases s:a[i]>b[i]
     ·have f:B6 [a[i]] [b[i]]=1:=by grind[B6]
      rw[f]at c;rw[D9 c];grind[B6]
     grind[B6,H4]
   ·have c:q5f (a,b,()) ((i:Int),())=some (.inr (.inl ((1:Int),()))):=by
     grind[q5f,C6]
    rw[D9 c,aM d,bF (l:=b) (show b.length<=i by omega)];rfl
 exact g a.length 0 (by omega) (by omega)
def q6n (a b:List Int):Bool:=decide (a.length=b.length)&&(decide (chk a=0)&&(decide (chk b=0)&&decide (B6 a b<0)))
theorem v6o (h:a.length=b.length) (d:chk a=0) (c:chk b=0):q6n a b=decide (B6 a b<0):=by
 grind[q6n]
theorem k0m (a b:List Int):z7l (a,b,())=some (q6n a b,()):=by
 unfold z7l q6n;simp[z7h,aa,O0];by_cases h:a.length=b.length
 ·rw[if_pos (by omega),decide_eq_true h];by_cases g:chk a=0
  ·rw[if_pos g,decide_eq_true g];by_cases j:chk b=0
   ·rw[if_pos j,decide_eq_true j];have o:=(U7 g).2.1;have f:∀k i,i+k=a.length->(A1 (z0y (a,b,())) ((i:Int),())).bind (Sum.elim (λn=>(some n)) (Sum.elim (λq=>(some (false,()))) Empty.elim))=some (decide (B6 (a.drop i) (b.drop i)<0),()):=by
     intro k
     induction k with
     | zero =>
      intro i l;rw[D9 (b:=.inr (.inl ())) (by
       grind[z0y])]
      rw[bF (by omega),bF (by omega)];rfl
     | succ k p =>
      intro i l;have e:i<a.length:=by omega
      have d:i<b.length:=by omega
      have c:z0y (a,b,()) ((i:Int),())=cond (a[i] != b[i]) (some (.inr (.inl (decide (a[i]<b[i]),())))) (some (.inl (((i+1:Nat):Int),()))):=by
       grind[z0y,C6,B2]
      rw[aM e,aM d];by_cases m:a[i]=b[i]
      ·grind[H4,B6]
      ·rw[q4i m,cond_true]at c;rw[D9 c];grind[B6,decide_eq_false]
    exact f a.length 0 (by omega)
   grind
  grind
 grind
theorem q41 (o:a.length<=1000000):q0n (a,b,())=some (decide (a=b),()):=by
 unfold q0n;simp[O0];by_cases h:a.length=b.length
 ·rw[if_pos (by omega)];have f:∀k i,i+k=a.length->(A1 (z0z (a,b,())) ((i:Int),())).bind (Sum.elim (λl=>(some l)) (Sum.elim (λp=>(some (true,()))) Empty.elim))=some (decide (a.drop i=b.drop i),()):=by
   intro k
   induction k with
   | zero =>
    intro i j;rw[D9 (b:=.inr (.inl ())) (by
     grind[z0z])]
    grind
   | succ k n =>
    intro i j;have g:i<a.length:=by omega
    have d:i<b.length:=by omega
    have c:z0z (a,b,()) ((i:Int),())=cond (a[i] != b[i]) (some (.inr (.inl (false,())))) (some (.inl (((i+1:Nat):Int),()))):=by
     grind[z0z,C6,B2]
    rw[aM g,aM d];by_cases m:a[i]=b[i]
    ·grind[H4,List.cons.injEq]
    ·rw[q4i m,cond_true]at c;rw[D9 c];grind[List.cons.inj]
  exact f a.length 0 (by omega)
 ·rw[if_neg (by omega),decide_eq_false (λe=>h (by rw[e]))]
end

section
open Go Go.Abs

end

section
open Go Go.Abs

theorem j8g {α:Type} (x:α) (c:List α):(decide (0<=(1:Int))&&decide ((1:Int)<=((x::c).length:Int))&&decide (((x::c).length:Int)<=(x::c).length))=true:=by
 simp;omega
end

section
open Go Go.Abs

def V3 (t:List Int):List (List Int)->List (List Int)
 | []=>[t]
 | u::l=>if B6 u t<0 then u::V3 t l else if u=t then u::l else t::u::l
def ltP (t:List Int) (u:List Int):Bool:=decide (B6 u t<0)
theorem y0s (t:List Int):∀out:List (List Int),V3 t out=match out.dropWhile (ltP t)with
  | []=>out.takeWhile (ltP t)++[t]
  | u::l=>if u=t then out else out.takeWhile (ltP t)++t::u::l
 | []=>rfl
 | u::l=>by
  have b:=y0s t l;rw[V3,fg,dB];by_cases h:B6 u t<0
  ·have a:ltP t u=true:=decide_eq_true h;rw[if_pos h,if_pos a,if_pos a,b];cases List.dropWhile (ltP t) l with
   | nil=>rfl
   | cons v m =>
    simp only;split
    ·rfl
    ·rfl
  ·have a:¬ltP t u=true:=λe=>h (of_decide_eq_true e);rw[if_neg h,if_neg a,if_neg a];rfl
theorem y7y {p:List Int->Bool}:∀l:List (List Int),l.take (l.takeWhile p).length=l.takeWhile p
 | []=>rfl
 | u::l=>by
  rw[dB];split
  ·rw[ai,fh,y7y l]
  ·rfl
theorem j8l {p:List Int->Bool}:∀l:List (List Int),l.drop (l.takeWhile p).length=l.dropWhile p
 | []=>rfl
 | u::l=>by
  rw[dB,fg];split
  ·rw[ai,fj,j8l l]
  ·rfl
theorem k4t {p:List Int->Bool} (l:List (List Int)):(l.takeWhile p).length<=l.length:=(List.takeWhile_prefix p).length_le
theorem k3h {out:List (List Int)} {t:List Int} (z:Int×Unit) (j:out.length<=3000000000) (e:∀u∈out,q6n u t=ltP t u) :
  A1 (q7a (out,z) t) ((0:Int),())=some (.inl ((((out.takeWhile (ltP t)).length:Nat):Int),())):=by
 have d:∀k i,i+k=out.length->A1 (q7a (out,z) t) ((i:Int),())=some (.inl (((i+((out.drop i).takeWhile (ltP t)).length:Nat):Int),())):=by
  intro k
  induction k with
  | zero =>
   intro i h;rw[D9 (b:=.inl ((i:Int),())) (by
    grind[q7a])]
   simp_all
  | succ k g =>
   intro i h;have a:i<out.length:=by omega
   have c:q7a (out,z) t ((i:Int),())=cond (ltP t out[i]) (some (.inl (((i+1:Nat):Int),()))) (some (.inr (.inl ((i:Int),())))):=by
    unfold q7a;simp (disch:=omega) only [dcT,cond_true,C3 a,ah,af a,aa,k0m,e _ (ay a),B2]
   rw[aM a,dB];cases f:ltP t out[i]with
   | true =>
    rw[f,cond_true]at c;rw[H4 c,g (i+1) (by omega)];simp[if_true,ai];grind
   | false =>
    grind[D9]
 have:=d out.length 0 (by omega);grind
theorem y5r {out:List (List Int)} (z:Int×Unit) {m:Nat} (a:m<=out.length) (c:out.length<=3000000000) :
  A1 (z1a ((m:Int),()) (out,z)) (([]:List (List Int)),(0:Int),())=some (.inl (out.take m,())):=by
 refine D3 m (λi=>(out.take i,(i:Int),())) _ (λi b=>?_) ?_ rfl
 ·unfold z1a;grind[C3,D4,B2,List.take_succ_eq_append_getElem]
 grind[z1a]
theorem y5s {out pre:List (List Int)} (z:Int×Unit) {m:Nat} (d:m<=out.length) (f:out.length<=3000000000) (h:pre.length<=3000000000) :
  A1 (z1b (out,z)) (pre,(m:Int),())=some (.inl (pre++out.drop m,())):=by
 have e:pre++out.drop m=pre++(out.drop m).take (out.length-m):=by grind[List.length_drop]
 rw[e];refine D3 (out.length-m) (λi=>(pre++(out.drop m).take i,((m+i:Nat):Int),())) _ (λi g=>?_) ?_ (by simp)
 ·unfold z1b;have b:m+i<out.length:=by omega
  have c:i<(out.drop m).length:=by grind
  have a:(pre++(out.drop m).take i).length+(0+1)=pre.length+i+1:=by grind
  simp (disch:=omega) only [dcT,cond_true,C3 b,ah,af b,aa,ai,aq,a,D4,B2,aI];grind[List.take_succ_eq_append_getElem]
 grind[z1b]
theorem v6b:y4c=z1a:=rfl
theorem v6c:y4d=z1b:=rfl
theorem y0r (t:List Int):∀out:List (List Int),(V3 t out).length<=out.length+1
 | []=>ax _
 | u::l=>by
  have:=y0r t l;simp[V3];split
  ·simp[ai];omega
  ·split<;>simp[ai]<;>omega
theorem ins_mem {t v:List Int}:∀{out:List (List Int)},v∈V3 t out↔v=t\/v∈out
 | []=>by simp[V3]
 | u::l=>by
  have a:=ins_mem (t:=t) (v:=v) (out:=l);simp only[V3];split
  ·rw[al,a,al];constructor
   ·rintro (h | h | h)
    ·exact .inr (.inl h)
    ·exact .inl h
    ·exact .inr (.inr h)
   ·rintro (h | h | h)
    ·exact .inr (.inl h)
    ·exact .inl h
    ·exact .inr (.inr h)
  ·split
   ·rename_i h;rw[al,<-h];constructor
    ·exactλh=>.inr h
    ·rintro (h | h)
     ·exact .inl h
     ·exact h
   ·rw[al]
theorem y0t {t:List Int}:∀{out:List (List Int)},out.Pairwise (λa b=>B6 a b<0)->(V3 t out).Pairwise λa b=>B6 a b<0
 | [],_=>by simp[V3]
 | u::l,h=>by
  have g:=ba.1 h;simp[V3];split
  ·rename_i i;rw[ba];refine⟨λv c=>?_,y0t g.2⟩;rcases ins_mem.1 c with rfl | c
   ·exact i
   ·exact g.1 v c
  ·split
   ·exact h
   ·rename_i f;have d:B6 t u<0:=by
     have k:=T0 u t;have j:B6 u t≠0:=λe=>f (cmpL_eq.1 e);omega
    rw[ba];refine⟨λv c=>?_,h⟩;rcases al.1 c with rfl | c
    ·exact d
    ·exact q11 d (g.1 v c)
def H6 (l:List (List Int)):List (List Int):=l.foldl (λout t=>V3 t out) []
theorem j9n (l:List (List Int)) (t:List Int):H6 (l++[t])=V3 t (H6 l):=by
 grind[H6]
theorem q0r (l:List (List Int)):(H6 l).length<=l.length/\(∀v,v∈H6 l↔v∈l)/\(H6 l).Pairwise λa b=>B6 a b<0:=by
 have c:∀k,k<=l.length->(H6 (l.take k)).length<=k/\(∀v,v∈H6 (l.take k)↔v∈l.take k)/\(H6 (l.take k)).Pairwise λa b=>B6 a b<0:=by
  intro k
  induction k with
  | zero=>intro _;exact⟨ax _,λv=>Iff.rfl,List.Pairwise.nil⟩
  | succ k d =>
   grind[List.take_succ_eq_append_getElem,j9n,y0r,y0t,ins_mem]
 grind[List.take_length]
theorem y4b {l:List (List Int)} (D:l.length<=2000000000) (d:Nat) (v:∀t∈l,chk t=0/\t.length=d):q79 (l,())=some (H6 l,()):=by
 have w:A1 (z7m (l,())) (([]:List (List Int)),(0:Int),())=some (.inl (H6 l,())):=by
  refine D3 l.length (λi=>(H6 (l.take i),(i:Int),())) _ (λi k=>?_) ?_ rfl
  ·have j:=v l[i] (ay k);obtain⟨F,y,E⟩:=q0r (l.take i);have B:(H6 (l.take i)).length<=2000000000:=by grind
   have h:∀u∈H6 (l.take i),chk u=0/\u.length=d:=λu q=>v u (bq ((y u).1 q));have e:∀u∈H6 (l.take i),q6n u l[i]=ltP l[i] u:=λu q=>by
    have:=h u q;rw[v6o (by omega) this.1 j.1];rfl
   rw[aw k,j9n];generalize H6 (l.take i)=a at *
   unfold z7m;have o:=k4t (p:=ltP l[i]) a;have x:=k3h (((i:Int),())) (show a.length<=3000000000 by omega) e;have b:=y0s l[i] a;have r:=y7y (p:=ltP l[i]) a;have c:=j8l (p:=ltP l[i]) a;simp (disch:=omega) only [dcT,cond_true,C6 k,aa,x,am,B2];have A:∀n:Nat,n<=3000000000->A8 (n+(0+1)) 24=true:=λn C=>D4 (by omega) (by omega);by_cases f:(a.takeWhile (ltP l[i])).length<a.length
   ·rw[aM f]at c;rw[<-c]at b;have g:(a[(a.takeWhile (ltP l[i])).length]).length<=1000000:=by
     grind[U7]
    simp (disch:=omega) only [dcT,cond_true,C3 f,ah,af f,aa,q41 g];by_cases z:a[(a.takeWhile (ltP l[i])).length]=l[i]
    ·grind
    ·rw[decide_eq_false z,cond_false,y5r _ o (by omega),aa,am];simp[ai,aq];grind[y5s,List.drop_eq_getElem_cons]
   ·have m:a.drop (a.takeWhile (ltP l[i])).length=[]:=bF (by omega);rw[<-c]at b;simp (disch:=omega) only [dcF,cond_false];rw[v6b,y5r _ o (by omega),aa,am];simp[ai,aq];rw[A _ (by grind)];simp[aI,cond_true];rw[v6c,y5s _ o (by omega) (by grind),aa,am,b,r,m,bP]
  grind[z7m]
 grind[q79]
end

section
open Go Go.Abs

theorem j5k (v:Int):q2t (v,())=some (!bad v,()):=by
 unfold q2t bad;simp only[q36];by_cases h1:v≥0
 ·have h2:¬v<0:=by omega
  by_cases h3:v<=1048576
  ·have h4:¬v>1048576:=by omega
   simp[h1,h2,h3,h4]
  ·have h4:v>1048576:=by omega
   simp[h1,h2,h3,h4]
 ·have h2:v<0:=by omega
  simp[h1,h2]
def sck (n d:Int) (l:List Int) (m:Int):Int:=if m<1\/m>4\/n<1\/n>m\/(l.length:Int)>4-n then 1 else if(bad d||l.any bad)=true then 2 else 0
theorem Q9 {n d m:Int} {l:List Int} (h:sck n d l m=0):1<=n/\n<=m/\m<=4/\(l.length:Int)<=4-n/\(0<=d/\d<=1048576)/\∀(i:Nat) (v:Int),l[i]? = some v->0<=v/\v<=1048576:=by
 unfold sck at h;split at h
 ·cases h
 ·rename_i h1;split at h
  ·cases h
  ·rename_i h2;rw[Bool.not_eq_true,dq]at h2;refine⟨by omega,by omega,by omega,by omega,z3f h2.1,λi v hi=>z3f ?_⟩;cases hb:bad v with
   | false=>rfl
   | true =>
    have:=bQ.2 ⟨v,bk hi,hb⟩;rw[h2.2]at this;cases this
theorem j5j (n d m:Int) (l:List Int):q48 ((n,d,l,()),m,())=some (sck n d l m,()):=by
 unfold q48 sck;simp only[q36];by_cases h1:m<1
 ·simp[h1]
 ·by_cases h2:m>4
  ·simp[h1,h2]
  ·by_cases h3:n<1
   ·simp[h1,h2,h3]
   ·by_cases h4:n>m
    ·simp[h1,h2,h3,h4]
    ·rw[F6 (by omega) (by omega)];by_cases h5:(l.length:Int)>4-n
     ·simp[h1,h2,h3,h4,h5]
     ·rw[if_neg h1,if_neg h2,if_neg h3,if_neg h4,if_neg h5,if_neg (by omega)];have hlen:([d]++l).length=l.length+1:=by simp
      have hr:A8 (([d]).length+l.length) 8=true:=q1r (by simp;omega);rw[hr,aI,aI,aI,cond_true];have key:=z5l (f:=z8x ((n,d,l,()),m,())) ([d]++l) bad (Sum.inl (2,())) (Sum.inr (Sum.inl ())) (λi v hi=>by
       have hlt:=(ag.1 hi).1;have hi':((i:Int)<(([d]++l).length:Int)):=by omega
       have hib:inB (i:Int) ([d]++l).length=true:=by simp only[inB,ac,decide_eq_true_eq];omega
       unfold z8x;simp only[hi',decide_true,hib,cond_true,ah,hi,aa,j5k,Bool.not_not];rw[F6 (by omega) (by omega)];cases bad v<;>rfl) (by simp[z8x])
      rw[key];have hany:([d]++l).any bad=(bad d||l.any bad):=by simp
      rw[hany];split<;>rfl
theorem k0d (n d m:Int) (l:List Int) (hl:l.length<=4):A1 (z7b ((n,d,l,()),m,())) (0,())=some (if l.any bad=true then Sum.inl (2,())else Sum.inr (Sum.inl ())):=by
 refine z5l l bad (Sum.inl (2,())) (Sum.inr (Sum.inl ())) (λi v hi=>?_) ?_
 ·have hlt:=(ag.1 hi).1;have hi':((i:Int)<(l.length:Int)):=by omega
  unfold z7b;simp only[hi',decide_true,cond_true,X1,hi,aa];rw[F6 (by omega) (by omega)];exact j05 v _ _
 ·simp[z7b]
theorem j4b (n d m:Int) (l:List Int):q0k ((n,d,l,()),m,())=some (sck n d l m,()):=by
 unfold q0k sck;by_cases h1:m<1
 ·simp[h1]
 ·by_cases h2:m>4
  ·simp[h1,h2]
  ·by_cases h3:n<1
   ·simp[h1,h2,h3]
   ·by_cases h4:n>m
    ·simp[h1,h2,h3,h4]
    ·by_cases h5:(l.length:Int)>4
     ·have h6:(l.length:Int)>4-n:=by omega
      simp[h1,h2,h3,h4,h5,h6]
     ·by_cases h6:(l.length:Int)>4-n
      ·have h7:IntKind.i64.wrap (n+(l.length:Int))>4:=by rw[F6 (by omega) (by omega)];omega
       simp[h1,h2,h3,h4,h5,h6,h7]
      ·have h7:¬(IntKind.i64.wrap (n+(l.length:Int))>4):=by rw[F6 (by omega) (by omega)];omega
       simp only[h1,h2,h3,h4,h5,h7,decide_false,cond_false];have hn:¬(False\/False\/False\/False\/(l.length:Int)>4-n):=by simp;omega
       rw[if_neg hn];by_cases h8:bad d=true
       ·rw[h8,eN,if_pos rfl];unfold bad at h8;by_cases h9:d<0
        ·simp[h9]
        ·have h10:d>1048576:=by simpa[h9]using h8
         simp[h9,h10]
       ·have h8:bad d=false:=by simpa using h8
        have hd:=z3f h8;have h9:¬d<0:=by omega
        have h10:¬d>1048576:=by omega
        simp only[h9,h10,decide_false,cond_false];rw[k0d n d m l (by omega),h8,dh];split<;>rfl
end

section
open Go Go.Abs

def plc (n:Nat) (d:Int) (l:List Int) (i:Nat):Int:=if i<n then(if i+1=n then d else 0)else l.getD (i-n) 0
variable {n:Nat} {d:Int} {l:List Int}
theorem z7f (a:1<=n) (b:n+l.length<=4) {i:Nat} (hi:i<n+l.length):q0l (((n:Int),d,l,()),(i:Int),())=some (plc n d l i,()):=by
 grind[F6,q0l,plc,j9v]
theorem y3i (b:0<=d/\d<=1048576) (a:∀(i:Nat) (v:Int),l[i]? = some v->0<=v/\v<=1048576) (i:Nat):0<=plc n d l i/\plc n d l i<=1048576:=by
 grind[plc]
def I4 (n:Nat) (d:Int) (l:List Int) (m:Nat) (e:Int) (k:List Int) (i:Nat):Int:=if i<m then plc m e k i+plc n d l i else plc m e k i
def q4a (n:Nat) (d:Int) (l:List Int) (m:Nat) (e:Int) (k:List Int):(Int×Int×List Int×Unit)×Int×Unit :=
 if I4 n d l m e k (m-1)>1048576 then((0,0,[],()),6,())else((((min m n:Nat):Int),I4 n d l m e k (min m n-1),(List.range' (min m n) (m+k.length-min m n)).map (I4 n d l m e k),()),0,())
theorem z93 (h:n+l.length<=4):q5l (((n:Int),d,l,()),())=some (((n+l.length:Nat):Int),()):=by
 grind[q5l,F6]
theorem q40 (h:n+l.length<=4):S7 (((n:Int),d,l,()),())=some (((n+l.length:Nat):Int),()):=by
 grind[S7,F6]
theorem v24 {v:Int} (h:0<=v):bad v=decide (v>1048576):=by
 grind[bad]
theorem y3w {a:Nat} (f:Nat->Int) (l:List Int) (h:∀i,i<l.length->f (a+i)=l.getD i 0):(List.range' a l.length).map f=l:=by
 apply ce;grind
variable {m:Nat} {e:Int} {k:List Int}
theorem k46 (hs:sck n d l 4=0) (p:sck m e k ((n+l.length:Nat):Int)=0) :
  q5m (((n:Int),d,l,()),((m:Int),e,k,()),())=some (q4a n d l m e k):=by
 obtain⟨S,O,K,E,G,A⟩:=Q9 hs;obtain⟨I,J,U,Q,R,H⟩:=Q9 p;have q:∀v:Int,0<=v->q2t (v,())=some (!decide (v>1048576),()):=λv B=>by grind[j5k,v24]
 have N:k.length<=4:=by omega
 unfold q5m;simp (disch:=first | assumption | omega) only [cond_true,cond_false,aa,dcT,q1r,aI,cK,aD,j5j,hs,K3,z93 (show n+l.length<=4 by omega),p];have r:IntKind.i64.wrap ((m:Int)-(n:Int))=(m:Int)-(n:Int):=F6 (by omega) (by omega);rw[r];have f:min m n=m->(List.range' (min m n) (m+k.length-min m n)).map (I4 n d l m e k)=k:=λh=>by
  rw[h,show m+k.length-m=k.length by omega];grind[y3w,I4,plc]
 by_cases M:m=n
 ·have o:I4 n d l m e k (m-1)=e+d:=by
   grind[I4,plc]
  grind[F6,q4a]
 ·have w:((m:Int)-(n:Int)==0)=false:=U6 (by omega);by_cases T:m>n
  ·have c:min m n=n:=by omega
   have F:m-n<=l.length:=by omega
   have t:((m:Int)-(n:Int)).toNat=m-n:=by omega
   have u:IntKind.i64.wrap ((m:Int)-(n:Int)-1)=((m-n-1:Nat):Int):=by grind[F6]
   have b:(l.take (m-n)).length=m-n:=by grind
   have y:R0 (l.take (m-n),())=some (l.take (m-n),()):=by
    grind[R0,q1r]
   have D:(l.take (m-n))[m-n-1]? = some (l.getD (m-n-1) 0):=by
    grind
   have B:=A (m-n-1) _ (q4u (d:=0) (show m-n-1<l.length by omega));have o:I4 n d l m e k (m-1)=l.getD (m-n-1) 0+e:=by
    grind[I4,plc]
   have z:I4 n d l m e k (n-1)=d:=by
    grind[I4,plc]
   have x:IntKind.i64.wrap (l.getD (m-n-1) 0+e)=l.getD (m-n-1) 0+e:=F6 (by omega) (by omega);have g:((l.take (m-n)).set (m-n-1) (l.getD (m-n-1) 0+e))[m-n-1]? = some (l.getD (m-n-1) 0+e):=by
    grind
   have j:(l.take (m-n)).set (m-n-1) (l.getD (m-n-1) 0+e)++k=(List.range' n (m+k.length-n)).map (I4 n d l m e k):=by
    have a:((l.take (m-n)).set (m-n-1) (l.getD (m-n-1) 0+e)++k).length=m+k.length-n:=by grind
    rw[<-a];refine(y3w _ _ λi C=>?_).symm;rw[a]at C;rw[aR];by_cases s:i<m-n
    ·grind[I4,plc]
    grind[I4,plc]
   unfold q4a;rw[c,o,z,<-j];have d1:decide ((m:Int)-(n:Int)>0)=true:=decide_eq_true (by omega);simp (disch:=first | assumption | omega) only [cond_true,cond_false,aa,dcT,C3,ah,q1r,aD,w,t,u,List.drop_zero,Nat.sub_zero,y,b,D,x,g,q _ (show 0<=l.getD (m-n-1) 0+e by omega),dc,show(0:Int).toNat=0 from rfl];grind
  ·have o:I4 n d l m e k (m-1)=e:=by
    grind[I4,plc]
   grind[q4a]
theorem k4d (hs:sck n d l 4=0) (a:sck m e k ((n+l.length:Nat):Int)=0) {i:Nat} (h:¬i=m-1):I4 n d l m e k i<=1048576:=by
 obtain⟨r,q,b,t,p,c⟩:=Q9 hs;obtain⟨o,f,u,j,s,g⟩:=Q9 a;grind[I4,plc]
theorem k4c (hs:sck n d l 4=0) (f:sck m e k ((n+l.length:Nat):Int)=0) (i:Nat):0<=I4 n d l m e k i/\I4 n d l m e k i<=2097152:=by
 obtain⟨r,q,h,t,a,b⟩:=Q9 hs;obtain⟨j,o,v,s,g,c⟩:=Q9 f;have p:=y3i (n:=n) a b i;have u:=y3i (n:=m) g c i;grind[I4]
abbrev z9q:Type:=(Int×(Int×Int×List Int×Unit)×List Int×(Int×Int×Unit)×Unit)
def U2 (M:Nat) (x:Nat->Int) (j:Nat):List Int:=(List.range' M (j-M)).map x
def N7 (M:Nat) (x:Nat->Int) (j:Nat):Int:=if M<=j then x (M-1)else 0
theorem v9z {M j:Nat} (x:Nat->Int) (h:j<M):U2 M x (j+1)=U2 M x j:=by
 grind[U2]
theorem y3q {M j:Nat} (x:Nat->Int) (h:¬j<M):U2 M x (j+1)=U2 M x j++[x j]:=by
 unfold U2;rw[show j+1-M=(j-M)+1 by omega,List.range'_concat,bC];grind
theorem k00 (M:Nat) (x:Nat->Int) (j:Nat):(U2 M x j).length<=j:=by
 grind[U2]
theorem k0i (hs:sck n d l 4=0) (q:sck m e k ((n+l.length:Nat):Int)=0) :
  z0u (((n:Int),d,l,()),((m:Int),e,k,()),())=some (q4a n d l m e k):=by
 obtain⟨O,J,S,Q,I,R⟩:=Q9 hs;obtain⟨N,T,K,X,Y,V⟩:=Q9 q;have W:k.length<=4:=by omega
 let M:=min m n
 let x:=I4 n d l m e k
 let U:=λj=>((6,(0,0,[],()),U2 M x (j+1),(((min (j+1) M:Nat):Int),N7 M x (j+1),()),()):z9q)
 have t:=P5 (f:=z7g (((n:Int),d,l,()),((m:Int),e,k,()),())) (m+k.length) (λj=>((j:Int),(0,0,[],()),U2 M x j,(((min j M:Nat):Int),N7 M x j,()),())) (λj=>cond (decide (x j>1048576)) (some ((6,(0,0,[],()),U2 M x (j+1),(((min (j+1) M:Nat):Int),N7 M x (j+1),()),()):z9q)) none) (.inl ((0,0,[],()),U2 M x (m+k.length),(((M:Nat):Int),x (M-1),()),())) (λj r=>by
  have A:=k4c hs q j;have z:=k00 M x j;have s:IntKind.i64.wrap ((n:Int)-1)=(n:Int)-1:=F6 (by omega) (by omega);have u:IntKind.i64.wrap ((m:Int)-1)=(m:Int)-1:=F6 (by omega) (by omega);have B:=z7f (n:=m) (d:=e) (l:=k) (by omega) (by omega) r;unfold z7g;by_cases C:j<m
  ·have E:=z7f (n:=n) (d:=d) (l:=l) (by omega) (by omega) (show j<n+l.length by omega);have g:IntKind.i64.wrap (plc m e k j+plc n d l j)=x j:=by
    grind[I4,F6]
   simp (disch:=first | assumption | omega) only [cond_true,aa,am,dcT,B2,ai,aq,q1r,aD,q40 (show m+k.length<=4 by omega),B,E,g];by_cases F:j<n
   ·have p:j<M:=by omega
    have b:((min (j+1) M:Nat):Int)=((j+1:Nat):Int):=by omega
    rw[v9z x p,b];by_cases y:j+1=M
    ·have c:N7 M x (j+1)=x j:=by grind[N7]
     rw[c];by_cases G:j+1=n
     ·have i:((j:Int)==(n:Int)-1)=true:=J5 (by omega);simp (disch:=first | assumption | omega) only [cond_true,dcT,s,u,i];by_cases a:x j>1048576<;>simp (disch:=first | assumption | omega) only [decide_true,decide_false,cond_true,cond_false,a]<;>rfl
     ·have D:j+1=m:=by omega
      have i:((j:Int)==(n:Int)-1)=false:=U6 (by omega);have w:((j:Int)==(m:Int)-1)=true:=J5 (by omega);simp (disch:=first | assumption | omega) only [cond_true,cond_false,dcT,s,u,i,w];by_cases a:x j>1048576<;>simp (disch:=first | assumption | omega) only [decide_true,decide_false,cond_true,cond_false,a]<;>rfl
    ·have i:((j:Int)==(n:Int)-1)=false:=U6 (by omega);have w:((j:Int)==(m:Int)-1)=false:=U6 (by omega);have c:N7 M x (j+1)=0:=by grind[N7]
     have A:N7 M x j=0:=by grind[N7]
     rw[c,A];simp (disch:=first | assumption | omega) only [cond_true,cond_false,dcT,s,u,i,w];by_cases a:x j>1048576<;>simp (disch:=first | assumption | omega) only [decide_true,decide_false,cond_true,cond_false,a]<;>rfl
   ·have p:¬j<M:=by omega
    have b:((min (j+1) M:Nat):Int)=((min j M:Nat):Int):=by omega
    have c:N7 M x (j+1)=N7 M x j:=by grind[N7]
    rw[y3q x p,b,c];simp (disch:=first | assumption | omega) only [cond_false,dcF];by_cases a:x j>1048576<;>simp (disch:=first | assumption | omega) only [decide_true,decide_false,cond_true,cond_false,a]<;>rfl
  ·have p:¬j<M:=by omega
   have g:plc m e k j=x j:=by grind[I4]
   have b:((min (j+1) M:Nat):Int)=((min j M:Nat):Int):=by omega
   have c:N7 M x (j+1)=N7 M x j:=by grind[N7]
   rw[y3q x p,b,c];simp (disch:=first | assumption | omega) only [cond_true,cond_false,aa,am,dcT,dcF,B2,ai,aq,q1r,aD,q40 (show m+k.length<=4 by omega),B,g];by_cases a:x j>1048576<;>simp (disch:=first | assumption | omega) only [decide_true,decide_false,cond_true,cond_false,a]<;>rfl) (by
  grind[N7,z7g,q40]) (s0:=(0,(0,0,[],()),[],(0,0,()),())) (by
  grind[U2,N7])
 unfold z0u;simp (disch:=first | assumption | omega) only [cond_false,aa,j4b,hs,q,K3,q40 (show n+l.length<=4 by omega),t];have H:∀j,((6,(0,0,[],()),U2 M x (j+1),(((min (j+1) M:Nat):Int),N7 M x (j+1),()),()):z9q)=U j:=λj=>rfl;unfold q4a;by_cases g:x (m-1)>1048576
 ·have o:∃j,((List.range (m+k.length)).findSome? λj=>cond (decide (x j>1048576)) (some (U j)) none)=some (U j):=by
   cases o:(List.range (m+k.length)).findSome? λj=>cond (decide (x j>1048576)) (some (U j)) none with
   | none =>
    grind
   | some v =>
    obtain⟨j,_,r⟩:=dQ o;grind
  obtain⟨j,r⟩:=o;rw[r,if_pos g];rfl
 ·have o:((List.range (m+k.length)).findSome? λj=>cond (decide (x j>1048576)) (some (U j)) none)=none:=dr.2 λj _=>by
   have:¬x j>1048576:=by
    by_cases h:j=m-1
    ·grind
    ·have:x j<=1048576:=k4d hs q h;omega
   grind
  rw[o,if_neg g];rfl
def q0j (n:Nat) (d:Int) (l:List Int) (i:Nat):Int×Bool×Unit:=(plc n d l i,decide (i<n),())
theorem k48 (h1:1<=n) (h:n+l.length<=4):z2b (((n:Int),d,l,()),())=some (tab (n+l.length) (q0j n d l),()):=by
 have g:=D3 (f:=z94 (((n:Int),d,l,()),())) n (λj=>((j:Int),tab n (λi=>((0:Int),decide (i<j),())),())) (.inl (tab n (λi=>((0:Int),decide (i<n),())),())) (λj e=>by
  unfold z94;simp (disch:=first | assumption | omega) only [cond_true,aa,dcT,dcF,j2a,C3,ah,B2,P4,ch,q1v];grind[decide]) (by
  grind[z94]) (s0:=(0,List.replicate n ((0:Int),false,()),())) (by grind[q0o])
 have b:IntKind.i64.wrap ((n:Int)-1)=((n-1:Nat):Int):=by grind[F6]
 have c:(tab n (λi=>((0:Int),decide (i<n),()))).set (n-1) (d,true,())=tab n (q0j n d l):=by
  rw[q1v];grind[M3,q0j,plc]
 have a:=D3 (f:=z95 (((n:Int),d,l,()),())) l.length (λj=>(tab (n+j) (q0j n d l),(j:Int),())) (.inl (tab (n+l.length) (q0j n d l),())) (λj e=>by
  have k:q0j n d l (n+j)=(l.getD j 0,false,()):=by
   grind[q0j,plc]
  grind[z95,B2,P4,y4o,j9v,j5n]) (by
  grind[z95]) (s0:=(tab n (q0j n d l),0,())) rfl
 unfold z2b;simp (disch:=first | assumption | omega) only [cond_true,aa,am,dcT,j2a,C3,ah,P4,y4o,aI,cK,aD,z93 h,g,b,c,a]
def q2d (n:Nat) (d:Int) (l:List Int) (m:Nat) (e:Int) (k:List Int) (i:Nat):Bool:=decide (plc n d l i>plc m e k i)||(decide (i<n)&&!decide (i<m))
theorem k45 (hs:sck n d l 4=0) (a:sck m e k 4=0) :
  q7o (((n:Int),d,l,()),((m:Int),e,k,()),())=some (decide (n+l.length=m+k.length)&&!(List.range (n+l.length)).any (q2d n d l m e k),()):=by
 obtain⟨p,v,q,o,h,r⟩:=Q9 hs;obtain⟨t,f,c,g,w,s⟩:=Q9 a;unfold q7o;simp (disch:=first | assumption | omega) only [cond_false,aa,j5j,hs,a,K3,z93 (show n+l.length<=4 by omega),z93 (show m+k.length<=4 by omega)];by_cases j:n+l.length=m+k.length
 ·have b:A1 (z92 (tab (n+l.length) (q0j n d l),()) (tab (m+k.length) (q0j m e k),())) (0,())=some (if(List.range (n+l.length)).any (q2d n d l m e k)=true then .inl (false,())else .inr (.inl ())):=by
   refine q0h (n+l.length) () _ _ _ (λi u=>?_) ?_
   ·unfold z92;simp (disch:=first | assumption | omega) only [cond_true,aa,dcT,j2a,C3,ah,B2,P4];grind[q2d,q0j]
   grind[z92,P4]
  grind[k48]
 grind
theorem k0f (hs:sck n d l 4=0) (a:sck m e k 4=0) :
  z0s (((n:Int),d,l,()),((m:Int),e,k,()),())=some (decide (n+l.length=m+k.length)&&!(List.range (n+l.length)).any (q2d n d l m e k),()):=by
 obtain⟨j,w,q,o,h,s⟩:=Q9 hs;obtain⟨u,r,y,v,x,t⟩:=Q9 a;unfold z0s;simp (disch:=first | assumption | omega) only [cond_false,aa,j4b,hs,a,K3,q40 (show n+l.length<=4 by omega),q40 (show m+k.length<=4 by omega)];by_cases p:n+l.length=m+k.length
 ·have c:A1 (z7e (((n:Int),d,l,()),((m:Int),e,k,()),())) (0,())=some (if(List.range (n+l.length)).any (q2d n d l m e k)=true then .inl (false,())else .inr (.inl ())):=by
   refine q0h (n+l.length) () _ _ _ (λi f=>?_) ?_
   ·have g:=z7f (n:=n) (d:=d) (l:=l) (by omega) (by omega) f;have b:=z7f (n:=m) (d:=e) (l:=k) (by omega) (by omega) (show i<m+k.length by omega);unfold z7e;grind[B2,q40,q2d]
   grind[z7e,q40]
  grind
 grind
end

section
open Go Go.Abs

def up (l:List (List Int)):Prop:=l.Pairwise λa b=>B6 a b<0
theorem j62:∀{l m:List (List Int)},up l->up m->(∀t,t∈l↔t∈m)->l=m
 | [],[],_,_,_=>rfl
 | [],b::m,_,_,h=>absurd ((h b).2 (ar ..)) (by simp)
 | a::l,[],_,_,h=>absurd ((h a).1 (ar ..)) (by simp)
 | a::l,b::m,j,o,h=>by
  have f:=ba.1 j;have g:=ba.1 o;have i:a=b:=by
   rcases al.1 ((h a).1 (ar ..))with e | n
   ·exact e
   ·rcases al.1 ((h b).2 (ar ..))with e | k
    ·exact e.symm
    ·exact absurd (q11 (g.1 a n) (f.1 b k)) (S9 b)
  subst i;rw[j62 f.2 g.2 λt=>?_];constructor
  ·intro d;rcases al.1 ((h t).1 (aj _ d))with e | c
   ·exact absurd (f.1 t d) (e▸S9 _)
   ·exact c
  ·intro d;rcases al.1 ((h t).2 (aj _ d))with e | c
   ·exact absurd (g.1 t d) (e▸S9 _)
   ·exact c
end

section
open Go Go.Abs

def G8:List Int->List Int->Bool
 | a::r,b::s=>decide (a<=b)&&G8 r s
 | _,_=>true
theorem j5z:∀a:List Int,G8 a a=true
 | []=>rfl
 | a::r=>by simp[G8,j5z r]
theorem y8g:∀{a b c:List Int},a.length=b.length->b.length=c.length->G8 a b=true->G8 b c=true->G8 a c=true
 | [],_,_,_,_,_,_=>rfl
 | a::r,[],_,h,_,_,_=>by simp at h
 | a::r,b::s,[],_,h,_,_=>by simp at h
 | a::r,b::s,c::t,h1,h2,h3,h4=>by
  simp only[G8,ac,decide_eq_true_eq,ai]at *
  exact⟨by omega,y8g (by omega) (by omega) h3.2 h4.2⟩
theorem j5y:∀{a b:List Int},a.length=b.length->G8 a b=true->a=b\/(B6 a b<0/\a.sum<b.sum)
 | [],[],_,_=>.inl rfl
 | [],_::_,h,_=>by simp at h
 | _::_,[],h,_=>by simp at h
 | a::r,b::s,h,hu=>by
  simp only[G8,ac,decide_eq_true_eq,ai]at *
  simp only[B6,List.sum_cons];rcases j5y (a:=r) (b:=s) (by omega) hu.2 with e | ⟨h1,h2⟩
  ·subst e;by_cases hab:a=b
   ·left;rw[hab]
   ·right;rw[if_pos (by omega)];exact⟨by decide,by omega⟩
  ·right;by_cases hab:a<b
   ·rw[if_pos hab];exact⟨by decide,by omega⟩
   ·rw[if_neg hab,if_neg (by omega)];exact⟨h1,by omega⟩
theorem y86 {a b:List Int} (hl:a.length=b.length) (ha:a.length<=1000000):q7p (a,b,())=some (G8 a b,()):=by
 have key:∀k i,i+k=a.length->(A1 (z2f (a,b,())) ((i:Int),())).bind (Sum.elim (λz4=>(some z4)) (Sum.elim (λz5=>(some (true,()))) Empty.elim))=some (G8 (a.drop i) (b.drop i),()):=by
  intro k
  induction k with
  | zero =>
   intro i hi;rw[D9 (b:=.inr (.inl ())) (by
    unfold z2f;simp (disch:=omega) only [dcF,cond_false])]
   rw[bF (by omega),bF (by omega)];rfl
  | succ k ih =>
   intro i hi;have hia:i<a.length:=by omega
   have hib:i<b.length:=by omega
   have hst:z2f (a,b,()) ((i:Int),())=cond (decide (a[i]>b[i])) (some (.inr (.inl (false,())))) (some (.inl (((i+1:Nat):Int),()))):=by
    unfold z2f;simp (disch:=omega) only [dcT,cond_true,C6 hia,C6 hib,aa,B2]
   rw[aM hia,aM hib];by_cases he:a[i]<=b[i]
   ·rw[dcF (show ¬a[i]>b[i]by omega),cond_false]at hst;rw[H4 hst,ih (i+1) (by omega)];simp only[G8,decide_eq_true he,cK]
   ·rw[dcT (show a[i]>b[i]by omega),cond_true]at hst;rw[D9 hst];simp only[G8,decide_eq_false he,Bool.false_and];rfl
 unfold q7p;exact key a.length 0 (by omega)
def leB (a b:List Int):Bool:=decide (a.length=b.length)&&(decide (chk a=0)&&(decide (chk b=0)&&G8 a b))
theorem y1c {a b:List Int} (h:a.length=b.length) (ha:chk a=0) (hb:chk b=0):leB a b=G8 a b:=by
 unfold leB;rw[decide_eq_true h,decide_eq_true ha,decide_eq_true hb];rfl
theorem y4a (a b:List Int):z0w (a,b,())=some (leB a b,()):=by
 unfold z0w leB;simp only[z7h,aa,O0];by_cases h:a.length=b.length
 ·rw[if_pos (by omega),decide_eq_true h];by_cases h2:chk a=0
  ·rw[if_pos h2,decide_eq_true h2];by_cases h3:chk b=0
   ·rw[if_pos h3,decide_eq_true h3];have h4:=(U7 h2).2.1;have key:∀k i,i+k=a.length->(A1 (z0x (a,b,())) ((i:Int),())).bind (Sum.elim (λz6=>(some z6)) (Sum.elim (λz7=>(some (true,()))) Empty.elim))=some (G8 (a.drop i) (b.drop i),()):=by
     intro k
     induction k with
     | zero =>
      intro i hi;rw[D9 (b:=.inr (.inl ())) (by
       unfold z0x;simp (disch:=omega) only [dcF,cond_false])]
      rw[bF (by omega),bF (by omega)];rfl
     | succ k ih =>
      intro i hi;have hia:i<a.length:=by omega
      have hib:i<b.length:=by omega
      have hst:z0x (a,b,()) ((i:Int),())=cond (decide (a[i]>b[i])) (some (.inr (.inl (false,())))) (some (.inl (((i+1:Nat):Int),()))):=by
       unfold z0x;simp (disch:=omega) only [dcT,cond_true,C6 hia,C6 hib,aa,B2]
      rw[aM hia,aM hib];by_cases he:a[i]<=b[i]
      ·rw[dcF (show ¬a[i]>b[i]by omega),cond_false]at hst;rw[H4 hst,ih (i+1) (by omega)];simp only[G8,decide_eq_true he,cK]
      ·rw[dcT (show a[i]>b[i]by omega),cond_true]at hst;rw[D9 hst];simp only[G8,decide_eq_false he,Bool.false_and];rfl
    exact key a.length 0 (by omega)
   ·rw[if_neg h3,decide_eq_false h3];rfl
  ·rw[if_neg h2,decide_eq_false h2];rfl
 ·rw[if_neg (by omega),decide_eq_false h];rfl
end

section
open Go Go.Abs

noncomputable def z3q (a b:List Int):Option Int:=(q46 (a,b,())).map λr=>r.1
theorem j84 {a b:List Int} (c:a.length<=1000000):z3q a b=some (B6 a b):=by
 grind[z3q,z8g]
theorem q6s {a b:List Int} (c:a.length<=1000000):ltF z3q a b↔B6 a b<0:=by
 grind[ltF,j84]
def q50 (t:List Int):List (List Int)->List (List Int)
 | []=>[t]
 | u::l=>if B6 u t<0 then u::q50 t l else t::u::l
def G1:List (List Int)->List (List Int)
 | []=>[]
 | t::l=>q50 t (G1 l)
theorem j2m (t:List Int):∀l,(q50 t l).Perm (t::l)
 | []=>cq _
 | u::l=>by
  simp[q50];split
  ·exact((j2m t l).cons u).trans (List.Perm.swap t u l)
  ·exact cq _
theorem q2q:∀l,(G1 l).Perm l
 | []=>cq _
 | t::l=>(j2m t (G1 l)).trans ((q2q l).cons t)
theorem y0q {t:List Int}:∀{l:List (List Int)},l.Pairwise (λa b=>¬B6 b a<0)->(q50 t l).Pairwise λa b=>¬B6 b a<0
 | [],_=>by simp[q50]
 | u::l,h=>by
  have f:=ba.1 h;simp only[q50];split
  ·refine ba.2 ⟨λv d=>?_,y0q f.2⟩;rcases al.1 ((j2m t l).mem_iff.1 d)with rfl | d
   ·intro h;rw[T0]at h;omega
   ·exact f.1 v d
  ·rename_i g;refine ba.2 ⟨λv d=>?_,h⟩;rcases al.1 d with rfl | d
   ·exact g
   ·intro c;rw[T0]at g;have i:=f.1 v d;rw[T0]at i;by_cases e:B6 t u=0
    ·rw[cmpL_eq.1 e]at c;rw[T0]at c;omega
    ·exact absurd (q11 c (show B6 t u<0 by omega)) (by rw[T0];omega)
theorem z1q:∀l:List (List Int),(G1 l).Pairwise λa b=>¬B6 b a<0
 | []=>List.Pairwise.nil
 | t::l=>y0q (z1q l)
theorem k3g {l:List (List Int)} (h:∀t∈l,t.length<=1000000):O6 z3q l=some (G1 l):=by
 refine z8i ⟨λx c y _=>⟨_,j84 (h x c)⟩,λx c d=>S9 x ((q6s (h x c)).1 d),λx c y f z _ g i=>(q6s (h x c)).2 (q11 ((q6s (h x c)).1 g) ((q6s (h y f)).1 i)),λx c y f g i=>?_⟩ (q2q l) ?_
 ·grind[q6s,T0,cmpL_eq]
 ·have j:∀t∈G1 l,t.length<=1000000:=λt k=>h t ((q2q l).mem_iff.1 k);refine(List.Pairwise.and_mem.1 (z1q l)).imp λ{a b} e d=>e.2.2 ((q6s (j b e.2.1)).1 d)
def q9a (K:List (List Int)) (t:List Int):List (List Int):=if(K.any λu=>G8 u t)=true then K else K++[t]
def R9 (S:List (List Int)):List (List Int):=S.foldl q9a []
theorem j2v (S:List (List Int)) (t:List Int):R9 (S++[t])=q9a (R9 S) t:=by grind[R9]
theorem v60:∀(S:List (List Int)) (k:Nat),k<=S.length->(R9 (S.take k)).length<=k/\∀u∈R9 (S.take k),u∈S.take k:=by
 intro S k
 induction k with
 | zero=>intro _;exact⟨ax _,λu a=>by cases a⟩
 | succ k b =>
  grind[List.take_succ_eq_append_getElem,j2v,q9a]
variable {t:List Int}
theorem j7y (h:t.length<=1000000):R0 (t,())=some (t,()):=by
 grind[R0,D4]
theorem v6j {K:List (List Int)} (z:Int×Unit) {d:Nat} (l:∀u∈K,u.length=d) (e:t.length=d) (j:d<=4) (g:K.length<=2000000000) :
  (((A1 (z2e (K,z) t) ((0:Int),())).bind (Sum.elim (λc=>(some (Sum.inl c))) (Sum.elim (λh=>(some (Sum.inl ((-1:Int),())))) Empty.elim))):Option ((Int×Unit)⊕Empty))=some (.inl (((((List.range K.length).find? λi=>G8 (K.getD i []) t).map λi:Nat=>(i:Int)).getD (-1)),())):=by
 have k:=P5 (f:=z2e (K,z) t) K.length (λi=>((i:Int),())) (λi=>cond (G8 (K.getD i []) t) (some ((i:Int),())) none) (.inl ()) (λi a=>by
  have b:(K.getD i []).length=d:=by grind
  unfold z2e;simp (disch:=omega) only [dcT,cond_true,C3 a,ah,q4u (d:=[]) a,aa,y86 (show(K.getD i []).length=t.length by omega) (show(K.getD i []).length<=1000000 by omega)];rw[B2 (by omega)];cases G8 (K.getD i []) t<;>rfl) (by
  grind[z2e]) (s0:=((0:Int),())) rfl
 rw[q29 (λi=>G8 (K.getD i []) t) λi=>((i:Int),())]at k;rw[k];cases(List.range K.length).find? λi=>G8 (K.getD i []) t<;>rfl
theorem v1r (K:List (List Int)) (t:List Int):(K.any λu=>G8 u t)=((List.range K.length).find? λi=>G8 (K.getD i []) t).isSome:=by
 rw[ci,bQ,List.find?_isSome];constructor
 ·rintro ⟨u,b,h⟩;obtain⟨i,a,rfl⟩:=bl.1 b;exact⟨i,aL.2 a,by grind⟩
 grind
theorem y85 {l:List (List Int)} {d:Nat} (w:l.length<=1000000000) (s:d<=4) (h:∀t∈l,t.length=d):z2d (l,())=some (R9 (G1 l),()):=by
 have v:z8f (l,())=some (l,()):=by
  grind[z8f,D4]
 have o:=k3g (l:=l) λt e=>by grind
 have p:O6 (λa b=>(q46 (a,b,())).map λr=>r.1) l=some (G1 l):=o;have k:(G1 l).length=l.length:=(q2q l).length_eq;have c:∀t∈G1 l,t.length=d:=λt e=>h t ((q2q l).mem_iff.1 e);have n:A1 (z98 (G1 l)) (([]:List (List Int)),(0:Int),())=some (.inl (R9 (G1 l),())):=by
  refine D3 (G1 l).length (λi=>(R9 ((G1 l).take i),(i:Int),())) _ (λi f=>?_) ?_ rfl
  ·obtain⟨x,q⟩:=v60 (G1 l) i (by omega);have m:∀u∈R9 ((G1 l).take i),u.length=d:=λu g=>c u (bq (q u g));have e:((G1 l)[i]).length=d:=c _ (ay f);rw[aw f,j2v];generalize R9 ((G1 l).take i)=K at *
   unfold z98;simp (disch:=omega) only [dcT,cond_true,C3 f,ah,af f,aa];rw[v6j _ m e s (by omega),aa,am];unfold q9a;rw[v1r];cases(List.range K.length).find? λj=>G8 (K.getD j []) (G1 l)[i]with
   | some j =>
    grind[B2]
   | none =>
    simp (disch:=omega) only [bJ,Option.getD_none,d1,bv,cond_true,j7y (show((G1 l)[i]).length<=1000000 by omega),aa,ai,aq,D4,aI,ft,bO,if_false];grind[B2]
  grind[z98]
 unfold z2d;grind[D4]
end

section
open Go Go.Abs

def V6 (l:List (List Int)) (t:List Int):Bool:=l.all λu=>!(G8 u t&&decide (u≠t))
variable {t:List Int}
theorem min_iff {l:List (List Int)}:V6 l t=true↔∀u∈l,G8 u t=true->u=t:=by
 grind[V6]
theorem k12 {l:List (List Int)} {d:Nat} (g:l.length<=1000000000) (e:∀u∈l,chk u=0/\u.length=d) (c:chk t=0/\t.length=d):A1 (z7j (l,()) t) (true,(0:Int),())=some (.inl (V6 l t,())):=by
 refine D3 l.length (λi=>(V6 (l.take i) t,(i:Int),())) _ (λi b=>?_) ?_ rfl
 ·have a:=e _ (ay b);have f:=(U7 a.1).2.1;unfold z7j;simp (disch:=omega) only [dcT,cond_true,C6 b,aa,y4a,y1c (show l[i].length=t.length by omega) a.1 c.1,q41 (show l[i].length<=1000000 by omega),B2];grind[V6,List.take_succ_eq_append_getElem]
 grind[z7j]
theorem k0l {l:List (List Int)} {d:Nat} (g:l.length<=1000000000) (b:∀u∈l,chk u=0/\u.length=d):z0v (l,())=some ((H6 l).filter (V6 l),()):=by
 obtain⟨j,f,h⟩:=q0r l;have a:A1 (z7k (l,()) (H6 l,())) (([]:List (List Int)),(0:Int),())=some (.inl ((H6 l).filter (V6 l),())):=by
  refine D3 (H6 l).length (λi=>(((H6 l).take i).filter (V6 l),(i:Int),())) _ (λi c=>?_) ?_ rfl
  ·have e:(((H6 l).take i).filter (V6 l)).length<=i:=bw (bA _ _) (by grind);unfold z7k;simp (disch:=omega) only [dcT,cond_true,C6 c,aa,k12 g b (b _ ((f _).1 (ay c))),am,ai,aq,B2,D4,aI];grind[List.take_succ_eq_append_getElem]
  grind[z7k]
 unfold z0v;rw[y4b (show l.length<=2000000000 by omega) d b,aa,a];rfl
theorem v6h {p:List Int->Prop} (f:List Int->Nat) (h:∃i,p i):∃i,p i/\∀j,p j->f i<=f j:=by
 have a:∀m i,p i->f i<=m->∃i,p i/\∀j,p j->f i<=f j:=by
  intro m
  induction m with
  | zero=>grind
  | succ m c =>
   grind
 obtain⟨i,b⟩:=h;exact a (f i) i b (ax _)
theorem y7u:∀{a:List Int},(∀v∈a,0<=v)->0<=a.sum
 | [],_=>by simp
 | v::a,h=>by
  rw[List.sum_cons];have c:=h v (ar ..);have d:=y7u λw b=>h w (aj _ b);omega
theorem v2x {a:List Int} (h:chk a=0):0<=a.sum:=y7u λv c=>by
 obtain⟨i,b,rfl⟩:=bl.1 c;exact((U7 h).2.2 i _ (af b)).1
section
variable {l:List (List Int)} {d:Nat}
theorem v7k (f:∀u∈l,chk u=0/\u.length=d) (g:t∈l):∃u,u∈l/\G8 u t=true/\V6 l u=true:=by
 obtain⟨u,⟨i,c⟩,a⟩:=v6h (p:=λu=>u∈l/\G8 u t=true) (λu=>u.sum.toNat) ⟨t,g,j5z t⟩;refine⟨u,i,c,min_iff.2 λv h b=>?_⟩;have j:=f v h;have k:=f u i;have n:=f t g;rcases j5y (by omega) b with e | ⟨_,m⟩
 ·omega
 ·have:=a v ⟨h,y8g (by omega) (by omega) b c⟩;have:=v2x j.1;omega
theorem v64 (n:∀u∈l,chk u=0/\u.length=d):∀k,k<=(G1 l).length->(∀t,t∈R9 ((G1 l).take k)↔t∈(G1 l).take k/\V6 l t=true)/\up (R9 ((G1 l).take k)):=by
 intro k
 induction k with
 | zero=>intro _;rw[List.take_zero];exact⟨λt=>⟨λh=>(by cases h),λh=>(by grind)⟩,List.Pairwise.nil⟩
 | succ k o =>
  intro r;have b:k<(G1 l).length:=by omega
  obtain⟨v,m⟩:=o (by omega);have c:∀u,u∈G1 l↔u∈l:=λu=>(q2q l).mem_iff;have j:=ct.1 (z1q l);have i:∀u∈l,B6 u (G1 l)[k]<0->u∈(G1 l).take k:=λu g s=>by
   grind[List.mem_iff_getElem,S9]
  have e:(G1 l)[k]∈l:=(c _).1 (ay b);rw[aw b,j2v];unfold q9a;by_cases a:((R9 ((G1 l).take k)).any λu=>G8 u (G1 l)[k])=true
  ·grind[min_iff]
  ·rw[if_neg a];have f:V6 l (G1 l)[k]=true:=by
    obtain⟨u,g,p,q⟩:=v7k n e;grind[j5y]
   refine⟨λt=>?_,?_⟩
   ·grind
   ·unfold up;rw[fa];refine⟨m,List.pairwise_singleton _ _,λu g t w=>?_⟩;grind[List.mem_iff_getElem,T0,cmpL_eq,j5z]
theorem j9p (b:∀u∈l,chk u=0/\u.length=d):R9 (G1 l)=(H6 l).filter (V6 l):=by
 obtain⟨e,c,a⟩:=q0r l;have h:=v64 b (G1 l).length (ax _);rw[cX]at h;refine j62 h.2 (a.filter _) λt=>?_;grind[q2q]
end
theorem k07 {l:List (List Int)} (c:l.length<=2000000000) (h:∀x∈l,x.length<=1000000):z6o (l,l,())=some (true,()):=by
 unfold z6o;simp[K3 rfl,cond_false];have a:=P5 (f:=z6p (l,l,())) l.length (λi=>((i:Int),())) (λ_=>(none:Option (Bool×Unit))) (.inl ()) (λi b=>by
  unfold z6p;simp (disch:=omega) only [dcT,cond_true,C6 b,aa,q41 (h _ (ay b)),decide_true,bp,cond_false,B2];rfl) (by
  grind[z6p]) (s0:=((0:Int),())) rfl
 rw[a,show(List.range l.length).findSome? (λ_=>(none:Option (Bool×Unit)))=none by simp];rfl
end

section
open Go Go.Abs

structure Part {α:Type} (p:α->Bool) (s:List α) (i j:Nat) (l:List α):Prop where
 ij:i<=j
 js:j<=s.length
 len:l.length=s.length
 head:l.take i=(s.take j).filter p
 tail:l.drop j=s.drop j
variable {α:Type} {i:Nat} {j:Nat} {p:α->Bool} {s:List α} {l:List α}
theorem Part.get (h:Part p s i j l) (hj:j<s.length):l[j]? = some s[j]:=by
 have:=h.tail;have h1:(l.drop j)[0]? = (s.drop j)[0]?:=by rw[this]
 rw[aT,aT,cz]at h1;rw[h1,af hj]
theorem Part.skip (h:Part p s i j l) (hj:j<s.length) (hp:p s[j]=false):Part p s i (j+1) l:=by
 refine⟨by have:=h.ij;omega,hj,h.len,?_,?_⟩
 ·rw[aw hj,bW,h.head];simp[hp]
 ·have h1:=congrArg (List.drop 1) h.tail;rw[dt,dt]at h1;exact h1
theorem Part.keep (h:Part p s i j l) (hj:j<s.length) (hp:p s[j]=true):Part p s (i+1) (j+1) (l.set i s[j]):=by
 have h0:=h.ij;have h9:=h.len;refine⟨by omega,hj,by rw[dc];exact h.len,?_,?_⟩
 ·rw[aw hj,bW,<-h.head];have hi:i<(l.set i s[j]).length:=by rw[dc];omega
  rw[aw hi,List.getElem_set_self,List.take_set_of_le (ax i)];simp[hp]
 ·rw[fk (by omega)];have h1:=congrArg (List.drop 1) h.tail;rw[dt,dt]at h1;exact h1
theorem Part.count (h:Part p s i j l):i=((s.take j).filter p).length:=by
 rw[<-h.head,aY];have:=h.ij;have:=h.js;have:=h.len;omega
theorem Part.done (h:Part p s i s.length l):l.take i=s.filter p:=by
 have:=h.head;rw[cX]at this;exact this
end

end Go.Proofs.Tryz
