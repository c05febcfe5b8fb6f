/- Lemmas on functions of the program, by name. -/
import Derived.Test.YteeaadgpkammdaaGreatDoorZTFuns
import Derived.Test.YteeaadgpkammdaaGreatDoorAbsSums
namespace Go.Proofs.Tryz
section
open Go Go.Abs

abbrev HKy:=Int×(Int×Int×Int×Int×Unit)×Unit
abbrev HT:Ty:=.cons (.int .i64) (.cons (.cons (.int .i64) (.cons (.int .i64) (.cons (.int .i64) (.cons (.int .i64) .nil)))) .nil)
def F0 (t:List Int):HKy:=((t.length:Int),((t[0]?).getD 0,(t[1]?).getD 0,(t[2]?).getD 0,(t[3]?).getD 0,()),())
def j10 (k:HKy):List Int:=([k.2.1.1,k.2.1.2.1,k.2.1.2.2.1,k.2.1.2.2.2.1]:List Int).take k.1.toNat
theorem z5c {t:List Int} (h:t.length<=4):j10 (F0 t)=t:=by
 match t,h with
 | [],_=>rfl
 | [a],_=>rfl
 | [a,b],_=>rfl
 | [a,b,c],_=>rfl
 | [a,b,c,d],_=>rfl
 | _::_::_::_::_::_,h=>simp at h
theorem y79 {t u:List Int} (ht:t.length<=4) (hu:u.length<=4) (h:F0 t=F0 u):t=u:=by
 rw[<-z5c ht,h,z5c hu]
end

section
open Go Go.Abs

abbrev KK:Ty:=.cons (.int .i64) HT
abbrev KyK:=Int×HKy
abbrev BgK:=List (KyK×Int)
abbrev Mk:=Int×List Int×Int×Unit
noncomputable instance kyDec:DecidableEq KyK:=fun _ _=>Classical.propDecidable _
theorem K4:KK.flat=true:=rfl
def kyM (r:Mk):KyK:=(r.1,F0 r.2.1)
def Wk (n:Int):Int:=IntKind.i64.wrap n
def I7 (m:BgK) (k:KyK):Int:=(B9 KK m k).getD 0
structure BagK (m:BgK) (T:KyK->Int):Prop where
 rise:Rise KK m
 num:∀ k,I7 m k=T k
 nz:∀ p∈m,p.2≠0
def q19 (m:BgK) (k:KyK) (n:Int):BgK :=
 cond (I7 (B4 KK (F1 KK m k 0) k (Wk (I7 m k+n))) k==0) (G5 KK (B4 KK (F1 KK m k 0) k (Wk (I7 m k+n))) k) (B4 KK (F1 KK m k 0) k (Wk (I7 m k+n)))
theorem j6f (m:BgK) (k j:KyK) (v:Int):I7 (B4 KK m k v) j=if j=k then v else I7 m j:=by
 unfold I7
 by_cases h:j=k
 ·subst h;rw[q4u K4,if_pos rfl];rfl
 ·rw[q4t K4 _ _ _ _ h,if_neg h]
theorem y5q {m:BgK} (h:Rise KK m) (k:KyK):Rise KK (F1 KK m k 0):=q2b K4 h
theorem y8q (m:BgK) (k j:KyK):I7 (F1 KK m k 0) j=I7 m j:=by
 unfold F1
 rw[j6f]
 split
 ·rename_i h;subst h;rfl
 ·rfl
theorem v0c {m:BgK} {T:KyK->Int} (h:BagK m T) (k:KyK) (n:Int):BagK (q19 m k n) (fun j=>if j=k then Wk (T k+n)else T j):=by
 have hr:=q2b K4 (k:=k) (v:=Wk (I7 m k+n)) (y5q h.rise k)
 have hn:∀ j,I7 (B4 KK (F1 KK m k 0) k (Wk (I7 m k+n))) j=if j=k then Wk (T k+n)else T j:=fun j=>by
  rw[j6f,y8q,h.num,h.num]
 have hmem:∀ p∈B4 KK (F1 KK m k 0) k (Wk (I7 m k+n)),p=(k,Wk (T k+n))\/(p∈m/\p.1≠k):=fun p hp=>by
  by_cases hk:p.1=k
  ·have h1:B9 KK (B4 KK (F1 KK m k 0) k (Wk (I7 m k+n))) p.1=some p.2:=(q0a K4 hr).2 hp
   rw[hk,q4u K4]at h1
   left
   exact Prod.ext hk ((Option.some.inj h1).symm.trans (by rw[h.num]))
  ·have h1:B9 KK (B4 KK (F1 KK m k 0) k (Wk (I7 m k+n))) p.1=some p.2:=(q0a K4 hr).2 hp
   unfold F1 at h1
   rw[q4t K4 _ _ _ _ hk,q4t K4 _ _ _ _ hk]at h1
   exact .inr ⟨(q0a K4 h.rise).1 h1,hk⟩
 unfold q19
 generalize B4 KK (F1 KK m k 0) k (Wk (I7 m k+n))=M at hr hn hmem ⊢
 have hz:=hn k
 rw[if_pos rfl]at hz
 rw[hz]
 by_cases h0:Wk (T k+n)=0
 ·rw[h0]
  simp only[beq_self_eq_true,cond_true]
  refine⟨z1s hr,fun j=>?_,fun p hp=>?_⟩
  ·unfold I7
   by_cases hj:j=k
   ·subst hj;rw[y86 K4,if_pos rfl];rfl
   ·rw[y85 K4 hr hj,if_neg hj]
    have:=hn j
    rw[if_neg hj]at this
    exact this
  ·have hp1:p∈M/\¬ KK.eqb k p.1=true:=by
    simpa[G5]using hp
   rcases hmem p hp1.1 with h2 | ⟨h2,-⟩
   ·exact absurd ((KK.eqb_iff K4 k p.1).2 (by rw[h2])) hp1.2
   ·exact h.nz p h2
 ·have hb:(Wk (T k+n)==0)=false:=by simpa using h0
  rw[hb,cond_false]
  refine⟨hr,hn,fun p hp=>?_⟩
  rcases hmem p hp with h2 | ⟨h2,-⟩
  ·rw[h2];exact h0
  ·exact h.nz p h2
theorem y4d {m:BgK} {T:KyK->Int} (h:BagK m T) (p:KyK×Int):p∈m↔p.2≠0/\T p.1=p.2:=by
 constructor
 ·intro hp
  refine⟨h.nz p hp,?_⟩
  rw[<-h.num]
  unfold I7
  rw[(q0a K4 h.rise).2 hp];rfl
 ·rintro ⟨h0,h1⟩
  rw[<-h.num]at h1
  unfold I7 at h1
  cases hg:B9 KK m p.1 with
  | none=>rw[hg]at h1;exact absurd h1.symm h0
  | some v =>
   rw[hg]at h1
   have h1:v=p.2:=h1
   subst h1
   exact(q0a K4 h.rise).1 hg
theorem j29 {m:BgK} (h:Rise KK m):m.Nodup:=List.Pairwise.imp (fun {a b} hab e=>hab (by rw[e])) (h.ne K4)
noncomputable def z5g:List Mk->(KyK->Int)->(KyK->Int)
 | [],T=>T
 | r::l,T=>z5g l (fun j=>if j=kyM r then Wk (T (kyM r)+r.2.2.1)else T j)
def W2 (l:List Mk) (m:BgK):BgK:=l.foldl (fun m r=>q19 m (kyM r) r.2.2.1) m
theorem j2a:∀ (l:List Mk) {m:BgK} {T:KyK->Int},BagK m T->BagK (W2 l m) (z5g l T)
 | [],_,_,h=>h
 | r::l,_,_,h=>j2a l (v0c h (kyM r) r.2.2.1)
theorem v0d (m:BgK) (k:KyK) (n:Int):(q19 m k n).length<=m.length+1:=by
 have key:∀ (m:BgK) (k:KyK) (v:Int),(B4 KK m k v).length<=m.length+1:=by
  intro m
  induction m with
  | nil=>intro k v;simp[B4]
  | cons p r ih =>
   intro k v
   have:=ih k v
   simp only[B4]
   cases KK.eqb k p.1 with
   | true=>simp
   | false =>
    cases KK.lt k p.1 with
    | true=>simp
    | false=>simp only[cond_false,List.length_cons];omega
 have ent:(B4 KK (F1 KK m k 0) k (Wk (I7 m k+n))).length=(F1 KK m k 0).length:=by
  have k2:∀ (m:BgK) (k:KyK) (v w:Int),(B4 KK (B4 KK m k v) k w).length=(B4 KK m k v).length:=by
   intro m
   induction m with
   | nil=>intro k v w;simp[B4,KK.eqb_self K4]
   | cons p r ih =>
    intro k v w
    simp only[B4]
    cases h1:KK.eqb k p.1 with
    | true=>simp only[cond_true,B4,KK.eqb_self K4];rfl
    | false =>
     cases h2:KK.lt k p.1 with
     | true=>simp only[cond_true,cond_false,B4,KK.eqb_self K4];rfl
     | false=>simp only[cond_false,B4,h1,h2,List.length_cons,ih]
  exact k2 _ _ _ _
 have h1:=key m k ((B9 KK m k).getD 0)
 unfold q19
 cases(I7 (B4 KK (F1 KK m k 0) k (Wk (I7 m k+n))) k==0)with
 | true =>
  simp only[cond_true]
  refine Nat.le_trans (List.length_filter_le _ _) ?_
  rw[ent];exact h1
 | false =>
  simp only[cond_false]
  rw[ent];exact h1
theorem z6e:∀ (l:List Mk) (m:BgK),(W2 l m).length<=m.length+l.length
 | [],m=>Nat.le_refl _
 | r::l,m=>by
  have h1:=v0d m (kyM r) r.2.2.1
  have h2:=z6e l (q19 m (kyM r) r.2.2.1)
  show(W2 l (q19 m (kyM r) r.2.2.1)).length<=_
  rw[List.length_cons];omega
end

section
open Go Go.Abs

def bad (v:Int):Bool:=decide (v<0)||decide (v>1048576)
theorem z6d {β:Type} (v:Int) (b:β) (s:Int×Unit):(cond (decide (v<(0:Int))) (some (Sum.inr b)) (cond (decide (v>(1048576:Int))) (some (Sum.inr b)) (some (Sum.inl s))):Option ((Int×Unit)⊕β))=some (if bad v=true then .inr b else .inl s):=by
 unfold bad
 by_cases h1:v<0
 ·simp[h1]
 ·by_cases h2:v>1048576
  ·simp[h1,h2]
  ·simp[h1,h2]
theorem q9y {v:Int} (h:bad v=false):0<=v/\v<=1048576:=by
 unfold bad at h
 simp at h
 omega
end

section
open Go Go.Abs

def chk (l:List Int):Int:=if l.length=0\/l.length>4 then 1 else if l.any bad=true then 2 else 0
theorem W3 {l:List Int} (h:chk l=0):0<l.length/\l.length<=4/\∀ (i:Nat) (v:Int),l[i]? = some v->0<=v/\v<=1048576:=by
 unfold chk at h
 split at h
 ·cases h
 ·split at h
  ·cases h
  ·rename_i h1 h2
   refine⟨by omega,by omega,fun i v hi=>q9y ?_⟩
   have hm:=List.mem_of_getElem? hi
   cases hb:bad v with
   | false=>rfl
   | true=>exact absurd (List.any_eq_true.2 ⟨v,hm,hb⟩) h2
theorem v5s (l:List Int) (hl:l.length<=4):A2 (z5d (l,())) (0,())=some (if l.any bad=true then Sum.inl (2,())else Sum.inr (Sum.inl ())):=by
 refine z1q l bad (Sum.inl (2,())) (Sum.inr (Sum.inl ())) (fun i v hi=>?_) ?_
 ·have hlt:=(List.getElem?_eq_some_iff.1 hi).1
  have hi':((i:Int)<(l.length:Int)):=by omega
  unfold z5d
  simp only[hi',decide_true,cond_true,U2,hi,Option.bind_some]
  rw[E7 (by omega) (by omega)]
  exact z6d v _ _
 ·simp[z5d]
theorem v1b (l:List Int) (hl:l.length<=4):A2 (z3o (l,())) (0,())=some (if l.any bad=true then Sum.inl (2,())else Sum.inr (Sum.inl ())):=by
 refine z1q l bad (Sum.inl (2,())) (Sum.inr (Sum.inl ())) (fun i v hi=>?_) ?_
 ·have hlt:=(List.getElem?_eq_some_iff.1 hi).1
  have hi':((i:Int)<(l.length:Int)):=by omega
  unfold z3o
  simp only[hi',decide_true,cond_true,U2,hi,Option.bind_some]
  rw[E7 (by omega) (by omega)]
  exact z6d v _ _
 ·simp[z3o]
theorem y0e (l:List Int):q9d (l,())=some (chk l,()):=by
 unfold q9d chk
 by_cases h0:l.length=0
 ·simp[h0]
 ·by_cases h4:l.length>4
  ·have:((l.length:Int)>4):=by omega
   simp[h0,h4,this]
  ·have h5:¬ ((l.length:Int)>4):=by omega
   have h6:((l.length:Int)==0)=false:=by simp;exact fun h=>h0 (by simp[h])
   simp only[h6,cond_false,h5,decide_false]
   have hn:¬ (l.length=0\/l.length>4):=by omega
   rw[v5s l (by omega),if_neg hn]
   split<;>rfl
theorem z3n (l:List Int):X9 (l,())=some (chk l,()):=by
 unfold X9 chk
 by_cases h0:l.length=0
 ·simp[h0]
 ·have h6:¬ ((l.length:Int)<1):=by omega
  by_cases h4:l.length>4
  ·have:((l.length:Int)>4):=by omega
   simp[h4,this,h6]
  ·have h5:¬ ((l.length:Int)>4):=by omega
   simp only[h6,cond_false,h5,decide_false]
   have hn:¬ (l.length=0\/l.length>4):=by omega
   rw[v1b l (by omega),if_neg hn]
   split<;>rfl
end

section
open Go Go.Abs

theorem q13 {β:Type} (p:Nat->Bool) (g:Nat->β) (l:List Nat):(l.findSome? fun i=>cond (p i) (some (g i)) none)=(l.find? p).map g:=by
 induction l with
 | nil=>rfl
 | cons a r ih =>
  rw[List.findSome?_cons,List.find?_cons]
  cases p a with
  | true=>rfl
  | false=>exact ih
theorem q4g {p:Nat->Bool} {n:Nat} (h:(List.range n).find? p=none):∀ i,i<n->p i=false:=fun i hi=>by
 have:=List.find?_eq_none.1 h i (List.mem_range.2 hi)
 simpa using this
theorem j4a {β:Type} (p:Nat->Bool) (b:β) (l:List Nat):(l.findSome? fun r=>cond (p r) (some b) none)=if l.any p=true then some b else none:=by
 induction l with
 | nil=>rfl
 | cons a r ih =>
  rw[List.findSome?_cons,List.any_cons]
  cases p a with
  | true=>rfl
  | false=>rw[cond_false,ih];simp
theorem J0 {α:Type} {l:List α} {i:Int} (d:α) (h0:0<=i) (h1:i<l.length):A7 l i=some (l.getD i.toNat d):=by
 obtain⟨k,rfl⟩:=Int.eq_ofNat_of_zero_le h0
 rw[U2]
 rw[Int.toNat_natCast]
 exact R9 (by omega)
theorem E9 {α:Type} {l:List α} {i:Nat} (h:i<l.length):A7 l (i:Int)=some l[i]:=by
 rw[U2,List.getElem?_eq_getElem h]
theorem G3 {n k:Nat} (h:n<=140737488355328) (h2:n*k<=140737488355328):B2 n k=true:=by
 unfold B2
 rw[Bool.and_eq_true]
 exact⟨Nat.ble_eq_true_of_le h,Nat.ble_eq_true_of_le h2⟩
end

section
open Go Go.Abs

def B0:List Int->List Int->Int
 | [],[]=>0
 | [],_::_=>-1
 | _::_,[]=>1
 | a::r,b::s=>if a<b then -1 else if a>b then 1 else B0 r s
theorem cmpL_eq:∀ {a b:List Int},B0 a b=0↔a=b
 | [],[]=>by simp[B0]
 | [],_::_=>by simp[B0]
 | _::_,[]=>by simp[B0]
 | a::r,b::s=>by
  have ih:=cmpL_eq (a:=r) (b:=s)
  simp only[B0,List.cons.injEq]
  split
  ·constructor
   ·intro h;omega
   ·intro h;omega
  ·split
   ·constructor
    ·intro h;omega
    ·intro h;omega
   ·rw[ih];constructor
    ·intro h;exact⟨by omega,h⟩
    ·exact fun h=>h.2
theorem P8:∀ (a b:List Int),B0 b a=- B0 a b
 | [],[]=>rfl
 | [],_::_=>rfl
 | _::_,[]=>rfl
 | a::r,b::s=>by
  have ih:=P8 r s
  simp only[B0]
  by_cases h1:a<b
  ·rw[if_pos h1,if_neg (by omega),if_pos (by omega)];rfl
  ·by_cases h2:a>b
   ·rw[if_pos (show b<a from h2),if_neg h1,if_pos h2]
   ·rw[if_neg h1,if_neg h2,if_neg (by omega),if_neg (by omega),ih]
theorem q05:∀ {a b c:List Int},B0 a b<0->B0 b c<0->B0 a c<0
 | [],[],c,h,_=>by simp[B0]at h
 | [],_::_,[],_,h=>by simp[B0]at h
 | [],_::_,_::_,_,_=>by simp[B0]
 | _::_,[],_,h,_=>by simp[B0]at h
 | _::_,_::_,[],_,h=>by simp[B0]at h
 | a::r,b::s,c::t,h1,h2=>by
  simp only[B0]at h1 h2 ⊢
  have ih:=q05 (a:=r) (b:=s) (c:=t)
  by_cases hab:a<b
  ·by_cases hbc:b<c
   ·rw[if_pos (by omega)];decide
   ·rw[if_neg hbc]at h2
    by_cases hbc2:b>c
    ·rw[if_pos hbc2]at h2;omega
    ·rw[if_pos (by omega)];decide
  ·rw[if_neg hab]at h1
   by_cases hab2:a>b
   ·rw[if_pos hab2]at h1;omega
   ·rw[if_neg hab2]at h1
    by_cases hbc:b<c
    ·rw[if_pos (by omega)];decide
    ·rw[if_neg hbc]at h2
     by_cases hbc2:b>c
     ·rw[if_pos hbc2]at h2;omega
     ·rw[if_neg hbc2]at h2
      rw[if_neg (by omega),if_neg (by omega)]
      exact ih h1 h2
theorem T9 (a:List Int):¬ B0 a a<0:=by rw[cmpL_eq.2 rfl];decide
theorem j2z (v w:Int):q0w (v,w,())=some (if v<w then -1 else if v>w then 1 else 0,()):=by
 unfold q0w q6e
 simp only[L1 rfl,Option.bind_some,cond_false,q0y]
 split
 ·rfl
 ·split<;>rfl
theorem j04 {a b:List Int} (ha:a.length<=1000000):q2t (a,b,())=some (B0 a b,()):=by
 have key:∀ k i,i+k=a.length->i<=b.length->(A2 (q3o (a,b,())) ((i:Int),())).bind (Sum.elim (fun z5=>(some z5)) (Sum.elim (fun z6=>(cond (decide ((a.length:Int)<(b.length:Int))) (some ((-1:Int),())) (some ((0:Int),())))) Empty.elim))=some (B0 (a.drop i) (b.drop i),()):=by
  intro k
  induction k with
  | zero =>
   intro i hi hb
   have hi':i=a.length:=by omega
   rw[D6 (b:=.inr (.inl ())) (by
    unfold q3o
    simp only[dcF (show ¬ (i:Int)<(a.length:Int)by omega),cond_false])]
   rw[List.drop_of_length_le (by omega)]
   simp only[Option.bind_some,Sum.elim_inl,Sum.elim_inr,q0y]
   by_cases hlt:i<b.length
   ·rw[List.drop_eq_getElem_cons hlt,if_pos (by omega)];rfl
   ·rw[List.drop_of_length_le (by omega),if_neg (by omega)];rfl
  | succ k ih =>
   intro i hi hb
   have hia:i<a.length:=by omega
   by_cases hib:i<b.length
   ·have hst:q3o (a,b,()) ((i:Int),())=cond (B0 [a[i]] [b[i]] != 0) (some (.inr (.inl (B0 [a[i]] [b[i]],())))) (some (.inl (((i+1:Nat):Int),()))):=by
     unfold q3o
     simp only[dcT (show(i:Int)<(a.length:Int)by omega),dcF (show ¬ (i:Int)≥(b.length:Int)by omega),cond_true,cond_false,E9 hia,E9 hib,Option.bind_some,j2z,B7 (show i<9223372036854775807 by omega)]
     rfl
    rw[List.drop_eq_getElem_cons hia,List.drop_eq_getElem_cons hib]
    by_cases h1:a[i]<b[i]
    ·have hc:B0 [a[i]] [b[i]]=-1:=by simp only[B0,if_pos h1]
     rw[hc]at hst
     rw[D6 hst];simp only[B0,if_pos h1];rfl
    ·by_cases h2:a[i]>b[i]
     ·have hc:B0 [a[i]] [b[i]]=1:=by simp only[B0,if_neg h1,if_pos h2]
      rw[hc]at hst
      rw[D6 hst];simp only[B0,if_neg h1,if_pos h2];rfl
     ·have hc:B0 [a[i]] [b[i]]=0:=by simp only[B0,if_neg h1,if_neg h2]
      rw[hc]at hst
      rw[H9 hst,ih (i+1) (by omega) (by omega)]
      simp only[B0,if_neg h1,if_neg h2]
   ·have hst:q3o (a,b,()) ((i:Int),())=some (.inr (.inl ((1:Int),()))):=by
     unfold q3o
     simp only[dcT (show(i:Int)<(a.length:Int)by omega),dcT (show(i:Int)≥(b.length:Int)by omega),cond_true,E9 hia,Option.bind_some]
    rw[D6 hst,List.drop_eq_getElem_cons hia,List.drop_of_length_le (l:=b) (show b.length<=i by omega)]
    rfl
 unfold q2t
 exact key a.length 0 (by omega) (by omega)
def q4p (a b:List Int):Bool:=decide (a.length=b.length)&&(decide (chk a=0)&&(decide (chk b=0)&&decide (B0 a b<0)))
theorem y7o {a b:List Int} (h:a.length=b.length) (ha:chk a=0) (hb:chk b=0):q4p a b=decide (B0 a b<0):=by
 unfold q4p
 rw[decide_eq_true h,decide_eq_true ha,decide_eq_true hb];rfl
theorem v1e (a b:List Int):z3s (a,b,())=some (q4p a b,()):=by
 unfold z3s q4p
 simp only[z3n,Option.bind_some,K2]
 by_cases h:a.length=b.length
 ·rw[if_pos (by omega),decide_eq_true h]
  by_cases h2:chk a=0
  ·rw[if_pos h2,decide_eq_true h2]
   by_cases h3:chk b=0
   ·rw[if_pos h3,decide_eq_true h3]
    have h4:=(W3 h2).2.1
    have key:∀ k i,i+k=a.length->(A2 (q8k (a,b,())) ((i:Int),())).bind (Sum.elim (fun z8=>(some z8)) (Sum.elim (fun z9=>(some (false,()))) Empty.elim))=some (decide (B0 (a.drop i) (b.drop i)<0),()):=by
     intro k
     induction k with
     | zero =>
      intro i hi
      rw[D6 (b:=.inr (.inl ())) (by
       unfold q8k
       simp only[dcF (show ¬ (i:Int)<(a.length:Int)by omega),cond_false])]
      rw[List.drop_of_length_le (by omega),List.drop_of_length_le (by omega)];rfl
     | succ k ih =>
      intro i hi
      have hia:i<a.length:=by omega
      have hib:i<b.length:=by omega
      have hst:q8k (a,b,()) ((i:Int),())=cond (a[i] != b[i]) (some (.inr (.inl (decide (a[i]<b[i]),())))) (some (.inl (((i+1:Nat):Int),()))):=by
       unfold q8k
       simp only[dcT (show(i:Int)<(a.length:Int)by omega),cond_true,E9 hia,E9 hib,Option.bind_some,B7 (show i<9223372036854775807 by omega)]
      rw[List.drop_eq_getElem_cons hia,List.drop_eq_getElem_cons hib]
      by_cases he:a[i]=b[i]
      ·rw[L1 he,cond_false]at hst
       rw[H9 hst,ih (i+1) (by omega)]
       simp only[B0,if_neg (show ¬ a[i]<b[i]by omega),if_neg (show ¬ a[i]>b[i]by omega)]
      ·rw[R4 he,cond_true]at hst
       rw[D6 hst]
       by_cases h1:a[i]<b[i]
       ·simp only[B0,if_pos h1,decide_eq_true h1];rfl
       ·simp only[B0,if_neg h1,if_pos (show a[i]>b[i]by omega),decide_eq_false h1];rfl
    exact key a.length 0 (by omega)
   ·rw[if_neg h3,decide_eq_false h3];rfl
  ·rw[if_neg h2,decide_eq_false h2];rfl
 ·rw[if_neg (by omega),decide_eq_false h];rfl
theorem q56 {a b:List Int} (ha:a.length<=1000000):q1b (a,b,())=some (decide (a=b),()):=by
 unfold q1b
 simp only[K2]
 by_cases h:a.length=b.length
 ·rw[if_pos (by omega)]
  have key:∀ k i,i+k=a.length->(A2 (q8l (a,b,())) ((i:Int),())).bind (Sum.elim (fun z8=>(some z8)) (Sum.elim (fun z9=>(some (true,()))) Empty.elim))=some (decide (a.drop i=b.drop i),()):=by
   intro k
   induction k with
   | zero =>
    intro i hi
    rw[D6 (b:=.inr (.inl ())) (by
     unfold q8l
     simp only[dcF (show ¬ (i:Int)<(a.length:Int)by omega),cond_false])]
    rw[List.drop_of_length_le (by omega),List.drop_of_length_le (by omega)];rfl
   | succ k ih =>
    intro i hi
    have hia:i<a.length:=by omega
    have hib:i<b.length:=by omega
    have hst:q8l (a,b,()) ((i:Int),())=cond (a[i] != b[i]) (some (.inr (.inl (false,())))) (some (.inl (((i+1:Nat):Int),()))):=by
     unfold q8l
     simp only[dcT (show(i:Int)<(a.length:Int)by omega),cond_true,E9 hia,E9 hib,Option.bind_some,B7 (show i<9223372036854775807 by omega)]
    rw[List.drop_eq_getElem_cons hia,List.drop_eq_getElem_cons hib]
    by_cases he:a[i]=b[i]
    ·rw[L1 he,cond_false]at hst
     rw[H9 hst,ih (i+1) (by omega)]
     exact congrArg (fun x=>some (x,())) (decide_eq_decide.2 (by rw[List.cons.injEq];exact⟨fun h=>⟨he,h⟩,fun h=>h.2⟩))
    ·rw[R4 he,cond_true]at hst
     rw[D6 hst]
     rw[decide_eq_false (fun h=>he (List.cons.inj h).1)];rfl
  exact key a.length 0 (by omega)
 ·rw[if_neg (by omega),decide_eq_false (fun e=>h (by rw[e]))]
end

section
open Go Go.Abs

end

section
open Go Go.Abs

end

section
open Go Go.Abs

def S4 (t:List Int):List (List Int)->List (List Int)
 | []=>[t]
 | u::l=>if B0 u t<0 then u::S4 t l else if u=t then u::l else t::u::l
def ltP (t:List Int) (u:List Int):Bool:=decide (B0 u t<0)
theorem j5a (t:List Int):∀ out:List (List Int),S4 t out=match out.dropWhile (ltP t)with
  | []=>out.takeWhile (ltP t)++[t]
  | u::l=>if u=t then out else out.takeWhile (ltP t)++t::u::l
 | []=>rfl
 | u::l=>by
  have ih:=j5a t l
  rw[S4,List.dropWhile_cons,List.takeWhile_cons]
  by_cases h:B0 u t<0
  ·have hp:ltP t u=true:=decide_eq_true h
   rw[if_pos h,if_pos hp,if_pos hp,ih]
   cases List.dropWhile (ltP t) l with
   | nil=>rfl
   | cons v m =>
    simp only
    split
    ·rfl
    ·rfl
  ·have hp:¬ ltP t u=true:=fun e=>h (of_decide_eq_true e)
   rw[if_neg h,if_neg hp,if_neg hp]
   rfl
theorem y0c {p:List Int->Bool}:∀ l:List (List Int),l.take (l.takeWhile p).length=l.takeWhile p
 | []=>rfl
 | u::l=>by
  rw[List.takeWhile_cons]
  split
  ·rw[List.length_cons,List.take_succ_cons,y0c l]
  ·rfl
theorem j3c {p:List Int->Bool}:∀ l:List (List Int),l.drop (l.takeWhile p).length=l.dropWhile p
 | []=>rfl
 | u::l=>by
  rw[List.takeWhile_cons,List.dropWhile_cons]
  split
  ·rw[List.length_cons,List.drop_succ_cons,j3c l]
  ·rfl
theorem v6i {p:List Int->Bool} (l:List (List Int)):(l.takeWhile p).length<=l.length:=(List.takeWhile_prefix p).length_le
theorem v4q {out:List (List Int)} {t:List Int} (z:Int×Unit) (hl:out.length<=30000000) (hp:∀ u∈out,q4p u t=ltP t u) :
  A2 (q58 (out,z) t) ((0:Int),())=some (.inl ((((out.takeWhile (ltP t)).length:Nat):Int),())):=by
 have key:∀ k i,i+k=out.length->A2 (q58 (out,z) t) ((i:Int),())=some (.inl (((i+((out.drop i).takeWhile (ltP t)).length:Nat):Int),())):=by
  intro k
  induction k with
  | zero =>
   intro i hi
   rw[D6 (b:=.inl ((i:Int),())) (by
    unfold q58
    simp only[dcF (show ¬ (i:Int)<(out.length:Int)by omega),cond_false])]
   rw[List.drop_of_length_le (by omega)];rfl
  | succ k ih =>
   intro i hi
   have hlt:i<out.length:=by omega
   have hst:q58 (out,z) t ((i:Int),())=cond (ltP t out[i]) (some (.inl (((i+1:Nat):Int),()))) (some (.inr (.inl ((i:Int),())))):=by
    unfold q58
    simp only[dcT (show(i:Int)<(out.length:Int)by omega),cond_true,E9 hlt,Option.bind_some,v1e,hp _ (List.getElem_mem hlt),B7 (show i<9223372036854775807 by omega)]
   rw[List.drop_eq_getElem_cons hlt,List.takeWhile_cons]
   cases hb:ltP t out[i]with
   | true =>
    rw[hb,cond_true]at hst
    rw[H9 hst,ih (i+1) (by omega)]
    simp only[if_true,List.length_cons]
    rw[show i+1+((out.drop (i+1)).takeWhile (ltP t)).length=i+(((out.drop (i+1)).takeWhile (ltP t)).length+1)by omega]
   | false =>
    rw[hb,cond_false]at hst
    rw[D6 hst];rfl
 have:=key out.length 0 (by omega)
 rw[List.drop_zero,Nat.zero_add]at this
 exact this
theorem j8p {out:List (List Int)} (z:Int×Unit) {m:Nat} (hm:m<=out.length) (hl:out.length<=30000000) :
  A2 (q8m ((m:Int),()) (out,z)) (([]:List (List Int)),(0:Int),())=some (.inl (out.take m,())):=by
 refine F6 m (fun i=>(out.take i,(i:Int),())) _ (fun i hi=>?_) ?_ rfl
 ·unfold q8m
  have hlt:i<out.length:=by omega
  have hlen:(out.take i).length+(0+1)=i+1:=by rw[List.length_take];omega
  simp only[dcT (show(i:Int)<(m:Int)by omega),cond_true,E9 hlt,Option.bind_some,List.length_cons,List.length_nil,hlen,G3 (show i+1<=140737488355328 by omega) (show(i+1)*24<=140737488355328 by omega),B7 (show i<9223372036854775807 by omega),Bool.and_true]
  rw[List.take_succ_eq_append_getElem hlt]
 ·unfold q8m
  simp only[dcF (show ¬ (m:Int)<(m:Int)by omega),cond_false]
theorem j8q {out pre:List (List Int)} (z:Int×Unit) {m:Nat} (hm:m<=out.length) (hl:out.length<=30000000) (hp:pre.length<=30000000) :
  A2 (q8n (out,z)) (pre,(m:Int),())=some (.inl (pre++out.drop m,())):=by
 have e:pre++out.drop m=pre++(out.drop m).take (out.length-m):=by rw[List.take_of_length_le (by rw[List.length_drop];omega)]
 rw[e]
 refine F6 (out.length-m) (fun i=>(pre++(out.drop m).take i,((m+i:Nat):Int),())) _ (fun i hi=>?_) ?_ (by simp)
 ·unfold q8n
  have hlt:m+i<out.length:=by omega
  have hlt2:i<(out.drop m).length:=by rw[List.length_drop];omega
  have hlen:(pre++(out.drop m).take i).length+(0+1)=pre.length+i+1:=by rw[List.length_append,List.length_take,List.length_drop];omega
  simp only[dcT (show((m+i:Nat):Int)<(out.length:Int)by omega),cond_true,E9 hlt,Option.bind_some,List.length_cons,List.length_nil,hlen,G3 (show pre.length+i+1<=140737488355328 by omega) (show(pre.length+i+1)*24<=140737488355328 by omega),B7 (show m+i<9223372036854775807 by omega),Bool.and_true]
  rw[List.take_succ_eq_append_getElem hlt2,List.getElem_drop,List.append_assoc]
  rfl
 ·unfold q8n
  simp only[dcF (show ¬ ((m+(out.length-m):Nat):Int)<(out.length:Int)by omega),cond_false]
theorem y7f:j7p=q8m:=rfl
theorem y7g:j7q=q8n:=rfl
theorem j59 (t:List Int):∀ out:List (List Int),(S4 t out).length<=out.length+1
 | []=>Nat.le_refl _
 | u::l=>by
  have:=j59 t l
  simp only[S4]
  split
  ·simp only[List.length_cons];omega
  ·split<;>simp only[List.length_cons]<;>omega
theorem ins_mem {t v:List Int}:∀ {out:List (List Int)},v∈S4 t out↔v=t\/v∈out
 | []=>by simp[S4]
 | u::l=>by
  have ih:=ins_mem (t:=t) (v:=v) (out:=l)
  simp only[S4]
  split
  ·rw[List.mem_cons,ih,List.mem_cons]
   constructor
   ·rintro (h | h | h)
    ·exact .inr (.inl h)
    ·exact .inl h
    ·exact .inr (.inr h)
   ·rintro (h | h | h)
    ·exact .inr (.inl h)
    ·exact .inl h
    ·exact .inr (.inr h)
  ·split
   ·rename_i h
    rw[List.mem_cons,<-h]
    constructor
    ·exact fun h=>.inr h
    ·rintro (h | h)
     ·exact .inl h
     ·exact h
   ·rw[List.mem_cons]
theorem j5b {t:List Int}:∀ {out:List (List Int)},out.Pairwise (fun a b=>B0 a b<0)->(S4 t out).Pairwise fun a b=>B0 a b<0
 | [],_=>by simp[S4]
 | u::l,h=>by
  have h1:=List.pairwise_cons.1 h
  simp only[S4]
  split
  ·rename_i hu
   rw[List.pairwise_cons]
   refine⟨fun v hv=>?_,j5b h1.2⟩
   rcases ins_mem.1 hv with rfl | hv
   ·exact hu
   ·exact h1.1 v hv
  ·rename_i hu
   split
   ·exact h
   ·rename_i hne
    have htu:B0 t u<0:=by
     have h2:=P8 u t
     have h3:B0 u t≠0:=fun e=>hne (cmpL_eq.1 e)
     omega
    rw[List.pairwise_cons]
    refine⟨fun v hv=>?_,h⟩
    rcases List.mem_cons.1 hv with rfl | hv
    ·exact htu
    ·exact q05 htu (h1.1 v hv)
def E3 (l:List (List Int)):List (List Int):=l.foldl (fun out t=>S4 t out) []
theorem j4f (l:List (List Int)) (t:List Int):E3 (l++[t])=S4 t (E3 l):=by
 unfold E3;rw[List.foldl_append];rfl
theorem V3 (l:List (List Int)):(E3 l).length<=l.length/\(∀ v,v∈E3 l↔v∈l)/\(E3 l).Pairwise fun a b=>B0 a b<0:=by
 have key:∀ k,k<=l.length->(E3 (l.take k)).length<=k/\(∀ v,v∈E3 (l.take k)↔v∈l.take k)/\(E3 (l.take k)).Pairwise fun a b=>B0 a b<0:=by
  intro k
  induction k with
  | zero=>intro _;rw[List.take_zero];exact⟨Nat.le_refl _,fun v=>Iff.rfl,List.Pairwise.nil⟩
  | succ k ih =>
   intro hk
   obtain⟨h1,h2,h3⟩:=ih (by omega)
   rw[List.take_succ_eq_append_getElem (by omega),j4f]
   refine⟨Nat.le_trans (j59 _ _) (by omega),fun v=>?_,j5b h3⟩
   rw[ins_mem,h2,List.mem_append,List.mem_singleton]
   exact Or.comm
 have:=key l.length (Nat.le_refl _)
 rwa [List.take_length]at this
theorem j7o {l:List (List Int)} (hl:l.length<=20000000) (d:Nat) (hf:∀ t∈l,chk t=0/\t.length=d):q57 (l,())=some (E3 l,()):=by
 have key:A2 (z3t (l,())) (([]:List (List Int)),(0:Int),())=some (.inl (E3 l,())):=by
  refine F6 l.length (fun i=>(E3 (l.take i),(i:Int),())) _ (fun i hi=>?_) ?_ rfl
  ·have hfi:=hf l[i] (List.getElem_mem hi)
   obtain⟨s1,s2,s3⟩:=V3 (l.take i)
   have hso:(E3 (l.take i)).length<=20000000:=by rw[List.length_take]at s1;omega
   have hok:∀ u∈E3 (l.take i),chk u=0/\u.length=d:=fun u hu=>hf u (List.mem_of_mem_take ((s2 u).1 hu))
   have hless:∀ u∈E3 (l.take i),q4p u l[i]=ltP l[i] u:=fun u hu=>by
    have:=hok u hu
    rw[y7o (by omega) this.1 hfi.1];rfl
   rw[List.take_succ_eq_append_getElem hi,j4f]
   generalize E3 (l.take i)=out at *
   unfold z3t
   have hw:=v6i (p:=ltP l[i]) out
   have k1:=v4q (((i:Int),())) (show out.length<=30000000 by omega) hless
   have hsplit:=j5a l[i] out
   have htw:=y0c (p:=ltP l[i]) out
   have hdw:=j3c (p:=ltP l[i]) out
   simp only[dcT (show(i:Int)<(l.length:Int)by omega),cond_true,E9 hi,Option.bind_some,k1,Sum.elim_inl,B7 (show i<9223372036854775807 by omega)]
   have hr:∀ n:Nat,n<=30000000->B2 (n+(0+1)) 24=true:=fun n hn=>G3 (by omega) (by omega)
   by_cases hat:(out.takeWhile (ltP l[i])).length<out.length
   ·rw[List.drop_eq_getElem_cons hat]at hdw
    rw[<-hdw]at hsplit
    simp only at hsplit
    have hlen:(out[(out.takeWhile (ltP l[i])).length]).length<=1000000:=by
     have:=(hok _ (List.getElem_mem hat)).1
     have:=(W3 this).2.1
     omega
    simp only[dcT (show(((out.takeWhile (ltP l[i])).length:Nat):Int)<(out.length:Int)by omega),cond_true,E9 hat,Option.bind_some,q56 hlen]
    by_cases he:out[(out.takeWhile (ltP l[i])).length]=l[i]
    ·rw[if_pos he]at hsplit
     rw[decide_eq_true he,cond_true,hsplit]
    ·rw[if_neg he]at hsplit
     rw[decide_eq_false he,cond_false,j8p _ hw (by omega),Option.bind_some,Sum.elim_inl]
     simp only[List.length_cons,List.length_nil]
     rw[hr _ (by rw[List.length_take];omega)]
     simp only[Bool.and_true,cond_true]
     rw[j8q _ hw (by omega) (by rw[List.length_append,List.length_take];simp only[List.length_cons,List.length_nil];omega),Option.bind_some,Sum.elim_inl,hsplit,htw]
     rw[List.append_assoc,List.drop_eq_getElem_cons hat]
     rfl
   ·have hd0:out.drop (out.takeWhile (ltP l[i])).length=[]:=List.drop_of_length_le (by omega)
    rw[hd0]at hdw
    rw[<-hdw]at hsplit
    simp only at hsplit
    simp only[dcF (show ¬ (((out.takeWhile (ltP l[i])).length:Nat):Int)<(out.length:Int)by omega),cond_false]
    rw[y7f,j8p _ hw (by omega),Option.bind_some,Sum.elim_inl]
    simp only[List.length_cons,List.length_nil]
    rw[hr _ (by rw[List.length_take];omega)]
    simp only[Bool.and_true,cond_true]
    rw[y7g,j8q _ hw (by omega) (by rw[List.length_append,List.length_take];simp only[List.length_cons,List.length_nil];omega),Option.bind_some,Sum.elim_inl,hsplit,htw,hd0,List.append_nil]
  ·unfold z3t
   simp only[dcF (show ¬ (l.length:Int)<(l.length:Int)by omega),cond_false,List.take_length]
 unfold q57
 rw[key];rfl
end

section
open Go Go.Abs

theorem j0v (v:Int):q1g (v,())=some (!bad v,()):=by
 unfold q1g bad
 simp only[q0y]
 by_cases h1:v≥0
 ·have h2:¬ v<0:=by omega
  by_cases h3:v<=1048576
  ·have h4:¬ v>1048576:=by omega
   simp[h1,h2,h3,h4]
  ·have h4:v>1048576:=by omega
   simp[h1,h2,h3,h4]
 ·have h2:v<0:=by omega
  simp[h1,h2]
def sck (n d:Int) (l:List Int) (m:Int):Int:=if m<1\/m>4\/n<1\/n>m\/(l.length:Int)>4-n then 1 else if(bad d||l.any bad)=true then 2 else 0
theorem N9 {n d m:Int} {l:List Int} (h:sck n d l m=0):1<=n/\n<=m/\m<=4/\(l.length:Int)<=4-n/\(0<=d/\d<=1048576)/\∀ (i:Nat) (v:Int),l[i]? = some v->0<=v/\v<=1048576:=by
 unfold sck at h
 split at h
 ·cases h
 ·rename_i h1
  split at h
  ·cases h
  ·rename_i h2
   rw[Bool.not_eq_true,Bool.or_eq_false_iff]at h2
   refine⟨by omega,by omega,by omega,by omega,q9y h2.1,fun i v hi=>q9y ?_⟩
   cases hb:bad v with
   | false=>rfl
   | true =>
    have:=List.any_eq_true.2 ⟨v,List.mem_of_getElem? hi,hb⟩
    rw[h2.2]at this;cases this
theorem j0u (n d m:Int) (l:List Int):q2v ((n,d,l,()),m,())=some (sck n d l m,()):=by
 unfold q2v sck
 simp only[q0y]
 by_cases h1:m<1
 ·simp[h1]
 ·by_cases h2:m>4
  ·simp[h1,h2]
  ·by_cases h3:n<1
   ·simp[h1,h2,h3]
   ·by_cases h4:n>m
    ·simp[h1,h2,h3,h4]
    ·rw[E7 (by omega) (by omega)]
     by_cases h5:(l.length:Int)>4-n
     ·simp[h1,h2,h3,h4,h5]
     ·rw[if_neg h1,if_neg h2,if_neg h3,if_neg h4,if_neg h5,if_neg (by omega)]
      have hlen:([d]++l).length=l.length+1:=by simp
      have hr:B2 (([d]).length+l.length) 8=true:=q0l (by simp;omega)
      rw[hr,Bool.and_true,Bool.and_true,Bool.and_true,cond_true]
      have key:=z1q (f:=z51 ((n,d,l,()),m,())) ([d]++l) bad (Sum.inl (2,())) (Sum.inr (Sum.inl ())) (fun i v hi=>by
       have hlt:=(List.getElem?_eq_some_iff.1 hi).1
       have hi':((i:Int)<(([d]++l).length:Int)):=by omega
       have hib:inB (i:Int) ([d]++l).length=true:=by simp only[inB,Bool.and_eq_true,decide_eq_true_eq];omega
       unfold z51
       simp only[hi',decide_true,hib,cond_true,Int.toNat_natCast,hi,Option.bind_some,j0v,Bool.not_not]
       rw[E7 (by omega) (by omega)]
       cases bad v<;>rfl) (by simp[z51])
      rw[key]
      have hany:([d]++l).any bad=(bad d||l.any bad):=by simp
      rw[hany]
      split<;>rfl
theorem v0u (n d m:Int) (l:List Int) (hl:l.length<=4):A2 (z3h ((n,d,l,()),m,())) (0,())=some (if l.any bad=true then Sum.inl (2,())else Sum.inr (Sum.inl ())):=by
 refine z1q l bad (Sum.inl (2,())) (Sum.inr (Sum.inl ())) (fun i v hi=>?_) ?_
 ·have hlt:=(List.getElem?_eq_some_iff.1 hi).1
  have hi':((i:Int)<(l.length:Int)):=by omega
  unfold z3h
  simp only[hi',decide_true,cond_true,U2,hi,Option.bind_some]
  rw[E7 (by omega) (by omega)]
  exact z6d v _ _
 ·simp[z3h]
theorem z9s (n d m:Int) (l:List Int):X7 ((n,d,l,()),m,())=some (sck n d l m,()):=by
 unfold X7 sck
 by_cases h1:m<1
 ·simp[h1]
 ·by_cases h2:m>4
  ·simp[h1,h2]
  ·by_cases h3:n<1
   ·simp[h1,h2,h3]
   ·by_cases h4:n>m
    ·simp[h1,h2,h3,h4]
    ·by_cases h5:(l.length:Int)>4
     ·have h6:(l.length:Int)>4-n:=by omega
      simp[h1,h2,h3,h4,h5,h6]
     ·by_cases h6:(l.length:Int)>4-n
      ·have h7:IntKind.i64.wrap (n+(l.length:Int))>4:=by rw[E7 (by omega) (by omega)];omega
       simp[h1,h2,h3,h4,h5,h6,h7]
      ·have h7:¬ (IntKind.i64.wrap (n+(l.length:Int))>4):=by rw[E7 (by omega) (by omega)];omega
       simp only[h1,h2,h3,h4,h5,h7,decide_false,cond_false]
       have hn:¬ (False\/False\/False\/False\/(l.length:Int)>4-n):=by simp;omega
       rw[if_neg hn]
       by_cases h8:bad d=true
       ·rw[h8,Bool.true_or,if_pos rfl]
        unfold bad at h8
        by_cases h9:d<0
        ·simp[h9]
        ·have h10:d>1048576:=by simpa[h9]using h8
         simp[h9,h10]
       ·have h8:bad d=false:=by simpa using h8
        have hd:=q9y h8
        have h9:¬ d<0:=by omega
        have h10:¬ d>1048576:=by omega
        simp only[h9,h10,decide_false,cond_false]
        rw[v0u n d m l (by omega),h8,Bool.false_or]
        split<;>rfl
end

end Go.Proofs.Tryz
