/- Lemmas on functions of the program, by name. -/
import Derived.Test.YtppblbacbmebfaaGreatDoorMTFuns
import Derived.Test.YtppblbacbmebfaaGreatDoorAbsSums
namespace Go.Proofs.Tryz
section
open Go Go.Abs

inductive Way (A:Nat->Nat->Bool):Nat->Nat->Prop
 | one {i j:Nat} (h:A i j=true):Way A i j
 | more {i k j:Nat} (h:Way A i k) (h2:A k j=true):Way A i j
theorem Way.trans {A:Nat->Nat->Bool} {i j k:Nat} (h:Way A i j) (h2:Way A j k):Way A i k:=by
 induction h2 with
 | one h2=>exact .more h h2
 | more _ h3 ih=>exact .more ih h3
def fwR (w:Nat->Nat->Bool) (k:Nat):Nat->Nat->Bool:=fun i j=>w i j||(w i k&&w k j)
def fwN (A:Nat->Nat->Bool):Nat->Nat->Nat->Bool
 | 0=>A
 | k+1=>fwR (fwN A k) k
theorem z1a (A:Nat->Nat->Bool):∀ k i j,fwN A k i j=true->Way A i j
 | 0,i,j,h=>.one h
 | k+1,i,j,h=>by
  simp only[fwN,fwR,Bool.or_eq_true,Bool.and_eq_true]at h
  rcases h with h | ⟨h,h2⟩
  ·exact z1a A k i j h
  ·exact(z1a A k i k h).trans (z1a A k k j h2)
theorem z8w (A:Nat->Nat->Bool) (k:Nat):∀ m i j,fwN A k i j=true->fwN A (k+m) i j=true
 | 0,_,_,h=>h
 | m+1,i,j,h=>by
  show fwR (fwN A (k+m)) (k+m) i j=true
  simp only[fwR,Bool.or_eq_true]
  exact .inl (z8w A k m i j h)
theorem j59 (A:Nat->Nat->Bool):∀ k m,m<k->∀ i j,fwN A k i m=true->fwN A k m j=true->fwN A k i j=true
 | 0,_,h,_,_,_,_=>by omega
 | k+1,m,hm,i,j,h1,h2=>by
  simp only[fwN,fwR,Bool.or_eq_true,Bool.and_eq_true]at h1 h2 ⊢
  by_cases hmk:m=k
  ·subst hmk
   have h1':fwN A m i m=true:=by
    rcases h1 with h | ⟨h,_⟩<;>exact h
   have h2':fwN A m m j=true:=by
    rcases h2 with h | ⟨_,h⟩<;>exact h
   exact .inr ⟨h1',h2'⟩
  ·have hlt:m<k:=by omega
   have ih:=j59 A k m hlt
   rcases h1 with h1 | ⟨h1,h1'⟩<;>rcases h2 with h2 | ⟨h2,h2'⟩
   ·exact .inl (ih i j h1 h2)
   ·exact .inr ⟨ih i k h1 h2,h2'⟩
   ·exact .inr ⟨h1,ih k j h1' h2⟩
   ·exact .inr ⟨h1,h2'⟩
theorem q76 {A:Nat->Nat->Bool} {n:Nat} (hA:∀ i j,A i j=true->i<n/\j<n) (i j:Nat):fwN A n i j=true↔Way A i j:=by
 constructor
 ·exact z1a A n i j
 ·intro h
  induction h with
  | one h=>have:=z8w A 0 n _ _ h;rwa [Nat.zero_add]at this
  | more _ h2 ih =>
   have h3:=z8w A 0 n _ _ h2
   rw[Nat.zero_add]at h3
   exact j59 A n _ (hA _ _ h2).1 _ _ ih h3
def T4 (w:Nat->Nat->Bool) (n k x:Nat):Nat->Bool:=fun y=>if y<x then fwR w k (y / n) (y % n)else w (y / n) (y % n)
theorem y68 {w:Nat->Nat->Bool} {n k x i:Nat} (hk:k<n):T4 w n k x (i*n+k)=w i k:=by
 have h1:(i*n+k) / n=i:=by rw[Nat.mul_comm,Nat.mul_add_div (by omega),Nat.div_eq_of_lt hk];rfl
 have h2:(i*n+k) % n=k:=by rw[Nat.mul_comm,Nat.mul_add_mod,Nat.mod_eq_of_lt hk]
 unfold T4
 rw[h1,h2]
 split
 ·unfold fwR;cases w i k<;>simp
 ·rfl
theorem y6a {w:Nat->Nat->Bool} {n k x j:Nat} (hj:j<n):T4 w n k x (k*n+j)=w k j:=by
 have h1:(k*n+j) / n=k:=by rw[Nat.mul_comm,Nat.mul_add_div (by omega),Nat.div_eq_of_lt hj];rfl
 have h2:(k*n+j) % n=j:=by rw[Nat.mul_comm,Nat.mul_add_mod,Nat.mod_eq_of_lt hj]
 unfold T4
 rw[h1,h2]
 split
 ·unfold fwR;cases w k j<;>simp
 ·rfl
theorem y69 {w:Nat->Nat->Bool} {n k i j:Nat} (hj:j<n):T4 w n k (i*n+j) (i*n+j)=w i j:=by
 have h1:(i*n+j) / n=i:=by rw[Nat.mul_comm,Nat.mul_add_div (by omega),Nat.div_eq_of_lt hj];rfl
 have h2:(i*n+j) % n=j:=by rw[Nat.mul_comm,Nat.mul_add_mod,Nat.mod_eq_of_lt hj]
 unfold T4
 rw[if_neg (by omega),h1,h2]
theorem j58 {w:Nat->Nat->Bool} {n k i j:Nat} (hj:j<n) (y:Nat):T4 w n k (i*n+(j+1)) y=if y=i*n+j then fwR w k i j else T4 w n k (i*n+j) y:=by
 have h1:(i*n+j) / n=i:=by rw[Nat.mul_comm,Nat.mul_add_div (by omega),Nat.div_eq_of_lt hj];rfl
 have h2:(i*n+j) % n=j:=by rw[Nat.mul_comm,Nat.mul_add_mod,Nat.mod_eq_of_lt hj]
 by_cases hy:y=i*n+j
 ·subst hy
  rw[if_pos rfl]
  unfold T4
  rw[if_pos (by omega),h1,h2]
 ·rw[if_neg hy]
  unfold T4
  by_cases hlt:y<i*n+j
  ·rw[if_pos hlt,if_pos (by omega)]
  ·rw[if_neg hlt,if_neg (by omega)]
theorem q44 {n i j:Nat} (hi:i<n) (hj:j<n):i*n+j<n*n:=by
 have:(i+1)*n<=n*n:=Nat.mul_le_mul_right n hi
 rw[Nat.add_mul,Nat.one_mul]at this
 omega
theorem q67 {n i j:Nat} (hn:n<=64) (hi:i<n) (hj:j<n):IntKind.i64.wrap ((IntKind.i64.wrap ((i:Int)*(n:Int)))+(j:Int))=((i*n+j:Nat):Int):=by
 have h1:=q44 hi hj
 have h2:n*n<=64*64:=Nat.mul_le_mul hn hn
 have h3:(i:Int)*(n:Int)=((i*n:Nat):Int):=(Int.natCast_mul i n).symm
 have e1:IntKind.i64.wrap ((i*n:Nat):Int)=((i*n:Nat):Int):=M0 (by omega) (by omega)
 rw[h3,e1]
 rw[M0 (by omega) (by omega)]
 simp
end

section
open Go Go.Abs

theorem v7f:∀ r:Fin 64,A7 z9r (q38 .u64 (IntKind.u64.wrap (((2^r.val:Nat):Int)*(285870213051353865:Int))) (58:Int))=some (r.val:Int):=by decide +kernel
theorem z4z {r q:Nat} (h:2^r*(2*q+1)<2^64):q2r (((2^r*(2*q+1):Nat):Int),())=some ((r:Int),()):=by
 have hr:r<64:=q1a h (by rw[q87];simp)
 have hp:0<2^r*(2*q+1):=Nat.mul_pos (Nat.two_pow_pos r) (by omega)
 unfold q2r
 have e0:((((2^r*(2*q+1):Nat):Int),()).1==(0:Int))=false:=by
  simp only[beq_eq_false_iff_ne];omega
 have e1:IntKind.u64.wrap (0-((2^r*(2*q+1):Nat):Int))=((2^64-2^r*(2*q+1):Nat):Int):=by
  unfold IntKind.wrap;simp only[IntKind.bits,IntKind.signed]
  generalize 2^r*(2*q+1)=v at *
  simp;omega
 simp only[e0,cond_false]
 rw[e1,j2p h (by omega),y86 h,z8x,tab0_eq,v7f ⟨r,hr⟩]
 simp only[Option.bind_some]
 rw[M0 (by omega) (by omega)]
theorem j1b {i:Nat} (h:i<32):q43 ((i:Int),())=some (((2^i:Nat):Int),()):=by
 unfold q43
 have:decide ((i:Int)<0)=false:=decide_eq_false (by omega)
 simp only[this,cond_false]
 rw[v6i h]
theorem v6h {a:Nat} (i:Nat) (h:a<2^32):z4q ((a:Int),(i:Int),())=some (a.testBit i,()):=by
 unfold z4q
 have:decide ((i:Int)<0)=false:=decide_eq_false (by omega)
 simp only[this,cond_false]
 rw[y6r i h]
def below (ws:List Nat) (i j:Nat):Bool:=(ws.getD i 0).testBit j
end

section
open Go Go.Abs

abbrev B4:=Int×(Int×((Int×(Int×(Int×Unit)))×Unit))
abbrev Edge:=Int×(Int×(Int×Unit))
def I6 (v:B4):Bool:=decide (1<=v.2.1/\v.2.1<=4/\1<=v.1/\v.1<=6/\(v.1=1->v.2.1=1)/\(v.1=4->v.2.1≠4)/\(5<=v.1->2<=v.2.1))
def D6 (v:B4):Int:=if v.1=1 then 0 else if v.1=3 then 2 else 1
def Y0 (v:B4):Int:=if v.1=4 then v.2.1+1 else if v.1=5 then v.2.1-1 else v.2.1
theorem v2g (v:B4):z3r (v,())=some (I6 v,()):=by
 obtain⟨k,d,op,_⟩:=v
 unfold z3r I6
 simp only[R1,V1,z6g]
 repeat' split
 all_goals first
  | (congr 2;symm;apply decide_eq_false;intro h;obtain⟨h1,h2,h3,h4,h5,h6,h7⟩:=h;omega)
  | (congr 2;symm;apply decide_eq_true;omega)
  | (congr 2;apply decide_eq_decide.2;omega)
theorem y6m (v:B4):z1n (v,())=some (I6 v,()):=by
 obtain⟨k,d,op,_⟩:=v
 have w1:IntKind.i64.wrap ((4:Int)-1)=3:=by decide
 have w2:IntKind.i64.wrap ((1:Int)+1)=2:=by decide
 unfold z1n I6
 simp only[w1,w2,R1,z6g]
 have fin:∀ {p q:Bool},(p=true↔q=true)->some (p,())=some (q,()):=fun h=>by rw[Bool.eq_iff_iff.2 h]
 have hk:k=1\/k=4\/k=5\/k=6\/k=2\/k=3\/(k≠1/\k≠4/\k≠5/\k≠6/\k≠2/\k≠3):=by omega
 rcases hk with rfl | rfl | rfl | rfl | rfl | rfl | ⟨h1,h4,h5,h6,h2,h3⟩
 case inr.inr.inr.inr.inr.inr =>
  simp only[h1,h4,h5,h2,h3,if_false,beq_eq_false_iff_ne.2 h6,Option.bind_some,Sum.elim_inl,cond_false]
  refine fin ?_
  simp
  omega
 all_goals
  simp
  split
  ·refine fin ?_;simp;omega
  ·refine fin ?_;simp;omega
theorem y6i (v:B4):z1h (v,())=some (!I6 v,()):=by
 unfold z1h;rw[y6m];rfl
theorem z1l (v:B4):q2j (v,())=some (D6 v,()):=by
 unfold q2j D6
 simp only[R1]
 split
 ·rfl
 ·split<;>rfl
theorem q5s (v:B4):q40 (v,())=some (D6 v,()):=by
 unfold q40 D6
 simp only[R1]
 split
 ·rfl
 ·split<;>rfl
theorem z2g {v:B4} (h:I6 v=true):1<=v.2.1/\v.2.1<=4:=by
 have:=of_decide_eq_true h
 exact⟨this.1,this.2.1⟩
theorem y6l {v:B4} (h:I6 v=true):z1k (v,())=some (Y0 v,()):=by
 have hd:=z2g h
 unfold z1k Y0
 simp only[R1]
 rw[M0 (by omega) (by omega),M0 (by omega) (by omega)]
 split
 ·rfl
 ·split<;>rfl
theorem v2j {v:B4} (h:I6 v=true):((z3s (v,())).bind fun r=>z3x r)=some (Y0 v,()):=by
 have hd:=z2g h
 obtain⟨k,d,op,u⟩:=v
 simp only at hd
 unfold z3s z3x Y0
 simp only[R1]
 have w:∀ z:Int,-100<=z->z<=100->IntKind.i64.wrap z=z:=fun z h1 h2=>M0 (by omega) (by omega)
 by_cases h4:k=4
 ·simp only[h4,if_true,Option.bind_some,List.length_cons,List.length_nil]
  rw[w _ (by omega) (by omega)];rfl
 ·by_cases h5:k=5
  ·subst h5
   simp only[h4,if_false,if_true,Option.bind_some,List.length_nil]
   rw[w (d-1) (by omega) (by omega),w _ (by omega) (by omega)]
   simp
  ·by_cases h6:k=6
   ·subst h6
    simp only[h4,h5,if_false,if_true,Option.bind_some,List.length_nil]
    rw[w _ (by omega) (by omega)]
    simp
   ·simp only[h4,h5,h6,if_false,Option.bind_some,List.length_nil]
    rw[w _ (by omega) (by omega)]
    simp
end

section
open Go Go.Abs

theorem M4 {β:Type} (p:Nat->Bool) (g:Nat->β) (l:List Nat):(l.findSome? fun i=>cond (p i) (some (g i)) none)=(l.find? p).map g:=by
 induction l with
 | nil=>rfl
 | cons a r ih =>
  rw[List.findSome?_cons,List.find?_cons]
  cases p a with
  | true=>rfl
  | false=>exact ih
theorem q50 {p:Nat->Bool} {n:Nat} (h:(List.range n).find? p=none):∀ i,i<n->p i=false:=fun i hi=>by
 have:=List.find?_eq_none.1 h i (List.mem_range.2 hi)
 simpa using this
theorem z8p {β:Type} (p:Nat->Bool) (b:β) (l:List Nat):(l.findSome? fun r=>cond (p r) (some b) none)=if l.any p=true then some b else none:=by
 induction l with
 | nil=>rfl
 | cons a r ih =>
  rw[List.findSome?_cons,List.any_cons]
  cases p a with
  | true=>rfl
  | false=>rw[cond_false,ih];simp
theorem G7 {α:Type} {l:List α} {i:Int} (d:α) (h0:0<=i) (h1:i<l.length):A7 l i=some (l.getD i.toNat d):=by
 obtain⟨k,rfl⟩:=Int.eq_ofNat_of_zero_le h0
 rw[J5]
 rw[Int.toNat_natCast]
 exact z1b (by omega)
theorem y6e {α:Type} {l:List α} {i:Nat} (h:i<l.length):A7 l (i:Int)=some l[i]:=by
 rw[J5,List.getElem?_eq_getElem h]
end

section
open Go Go.Abs

theorem y7z {l U o:Type} {f:l->Option (l⊕(U⊕o))} (n:Nat) (s:Nat->l) (g:Nat->Option U) (e:o)
  (h:∀ i,i<n->(∀ j,j<i->g j=none)->f (s i)=some (L8 (g i) (s (i+1)))) (a:(∀ j,j<n->g j=none)->f (s n)=some (.inr (.inr e))) :
  A4 f (s 0)=some (J4 ((List.range n).findSome? g) e):=by
 have q:∀ k i,i+k=n->(∀ j,j<i->g j=none)->A4 f (s i)=some (J4 ((List.range' i k).findSome? g) e):=by
  intro k
  induction k with
  | zero =>
   intro i r d;have:i=n:=by omega
   subst this;rw[H1 (a d)];rfl
  | succ k t =>
   intro i r d
   have c:=h i (by omega) d
   rw[List.range'_succ,List.findSome?_cons]
   cases m:g i with
   | some b=>rw[m]at c;rw[H1 c];rfl
   | none =>
    rw[m]at c
    rw[K2 c]
    grind
 grind[List.range_eq_range']
def e0:Edge:=(0,0,0,())
def v0:B4:=(0,0,(0,0,0,()),())
def frE (E:List Edge) (i:Nat):Int:=(E.getD i e0).1
def toE (E:List Edge) (i:Nat):Int:=(E.getD i e0).2.1
def poE (E:List Edge) (i:Nat):Int:=(E.getD i e0).2.2.1
def q26 (E:List Edge) (i:Nat):Bool:=(List.range i).any fun j=>toE E j==toE E i&&poE E j==poE E i
def H4 (N:List B4) (E:List Edge) (i:Nat):Int :=
 if frE E i<0\/(N.length:Int)<=frE E i\/toE E i<0\/(N.length:Int)<=toE E i then 8
 else if poE E i<0\/D6 (N.getD (toE E i).toNat v0)<=poE E i then 8
 else if q26 E i=true then 8
 else if Y0 (N.getD (frE E i).toNat v0)=(N.getD (toE E i).toNat v0).2.1 then 0 else 7
theorem X8 {N:List B4} (a:N.all I6=true) {i:Int} (b:0<=i) (h1:i<N.length):I6 (N.getD i.toNat v0)=true:=by
 grind
theorem y4x (N:List B4) {E:List Edge} (b:E.length<=20) {i:Nat} (hi:i<E.length) :
  A4 (q96 ((N,E,()),(i:Int),()) (E.getD i e0)) ((0:Int),())=some (if q26 E i=true then .inl (8,())else .inr (.inl ())):=by
 have h:=L3 (f:=q96 ((N,E,()),(i:Int),()) (E.getD i e0)) i (fun j=>((j:Int),())) (fun j=>cond (toE E j==toE E i&&poE E j==poE E i) (some (8,())) none) (.inl ()) (fun j e=>by
  unfold q96
  simp only[dcT (show(j:Int)<(i:Int)by omega),cond_true,G7 e0 (Int.natCast_nonneg j) (show(j:Int)<(E.length:Int)by omega),Int.toNat_natCast,Option.bind_some]
  rw[C7 (by omega)]
  show(cond (toE E j==toE E i) _ _)=_
  cases c:toE E j==toE E i with
  | false=>rfl
  | true =>
   show(cond (poE E j==poE E i) _ _)=_
   cases k:poE E j==poE E i<;>rfl) (by
  grind[q96]) rfl
 refine Eq.trans h ?_
 have:((List.range i).findSome? fun j=>cond (toE E j==toE E i&&poE E j==poE E i) (some ((8:Int),())) none)=if q26 E i=true then some (8,())else none:=by
  unfold q26
  cases g:(List.range i).any (fun j=>toE E j==toE E i&&poE E j==poE E i)with
  | true =>
   cases d:(List.range i).findSome? fun j=>cond (toE E j==toE E i&&poE E j==poE E i) (some ((8:Int),())) none with
   | none =>
    grind
   | some z =>
    grind[List.findSome?_eq_some_iff]
  | false =>
   grind
 rw[this]
 split<;>rfl
theorem v2o {N:List B4} {E:List Edge} (hN:N.all I6=true) (hE:E.length<=20) {i:Nat} (hi:i<E.length):z49 ((N,E,()),(i:Int),())=some (H4 N E i,()):=by
 unfold z49 H4
 simp only[G7 e0 (Int.natCast_nonneg i) (show(i:Int)<(E.length:Int)by omega),Int.toNat_natCast,Option.bind_some]
 show(cond (decide (frE E i<0)) _ (cond (decide (frE E i≥(N.length:Int))) _ (cond (decide (toE E i<0)) _ (cond (decide (toE E i≥(N.length:Int))) _ (cond (decide (poE E i<0)) _ ((A7 N (toE E i)).bind _))))))=_
 by_cases h1:frE E i<0
 ·simp[h1]
 by_cases h2:frE E i≥(N.length:Int)
 ·simp[h1,h2]
 by_cases h3:toE E i<0
 ·simp[h1,h2,h3]
 by_cases h4:toE E i≥(N.length:Int)
 ·simp[h1,h2,h3,h4]
 have hno:¬ (frE E i<0\/(N.length:Int)<=frE E i\/toE E i<0\/(N.length:Int)<=toE E i):=by omega
 simp only[dcF h1,dcF h2,dcF h3,dcF h4,cond_false,if_neg hno]
 by_cases h5:poE E i<0
 ·simp[h5]
 have hto:=G7 (l:=N) v0 (Int.not_lt.1 h3) (Int.not_le.1 h4)
 simp only[dcF h5,cond_false,hto,Option.bind_some,q5s]
 show(cond (decide (poE E i≥D6 (N.getD (toE E i).toNat v0))) _ _)=_
 by_cases h6:poE E i≥D6 (N.getD (toE E i).toNat v0)
 ·rw[dcT h6,cond_true,if_pos (.inr (by omega))]
 have hno2:¬ (poE E i<0\/D6 (N.getD (toE E i).toNat v0)<=poE E i):=by omega
 simp only[dcF h6,cond_false,if_neg hno2]
 rw[y4x N hE hi]
 by_cases h7:q26 E i=true
 ·simp[h7]
 simp only[h7,Option.bind_some]
 have hfr:=G7 (l:=N) v0 (Int.not_lt.1 h1) (Int.not_le.1 h2)
 show((A7 N (frE E i)).bind _)=_
 rw[hfr,Option.bind_some]
 have hout:=v2j (X8 hN (Int.not_lt.1 h1) (Int.not_le.1 h2))
 obtain⟨r,hr,hr2⟩:=Option.bind_eq_some_iff.1 hout
 rw[hr,Option.bind_some,hr2,Option.bind_some]
 show((A7 N (toE E i)).bind _)=_
 rw[hto,Option.bind_some]
 show(cond (Y0 (N.getD (frE E i).toNat v0) != (N.getD (toE E i).toNat v0).2.1) _ _)=_
 rw[V1]
 split<;>rfl
abbrev tkT:Ty:=.cons (.int .i64) (.cons (.int .i64) .nil)
def O5 (E:List Edge):Nat->List ((Int×(Int×Unit))×Int)
 | 0=>[]
 | i+1=>B0 tkT (O5 E i) (toE E i,poE E i,()) (i:Int)
theorem j1o (E:List Edge) (t p:Int):∀ i,(A9 tkT (O5 E i) (t,p,())).isSome=(List.range i).any fun j=>toE E j==t&&poE E j==p
 | 0=>rfl
 | i+1=>by
  rw[List.range_succ,List.any_append,<-j1o E t p i]
  simp only[O5,List.any_cons,List.any_nil,Bool.or_false]
  by_cases h:((t,p,()):tkT.den)=(toE E i,poE E i,())
  ·have h1:toE E i=t:=by have:=congrArg (·.1) h;exact this.symm
   have h2:poE E i=p:=by have:=congrArg (·.2.1) h;exact this.symm
   rw[h,q2o rfl]
   simp[h1,h2]
  ·rw[q2n rfl _ _ _ _ h]
   have:(toE E i==t&&poE E i==p)=false:=by
    rw[Bool.and_eq_false_iff,beq_eq_false_iff_ne,beq_eq_false_iff_ne]
    by_cases h1:toE E i=t
    ·right;intro h2;exact h (by rw[h1,h2])
    ·exact .inl h1
   rw[this,Bool.or_false]
def toW (E:List Edge):Nat->Nat->Nat
 | 0,_=>0
 | i+1,a=>if(a:Int)=frE E i then toW E i a ||| 2^(toE E i).toNat else toW E i a
theorem y0n (E:List Edge) (a b:Nat):∀ i,(∀ j,j<i->0<=toE E j)->((toW E i a).testBit b=true↔∃ j,j<i/\frE E j=a/\toE E j=b)
 | 0,_=>by simp[toW]
 | i+1,h=>by
  have ih:=y0n E a b i (fun j hj=>h j (by omega))
  have hto:=h i (by omega)
  simp only[toW]
  constructor
  ·intro hb
   split at hb
   ·rename_i hf
    rw[Nat.testBit_or,Bool.or_eq_true]at hb
    rcases hb with hb | hb
    ·obtain⟨j,h1,h2⟩:=ih.1 hb;exact⟨j,by omega,h2⟩
    ·rw[Nat.testBit_two_pow,decide_eq_true_eq]at hb
     exact⟨i,by omega,hf.symm,by omega⟩
   ·obtain⟨j,h1,h2⟩:=ih.1 hb;exact⟨j,by omega,h2⟩
  ·rintro ⟨j,h1,h2,h3⟩
   by_cases hj:j=i
   ·subst hj
    rw[if_pos h2.symm,Nat.testBit_or,Nat.testBit_two_pow,decide_eq_true (by omega:(toE E j).toNat=b),Bool.or_true]
   ·have:=ih.2 ⟨j,by omega,h2,h3⟩
    split
    ·rw[Nat.testBit_or,this,Bool.true_or]
    ·exact this
theorem j1t {E:List Edge} {n:Nat} (a:Nat):∀ i,(∀ j,j<i->0<=toE E j/\toE E j<n)->toW E i a<2^n
 | 0,_=>Nat.two_pow_pos n
 | i+1,h=>by
  have ih:=j1t a i (fun j hj=>h j (by omega))
  have hto:=h i (by omega)
  simp only[toW]
  split
  ·exact Nat.or_lt_two_pow ih (Nat.pow_lt_pow_right (by decide) (by omega))
  ·exact ih
end

section
open Go Go.Abs

theorem q0g {N:List B4} {E:List Edge} {i:Nat} (h:H4 N E i=0):0<=frE E i/\frE E i<N.length/\0<=toE E i/\toE E i<N.length/\0<=poE E i/\poE E i<D6 (N.getD (toE E i).toNat v0)/\q26 E i=false /\
  Y0 (N.getD (frE E i).toNat v0)=(N.getD (toE E i).toNat v0).2.1:=by
 unfold H4 at h
 split at h
 ·cases h
 ·rename_i h1
  split at h
  ·cases h
  ·rename_i h2
   split at h
   ·cases h
   ·rename_i h3
    split at h
    ·rename_i h4
     exact⟨by omega,by omega,by omega,by omega,by omega,by omega,by simpa using h3,h4⟩
    ·cases h
def q4q (N:List B4) (E:List Edge) (i:Nat):Option (List Int×(Int×Int×Unit)×List ((Int×(Int×Unit))×Int)×Unit) :=
 if H4 N E i=0 then none else some (cl (tab N.length (toW E i)),(H4 N E i,(i:Int),()),O5 E i,())
theorem y3t {N:List B4} {E:List Edge} (hn:N.length<=12) (hN:N.all I6=true) (hE:E.length<=20) :
  A4 (q7a ((N,E,()),())) ((0:Int),cl (tab N.length fun _=>0),((0:Int),(0:Int),()),([]:List ((Int×(Int×Unit))×Int)),()) =
   some (J4 ((List.range E.length).findSome? (q4q N E)) (.inl (cl (tab N.length (toW E E.length)),((0:Int),(0:Int),()),O5 E E.length,()))):=by
 refine y7z (f:=q7a ((N,E,()),())) E.length (fun i=>((i:Int),cl (tab N.length (toW E i)),((0:Int),(0:Int),()),O5 E i,())) (q4q N E) _ (fun i hi hprev=>?_) (fun _=>?_)
 ·have hok:∀ j,j<i->H4 N E j=0:=fun j hj=>by
   have:=hprev j hj
   unfold q4q at this
   split at this
   ·assumption
   ·cases this
  have hw:∀ a,toW E i a<2^32:=fun a=>Nat.lt_of_lt_of_le (j1t a i fun j hj=>⟨(q0g (hok j hj)).2.2.1,(q0g (hok j hj)).2.2.2.1⟩) (Nat.pow_le_pow_right (by decide) (by omega))
  unfold q7a q4q H4
  simp only[dcT (show(i:Int)<(E.length:Int)by omega),cond_true,G7 e0 (Int.natCast_nonneg i) (show(i:Int)<(E.length:Int)by omega),Int.toNat_natCast,Option.bind_some]
  show(cond (decide ((if toE E i<frE E i then toE E i else frE E i)<0)) _ (cond (decide ((if toE E i>frE E i then toE E i else frE E i)≥(N.length:Int))) _ (cond (decide (poE E i<0)) _ ((A7 N (toE E i)).bind _))))=_
  by_cases h1:(if toE E i<frE E i then toE E i else frE E i)<0
  ·have hy:frE E i<0\/(N.length:Int)<=frE E i\/toE E i<0\/(N.length:Int)<=toE E i:=by split at h1<;>omega
   rw[dcT h1,cond_true,if_pos hy]
   rfl
  by_cases h2:(if toE E i>frE E i then toE E i else frE E i)≥(N.length:Int)
  ·have hy:frE E i<0\/(N.length:Int)<=frE E i\/toE E i<0\/(N.length:Int)<=toE E i:=by split at h2<;>omega
   rw[dcF h1,cond_false,dcT h2,cond_true,if_pos hy]
   rfl
  have hno:¬ (frE E i<0\/(N.length:Int)<=frE E i\/toE E i<0\/(N.length:Int)<=toE E i):=by
   split at h1<;>split at h2<;>omega
  have f0:0<=frE E i:=by omega
  have f1:frE E i<N.length:=by omega
  have t0:0<=toE E i:=by omega
  have t1:toE E i<N.length:=by omega
  rw[dcF h1,cond_false,dcF h2,cond_false]
  simp only[if_neg hno]
  by_cases h5:poE E i<0
  ·have hy:poE E i<0\/D6 (N.getD (toE E i).toNat v0)<=poE E i:=.inl h5
   rw[dcT h5,cond_true];simp only[if_pos hy];rfl
  have hto:=G7 (l:=N) v0 t0 t1
  rw[dcF h5,cond_false,hto,Option.bind_some,z1l,Option.bind_some]
  show(cond (decide (poE E i≥D6 (N.getD (toE E i).toNat v0))) _ _)=_
  by_cases h6:poE E i≥D6 (N.getD (toE E i).toNat v0)
  ·have hy:poE E i<0\/D6 (N.getD (toE E i).toNat v0)<=poE E i:=.inr h6
   rw[dcT h6,cond_true];simp only[if_pos hy];rfl
  have hno2:¬ (poE E i<0\/D6 (N.getD (toE E i).toNat v0)<=poE E i):=by omega
  rw[dcF h6,cond_false]
  simp only[if_neg hno2]
  have htk:(A9 tkT (O5 E i) (toE E i,poE E i,())).isSome=q26 E i:=j1o E _ _ i
  show(cond (A9 tkT (O5 E i) (toE E i,poE E i,())).isSome _ _)=_
  rw[htk]
  cases h7:q26 E i with
  | true=>rfl
  | false =>
   rw[cond_false]
   simp only[if_neg (show ¬ (false=true)by simp)]
   have hfr:=G7 (l:=N) v0 f0 f1
   show((A7 N (frE E i)).bind _)=_
   rw[hfr,Option.bind_some,y6l (X8 hN f0 f1),Option.bind_some]
   show((A7 N (toE E i)).bind _)=_
   rw[hto,Option.bind_some]
   show(cond (Y0 (N.getD (frE E i).toNat v0) != (N.getD (toE E i).toNat v0).2.1) _ _)=_
   rw[V1]
   by_cases h8:Y0 (N.getD (frE E i).toNat v0)=(N.getD (toE E i).toNat v0).2.1
   ·rw[if_pos h8]
    simp only[if_pos h8]
    obtain⟨a,ha⟩:=Int.eq_ofNat_of_zero_le f0
    obtain⟨b,hb⟩:=Int.eq_ofNat_of_zero_le t0
    have han:a<N.length:=by omega
    have hbn:b<N.length:=by omega
    have ha':(E.getD i e0).1=(a:Int):=ha
    have hb':(E.getD i e0).2.1=(b:Int):=hb
    have hg:(cl (tab N.length (toW E i)))[a]? = some ((toW E i a:Nat):Int):=by
     rw[z1e (by rw[V9];exact han),z1c han]
    simp only[ha',hb',z1w,V9,F8 han,cond_true,Int.toNat_natCast,hg,Option.bind_some,j1b (show b<32 by omega),q8f (hw a) (j1v (show b<32 by omega)),y41,q69,C7 (show i<9223372036854775807 by omega)]
    have ht:(tab N.length fun j=>if j=a then toW E i a ||| 2^b else toW E i j)=tab N.length (toW E (i+1)):=q0x fun j hj=>?_
    ·rw[ht]
     show some (Sum.inl (((i+1:Nat):Int),cl (tab N.length (toW E (i+1))),((0:Int),(0:Int),()),B0 tkT (O5 E i) ((b:Int),poE E i,()) (i:Int),()))=some (Sum.inl (((i+1:Nat):Int),cl (tab N.length (toW E (i+1))),((0:Int),(0:Int),()),B0 tkT (O5 E i) (toE E i,poE E i,()) (i:Int),()))
     rw[hb]
    simp only[toW]
    by_cases hja:j=a
    ·subst hja;rw[if_pos rfl,if_pos ha.symm,hb];rfl
    ·rw[if_neg hja,if_neg (by omega)]
   ·rw[if_neg h8]
    simp only[if_neg h8]
    rfl
 ·unfold q7a
  simp only[dcF (show ¬ (E.length:Int)<(E.length:Int)by omega),cond_false]
end

section
open Go Go.Abs

theorem j7c (v:B4):D6 v=0\/D6 v=1\/D6 v=2:=by
 unfold D6
 by_cases h1:v.1=1
 ·exact .inl (if_pos h1)
 ·rw[if_neg h1]
  by_cases h3:v.1=3
  ·exact .inr (.inr (if_pos h3))
  ·exact .inr (.inl (if_neg h3))
theorem j0q (v:B4):0<=D6 v/\D6 v<=2:=by rcases j7c v with h | h | h<;>omega
def Q2 (E:List Edge) (t p:Int):Bool:=(List.range E.length).any fun j=>toE E j==t&&poE E j==p
def S4 (N:List B4) (E:List Edge) (i:Nat):Bool:=(List.range (D6 (N.getD i v0)).toNat).any fun p=>!Q2 E i p
theorem y3u (N:List B4) (E:List Edge) (a:List Int) (b:Int×Int×Unit) (i:Nat) (y:Int×Int×Unit) :
  A4 (q7b (D6 (N.getD i v0),()) (a,b,O5 E E.length,()) ((i:Int),y,())) ((0:Int),((0:Int),(0:Int),()),())=some (if S4 N E i=true then .inl (((5:Int),(i:Int),()),())else .inr (.inl (((0:Int),(0:Int),()),()))):=by
 have hp:0<=D6 (N.getD i v0)/\D6 (N.getD i v0)<=2:=j0q _
 have h:=L3 (f:=q7b (D6 (N.getD i v0),()) (a,b,O5 E E.length,()) ((i:Int),y,())) (D6 (N.getD i v0)).toNat (fun p=>((p:Int),((0:Int),(0:Int),()),())) (fun p=>cond (!Q2 E i p) (some (((5:Int),(i:Int),()),())) none) (.inl (((0:Int),(0:Int),()),())) (fun p hpl=>by
  unfold q7b
  simp only[dcT (show(p:Int)<D6 (N.getD i v0)by omega),cond_true]
  rw[C7 (by omega)]
  have ht:(A9 tkT (O5 E E.length) ((i:Int),(p:Int),())).isSome=Q2 E i p:=j1o E _ _ _
  show(cond (!(A9 tkT (O5 E E.length) ((i:Int),(p:Int),())).isSome) _ _)=_
  rw[ht]
  cases Q2 E i p<;>rfl) (by
  unfold q7b
  simp only[dcF (show ¬ ((D6 (N.getD i v0)).toNat:Int)<D6 (N.getD i v0)by omega),cond_false]) rfl
 refine Eq.trans h ?_
 rw[z8p]
 show some (J4 (if S4 N E i=true then _ else _) _)=_
 split<;>rfl
theorem y3v {N:List B4} (E:List Edge) (hn:N.length<=12) (a:List Int) (b:Int×Int×Unit) :
  A4 (q7c ((N,E,()),()) (a,b,O5 E E.length,())) ((0:Int),((0:Int),(0:Int),()),())=some (J4 ((List.range N.length).findSome? fun i=>cond (S4 N E i) (some (((5:Int),(i:Int),()),())) none) (.inl (((0:Int),(0:Int),()),()))):=by
 refine L3 (f:=q7c ((N,E,()),()) (a,b,O5 E E.length,())) N.length (fun i=>((i:Int),((0:Int),(0:Int),()),())) (fun i=>cond (S4 N E i) (some (((5:Int),(i:Int),()),())) none) _ (fun i hi=>?_) ?_ rfl
 ·unfold q7c
  simp only[dcT (show(i:Int)<(N.length:Int)by omega),cond_true,G7 v0 (Int.natCast_nonneg i) (show(i:Int)<(N.length:Int)by omega),Int.toNat_natCast,Option.bind_some,z1l,y3u]
  rw[C7 (by omega)]
  cases S4 N E i<;>rfl
 ·unfold q7c
  simp only[dcF (show ¬ (N.length:Int)<(N.length:Int)by omega),cond_false]
theorem z6d {p:Nat->Bool}:∀ (m:Nat),(∀ j k,j<m->k<m->p j=true->p k=true->j=k)->H0 m p=if(List.range m).any p=true then 1 else 0
 | 0,_=>rfl
 | m+1,h=>by
  have ih:=z6d m (fun j k hj hk=>h j k (by omega) (by omega))
  rw[List.range_succ,List.any_append]
  simp only[H0,ih,List.any_cons,List.any_nil,Bool.or_false]
  cases hpm:p m with
  | false=>simp
  | true =>
   have hno:(List.range m).any p=false:=by
    rw[List.any_eq_false]
    intro j hj hpj
    have:=h j m (by have:=List.mem_range.1 hj;omega) (by omega) hpj hpm
    have:=List.mem_range.1 hj
    omega
   rw[hno];simp
theorem z6e {p q r:Nat->Bool}:∀ (m:Nat),(∀ j,j<m->p j=(q j||r j)/\(q j&&r j)=false)->H0 m p=H0 m q+H0 m r
 | 0,_=>rfl
 | m+1,h=>by
  have ih:=z6e m (fun j hj=>h j (by omega))
  obtain⟨h1,h2⟩:=h m (by omega)
  simp only[H0,ih,h1]
  cases hq:q m<;>cases hr:r m<;>rw[hq,hr]at h2<;>simp at h2 ⊢<;>omega
theorem y92 {N:List B4} {E:List Edge} (hok:∀ j,j<E.length->H4 N E j=0) (i:Nat) :
  decide (((H0 E.length fun j=>toE E j==(i:Int):Nat):Int)<D6 (N.getD i v0))=S4 N E i:=by
 have hval:∀ j,j<E.length->toE E j=i->0<=poE E j/\poE E j<D6 (N.getD i v0):=fun j hj ht=>by
  have h:=q0g (hok j hj)
  rw[ht,Int.toNat_natCast]at h
  exact⟨h.2.2.2.2.1,h.2.2.2.2.2.1⟩
 have huniq:∀ t p:Int,∀ j k,j<E.length->k<E.length->(toE E j==t&&poE E j==p)=true->(toE E k==t&&poE E k==p)=true->j=k:=fun t p j k hj hk h1 h2=>by
  simp only[Bool.and_eq_true,beq_iff_eq]at h1 h2
  have key:∀ j k,j<k->k<E.length->toE E j=toE E k->poE E j=poE E k->False:=fun j k hjk hk ht hp=>by
   have h:=(q0g (hok k hk)).2.2.2.2.2.2.1
   unfold q26 at h
   have:=List.any_eq_false.1 h j (List.mem_range.2 hjk)
   simp[ht,hp]at this
  rcases Nat.lt_trichotomy j k with h | h | h
  ·exact(key j k h hk (h1.1.trans h2.1.symm) (h1.2.trans h2.2.symm)).elim
  ·exact h
  ·exact(key k j h hj (h2.1.trans h1.1.symm) (h2.2.trans h1.2.symm)).elim
 have hc:∀ p:Int,H0 E.length (fun j=>toE E j==(i:Int)&&poE E j==p)=if Q2 E i p=true then 1 else 0:=fun p=>z6d _ (huniq i p)
 have hp:D6 (N.getD i v0)=0\/D6 (N.getD i v0)=1\/D6 (N.getD i v0)=2:=j7c _
 unfold S4
 rcases hp with hp | hp | hp
 ·rw[hp]
  simp
 ·rw[hp]at hval ⊢
  have:H0 E.length (fun j=>toE E j==(i:Int))=H0 E.length fun j=>toE E j==(i:Int)&&poE E j==0:=by
   refine z6c fun j hj=>?_
   by_cases ht:toE E j=i
   ·have:=hval j hj ht
    have:poE E j=0:=by omega
    simp[ht,this]
   ·simp[ht]
  rw[this,hc 0]
  have e1:(List.range (1:Int).toNat).any (fun p:Nat=>!Q2 E i p)=!Q2 E i 0:=by
   show(List.range 1).any _=_
   simp[List.range_succ]
  rw[e1]
  cases Q2 E i 0<;>simp
 ·rw[hp]at hval ⊢
  have:H0 E.length (fun j=>toE E j==(i:Int))=H0 E.length (fun j=>toE E j==(i:Int)&&poE E j==0)+H0 E.length fun j=>toE E j==(i:Int)&&poE E j==1:=by
   refine z6e _ fun j hj=>?_
   by_cases ht:toE E j=i
   ·have:=hval j hj ht
    have:poE E j=0\/poE E j=1:=by omega
    rcases this with h | h<;>simp[ht,h]
   ·have:(toE E j==(i:Int))=false:=by simpa using ht
    simp[this]
  rw[this,hc 0,hc 1]
  have e2:(List.range (2:Int).toNat).any (fun p:Nat=>!Q2 E i p)=(!Q2 E i 0||!Q2 E i 1):=by
   show(List.range 2).any _=_
   simp[List.range_succ]
  rw[e2]
  cases Q2 E i 0<;>cases Q2 E i 1<;>simp
end

section
open Go Go.Abs

def N3 (T:Nat->Nat) (w:Nat) (a b:Nat):Bool:=(T a).testBit b&&w.testBit b
def unN (T:Nat->Nat) (w v:Nat):Nat->Nat
 | 0=>0
 | r+1=>if v.testBit r=true then unN T w v r ||| (T r &&& w)else unN T w v r
theorem y0q (T:Nat->Nat) (w v b:Nat):∀ r,(unN T w v r).testBit b=true↔∃ j,j<r/\v.testBit j=true/\N3 T w j b=true
 | 0=>by simp[unN]
 | r+1=>by
  have d:=y0q T w v b r
  simp[unN]
  constructor
  ·intro h
   split at h
   ·rename_i g
    rw[Nat.testBit_or,Bool.or_eq_true,Nat.testBit_and]at h
    rcases h with h | h
    ·obtain⟨j,e,a⟩:=d.1 h;exact⟨j,by omega,a⟩
    ·exact⟨r,by omega,g,h⟩
   ·obtain⟨j,e,a⟩:=d.1 h;exact⟨j,by omega,a⟩
  ·rintro ⟨j,e,a,f⟩
   by_cases i:j=r
   ·subst i
    rw[if_pos a,Nat.testBit_or,Nat.testBit_and,Bool.or_eq_true];exact .inr f
   ·have:=d.2 ⟨j,by omega,a,f⟩
    split
    ·rw[Nat.testBit_or,this,Bool.true_or]
    ·exact this
theorem z50 {T:Nat->Nat} {w v n:Nat} (a:w<2^n):∀ r,unN T w v r<2^n
 | 0=>Nat.two_pow_pos n
 | r+1=>by
  simp[unN]
  split
  ·exact Nat.or_lt_two_pow (z50 a r) (Nat.lt_of_le_of_lt Nat.and_le_right a)
  ·exact z50 a r
theorem Q7 {n a:Nat} (b:n<=12) (h:a<2^n):a<2^32:=Nat.lt_of_lt_of_le h (Nat.pow_le_pow_right (by decide) (by omega))
theorem y3x {n:Nat} (c:n<=12) {T:Nat->Nat} (i:∀ a,T a<2^n) {w v:Nat} (d:w<2^n) (j:v<2^n) (b:Int×Int×Unit) :
  A4 (q7d (b,cl (tab n T),()) (((w:Int),()),())) ((v:Int),((0:Int),()),())=some (.inl ((((unN T w v n:Nat):Int),()),())):=by
 refine z9v (f:=q7d (b,cl (tab n T),()) (((w:Int),()),())) n (fun r=>((((unN T w v r:Nat):Int),()),())) _ j (by omega) (fun r q g h e=>?_) (fun r e h=>?_) ?_
 ·unfold q7d
  simp only[j0b r q,cond_true,z4z g,Option.bind_some,z1w,V9,F8 e,Int.toNat_natCast]
  rw[z1e (by grind[V9]),z1c e,Option.bind_some,z09 g,q9y (Q7 c (i r)) (Q7 c d),q8f (Q7 c (z50 d r)) (Q7 c (Nat.lt_of_le_of_lt Nat.and_le_right d))]
  grind[unN]
 all_goals grind[unN,q7d]
theorem j3p {p q:Nat->Bool}:∀ (m:Nat),(∀ j,j<m->p j=true->q j=true)->H0 m p<=H0 m q
 | 0,_=>Nat.le_refl _
 | m+1,h=>by
  have a:=j3p m (fun j b=>h j (by omega))
  grind[H0]
theorem q6t {p q:Nat->Bool}:∀ (m:Nat),(∀ j,j<m->p j=true->q j=true)->(∃ j,j<m/\p j=false/\q j=true)->H0 m p<H0 m q
 | 0,_,⟨_,h,_⟩=>by omega
 | m+1,h,⟨j,a,d,b⟩=>by
  have e:=j3p m (fun j a=>h j (by omega))
  simp[H0]
  by_cases c:j=m
  ·grind
  ·have:=q6t m (fun j a=>h j (by omega)) ⟨j,by omega,d,b⟩
   grind
noncomputable def U7 (T:Nat->Nat) (w n i:Nat):Nat:=P8 n fun j=>@decide (Way (N3 T w) i j) (Classical.propDecidable _)
theorem q6l (T:Nat->Nat) (w n i:Nat):U7 T w n i<2^n:=j20 n _
theorem q6k {T:Nat->Nat} {w n i j:Nat} (a:w<2^n):(U7 T w n i).testBit j=true↔Way (N3 T w) i j:=by
 unfold U7
 rw[y0y,Bool.and_eq_true,decide_eq_true_eq]
 refine⟨fun h=>@of_decide_eq_true _ (Classical.propDecidable _) h.2,fun h=>⟨?_,@decide_eq_true _ (Classical.propDecidable _) h⟩⟩
 cases h with
 | one h=>exact q1a a (Bool.and_eq_true_iff.1 h).2
 | more _ h=>exact q1a a (Bool.and_eq_true_iff.1 h).2
theorem y3y {n:Nat} (H:n<=12) {T:Nat->Nat} (N:∀ a,T a<2^n) {w:Nat} (r:w<2^n) (b:Int×Int×Unit) (i:Nat):∀ (k all e:Nat),all<2^n->e<2^n->n<=H0 n (fun j=>all.testBit j)+k ->
  (∀ j,all.testBit j=true\/e.testBit j=true->Way (N3 T w) i j)->(∀ j,N3 T w i j=true->all.testBit j=true\/e.testBit j=true) ->
  (∀ a j,all.testBit a=true->N3 T w a j=true->all.testBit j=true\/e.testBit j=true)->(∀ j,e.testBit j=true->all.testBit j=false) ->
  A4 (q2i (b,cl (tab n T),()) (((w:Int),()),())) ((all:Int),(e:Int),())=some (.inl (((U7 T w n i:Nat):Int),())):=by
 intro k
 induction k with
 | zero =>
  intro all e u l K s R O A
  have x:e=0:=by
   refine j21 (k:=n) l (Nat.two_pow_pos n) fun j f=>?_
   rw[Nat.zero_testBit]
   cases I:e.testBit j with
   | false=>rfl
   | true =>
    exfalso
    have Q:=A j I
    have U:=q6t (p:=fun j=>all.testBit j) (q:=fun _=>true) n (fun _ _ _=>rfl) ⟨j,f,Q,rfl⟩
    grind[z0d]
  subst x
  refine H1 ?_
  unfold q2i
  show some (Sum.inr (Sum.inl ((all:Int),())))=_
  have:all=U7 T w n i:=by
   refine j21 (k:=n) u (q6l T w n i) fun j f=>?_
   rw[Bool.eq_iff_iff,q6k r]
   refine⟨fun h=>s j (.inl h),fun h=>?_⟩
   induction h with
   | one h=>grind
   | more _ h C =>
    have y:∀ {c d},N3 T w c d=true->d<n:=fun h=>q1a r (Bool.and_eq_true_iff.1 h).2
    rename_i c d o
    have J:c<n:=by
     cases o with
     | one h=>grind
     | more _ h=>grind
    grind
  grind
 | succ k C =>
  intro all e u l K s R O A
  by_cases x:e=0
  ·subst x
   refine H1 ?_
   unfold q2i
   show some (Sum.inr (Sum.inl ((all:Int),())))=_
   have:all=U7 T w n i:=by
    refine j21 (k:=n) u (q6l T w n i) fun j f=>?_
    rw[Bool.eq_iff_iff,q6k r]
    refine⟨fun h=>s j (.inl h),fun h=>?_⟩
    induction h with
    | one h=>grind
    | more _ h C =>
     have y:∀ {c d},N3 T w c d=true->d<n:=fun h=>q1a r (Bool.and_eq_true_iff.1 h).2
     rename_i c d o
     have J:c<n:=by
      cases o with
      | one h=>grind
      | more _ h=>grind
     grind
   grind
  ·have z:all ||| e<2^n:=Nat.or_lt_two_pow u l
   have D:=z50 (T:=T) (v:=e) r n
   have g:q2i (b,cl (tab n T),()) (((w:Int),()),()) ((all:Int),(e:Int),())=some (.inl (((all ||| e:Nat):Int),((dif (unN T w e n) (all ||| e):Nat):Int),())):=by
    unfold q2i
    have B:((e:Int) != 0)=true:=by grind
    simp[B,cond_true,q6a (z2b (Q7 H l)),y3x H N r l,Option.bind_some,Sum.elim_inl]
    grind[q8f,Q7,y9e]
   rw[K2 g]
   have m:∀ j,(all ||| e).testBit j=true↔all.testBit j=true\/e.testBit j=true:=fun j=>by grind
   have t:∀ j,(unN T w e n).testBit j=true↔∃ a,e.testBit a=true/\N3 T w a j=true:=fun j=>by
    rw[y0q]
    exact⟨fun ⟨a,_,h⟩=>⟨a,h⟩,fun ⟨a,h⟩=>⟨a,q1a l h.1,h⟩⟩
   have G:∀ j,(dif (unN T w e n) (all ||| e)).testBit j=true↔(unN T w e n).testBit j=true/\(all ||| e).testBit j=false:=fun j=>by grind[j40]
   refine C (all ||| e) _ z (j41 D) ?_ (fun j f=>?_) (fun j f=>?_) (fun a j M S=>?_) (fun j f=>((G j).1 f).2)
   ·obtain⟨j,f⟩:=Nat.exists_testBit_of_ne_zero x
    have:=q6t (p:=fun j=>all.testBit j) (q:=fun j=>(all ||| e).testBit j) n (fun j _ h=>(m j).2 (.inl h)) ⟨j,q1a l f,A j f,(m j).2 (.inr f)⟩
    omega
   ·rcases f with f | f
    ·exact s j ((m j).1 f)
    ·obtain⟨a,E,F⟩:=(t j).1 ((G j).1 f).1
     exact .more (s a (.inr E)) F
   all_goals grind
theorem j3l {n:Nat} (e:n<=12) {T:Nat->Nat} (g:∀ a,T a<2^n) {w:Nat} (d:w<2^n) (b:Int×Int×Unit) (i:Nat) :
  A4 (q2i (b,cl (tab n T),()) (((w:Int),()),())) ((0:Int),((T i &&& w:Nat):Int),())=some (.inl (((U7 T w n i:Nat):Int),())):=by
 have f:T i &&& w<2^n:=Nat.lt_of_le_of_lt Nat.and_le_right d
 refine y3y e g d b i n 0 (T i &&& w) (Nat.two_pow_pos n) f (by omega) (fun j c=>?_) (fun j c=>?_) (fun a j h=>by grind) (fun j _=>Nat.zero_testBit j)
 ·rcases c with c | c
  ·grind
  ·rw[Nat.testBit_and]at c;exact .one c
 ·exact .inr (by rw[Nat.testBit_and];exact c)
theorem y7m:j5h=q2i:=rfl
end

section
open Go Go.Abs

def U6 (p:Nat->Bool) (v b0:Nat):Nat->Nat
 | 0=>b0
 | r+1=>if v.testBit r=true/\p r=true then U6 p v b0 r ||| 2^r else U6 p v b0 r
theorem q9x {p:Nat->Bool} {v b0 n:Nat} (a:b0<2^n):∀ r,r<=n->U6 p v b0 r<2^n
 | 0,_=>a
 | r+1,b=>by
  simp[U6]
  split
  ·exact Nat.or_lt_two_pow (q9x a r (by omega)) (Nat.pow_lt_pow_right (by decide) (by omega))
  ·exact q9x a r (by omega)
theorem j2h {p:Nat->Bool} {v b0 j:Nat}:∀ r,(U6 p v b0 r).testBit j=true↔b0.testBit j=true\/(j<r/\v.testBit j=true/\p j=true)
 | 0=>by simp[U6]
 | r+1=>by
  have c:=j2h (p:=p) (v:=v) (b0:=b0) (j:=j) r
  simp[U6]
  by_cases h:v.testBit r=true/\p r=true
  ·rw[if_pos h,Nat.testBit_or,Bool.or_eq_true,c,Nat.testBit_two_pow,decide_eq_true_eq]
   constructor
   ·rintro ((a | ⟨a,b⟩) | rfl)
    ·exact .inl a
    ·exact .inr ⟨by omega,b⟩
    ·exact .inr ⟨by omega,h⟩
   ·rintro (a | ⟨a,b⟩)
    ·exact .inl (.inl a)
    ·by_cases d:r=j
     ·exact .inr d
     ·exact .inl (.inr ⟨by omega,b⟩)
  ·rw[if_neg h,c]
   constructor
   ·rintro (a | ⟨a,b⟩)
    ·exact .inl a
    ·exact .inr ⟨by omega,b⟩
   ·rintro (a | ⟨a,b⟩)
    ·exact .inl a
    ·refine .inr ⟨?_,b⟩
     have:j≠r:=fun e=>h (e▸b)
     omega
section
variable {n:Nat} {T:Nat->Nat}
theorem y3p (c:n<=12) (k:∀ a,T a<2^n) {w:Nat} (g:w<2^n) (b:Int×Int×Unit) {i v b0:Nat} (m:v<2^n) (e:b0<2^n) :
  A4 (q78 (b,cl (tab n T),()) (((w:Int),()),()) ((i:Int),())) ((v:Int),((b0:Int),()),())=some (.inl ((((U6 (fun j=>(U7 T w n j).testBit i) v b0 n:Nat):Int),()),())):=by
 refine z9v (f:=q78 (b,cl (tab n T),()) (((w:Int),()),()) ((i:Int),())) n (fun r=>((((U6 (fun j=>(U7 T w n j).testBit i) v b0 r:Nat):Int),()),())) _ m (by omega) (fun r q h l d=>?_) (fun r d l=>?_) ?_
 ·unfold q78
  simp only[j0b r q,cond_true,z4z h,Option.bind_some,z1w,V9,F8 d,Int.toNat_natCast]
  rw[z1e (by grind[V9]),z1c d,Option.bind_some,q9y (Q7 c (k r)) (Q7 c g),y7m,j3l c k g,Option.bind_some,Sum.elim_inl,v6h i (Q7 c (q6l T w n r)),Option.bind_some]
  simp only[z09 h,U6,l,true_and]
  cases o:(U7 T w n r).testBit i with
  | false=>simp
  | true =>
   simp only[cond_true,j1b (show r<32 by omega),Option.bind_some,if_true]
   rw[q8f (Q7 c (q9x e r (by omega))) (j1v (by omega))]
 all_goals grind[U6,q78]
noncomputable def U0 (T:Nat->Nat) (w n:Nat) (D:Nat->Bool) (b0:Nat):Nat->Nat
 | 0=>b0
 | i+1=>if w.testBit i=true/\D i=true then U6 (fun j=>(U7 T w n j).testBit i) (U7 T w n i) (U0 T w n D b0 i) n else U0 T w n D b0 i
theorem z4i {w:Nat} {D:Nat->Bool} {b0:Nat} (a:b0<2^n):∀ i,U0 T w n D b0 i<2^n
 | 0=>a
 | i+1=>by
  simp[U0]
  split
  ·exact q9x (z4i a i) n (Nat.le_refl _)
  ·exact z4i a i
theorem j7z {w:Nat} {D:Nat->Bool} {b0 j:Nat} (g:w<2^n):∀ m,(U0 T w n D b0 m).testBit j=true↔b0.testBit j=true\/∃ i,i<m/\w.testBit i=true/\D i=true/\Way (N3 T w) i j/\Way (N3 T w) j i
 | 0=>by simp[U0]
 | i+1=>by
  have k:=j7z (D:=D) (b0:=b0) (j:=j) g i
  simp[U0]
  by_cases h:w.testBit i=true/\D i=true
  ·rw[if_pos h,j2h,k,q6k g,q6k g]
   constructor
   ·rintro ((b | ⟨a,b,c⟩) | ⟨b,c,d⟩)
    ·exact .inl b
    ·exact .inr ⟨a,by omega,c⟩
    ·exact .inr ⟨i,by omega,h.1,h.2,c,d⟩
   ·rintro (b | ⟨a,b,c,d,f,l⟩)
    ·exact .inl (.inl b)
    ·by_cases o:a=i
     ·subst o
      exact .inr ⟨q1a (q6l T w n a) ((q6k g).2 f),f,l⟩
     ·exact .inl (.inr ⟨a,by omega,c,d,f,l⟩)
  ·rw[if_neg h,k]
   constructor
   ·rintro (b | ⟨a,b,c⟩)
    ·exact .inl b
    ·exact .inr ⟨a,by omega,c⟩
   ·rintro (b | ⟨a,b,c,d,f⟩)
    ·exact .inl b
    ·have:a≠i:=fun e=>h (e▸⟨c,d⟩)
     exact .inr ⟨a,by omega,c,d,f⟩
end
def J0 (N:List B4) (i:Nat):Int:=(N.getD i v0).2.1
def q1o (N:List B4) (i:Nat):Int:=(N.getD i v0).1
theorem y3q {N:List B4} (E:List Edge) (c:N.length<=12) {T:Nat->Nat} (h:∀ a,T a<2^N.length) {w:Nat} (e:w<2^N.length) (b:Int×Int×Unit) (f:Int) (y:(Int×Unit)×Unit) {b0:Nat} (g:b0<2^N.length) :
  A4 (q79 ((N,E,()),()) ((f,()),y) (b,cl (tab N.length T),()) (((w:Int),()),())) ((w:Int),((b0:Int),()),())=some (.inl ((((U0 T w N.length (fun i=>J0 N i==f) b0 N.length:Nat):Int),()),())):=by
 refine z9v (f:=q79 ((N,E,()),()) ((f,()),y) (b,cl (tab N.length T),()) (((w:Int),()),())) N.length (fun r=>((((U0 T w N.length (fun i=>J0 N i==f) b0 r:Nat):Int),()),())) _ e (by omega) (fun r q k l j=>?_) (fun r j l=>?_) ?_
 ·unfold q79
  simp only[j0b r q,cond_true,z4z k,Option.bind_some,G7 v0 (Int.natCast_nonneg r) (show(r:Int)<(N.length:Int)by omega),Int.toNat_natCast]
  show(cond (J0 N r != f) _ _)=_
  rw[V1]
  by_cases m:J0 N r=f
  ·simp only[z1w,V9,F8 j,cond_true]
   have d:=q6l T w N.length r
   rw[z1e (by grind[V9]),z1c j,Option.bind_some,q9y (Q7 c (h r)) (Q7 c e),j3l c h e,Option.bind_some,Sum.elim_inl,q6a (z2b (Q7 c d)),y3p c h e b d (z4i g r),Option.bind_some,Sum.elim_inl,Option.bind_some,Sum.elim_inl,z09 k]
   grind[U0]
  grind[z09,U0]
 all_goals grind[U0,q79]
def H3 (N:List B4) (f:Nat) (i:Nat):Bool:=decide ((f:Int)<J0 N i)||(J0 N i==(f:Int)&&q1o N i != 6)
def N9 (N:List B4) (f:Nat):Nat:=P8 N.length (H3 N f)
theorem y3w {N:List B4} (E:List Edge) (c:N.length<=12) (f:Nat) (y:(Int×Unit)×Unit) :
  A4 (z1j ((N,E,()),()) (((f:Int),()),y)) ((0:Int),((0:Int),()),())=some (.inl ((((N9 N f:Nat):Int),()),())):=by
 refine N1 N.length (fun i=>((i:Int),((((P8 i (H3 N f):Nat):Int)),()),())) _ (fun i b=>?_) ?_ rfl
 ·unfold z1j
  have a:P8 i (H3 N f)<2^32:=v7i _ (by omega)
  simp only[dcT (show(i:Int)<(N.length:Int)by omega),cond_true,G7 v0 (Int.natCast_nonneg i) (show(i:Int)<(N.length:Int)by omega),Int.toNat_natCast,Option.bind_some,j1b (show i<32 by omega),q8f a (j1v (show i<32 by omega)),C7 (show i<9223372036854775807 by omega),v7j]
  grind[J0,q1o,H3]
 ·unfold z1j
  simp[dcF (show ¬ (N.length:Int)<(N.length:Int)by omega),cond_false]
  rfl
noncomputable def q18 (N:List B4) (T:Nat->Nat):Nat->Nat
 | 0=>0
 | f+1=>U0 T (N9 N (f+1)) N.length (fun i=>J0 N i==((f+1:Nat):Int)) (q18 N T f) N.length
theorem z9e (N:List B4) (f:Nat):N9 N f<2^N.length:=j20 _ _
theorem z5r (N:List B4) (T:Nat->Nat):∀ f,q18 N T f<2^N.length
 | 0=>Nat.two_pow_pos _
 | f+1=>z4i (z5r N T f) _
theorem j31 (N:List B4) (T:Nat->Nat) (j:Nat):∀ m,(q18 N T m).testBit j=true↔∃ f i,1<=f/\f<=m/\i<N.length/\(N9 N f).testBit i=true/\J0 N i=(f:Int)/\Way (N3 T (N9 N f)) i j/\Way (N3 T (N9 N f)) j i
 | 0=>by grind[q18]
 | m+1=>by
  simp only[q18]
  rw[j7z (z9e N (m+1)),j31 N T j m]
  constructor
  ·rintro (⟨f,i,a,c,h⟩ | ⟨i,a,c,b,h⟩)
   ·exact⟨f,i,a,by omega,h⟩
   ·exact⟨m+1,i,by omega,by omega,a,c,by simpa using b,h⟩
  ·rintro ⟨f,i,a,c,b,e,d,h⟩
   by_cases g:f=m+1
   ·subst g;exact .inr ⟨i,b,e,by simpa using d,h⟩
   ·exact .inl ⟨f,i,a,by omega,b,e,d,h⟩
theorem y3r {N:List B4} (E:List Edge) (c:N.length<=12) {T:Nat->Nat} (d:∀ a,T a<2^N.length) (b:Int×Int×Unit) :
  A4 (z8z ((N,E,()),()) (b,cl (tab N.length T),())) (((1:Int),()),((0:Int),()),())=some (.inl ((((q18 N T 4:Nat):Int),()),())):=by
 refine N1 4 (fun f=>((((f+1:Nat):Int),()),((((q18 N T f:Nat):Int)),()),())) _ (fun f e=>?_) ?_ rfl
 ·unfold z8z
  simp only[dcT (show((f+1:Nat):Int)<=4 by omega),cond_true,y3w E c (f+1),Option.bind_some,Sum.elim_inl,q6a (z2b (Q7 c (z9e N (f+1))))]
  rw[y3q E c d (z9e N (f+1)) b _ _ (z5r N T f),Option.bind_some,Sum.elim_inl,Option.bind_some,Sum.elim_inl,C7 (by omega)]
  rfl
 rfl
theorem y3s {n:Nat} (d:n<=12) {v:Nat} (a:v<2^n):A4 z1i ((v:Int),((0:Int),()),())=some (((List.range n).findSome? fun j=>if v.testBit j=true then some (Sum.inl (((j:Int),()),()))else none).getD (.inr (.inl (((0:Int),()),())))):=by
 refine y7y (f:=z1i) n (fun _=>(((0:Int),()),())) (fun j=>some (Sum.inl (((j:Int),()),()))) _ a (by omega) (fun r q e b c=>?_) (fun _ _ _=>rfl) ?_
 all_goals grind[z1i,z4z]
end

section
open Go Go.Abs

def edM (N:List B4) (E:List Edge) (f k:Nat) (a b:Nat):Bool:=H3 N f a&&H3 N f b&&(List.range k).any fun j=>frE E j==(a:Int)&&toE E j==(b:Int)
def sqT (n:Nat) (w:Nat->Nat->Bool):List Bool:=tab (n*n) fun y=>w (y / n) (y % n)
theorem y08 {n i j:Nat} (a:j<n):(i*n+j) / n=i:=by grind[Nat.mul_comm,Nat.mul_add_div,Nat.div_eq_of_lt]
theorem y09 {n i j:Nat} (a:j<n):(i*n+j) % n=j:=by grind[Nat.mul_comm,Nat.mul_add_mod,Nat.mod_eq_of_lt]
theorem j1i {n i j:Nat} {w:Nat->Nat->Bool} (hi:i<n) (a:j<n):(sqT n w)[i*n+j]? = some (w i j):=by
 grind[sqT,q06,q44,y08,y09]
theorem v6p {n:Nat} {w:Nat->Nat->Bool}:(sqT n w).length=n*n:=q23 _ _
theorem v6q {n:Nat} (a:n<=12):IntKind.i64.wrap ((n:Int)*(n:Int))=((n*n:Nat):Int):=by
 have h:n*n<=12*12:=Nat.mul_le_mul a a
 grind[M0]
theorem j80 {n:Nat} (h:n<=1000000):C2 n 1=true:=by
 grind[C2,Nat.ble_eq_true_of_le]
section
variable {N:List B4} {E:List Edge}
theorem y4i (h:N.length<=12) (f:Nat):A4 (z41 ((N,E,()),(f:Int),())) ((0:Int),List.replicate N.length false,())=some (.inl (tab N.length (H3 N f),())):=by
 have e:List.replicate N.length false=tab N.length fun j=>if j<0 then H3 N f j else false:=by grind[j10]
 rw[e]
 have a:(tab N.length fun j=>if j<N.length then H3 N f j else false)=tab N.length (H3 N f):=q0x fun j k=>by grind
 refine N1 N.length (fun i=>((i:Int),(tab N.length fun j=>if j<i then H3 N f j else false),())) _ (fun i c=>?_) ?_ rfl
 ·unfold z41
  have d:∀ b:Bool,b=H3 N f i->(tab N.length fun j=>if j<i then H3 N f j else false).set i b=tab N.length fun j=>if j<i+1 then H3 N f j else false:=fun b g=>by
   rw[q69]
   grind
  simp only[dcT (show(i:Int)<(N.length:Int)by omega),cond_true,G7 v0 (Int.natCast_nonneg i) (show(i:Int)<(N.length:Int)by omega),Int.toNat_natCast,Option.bind_some,V9,F8 c,q06 _ c,C7 (show i<9223372036854775807 by omega)]
  grind[J0,H3,q1o]
 grind[z41]
theorem y4j (t:N.length<=12) (u:E.length<=20) (e:∀ j,j<E.length->H4 N E j=0) (f:Nat) :
  A4 (z42 ((N,E,()),(f:Int),()) (tab N.length (H3 N f),())) ((0:Int),List.replicate (N.length*N.length) false,())=some (.inl (sqT N.length (edM N E f E.length),())):=by
 have s:List.replicate (N.length*N.length) false=sqT N.length (edM N E f 0):=by
  rw[j10];exact q0x fun j _=>by simp[edM]
 rw[s]
 refine N1 E.length (fun i=>((i:Int),sqT N.length (edM N E f i),())) _ (fun i r=>?_) ?_ rfl
 ·have m:=q0g (e i r)
  obtain⟨a,q⟩:=Int.eq_ofNat_of_zero_le m.1
  obtain⟨b,o⟩:=Int.eq_ofNat_of_zero_le m.2.2.1
  have c:a<N.length:=by omega
  have d:b<N.length:=by omega
  have k:(E.getD i e0).1=(a:Int):=q
  have g:(E.getD i e0).2.1=(b:Int):=o
  have l:(H3 N f a&&H3 N f b)=false->sqT N.length (edM N E f i)=sqT N.length (edM N E f (i+1)):=fun h=>q0x fun y _=>by
   unfold edM
   grind
  have n:(H3 N f a&&H3 N f b)=true->(sqT N.length (edM N E f i)).set (a*N.length+b) true=sqT N.length (edM N E f (i+1)):=fun h=>by
   unfold sqT
   rw[q69]
   refine q0x fun y v=>?_
   unfold edM
   by_cases p:y=a*N.length+b
   ·grind[y08,y09]
   grind[Nat.div_add_mod]
  unfold z42
  simp only[dcT (show(i:Int)<(E.length:Int)by omega),cond_true,G7 e0 (Int.natCast_nonneg i) (show(i:Int)<(E.length:Int)by omega),Int.toNat_natCast,Option.bind_some,k,g,V9,F8 c,F8 d,q06 _ c,q06 _ d,q67 (show N.length<=64 by omega) c d,v6p,F8 (q44 c d),j1i c d,C7 (show i<9223372036854775807 by omega)]
  grind
 grind[z42]
def fwL (w:Nat->Nat->Bool) (n k x:Nat):List Bool:=tab (n*n) (T4 w n k x)
theorem y6c {w:Nat->Nat->Bool} {n k x:Nat}:(fwL w n k x).length=n*n:=q23 _ _
theorem z8v {w:Nat->Nat->Bool} {n k x i j:Nat} (hi:i<n) (a:j<n):(fwL w n k x)[i*n+j]? = some (T4 w n k x (i*n+j)):=q06 _ (q44 hi a)
theorem y6d (w:Nat->Nat->Bool) (n k:Nat):sqT n w=fwL w n k 0:=q0x fun y _=>by rfl
theorem y6b (w:Nat->Nat->Bool) (n k:Nat):fwL w n k (n*n)=sqT n (fwR w k):=q0x fun y a=>by grind[T4]
theorem y4k (n:N.length<=12) (f:Nat) (w:Nat->Nat->Bool) {k i:Nat} (d:k<N.length) (hi:i<N.length) (m l:List Bool×Unit) :
  A4 (z44 ((N,E,()),(f:Int),()) ((i:Int),m) ((k:Int),l)) ((0:Int),fwL w N.length k (i*N.length),())=some (.inl (fwL w N.length k ((i+1)*N.length),())):=by
 refine N1 N.length (fun j=>((j:Int),fwL w N.length k (i*N.length+j),())) _ (fun j c=>?_) ?_ rfl
 ·have a:N.length<=64:=by omega
  have g:∀ b:Bool,b=fwR w k i j->(fwL w N.length k (i*N.length+j)).set (i*N.length+j) b=fwL w N.length k (i*N.length+(j+1)):=fun b o=>by
   grind[fwL,q69,q0x,j58]
  have e:w i j=fwR w k i j->fwL w N.length k (i*N.length+j)=fwL w N.length k (i*N.length+(j+1)):=fun h=>q0x fun y _=>by
   grind[j58,y69]
  unfold z44
  simp only[dcT (show(j:Int)<(N.length:Int)by omega),cond_true,q67 a hi d,q67 a d c,q67 a hi c,y6c,F8 (q44 hi d),F8 (q44 d c),F8 (q44 hi c),Int.toNat_natCast,z8v hi d,z8v d c,z8v hi c,y68 d,y6a c,Option.bind_some,C7 (show j<9223372036854775807 by omega)]
  grind[fwR]
 grind[z44]
theorem y4l (b:N.length<=12) (f:Nat) (w:Nat->Nat->Bool) {k:Nat} (a:k<N.length) (y:List Bool×Unit) :
  A4 (j0x ((N,E,()),(f:Int),()) ((k:Int),y)) ((0:Int),sqT N.length w,())=some (.inl (sqT N.length (fwR w k),())):=by
 rw[y6d w N.length k,<-y6b]
 refine N1 N.length (fun i=>((i:Int),fwL w N.length k (i*N.length),())) _ (fun i c=>?_) ?_ (by simp)
 all_goals grind[j0x,y4k,C7]
theorem v2n (a:N.length<=12) (e:E.length<=20) (b:∀ j,j<E.length->H4 N E j=0) (f:Nat) :
  z40 ((N,E,()),(f:Int),())=some (sqT N.length (fwN (edM N E f E.length) N.length),()):=by
 have d:N.length*N.length<=12*12:=Nat.mul_le_mul a a
 unfold z40
 simp only[v6q a,Int.toNat_natCast]
 rw[dcT (show(0:Int)<=((N.length*N.length:Nat):Int)by omega),dcT (show((N.length*N.length:Nat):Int)<=((N.length*N.length:Nat):Int)by omega),j80 (by omega),dcT (show((N.length*N.length:Nat):Int)<=9223372036854775807 by omega),
  dcT (show(0:Int)<=(N.length:Int)by omega),dcT (show(N.length:Int)<=(N.length:Int)by omega),j80 (show N.length<=1000000 by omega),dcT (show(N.length:Int)<=9223372036854775807 by omega)]
 simp[Bool.and_self,cond_true,y4i a f,Option.bind_some,Sum.elim_inl,y4j a e b f]
 have g:A4 (z45 ((N,E,()),(f:Int),())) ((0:Int),sqT N.length (edM N E f E.length),())=some (.inl (sqT N.length (fwN (edM N E f E.length) N.length),())):=by
  refine N1 N.length (fun k=>((k:Int),sqT N.length (fwN (edM N E f E.length) k),())) _ (fun k c=>?_) ?_ rfl
  ·unfold z45
   simp only[dcT (show(k:Int)<(N.length:Int)by omega),cond_true,y4l a f _ c,Option.bind_some,Sum.elim_inl,C7 (show k<9223372036854775807 by omega)]
   rfl
  grind[z45]
 grind
end
end

end Go.Proofs.Tryz
