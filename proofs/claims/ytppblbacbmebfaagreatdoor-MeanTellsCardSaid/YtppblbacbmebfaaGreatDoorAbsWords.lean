/- Words as sets of bits, for the plain laws: the machine's operations on words that are natural numbers; the loop over a word's bits. -/
import Derived.Test.YtppblbacbmebfaaGreatDoorAbsLoops
namespace Go.Abs
open Go
theorem z56 {n:Nat} (h:n<2^32):IntKind.u32.wrap (n:Int)=(n:Int):=by
 grind[IntKind.wrap,IntKind.bits,IntKind.signed]
theorem q6a {n:Nat} (h:n<2^64):IntKind.u64.wrap (n:Int)=(n:Int):=by
 grind[IntKind.wrap,IntKind.bits,IntKind.signed]
theorem q2v (k n:Nat):BitVec.ofInt k (n:Int)=BitVec.ofNat k n:=by
 rfl
theorem q9y {a b:Nat} (d:a<2^32) (c:b<2^32):E8 .and .u32 (a:Int) (b:Int)=((a &&& b:Nat):Int):=by
 show IntKind.u32.wrap ((BitVec.ofInt 32 (a:Int) &&& BitVec.ofInt 32 (b:Int)).toNat:Int)=_
 rw[q2v,q2v,BitVec.toNat_and,BitVec.toNat_ofNat,BitVec.toNat_ofNat,Nat.mod_eq_of_lt d,Nat.mod_eq_of_lt c,z56 (Nat.and_lt_two_pow _ c)]
theorem q8f {a b:Nat} (d:a<2^32) (c:b<2^32):E8 .or .u32 (a:Int) (b:Int)=((a ||| b:Nat):Int):=by
 show IntKind.u32.wrap ((BitVec.ofInt 32 (a:Int) ||| BitVec.ofInt 32 (b:Int)).toNat:Int)=_
 rw[q2v,q2v,BitVec.toNat_or,BitVec.toNat_ofNat,BitVec.toNat_ofNat,Nat.mod_eq_of_lt d,Nat.mod_eq_of_lt c,z56 (Nat.or_lt_two_pow d c)]
theorem j2p {a b:Nat} (d:a<2^64) (c:b<2^64):E8 .and .u64 (a:Int) (b:Int)=((a &&& b:Nat):Int):=by
 show IntKind.u64.wrap ((BitVec.ofInt 64 (a:Int) &&& BitVec.ofInt 64 (b:Int)).toNat:Int)=_
 rw[q2v,q2v,BitVec.toNat_and,BitVec.toNat_ofNat,BitVec.toNat_ofNat,Nat.mod_eq_of_lt d,Nat.mod_eq_of_lt c,q6a (Nat.and_lt_two_pow _ c)]
def dif (a b:Nat):Nat:=a ^^^ (a &&& b)
theorem j40 (a b i:Nat):(dif a b).testBit i=(a.testBit i&&!b.testBit i):=by
 grind[dif]
theorem j41 {a b k:Nat} (h:a<2^k):dif a b<2^k :=
 Nat.xor_lt_two_pow h (Nat.lt_of_le_of_lt Nat.and_le_left h)
theorem y9e {a b:Nat} (c:a<2^32) (_:b<2^32):E8 .andNot .u32 (a:Int) (b:Int)=((dif a b:Nat):Int):=by
 show IntKind.u32.wrap ((BitVec.ofInt 32 (a:Int) &&& ~~~ BitVec.ofInt 32 (b:Int)).toNat:Int)=_
 have e:(BitVec.ofInt 32 (a:Int) &&& ~~~ BitVec.ofInt 32 (b:Int)).toNat=dif a b:=by
  apply Nat.eq_of_testBit_eq
  intro i
  rw[j40,BitVec.testBit_toNat,BitVec.getLsbD_and,BitVec.getLsbD_not,q2v,q2v,BitVec.getLsbD_ofNat,BitVec.getLsbD_ofNat]
  by_cases h:i<32
  ·grind
  ·have:a.testBit i=false:=Nat.testBit_lt_two_pow (Nat.lt_of_lt_of_le c (Nat.pow_le_pow_right (by decide) (by omega)))
   grind
 rw[e,z56 (j41 c)]
theorem v6i {i:Nat} (h:i<32):q9c .u32 1 (i:Int)=((2^i:Nat):Int):=by
 show IntKind.u32.wrap (1*2^(min ((i:Int).toNat) 32))=_
 rw[Int.toNat_natCast,Nat.min_eq_left (by omega),Int.one_mul]
 have:((2:Int)^i)=((2^i:Nat):Int):=by simp
 rw[this,z56 (Nat.pow_lt_pow_right (by decide) h)]
theorem v6j (a i:Nat) (h:a<2^32):q38 .u32 (a:Int) (i:Int)=((a >>> i:Nat):Int):=by
 show Int.fdiv (a:Int) (2^(min ((i:Int).toNat) 32))=_
 rw[Int.toNat_natCast,Nat.shiftRight_eq_div_pow,show((2:Int)^(min i 32))=((2^(min i 32):Nat):Int)by simp,Int.fdiv_eq_ediv_of_nonneg _ (Int.natCast_nonneg _),<-Int.natCast_ediv]
 by_cases b:i<=32
 ·grind
 ·rw[Nat.min_eq_right (by omega),Nat.div_eq_of_lt h,Nat.div_eq_of_lt (Nat.lt_of_lt_of_le h (Nat.pow_le_pow_right (by decide) (by omega)))]
theorem q1a {a k i:Nat} (b:a<2^k) (h:a.testBit i=true):i<k:=by
 grind[Nat.testBit_lt_two_pow,Nat.lt_of_lt_of_le,Nat.pow_le_pow_right]
theorem y3g {a k i:Nat} (b:a<2^k) (hi:k<=i):a.testBit i=false :=
 Nat.testBit_lt_two_pow (Nat.lt_of_lt_of_le b (Nat.pow_le_pow_right (by decide) hi))
theorem y6r {a:Nat} (i:Nat) (h:a<2^32):(E8 .and .u32 (q38 .u32 (a:Int) (i:Int)) 1==1)=a.testBit i:=by
 have b:a >>> i<2^32:=Nat.lt_of_le_of_lt (by rw[Nat.shiftRight_eq_div_pow];exact Nat.div_le_self _ _) h
 grind[v6j,q9y,Nat.testBit]
theorem j21 {a b k:Nat} (c:a<2^k) (d:b<2^k) (h:∀ i,i<k->a.testBit i=b.testBit i):a=b:=by
 apply Nat.eq_of_testBit_eq
 grind[y3g]
theorem q87 (r q i:Nat):(2^r*(2*q+1)).testBit i=(decide (r=i)||decide (r<i)&&q.testBit (i-r-1)):=by
 rw[Nat.testBit_two_pow_mul]
 by_cases h:r=i
 ·subst h;simp
 ·by_cases h2:r<i
  ·obtain⟨d,rfl⟩:∃ d,i=r+d+1:=⟨i-r-1,by omega⟩
   have e1:r+d+1-r=d+1:=by omega
   have e2:r+d+1-r-1=d:=by omega
   have e3:(2*q+1) / 2=q:=by omega
   rw[e2,e1,Nat.testBit_succ,e3]
   simp[h,h2];omega
  ·have:¬ r<=i:=by omega
   simp[h,h2,this]
theorem y85 (r q:Nat):(2^r*(2*q+1)) &&& (2^r*(2*q+1)-1)=2^r*(2*q):=by
 have hp:=Nat.two_pow_pos r
 have e:2^r*(2*q+1)-1=2^r*(2*q)+(2^r-1):=by rw[Nat.mul_add];omega
 apply Nat.eq_of_testBit_eq
 intro i
 rw[Nat.testBit_and,q87,e,Nat.testBit_two_pow_mul_add _ (by omega),Nat.testBit_two_pow_mul]
 by_cases h:r=i
 ·subst h;simp
 ·by_cases h2:r<i
  ·obtain⟨d,rfl⟩:∃ d,i=r+d+1:=⟨i-r-1,by omega⟩
   have e1:r+d+1-r=d+1:=by omega
   have e2:r+d+1-r-1=d:=by omega
   have e4:¬ r+d+1<r:=by omega
   have e5:(2*q).testBit (d+1)=q.testBit d:=by rw[Nat.testBit_succ,show 2*q / 2=q by omega]
   rw[if_neg e4,e2,e1,e5,decide_eq_false h,decide_eq_true h2,decide_eq_true (show r+d+1≥r by omega)]
   simp
  ·have:¬ r<=i:=by omega
   simp[h,h2,this]
theorem y86 {r q:Nat} (h:2^r*(2*q+1)<2^64):(2^r*(2*q+1)) &&& (2^64-2^r*(2*q+1))=2^r:=by
 have hr:r<64:=q1a h (by rw[q87];simp)
 obtain⟨m,hm⟩:∃ m,64=r+m+1:=⟨64-r-1,by omega⟩
 have e64:2^64=2^r*(2*2^m):=by rw[hm,Nat.pow_add,Nat.pow_add];rw[Nat.pow_one,Nat.mul_assoc,Nat.mul_comm (2^m) 2]
 have hq:q<2^m:=by
  rw[e64]at h
  have:=Nat.lt_of_mul_lt_mul_left h
  omega
 have e:2^64-2^r*(2*q+1)=2^r*(2*(2^m-(q+1))+1):=by
  rw[e64,<-Nat.mul_sub]
  congr 1
  omega
 apply Nat.eq_of_testBit_eq
 intro i
 rw[Nat.testBit_and,e,q87,q87,Nat.testBit_two_pow_sub_succ hq,Nat.testBit_two_pow]
 by_cases h1:r=i
 ·subst h1;simp
 ·by_cases h2:r<i
  ·simp[h1,h2];intro hb _;exact hb
  ·simp[h1,h2]
theorem z09 {r q:Nat} (h:2^r*(2*q+1)<2^64):E8 .and .u64 ((2^r*(2*q+1):Nat):Int) (IntKind.u64.wrap (((2^r*(2*q+1):Nat):Int)-1))=((2^r*(2*q):Nat):Int):=by
 have hp:0<2^r*(2*q+1):=Nat.mul_pos (Nat.two_pow_pos r) (by omega)
 have e:((2^r*(2*q+1):Nat):Int)-1=((2^r*(2*q+1)-1:Nat):Int):=by
  generalize 2^r*(2*q+1)=v at *;omega
 rw[e,q6a (by omega),j2p h (by omega),y85]
theorem j0b (r q:Nat):(((2^r*(2*q+1):Nat):Int) != (0:Int))=true:=by
 have hp:0<2^r*(2*q+1):=Nat.mul_pos (Nat.two_pow_pos r) (by omega)
 generalize 2^r*(2*q+1)=v at *
 rw[bne_iff_ne];omega
theorem j6c {S β:Type} {f:Int×S->Option ((Int×S)⊕β)} (a n:Nat) (s:S) (bad:Nat->Bool) (b e:β) (han:a<=n)
  (h:∀ i:Nat,a<=i->i<n->f ((i:Int),s)=some (if bad i=true then .inr b else .inl (((i+1:Nat):Int),s))) (hend:f ((n:Int),s)=some (.inr e)) :
  A4 f ((a:Int),s)=some (if(List.range' a (n-a)).any bad=true then b else e):=by
 have key:∀ k i,a<=i->i+k=n->A4 f ((i:Int),s)=some (if(List.range' i k).any bad=true then b else e):=by
  intro k
  induction k with
  | zero =>
   intro i _ hi;have:i=n:=by omega
   subst this;rw[H1 hend];simp
  | succ k ih =>
   intro i ha hi
   have hs:=h i ha (by omega)
   rw[List.range'_succ,List.any_cons]
   by_cases hb:bad i=true
   ·rw[if_pos hb]at hs;rw[H1 hs,hb];simp
   ·rw[if_neg hb]at hs;rw[K2 hs,ih (i+1) (by omega) (by omega)]
    have:bad i=false:=by simpa using hb
    rw[this,Bool.false_or]
 exact key (n-a) a (Nat.le_refl _) (by omega)
theorem y7x {S β:Type} {f:Int×S->Option ((Int×S)⊕β)} (n:Nat) (s:S) (bad:Nat->Bool) (b e:β)
  (h:∀ i:Nat,i<n->f ((i:Int),s)=some (if bad i=true then .inr b else .inl (((i+1:Nat):Int),s))) (hend:f ((n:Int),s)=some (.inr e)) :
  A4 f (0,s)=some (if(List.range n).any bad=true then b else e):=by
 have:=j6c 0 n s bad b e (Nat.zero_le _) (fun i _=>h i) hend
 rw[List.range_eq_range'];exact this
def cl (l:List Nat):List Int:=l.map fun n:Nat=>(n:Int)
theorem y40 (l:List Nat):(cl l).length=l.length:=by simp[cl]
theorem y3z (l:List Nat) (i:Nat):(cl l)[i]? = (l[i]?).map fun n:Nat=>(n:Int):=by simp[cl]
theorem y41 (l:List Nat) (i n:Nat):(cl l).set i (n:Int)=cl (l.set i n):=by simp[cl,List.map_set]
theorem y74 (i n:Nat):inB (i:Int) n=decide (i<n):=by
 unfold inB;simp
end Go.Abs
namespace Go.Abs
open Go
def P8:Nat->(Nat->Bool)->Nat
 | 0,_=>0
 | n+1,p=>if p n then P8 n p ||| 2^n else P8 n p
theorem j20 (n:Nat) (p:Nat->Bool):P8 n p<2^n:=by
 induction n with
 | zero=>exact Nat.one_pos
 | succ n ih =>
  unfold P8
  have h1:2^n<2^(n+1):=Nat.pow_lt_pow_right (by decide) (by omega)
  split
  ·exact Nat.or_lt_two_pow (by omega) h1
  ·omega
theorem y0y (n:Nat) (p:Nat->Bool) (i:Nat):(P8 n p).testBit i=(decide (i<n)&&p i):=by
 induction n with
 | zero=>simp[P8]
 | succ n ih =>
  unfold P8
  by_cases hp:p n=true
  ·rw[if_pos hp,Nat.testBit_or,ih,Nat.testBit_two_pow]
   by_cases h:n=i
   ·subst h;simp[hp]
   ·by_cases h2:i<n
    ·have h3:i<n+1:=by omega
     simp[h,h2,h3]
    ·have h3:¬ i<n+1:=by omega
     simp[h,h2,h3]
  ·rw[if_neg hp,ih]
   by_cases h:n=i
   ·subst h;simp[hp]
   ·by_cases h2:i<n
    ·have h3:i<n+1:=by omega
     simp[h2,h3]
    ·have h3:¬ i<n+1:=by omega
     simp[h2,h3]
theorem v7i {n:Nat} (p:Nat->Bool) (h:n<=32):P8 n p<2^32:=Nat.lt_of_lt_of_le (j20 n p) (Nat.pow_le_pow_right (by decide) h)
def tab {α:Type} (n:Nat) (g:Nat->α):List α:=(List.range n).map g
theorem q23 {α:Type} (n:Nat) (g:Nat->α):(tab n g).length=n:=by simp[tab]
theorem q06 {α:Type} {n i:Nat} (g:Nat->α) (h:i<n):(tab n g)[i]? = some (g i):=by simp[tab,h]
theorem q69 {α:Type} (n:Nat) (g:Nat->α) (r:Nat) (v:α):(tab n g).set r v=tab n fun j=>if j=r then v else g j:=by
 apply List.ext_getElem?
 intro i
 rw[List.getElem?_set]
 by_cases hi:i<n
 ·rw[q06 _ hi,q06 _ hi,q23]
  by_cases h:r=i
  ·subst h;simp[hi]
  ·simp[h,Ne.symm h]
 ·rw[List.getElem?_eq_none (l:=tab n g) (by rw[q23];omega),List.getElem?_eq_none (l:=tab n _) (by rw[q23];omega),q23]
  by_cases h:r=i
  ·subst h;simp[hi]
  ·simp[h]
theorem q0x {α:Type} {n:Nat} {g g':Nat->α} (h:∀ i,i<n->g i=g' i):tab n g=tab n g':=List.map_congr_left fun i hi=>h i (List.mem_range.1 hi)
theorem y0i {α:Type} (n:Nat) (g:Nat->α):tab (n+1) g=tab n g++[g n]:=by simp[tab,List.range_succ]
theorem j10 {α:Type} (n:Nat) (a:α):List.replicate n a=tab n fun _=>a:=by
 unfold tab;rw[List.map_const',List.length_range]
end Go.Abs
namespace Go.Abs
open Go
end Go.Abs
namespace Go.Abs
open Go
theorem j3v {p q:Nat->Bool}:∀ {l:List Nat},(∀ x∈l,p x=true->q x=true)->(∃ x∈l,q x=true/\p x=false)->l.countP p<l.countP q
 | [],_,⟨x,hx,_⟩=>by cases hx
 | a::l,h,⟨x,hx,hq,hp⟩=>by
  have hl:l.countP p<=l.countP q:=List.countP_mono_left fun x hx=>h x (List.mem_cons_of_mem _ hx)
  rw[List.countP_cons,List.countP_cons]
  rcases List.mem_cons.1 hx with rfl | hx
  ·rw[hp,hq];simp;omega
  ·have:=j3v (fun x hx=>h x (List.mem_cons_of_mem _ hx)) ⟨x,hx,hq,hp⟩
   cases hpa:p a with
   | false=>cases q a<;>simp<;>omega
   | true=>rw[h a (List.mem_cons_self ..) hpa];simp;omega
end Go.Abs
namespace Go.Abs
open Go
theorem y83 {σ β:Type} {f:σ->Option (σ⊕β)} (n:Nat) (s:Nat->σ) (bad:Nat->Bool) (Bad:β->Prop) (e:β)
  (h:∀ i:Nat,i<n->bad i=false->f (s i)=some (.inl (s (i+1))))
  (hb:∀ i:Nat,i<n->bad i=true->∃ b,f (s i)=some (.inr b)/\Bad b) (hend:f (s n)=some (.inr e)) :
  ((List.range n).any bad=false->A4 f (s 0)=some e)/\((List.range n).any bad=true->∃ b,A4 f (s 0)=some b/\Bad b):=by
 have key:∀ k i,i+k=n->((List.range' i k).any bad=false->A4 f (s i)=some e)/\((List.range' i k).any bad=true->∃ b,A4 f (s i)=some b/\Bad b):=by
  intro k
  induction k with
  | zero =>
   intro i hi
   have:i=n:=by omega
   subst this
   exact⟨fun _=>H1 hend,fun h=>by cases h⟩
  | succ k ih =>
   intro i hi
   rw[List.range'_succ,List.any_cons]
   cases hbi:bad i with
   | true =>
    obtain⟨b,h1,h2⟩:=hb i (by omega) hbi
    rw[Bool.true_or]
    exact⟨fun h=>(by cases h),fun _=>⟨b,H1 h1,h2⟩⟩
   | false =>
    rw[Bool.false_or,K2 (h i (by omega) hbi)]
    exact ih (i+1) (by omega)
 rw[List.range_eq_range']
 exact key n 0 (by omega)
theorem y82 {σ β:Type} {f:σ->Option (σ⊕β)} (n:Nat) (s:Nat->σ) (e:β) (h:∀ i:Nat,i<n->f (s i)=some (.inl (s (i+1)))) (hend:f (s n)=some (.inr e)):A4 f (s 0)=some e :=
 (y83 n s (fun _=>false) (fun _=>False) e (fun i hi _=>h i hi) (fun _ _ h=>by cases h) hend).1 (by simp)
end Go.Abs
