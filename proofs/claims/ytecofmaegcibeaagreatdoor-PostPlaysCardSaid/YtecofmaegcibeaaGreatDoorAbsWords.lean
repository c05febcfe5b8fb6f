/- Words as sets of bits, for the plain laws: the machine's operations on words that are natural numbers; the loop over a word's bits. -/
import Derived.Test.YtecofmaegcibeaaGreatDoorAbsLoops
namespace Go.Abs
open Go
theorem z9h {n:Nat} (h:n<2^32):IntKind.u32.wrap (n:Int)=(n:Int):=by
 grind[IntKind.wrap,IntKind.bits,IntKind.signed]
theorem q7w {n:Nat} (h:n<2^64):IntKind.u64.wrap (n:Int)=(n:Int):=by
 grind[IntKind.wrap,IntKind.bits,IntKind.signed]
theorem q3s (k n:Nat):BitVec.ofInt k (n:Int)=BitVec.ofNat k n:=by
 rfl
theorem z3c {a b:Nat} (d:a<2^32) (c:b<2^32):F1 .and .u32 (a:Int) (b:Int)=((a &&& b:Nat):Int):=by
 show IntKind.u32.wrap ((BitVec.ofInt 32 (a:Int) &&& BitVec.ofInt 32 (b:Int)).toNat:Int)=_
 rw[q3s,q3s,BitVec.toNat_and,BitVec.toNat_ofNat,BitVec.toNat_ofNat,bN d,bN c,z9h (fy _ c)]
theorem q9r {a b:Nat} (d:a<2^32) (c:b<2^32):F1 .or .u32 (a:Int) (b:Int)=((a ||| b:Nat):Int):=by
 show IntKind.u32.wrap ((BitVec.ofInt 32 (a:Int) ||| BitVec.ofInt 32 (b:Int)).toNat:Int)=_
 rw[q3s,q3s,BitVec.toNat_or,BitVec.toNat_ofNat,BitVec.toNat_ofNat,bN d,bN c,z9h (cQ d c)]
theorem j6x {a b:Nat} (d:a<2^64) (c:b<2^64):F1 .and .u64 (a:Int) (b:Int)=((a &&& b:Nat):Int):=by
 show IntKind.u64.wrap ((BitVec.ofInt 64 (a:Int) &&& BitVec.ofInt 64 (b:Int)).toNat:Int)=_
 rw[q3s,q3s,BitVec.toNat_and,BitVec.toNat_ofNat,BitVec.toNat_ofNat,bN d,bN c,q7w (fy _ c)]
def dif (a b:Nat):Nat:=a ^^^ (a &&& b)
theorem j8j (a b i:Nat):(dif a b).testBit i=(a.testBit i&&!b.testBit i):=by
 grind[dif]
theorem j8k {a b k:Nat} (h:a<2^k):dif a b<2^k :=
 Nat.xor_lt_two_pow h (cZ Nat.and_le_left h)
theorem v7z {a b:Nat} (c:a<2^32) (_:b<2^32):F1 .andNot .u32 (a:Int) (b:Int)=((dif a b:Nat):Int):=by
 show IntKind.u32.wrap ((BitVec.ofInt 32 (a:Int) &&& ~~~ BitVec.ofInt 32 (b:Int)).toNat:Int)=_
 have e:(BitVec.ofInt 32 (a:Int) &&& ~~~ BitVec.ofInt 32 (b:Int)).toNat=dif a b:=by
  apply dy
  intro i
  rw[j8j,BitVec.testBit_toNat,BitVec.getLsbD_and,BitVec.getLsbD_not,q3s,q3s,BitVec.getLsbD_ofNat,BitVec.getLsbD_ofNat]
  by_cases h:i<32
  ·grind
  ·have:a.testBit i=false:=eS (bc c (bX (by decide) (by omega)))
   grind
 rw[e,z9h (j8k c)]
theorem k39 {i:Nat} (h:i<32):z1o .u32 1 (i:Int)=((2^i:Nat):Int):=by
 show IntKind.u32.wrap (1*2^(min ((i:Int).toNat) 32))=_
 rw[ah,eo (by omega),Int.one_mul]
 have:((2:Int)^i)=((2^i:Nat):Int):=by simp
 rw[this,z9h (cR (by decide) h)]
theorem k3c (a i:Nat) (h:a<2^32):q45 .u32 (a:Int) (i:Int)=((a >>> i:Nat):Int):=by
 show Int.fdiv (a:Int) (2^(min ((i:Int).toNat) 32))=_
 rw[ah,cL,show((2:Int)^(min i 32))=((2^(min i 32):Nat):Int)by simp,Int.fdiv_eq_ediv_of_nonneg _ (aZ _),<-Int.natCast_ediv]
 by_cases b:i<=32
 ·grind
 ·rw[eL (by omega),cm h,cm (bc h (bX (by decide) (by omega)))]
theorem q22 {a k i:Nat} (b:a<2^k) (h:a.testBit i=true):i<k:=by
 grind[Nat.testBit_lt_two_pow,Nat.lt_of_lt_of_le,Nat.pow_le_pow_right]
theorem v2c {a k i:Nat} (b:a<2^k) (hi:k<=i):a.testBit i=false :=
 eS (bc b (bX (by decide) hi))
theorem v5h {a:Nat} (i:Nat) (h:a<2^32):(F1 .and .u32 (q45 .u32 (a:Int) (i:Int)) 1==1)=a.testBit i:=by
 have b:a >>> i<2^32:=cZ (by rw[cL];exact Nat.div_le_self _ _) h
 grind[k3c,z3c,Nat.testBit]
theorem j66 {a b k:Nat} (c:a<2^k) (d:b<2^k) (h:∀i,i<k->a.testBit i=b.testBit i):a=b:=by
 apply dy
 grind[v2c]
theorem q9p (r q i:Nat):(2^r*(2*q+1)).testBit i=(decide (r=i)||decide (r<i)&&q.testBit (i-r-1)):=by
 rw[eM]
 by_cases h:r=i
 ·subst h;simp
 ·by_cases h2:r<i
  ·obtain⟨d,rfl⟩:∃d,i=r+d+1:=⟨i-r-1,by omega⟩
   have e1:r+d+1-r=d+1:=by omega
   have e2:r+d+1-r-1=d:=by omega
   have e3:(2*q+1) / 2=q:=by omega
   rw[e2,e1,Nat.testBit_succ,e3]
   simp[h,h2];omega
  ·have:¬r<=i:=by omega
   simp[h,h2,this]
theorem v6w (r q:Nat):(2^r*(2*q+1)) &&& (2^r*(2*q+1)-1)=2^r*(2*q):=by
 have hp:=cj r
 have e:2^r*(2*q+1)-1=2^r*(2*q)+(2^r-1):=by rw[Nat.mul_add];omega
 apply dy
 intro i
 rw[dg,q9p,e,Nat.testBit_two_pow_mul_add _ (by omega),eM]
 by_cases h:r=i
 ·subst h;simp
 ·by_cases h2:r<i
  ·obtain⟨d,rfl⟩:∃d,i=r+d+1:=⟨i-r-1,by omega⟩
   have e1:r+d+1-r=d+1:=by omega
   have e2:r+d+1-r-1=d:=by omega
   have e4:¬r+d+1<r:=by omega
   have e5:(2*q).testBit (d+1)=q.testBit d:=by rw[Nat.testBit_succ,show 2*q / 2=q by omega]
   rw[if_neg e4,e2,e1,e5,decide_eq_false h,decide_eq_true h2,decide_eq_true (show r+d+1≥r by omega)]
   simp
  ·have:¬r<=i:=by omega
   simp[h,h2,this]
theorem v6x {r q:Nat} (h:2^r*(2*q+1)<2^64):(2^r*(2*q+1)) &&& (2^64-2^r*(2*q+1))=2^r:=by
 have hr:r<64:=q22 h (by rw[q9p];simp)
 obtain⟨m,hm⟩:∃m,64=r+m+1:=⟨64-r-1,by omega⟩
 have e64:2^64=2^r*(2*2^m):=by rw[hm,Nat.pow_add,Nat.pow_add];rw[Nat.pow_one,dj,bG (2^m) 2]
 have hq:q<2^m:=by
  rw[e64]at h
  have:=Nat.lt_of_mul_lt_mul_left h
  omega
 have e:2^64-2^r*(2*q+1)=2^r*(2*(2^m-(q+1))+1):=by
  rw[e64,<-Nat.mul_sub]
  congr 1
  omega
 apply dy
 intro i
 rw[dg,e,q9p,q9p,Nat.testBit_two_pow_sub_succ hq,cG]
 by_cases h1:r=i
 ·subst h1;simp
 ·by_cases h2:r<i
  ·simp[h1,h2];intro hb _;exact hb
  ·simp[h1,h2]
theorem z3n {r q:Nat} (h:2^r*(2*q+1)<2^64):F1 .and .u64 ((2^r*(2*q+1):Nat):Int) (IntKind.u64.wrap (((2^r*(2*q+1):Nat):Int)-1))=((2^r*(2*q):Nat):Int):=by
 have hp:0<2^r*(2*q+1):=fG (cj r) (by omega)
 have e:((2^r*(2*q+1):Nat):Int)-1=((2^r*(2*q+1)-1:Nat):Int):=by
  generalize 2^r*(2*q+1)=v at *;omega
 rw[e,q7w (by omega),j6x h (by omega),v6w]
theorem j3l (r q:Nat):(((2^r*(2*q+1):Nat):Int) != (0:Int))=true:=by
 have hp:0<2^r*(2*q+1):=fG (cj r) (by omega)
 generalize 2^r*(2*q+1)=v at *
 rw[bne_iff_ne];omega
theorem v6q {S β:Type} {f:Int×S->Option ((Int×S)⊕β)} (a n:Nat) (s:S) (bad:Nat->Bool) (b e:β) (han:a<=n)
  (h:∀i:Nat,a<=i->i<n->f ((i:Int),s)=some (if bad i=true then .inr b else .inl (((i+1:Nat):Int),s))) (hend:f ((n:Int),s)=some (.inr e)) :
  A1 f ((a:Int),s)=some (if(List.range' a (n-a)).any bad=true then b else e):=by
 have key:∀k i,a<=i->i+k=n->A1 f ((i:Int),s)=some (if(List.range' i k).any bad=true then b else e):=by
  intro k
  induction k with
  | zero =>
   intro i _ hi;have:i=n:=by omega
   subst this;rw[D9 hend];simp
  | succ k ih =>
   intro i ha hi
   have hs:=h i ha (by omega)
   rw[cY,cJ]
   by_cases hb:bad i=true
   ·rw[if_pos hb]at hs;rw[D9 hs,hb];simp
   ·rw[if_neg hb]at hs;rw[H4 hs,ih (i+1) (by omega) (by omega)]
    have:bad i=false:=by simpa using hb
    rw[this,dh]
 exact key (n-a) a (ax _) (by omega)
theorem q0h {S β:Type} {f:Int×S->Option ((Int×S)⊕β)} (n:Nat) (s:S) (bad:Nat->Bool) (b e:β)
  (h:∀i:Nat,i<n->f ((i:Int),s)=some (if bad i=true then .inr b else .inl (((i+1:Nat):Int),s))) (hend:f ((n:Int),s)=some (.inr e)) :
  A1 f (0,s)=some (if(List.range n).any bad=true then b else e):=by
 have:=v6q 0 n s bad b e (cB _) (λi _=>h i) hend
 rw[cD];exact this
def cl (l:List Nat):List Int:=l.map λn:Nat=>(n:Int)
theorem v2z (l:List Nat):(cl l).length=l.length:=by simp[cl]
theorem v2y (l:List Nat) (i:Nat):(cl l)[i]? = (l[i]?).map λn:Nat=>(n:Int):=by simp[cl]
theorem v32 (l:List Nat) (i n:Nat):(cl l).set i (n:Int)=cl (l.set i n):=by simp[cl,List.map_set]
theorem v5p (i n:Nat):inB (i:Int) n=decide (i<n):=by
 unfold inB;simp
end Go.Abs
namespace Go.Abs
open Go
def R4:Nat->(Nat->Bool)->Nat
 | 0,_=>0
 | n+1,p=>if p n then R4 n p ||| 2^n else R4 n p
theorem j65 (n:Nat) (p:Nat->Bool):R4 n p<2^n:=by
 induction n with
 | zero=>exact Nat.one_pos
 | succ n ih =>
  unfold R4
  have h1:2^n<2^(n+1):=cR (by decide) (by omega)
  split
  ·exact cQ (by omega) h1
  ·omega
theorem y8r (n:Nat) (p:Nat->Bool) (i:Nat):(R4 n p).testBit i=(decide (i<n)&&p i):=by
 induction n with
 | zero=>simp[R4]
 | succ n ih =>
  unfold R4
  by_cases hp:p n=true
  ·rw[if_pos hp,cC,ih,cG]
   by_cases h:n=i
   ·subst h;simp[hp]
   ·by_cases h2:i<n
    ·have h3:i<n+1:=by omega
     simp[h,h2,h3]
    ·have h3:¬i<n+1:=by omega
     simp[h,h2,h3]
  ·rw[if_neg hp,ih]
   by_cases h:n=i
   ·subst h;simp[hp]
   ·by_cases h2:i<n
    ·have h3:i<n+1:=by omega
     simp[h2,h3]
    ·have h3:¬i<n+1:=by omega
     simp[h2,h3]
theorem k4w {n:Nat} (p:Nat->Bool) (h:n<=32):R4 n p<2^32:=bc (j65 n p) (bX (by decide) h)
def tab {α:Type} (n:Nat) (g:Nat->α):List α:=(List.range n).map g
theorem E8 {α:Type} (n:Nat) (g:Nat->α):(tab n g).length=n:=by simp[tab]
theorem H7 {α:Type} {n i:Nat} (g:Nat->α) (h:i<n):(tab n g)[i]? = some (g i):=by simp[tab,h]
theorem q1v {α:Type} (n:Nat) (g:Nat->α) (r:Nat) (v:α):(tab n g).set r v=tab n λj=>if j=r then v else g j:=by
 apply ce
 intro i
 rw[List.getElem?_set]
 by_cases hi:i<n
 ·rw[H7 _ hi,H7 _ hi,E8]
  by_cases h:r=i
  ·subst h;simp[hi]
  ·simp[h,Ne.symm h]
 ·rw[bU (l:=tab n g) (by rw[E8];omega),bU (l:=tab n _) (by rw[E8];omega),E8]
  by_cases h:r=i
  ·subst h;simp[hi]
  ·simp[h]
theorem M3 {α:Type} {n:Nat} {g g':Nat->α} (h:∀i,i<n->g i=g' i):tab n g=tab n g':=cW λi hi=>h i (aL.1 hi)
theorem j5n {α:Type} (n:Nat) (g:Nat->α):tab (n+1) g=tab n g++[g n]:=by simp[tab,cF]
theorem q0o {α:Type} (n:Nat) (a:α):List.replicate n a=tab n λ_=>a:=by
 unfold tab;rw[List.map_const',eD]
theorem y4o {n:Nat} (h:n<=1000000):A8 n 16=true:=by
 unfold A8
 rw[ac]
 exact⟨bg (by omega),bg (by omega)⟩
end Go.Abs
namespace Go.Abs
open Go
end Go.Abs
namespace Go.Abs
open Go
theorem q89 {p q:Nat->Bool}:∀{l:List Nat},(∀x∈l,p x=true->q x=true)->(∃x∈l,q x=true/\p x=false)->l.countP p<l.countP q
 | [],_,⟨x,hx,_⟩=>by cases hx
 | a::l,h,⟨x,hx,hq,hp⟩=>by
  have hl:l.countP p<=l.countP q:=eY λx hx=>h x (aj _ hx)
  rw[ef,ef]
  rcases al.1 hx with rfl | hx
  ·rw[hp,hq];simp;omega
  ·have:=q89 (λx hx=>h x (aj _ hx)) ⟨x,hx,hq,hp⟩
   cases hpa:p a with
   | false=>cases q a<;>simp<;>omega
   | true=>rw[h a (ar ..) hpa];simp;omega
end Go.Abs
namespace Go.Abs
open Go
theorem v6u {σ β:Type} {f:σ->Option (σ⊕β)} (n:Nat) (s:Nat->σ) (bad:Nat->Bool) (Bad:β->Prop) (e:β)
  (h:∀i:Nat,i<n->bad i=false->f (s i)=some (.inl (s (i+1))))
  (hb:∀i:Nat,i<n->bad i=true->∃b,f (s i)=some (.inr b)/\Bad b) (hend:f (s n)=some (.inr e)) :
  ((List.range n).any bad=false->A1 f (s 0)=some e)/\((List.range n).any bad=true->∃b,A1 f (s 0)=some b/\Bad b):=by
 have key:∀k i,i+k=n->((List.range' i k).any bad=false->A1 f (s i)=some e)/\((List.range' i k).any bad=true->∃b,A1 f (s i)=some b/\Bad b):=by
  intro k
  induction k with
  | zero =>
   intro i hi
   have:i=n:=by omega
   subst this
   exact⟨λ_=>D9 hend,λh=>by cases h⟩
  | succ k ih =>
   intro i hi
   rw[cY,cJ]
   cases hbi:bad i with
   | true =>
    obtain⟨b,h1,h2⟩:=hb i (by omega) hbi
    rw[eN]
    exact⟨λh=>(by cases h),λ_=>⟨b,D9 h1,h2⟩⟩
   | false =>
    rw[dh,H4 (h i (by omega) hbi)]
    exact ih (i+1) (by omega)
 rw[cD]
 exact key n 0 (by omega)
theorem v6t {σ β:Type} {f:σ->Option (σ⊕β)} (n:Nat) (s:Nat->σ) (e:β) (h:∀i:Nat,i<n->f (s i)=some (.inl (s (i+1)))) (hend:f (s n)=some (.inr e)):A1 f (s 0)=some e :=
 (v6u n s (λ_=>false) (λ_=>False) e (λi hi _=>h i hi) (λ_ _ h=>by cases h) hend).1 (by simp)
end Go.Abs
