/- Words as sets of bits, for the plain laws: the machine's operations on words that are natural numbers; the loop over a word's bits. -/
import Derived.Test.YtkfjlcdaepckoaaAbsLoops
namespace Go.Abs
open Go
theorem z3x {n:Nat} (h:n<2^64):IntKind.u64.wrap (n:Int)=(n:Int):=by
 unfold IntKind.wrap;simp[IntKind.bits,IntKind.signed];omega
theorem q2d (k n:Nat):BitVec.ofInt k (n:Int)=BitVec.ofNat k n:=by
 apply BitVec.eq_of_toNat_eq;simp[BitVec.toNat_ofNat]
theorem j4n {a b:Nat} (ha:a<2^64) (hb:b<2^64):D0 .and .u64 (a:Int) (b:Int)=((a &&& b:Nat):Int):=by
 show IntKind.u64.wrap ((BitVec.ofInt 64 (a:Int) &&& BitVec.ofInt 64 (b:Int)).toNat:Int)=_
 rw[q2d,q2d,BitVec.toNat_and,BitVec.toNat_ofNat,BitVec.toNat_ofNat,Nat.mod_eq_of_lt ha,Nat.mod_eq_of_lt hb,z3x (Nat.and_lt_two_pow _ hb)]
theorem j9k {a b:Nat} (ha:a<2^64) (hb:b<2^64):D0 .or .u64 (a:Int) (b:Int)=((a ||| b:Nat):Int):=by
 show IntKind.u64.wrap ((BitVec.ofInt 64 (a:Int) ||| BitVec.ofInt 64 (b:Int)).toNat:Int)=_
 rw[q2d,q2d,BitVec.toNat_or,BitVec.toNat_ofNat,BitVec.toNat_ofNat,Nat.mod_eq_of_lt ha,Nat.mod_eq_of_lt hb,z3x (Nat.or_lt_two_pow ha hb)]
theorem j7o {S β:Type} {f:Int×S->Option ((Int×S)⊕β)} (a n:Nat) (s:S) (bad:Nat->Bool) (b e:β) (han:a<=n)
  (h:∀ i:Nat,a<=i->i<n->f ((i:Int),s)=some (if bad i=true then .inr b else .inl (((i+1:Nat):Int),s))) (hend:f ((n:Int),s)=some (.inr e)) :
  A3 f ((a:Int),s)=some (if(List.range' a (n-a)).any bad=true then b else e):=by
 have key:∀ k i,a<=i->i+k=n->A3 f ((i:Int),s)=some (if(List.range' i k).any bad=true then b else e):=by
  intro k
  induction k with
  | zero =>
   intro i _ hi;have:i=n:=by omega
   subst this;rw[C0 hend];simp
  | succ k ih =>
   intro i ha hi
   have hs:=h i ha (by omega)
   rw[List.range'_succ,List.any_cons]
   by_cases hb:bad i=true
   ·rw[if_pos hb]at hs;rw[C0 hs,hb];simp
   ·rw[if_neg hb]at hs;rw[H4 hs,ih (i+1) (by omega) (by omega)]
    have:bad i=false:=by simpa using hb
    rw[this,Bool.false_or]
 exact key (n-a) a (Nat.le_refl _) (by omega)
theorem j7p {S β:Type} {f:Int×S->Option ((Int×S)⊕β)} (n:Nat) (s:S) (bad:Nat->Bool) (b e:β)
  (h:∀ i:Nat,i<n->f ((i:Int),s)=some (if bad i=true then .inr b else .inl (((i+1:Nat):Int),s))) (hend:f ((n:Int),s)=some (.inr e)) :
  A3 f (0,s)=some (if(List.range n).any bad=true then b else e):=by
 have:=j7o 0 n s bad b e (Nat.zero_le _) (fun i _=>h i) hend
 rw[List.range_eq_range'];exact this
def cl (l:List Nat):List Int:=l.map fun n:Nat=>(n:Int)
theorem j73 (i n:Nat):inB (i:Int) n=decide (i<n):=by
 unfold inB;simp
end Go.Abs
namespace Go.Abs
open Go
end Go.Abs
namespace Go.Abs
open Go
end Go.Abs
namespace Go.Abs
open Go
end Go.Abs
namespace Go.Abs
open Go
theorem j7r {σ β:Type} {f:σ->Option (σ⊕β)} (n:Nat) (s:Nat->σ) (bad:Nat->Bool) (Bad:β->Prop) (e:β)
  (h:∀ i:Nat,i<n->bad i=false->f (s i)=some (.inl (s (i+1))))
  (hb:∀ i:Nat,i<n->bad i=true->∃ b,f (s i)=some (.inr b)/\Bad b) (hend:f (s n)=some (.inr e)) :
  ((List.range n).any bad=false->A3 f (s 0)=some e)/\((List.range n).any bad=true->∃ b,A3 f (s 0)=some b/\Bad b):=by
 have key:∀ k i,i+k=n->((List.range' i k).any bad=false->A3 f (s i)=some e)/\((List.range' i k).any bad=true->∃ b,A3 f (s i)=some b/\Bad b):=by
  intro k
  induction k with
  | zero =>
   intro i hi
   have:i=n:=by omega
   subst this
   exact⟨fun _=>C0 hend,fun h=>by cases h⟩
  | succ k ih =>
   intro i hi
   rw[List.range'_succ,List.any_cons]
   cases hbi:bad i with
   | true =>
    obtain⟨b,h1,h2⟩:=hb i (by omega) hbi
    rw[Bool.true_or]
    exact⟨fun h=>(by cases h),fun _=>⟨b,C0 h1,h2⟩⟩
   | false =>
    rw[Bool.false_or,H4 (h i (by omega) hbi)]
    exact ih (i+1) (by omega)
 rw[List.range_eq_range']
 exact key n 0 (by omega)
theorem j7q {σ β:Type} {f:σ->Option (σ⊕β)} (n:Nat) (s:Nat->σ) (e:β) (h:∀ i:Nat,i<n->f (s i)=some (.inl (s (i+1)))) (hend:f (s n)=some (.inr e)):A3 f (s 0)=some e :=
 (j7r n s (fun _=>false) (fun _=>False) e (fun i hi _=>h i hi) (fun _ _ h=>by cases h) hend).1 (by simp)
end Go.Abs
