/- Words as sets of bits, for the plain laws: the machine's operations on words that are natural numbers; the loop over a word's bits. -/
import Derived.Test.YtgepgleagefmeabGreatAbsLoops
namespace Go.Abs
open Go
def cl (l:List Nat):List Int:=l.map fun n:Nat=>(n:Int)
theorem inB_nat (i n:Nat):inB (i:Int) n=decide (i < n):=by
  unfold inB; simp
end Go.Abs
namespace Go.Abs
open Go
end Go.Abs
namespace Go.Abs
open Go
end Go.Abs
namespace Go.Abs
open Go
end Go.Abs
namespace Go.Abs
open Go
theorem loopM_run {σ β:Type} {f:σ→Option (σ ⊕ β)} (n:Nat) (s:Nat→σ) (bad:Nat→Bool) (Bad:β→Prop) (e:β)
    (h:∀ i:Nat,i < n→bad i=false→f (s i)=some (.inl (s (i+1))))
    (hb:∀ i:Nat,i < n→bad i=true→∃ b,f (s i)=some (.inr b)∧Bad b) (hend:f (s n)=some (.inr e)) :
    ((List.range n).any bad=false→loopM f (s 0)=some e)∧((List.range n).any bad=true→∃ b,loopM f (s 0)=some b∧Bad b):=by
  have key:∀ k i,i+k=n→((List.range' i k).any bad=false→loopM f (s i)=some e)∧((List.range' i k).any bad=true→∃ b,loopM f (s i)=some b∧Bad b):=by
    intro k
    induction k with
    | zero =>
      intro i hi
      have:i=n:=by omega
      subst this
      exact ⟨fun _=>loopM_inr hend,fun h=>by cases h⟩
    | succ k ih =>
      intro i hi
      rw [List.range'_succ,List.any_cons]
      cases hbi:bad i with
      | true =>
        obtain ⟨b,h1,h2⟩:=hb i (by omega) hbi
        rw [Bool.true_or]
        exact ⟨fun h=>(by cases h),fun _=>⟨b,loopM_inr h1,h2⟩⟩
      | false =>
        rw [Bool.false_or,loopM_inl (h i (by omega) hbi)]
        exact ih (i+1) (by omega)
  rw [List.range_eq_range']
  exact key n 0 (by omega)
theorem loopM_go {σ β:Type} {f:σ→Option (σ ⊕ β)} (n:Nat) (s:Nat→σ) (e:β) (h:∀ i:Nat,i < n→f (s i)=some (.inl (s (i+1)))) (hend:f (s n)=some (.inr e)):loopM f (s 0)=some e :=
  (loopM_run n s (fun _=>false) (fun _=>False) e (fun i hi _=>h i hi) (fun _ _ h=>by cases h) hend).1 (by simp)
end Go.Abs
