/- Lemmas on functions of the program, by name: badn. -/
import Derived.Test.YtammjpalmmhokaaP5Funs
import Derived.Test.YtammjpalmmhokaaAbsSums
namespace Go.Proofs.Try
open Go Go.Abs


/-- Out of the range of whole numbers that a time may hold. -/
def bad (v : Int) : Bool := decide (v < 0) || decide (v > 1048576)

theorem bad_two {β : Type} (v : Int) (b : β) (s : Int × Unit) : (cond (decide (v < (0 : Int))) (some (Sum.inr b)) (cond (decide (v > (1048576 : Int))) (some (Sum.inr b)) (some (Sum.inl s))) : Option ((Int × Unit) ⊕ β)) = some (if bad v = true then .inr b else .inl s) := by
  unfold bad
  by_cases h1 : v < 0
  · simp [h1]
  · by_cases h2 : v > 1048576
    · simp [h1, h2]
    · simp [h1, h2]

theorem bad_ok {v : Int} (h : bad v = false) : 0 ≤ v ∧ v ≤ 1048576 := by
  unfold bad at h
  simp at h
  omega

end Go.Proofs.Try
