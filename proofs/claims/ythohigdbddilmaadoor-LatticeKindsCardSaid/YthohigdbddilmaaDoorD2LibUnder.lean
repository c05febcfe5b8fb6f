/- Lemmas on functions of the program, by name: under. -/
import Derived.Test.YthohigdbddilmaaDoorD2Funs
import Derived.Test.YthohigdbddilmaaDoorAbsSums
import Derived.Test.YthohigdbddilmaaDoorD2LibStep
namespace Go.Proofs.Tryd
open Go Go.Abs


/-- Is i strictly below j? -/
def under (ws : List Nat) (i j : Nat) : Bool := decide (i ≠ j) && below ws i j
theorem ref_Under_eq {ws : List Nat} (hf : Fit ws) {N : Int} {i j : Nat} (hi : i < ws.length) (hj : j < 2 ^ 64) : ref_Under ((N, cl ws, ()), (i : Int), (j : Int), ()) = some (under ws i j, ()) := by
  unfold ref_Under under
  rw [cond_bne]
  have e : ws[i]? = some ws[i] := List.getElem?_eq_getElem hi
  by_cases h : i = j
  · subst h; simp
  · have : ¬ (i : Int) = (j : Int) := by omega
    simp only [this, if_false, cl_getI, e, Option.map_some, Option.bind_some]
    rw [ref_Bit_eq (hf _ (List.getElem_mem hi)) hj, below_eq e]
    simp [h]

theorem under_word (ws : List Nat) (i j : Nat) : (dif (ws.getD i 0) (2 ^ i)).testBit j = under ws i j := by
  rw [dif_bit, Nat.testBit_two_pow]
  unfold under below
  by_cases h : i = j <;> simp [h]
theorem under_lt {n : Nat} {ws : List Nat} (hin : Inside n ws) {i j : Nat} (h : under ws i j = true) : j < n := by
  unfold under at h
  exact insideD hin (Bool.and_eq_true_iff.1 h).2

end Go.Proofs.Tryd
