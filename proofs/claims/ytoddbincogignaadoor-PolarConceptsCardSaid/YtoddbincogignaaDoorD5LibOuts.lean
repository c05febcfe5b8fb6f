/- Lemmas on functions of the program, by name: outs. -/
import Derived.Test.YtoddbincogignaaDoorD5Funs
import Derived.Test.YtoddbincogignaaDoorAbsSums
import Derived.Test.YtoddbincogignaaDoorD5LibStep
namespace Go.Proofs.Tryd
open Go Go.Abs


/-- A set's bits from n on. -/
def outs (w n : Nat) : Bool := (List.range' n (32 - n)).any (w.testBit ·)
theorem outs_iff {w n : Nat} (hw : w < 2 ^ 32) : outs w n = false ↔ ∀ j, w.testBit j = true → j < n := by
  unfold outs
  rw [outside_iff hw]
  constructor
  · intro h j hj
    by_cases hn : j < n
    · exact hn
    · rw [h j (by omega)] at hj; cases hj
  · intro h j hj
    cases hb : w.testBit j
    · rfl
    · have := h j hb; omega
theorem outs_dif {w n : Nat} (hw : w < 2 ^ 32) : (((dif w (2 ^ n - 1) : Nat) : Int) != 0) = outs w n := by
  rw [show (0 : Int) = ((0 : Nat) : Int) from rfl, cast_bne, Bool.eq_iff_iff, Bool.not_eq_true', decide_eq_false_iff_not, dif_all, ← outside_iff hw]
  unfold outs
  rw [Bool.not_eq_false]
theorem inside_outs {n : Nat} {ws : List Nat} (hf : Fit ws) : (∀ i, i < ws.length → outs (ws.getD i 0) n = false) ↔ Inside n ws := by
  constructor
  · intro h w hw
    obtain ⟨i, hi, rfl⟩ := List.getElem_of_mem hw
    have := h i hi
    rw [List.getD_eq_getElem?_getD, List.getElem?_eq_getElem hi] at this
    exact (outside_iff (hf _ hw)).1 this
  · intro h i hi
    exact (outs_iff (fitD hf i)).2 fun j hj => insideD h hj

theorem ref_Outside_outs {w n : Nat} (hw : w < 2 ^ 32) (hn : n ≤ 32) : ref_Outside ((w : Int), (n : Int), ()) = some (outs w n, ()) := ref_Outside_eq hw hn

theorem all_range {n : Nat} {p : Nat → Bool} : (List.range n).all p = true ↔ ∀ i, i < n → p i = true := by
  rw [List.all_eq_true]; exact ⟨fun h i hi => h i (List.mem_range.2 hi), fun h i hi => h i (List.mem_range.1 hi)⟩
theorem any_range {n : Nat} {p : Nat → Bool} : (List.range n).any p = true ↔ ∃ i, i < n ∧ p i = true := by
  rw [List.any_eq_true]; exact ⟨fun ⟨i, hi, h⟩ => ⟨i, List.mem_range.1 hi, h⟩, fun ⟨i, hi, h⟩ => ⟨i, List.mem_range.2 hi, h⟩⟩
theorem wordOf_congr {n : Nat} {p q : Nat → Bool} (h : ∀ i, i < n → p i = q i) : wordOf n p = wordOf n q := by
  apply Nat.eq_of_testBit_eq
  intro b
  rw [wordOf_bit, wordOf_bit]
  by_cases hb : b < n
  · rw [h b hb]
  · simp [hb]

theorem and_eq_iff {a b : Nat} : a &&& b = b ↔ ∀ j, b.testBit j = true → a.testBit j = true := by
  constructor
  · intro h j hj
    rw [← h, Nat.testBit_and, Bool.and_eq_true] at hj
    exact hj.1
  · intro h
    apply Nat.eq_of_testBit_eq
    intro j
    rw [Nat.testBit_and]
    cases hb : b.testBit j
    · simp
    · rw [h j hb]; rfl

end Go.Proofs.Tryd
