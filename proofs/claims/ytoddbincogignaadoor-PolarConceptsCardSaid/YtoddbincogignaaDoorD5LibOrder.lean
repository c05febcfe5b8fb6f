/- Lemmas on functions of the program, by name: order. -/
import Derived.Test.YtoddbincogignaaDoorD5Funs
import Derived.Test.YtoddbincogignaaDoorAbsSums
import Derived.Test.YtoddbincogignaaDoorD5LibSets
namespace Go.Proofs.Tryd
open Go Go.Abs


/-- What an order must be. -/
structure IsOrder (n : Nat) (ws : List Nat) : Prop where
  refl : ∀ i, i < n → below ws i i = true
  anti : ∀ i j, i < n → j < n → i ≠ j → below ws i j = true → below ws j i = false
  trans : ∀ i j k, i < n → j < n → k < n → below ws i j = true → below ws j k = true → below ws i k = true

/-- No word has a bit at n or further up. -/
def Inside (n : Nat) (ws : List Nat) : Prop := ∀ w ∈ ws, ∀ i, n ≤ i → w.testBit i = false

open Classical in
/-- What both checks answer. -/
noncomputable def ordc (N : Int) (ws : List Nat) : Int :=
  if N < 0 then 1 else if N > 16 then 1 else if (ws.length : Int) ≠ N then 2 else if ¬ Inside N.toNat ws then 2 else if IsOrder N.toNat ws then 0 else 3

theorem below_lt {n : Nat} {ws : List Nat} {i j : Nat} (hin : Inside n ws) (hi : i < ws.length) (h : below ws i j = true) : j < n := by
  rw [below_eq (List.getElem?_eq_getElem hi)] at h
  by_cases hj : j < n
  · exact hj
  · rw [hin _ (List.getElem_mem hi) j (by omega)] at h; cases h

theorem all_bit (n i : Nat) : (2 ^ n - 1).testBit i = decide (i < n) := Nat.testBit_two_pow_sub_one n i

theorem dif_all {n w : Nat} : dif w (2 ^ n - 1) = 0 ↔ ∀ i, n ≤ i → w.testBit i = false := by
  rw [dif_zero]
  constructor
  · intro h i hi
    cases hb : w.testBit i
    · rfl
    · have := h i hb; rw [all_bit] at this; simp at this; omega
  · intro h i hb
    rw [all_bit]
    by_cases hi : i < n
    · simpa using hi
    · rw [h i (by omega)] at hb; cases hb

/-- A bit of the order's word that stands in the way of its being one. -/
def badJ (ws : List Nat) (i w : Nat) (j : Nat) : Bool := below ws j i || !decide (dif (ws.getD j 0) w = 0)
def badI (ws : List Nat) (i : Nat) : Bool := !below ws i i || (bitsL (dif (ws.getD i 0) (2 ^ i))).any (badJ ws i (ws.getD i 0))

theorem badI_iff {n : Nat} {ws : List Nat} (hf : Fit ws) (hl : ws.length = n) (hn : n ≤ 16) (hin : Inside n ws) : (List.range n).any (badI ws) = false ↔ IsOrder n ws := by
  have hget : ∀ i (hi : i < n), ∃ w, ws[i]? = some w ∧ w < 2 ^ 32 := fun i hi => ⟨ws[i], List.getElem?_eq_getElem (by omega), hf _ (List.getElem_mem _)⟩
  rw [List.any_eq_false]
  constructor
  · intro h
    have h1 : ∀ i, i < n → below ws i i = true ∧ ∀ j, j ≠ i → below ws i j = true → below ws j i = false ∧ ∀ k, below ws j k = true → below ws i k = true := by
      intro i hi
      have hb := h i (List.mem_range.2 hi)
      obtain ⟨w, hw, hw32⟩ := hget i hi
      have hgd : ws.getD i 0 = w := by rw [List.getD_eq_getElem?_getD, hw]; rfl
      unfold badI at hb
      rw [hgd] at hb
      simp only [Bool.or_eq_true, not_or, Bool.not_eq_true, Bool.not_eq_false'] at hb
      refine ⟨hb.1, fun j hji hij => ?_⟩
      have hj : j ∈ bitsL (dif w (2 ^ i)) := (mem_bitsL (Nat.lt_of_lt_of_le (dif_lt hw32) (by decide))).2 (by
        rw [dif_bit, ← below_eq hw, hij, Nat.testBit_two_pow]; simp [Ne.symm hji])
      have hb2 := List.any_eq_false.1 hb.2 j hj
      unfold badJ at hb2
      simp only [Bool.or_eq_true, not_or, Bool.not_eq_true, Bool.not_eq_false', decide_eq_true_eq] at hb2
      refine ⟨hb2.1, fun k hk => ?_⟩
      have := dif_zero.1 hb2.2 k hk
      rw [below_eq hw]; exact this
    refine ⟨fun i hi => (h1 i hi).1, fun i j hi _ hne hij => ((h1 i hi).2 j (Ne.symm hne) hij).1, fun i j k hi _ _ hij hjk => ?_⟩
    by_cases e : j = i
    · subst e; exact hjk
    · exact ((h1 i hi).2 j e hij).2 k hjk
  · intro o i hi
    have hi := List.mem_range.1 hi
    obtain ⟨w, hw, hw32⟩ := hget i hi
    have hgd : ws.getD i 0 = w := by rw [List.getD_eq_getElem?_getD, hw]; rfl
    unfold badI
    rw [hgd, o.refl i hi]
    simp only [Bool.not_true, Bool.false_or, Bool.not_eq_true]
    refine List.any_eq_false.2 fun j hj => ?_
    have hb := (mem_bitsL (Nat.lt_of_lt_of_le (dif_lt hw32) (by decide))).1 hj
    rw [dif_bit, Nat.testBit_two_pow, ← below_eq hw] at hb
    have hb2 := Bool.and_eq_true_iff.1 hb
    have hji : i ≠ j := by intro e; subst e; simp at hb2
    have hjn := below_lt hin (by omega) hb2.1
    unfold badJ
    rw [o.anti i j hi hjn hji hb2.1]
    simp only [Bool.false_or, Bool.not_eq_true, Bool.not_eq_false', decide_eq_true_eq]
    refine dif_zero.2 fun k hk => ?_
    have hjk : below ws j k = true := hk
    rw [← below_eq hw]
    exact o.trans i j k hi hjn (below_lt hin (by omega) hjk) hb2.1 hjk

end Go.Proofs.Tryd
