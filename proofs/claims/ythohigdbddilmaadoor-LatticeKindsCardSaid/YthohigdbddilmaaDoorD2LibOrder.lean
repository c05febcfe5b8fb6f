/- Lemmas on functions of the program, by name: order. -/
import Derived.Test.YthohigdbddilmaaDoorD2Funs
import Derived.Test.YthohigdbddilmaaDoorAbsSums
import Derived.Test.YthohigdbddilmaaDoorD2LibSets
namespace Go.Proofs.Tryd
open Go Go.Abs


/-- What an order must be. -/
structure IsOrder (n : Nat) (ws : List Nat) : Prop where
  refl : ∀ i, i < n → below ws i i = true
  anti : ∀ i j, i < n → j < n → i ≠ j → below ws i j = true → below ws j i = false
  trans : ∀ i j k, i < n → j < n → k < n → below ws i j = true → below ws j k = true → below ws i k = true

/-- No word has a bit at n or further up. -/
def Inside (n : Nat) (ws : List Nat) : Prop := ∀ w ∈ ws, ∀ i, n ≤ i → w.testBit i = false

open Classical in
/-- What both checks answer. -/
noncomputable def ordc (N : Int) (ws : List Nat) : Int :=
  if N < 0 then 1 else if N > 16 then 1 else if (ws.length : Int) ≠ N then 2 else if ¬ Inside N.toNat ws then 2 else if IsOrder N.toNat ws then 0 else 3

theorem below_lt {n : Nat} {ws : List Nat} {i j : Nat} (hin : Inside n ws) (hi : i < ws.length) (h : below ws i j = true) : j < n := by
  rw [below_eq (List.getElem?_eq_getElem hi)] at h
  by_cases hj : j < n
  · exact hj
  · rw [hin _ (List.getElem_mem hi) j (by omega)] at h; cases h

theorem all_bit (n i : Nat) : (2 ^ n - 1).testBit i = decide (i < n) := Nat.testBit_two_pow_sub_one n i

theorem dif_all {n w : Nat} : dif w (2 ^ n - 1) = 0 ↔ ∀ i, n ≤ i → w.testBit i = false := by
  rw [dif_zero]
  constructor
  · intro h i hi
    cases hb : w.testBit i
    · rfl
    · have := h i hb; rw [all_bit] at this; simp at this; omega
  · intro h i hb
    rw [all_bit]
    by_cases hi : i < n
    · simpa using hi
    · rw [h i (by omega)] at hb; cases hb

/-- A bit of the order's word that stands in the way of its being one. -/
def badJ (ws : List Nat) (i w : Nat) (j : Nat) : Bool := below ws j i || !decide (dif (ws.getD j 0) w = 0)
def badI (ws : List Nat) (i : Nat) : Bool := !below ws i i || (bitsL (dif (ws.getD i 0) (2 ^ i))).any (badJ ws i (ws.getD i 0))

theorem order_Check_l4_eq {N : Int} {ws : List Nat} (hf : Fit ws) {i w : Nat} (hi : i < 32) (hw : w < 2 ^ 32) (hlen : ∀ j, w.testBit j = true → j < ws.length) (y : (Int × Unit) × Unit) (s : (Int × Unit) × Unit) :
    loopM (order_Check_l4 ((N, cl ws, ()), ()) ((i : Int), y) (w : Int)) (((dif w (2 ^ i) : Nat) : Int), s) =
      some (if (bitsL (dif w (2 ^ i))).any (badJ ws i w) = true then .inl ((3, ()), ()) else .inr (.inl (s.1, ()))) := by
  have hd : dif w (2 ^ i) < 2 ^ 64 := Nat.lt_of_lt_of_le (dif_lt hw) (by decide)
  refine loopM_each (g := fun r s => some (if badJ ws i w r = true then .inr (.inl ((3, ()), ())) else .inl s)) (e := fun s => .inr (.inl (s.1, ()))) hd (fun r q s h hb => ?_) (fun s => ?_) s _
    (eachM_any (badJ ws i w) _ _ _ fun r _ => rfl)
  · rw [dif_bit] at hb
    have hr := hlen r (Bool.and_eq_true_iff.1 hb).1
    have hr64 : r < 64 := bit_lt hd (by rw [dif_bit]; exact hb)
    have e : ws[r]? = some ws[r] := List.getElem?_eq_getElem hr
    have hfr := hf _ (List.getElem_mem hr)
    unfold order_Check_l4
    simp only [nz_eq, cond_true, tz_eq h, Option.bind_some, cl_getI, e, Option.map_some]
    rw [sets_Has_eq i hfr]
    simp only [Option.bind_some]
    rw [not_u32 hfr hw, clr_eq h, show (0 : Int) = ((0 : Nat) : Int) from rfl, cast_bne]
    have e2 : badJ ws i w r = (ws[r].testBit i || !decide (dif ws[r] w = 0)) := by
      unfold badJ; rw [below_eq e, List.getD_eq_getElem?_getD, e]; rfl
    rw [e2]
    cases ws[r].testBit i <;> cases decide (dif ws[r] w = 0) <;> rfl
  · unfold order_Check_l4
    rfl

theorem order_Check_l5_eq {n : Nat} {ws : List Nat} (hf : Fit ws) (hl : ws.length = n) (hn : n ≤ 16) (hin : Inside n ws) :
    loopM (order_Check_l5 (((n : Int), cl ws, ()), ())) (0, ((0 : Int), ()), ()) = some (if (List.range n).any (badI ws) = true then .inl ((3, ()), ()) else .inr (.inl ((0, ()), ()))) := by
  refine loopM_any0 n _ (badI ws) _ _ (fun i hi => ?_) ?_
  · have hi' : i < ws.length := by omega
    have e : ws[i]? = some ws[i] := List.getElem?_eq_getElem hi'
    have hfr := hf _ (List.getElem_mem hi')
    unfold order_Check_l5
    have e0 : decide ((i : Int) < ((cl ws).length : Int)) = true := by rw [cl_length]; exact decide_eq_true (by omega)
    simp only [e0, cond_true, cl_getI, e, Option.map_some, Option.bind_some]
    rw [sets_Has_eq i hfr, sets_One_eq (by omega)]
    simp only [Option.bind_some]
    have hp : 2 ^ i < 2 ^ 32 := Nat.pow_lt_pow_right (by decide) (by omega)
    have hd : dif ws[i] (2 ^ i) < 2 ^ 64 := Nat.lt_of_lt_of_le (dif_lt hfr) (by decide)
    rw [not_u32 hfr hp, wrap_u64 hd, order_Check_l4_eq hf (by omega) hfr (fun j hj => by
      have := below_lt hin hi' (by rw [below_eq e]; exact hj)
      omega)]
    have e2 : badI ws i = (!ws[i].testBit i || (bitsL (dif ws[i] (2 ^ i))).any (badJ ws i ws[i])) := by
      unfold badI; rw [below_eq e, List.getD_eq_getElem?_getD, e]; rfl
    rw [e2, wrap64 (by omega) (by omega)]
    cases ws[i].testBit i <;> cases (bitsL (dif ws[i] (2 ^ i))).any (badJ ws i ws[i]) <;> rfl
  · unfold order_Check_l5
    have e0 : decide ((n : Int) < ((cl ws).length : Int)) = false := by rw [cl_length]; exact decide_eq_false (by omega)
    simp only [e0, cond_false]

theorem badI_iff {n : Nat} {ws : List Nat} (hf : Fit ws) (hl : ws.length = n) (hn : n ≤ 16) (hin : Inside n ws) : (List.range n).any (badI ws) = false ↔ IsOrder n ws := by
  have hget : ∀ i (hi : i < n), ∃ w, ws[i]? = some w ∧ w < 2 ^ 32 := fun i hi => ⟨ws[i], List.getElem?_eq_getElem (by omega), hf _ (List.getElem_mem _)⟩
  rw [List.any_eq_false]
  constructor
  · intro h
    have h1 : ∀ i, i < n → below ws i i = true ∧ ∀ j, j ≠ i → below ws i j = true → below ws j i = false ∧ ∀ k, below ws j k = true → below ws i k = true := by
      intro i hi
      have hb := h i (List.mem_range.2 hi)
      obtain ⟨w, hw, hw32⟩ := hget i hi
      have hgd : ws.getD i 0 = w := by rw [List.getD_eq_getElem?_getD, hw]; rfl
      unfold badI at hb
      rw [hgd] at hb
      simp only [Bool.or_eq_true, not_or, Bool.not_eq_true, Bool.not_eq_false'] at hb
      refine ⟨hb.1, fun j hji hij => ?_⟩
      have hj : j ∈ bitsL (dif w (2 ^ i)) := (mem_bitsL (Nat.lt_of_lt_of_le (dif_lt hw32) (by decide))).2 (by
        rw [dif_bit, ← below_eq hw, hij, Nat.testBit_two_pow]; simp [Ne.symm hji])
      have hb2 := List.any_eq_false.1 hb.2 j hj
      unfold badJ at hb2
      simp only [Bool.or_eq_true, not_or, Bool.not_eq_true, Bool.not_eq_false', decide_eq_true_eq] at hb2
      refine ⟨hb2.1, fun k hk => ?_⟩
      have := dif_zero.1 hb2.2 k hk
      rw [below_eq hw]; exact this
    refine ⟨fun i hi => (h1 i hi).1, fun i j hi _ hne hij => ((h1 i hi).2 j (Ne.symm hne) hij).1, fun i j k hi _ _ hij hjk => ?_⟩
    by_cases e : j = i
    · subst e; exact hjk
    · exact ((h1 i hi).2 j e hij).2 k hjk
  · intro o i hi
    have hi := List.mem_range.1 hi
    obtain ⟨w, hw, hw32⟩ := hget i hi
    have hgd : ws.getD i 0 = w := by rw [List.getD_eq_getElem?_getD, hw]; rfl
    unfold badI
    rw [hgd, o.refl i hi]
    simp only [Bool.not_true, Bool.false_or, Bool.not_eq_true]
    refine List.any_eq_false.2 fun j hj => ?_
    have hb := (mem_bitsL (Nat.lt_of_lt_of_le (dif_lt hw32) (by decide))).1 hj
    rw [dif_bit, Nat.testBit_two_pow, ← below_eq hw] at hb
    have hb2 := Bool.and_eq_true_iff.1 hb
    have hji : i ≠ j := by intro e; subst e; simp at hb2
    have hjn := below_lt hin (by omega) hb2.1
    unfold badJ
    rw [o.anti i j hi hjn hji hb2.1]
    simp only [Bool.false_or, Bool.not_eq_true, Bool.not_eq_false', decide_eq_true_eq]
    refine dif_zero.2 fun k hk => ?_
    have hjk : below ws j k = true := hk
    rw [← below_eq hw]
    exact o.trans i j k hi hjn (below_lt hin (by omega) hjk) hb2.1 hjk

end Go.Proofs.Tryd
