/- Lemmas on functions of the program, by name. -/
import Derived.Test.YtamkgeejenceaaaDoorR1Funs
import Derived.Test.YtamkgeejenceaaaDoorAbsSums
namespace Go.Proofs.Tryd
section
open Go Go.Abs


theorem tz_table : ∀ r : Fin 64, getI lit0 (shrI .u64 (IntKind.u64.wrap (((2 ^ r.val : Nat) : Int) * (285870213051353865 : Int))) (58 : Int)) = some (r.val : Int) := by decide +kernel

theorem tz_eq {r q : Nat} (h : 2 ^ r * (2 * q + 1) < 2 ^ 64) : math_bits_TrailingZeros64 (((2 ^ r * (2 * q + 1) : Nat) : Int), ()) = some ((r : Int), ()) := by
  have hr : r < 64 := bit_lt h (by rw [odd_bit]; simp)
  have hp : 0 < 2 ^ r * (2 * q + 1) := Nat.mul_pos (Nat.two_pow_pos r) (by omega)
  unfold math_bits_TrailingZeros64
  have e0 : ((((2 ^ r * (2 * q + 1) : Nat) : Int), ()).1 == (0 : Int)) = false := by
    simp only [beq_eq_false_iff_ne]; omega
  have e1 : IntKind.u64.wrap (0 - ((2 ^ r * (2 * q + 1) : Nat) : Int)) = ((2 ^ 64 - 2 ^ r * (2 * q + 1) : Nat) : Int) := by
    unfold IntKind.wrap; simp only [IntKind.bits, IntKind.signed]
    generalize 2 ^ r * (2 * q + 1) = v at *
    simp; omega
  simp only [e0, cond_false]
  rw [e1, and_u64 h (by omega), low_one h, getS_eq, tab0_eq, tz_table ⟨r, hr⟩]
  simp only [Option.bind_some]
  rw [wrap64 (by omega) (by omega)]

theorem sets_One_eq {i : Nat} (h : i < 32) : sets_One ((i : Int), ()) = some (((2 ^ i : Nat) : Int), ()) := by
  unfold sets_One
  have : decide ((i : Int) < 0) = false := decide_eq_false (by omega)
  simp only [this, cond_false]
  rw [shl_u32 h]

theorem sets_All_eq {n : Nat} (h : n ≤ 32) : sets_All ((n : Int), ()) = some (((2 ^ n - 1 : Nat) : Int), ()) := by
  unfold sets_All
  have : decide ((n : Int) < 0) = false := decide_eq_false (by omega)
  simp only [this, cond_false]
  rw [all_u32 h]
theorem sets_Has_eq {a : Nat} (i : Nat) (h : a < 2 ^ 32) : sets_Has_uint32 ((a : Int), (i : Int), ()) = some (a.testBit i, ()) := by
  unfold sets_Has_uint32
  have : decide ((i : Int) < 0) = false := decide_eq_false (by omega)
  simp only [this, cond_false]
  rw [has_u32 i h]

theorem ref_Bit_eq {a : Nat} {i : Nat} (h : a < 2 ^ 32) (hi : i < 2 ^ 64) : ref_Bit ((a : Int), (i : Int), ()) = some (a.testBit i, ()) := by
  unfold ref_Bit
  have : decide (IntKind.u64.wrap (i : Int) < 0) = false := by rw [wrap_u64 hi]; exact decide_eq_false (by omega)
  simp only [this, cond_false]
  rw [wrap_u64 hi, bit_u32 i h]
/-- The words of an order: each fits. -/
def Fit (ws : List Nat) : Prop := ∀ w ∈ ws, w < 2 ^ 32
/-- Is i below j? -/
def below (ws : List Nat) (i j : Nat) : Bool := (ws.getD i 0).testBit j

theorem below_eq {ws : List Nat} {i j w : Nat} (h : ws[i]? = some w) : below ws i j = w.testBit j := by
  unfold below; rw [List.getD_eq_getElem?_getD, h]; rfl

theorem ref_Below_eq {ws : List Nat} (hf : Fit ws) {N : Int} {i j : Nat} (hi : i < ws.length) (hj : j < 2 ^ 64) : ref_Below ((N, cl ws, ()), (i : Int), (j : Int), ()) = some (below ws i j, ()) := by
  unfold ref_Below
  have e : ws[i]? = some ws[i] := List.getElem?_eq_getElem hi
  simp only [cl_getI, e, Option.map_some, Option.bind_some]
  rw [ref_Bit_eq (hf _ (List.getElem_mem hi)) hj, below_eq e]
  rfl
theorem wf_u32 {x : Int} (h : (Lit.int .u32 x).wf = true) : 0 ≤ x ∧ x < 4294967296 := by
  simp [Lit.wf, IntKind.min, IntKind.max, IntKind.bits, IntKind.signed] at h
  omega
theorem words_of {l : List Int} (h : Wf (.list (.int .u32)) l) : ∃ ws, l = cl ws ∧ Fit ws := by
  obtain ⟨ws, rfl⟩ := cl_of (l := l) fun v hv => (wf_u32 (h.2 v hv)).1
  refine ⟨ws, rfl, fun w hw => ?_⟩
  have := (wf_u32 (h.2 (w : Int) (List.mem_map.2 ⟨w, hw, rfl⟩))).2
  omega

theorem fit_tab {n : Nat} {g : Nat → Nat} (h : ∀ i, i < n → g i < 2 ^ 32) : Fit (tab n g) := fun w hw => by
  obtain ⟨i, hi, rfl⟩ := mem_tab.1 hw
  exact h i hi

theorem below_tab {n : Nat} {g : Nat → Nat} {i : Nat} (hi : i < n) (j : Nat) : below (tab n g) i j = (g i).testBit j := below_eq (tab_get g hi)
end

section
open Go Go.Abs


/-- What an order must be. -/
structure IsOrder (n : Nat) (ws : List Nat) : Prop where
  refl : ∀ i, i < n → below ws i i = true
  anti : ∀ i j, i < n → j < n → i ≠ j → below ws i j = true → below ws j i = false
  trans : ∀ i j k, i < n → j < n → k < n → below ws i j = true → below ws j k = true → below ws i k = true

/-- No word has a bit at n or further up. -/
def Inside (n : Nat) (ws : List Nat) : Prop := ∀ w ∈ ws, ∀ i, n ≤ i → w.testBit i = false

open Classical in
/-- What both checks answer. -/
noncomputable def ordc (N : Int) (ws : List Nat) : Int :=
  if N < 0 then 1 else if N > 16 then 1 else if (ws.length : Int) ≠ N then 2 else if ¬ Inside N.toNat ws then 2 else if IsOrder N.toNat ws then 0 else 3

theorem below_lt {n : Nat} {ws : List Nat} {i j : Nat} (hin : Inside n ws) (hi : i < ws.length) (h : below ws i j = true) : j < n := by
  rw [below_eq (List.getElem?_eq_getElem hi)] at h
  by_cases hj : j < n
  · exact hj
  · rw [hin _ (List.getElem_mem hi) j (by omega)] at h; cases h

theorem all_bit (n i : Nat) : (2 ^ n - 1).testBit i = decide (i < n) := Nat.testBit_two_pow_sub_one n i

theorem dif_all {n w : Nat} : dif w (2 ^ n - 1) = 0 ↔ ∀ i, n ≤ i → w.testBit i = false := by
  rw [dif_zero]
  constructor
  · intro h i hi
    cases hb : w.testBit i
    · rfl
    · have := h i hb; rw [all_bit] at this; simp at this; omega
  · intro h i hb
    rw [all_bit]
    by_cases hi : i < n
    · simpa using hi
    · rw [h i (by omega)] at hb; cases hb

/-- A bit of the order's word that stands in the way of its being one. -/
def badJ (ws : List Nat) (i w : Nat) (j : Nat) : Bool := below ws j i || !decide (dif (ws.getD j 0) w = 0)
def badI (ws : List Nat) (i : Nat) : Bool := !below ws i i || (bitsL (dif (ws.getD i 0) (2 ^ i))).any (badJ ws i (ws.getD i 0))

theorem order_Check_l4_eq {N : Int} {ws : List Nat} (hf : Fit ws) {i w : Nat} (hi : i < 32) (hw : w < 2 ^ 32) (hlen : ∀ j, w.testBit j = true → j < ws.length) (y : (Int × Unit) × Unit) (s : (Int × Unit) × Unit) :
    loopM (order_Check_l4 ((N, cl ws, ()), ()) ((i : Int), y) (w : Int)) (((dif w (2 ^ i) : Nat) : Int), s) =
      some (if (bitsL (dif w (2 ^ i))).any (badJ ws i w) = true then .inl ((3, ()), ()) else .inr (.inl (s.1, ()))) := by
  have hd : dif w (2 ^ i) < 2 ^ 64 := Nat.lt_of_lt_of_le (dif_lt hw) (by decide)
  refine loopM_each (g := fun r s => some (if badJ ws i w r = true then .inr (.inl ((3, ()), ())) else .inl s)) (e := fun s => .inr (.inl (s.1, ()))) hd (fun r q s h hb => ?_) (fun s => ?_) s _
    (eachM_any (badJ ws i w) _ _ _ fun r _ => rfl)
  · rw [dif_bit] at hb
    have hr := hlen r (Bool.and_eq_true_iff.1 hb).1
    have hr64 : r < 64 := bit_lt hd (by rw [dif_bit]; exact hb)
    have e : ws[r]? = some ws[r] := List.getElem?_eq_getElem hr
    have hfr := hf _ (List.getElem_mem hr)
    unfold order_Check_l4
    simp only [nz_eq, cond_true, tz_eq h, Option.bind_some, cl_getI, e, Option.map_some]
    rw [sets_Has_eq i hfr]
    simp only [Option.bind_some]
    rw [not_u32 hfr hw, clr_eq h, show (0 : Int) = ((0 : Nat) : Int) from rfl, cast_bne]
    have e2 : badJ ws i w r = (ws[r].testBit i || !decide (dif ws[r] w = 0)) := by
      unfold badJ; rw [below_eq e, List.getD_eq_getElem?_getD, e]; rfl
    rw [e2]
    cases ws[r].testBit i <;> cases decide (dif ws[r] w = 0) <;> rfl
  · unfold order_Check_l4
    rfl

theorem order_Check_l5_eq {n : Nat} {ws : List Nat} (hf : Fit ws) (hl : ws.length = n) (hn : n ≤ 16) (hin : Inside n ws) :
    loopM (order_Check_l5 (((n : Int), cl ws, ()), ())) (0, ((0 : Int), ()), ()) = some (if (List.range n).any (badI ws) = true then .inl ((3, ()), ()) else .inr (.inl ((0, ()), ()))) := by
  refine loopM_any0 n _ (badI ws) _ _ (fun i hi => ?_) ?_
  · have hi' : i < ws.length := by omega
    have e : ws[i]? = some ws[i] := List.getElem?_eq_getElem hi'
    have hfr := hf _ (List.getElem_mem hi')
    unfold order_Check_l5
    have e0 : decide ((i : Int) < ((cl ws).length : Int)) = true := by rw [cl_length]; exact decide_eq_true (by omega)
    simp only [e0, cond_true, cl_getI, e, Option.map_some, Option.bind_some]
    rw [sets_Has_eq i hfr, sets_One_eq (by omega)]
    simp only [Option.bind_some]
    have hp : 2 ^ i < 2 ^ 32 := Nat.pow_lt_pow_right (by decide) (by omega)
    have hd : dif ws[i] (2 ^ i) < 2 ^ 64 := Nat.lt_of_lt_of_le (dif_lt hfr) (by decide)
    rw [not_u32 hfr hp, wrap_u64 hd, order_Check_l4_eq hf (by omega) hfr (fun j hj => by
      have := below_lt hin hi' (by rw [below_eq e]; exact hj)
      omega)]
    have e2 : badI ws i = (!ws[i].testBit i || (bitsL (dif ws[i] (2 ^ i))).any (badJ ws i ws[i])) := by
      unfold badI; rw [below_eq e, List.getD_eq_getElem?_getD, e]; rfl
    rw [e2, wrap64 (by omega) (by omega)]
    cases ws[i].testBit i <;> cases (bitsL (dif ws[i] (2 ^ i))).any (badJ ws i ws[i]) <;> rfl
  · unfold order_Check_l5
    have e0 : decide ((n : Int) < ((cl ws).length : Int)) = false := by rw [cl_length]; exact decide_eq_false (by omega)
    simp only [e0, cond_false]

theorem badI_iff {n : Nat} {ws : List Nat} (hf : Fit ws) (hl : ws.length = n) (hn : n ≤ 16) (hin : Inside n ws) : (List.range n).any (badI ws) = false ↔ IsOrder n ws := by
  have hget : ∀ i (hi : i < n), ∃ w, ws[i]? = some w ∧ w < 2 ^ 32 := fun i hi => ⟨ws[i], List.getElem?_eq_getElem (by omega), hf _ (List.getElem_mem _)⟩
  rw [List.any_eq_false]
  constructor
  · intro h
    have h1 : ∀ i, i < n → below ws i i = true ∧ ∀ j, j ≠ i → below ws i j = true → below ws j i = false ∧ ∀ k, below ws j k = true → below ws i k = true := by
      intro i hi
      have hb := h i (List.mem_range.2 hi)
      obtain ⟨w, hw, hw32⟩ := hget i hi
      have hgd : ws.getD i 0 = w := by rw [List.getD_eq_getElem?_getD, hw]; rfl
      unfold badI at hb
      rw [hgd] at hb
      simp only [Bool.or_eq_true, not_or, Bool.not_eq_true, Bool.not_eq_false'] at hb
      refine ⟨hb.1, fun j hji hij => ?_⟩
      have hj : j ∈ bitsL (dif w (2 ^ i)) := (mem_bitsL (Nat.lt_of_lt_of_le (dif_lt hw32) (by decide))).2 (by
        rw [dif_bit, ← below_eq hw, hij, Nat.testBit_two_pow]; simp [Ne.symm hji])
      have hb2 := List.any_eq_false.1 hb.2 j hj
      unfold badJ at hb2
      simp only [Bool.or_eq_true, not_or, Bool.not_eq_true, Bool.not_eq_false', decide_eq_true_eq] at hb2
      refine ⟨hb2.1, fun k hk => ?_⟩
      have := dif_zero.1 hb2.2 k hk
      rw [below_eq hw]; exact this
    refine ⟨fun i hi => (h1 i hi).1, fun i j hi _ hne hij => ((h1 i hi).2 j (Ne.symm hne) hij).1, fun i j k hi _ _ hij hjk => ?_⟩
    by_cases e : j = i
    · subst e; exact hjk
    · exact ((h1 i hi).2 j e hij).2 k hjk
  · intro o i hi
    have hi := List.mem_range.1 hi
    obtain ⟨w, hw, hw32⟩ := hget i hi
    have hgd : ws.getD i 0 = w := by rw [List.getD_eq_getElem?_getD, hw]; rfl
    unfold badI
    rw [hgd, o.refl i hi]
    simp only [Bool.not_true, Bool.false_or, Bool.not_eq_true]
    refine List.any_eq_false.2 fun j hj => ?_
    have hb := (mem_bitsL (Nat.lt_of_lt_of_le (dif_lt hw32) (by decide))).1 hj
    rw [dif_bit, Nat.testBit_two_pow, ← below_eq hw] at hb
    have hb2 := Bool.and_eq_true_iff.1 hb
    have hji : i ≠ j := by intro e; subst e; simp at hb2
    have hjn := below_lt hin (by omega) hb2.1
    unfold badJ
    rw [o.anti i j hi hjn hji hb2.1]
    simp only [Bool.false_or, Bool.not_eq_true, Bool.not_eq_false', decide_eq_true_eq]
    refine dif_zero.2 fun k hk => ?_
    have hjk : below ws j k = true := hk
    rw [← below_eq hw]
    exact o.trans i j k hi hjn (below_lt hin (by omega) hjk) hb2.1 hjk
end

section
open Go Go.Abs


theorem order_Check_l1_eq {n : Nat} {ws : List Nat} (hf : Fit ws) (hl : ws.length = n) (hn : n ≤ 16) :
    loopM (order_Check_l1 (((n : Int), cl ws, ()), ())) (0, ()) = some (((List.range n).findSome? fun i => if dif (ws.getD i 0) (2 ^ n - 1) = 0 then none else some (.inl ((i : Int), ()))).getD (.inr (.inl ()))) := by
  refine loopM_find n _ _ _ (fun i hi => ?_) ?_
  · have hi' : i < ws.length := by omega
    have e : ws[i]? = some ws[i] := List.getElem?_eq_getElem hi'
    have hfr := hf _ (List.getElem_mem hi')
    have hgd : ws.getD i 0 = ws[i] := by rw [List.getD_eq_getElem?_getD, e]; rfl
    unfold order_Check_l1
    have e0 : decide ((i : Int) < ((cl ws).length : Int)) = true := by rw [cl_length]; exact decide_eq_true (by omega)
    have hp : 2 ^ n - 1 < 2 ^ 32 := by have : 2 ^ n < 2 ^ 32 := Nat.pow_lt_pow_right (by decide) (by omega); omega
    simp only [e0, cond_true, cl_getI, e, Option.map_some, Option.bind_some, sets_All_eq (show n ≤ 32 by omega), hgd]
    rw [not_u32 hfr hp, show (0 : Int) = ((0 : Nat) : Int) from rfl, cast_bne, wrap64 (by omega) (by omega)]
    by_cases hz : dif ws[i] (2 ^ n - 1) = 0 <;> simp [hz]
  · unfold order_Check_l1
    have e0 : decide ((n : Int) < ((cl ws).length : Int)) = false := by rw [cl_length]; exact decide_eq_false (by omega)
    simp only [e0, cond_false]

theorem findIdx_cases {n : Nat} {ws : List Nat} (hl : ws.length = n) {β : Type} (b : Nat → β) :
    (¬ Inside n ws ∧ ∃ i, i < n ∧ ((List.range n).findSome? fun i => if dif (ws.getD i 0) (2 ^ n - 1) = 0 then none else some (b i)) = some (b i)) ∨
    (Inside n ws ∧ ((List.range n).findSome? fun i => if dif (ws.getD i 0) (2 ^ n - 1) = 0 then none else some (b i)) = none) := by
  cases h : ((List.range n).findSome? fun i => if dif (ws.getD i 0) (2 ^ n - 1) = 0 then none else some (b i)) with
  | some z =>
    left
    obtain ⟨i, hi, hz⟩ := List.exists_of_findSome?_eq_some h
    have hi := List.mem_range.1 hi
    have e : ws[i]? = some ws[i] := List.getElem?_eq_getElem (by omega)
    have hgd : ws.getD i 0 = ws[i] := by rw [List.getD_eq_getElem?_getD, e]; rfl
    by_cases hd : dif (ws.getD i 0) (2 ^ n - 1) = 0
    · rw [if_pos hd] at hz; cases hz
    · rw [if_neg hd] at hz
      exact ⟨fun hin => hd (by rw [hgd]; exact dif_all.2 (hin _ (List.getElem_mem _))), i, hi, hz.symm⟩
  | none =>
    right
    refine ⟨fun w hw => ?_, rfl⟩
    obtain ⟨i, hi, rfl⟩ := List.getElem_of_mem hw
    have hz := List.findSome?_eq_none_iff.1 h i (List.mem_range.2 (by omega))
    have e : ws[i]? = some ws[i] := List.getElem?_eq_getElem hi
    have hgd : ws.getD i 0 = ws[i] := by rw [List.getD_eq_getElem?_getD, e]; rfl
    rw [hgd] at hz
    by_cases hd : dif ws[i] (2 ^ n - 1) = 0
    · exact dif_all.1 hd
    · rw [if_neg hd] at hz; cases hz

theorem order_Check_eq {N : Int} {ws : List Nat} (hf : Fit ws) : order_Check ((N, cl ws, ()), ()) = some (ordc N ws, ()) := by
  unfold order_Check ordc
  by_cases h1 : N < 0
  · simp only [decide_eq_true h1, cond_true, if_pos h1]
  by_cases h2 : N > 16
  · simp only [decide_eq_false h1, cond_false, decide_eq_true h2, cond_true, if_neg h1, if_pos h2]
  simp only [decide_eq_false h1, cond_false, decide_eq_false h2, if_neg h1, if_neg h2, cl_length, cond_bne]
  by_cases h3 : (ws.length : Int) = N
  · obtain ⟨n, rfl⟩ := Int.eq_ofNat_of_zero_le (show 0 ≤ N by omega)
    have hl : ws.length = n := by omega
    rw [if_pos h3, if_neg (show ¬ ¬ (ws.length : Int) = (n : Int) from fun h => h h3), order_Check_l1_eq hf hl (by omega)]
    rcases findIdx_cases hl (β := (Int × Unit) ⊕ Unit ⊕ Empty) (fun i => .inl ((i : Int), ())) with ⟨hin, i, hi, hz⟩ | ⟨hin, hz⟩
    · rw [hz]
      have e0 : decide ((i : Int) ≥ 0) = true := decide_eq_true (by omega)
      simp only [Option.getD_some, Option.bind_some, Sum.elim_inl, e0, cond_true]
      rw [if_pos (by simpa using hin)]
    · rw [hz]
      have e0 : decide ((-1 : Int) ≥ 0) = false := by decide
      simp only [Option.getD_none, Option.bind_some, Sum.elim_inl, Sum.elim_inr, e0, cond_false]
      rw [order_Check_l5_eq hf hl (by omega) hin, if_neg (show ¬ ¬ Inside (n : Int).toNat ws from fun h => h hin)]
      have hb := badI_iff hf hl (by omega) hin
      by_cases hany : (List.range n).any (badI ws) = true
      · have : ¬ IsOrder (n : Int).toNat ws := fun o => by rw [hb.2 o] at hany; cases hany
        rw [if_pos hany, if_neg this]; rfl
      · have : IsOrder (n : Int).toNat ws := hb.1 (by simpa using hany)
        rw [if_neg hany, if_pos this]; rfl
  · rw [if_neg h3, if_pos h3]

/-! The reference. -/
theorem any_range'_iff {a k : Nat} {bad : Nat → Bool} : (List.range' a k).any bad = true ↔ ∃ i, a ≤ i ∧ i < a + k ∧ bad i = true := by
  rw [List.any_eq_true]
  constructor
  · rintro ⟨i, hi, hb⟩
    rw [List.mem_range'_1] at hi
    exact ⟨i, hi.1, hi.2, hb⟩
  · rintro ⟨i, h1, h2, hb⟩
    exact ⟨i, List.mem_range'_1.2 ⟨h1, h2⟩, hb⟩

theorem ref_Outside_eq {w n : Nat} (hw : w < 2 ^ 32) (hn : n ≤ 32) : ref_Outside ((w : Int), (n : Int), ()) = some ((List.range' n (32 - n)).any (w.testBit ·), ()) := by
  unfold ref_Outside
  rw [loopM_any n 32 () (w.testBit ·) (.inl (true, ())) (.inr (.inl ())) hn (fun i _ hi => ?_) ?_]
  · cases (List.range' n (32 - n)).any (w.testBit ·) <;> rfl
  · unfold ref_Outside_l1
    rfl
  · unfold ref_Outside_l1
    have e0 : decide ((i : Int) < 32) = true := decide_eq_true (by omega)
    simp only [e0, cond_true]
    rw [ref_Bit_eq hw (by omega), wrap64 (by omega) (by omega)]
    cases w.testBit i <;> rfl

theorem outside_iff {w n : Nat} (hw : w < 2 ^ 32) : (List.range' n (32 - n)).any (w.testBit ·) = false ↔ ∀ i, n ≤ i → w.testBit i = false := by
  rw [← Bool.not_eq_true, any_range'_iff]
  constructor
  · intro h i hi
    cases hb : w.testBit i
    · rfl
    · exact absurd ⟨i, hi, by have := bit_lt hw hb; omega, hb⟩ h
  · rintro h ⟨i, h1, _, h3⟩
    rw [h i h1] at h3; cases h3

/-- What stands in the way at three numbers. -/
def badK (ws : List Nat) (i j k : Nat) : Bool := below ws i j && (below ws j k && !below ws i k)
def badIJ (n : Nat) (ws : List Nat) (i j : Nat) : Bool := (if i = j then !below ws i i else below ws i j && below ws j i) || (List.range n).any (badK ws i j)

theorem ref_l2_eq {n : Nat} {ws : List Nat} (hf : Fit ws) (hl : ws.length = n) (hn : n ≤ 16) {i j : Nat} (hi : i < n) (hj : j < n) :
    loopM (ref_OrderCheck_l2 (((n : Int), cl ws, ()), ()) ((i : Int), ()) ((j : Int), ())) (0, ()) = some (if (List.range n).any (badK ws i j) = true then .inl (3, ()) else .inr (.inl ())) := by
  refine loopM_any0 n _ _ _ _ (fun k hk => ?_) ?_
  · unfold ref_OrderCheck_l2
    have e0 : decide ((k : Int) < (n : Int)) = true := decide_eq_true (by omega)
    simp only [e0, cond_true]
    rw [ref_Below_eq hf (by omega) (by omega), ref_Below_eq hf (by omega) (by omega), ref_Below_eq hf (by omega) (by omega), wrap64 (by omega) (by omega)]
    unfold badK
    cases below ws i j <;> cases below ws j k <;> cases below ws i k <;> rfl
  · unfold ref_OrderCheck_l2
    have e0 : decide ((n : Int) < (n : Int)) = false := decide_eq_false (by omega)
    simp only [e0, cond_false]
theorem ref_l3_same : ref_OrderCheck_l3 = ref_OrderCheck_l2 := rfl
theorem ref_l4_same : ref_OrderCheck_l4 = ref_OrderCheck_l2 := rfl
theorem ref_l5_same : ref_OrderCheck_l5 = ref_OrderCheck_l2 := rfl
theorem ref_l6_same : ref_OrderCheck_l6 = ref_OrderCheck_l2 := rfl
theorem ref_l7_same : ref_OrderCheck_l7 = ref_OrderCheck_l2 := rfl

theorem ref_l8_eq {n : Nat} {ws : List Nat} (hf : Fit ws) (hl : ws.length = n) (hn : n ≤ 16) {i : Nat} (hi : i < n) :
    loopM (ref_OrderCheck_l8 (((n : Int), cl ws, ()), ()) ((i : Int), ())) (0, ()) = some (if (List.range n).any (badIJ n ws i) = true then .inl (3, ()) else .inr (.inl ())) := by
  refine loopM_any0 n _ _ _ _ (fun j hj => ?_) ?_
  · unfold ref_OrderCheck_l8
    rw [ref_l3_same, ref_l4_same, ref_l5_same, ref_l6_same, ref_l7_same]
    have e0 : decide ((j : Int) < (n : Int)) = true := decide_eq_true (by omega)
    simp only [e0, cond_true]
    rw [ref_l2_eq hf hl hn hi hj, ref_Below_eq hf (by omega) (by omega), ref_Below_eq hf (by omega) (by omega), ref_Below_eq hf (by omega) (by omega), wrap64 (by omega) (by omega), cond_beq, cond_bne]
    simp only [Option.bind_some]
    unfold badIJ
    by_cases hij : i = j
    · subst hij
      simp only [if_true]
      cases below ws i i <;> cases (List.range n).any (badK ws i i) <;> rfl
    · have : ¬ (i : Int) = (j : Int) := by omega
      simp only [this, hij, if_false]
      cases below ws i j <;> cases below ws j i <;> cases (List.range n).any (badK ws i j) <;> rfl
  · unfold ref_OrderCheck_l8
    have e0 : decide ((n : Int) < (n : Int)) = false := decide_eq_false (by omega)
    simp only [e0, cond_false]

theorem ref_l9_eq {n : Nat} {ws : List Nat} (hf : Fit ws) (hl : ws.length = n) (hn : n ≤ 16) :
    loopM (ref_OrderCheck_l9 (((n : Int), cl ws, ()), ())) (0, ()) = some (if (List.range n).any (fun i => (List.range n).any (badIJ n ws i)) = true then .inl (3, ()) else .inr (.inl ())) := by
  refine loopM_any0 n _ _ _ _ (fun i hi => ?_) ?_
  · unfold ref_OrderCheck_l9
    have e0 : decide ((i : Int) < (n : Int)) = true := decide_eq_true (by omega)
    simp only [e0, cond_true]
    rw [ref_l8_eq hf hl hn hi, wrap64 (by omega) (by omega)]
    cases (List.range n).any (badIJ n ws i) <;> rfl
  · unfold ref_OrderCheck_l9
    have e0 : decide ((n : Int) < (n : Int)) = false := decide_eq_false (by omega)
    simp only [e0, cond_false]

theorem badIJ_iff {n : Nat} {ws : List Nat} : (List.range n).any (fun i => (List.range n).any (badIJ n ws i)) = false ↔ IsOrder n ws := by
  have hb : ∀ i j, badIJ n ws i j = false ↔ (if i = j then below ws i i = true else (below ws i j = true → below ws j i = false)) ∧ ∀ k, k < n → below ws i j = true → below ws j k = true → below ws i k = true := by
    intro i j
    unfold badIJ
    rw [Bool.or_eq_false_iff, List.any_eq_false]
    refine and_congr ?_ ?_
    · by_cases h : i = j
      · simp [h]
      · simp only [h, if_false]; cases below ws i j <;> cases below ws j i <;> simp
    · constructor
      · intro h k hk h1 h2
        have := h k (List.mem_range.2 hk)
        unfold badK at this
        rw [h1, h2] at this
        simpa using this
      · intro h k hk
        unfold badK
        have := h k (List.mem_range.1 hk)
        cases h1 : below ws i j <;> cases h2 : below ws j k <;> simp_all
  rw [List.any_eq_false]
  constructor
  · intro h
    have h' : ∀ i j, i < n → j < n → badIJ n ws i j = false := fun i j hi hj => by
      have := List.any_eq_false.1 (by simpa using h i (List.mem_range.2 hi)) j (List.mem_range.2 hj)
      simpa using this
    refine ⟨fun i hi => ?_, fun i j hi hj hij h1 => ?_, fun i j k hi hj hk => ((hb i j).1 (h' i j hi hj)).2 k hk⟩
    · simpa using ((hb i i).1 (h' i i hi hi)).1
    · have := ((hb i j).1 (h' i j hi hj)).1
      rw [if_neg hij] at this
      exact this h1
  · intro o i hi
    have hi := List.mem_range.1 hi
    rw [Bool.not_eq_true, List.any_eq_false]
    intro j hj
    have hj := List.mem_range.1 hj
    rw [Bool.not_eq_true, hb]
    refine ⟨?_, fun k hk => o.trans i j k hi hj hk⟩
    by_cases h : i = j
    · subst h; simpa using o.refl i hi
    · rw [if_neg h]; exact o.anti i j hi hj h

theorem ref_l1_eq {n : Nat} {ws : List Nat} (hf : Fit ws) (hl : ws.length = n) (hn : n ≤ 16) :
    loopM (ref_OrderCheck_l1 (((n : Int), cl ws, ()), ())) (0, ()) = some (if (List.range n).any (fun i => (List.range' n (32 - n)).any ((ws.getD i 0).testBit ·)) = true then .inl (2, ()) else .inr (.inl ())) := by
  refine loopM_any0 n _ _ _ _ (fun i hi => ?_) ?_
  · unfold ref_OrderCheck_l1
    have e : ws[i]? = some ws[i] := List.getElem?_eq_getElem (by omega)
    have hgd : ws.getD i 0 = ws[i] := by rw [List.getD_eq_getElem?_getD, e]; rfl
    have e0 : decide ((i : Int) < (n : Int)) = true := decide_eq_true (by omega)
    simp only [e0, cond_true, cl_getI, e, Option.map_some, Option.bind_some, hgd]
    rw [ref_Outside_eq (hf _ (List.getElem_mem _)) (by omega), wrap64 (by omega) (by omega)]
    simp only [Option.bind_some]
    cases (List.range' n (32 - n)).any (ws[i].testBit ·) <;> rfl
  · unfold ref_OrderCheck_l1
    have e0 : decide ((n : Int) < (n : Int)) = false := decide_eq_false (by omega)
    simp only [e0, cond_false]

theorem inside_any {n : Nat} {ws : List Nat} (hf : Fit ws) (hl : ws.length = n) : (List.range n).any (fun i => (List.range' n (32 - n)).any ((ws.getD i 0).testBit ·)) = false ↔ Inside n ws := by
  rw [List.any_eq_false]
  constructor
  · intro h w hw
    obtain ⟨i, hi, rfl⟩ := List.getElem_of_mem hw
    have e : ws[i]? = some ws[i] := List.getElem?_eq_getElem hi
    have hgd : ws.getD i 0 = ws[i] := by rw [List.getD_eq_getElem?_getD, e]; rfl
    have := h i (List.mem_range.2 (by omega))
    rw [Bool.not_eq_true, hgd] at this
    exact (outside_iff (hf _ (List.getElem_mem _))).1 this
  · intro hin i hi
    have hi := List.mem_range.1 hi
    have e : ws[i]? = some ws[i] := List.getElem?_eq_getElem (by omega)
    have hgd : ws.getD i 0 = ws[i] := by rw [List.getD_eq_getElem?_getD, e]; rfl
    rw [Bool.not_eq_true, hgd]
    exact (outside_iff (hf _ (List.getElem_mem _))).2 (hin _ (List.getElem_mem _))

theorem ref_OrderCheck_eq {N : Int} {ws : List Nat} (hf : Fit ws) : ref_OrderCheck ((N, cl ws, ()), ()) = some (ordc N ws, ()) := by
  unfold ref_OrderCheck ordc
  by_cases h1 : N < 0
  · simp only [decide_eq_true h1, cond_true, if_pos h1]
  by_cases h2 : N > 16
  · simp only [decide_eq_false h1, cond_false, decide_eq_true h2, cond_true, if_neg h1, if_pos h2]
  simp only [decide_eq_false h1, cond_false, decide_eq_false h2, if_neg h1, if_neg h2, cl_length, cond_bne]
  by_cases h3 : (ws.length : Int) = N
  · obtain ⟨n, rfl⟩ := Int.eq_ofNat_of_zero_le (show 0 ≤ N by omega)
    have hl : ws.length = n := by omega
    rw [if_pos h3, if_neg (show ¬ ¬ (ws.length : Int) = (n : Int) from fun h => h h3), ref_l1_eq hf hl (by omega), ref_l9_eq hf hl (by omega)]
    have hi := inside_any hf hl
    have hb := badIJ_iff (n := n) (ws := ws)
    by_cases hin : Inside n ws
    · rw [hi.2 hin, if_neg (show ¬ ¬ Inside (n : Int).toNat ws by simpa using hin)]
      by_cases ho : IsOrder n ws
      · rw [hb.2 ho, if_pos (show IsOrder (n : Int).toNat ws from ho)]; rfl
      · have : (List.range n).any (fun i => (List.range n).any (badIJ n ws i)) = true := by
          cases h : (List.range n).any (fun i => (List.range n).any (badIJ n ws i))
          · exact absurd (hb.1 h) ho
          · rfl
        rw [this, if_neg (show ¬ IsOrder (n : Int).toNat ws from ho)]; rfl
    · have : (List.range n).any (fun i => (List.range' n (32 - n)).any ((ws.getD i 0).testBit ·)) = true := by
        cases h : (List.range n).any (fun i => (List.range' n (32 - n)).any ((ws.getD i 0).testBit ·))
        · exact absurd (hi.1 h) hin
        · rfl
      rw [this, if_pos (show ¬ Inside (n : Int).toNat ws from hin)]; rfl
  · rw [if_neg h3, if_pos h3]

/-- What a good order is. -/
theorem ordc_zero {N : Int} {ws : List Nat} (h : ordc N ws = 0) : 0 ≤ N ∧ N ≤ 16 ∧ (ws.length : Int) = N ∧ Inside N.toNat ws ∧ IsOrder N.toNat ws := by
  unfold ordc at h
  by_cases h1 : N < 0
  · rw [if_pos h1] at h; cases h
  rw [if_neg h1] at h
  by_cases h2 : N > 16
  · rw [if_pos h2] at h; cases h
  rw [if_neg h2] at h
  by_cases h3 : (ws.length : Int) = N
  · rw [if_neg (fun k => k h3)] at h
    by_cases h4 : Inside N.toNat ws
    · rw [if_neg (fun k => k h4)] at h
      by_cases h5 : IsOrder N.toNat ws
      · exact ⟨by omega, by omega, h3, h4, h5⟩
      · rw [if_neg h5] at h; cases h
    · rw [if_pos h4] at h; cases h
  · rw [if_pos h3] at h; cases h
end

section
open Go Go.Abs


/-- For each element those below it. -/
def downW (n : Nat) (ws : List Nat) : List Nat := tab n fun j => wordOf n fun i => below ws i j

theorem order_Down_l1_eq {n : Nat} (hn : n ≤ 16) {w i : Nat} (hw : w < 2 ^ 32) (hin : ∀ j, w.testBit j = true → j < n) (hi : i < 32) (y : List Int × Unit) (g : Nat → Nat) (hg : ∀ j, j < n → g j < 2 ^ 32) :
    loopM (order_Down_l1 ((i : Int), y)) ((w : Int), cl (tab n g), ()) = some (.inl (cl (tab n fun j => if w.testBit j = true then g j ||| 2 ^ i else g j), ())) := by
  have hw64 : w < 2 ^ 64 := Nat.lt_of_lt_of_le hw (by decide)
  have hp : 2 ^ i < 2 ^ 32 := Nat.pow_lt_pow_right (by decide) hi
  have hsim := eachM_sim (e := fun s => (.inl (s.1, ()) : (List Int × Unit) ⊕ Empty)) (g := fun r (s : List Int × Unit) => (s.1[r]?).map fun v => (.inl (s.1.set r (bitsI .or .u32 v ((2 ^ i : Nat) : Int)), ()) : (List Int × Unit) ⊕ ((List Int × Unit) ⊕ Empty)))
    (fun g : Nat → Nat => (cl (tab n g), ())) (fun g r => fun j => if j = r then g j ||| 2 ^ i else g j) (fun g => ∀ j, j < n → g j < 2 ^ 32) (bitsL w) g hg (fun r hr g hg => by
      have hr := hin r ((mem_bitsL hw64).1 hr)
      refine ⟨?_, fun j hj => ?_⟩
      · simp only [cl_get, tab_get g hr, Option.map_some]
        rw [or_u32 (hg r hr) hp, cl_set, tab_set]
        have : tab n (fun j => if j = r then g r ||| 2 ^ i else g j) = tab n (fun j => if j = r then g j ||| 2 ^ i else g j) := tab_congr fun j _ => by
          by_cases h : j = r
          · subst h; rfl
          · simp [h]
        rw [this]
      · dsimp only
        split
        · exact Nat.or_lt_two_pow (hg j hj) hp
        · exact hg j hj)
  have hloop := loopM_each (f := order_Down_l1 ((i : Int), y)) hw64 (fun r q s h hb => ?_) (fun s => ?_) _ _ hsim.1
  · rw [hloop]
    have : tab n (List.foldl (fun g r j => if j = r then g j ||| 2 ^ i else g j) g (bitsL w)) = tab n fun j => if w.testBit j = true then g j ||| 2 ^ i else g j := tab_congr fun j _ => by
      rw [foldl_or_at]
      simp only [mem_bitsL hw64]
    rw [← this]
  · have hr := hin r hb
    unfold order_Down_l1
    simp only [nz_eq, cond_true, tz_eq h, Option.bind_some, sets_One_eq hi, inB_nat, clr_eq h, Int.toNat_natCast]
    cases hv : s.1[r]? with
    | none =>
      have : decide (r < s.1.length) = false := by
        rw [List.getElem?_eq_none_iff] at hv; exact decide_eq_false (by omega)
      simp [this]
    | some v =>
      have : decide (r < s.1.length) = true := by
        have := (List.getElem?_eq_some_iff.1 hv).1; exact decide_eq_true this
      simp [this]
  · unfold order_Down_l1
    rfl

theorem order_Down_eq {n : Nat} {ws : List Nat} (hf : Fit ws) (hl : ws.length = n) (hn : n ≤ 16) (hin : Inside n ws) : order_Down (((n : Int), cl ws, ()), ()) = some (cl (downW n ws), ()) := by
  have hloop : loopM (order_Down_l2 (((n : Int), cl ws, ()), ())) (0, (fun k => (cl (tab n fun j => wordOf k fun i => below ws i j), ())) 0) = some (.inl (cl (downW n ws), ())) := by
    refine loopM_up n (fun k => (cl (tab n fun j => wordOf k fun i => below ws i j), ())) _ (fun i hi => ?_) ?_
    · have hi' : i < ws.length := by omega
      have e : ws[i]? = some ws[i] := List.getElem?_eq_getElem hi'
      have hfr := hf _ (List.getElem_mem hi')
      have e0 : decide ((i : Int) < ((cl ws).length : Int)) = true := by rw [cl_length]; exact decide_eq_true (by omega)
      unfold order_Down_l2
      simp only [e0, cond_true, cl_getI, e, Option.map_some, Option.bind_some]
      rw [wrap_u64 (Nat.lt_of_lt_of_le hfr (by decide)), order_Down_l1_eq hn hfr (fun j hj => below_lt hin hi' (by rw [below_eq e]; exact hj)) (by omega) _ _ (fun j _ => wordOf_lt32 _ (by omega)), wrap64 (by omega) (by omega)]
      simp only [Option.bind_some, Sum.elim_inl]
      have : tab n (fun j => if ws[i].testBit j = true then (wordOf i fun i => below ws i j) ||| 2 ^ i else wordOf i fun i => below ws i j) = tab n fun j => wordOf (i + 1) fun i => below ws i j := tab_congr fun j _ => by
        rw [wordOf, below_eq e]
      rw [this]; rfl
    · have e0 : decide ((n : Int) < ((cl ws).length : Int)) = false := by rw [cl_length]; exact decide_eq_false (by omega)
      unfold order_Down_l2
      simp only [e0, cond_false]
      rfl
  unfold order_Down
  have c1 : (decide (0 ≤ (n : Int)) && decide ((n : Int) ≤ (n : Int)) && roomOk n 4 && decide ((n : Int) ≤ 9223372036854775807) && true && true) = true := by
    rw [room4 (by omega)]
    simp; omega
  simp only [Int.toNat_natCast, c1, cond_true]
  have e1 : List.replicate n (0 : Int) = cl (tab n fun j => wordOf 0 fun i => below ws i j) := by
    rw [cl_rep, rep_tab]; rfl
  rw [e1]
  have hloop' : loopM (order_Down_l2 (((n : Int), cl ws, ()), ())) (0, cl (tab n fun j => wordOf 0 fun i => below ws i j), ()) = some (.inl (cl (downW n ws), ())) := hloop
  rw [hloop']
  rfl
end

section
open Go Go.Abs


theorem fitD {ws : List Nat} (hf : Fit ws) (i : Nat) : ws.getD i 0 < 2 ^ 32 := by
  rw [List.getD_eq_getElem?_getD]
  by_cases h : i < ws.length
  · rw [List.getElem?_eq_getElem h]; exact hf _ (List.getElem_mem h)
  · rw [List.getElem?_eq_none (by omega)]; decide
theorem fitD64 {ws : List Nat} (hf : Fit ws) (i : Nat) : ws.getD i 0 < 2 ^ 64 := lt_64 (fitD hf i)
theorem insideD {n : Nat} {ws : List Nat} (hin : Inside n ws) {i j : Nat} (h : (ws.getD i 0).testBit j = true) : j < n := by
  by_cases hi : i < ws.length
  · exact below_lt hin hi h
  · rw [List.getD_eq_getElem?_getD, List.getElem?_eq_none (by omega)] at h; simp at h
theorem has_D {ws : List Nat} (hf : Fit ws) (i j : Nat) : sets_Has_uint32 (((ws.getD i 0 : Nat) : Int), (j : Int), ()) = some (below ws i j, ()) := sets_Has_eq j (fitD hf i)
theorem all_succ (k : Nat) (p : Nat → Bool) : (List.range (k + 1)).all p = ((List.range k).all p && p k) := by simp [List.range_succ]
theorem any_succ (k : Nat) (p : Nat → Bool) : (List.range (k + 1)).any p = ((List.range k).any p || p k) := by simp [List.range_succ]
theorem if_lt_succ {α : Type} (i k : Nat) (p : Bool) (x y : α) : (if (decide (i < k + 1) && p) = true then x else y) = if i = k then (if p = true then x else y) else (if (decide (i < k) && p) = true then x else y) := by
  by_cases h : i = k
  · subst h; simp
  · have : decide (i < k + 1) = decide (i < k) := by simp; omega
    rw [this, if_neg h]
/-- A word's bits, each put into the table's place that it names. -/
theorem or_into {f : Int × List Int × Unit → Option ((Int × List Int × Unit) ⊕ ((List Int × Unit) ⊕ Empty))} {n : Nat} {w m : Nat} (hw : w < 2 ^ 32) (hin : ∀ j, w.testBit j = true → j < n) (hm : m < 2 ^ 32) {g : Nat → Nat} (hg : ∀ j, j < n → g j < 2 ^ 32)
    (h : ∀ r q (l : List Nat), 2 ^ r * (2 * q + 1) < 2 ^ 64 → r < l.length → r < n → l.getD r 0 < 2 ^ 32 → f (((2 ^ r * (2 * q + 1) : Nat) : Int), cl l, ()) = some (.inl (((2 ^ r * (2 * q) : Nat) : Int), (cl l).set r (((l.getD r 0) ||| m : Nat) : Int), ())))
    (hend : ∀ l, f (0, l, ()) = some (.inr (.inl (l, ())))) :
    loopM f ((w : Int), cl (tab n g), ()) = some (.inl (cl (tab n fun j => if w.testBit j = true then g j ||| m else g j), ())) := by
  have key := loopM_bits (f := f) (v := w) 32 (fun k => (cl (tab n fun j => if (decide (j < k) && w.testBit j) = true then g j ||| m else g j), ())) (.inl (cl (tab n fun j => if w.testBit j = true then g j ||| m else g j), ())) hw (by decide) (fun r q h1 h2 h3 => ?_) (fun r _ h2 => ?_) ?_
  · simpa using key
  · have hr := hin r h2
    rw [h r q _ h1 (by rw [length_tab]; exact hr) hr (by rw [getD_tab hr]; simpa using hg r hr), getD_tab hr, cl_set, tab_set]
    congr 5
    refine tab_congr fun j _ => ?_
    rw [if_lt_succ]
    by_cases e : j = r
    · subst e; simp [h2]
    · simp [e]
  · refine congrArg (fun x => (cl x, ())) (tab_congr fun j _ => ?_)
    rw [if_lt_succ]
    by_cases e : j = r
    · subst e; simp [h2]
    · simp [e]
  · rw [hend]
    refine congrArg (fun x => some (Sum.inr (Sum.inl (cl x, ())))) (tab_congr fun j _ => ?_)
    cases h : w.testBit j
    · simp
    · have := bit_lt hw h; simp [this]
theorem u32_nat {x : Int} (h : (Lit.int .u32 x).wf = true) : ∃ n : Nat, x = (n : Int) ∧ n < 2 ^ 32 := by
  have h1 := wf_u32 h
  exact ⟨x.toNat, by omega, by omega⟩
end

section
open Go Go.Abs


/-- A set's bits from n on. -/
def outs (w n : Nat) : Bool := (List.range' n (32 - n)).any (w.testBit ·)
theorem outs_iff {w n : Nat} (hw : w < 2 ^ 32) : outs w n = false ↔ ∀ j, w.testBit j = true → j < n := by
  unfold outs
  rw [outside_iff hw]
  constructor
  · intro h j hj
    by_cases hn : j < n
    · exact hn
    · rw [h j (by omega)] at hj; cases hj
  · intro h j hj
    cases hb : w.testBit j
    · rfl
    · have := h j hb; omega
theorem outs_dif {w n : Nat} (hw : w < 2 ^ 32) : (((dif w (2 ^ n - 1) : Nat) : Int) != 0) = outs w n := by
  rw [show (0 : Int) = ((0 : Nat) : Int) from rfl, cast_bne, Bool.eq_iff_iff, Bool.not_eq_true', decide_eq_false_iff_not, dif_all, ← outside_iff hw]
  unfold outs
  rw [Bool.not_eq_false]
theorem inside_outs {n : Nat} {ws : List Nat} (hf : Fit ws) : (∀ i, i < ws.length → outs (ws.getD i 0) n = false) ↔ Inside n ws := by
  constructor
  · intro h w hw
    obtain ⟨i, hi, rfl⟩ := List.getElem_of_mem hw
    have := h i hi
    rw [List.getD_eq_getElem?_getD, List.getElem?_eq_getElem hi] at this
    exact (outside_iff (hf _ hw)).1 this
  · intro h i hi
    exact (outs_iff (fitD hf i)).2 fun j hj => insideD h hj

theorem ref_Outside_outs {w n : Nat} (hw : w < 2 ^ 32) (hn : n ≤ 32) : ref_Outside ((w : Int), (n : Int), ()) = some (outs w n, ()) := ref_Outside_eq hw hn

theorem all_range {n : Nat} {p : Nat → Bool} : (List.range n).all p = true ↔ ∀ i, i < n → p i = true := by
  rw [List.all_eq_true]; exact ⟨fun h i hi => h i (List.mem_range.2 hi), fun h i hi => h i (List.mem_range.1 hi)⟩
theorem any_range {n : Nat} {p : Nat → Bool} : (List.range n).any p = true ↔ ∃ i, i < n ∧ p i = true := by
  rw [List.any_eq_true]; exact ⟨fun ⟨i, hi, h⟩ => ⟨i, List.mem_range.1 hi, h⟩, fun ⟨i, hi, h⟩ => ⟨i, List.mem_range.2 hi, h⟩⟩
theorem wordOf_congr {n : Nat} {p q : Nat → Bool} (h : ∀ i, i < n → p i = q i) : wordOf n p = wordOf n q := by
  apply Nat.eq_of_testBit_eq
  intro b
  rw [wordOf_bit, wordOf_bit]
  by_cases hb : b < n
  · rw [h b hb]
  · simp [hb]

theorem and_eq_iff {a b : Nat} : a &&& b = b ↔ ∀ j, b.testBit j = true → a.testBit j = true := by
  constructor
  · intro h j hj
    rw [← h, Nat.testBit_and, Bool.and_eq_true] at hj
    exact hj.1
  · intro h
    apply Nat.eq_of_testBit_eq
    intro j
    rw [Nat.testBit_and]
    cases hb : b.testBit j
    · simp
    · rw [h j hb]; rfl
end

section
open Go Go.Abs


open Classical in
/-- What a context's check answers. -/
noncomputable def polc (rs : List Nat) (C : Int) : Int :=
  if (rs.length : Int) > 16 then 1 else if C < 0 then 1 else if C > 16 then 1 else if ¬ Inside C.toNat rs then 2 else 0

theorem polc_zero {rs : List Nat} {C : Int} (h : polc rs C = 0) : rs.length ≤ 16 ∧ 0 ≤ C ∧ C ≤ 16 ∧ Inside C.toNat rs := by
  unfold polc at h
  by_cases h1 : (rs.length : Int) > 16
  · rw [if_pos h1] at h; cases h
  rw [if_neg h1] at h
  by_cases h2 : C < 0
  · rw [if_pos h2] at h; cases h
  rw [if_neg h2] at h
  by_cases h3 : C > 16
  · rw [if_pos h3] at h; cases h
  rw [if_neg h3] at h
  by_cases h4 : Inside C.toNat rs
  · exact ⟨by omega, by omega, by omega, h4⟩
  · rw [if_pos h4] at h; cases h

/-- A context's columns. -/
def colW (rs : List Nat) (k j : Nat) : Nat := wordOf k fun i => below rs i j
theorem polar_open_l1_eq {rs : List Nat} {C i w : Nat} (hw : w < 2 ^ 32) (hin : ∀ j, w.testBit j = true → j < C) (hi : i < 32) {g : Nat → Nat} (hg : ∀ j, j < C → g j < 2 ^ 32) (a : Int) (b : List Int × List Int × Unit) (c : List Int × Unit) :
    loopM (polar_open_l1 (a, (i : Int), b, c)) ((w : Int), cl (tab C g), ()) = some (.inl (cl (tab C fun j => if w.testBit j = true then g j ||| 2 ^ i else g j), ())) :=
  or_into hw hin (two_pow_32 hi) hg (fun r q l h1 h2 h3 h4 => by
    unfold polar_open_l1
    simp (disch := first | assumption | omega) only [cond_true, Option.bind_some, get_cl, inB_T, Int.toNat_natCast, length_cl, nz_eq, tz_eq h1, clr_eq h1, sets_One_eq hi, or_u32 h4 (two_pow_32 hi)]) (fun l => rfl)

theorem colW_succ {rs : List Nat} (i j : Nat) : colW rs (i + 1) j = if (rs.getD i 0).testBit j = true then colW rs i j ||| 2 ^ i else colW rs i j := rfl
theorem colW_lt {rs : List Nat} {k : Nat} (h : k ≤ 16) (j : Nat) : colW rs k j < 2 ^ 32 := wordOf_lt32 _ (by omega)

theorem polar_open_l2_eq {rs : List Nat} (hf : Fit rs) {C : Nat} (hl : rs.length ≤ 16) (hC : C ≤ 16) :
    loopM (polar_open_l2 ((cl rs, (C : Int), ()), ())) (0, 0, ([], [], ()), cl (tab C fun _ => 0), ()) =
      some (((List.range rs.length).findSome? fun i => cond (outs (rs.getD i 0) C) (some (.inl (2, ([], [], ()), cl (tab C (colW rs i)), ()))) none).getD (.inr (.inl (([], [], ()), cl (tab C (colW rs rs.length)), ())))) := by
  refine loopM_stop (f := polar_open_l2 ((cl rs, (C : Int), ()), ())) rs.length (fun k => ((0 : Int), (k : Int), (([] : List Int), ([] : List Int), ()), cl (tab C (colW rs k)), ())) _ _ (fun i hi => ?_) ?_
  · have hfr := fitD hf i
    unfold polar_open_l2
    simp (disch := first | assumption | omega) only [cond_true, Option.bind_some, dcT, getI_cl, wrapS, length_cl, sets_All_eq (show C ≤ 32 by omega), not_u32 hfr (all_32 (show C ≤ 32 by omega)), outs_dif hfr, wrap_u64 (lt_64 hfr)]
    cases ho : outs (rs.getD i 0) C
    · rw [polar_open_l1_eq (rs := rs) hfr ((outs_iff hfr).1 ho) (by omega) (fun j _ => colW_lt (by omega) j)]
      rfl
    · rfl
  · unfold polar_open_l2
    simp (disch := first | assumption | omega) only [cond_false, dcF, wrapS, length_cl]

theorem polar_open_eq {rs : List Nat} (hf : Fit rs) {C : Int} : polar_open ((cl rs, C, ()), ()) = some (if polc rs C = 0 then ((cl rs, cl (tab C.toNat (colW rs rs.length)), ()), 0, ()) else (([], [], ()), polc rs C, ())) := by
  unfold polar_open polc
  by_cases h1 : (rs.length : Int) > 16
  · simp (disch := first | assumption | omega) only [decide_true, cond_true, dcT, length_cl, Bool.and_true, if_true, h1]; rfl
  by_cases h2 : C < 0
  · simp (disch := first | assumption | omega) only [decide_true, decide_false, cond_true, cond_false, dcT, dcF, length_cl, room4, Bool.and_true, if_true, if_false, h1, h2]; rfl
  by_cases h3 : C > 16
  · simp (disch := first | assumption | omega) only [decide_true, decide_false, cond_true, cond_false, dcT, length_cl, Bool.and_true, Bool.true_and, Bool.and_self, if_true, if_false, h1, h2, h3]; rfl
  obtain ⟨c, rfl⟩ := Int.eq_ofNat_of_zero_le (show 0 ≤ C by omega)
  have e1 : List.replicate c (0 : Int) = cl (tab c fun _ => 0) := by rw [cl_rep, rep_tab]
  simp (disch := first | assumption | omega) only [decide_false, cond_true, cond_false, dcT, Int.toNat_natCast, length_cl, room4, Bool.and_self, if_false, h1, h2, h3, e1]
  rw [polar_open_l2_eq hf (by omega) (by omega)]
  rcases first_cases rs.length (fun i => outs (rs.getD i 0) c) with ⟨i, hi, hb, -, he⟩ | ⟨hb, he⟩
  · have : ¬ Inside c rs := fun h => by rw [(inside_outs hf).2 h i hi] at hb; cases hb
    simp (disch := first | assumption | omega) only [not_false_eq_true, Option.bind_some, Sum.elim_inl, if_true, he, this] <;> rfl
  · have : Inside c rs := (inside_outs hf).1 hb
    simp (disch := first | assumption | omega) only [not_true_eq_false, Option.bind_some, Sum.elim_inl, Sum.elim_inr, if_true, if_false, he, this] <;> rfl

/-- What all lines of a set have, of n. -/
def sharedW (ls : List Nat) (set n k : Nat) : Nat := wordOf n fun b => (List.range k).all fun r => !set.testBit r || below ls r b
theorem sharedW_bit (ls : List Nat) (set n k b : Nat) : (sharedW ls set n k).testBit b = (decide (b < n) && (List.range k).all fun r => !set.testBit r || below ls r b) := wordOf_bit ..
theorem sharedW_step {ls : List Nat} {set n k : Nat} : sharedW ls set n (k + 1) = if set.testBit k = true then sharedW ls set n k &&& ls.getD k 0 else sharedW ls set n k := by
  apply Nat.eq_of_testBit_eq
  intro b
  rw [sharedW_bit, all_succ]
  cases h : set.testBit k
  · simp [sharedW_bit]
  · simp [sharedW_bit, below, Bool.and_assoc]

theorem polar_shared_eq {ls : List Nat} (hf : Fit ls) {set n : Nat} (hs : set < 2 ^ 32) (hin : ∀ j, set.testBit j = true → j < ls.length) (hn : n ≤ 32) :
    polar_shared (cl ls, (set : Int), (n : Int), ()) = some (((sharedW ls set n 32 : Nat) : Int), ()) := by
  have h0 : sharedW ls set n 0 = 2 ^ n - 1 := by
    apply Nat.eq_of_testBit_eq
    intro b
    rw [sharedW_bit, all_bit]
    simp
  have key := loopM_bits (f := polar_shared_l1 (cl ls, (set : Int), (n : Int), ())) 32 (fun k => ((((sharedW ls set n k : Nat) : Int), ()), ())) (.inl ((((sharedW ls set n 32 : Nat) : Int), ()), ())) hs (by decide) (fun r q h1 h2 h3 => by
    have hr := hin r h2
    have hw : sharedW ls set n r < 2 ^ 32 := wordOf_lt32 _ hn
    unfold polar_shared_l1
    simp (disch := first | assumption | omega) only [cond_true, Option.bind_some, getI_cl, nz_eq, tz_eq h1, clr_eq h1, and_u32 hw (fitD hf r)]
    rw [sharedW_step, h2]; rfl) (fun r _ h2 => by rw [sharedW_step, h2]; rfl) rfl
  unfold polar_shared
  rw [h0] at key
  simp (disch := first | assumption | omega) only [Option.bind_some, Sum.elim_inl, sets_All_eq hn, wrap_u64 (lt_64 hs), key]

/-- The columns that all have; the rows that have all. -/
def upW (rs : List Nat) (C rows : Nat) : Nat := wordOf C fun j => (List.range rs.length).all fun i => !rows.testBit i || below rs i j
def dnW (rs : List Nat) (a : Nat) : Nat := wordOf rs.length fun i => decide (rs.getD i 0 &&& a = a)

theorem shared_up {rs : List Nat} {C rows : Nat} (hr : rows < 2 ^ 32) (hin : ∀ j, rows.testBit j = true → j < rs.length) : sharedW rs rows C 32 = upW rs C rows := by
  refine wordOf_congr fun j _ => ?_
  rw [Bool.eq_iff_iff, all_range, all_range]
  constructor
  · intro h i _
    cases hb : rows.testBit i
    · rfl
    · have := h i (bit_lt hr hb); rwa [hb] at this
  · intro h i _
    cases hb : rows.testBit i
    · rfl
    · have := h i (hin i hb); rwa [hb] at this

theorem shared_dn {rs : List Nat} {C a : Nat} (ha : a < 2 ^ 32) (hin : ∀ j, a.testBit j = true → j < C) : sharedW (tab C (colW rs rs.length)) a rs.length 32 = dnW rs a := by
  refine wordOf_congr fun i hi => ?_
  rw [Bool.eq_iff_iff, all_range, decide_eq_true_eq, and_eq_iff]
  have hc : ∀ j, j < C → below (tab C (colW rs rs.length)) j i = (rs.getD i 0).testBit j := fun j hj => by
    rw [below_tab hj]; unfold colW; rw [wordOf_bit, decide_eq_true hi, Bool.true_and]; rfl
  constructor
  · intro h j hj
    have := h j (bit_lt ha hj)
    rw [hj, hc j (hin j hj)] at this
    exact this
  · intro h j _
    cases hb : a.testBit j
    · rfl
    · rw [hc j (hin j hb), h j hb]; rfl

theorem ref_PolarUp_eq {rs : List Nat} (hf : Fit rs) {C rows : Nat} (hl : rs.length ≤ 16) (hC : C ≤ 16) (hr : rows < 2 ^ 32) : ref_PolarUp ((cl rs, (C : Int), ()), (rows : Int), ()) = some (((upW rs C rows : Nat) : Int), ()) := by
  have h1 : ∀ (j : Nat) (a : Int), j < C → loopM (ref_PolarUp_l1 ((cl rs, (C : Int), ()), (rows : Int), ()) (a, (j : Int), ())) (true, 0, ()) = some (.inl ((List.range rs.length).all fun i => !rows.testBit i || below rs i j, ())) := fun j a hj => by
    refine loopM_go (f := ref_PolarUp_l1 ((cl rs, (C : Int), ()), (rows : Int), ()) (a, (j : Int), ())) rs.length (fun k => ((List.range k).all fun i => !rows.testBit i || below rs i j, (k : Int), ())) _ (fun i hi => ?_) ?_
    · unfold ref_PolarUp_l1
      simp (disch := first | assumption | omega) only [cond_true, Option.bind_some, dcT, getI_cl, wrapS, length_cl, ref_Bit_eq hr (show i < 2 ^ 64 by omega), ref_Bit_eq (fitD hf i) (show j < 2 ^ 64 by omega), all_succ]
      show cond (rows.testBit i) (cond (!below rs i j) _ _) _ = _
      cases rows.testBit i <;> cases below rs i j <;> simp
    · unfold ref_PolarUp_l1
      simp (disch := first | assumption | omega) only [cond_false, dcF, wrapS, length_cl]
  have h2 := loopM_go (f := ref_PolarUp_l2 ((cl rs, (C : Int), ()), (rows : Int), ())) C (fun k => (((wordOf k fun j => (List.range rs.length).all fun i => !rows.testBit i || below rs i j : Nat) : Int), (k : Int), ())) (.inl (((upW rs C rows : Nat) : Int), ())) (fun j hj => by
    have w := wordOf_lt32 (n := j) (fun j => (List.range rs.length).all fun i => !rows.testBit i || below rs i j) (by omega)
    unfold ref_PolarUp_l2
    simp (disch := first | assumption | omega) only [cond_true, cond_false, Option.bind_some, Sum.elim_inl, dcT, dcF, wrapS, h1 j _ hj, wrap_u64 (show j < 2 ^ 64 by omega), shl_u32 (show j < 32 by omega), or_u32 w (two_pow_32 (show j < 32 by omega)), wordOf_step]
    cases (List.range rs.length).all fun i => !rows.testBit i || below rs i j <;> rfl) (by
    unfold ref_PolarUp_l2
    simp (disch := first | assumption | omega) only [cond_false, dcF, wrapS]
    rfl)
  unfold ref_PolarUp
  rw [show ((0 : Int), (0 : Int), ()) = (((0 : Nat) : Int), ((0 : Nat) : Int), ()) from rfl]
  rw [show wordOf 0 _ = 0 from rfl] at h2
  rw [h2]; rfl

theorem ref_PolarDown_eq {rs : List Nat} (hf : Fit rs) {C a : Nat} (hl : rs.length ≤ 16) (ha : a < 2 ^ 32) : ref_PolarDown ((cl rs, (C : Int), ()), (a : Int), ()) = some (((dnW rs a : Nat) : Int), ()) := by
  have h2 := loopM_go (f := ref_PolarDown_l1 ((cl rs, (C : Int), ()), (a : Int), ())) rs.length (fun k => (((wordOf k fun i => decide (rs.getD i 0 &&& a = a) : Nat) : Int), (k : Int), ())) (.inl (((dnW rs a : Nat) : Int), ())) (fun j hj => by
    have w := wordOf_lt32 (n := j) (fun i => decide (rs.getD i 0 &&& a = a)) (by omega)
    have e : (((rs.getD j 0 &&& a : Nat) : Int) == (a : Int)) = decide (rs.getD j 0 &&& a = a) := by
      rw [Bool.eq_iff_iff, beq_iff_eq, decide_eq_true_eq]; omega
    unfold ref_PolarDown_l1
    simp (disch := first | assumption | omega) only [cond_true, cond_false, Option.bind_some, dcT, dcF, getI_cl, wrapS, length_cl, and_u32 (fitD hf j) ha, e, wrap_u64 (show j < 2 ^ 64 by omega), shl_u32 (show j < 32 by omega), or_u32 w (two_pow_32 (show j < 32 by omega)), wordOf_step]
    cases decide (rs.getD j 0 &&& a = a) <;> rfl) (by
    unfold ref_PolarDown_l1
    simp (disch := first | assumption | omega) only [cond_false, dcF, wrapS, length_cl]
    rfl)
  unfold ref_PolarDown
  rw [show ((0 : Int), (0 : Int), ()) = (((0 : Nat) : Int), ((0 : Nat) : Int), ()) from rfl]
  rw [show wordOf 0 _ = 0 from rfl] at h2
  rw [h2]; rfl
end

section
open Go Go.Abs


theorem find_map {β : Type} (p : Nat → Bool) (g : Nat → β) (l : List Nat) : (l.findSome? fun i => cond (p i) (some (g i)) none) = (l.find? p).map g := by
  induction l with
  | nil => rfl
  | cons a r ih =>
    rw [List.findSome?_cons, List.find?_cons]
    cases p a with
    | true => rfl
    | false => exact ih
theorem find_none_all {p : Nat → Bool} {n : Nat} (h : (List.range n).find? p = none) : ∀ i, i < n → p i = false := fun i hi => by
  have := List.find?_eq_none.1 h i (List.mem_range.2 hi)
  simpa using this
theorem find_const {β : Type} (p : Nat → Bool) (b : β) (l : List Nat) : (l.findSome? fun r => cond (p r) (some b) none) = if l.any p = true then some b else none := by
  induction l with
  | nil => rfl
  | cons a r ih =>
    rw [List.findSome?_cons, List.any_cons]
    cases p a with
    | true => rfl
    | false => rw [cond_false, ih]; simp
theorem getI_D {α : Type} {l : List α} {i : Int} (d : α) (h0 : 0 ≤ i) (h1 : i < l.length) : getI l i = some (l.getD i.toNat d) := by
  obtain ⟨k, rfl⟩ := Int.eq_ofNat_of_zero_le h0
  rw [getI_nat]
  rw [Int.toNat_natCast]
  exact getD_get (by omega)
theorem getI_lt {α : Type} {l : List α} {i : Nat} (h : i < l.length) : getI l (i : Int) = some l[i] := by
  rw [getI_nat, List.getElem?_eq_getElem h]
theorem room_ok {n k : Nat} (h : n ≤ 140737488355328) (h2 : n * k ≤ 140737488355328) : roomOk n k = true := by
  unfold roomOk
  rw [Bool.and_eq_true]
  exact ⟨Nat.ble_eq_true_of_le h, Nat.ble_eq_true_of_le h2⟩
end

section
open Go Go.Abs


/-! Words as sets, the highest bit first. -/
theorem lt_of_bit {a b : Nat} (i : Nat) (h1 : a.testBit i = false) (h2 : b.testBit i = true) (h : ∀ j, i < j → a.testBit j = b.testBit j) : a < b := by
  have hd : a / 2 ^ (i + 1) = b / 2 ^ (i + 1) := by
    apply Nat.eq_of_testBit_eq
    intro j
    rw [Nat.testBit_div_two_pow, Nat.testBit_div_two_pow]
    exact h _ (by omega)
  have ma : a % 2 ^ (i + 1) < 2 ^ i := Nat.lt_pow_two_of_testBit _ fun j hj => by
    rw [Nat.testBit_mod_two_pow]
    by_cases e : j = i
    · subst e; simp [h1]
    · simp [show ¬ j < i + 1 by omega]
  have mb : b % 2 ^ (i + 1) ≥ 2 ^ i := Nat.ge_two_pow_of_testBit (by rw [Nat.testBit_mod_two_pow]; simp [h2])
  have ea := Nat.div_add_mod a (2 ^ (i + 1))
  have eb := Nat.div_add_mod b (2 ^ (i + 1))
  rw [hd] at ea
  omega
theorem top_diff {a b : Nat} (m : Nat) (ha : a < 2 ^ m) (hb : b < 2 ^ m) (hne : a ≠ b) : ∃ i, i < m ∧ a.testBit i ≠ b.testBit i ∧ ∀ j, i < j → a.testBit j = b.testBit j := by
  have key : ∀ k, k ≤ m → (∀ j, m - k ≤ j → a.testBit j = b.testBit j) ∨ ∃ i, i < m ∧ a.testBit i ≠ b.testBit i ∧ ∀ j, i < j → a.testBit j = b.testBit j := by
    intro k
    induction k with
    | zero =>
      intro _
      refine .inl fun j hj => ?_
      rw [Nat.testBit_lt_two_pow (Nat.lt_of_lt_of_le ha (Nat.pow_le_pow_right (by decide) (by omega))), Nat.testBit_lt_two_pow (Nat.lt_of_lt_of_le hb (Nat.pow_le_pow_right (by decide) (by omega)))]
    | succ k ih =>
      intro hk
      rcases ih (by omega) with h | h
      · by_cases e : a.testBit (m - (k + 1)) = b.testBit (m - (k + 1))
        · refine .inl fun j hj => ?_
          by_cases hj2 : j = m - (k + 1)
          · rw [hj2]; exact e
          · exact h j (by omega)
        · exact .inr ⟨m - (k + 1), by omega, e, fun j hj => h j (by omega)⟩
      · exact .inr h
  rcases key m (Nat.le_refl _) with h | h
  · exact absurd (Nat.eq_of_testBit_eq fun i => h i (by omega)) hne
  · exact h
theorem top_lt {a b : Nat} (m : Nat) (ha : a < 2 ^ m) (hb : b < 2 ^ m) (h : a < b) : ∃ i, i < m ∧ a.testBit i = false ∧ b.testBit i = true ∧ ∀ j, i < j → a.testBit j = b.testBit j := by
  obtain ⟨i, hi, hd, hj⟩ := top_diff m ha hb (by omega)
  cases h1 : a.testBit i with
  | false =>
    refine ⟨i, hi, h1, ?_, hj⟩
    rw [h1] at hd
    cases h2 : b.testBit i with
    | true => rfl
    | false => rw [h2] at hd; exact absurd rfl hd
  | true =>
    rw [h1] at hd
    cases h2 : b.testBit i with
    | true => rw [h2] at hd; exact absurd rfl hd
    | false =>
      have := lt_of_bit i h2 h1 fun j hj' => (hj j hj').symm
      omega
theorem sub_le {a b : Nat} (m : Nat) (ha : a < 2 ^ m) (hb : b < 2 ^ m) (h : ∀ j, a.testBit j = true → b.testBit j = true) : a ≤ b := by
  rcases Nat.lt_or_ge b a with hlt | hge
  · obtain ⟨i, -, h1, h2, -⟩ := top_lt m hb ha hlt
    rw [h i h2] at h1; cases h1
  · exact hge
/-! The closed sets of rows. -/
def clo (rs : List Nat) (C w : Nat) : Nat := dnW rs (upW rs C w)
theorem clo_bit (rs : List Nat) (C w i : Nat) : (clo rs C w).testBit i = true ↔ i < rs.length ∧ ∀ j, j < C → (∀ k, k < rs.length → w.testBit k = true → below rs k j = true) → below rs i j = true := by
  unfold clo dnW
  rw [wordOf_bit, Bool.and_eq_true, decide_eq_true_eq, decide_eq_true_eq, and_eq_iff]
  refine and_congr_right fun hi => ?_
  constructor
  · intro h j hj hall
    refine h j ?_
    unfold upW
    rw [wordOf_bit, Bool.and_eq_true, decide_eq_true_eq, all_range]
    refine ⟨hj, fun k hk => ?_⟩
    cases hb : w.testBit k with
    | false => rfl
    | true => exact hall k hk hb
  · intro h j hj
    unfold upW at hj
    rw [wordOf_bit, Bool.and_eq_true, decide_eq_true_eq, all_range] at hj
    refine h j hj.1 fun k hk hb => ?_
    have := hj.2 k hk
    rw [hb] at this
    exact this
theorem clo_lt (rs : List Nat) (C w : Nat) : clo rs C w < 2 ^ rs.length := wordOf_lt ..
theorem clo_ext {rs : List Nat} {C w i : Nat} (hi : i < rs.length) (h : w.testBit i = true) : (clo rs C w).testBit i = true := (clo_bit ..).2 ⟨hi, fun j _ hall => hall i hi h⟩
theorem clo_mono {rs : List Nat} {C v w : Nat} (h : ∀ i, v.testBit i = true → w.testBit i = true) (i : Nat) (hi : (clo rs C v).testBit i = true) : (clo rs C w).testBit i = true := by
  rw [clo_bit] at hi ⊢
  exact ⟨hi.1, fun j hj hall => hi.2 j hj fun k hk hb => hall k hk (h k hb)⟩
theorem clo_clo (rs : List Nat) (C w : Nat) (hw : ∀ i, w.testBit i = true → i < rs.length) : clo rs C (clo rs C w) = clo rs C w := by
  apply Nat.eq_of_testBit_eq
  intro i
  rw [Bool.eq_iff_iff]
  constructor
  · intro h
    rw [clo_bit] at h ⊢
    exact ⟨h.1, fun j hj hall => h.2 j hj fun k hk hb => (clo_bit ..).1 hb |>.2 j hj hall⟩
  · exact fun h => clo_ext ((clo_bit ..).1 h).1 h
/-- What is tried at a place. -/
def tryAt (rs : List Nat) (C was i : Nat) : Nat := clo rs C (dif was (2 ^ i - 1) ||| 2 ^ i)
theorem seed_bit (was i j : Nat) (hb : was.testBit i = false) : (dif was (2 ^ i - 1) ||| 2 ^ i).testBit j = (decide (i < j) && was.testBit j || decide (j = i)) := by
  rw [Nat.testBit_or, dif_bit, all_bit, Nat.testBit_two_pow]
  by_cases h1 : j < i
  · simp [h1, show ¬ i < j by omega, show ¬ i = j by omega, show ¬ j = i by omega]
  · by_cases h2 : j = i
    · subst h2; simp
    · simp [h1, show i < j by omega, h2, show ¬ i = j by omega]
def fits (rs : List Nat) (C was i : Nat) : Bool := !was.testBit i && decide (dif (tryAt rs C was i) (2 ^ (i + 1) - 1) = dif was (2 ^ (i + 1) - 1))
theorem fits_iff {rs : List Nat} {C was i : Nat} : fits rs C was i = true ↔ was.testBit i = false ∧ ∀ j, i < j → (tryAt rs C was i).testBit j = was.testBit j := by
  unfold fits
  rw [Bool.and_eq_true, Bool.not_eq_true', decide_eq_true_eq]
  refine and_congr_right fun _ => ?_
  constructor
  · intro h j hj
    have := congrArg (fun x => x.testBit j) h
    simp only [dif_bit, all_bit, decide_eq_false (show ¬ j < i + 1 by omega), Bool.not_false, Bool.and_true] at this
    exact this
  · intro h
    apply Nat.eq_of_testBit_eq
    intro j
    rw [dif_bit, dif_bit, all_bit]
    by_cases hj : j < i + 1
    · simp [hj]
    · rw [h j (by omega)]
section
variable {rs : List Nat} {C was : Nat}
/-- A closed set behind another one: at the highest place where they differ it fits. -/
theorem fits_of (hwas : was < 2 ^ rs.length) {B : Nat} (hB : B < 2 ^ rs.length) (hc : clo rs C B = B) {i : Nat} (h1 : was.testBit i = false) (h2 : B.testBit i = true) (h3 : ∀ j, i < j → was.testBit j = B.testBit j) :
    fits rs C was i = true ∧ ∀ j, (tryAt rs C was i).testBit j = true → B.testBit j = true := by
  have hsub : ∀ j, (tryAt rs C was i).testBit j = true → B.testBit j = true := fun j hj => by
    rw [← hc]
    refine clo_mono (fun k hk => ?_) j hj
    rw [seed_bit _ _ _ h1, Bool.or_eq_true, Bool.and_eq_true, decide_eq_true_eq, decide_eq_true_eq] at hk
    rcases hk with ⟨g1, g2⟩ | rfl
    · rw [← h3 k g1]; exact g2
    · exact h2
  refine ⟨fits_iff.2 ⟨h1, fun j hj => ?_⟩, hsub⟩
  rw [Bool.eq_iff_iff]
  constructor
  · intro h; rw [h3 j hj]; exact hsub j h
  · intro h
    refine clo_ext (bit_lt hwas h) ?_
    rw [seed_bit _ _ _ h1]
    simp [hj, h]
theorem try_facts (hwas : was < 2 ^ rs.length) {i : Nat} (hi : i < rs.length) (hf : fits rs C was i = true) : was < tryAt rs C was i ∧ tryAt rs C was i < 2 ^ rs.length ∧ clo rs C (tryAt rs C was i) = tryAt rs C was i := by
  obtain ⟨h1, h2⟩ := fits_iff.1 hf
  refine ⟨lt_of_bit i h1 ?_ fun j hj => (h2 j hj).symm, clo_lt .., clo_clo _ _ _ fun k hk => ?_⟩
  · refine clo_ext hi ?_
    rw [seed_bit _ _ _ h1]; simp
  · rw [seed_bit _ _ _ h1, Bool.or_eq_true, Bool.and_eq_true, decide_eq_true_eq, decide_eq_true_eq] at hk
    rcases hk with ⟨-, g⟩ | rfl
    · exact bit_lt hwas g
    · exact hi
/-- THE NEXT ONE. -/
theorem next_least (hwas : was < 2 ^ rs.length) {i : Nat} (hi : i < rs.length) (hf : fits rs C was i = true) (hmin : ∀ k, k < i → fits rs C was k = false) {B : Nat} (hB : B < 2 ^ rs.length) (hc : clo rs C B = B) (hlt : was < B) : tryAt rs C was i ≤ B := by
  obtain ⟨j, hj, g1, g2, g3⟩ := top_lt rs.length hwas hB hlt
  obtain ⟨q1, q2⟩ := fits_of hwas hB hc g1 g2 g3
  obtain ⟨h1, h2⟩ := fits_iff.1 hf
  rcases Nat.lt_trichotomy j i with h | rfl | h
  · rw [hmin j h] at q1; cases q1
  · exact sub_le rs.length (clo_lt ..) hB q2
  · refine Nat.le_of_lt (lt_of_bit j ?_ g2 fun k hk => ?_)
    · rw [h2 j h]; exact g1
    · rw [h2 k (by omega)]; exact g3 k hk
theorem next_none (hwas : was < 2 ^ rs.length) (hno : ∀ k, k < rs.length → fits rs C was k = false) {B : Nat} (hB : B < 2 ^ rs.length) (hc : clo rs C B = B) : B ≤ was := by
  rcases Nat.lt_or_ge was B with hlt | hge
  · obtain ⟨j, hj, g1, g2, g3⟩ := top_lt rs.length hwas hB hlt
    have := (fits_of hwas hB hc g1 g2 g3).1
    rw [hno j hj] at this; cases this
  · exact hge
end
/-- The closed sets from w on, rising. -/
def clFrom (rs : List Nat) (C w : Nat) : List Nat := (List.range' w (2 ^ rs.length - w)).filter fun v => decide (clo rs C v = v)
theorem clFrom_step {rs : List Nat} {C w : Nat} (hw : w < 2 ^ rs.length) : clFrom rs C w = if clo rs C w = w then w :: clFrom rs C (w + 1) else clFrom rs C (w + 1) := by
  unfold clFrom
  obtain ⟨k, hk⟩ := Nat.exists_eq_add_of_lt hw
  rw [show 2 ^ rs.length - w = (2 ^ rs.length - (w + 1)) + 1 from by omega, List.range'_succ, List.filter_cons]
  by_cases h : clo rs C w = w
  · simp [h]
  · simp [h]
theorem clFrom_end {rs : List Nat} {C w : Nat} (hw : 2 ^ rs.length ≤ w) : clFrom rs C w = [] := by
  unfold clFrom
  rw [show 2 ^ rs.length - w = 0 from by omega]; rfl
/-- Nothing is closed between. -/
theorem clFrom_skip {rs : List Nat} {C : Nat} : ∀ (n w v : Nat), w + n = v → (∀ x, w ≤ x → x < v → x < 2 ^ rs.length → clo rs C x ≠ x) → clFrom rs C w = clFrom rs C v
  | 0, w, v, h, _ => by rw [← h]; rfl
  | n + 1, w, v, h, hno => by
    by_cases hw : w < 2 ^ rs.length
    · rw [clFrom_step hw, if_neg (hno w (Nat.le_refl _) (by omega) hw)]
      exact clFrom_skip n (w + 1) v (by omega) fun x h1 h2 h3 => hno x (by omega) h2 h3
    · rw [clFrom_end (by omega), clFrom_end (by omega)]
def conc (rs : List Nat) (C w : Nat) : Int × Int × Unit := ((w : Int), ((upW rs C w : Nat) : Int), ())
section
variable {rs : List Nat} {C : Nat}
theorem upW_lt (hC : C ≤ 16) (w : Nat) : upW rs C w < 2 ^ 32 := wordOf_lt32 _ (by omega)
theorem sides_up_eq (hf : Fit rs) (hC : C ≤ 16) {w : Nat} (hw : w < 2 ^ rs.length) (hl : rs.length ≤ 16) :
    polar_sides_up ((cl rs, cl (tab C (colW rs rs.length)), ()), (w : Int), ()) = some (((upW rs C w : Nat) : Int), ()) := by
  have hw32 : w < 2 ^ 32 := Nat.lt_of_lt_of_le hw (Nat.pow_le_pow_right (by decide) (by omega))
  unfold polar_sides_up
  simp (disch := first | assumption | omega) only [Option.bind_some, length_cl, length_tab, polar_shared_eq hf hw32 (fun j hj => bit_lt hw hj) (show C ≤ 32 by omega), shared_up hw32 (fun j hj => bit_lt hw hj)]
theorem sides_down_eq (hf : Fit rs) (hC : C ≤ 16) {a : Nat} (ha : a < 2 ^ C) (hl : rs.length ≤ 16) :
    polar_sides_down ((cl rs, cl (tab C (colW rs rs.length)), ()), (a : Int), ()) = some (((dnW rs a : Nat) : Int), ()) := by
  have ha32 : a < 2 ^ 32 := Nat.lt_of_lt_of_le ha (Nat.pow_le_pow_right (by decide) (by omega))
  unfold polar_sides_down
  simp (disch := first | assumption | omega) only [Option.bind_some, length_cl, polar_shared_eq (ls := tab C (colW rs rs.length)) (fit_tab fun j _ => colW_lt (by omega) j) ha32 (by rw [length_tab]; exact fun j hj => bit_lt ha hj) (show rs.length ≤ 32 by omega), shared_dn ha32 (fun j hj => bit_lt ha hj)]
theorem step_eq (hf : Fit rs) (hC : C ≤ 16) (hl : rs.length ≤ 16) {was : Nat} (hw : was < 2 ^ rs.length) :
    polar_sides_step ((cl rs, cl (tab C (colW rs rs.length)), ()), (was : Int), ()) = some (match (List.range rs.length).find? (fits rs C was) with
      | some i => (((tryAt rs C was i : Nat) : Int), true, ())
      | none => (0, false, ())) := by
  have hw32 : was < 2 ^ 32 := Nat.lt_of_lt_of_le hw (Nat.pow_le_pow_right (by decide) (by omega))
  have k := loopM_exit (f := polar_sides_step_l1 ((cl rs, cl (tab C (colW rs rs.length)), ()), (was : Int), ())) rs.length (fun i => ((i : Int), ())) (fun i => cond (fits rs C was i) (some (((tryAt rs C was i : Nat) : Int), true, ())) none) (.inl ()) (fun i hi => by
    have h1 : 2 ^ i < 2 ^ rs.length := Nat.pow_lt_pow_right (by decide) hi
    have hseed : dif was (2 ^ i - 1) ||| 2 ^ i < 2 ^ rs.length := Nat.or_lt_two_pow (dif_lt hw) h1
    have hd32 : dif was (2 ^ i - 1) < 2 ^ 32 := dif_lt hw32
    have ht32 : tryAt rs C was i < 2 ^ 32 := Nat.lt_of_lt_of_le (clo_lt ..) (Nat.pow_le_pow_right (by decide) (by omega))
    have hup := sides_up_eq (C := C) hf hC hseed hl
    have hdn := sides_down_eq (rs := rs) (C := C) hf hC (a := upW rs C (dif was (2 ^ i - 1) ||| 2 ^ i)) (wordOf_lt ..) hl
    have hdn' : polar_sides_down ((cl rs, cl (tab C (colW rs rs.length)), ()), ((upW rs C (dif was (2 ^ i - 1) ||| 2 ^ i) : Nat) : Int), ()) = some (((tryAt rs C was i : Nat) : Int), ()) := hdn
    have e : (((dif (tryAt rs C was i) (2 ^ (i + 1) - 1) : Nat) : Int) == ((dif was (2 ^ (i + 1) - 1) : Nat) : Int)) = decide (dif (tryAt rs C was i) (2 ^ (i + 1) - 1) = dif was (2 ^ (i + 1) - 1)) := by
      rw [Bool.eq_iff_iff, beq_iff_eq, decide_eq_true_eq]; omega
    unfold polar_sides_step_l1
    simp (disch := first | assumption | omega) only [cond_true, Option.bind_some, dcT, wrapS, length_cl, sets_Has_eq i hw32]
    unfold fits
    cases hb : was.testBit i with
    | true => rfl
    | false =>
      simp (disch := first | assumption | omega) only [cond_false, Option.bind_some, Bool.true_and, Bool.not_false, sets_All_eq (show i ≤ 32 by omega), sets_One_eq (show i < 32 by omega), not_u32 hw32 (all_32 (show i ≤ 32 by omega)), or_u32 hd32 (two_pow_32 (show i < 32 by omega)), hup, hdn', sets_All_eq (show i + 1 ≤ 32 by omega), not_u32 ht32 (all_32 (show i + 1 ≤ 32 by omega)), not_u32 hw32 (all_32 (show i + 1 ≤ 32 by omega)), e]
      cases decide (dif (tryAt rs C was i) (2 ^ (i + 1) - 1) = dif was (2 ^ (i + 1) - 1)) <;> rfl) (by
    unfold polar_sides_step_l1
    simp (disch := first | assumption | omega) only [cond_false, dcF, wrapS, length_cl]) (s0 := ((0 : Int), ())) rfl
  rw [find_map (fits rs C was) fun i => (((tryAt rs C was i : Nat) : Int), true, ())] at k
  unfold polar_sides_step
  rw [k]
  cases (List.range rs.length).find? (fits rs C was) <;> rfl
/-- How the closed sets go on behind one. -/
theorem clFrom_next {was : Nat} (hw : was < 2 ^ rs.length) : clFrom rs C (was + 1) = match (List.range rs.length).find? (fits rs C was) with
    | some i => clFrom rs C (tryAt rs C was i)
    | none => [] := by
  cases hf : (List.range rs.length).find? (fits rs C was) with
  | some i =>
    have h1 := List.find?_range_eq_some.1 hf
    have hi := List.mem_range.1 h1.2.1
    have hmin : ∀ k, k < i → fits rs C was k = false := fun k hk => by
      have := h1.2.2 k hk
      simpa using this
    obtain ⟨g1, g2, g3⟩ := try_facts hw hi h1.1
    refine clFrom_skip (tryAt rs C was i - (was + 1)) _ _ (by omega) fun x hx1 hx2 hx3 hc => ?_
    have := next_least hw hi h1.1 hmin hx3 hc (by omega)
    omega
  | none =>
    have hno := find_none_all hf
    have : clFrom rs C (was + 1) = clFrom rs C (2 ^ rs.length) := clFrom_skip (2 ^ rs.length - (was + 1)) _ _ (by omega) fun x hx1 hx2 hx3 hc => by
      have := next_none hw hno hx3 hc
      omega
    rw [this, clFrom_end (Nat.le_refl _)]
abbrev Cp := Int × Int × Unit
theorem conc_loop (hf : Fit rs) (hC : C ≤ 16) (hl : rs.length ≤ 16) (z : Int × Unit) : ∀ (n w : Nat) (acc : List Cp), 2 ^ rs.length - w ≤ n → w < 2 ^ rs.length → clo rs C w = w → acc.length ≤ 256 →
    loopM (polar_Concepts_l1 ((cl rs, cl (tab C (colW rs rs.length)), ()), z)) (acc, (w : Int), true, ()) = some (if acc.length + (clFrom rs C w).length > 256 then .inl ([], 1, ()) else .inr (.inl (acc ++ (clFrom rs C w).map (conc rs C), ())))
  | 0, w, acc, hn, hw, _, _ => by omega
  | n + 1, w, acc, hn, hw, hc, ha => by
    rw [clFrom_step hw, if_pos hc]
    by_cases h256 : acc.length = 256
    · have : polar_Concepts_l1 ((cl rs, cl (tab C (colW rs rs.length)), ()), z) (acc, (w : Int), true, ()) = some (.inr (.inl ([], 1, ()))) := by
        unfold polar_Concepts_l1
        simp only [cond_true, beqT (show (acc.length : Int) = 256 by omega)]
      rw [loopM_inr this, if_pos (by rw [List.length_cons]; omega)]
    · have key : polar_Concepts_l1 ((cl rs, cl (tab C (colW rs rs.length)), ()), z) (acc, (w : Int), true, ()) = some (.inl (match (List.range rs.length).find? (fits rs C w) with
          | some i => (acc ++ [conc rs C w], ((tryAt rs C w i : Nat) : Int), true, ())
          | none => (acc ++ [conc rs C w], 0, false, ()))) := by
        unfold polar_Concepts_l1
        have r1 : roomOk (acc.length + (0 + 1)) 8 = true := room_ok (by omega) (by omega)
        simp only [cond_true, beqF (show ¬ (acc.length : Int) = 256 by omega), cond_false, sides_up_eq (C := C) hf hC hw hl, Option.bind_some, List.length_cons, List.length_nil, r1, Bool.and_true, step_eq (C := C) hf hC hl hw]
        cases (List.range rs.length).find? (fits rs C w) <;> rfl
      rw [loopM_inl key, clFrom_next hw]
      cases hfd : (List.range rs.length).find? (fits rs C w) with
      | some i =>
        have h1 := List.find?_range_eq_some.1 hfd
        obtain ⟨g1, g2, g3⟩ := try_facts hw (List.mem_range.1 h1.2.1) h1.1
        rw [conc_loop hf hC hl z n _ _ (by omega) g2 g3 (by rw [List.length_append]; simp; omega)]
        simp only [List.length_append, List.length_cons, List.length_nil, List.map_cons, List.append_assoc, List.singleton_append]
        rw [show acc.length + (0 + 1) + (clFrom rs C (tryAt rs C w i)).length = acc.length + ((clFrom rs C (tryAt rs C w i)).length + 1) from by omega]
      | none =>
        have : polar_Concepts_l1 ((cl rs, cl (tab C (colW rs rs.length)), ()), z) (acc ++ [conc rs C w], 0, false, ()) = some (.inr (.inr (.inl (acc ++ [conc rs C w], ())))) := by
          unfold polar_Concepts_l1
          simp only [cond_false]
        simp only
        rw [loopM_inr this, if_neg (by simp; omega)]
        rfl
/-- The document's loop. -/
theorem rconc_loop (hf : Fit rs) (hC : C ≤ 16) (hl : rs.length ≤ 16) (M : Nat) : ∀ (n w : Nat) (acc : List Cp), 2 ^ rs.length - w ≤ n → w ≤ 2 ^ rs.length → acc.length ≤ M + 1 → M ≤ 1000 →
    ∃ r : List Cp, loopM (ref_PolarConcepts_l1 ((cl rs, (C : Int), ()), (M : Int), ())) (acc, (w : Int), ()) = some (.inl (r, ())) ∧ (acc.length + (clFrom rs C w).length ≤ M → r = acc ++ (clFrom rs C w).map (conc rs C)) ∧ (acc.length + (clFrom rs C w).length > M → r.length > M) := by
  have h16 : 2 ^ rs.length ≤ 65536 := Nat.pow_le_pow_right (n := 2) (by decide) hl
  have hsh : shlI .u32 (1 : Int) (IntKind.u64.wrap (rs.length : Int)) = ((2 ^ rs.length : Nat) : Int) := by
    rw [wrap_u64 (show rs.length < 2 ^ 64 by omega), shl_u32 (show rs.length < 32 by omega)]
  have hneg : decide ((IntKind.u64.wrap (rs.length : Int)) < 0) = false := by rw [wrap_u64 (show rs.length < 2 ^ 64 by omega)]; exact dcF (by omega)
  have hstop : ∀ (acc : List Cp) (w : Nat), ¬ w < 2 ^ rs.length → ref_PolarConcepts_l1 ((cl rs, (C : Int), ()), (M : Int), ()) (acc, (w : Int), ()) = some (.inr (.inl (acc, ()))) := fun acc w hw => by
    unfold ref_PolarConcepts_l1
    simp only [cl_length, hneg, cond_false, hsh, dcF (show ¬ (w : Int) < ((2 ^ rs.length : Nat) : Int) by omega)]
  have hfull : ∀ (acc : List Cp) (w : Nat), w < 2 ^ rs.length → acc.length > M → ref_PolarConcepts_l1 ((cl rs, (C : Int), ()), (M : Int), ()) (acc, (w : Int), ()) = some (.inr (.inl (acc, ()))) := fun acc w hw ha => by
    unfold ref_PolarConcepts_l1
    simp only [cl_length, hneg, cond_false, hsh, dcT (show (w : Int) < ((2 ^ rs.length : Nat) : Int) by omega), cond_true, dcF (show ¬ (acc.length : Int) ≤ (M : Int) by omega)]
  intro n
  induction n with
  | zero =>
    intro w acc hn hw ha hM
    refine ⟨acc, loopM_inr (hstop acc w (by omega)), ?_, ?_⟩
    · intro _; rw [clFrom_end (by omega)]; simp
    · rw [clFrom_end (by omega)]; simp
  | succ n ih =>
    intro w acc hn hw ha hM
    by_cases hw2 : w < 2 ^ rs.length
    · by_cases hfl : acc.length > M
      · refine ⟨acc, loopM_inr (hfull acc w hw2 hfl), fun h => by omega, fun _ => hfl⟩
      · have hw32 : w < 2 ^ 32 := Nat.lt_of_lt_of_le hw2 (Nat.pow_le_pow_right (by decide) (by omega))
        have e : (((clo rs C w : Nat) : Int) == (w : Int)) = decide (clo rs C w = w) := by
          rw [Bool.eq_iff_iff, beq_iff_eq, decide_eq_true_eq]; omega
        have hdn : ref_PolarDown ((cl rs, (C : Int), ()), ((upW rs C w : Nat) : Int), ()) = some (((clo rs C w : Nat) : Int), ()) := ref_PolarDown_eq (C := C) hf hl (upW_lt hC w)
        have hwr : IntKind.u32.wrap ((w : Int) + 1) = ((w + 1 : Nat) : Int) := by
          have := wrap_u32 (show w + 1 < 2 ^ 32 by omega)
          rw [← this]; rfl
        have r1 : roomOk (acc.length + (0 + 1)) 8 = true := room_ok (by omega) (by omega)
        have key : ref_PolarConcepts_l1 ((cl rs, (C : Int), ()), (M : Int), ()) (acc, (w : Int), ()) = some (.inl (if clo rs C w = w then (acc ++ [conc rs C w], ((w + 1 : Nat) : Int), ()) else (acc, ((w + 1 : Nat) : Int), ()))) := by
          unfold ref_PolarConcepts_l1
          simp only [cl_length, hneg, cond_false, hsh, dcT (show (w : Int) < ((2 ^ rs.length : Nat) : Int) by omega), cond_true, dcT (show (acc.length : Int) ≤ (M : Int) by omega), ref_PolarUp_eq hf hl hC hw32, hdn, Option.bind_some, e, hwr, List.length_cons, List.length_nil, r1, Bool.and_true]
          by_cases h : clo rs C w = w
          · simp only [h, decide_true, cond_true, if_true]; rfl
          · simp only [h, decide_false, cond_false, if_false]
        rw [loopM_inl key, clFrom_step hw2]
        by_cases h : clo rs C w = w
        · rw [if_pos h, if_pos h]
          obtain ⟨r, r1, r2, r3⟩ := ih (w + 1) (acc ++ [conc rs C w]) (by omega) (by omega) (by rw [List.length_append]; simp; omega) hM
          rw [List.length_append, List.length_cons, List.length_nil] at r2 r3
          refine ⟨r, r1, fun g => ?_, fun g => ?_⟩
          · rw [List.length_cons] at g
            rw [r2 (by omega)]; simp
          · rw [List.length_cons] at g
            exact r3 (by omega)
        · rw [if_neg h, if_neg h]
          exact ih (w + 1) acc (by omega) (by omega) ha hM
    · exact ⟨acc, loopM_inr (hstop acc w hw2), fun _ => by rw [clFrom_end (by omega)]; simp, fun h => by rw [clFrom_end (by omega)] at h; simpa using h⟩
end
end

section
open Go Go.Abs


/-! The concepts, whole. -/
section
variable {rs : List Nat} {C : Nat}
theorem cmp_u32 (v w : Int) : cmp_Compare_uint32 (v, w, ()) = some (if v < w then -1 else if v > w then 1 else 0, ()) := by
  unfold cmp_Compare_uint32 cmp_isNaN_uint32
  have h : ∀ a : Int, (a != a) = false := fun a => bneF rfl
  simp only [Option.bind_some, h, cond_false]
  by_cases h1 : v < w
  · simp [h1]
  · by_cases h2 : v > w
    · simp [h1, h2]
    · simp [h1, h2]
theorem conc_sorted {l : List Nat} (hup : l.Pairwise (· < ·)) : sortP (fun a b => (polar_Concepts_c1 (a, b, ())).map fun r => r.1) (l.map (conc rs C)) = some (l.map (conc rs C)) := by
  have hc : ∀ a b : Cp, (polar_Concepts_c1 (a, b, ())).map (fun r => r.1) = some (if a.1 < b.1 then -1 else if a.1 > b.1 then 1 else 0) := fun a b => by
    unfold polar_Concepts_c1
    simp only [cmp_u32, Option.bind_some, Option.map_some]
  have hlt : ∀ a b : Cp, ltF (fun a b => (polar_Concepts_c1 (a, b, ())).map fun r => r.1) a b ↔ a.1 < b.1 := fun a b => by
    unfold ltF
    simp only [hc]
    constructor
    · rintro ⟨v, h1, h2⟩
      cases h1
      split at h2
      · assumption
      · split at h2 <;> omega
    · intro h
      exact ⟨-1, by rw [if_pos h], by decide⟩
  refine sortP_eq ⟨fun x _ y _ => ⟨_, hc x y⟩, fun x _ h => by rw [hlt] at h; omega, fun x _ y _ z _ h1 h2 => by rw [hlt] at *; omega, fun x hx y hy h1 h2 => ?_⟩ (List.Perm.refl _) ?_
  · rw [hlt] at h1 h2
    obtain ⟨a, -, rfl⟩ := List.mem_map.1 hx
    obtain ⟨b, -, rfl⟩ := List.mem_map.1 hy
    have h1 : ¬ (a : Int) < (b : Int) := h1
    have h2 : ¬ (b : Int) < (a : Int) := h2
    rw [show a = b from by omega]
  · unfold Srt
    rw [List.pairwise_map]
    refine hup.imp fun {a b} hab h => ?_
    rw [hlt] at h
    have h : (b : Int) < (a : Int) := h
    omega
theorem clFrom_up (w : Nat) : (clFrom rs C w).Pairwise (· < ·) := by
  unfold clFrom
  exact (List.pairwise_lt_range' (s := w) (n := 2 ^ rs.length - w)).filter _
theorem polar_Concepts_eq (hf : Fit rs) (C : Int) : polar_Concepts ((cl rs, C, ()), ()) = some (if polc rs C = 0 then (if (clFrom rs C.toNat 0).length > 256 then ([], 1, ()) else ((clFrom rs C.toNat 0).map (conc rs C.toNat), 0, ())) else ([], polc rs C, ())) := by
  unfold polar_Concepts
  simp only [polar_open_eq hf, Option.bind_some, cond_bne]
  by_cases h : polc rs C = 0
  · obtain ⟨h1, h2, h3, h4⟩ := polc_zero h
    obtain ⟨c, rfl⟩ := Int.eq_ofNat_of_zero_le h2
    have hc : c ≤ 16 := by omega
    have hp : 0 < 2 ^ rs.length := Nat.pow_pos (by decide)
    have hup : polar_sides_up ((cl rs, cl (tab c (colW rs rs.length)), ()), (0 : Int), ()) = some (((upW rs c 0 : Nat) : Int), ()) := sides_up_eq (w := 0) hf hc hp h1
    have hdn : polar_sides_down ((cl rs, cl (tab c (colW rs rs.length)), ()), ((upW rs c 0 : Nat) : Int), ()) = some (((clo rs c 0 : Nat) : Int), ()) := sides_down_eq (C := c) hf hc (wordOf_lt ..) h1
    have hcc : clo rs c (clo rs c 0) = clo rs c 0 := clo_clo _ _ _ fun i hi => by rw [Nat.zero_testBit] at hi; cases hi
    have hfirst : clFrom rs c 0 = clFrom rs c (clo rs c 0) := clFrom_skip (clo rs c 0) 0 _ (by omega) fun x _ hx hx2 hcx => by
      have : clo rs c 0 ≤ x := sub_le rs.length (clo_lt ..) hx2 fun j hj => by
        rw [← hcx]
        exact clo_mono (fun k hk => by rw [Nat.zero_testBit] at hk; cases hk) j hj
      omega
    have key := conc_loop (C := c) hf hc h1 ((0 : Int), ()) (2 ^ rs.length) (clo rs c 0) [] (by omega) (clo_lt ..) hcc (by simp)
    simp only [h, if_true, Int.toNat_natCast, hup, hdn, Option.bind_some, key, List.length_nil, Nat.zero_add, List.nil_append, ← hfirst]
    by_cases hm : (clFrom rs c 0).length > 256
    · simp only [if_pos hm, Sum.elim_inl]
    · simp only [if_neg hm, Sum.elim_inr, Sum.elim_inl]
      rw [room_ok (by rw [List.length_map]; omega) (by rw [List.length_map]; omega)]
      simp only [cond_true, conc_sorted (clFrom_up 0), Option.bind_some]
  · simp only [h, if_false]
end
end

end Go.Proofs.Tryd
