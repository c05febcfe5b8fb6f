/- Lemmas on functions of the program, by name. -/
import Derived.Test.YtammjpalmmhokaaDoorD4Funs
import Derived.Test.YtammjpalmmhokaaDoorAbsSums
namespace Go.Proofs.Tryd
section
open Go Go.Abs


theorem tz_table : ∀ r : Fin 64, getI lit0 (shrI .u64 (IntKind.u64.wrap (((2 ^ r.val : Nat) : Int) * (285870213051353865 : Int))) (58 : Int)) = some (r.val : Int) := by decide +kernel

theorem tz_eq {r q : Nat} (h : 2 ^ r * (2 * q + 1) < 2 ^ 64) : math_bits_TrailingZeros64 (((2 ^ r * (2 * q + 1) : Nat) : Int), ()) = some ((r : Int), ()) := by
  have hr : r < 64 := bit_lt h (by rw [odd_bit]; simp)
  have hp : 0 < 2 ^ r * (2 * q + 1) := Nat.mul_pos (Nat.two_pow_pos r) (by omega)
  unfold math_bits_TrailingZeros64
  have e0 : ((((2 ^ r * (2 * q + 1) : Nat) : Int), ()).1 == (0 : Int)) = false := by
    simp only [beq_eq_false_iff_ne]; omega
  have e1 : IntKind.u64.wrap (0 - ((2 ^ r * (2 * q + 1) : Nat) : Int)) = ((2 ^ 64 - 2 ^ r * (2 * q + 1) : Nat) : Int) := by
    unfold IntKind.wrap; simp only [IntKind.bits, IntKind.signed]
    generalize 2 ^ r * (2 * q + 1) = v at *
    simp; omega
  simp only [e0, cond_false]
  rw [e1, and_u64 h (by omega), low_one h, getS_eq, tab0_eq, tz_table ⟨r, hr⟩]
  simp only [Option.bind_some]
  rw [wrap64 (by omega) (by omega)]

theorem sets_One_eq {i : Nat} (h : i < 32) : sets_One ((i : Int), ()) = some (((2 ^ i : Nat) : Int), ()) := by
  unfold sets_One
  have : decide ((i : Int) < 0) = false := decide_eq_false (by omega)
  simp only [this, cond_false]
  rw [shl_u32 h]

theorem sets_All_eq {n : Nat} (h : n ≤ 32) : sets_All ((n : Int), ()) = some (((2 ^ n - 1 : Nat) : Int), ()) := by
  unfold sets_All
  have : decide ((n : Int) < 0) = false := decide_eq_false (by omega)
  simp only [this, cond_false]
  rw [all_u32 h]
theorem sets_Has_eq {a : Nat} (i : Nat) (h : a < 2 ^ 32) : sets_Has_uint32 ((a : Int), (i : Int), ()) = some (a.testBit i, ()) := by
  unfold sets_Has_uint32
  have : decide ((i : Int) < 0) = false := decide_eq_false (by omega)
  simp only [this, cond_false]
  rw [has_u32 i h]

theorem ref_Bit_eq {a : Nat} {i : Nat} (h : a < 2 ^ 32) (hi : i < 2 ^ 64) : ref_Bit ((a : Int), (i : Int), ()) = some (a.testBit i, ()) := by
  unfold ref_Bit
  have : decide (IntKind.u64.wrap (i : Int) < 0) = false := by rw [wrap_u64 hi]; exact decide_eq_false (by omega)
  simp only [this, cond_false]
  rw [wrap_u64 hi, bit_u32 i h]
/-- The words of an order: each fits. -/
def Fit (ws : List Nat) : Prop := ∀ w ∈ ws, w < 2 ^ 32
/-- Is i below j? -/
def below (ws : List Nat) (i j : Nat) : Bool := (ws.getD i 0).testBit j

theorem below_eq {ws : List Nat} {i j w : Nat} (h : ws[i]? = some w) : below ws i j = w.testBit j := by
  unfold below; rw [List.getD_eq_getElem?_getD, h]; rfl

theorem ref_Below_eq {ws : List Nat} (hf : Fit ws) {N : Int} {i j : Nat} (hi : i < ws.length) (hj : j < 2 ^ 64) : ref_Below ((N, cl ws, ()), (i : Int), (j : Int), ()) = some (below ws i j, ()) := by
  unfold ref_Below
  have e : ws[i]? = some ws[i] := List.getElem?_eq_getElem hi
  simp only [cl_getI, e, Option.map_some, Option.bind_some]
  rw [ref_Bit_eq (hf _ (List.getElem_mem hi)) hj, below_eq e]
  rfl
theorem wf_u32 {x : Int} (h : (Lit.int .u32 x).wf = true) : 0 ≤ x ∧ x < 4294967296 := by
  simp [Lit.wf, IntKind.min, IntKind.max, IntKind.bits, IntKind.signed] at h
  omega
theorem words_of {l : List Int} (h : Wf (.list (.int .u32)) l) : ∃ ws, l = cl ws ∧ Fit ws := by
  obtain ⟨ws, rfl⟩ := cl_of (l := l) fun v hv => (wf_u32 (h.2 v hv)).1
  refine ⟨ws, rfl, fun w hw => ?_⟩
  have := (wf_u32 (h.2 (w : Int) (List.mem_map.2 ⟨w, hw, rfl⟩))).2
  omega

theorem fit_tab {n : Nat} {g : Nat → Nat} (h : ∀ i, i < n → g i < 2 ^ 32) : Fit (tab n g) := fun w hw => by
  obtain ⟨i, hi, rfl⟩ := mem_tab.1 hw
  exact h i hi

theorem below_tab {n : Nat} {g : Nat → Nat} {i : Nat} (hi : i < n) (j : Nat) : below (tab n g) i j = (g i).testBit j := below_eq (tab_get g hi)
end

section
open Go Go.Abs


/-- What an order must be. -/
structure IsOrder (n : Nat) (ws : List Nat) : Prop where
  refl : ∀ i, i < n → below ws i i = true
  anti : ∀ i j, i < n → j < n → i ≠ j → below ws i j = true → below ws j i = false
  trans : ∀ i j k, i < n → j < n → k < n → below ws i j = true → below ws j k = true → below ws i k = true

/-- No word has a bit at n or further up. -/
def Inside (n : Nat) (ws : List Nat) : Prop := ∀ w ∈ ws, ∀ i, n ≤ i → w.testBit i = false

open Classical in
/-- What both checks answer. -/
noncomputable def ordc (N : Int) (ws : List Nat) : Int :=
  if N < 0 then 1 else if N > 16 then 1 else if (ws.length : Int) ≠ N then 2 else if ¬ Inside N.toNat ws then 2 else if IsOrder N.toNat ws then 0 else 3

theorem below_lt {n : Nat} {ws : List Nat} {i j : Nat} (hin : Inside n ws) (hi : i < ws.length) (h : below ws i j = true) : j < n := by
  rw [below_eq (List.getElem?_eq_getElem hi)] at h
  by_cases hj : j < n
  · exact hj
  · rw [hin _ (List.getElem_mem hi) j (by omega)] at h; cases h

theorem all_bit (n i : Nat) : (2 ^ n - 1).testBit i = decide (i < n) := Nat.testBit_two_pow_sub_one n i

theorem dif_all {n w : Nat} : dif w (2 ^ n - 1) = 0 ↔ ∀ i, n ≤ i → w.testBit i = false := by
  rw [dif_zero]
  constructor
  · intro h i hi
    cases hb : w.testBit i
    · rfl
    · have := h i hb; rw [all_bit] at this; simp at this; omega
  · intro h i hb
    rw [all_bit]
    by_cases hi : i < n
    · simpa using hi
    · rw [h i (by omega)] at hb; cases hb

/-- A bit of the order's word that stands in the way of its being one. -/
def badJ (ws : List Nat) (i w : Nat) (j : Nat) : Bool := below ws j i || !decide (dif (ws.getD j 0) w = 0)
def badI (ws : List Nat) (i : Nat) : Bool := !below ws i i || (bitsL (dif (ws.getD i 0) (2 ^ i))).any (badJ ws i (ws.getD i 0))

theorem order_Check_l4_eq {N : Int} {ws : List Nat} (hf : Fit ws) {i w : Nat} (hi : i < 32) (hw : w < 2 ^ 32) (hlen : ∀ j, w.testBit j = true → j < ws.length) (y : (Int × Unit) × Unit) (s : (Int × Unit) × Unit) :
    loopM (order_Check_l4 ((N, cl ws, ()), ()) ((i : Int), y) (w : Int)) (((dif w (2 ^ i) : Nat) : Int), s) =
      some (if (bitsL (dif w (2 ^ i))).any (badJ ws i w) = true then .inl ((3, ()), ()) else .inr (.inl (s.1, ()))) := by
  have hd : dif w (2 ^ i) < 2 ^ 64 := Nat.lt_of_lt_of_le (dif_lt hw) (by decide)
  refine loopM_each (g := fun r s => some (if badJ ws i w r = true then .inr (.inl ((3, ()), ())) else .inl s)) (e := fun s => .inr (.inl (s.1, ()))) hd (fun r q s h hb => ?_) (fun s => ?_) s _
    (eachM_any (badJ ws i w) _ _ _ fun r _ => rfl)
  · rw [dif_bit] at hb
    have hr := hlen r (Bool.and_eq_true_iff.1 hb).1
    have hr64 : r < 64 := bit_lt hd (by rw [dif_bit]; exact hb)
    have e : ws[r]? = some ws[r] := List.getElem?_eq_getElem hr
    have hfr := hf _ (List.getElem_mem hr)
    unfold order_Check_l4
    simp only [nz_eq, cond_true, tz_eq h, Option.bind_some, cl_getI, e, Option.map_some]
    rw [sets_Has_eq i hfr]
    simp only [Option.bind_some]
    rw [not_u32 hfr hw, clr_eq h, show (0 : Int) = ((0 : Nat) : Int) from rfl, cast_bne]
    have e2 : badJ ws i w r = (ws[r].testBit i || !decide (dif ws[r] w = 0)) := by
      unfold badJ; rw [below_eq e, List.getD_eq_getElem?_getD, e]; rfl
    rw [e2]
    cases ws[r].testBit i <;> cases decide (dif ws[r] w = 0) <;> rfl
  · unfold order_Check_l4
    rfl

theorem order_Check_l5_eq {n : Nat} {ws : List Nat} (hf : Fit ws) (hl : ws.length = n) (hn : n ≤ 16) (hin : Inside n ws) :
    loopM (order_Check_l5 (((n : Int), cl ws, ()), ())) (0, ((0 : Int), ()), ()) = some (if (List.range n).any (badI ws) = true then .inl ((3, ()), ()) else .inr (.inl ((0, ()), ()))) := by
  refine loopM_any0 n _ (badI ws) _ _ (fun i hi => ?_) ?_
  · have hi' : i < ws.length := by omega
    have e : ws[i]? = some ws[i] := List.getElem?_eq_getElem hi'
    have hfr := hf _ (List.getElem_mem hi')
    unfold order_Check_l5
    have e0 : decide ((i : Int) < ((cl ws).length : Int)) = true := by rw [cl_length]; exact decide_eq_true (by omega)
    simp only [e0, cond_true, cl_getI, e, Option.map_some, Option.bind_some]
    rw [sets_Has_eq i hfr, sets_One_eq (by omega)]
    simp only [Option.bind_some]
    have hp : 2 ^ i < 2 ^ 32 := Nat.pow_lt_pow_right (by decide) (by omega)
    have hd : dif ws[i] (2 ^ i) < 2 ^ 64 := Nat.lt_of_lt_of_le (dif_lt hfr) (by decide)
    rw [not_u32 hfr hp, wrap_u64 hd, order_Check_l4_eq hf (by omega) hfr (fun j hj => by
      have := below_lt hin hi' (by rw [below_eq e]; exact hj)
      omega)]
    have e2 : badI ws i = (!ws[i].testBit i || (bitsL (dif ws[i] (2 ^ i))).any (badJ ws i ws[i])) := by
      unfold badI; rw [below_eq e, List.getD_eq_getElem?_getD, e]; rfl
    rw [e2, wrap64 (by omega) (by omega)]
    cases ws[i].testBit i <;> cases (bitsL (dif ws[i] (2 ^ i))).any (badJ ws i ws[i]) <;> rfl
  · unfold order_Check_l5
    have e0 : decide ((n : Int) < ((cl ws).length : Int)) = false := by rw [cl_length]; exact decide_eq_false (by omega)
    simp only [e0, cond_false]

theorem badI_iff {n : Nat} {ws : List Nat} (hf : Fit ws) (hl : ws.length = n) (hn : n ≤ 16) (hin : Inside n ws) : (List.range n).any (badI ws) = false ↔ IsOrder n ws := by
  have hget : ∀ i (hi : i < n), ∃ w, ws[i]? = some w ∧ w < 2 ^ 32 := fun i hi => ⟨ws[i], List.getElem?_eq_getElem (by omega), hf _ (List.getElem_mem _)⟩
  rw [List.any_eq_false]
  constructor
  · intro h
    have h1 : ∀ i, i < n → below ws i i = true ∧ ∀ j, j ≠ i → below ws i j = true → below ws j i = false ∧ ∀ k, below ws j k = true → below ws i k = true := by
      intro i hi
      have hb := h i (List.mem_range.2 hi)
      obtain ⟨w, hw, hw32⟩ := hget i hi
      have hgd : ws.getD i 0 = w := by rw [List.getD_eq_getElem?_getD, hw]; rfl
      unfold badI at hb
      rw [hgd] at hb
      simp only [Bool.or_eq_true, not_or, Bool.not_eq_true, Bool.not_eq_false'] at hb
      refine ⟨hb.1, fun j hji hij => ?_⟩
      have hj : j ∈ bitsL (dif w (2 ^ i)) := (mem_bitsL (Nat.lt_of_lt_of_le (dif_lt hw32) (by decide))).2 (by
        rw [dif_bit, ← below_eq hw, hij, Nat.testBit_two_pow]; simp [Ne.symm hji])
      have hb2 := List.any_eq_false.1 hb.2 j hj
      unfold badJ at hb2
      simp only [Bool.or_eq_true, not_or, Bool.not_eq_true, Bool.not_eq_false', decide_eq_true_eq] at hb2
      refine ⟨hb2.1, fun k hk => ?_⟩
      have := dif_zero.1 hb2.2 k hk
      rw [below_eq hw]; exact this
    refine ⟨fun i hi => (h1 i hi).1, fun i j hi _ hne hij => ((h1 i hi).2 j (Ne.symm hne) hij).1, fun i j k hi _ _ hij hjk => ?_⟩
    by_cases e : j = i
    · subst e; exact hjk
    · exact ((h1 i hi).2 j e hij).2 k hjk
  · intro o i hi
    have hi := List.mem_range.1 hi
    obtain ⟨w, hw, hw32⟩ := hget i hi
    have hgd : ws.getD i 0 = w := by rw [List.getD_eq_getElem?_getD, hw]; rfl
    unfold badI
    rw [hgd, o.refl i hi]
    simp only [Bool.not_true, Bool.false_or, Bool.not_eq_true]
    refine List.any_eq_false.2 fun j hj => ?_
    have hb := (mem_bitsL (Nat.lt_of_lt_of_le (dif_lt hw32) (by decide))).1 hj
    rw [dif_bit, Nat.testBit_two_pow, ← below_eq hw] at hb
    have hb2 := Bool.and_eq_true_iff.1 hb
    have hji : i ≠ j := by intro e; subst e; simp at hb2
    have hjn := below_lt hin (by omega) hb2.1
    unfold badJ
    rw [o.anti i j hi hjn hji hb2.1]
    simp only [Bool.false_or, Bool.not_eq_true, Bool.not_eq_false', decide_eq_true_eq]
    refine dif_zero.2 fun k hk => ?_
    have hjk : below ws j k = true := hk
    rw [← below_eq hw]
    exact o.trans i j k hi hjn (below_lt hin (by omega) hjk) hb2.1 hjk
end

section
open Go Go.Abs


theorem order_Check_l1_eq {n : Nat} {ws : List Nat} (hf : Fit ws) (hl : ws.length = n) (hn : n ≤ 16) :
    loopM (order_Check_l1 (((n : Int), cl ws, ()), ())) (0, ()) = some (((List.range n).findSome? fun i => if dif (ws.getD i 0) (2 ^ n - 1) = 0 then none else some (.inl ((i : Int), ()))).getD (.inr (.inl ()))) := by
  refine loopM_find n _ _ _ (fun i hi => ?_) ?_
  · have hi' : i < ws.length := by omega
    have e : ws[i]? = some ws[i] := List.getElem?_eq_getElem hi'
    have hfr := hf _ (List.getElem_mem hi')
    have hgd : ws.getD i 0 = ws[i] := by rw [List.getD_eq_getElem?_getD, e]; rfl
    unfold order_Check_l1
    have e0 : decide ((i : Int) < ((cl ws).length : Int)) = true := by rw [cl_length]; exact decide_eq_true (by omega)
    have hp : 2 ^ n - 1 < 2 ^ 32 := by have : 2 ^ n < 2 ^ 32 := Nat.pow_lt_pow_right (by decide) (by omega); omega
    simp only [e0, cond_true, cl_getI, e, Option.map_some, Option.bind_some, sets_All_eq (show n ≤ 32 by omega), hgd]
    rw [not_u32 hfr hp, show (0 : Int) = ((0 : Nat) : Int) from rfl, cast_bne, wrap64 (by omega) (by omega)]
    by_cases hz : dif ws[i] (2 ^ n - 1) = 0 <;> simp [hz]
  · unfold order_Check_l1
    have e0 : decide ((n : Int) < ((cl ws).length : Int)) = false := by rw [cl_length]; exact decide_eq_false (by omega)
    simp only [e0, cond_false]

theorem findIdx_cases {n : Nat} {ws : List Nat} (hl : ws.length = n) {β : Type} (b : Nat → β) :
    (¬ Inside n ws ∧ ∃ i, i < n ∧ ((List.range n).findSome? fun i => if dif (ws.getD i 0) (2 ^ n - 1) = 0 then none else some (b i)) = some (b i)) ∨
    (Inside n ws ∧ ((List.range n).findSome? fun i => if dif (ws.getD i 0) (2 ^ n - 1) = 0 then none else some (b i)) = none) := by
  cases h : ((List.range n).findSome? fun i => if dif (ws.getD i 0) (2 ^ n - 1) = 0 then none else some (b i)) with
  | some z =>
    left
    obtain ⟨i, hi, hz⟩ := List.exists_of_findSome?_eq_some h
    have hi := List.mem_range.1 hi
    have e : ws[i]? = some ws[i] := List.getElem?_eq_getElem (by omega)
    have hgd : ws.getD i 0 = ws[i] := by rw [List.getD_eq_getElem?_getD, e]; rfl
    by_cases hd : dif (ws.getD i 0) (2 ^ n - 1) = 0
    · rw [if_pos hd] at hz; cases hz
    · rw [if_neg hd] at hz
      exact ⟨fun hin => hd (by rw [hgd]; exact dif_all.2 (hin _ (List.getElem_mem _))), i, hi, hz.symm⟩
  | none =>
    right
    refine ⟨fun w hw => ?_, rfl⟩
    obtain ⟨i, hi, rfl⟩ := List.getElem_of_mem hw
    have hz := List.findSome?_eq_none_iff.1 h i (List.mem_range.2 (by omega))
    have e : ws[i]? = some ws[i] := List.getElem?_eq_getElem hi
    have hgd : ws.getD i 0 = ws[i] := by rw [List.getD_eq_getElem?_getD, e]; rfl
    rw [hgd] at hz
    by_cases hd : dif ws[i] (2 ^ n - 1) = 0
    · exact dif_all.1 hd
    · rw [if_neg hd] at hz; cases hz

theorem order_Check_eq {N : Int} {ws : List Nat} (hf : Fit ws) : order_Check ((N, cl ws, ()), ()) = some (ordc N ws, ()) := by
  unfold order_Check ordc
  by_cases h1 : N < 0
  · simp only [decide_eq_true h1, cond_true, if_pos h1]
  by_cases h2 : N > 16
  · simp only [decide_eq_false h1, cond_false, decide_eq_true h2, cond_true, if_neg h1, if_pos h2]
  simp only [decide_eq_false h1, cond_false, decide_eq_false h2, if_neg h1, if_neg h2, cl_length, cond_bne]
  by_cases h3 : (ws.length : Int) = N
  · obtain ⟨n, rfl⟩ := Int.eq_ofNat_of_zero_le (show 0 ≤ N by omega)
    have hl : ws.length = n := by omega
    rw [if_pos h3, if_neg (show ¬ ¬ (ws.length : Int) = (n : Int) from fun h => h h3), order_Check_l1_eq hf hl (by omega)]
    rcases findIdx_cases hl (β := (Int × Unit) ⊕ Unit ⊕ Empty) (fun i => .inl ((i : Int), ())) with ⟨hin, i, hi, hz⟩ | ⟨hin, hz⟩
    · rw [hz]
      have e0 : decide ((i : Int) ≥ 0) = true := decide_eq_true (by omega)
      simp only [Option.getD_some, Option.bind_some, Sum.elim_inl, e0, cond_true]
      rw [if_pos (by simpa using hin)]
    · rw [hz]
      have e0 : decide ((-1 : Int) ≥ 0) = false := by decide
      simp only [Option.getD_none, Option.bind_some, Sum.elim_inl, Sum.elim_inr, e0, cond_false]
      rw [order_Check_l5_eq hf hl (by omega) hin, if_neg (show ¬ ¬ Inside (n : Int).toNat ws from fun h => h hin)]
      have hb := badI_iff hf hl (by omega) hin
      by_cases hany : (List.range n).any (badI ws) = true
      · have : ¬ IsOrder (n : Int).toNat ws := fun o => by rw [hb.2 o] at hany; cases hany
        rw [if_pos hany, if_neg this]; rfl
      · have : IsOrder (n : Int).toNat ws := hb.1 (by simpa using hany)
        rw [if_neg hany, if_pos this]; rfl
  · rw [if_neg h3, if_pos h3]

/-! The reference. -/
theorem any_range'_iff {a k : Nat} {bad : Nat → Bool} : (List.range' a k).any bad = true ↔ ∃ i, a ≤ i ∧ i < a + k ∧ bad i = true := by
  rw [List.any_eq_true]
  constructor
  · rintro ⟨i, hi, hb⟩
    rw [List.mem_range'_1] at hi
    exact ⟨i, hi.1, hi.2, hb⟩
  · rintro ⟨i, h1, h2, hb⟩
    exact ⟨i, List.mem_range'_1.2 ⟨h1, h2⟩, hb⟩

theorem ref_Outside_eq {w n : Nat} (hw : w < 2 ^ 32) (hn : n ≤ 32) : ref_Outside ((w : Int), (n : Int), ()) = some ((List.range' n (32 - n)).any (w.testBit ·), ()) := by
  unfold ref_Outside
  rw [loopM_any n 32 () (w.testBit ·) (.inl (true, ())) (.inr (.inl ())) hn (fun i _ hi => ?_) ?_]
  · cases (List.range' n (32 - n)).any (w.testBit ·) <;> rfl
  · unfold ref_Outside_l1
    rfl
  · unfold ref_Outside_l1
    have e0 : decide ((i : Int) < 32) = true := decide_eq_true (by omega)
    simp only [e0, cond_true]
    rw [ref_Bit_eq hw (by omega), wrap64 (by omega) (by omega)]
    cases w.testBit i <;> rfl

theorem outside_iff {w n : Nat} (hw : w < 2 ^ 32) : (List.range' n (32 - n)).any (w.testBit ·) = false ↔ ∀ i, n ≤ i → w.testBit i = false := by
  rw [← Bool.not_eq_true, any_range'_iff]
  constructor
  · intro h i hi
    cases hb : w.testBit i
    · rfl
    · exact absurd ⟨i, hi, by have := bit_lt hw hb; omega, hb⟩ h
  · rintro h ⟨i, h1, _, h3⟩
    rw [h i h1] at h3; cases h3

/-- What stands in the way at three numbers. -/
def badK (ws : List Nat) (i j k : Nat) : Bool := below ws i j && (below ws j k && !below ws i k)
def badIJ (n : Nat) (ws : List Nat) (i j : Nat) : Bool := (if i = j then !below ws i i else below ws i j && below ws j i) || (List.range n).any (badK ws i j)

theorem ref_l2_eq {n : Nat} {ws : List Nat} (hf : Fit ws) (hl : ws.length = n) (hn : n ≤ 16) {i j : Nat} (hi : i < n) (hj : j < n) :
    loopM (ref_OrderCheck_l2 (((n : Int), cl ws, ()), ()) ((i : Int), ()) ((j : Int), ())) (0, ()) = some (if (List.range n).any (badK ws i j) = true then .inl (3, ()) else .inr (.inl ())) := by
  refine loopM_any0 n _ _ _ _ (fun k hk => ?_) ?_
  · unfold ref_OrderCheck_l2
    have e0 : decide ((k : Int) < (n : Int)) = true := decide_eq_true (by omega)
    simp only [e0, cond_true]
    rw [ref_Below_eq hf (by omega) (by omega), ref_Below_eq hf (by omega) (by omega), ref_Below_eq hf (by omega) (by omega), wrap64 (by omega) (by omega)]
    unfold badK
    cases below ws i j <;> cases below ws j k <;> cases below ws i k <;> rfl
  · unfold ref_OrderCheck_l2
    have e0 : decide ((n : Int) < (n : Int)) = false := decide_eq_false (by omega)
    simp only [e0, cond_false]
theorem ref_l3_same : ref_OrderCheck_l3 = ref_OrderCheck_l2 := rfl
theorem ref_l4_same : ref_OrderCheck_l4 = ref_OrderCheck_l2 := rfl
theorem ref_l5_same : ref_OrderCheck_l5 = ref_OrderCheck_l2 := rfl
theorem ref_l6_same : ref_OrderCheck_l6 = ref_OrderCheck_l2 := rfl
theorem ref_l7_same : ref_OrderCheck_l7 = ref_OrderCheck_l2 := rfl

theorem ref_l8_eq {n : Nat} {ws : List Nat} (hf : Fit ws) (hl : ws.length = n) (hn : n ≤ 16) {i : Nat} (hi : i < n) :
    loopM (ref_OrderCheck_l8 (((n : Int), cl ws, ()), ()) ((i : Int), ())) (0, ()) = some (if (List.range n).any (badIJ n ws i) = true then .inl (3, ()) else .inr (.inl ())) := by
  refine loopM_any0 n _ _ _ _ (fun j hj => ?_) ?_
  · unfold ref_OrderCheck_l8
    rw [ref_l3_same, ref_l4_same, ref_l5_same, ref_l6_same, ref_l7_same]
    have e0 : decide ((j : Int) < (n : Int)) = true := decide_eq_true (by omega)
    simp only [e0, cond_true]
    rw [ref_l2_eq hf hl hn hi hj, ref_Below_eq hf (by omega) (by omega), ref_Below_eq hf (by omega) (by omega), ref_Below_eq hf (by omega) (by omega), wrap64 (by omega) (by omega), cond_beq, cond_bne]
    simp only [Option.bind_some]
    unfold badIJ
    by_cases hij : i = j
    · subst hij
      simp only [if_true]
      cases below ws i i <;> cases (List.range n).any (badK ws i i) <;> rfl
    · have : ¬ (i : Int) = (j : Int) := by omega
      simp only [this, hij, if_false]
      cases below ws i j <;> cases below ws j i <;> cases (List.range n).any (badK ws i j) <;> rfl
  · unfold ref_OrderCheck_l8
    have e0 : decide ((n : Int) < (n : Int)) = false := decide_eq_false (by omega)
    simp only [e0, cond_false]

theorem ref_l9_eq {n : Nat} {ws : List Nat} (hf : Fit ws) (hl : ws.length = n) (hn : n ≤ 16) :
    loopM (ref_OrderCheck_l9 (((n : Int), cl ws, ()), ())) (0, ()) = some (if (List.range n).any (fun i => (List.range n).any (badIJ n ws i)) = true then .inl (3, ()) else .inr (.inl ())) := by
  refine loopM_any0 n _ _ _ _ (fun i hi => ?_) ?_
  · unfold ref_OrderCheck_l9
    have e0 : decide ((i : Int) < (n : Int)) = true := decide_eq_true (by omega)
    simp only [e0, cond_true]
    rw [ref_l8_eq hf hl hn hi, wrap64 (by omega) (by omega)]
    cases (List.range n).any (badIJ n ws i) <;> rfl
  · unfold ref_OrderCheck_l9
    have e0 : decide ((n : Int) < (n : Int)) = false := decide_eq_false (by omega)
    simp only [e0, cond_false]

theorem badIJ_iff {n : Nat} {ws : List Nat} : (List.range n).any (fun i => (List.range n).any (badIJ n ws i)) = false ↔ IsOrder n ws := by
  have hb : ∀ i j, badIJ n ws i j = false ↔ (if i = j then below ws i i = true else (below ws i j = true → below ws j i = false)) ∧ ∀ k, k < n → below ws i j = true → below ws j k = true → below ws i k = true := by
    intro i j
    unfold badIJ
    rw [Bool.or_eq_false_iff, List.any_eq_false]
    refine and_congr ?_ ?_
    · by_cases h : i = j
      · simp [h]
      · simp only [h, if_false]; cases below ws i j <;> cases below ws j i <;> simp
    · constructor
      · intro h k hk h1 h2
        have := h k (List.mem_range.2 hk)
        unfold badK at this
        rw [h1, h2] at this
        simpa using this
      · intro h k hk
        unfold badK
        have := h k (List.mem_range.1 hk)
        cases h1 : below ws i j <;> cases h2 : below ws j k <;> simp_all
  rw [List.any_eq_false]
  constructor
  · intro h
    have h' : ∀ i j, i < n → j < n → badIJ n ws i j = false := fun i j hi hj => by
      have := List.any_eq_false.1 (by simpa using h i (List.mem_range.2 hi)) j (List.mem_range.2 hj)
      simpa using this
    refine ⟨fun i hi => ?_, fun i j hi hj hij h1 => ?_, fun i j k hi hj hk => ((hb i j).1 (h' i j hi hj)).2 k hk⟩
    · simpa using ((hb i i).1 (h' i i hi hi)).1
    · have := ((hb i j).1 (h' i j hi hj)).1
      rw [if_neg hij] at this
      exact this h1
  · intro o i hi
    have hi := List.mem_range.1 hi
    rw [Bool.not_eq_true, List.any_eq_false]
    intro j hj
    have hj := List.mem_range.1 hj
    rw [Bool.not_eq_true, hb]
    refine ⟨?_, fun k hk => o.trans i j k hi hj hk⟩
    by_cases h : i = j
    · subst h; simpa using o.refl i hi
    · rw [if_neg h]; exact o.anti i j hi hj h

theorem ref_l1_eq {n : Nat} {ws : List Nat} (hf : Fit ws) (hl : ws.length = n) (hn : n ≤ 16) :
    loopM (ref_OrderCheck_l1 (((n : Int), cl ws, ()), ())) (0, ()) = some (if (List.range n).any (fun i => (List.range' n (32 - n)).any ((ws.getD i 0).testBit ·)) = true then .inl (2, ()) else .inr (.inl ())) := by
  refine loopM_any0 n _ _ _ _ (fun i hi => ?_) ?_
  · unfold ref_OrderCheck_l1
    have e : ws[i]? = some ws[i] := List.getElem?_eq_getElem (by omega)
    have hgd : ws.getD i 0 = ws[i] := by rw [List.getD_eq_getElem?_getD, e]; rfl
    have e0 : decide ((i : Int) < (n : Int)) = true := decide_eq_true (by omega)
    simp only [e0, cond_true, cl_getI, e, Option.map_some, Option.bind_some, hgd]
    rw [ref_Outside_eq (hf _ (List.getElem_mem _)) (by omega), wrap64 (by omega) (by omega)]
    simp only [Option.bind_some]
    cases (List.range' n (32 - n)).any (ws[i].testBit ·) <;> rfl
  · unfold ref_OrderCheck_l1
    have e0 : decide ((n : Int) < (n : Int)) = false := decide_eq_false (by omega)
    simp only [e0, cond_false]

theorem inside_any {n : Nat} {ws : List Nat} (hf : Fit ws) (hl : ws.length = n) : (List.range n).any (fun i => (List.range' n (32 - n)).any ((ws.getD i 0).testBit ·)) = false ↔ Inside n ws := by
  rw [List.any_eq_false]
  constructor
  · intro h w hw
    obtain ⟨i, hi, rfl⟩ := List.getElem_of_mem hw
    have e : ws[i]? = some ws[i] := List.getElem?_eq_getElem hi
    have hgd : ws.getD i 0 = ws[i] := by rw [List.getD_eq_getElem?_getD, e]; rfl
    have := h i (List.mem_range.2 (by omega))
    rw [Bool.not_eq_true, hgd] at this
    exact (outside_iff (hf _ (List.getElem_mem _))).1 this
  · intro hin i hi
    have hi := List.mem_range.1 hi
    have e : ws[i]? = some ws[i] := List.getElem?_eq_getElem (by omega)
    have hgd : ws.getD i 0 = ws[i] := by rw [List.getD_eq_getElem?_getD, e]; rfl
    rw [Bool.not_eq_true, hgd]
    exact (outside_iff (hf _ (List.getElem_mem _))).2 (hin _ (List.getElem_mem _))

theorem ref_OrderCheck_eq {N : Int} {ws : List Nat} (hf : Fit ws) : ref_OrderCheck ((N, cl ws, ()), ()) = some (ordc N ws, ()) := by
  unfold ref_OrderCheck ordc
  by_cases h1 : N < 0
  · simp only [decide_eq_true h1, cond_true, if_pos h1]
  by_cases h2 : N > 16
  · simp only [decide_eq_false h1, cond_false, decide_eq_true h2, cond_true, if_neg h1, if_pos h2]
  simp only [decide_eq_false h1, cond_false, decide_eq_false h2, if_neg h1, if_neg h2, cl_length, cond_bne]
  by_cases h3 : (ws.length : Int) = N
  · obtain ⟨n, rfl⟩ := Int.eq_ofNat_of_zero_le (show 0 ≤ N by omega)
    have hl : ws.length = n := by omega
    rw [if_pos h3, if_neg (show ¬ ¬ (ws.length : Int) = (n : Int) from fun h => h h3), ref_l1_eq hf hl (by omega), ref_l9_eq hf hl (by omega)]
    have hi := inside_any hf hl
    have hb := badIJ_iff (n := n) (ws := ws)
    by_cases hin : Inside n ws
    · rw [hi.2 hin, if_neg (show ¬ ¬ Inside (n : Int).toNat ws by simpa using hin)]
      by_cases ho : IsOrder n ws
      · rw [hb.2 ho, if_pos (show IsOrder (n : Int).toNat ws from ho)]; rfl
      · have : (List.range n).any (fun i => (List.range n).any (badIJ n ws i)) = true := by
          cases h : (List.range n).any (fun i => (List.range n).any (badIJ n ws i))
          · exact absurd (hb.1 h) ho
          · rfl
        rw [this, if_neg (show ¬ IsOrder (n : Int).toNat ws from ho)]; rfl
    · have : (List.range n).any (fun i => (List.range' n (32 - n)).any ((ws.getD i 0).testBit ·)) = true := by
        cases h : (List.range n).any (fun i => (List.range' n (32 - n)).any ((ws.getD i 0).testBit ·))
        · exact absurd (hi.1 h) hin
        · rfl
      rw [this, if_pos (show ¬ Inside (n : Int).toNat ws from hin)]; rfl
  · rw [if_neg h3, if_pos h3]

/-- What a good order is. -/
theorem ordc_zero {N : Int} {ws : List Nat} (h : ordc N ws = 0) : 0 ≤ N ∧ N ≤ 16 ∧ (ws.length : Int) = N ∧ Inside N.toNat ws ∧ IsOrder N.toNat ws := by
  unfold ordc at h
  by_cases h1 : N < 0
  · rw [if_pos h1] at h; cases h
  rw [if_neg h1] at h
  by_cases h2 : N > 16
  · rw [if_pos h2] at h; cases h
  rw [if_neg h2] at h
  by_cases h3 : (ws.length : Int) = N
  · rw [if_neg (fun k => k h3)] at h
    by_cases h4 : Inside N.toNat ws
    · rw [if_neg (fun k => k h4)] at h
      by_cases h5 : IsOrder N.toNat ws
      · exact ⟨by omega, by omega, h3, h4, h5⟩
      · rw [if_neg h5] at h; cases h
    · rw [if_pos h4] at h; cases h
  · rw [if_pos h3] at h; cases h
end

section
open Go Go.Abs


theorem fitD {ws : List Nat} (hf : Fit ws) (i : Nat) : ws.getD i 0 < 2 ^ 32 := by
  rw [List.getD_eq_getElem?_getD]
  by_cases h : i < ws.length
  · rw [List.getElem?_eq_getElem h]; exact hf _ (List.getElem_mem h)
  · rw [List.getElem?_eq_none (by omega)]; decide
theorem fitD64 {ws : List Nat} (hf : Fit ws) (i : Nat) : ws.getD i 0 < 2 ^ 64 := lt_64 (fitD hf i)
theorem insideD {n : Nat} {ws : List Nat} (hin : Inside n ws) {i j : Nat} (h : (ws.getD i 0).testBit j = true) : j < n := by
  by_cases hi : i < ws.length
  · exact below_lt hin hi h
  · rw [List.getD_eq_getElem?_getD, List.getElem?_eq_none (by omega)] at h; simp at h
theorem has_D {ws : List Nat} (hf : Fit ws) (i j : Nat) : sets_Has_uint32 (((ws.getD i 0 : Nat) : Int), (j : Int), ()) = some (below ws i j, ()) := sets_Has_eq j (fitD hf i)
theorem all_succ (k : Nat) (p : Nat → Bool) : (List.range (k + 1)).all p = ((List.range k).all p && p k) := by simp [List.range_succ]
theorem any_succ (k : Nat) (p : Nat → Bool) : (List.range (k + 1)).any p = ((List.range k).any p || p k) := by simp [List.range_succ]
theorem if_lt_succ {α : Type} (i k : Nat) (p : Bool) (x y : α) : (if (decide (i < k + 1) && p) = true then x else y) = if i = k then (if p = true then x else y) else (if (decide (i < k) && p) = true then x else y) := by
  by_cases h : i = k
  · subst h; simp
  · have : decide (i < k + 1) = decide (i < k) := by simp; omega
    rw [this, if_neg h]
/-- A word's bits, each put into the table's place that it names. -/
theorem or_into {f : Int × List Int × Unit → Option ((Int × List Int × Unit) ⊕ ((List Int × Unit) ⊕ Empty))} {n : Nat} {w m : Nat} (hw : w < 2 ^ 32) (hin : ∀ j, w.testBit j = true → j < n) (hm : m < 2 ^ 32) {g : Nat → Nat} (hg : ∀ j, j < n → g j < 2 ^ 32)
    (h : ∀ r q (l : List Nat), 2 ^ r * (2 * q + 1) < 2 ^ 64 → r < l.length → r < n → l.getD r 0 < 2 ^ 32 → f (((2 ^ r * (2 * q + 1) : Nat) : Int), cl l, ()) = some (.inl (((2 ^ r * (2 * q) : Nat) : Int), (cl l).set r (((l.getD r 0) ||| m : Nat) : Int), ())))
    (hend : ∀ l, f (0, l, ()) = some (.inr (.inl (l, ())))) :
    loopM f ((w : Int), cl (tab n g), ()) = some (.inl (cl (tab n fun j => if w.testBit j = true then g j ||| m else g j), ())) := by
  have key := loopM_bits (f := f) (v := w) 32 (fun k => (cl (tab n fun j => if (decide (j < k) && w.testBit j) = true then g j ||| m else g j), ())) (.inl (cl (tab n fun j => if w.testBit j = true then g j ||| m else g j), ())) hw (by decide) (fun r q h1 h2 h3 => ?_) (fun r _ h2 => ?_) ?_
  · simpa using key
  · have hr := hin r h2
    rw [h r q _ h1 (by rw [length_tab]; exact hr) hr (by rw [getD_tab hr]; simpa using hg r hr), getD_tab hr, cl_set, tab_set]
    congr 5
    refine tab_congr fun j _ => ?_
    rw [if_lt_succ]
    by_cases e : j = r
    · subst e; simp [h2]
    · simp [e]
  · refine congrArg (fun x => (cl x, ())) (tab_congr fun j _ => ?_)
    rw [if_lt_succ]
    by_cases e : j = r
    · subst e; simp [h2]
    · simp [e]
  · rw [hend]
    refine congrArg (fun x => some (Sum.inr (Sum.inl (cl x, ())))) (tab_congr fun j _ => ?_)
    cases h : w.testBit j
    · simp
    · have := bit_lt hw h; simp [this]
theorem u32_nat {x : Int} (h : (Lit.int .u32 x).wf = true) : ∃ n : Nat, x = (n : Int) ∧ n < 2 ^ 32 := by
  have h1 := wf_u32 h
  exact ⟨x.toNat, by omega, by omega⟩
end

section
open Go Go.Abs


/-- Has a map n numbers, from 0 to below m? -/
def IntoB (n m : Nat) (f : List Int) : Bool := decide (f.length = n) && f.all fun v => decide (0 ≤ v) && decide (v < m)
/-- Is what is below mapped below? -/
def MonoB (n : Nat) (ws : List Nat) (f : List Nat) : Bool := (List.range n).all fun a => (List.range n).all fun b => !below ws a b || below ws (f.getD a 0) (f.getD b 0)

theorem into_nat {n m : Nat} {f : List Int} (h : IntoB n m f = true) : ∃ fs : List Nat, f = cl fs ∧ fs.length = n ∧ ∀ i, i < n → fs.getD i 0 < m := by
  unfold IntoB at h
  rw [Bool.and_eq_true, decide_eq_true_eq, List.all_eq_true] at h
  obtain ⟨fs, rfl⟩ := cl_of (l := f) fun v hv => by
    have := h.2 v hv
    rw [Bool.and_eq_true, decide_eq_true_eq] at this
    exact this.1
  rw [cl_length] at h
  refine ⟨fs, rfl, h.1, fun i hi => ?_⟩
  have hm : ((fs.getD i 0 : Nat) : Int) ∈ cl fs := List.mem_of_getElem? (i := i) (by rw [get_cl (by omega)])
  have := h.2 _ hm
  rw [Bool.and_eq_true, decide_eq_true_eq, decide_eq_true_eq] at this
  omega

theorem any_list {α : Type} [Inhabited α] (l : List α) (p : α → Bool) (d : α) : (List.range l.length).any (fun i => p (l.getD i d)) = l.any p := by
  rw [Bool.eq_iff_iff, List.any_eq_true, List.any_eq_true]
  constructor
  · rintro ⟨i, hi, h⟩
    have := getD_get (d := d) (List.mem_range.1 hi)
    exact ⟨_, List.mem_of_getElem? this, h⟩
  · rintro ⟨x, hx, h⟩
    obtain ⟨i, hi, rfl⟩ := List.getElem_of_mem hx
    refine ⟨i, List.mem_range.2 hi, ?_⟩
    rw [List.getD_eq_getElem?_getD, List.getElem?_eq_getElem hi]
    exact h

theorem bad_all (m : Nat) (f : List Int) : (f.any fun v => decide (v < 0) || decide (v ≥ (m : Int))) = !(f.all fun v => decide (0 ≤ v) && decide (v < m)) := by
  induction f with
  | nil => rfl
  | cons v f ih =>
    rw [List.any_cons, List.all_cons, ih, Bool.not_and, Bool.not_and]
    have e1 : decide (v < 0) = !decide (0 ≤ v) := by
      by_cases h : 0 ≤ v
      · rw [decide_eq_true h, decide_eq_false (by omega)]; rfl
      · rw [decide_eq_false h, decide_eq_true (by omega)]; rfl
    have e2 : decide (v ≥ (m : Int)) = !decide (v < (m : Int)) := by
      by_cases h : v < (m : Int)
      · rw [decide_eq_true h, decide_eq_false (by omega)]; rfl
      · rw [decide_eq_false h, decide_eq_true (by omega)]; rfl
    rw [e1, e2]

/-- What both checks answer of an order that may be. -/
def monoc (n : Nat) (ws : List Nat) (f : List Int) : Int := cond (IntoB n n f) (cond (MonoB n ws (f.map Int.toNat)) 0 3) 2

theorem map_cl (fs : List Nat) : (cl fs).map Int.toNat = fs := by
  unfold cl; rw [List.map_map]
  exact List.map_id'' (fun n => rfl) fs

theorem mono_any (n : Nat) (ws fs : List Nat) : ((List.range n).any fun a => (List.range n).any fun b => below ws a b && !below ws (fs.getD a 0) (fs.getD b 0)) = !MonoB n ws fs := by
  unfold MonoB
  rw [List.not_all_eq_any_not]
  refine congrArg (fun p => (List.range n).any p) (funext fun a => ?_)
  rw [List.not_all_eq_any_not]
  refine congrArg (fun p => (List.range n).any p) (funext fun b => ?_)
  cases below ws a b <;> cases below ws (fs.getD a 0) (fs.getD b 0) <;> rfl

/-- What the program's check answers. -/
noncomputable def fixc (N : Int) (ws : List Nat) (f : List Int) : Int := if ordc N ws = 0 then monoc N.toNat ws f else ordc N ws
theorem fixc_zero {N : Int} {ws : List Nat} {f : List Int} (h : fixc N ws f = 0) : ordc N ws = 0 ∧ IntoB N.toNat N.toNat f = true ∧ MonoB N.toNat ws (f.map Int.toNat) = true := by
  unfold fixc at h
  by_cases h0 : ordc N ws = 0
  · rw [if_pos h0] at h
    unfold monoc at h
    cases h1 : IntoB N.toNat N.toNat f
    · rw [h1] at h; cases h
    · cases h2 : MonoB N.toNat ws (f.map Int.toNat)
      · rw [h1, h2] at h; cases h
      · exact ⟨h0, rfl, rfl⟩
  · rw [if_neg h0] at h; exact absurd h h0
end

section
open Go Go.Abs


/-- For each element those below it. -/
def downW (n : Nat) (ws : List Nat) : List Nat := tab n fun j => wordOf n fun i => below ws i j

theorem order_Down_l1_eq {n : Nat} (hn : n ≤ 16) {w i : Nat} (hw : w < 2 ^ 32) (hin : ∀ j, w.testBit j = true → j < n) (hi : i < 32) (y : List Int × Unit) (g : Nat → Nat) (hg : ∀ j, j < n → g j < 2 ^ 32) :
    loopM (order_Down_l1 ((i : Int), y)) ((w : Int), cl (tab n g), ()) = some (.inl (cl (tab n fun j => if w.testBit j = true then g j ||| 2 ^ i else g j), ())) := by
  have hw64 : w < 2 ^ 64 := Nat.lt_of_lt_of_le hw (by decide)
  have hp : 2 ^ i < 2 ^ 32 := Nat.pow_lt_pow_right (by decide) hi
  have hsim := eachM_sim (e := fun s => (.inl (s.1, ()) : (List Int × Unit) ⊕ Empty)) (g := fun r (s : List Int × Unit) => (s.1[r]?).map fun v => (.inl (s.1.set r (bitsI .or .u32 v ((2 ^ i : Nat) : Int)), ()) : (List Int × Unit) ⊕ ((List Int × Unit) ⊕ Empty)))
    (fun g : Nat → Nat => (cl (tab n g), ())) (fun g r => fun j => if j = r then g j ||| 2 ^ i else g j) (fun g => ∀ j, j < n → g j < 2 ^ 32) (bitsL w) g hg (fun r hr g hg => by
      have hr := hin r ((mem_bitsL hw64).1 hr)
      refine ⟨?_, fun j hj => ?_⟩
      · simp only [cl_get, tab_get g hr, Option.map_some]
        rw [or_u32 (hg r hr) hp, cl_set, tab_set]
        have : tab n (fun j => if j = r then g r ||| 2 ^ i else g j) = tab n (fun j => if j = r then g j ||| 2 ^ i else g j) := tab_congr fun j _ => by
          by_cases h : j = r
          · subst h; rfl
          · simp [h]
        rw [this]
      · dsimp only
        split
        · exact Nat.or_lt_two_pow (hg j hj) hp
        · exact hg j hj)
  have hloop := loopM_each (f := order_Down_l1 ((i : Int), y)) hw64 (fun r q s h hb => ?_) (fun s => ?_) _ _ hsim.1
  · rw [hloop]
    have : tab n (List.foldl (fun g r j => if j = r then g j ||| 2 ^ i else g j) g (bitsL w)) = tab n fun j => if w.testBit j = true then g j ||| 2 ^ i else g j := tab_congr fun j _ => by
      rw [foldl_or_at]
      simp only [mem_bitsL hw64]
    rw [← this]
  · have hr := hin r hb
    unfold order_Down_l1
    simp only [nz_eq, cond_true, tz_eq h, Option.bind_some, sets_One_eq hi, inB_nat, clr_eq h, Int.toNat_natCast]
    cases hv : s.1[r]? with
    | none =>
      have : decide (r < s.1.length) = false := by
        rw [List.getElem?_eq_none_iff] at hv; exact decide_eq_false (by omega)
      simp [this]
    | some v =>
      have : decide (r < s.1.length) = true := by
        have := (List.getElem?_eq_some_iff.1 hv).1; exact decide_eq_true this
      simp [this]
  · unfold order_Down_l1
    rfl

theorem order_Down_eq {n : Nat} {ws : List Nat} (hf : Fit ws) (hl : ws.length = n) (hn : n ≤ 16) (hin : Inside n ws) : order_Down (((n : Int), cl ws, ()), ()) = some (cl (downW n ws), ()) := by
  have hloop : loopM (order_Down_l2 (((n : Int), cl ws, ()), ())) (0, (fun k => (cl (tab n fun j => wordOf k fun i => below ws i j), ())) 0) = some (.inl (cl (downW n ws), ())) := by
    refine loopM_up n (fun k => (cl (tab n fun j => wordOf k fun i => below ws i j), ())) _ (fun i hi => ?_) ?_
    · have hi' : i < ws.length := by omega
      have e : ws[i]? = some ws[i] := List.getElem?_eq_getElem hi'
      have hfr := hf _ (List.getElem_mem hi')
      have e0 : decide ((i : Int) < ((cl ws).length : Int)) = true := by rw [cl_length]; exact decide_eq_true (by omega)
      unfold order_Down_l2
      simp only [e0, cond_true, cl_getI, e, Option.map_some, Option.bind_some]
      rw [wrap_u64 (Nat.lt_of_lt_of_le hfr (by decide)), order_Down_l1_eq hn hfr (fun j hj => below_lt hin hi' (by rw [below_eq e]; exact hj)) (by omega) _ _ (fun j _ => wordOf_lt32 _ (by omega)), wrap64 (by omega) (by omega)]
      simp only [Option.bind_some, Sum.elim_inl]
      have : tab n (fun j => if ws[i].testBit j = true then (wordOf i fun i => below ws i j) ||| 2 ^ i else wordOf i fun i => below ws i j) = tab n fun j => wordOf (i + 1) fun i => below ws i j := tab_congr fun j _ => by
        rw [wordOf, below_eq e]
      rw [this]; rfl
    · have e0 : decide ((n : Int) < ((cl ws).length : Int)) = false := by rw [cl_length]; exact decide_eq_false (by omega)
      unfold order_Down_l2
      simp only [e0, cond_false]
      rfl
  unfold order_Down
  have c1 : (decide (0 ≤ (n : Int)) && decide ((n : Int) ≤ (n : Int)) && roomOk n 4 && decide ((n : Int) ≤ 9223372036854775807) && true && true) = true := by
    rw [room4 (by omega)]
    simp; omega
  simp only [Int.toNat_natCast, c1, cond_true]
  have e1 : List.replicate n (0 : Int) = cl (tab n fun j => wordOf 0 fun i => below ws i j) := by
    rw [cl_rep, rep_tab]; rfl
  rw [e1]
  have hloop' : loopM (order_Down_l2 (((n : Int), cl ws, ()), ())) (0, cl (tab n fun j => wordOf 0 fun i => below ws i j), ()) = some (.inl (cl (downW n ws), ())) := hloop
  rw [hloop']
  rfl

theorem ref_OrderDual_eq {n : Nat} {ws : List Nat} (hf : Fit ws) (hl : ws.length = n) (hn : n ≤ 16) : ref_OrderDual (((n : Int), cl ws, ()), ()) = some (((n : Int), cl (downW n ws), ()), ()) := by
  have h1 : ∀ (i : Nat) (y : List Int × (Int × Unit) × Unit), i < n → loopM (ref_OrderDual_l1 (((n : Int), cl ws, ()), ()) ((i : Int), y)) (0, 0, ()) = some (.inl (((wordOf n fun j => below ws j i : Nat) : Int), ())) := by
    intro i y hi
    refine loopM_fold' n (fun k => ((wordOf k fun j => below ws j i : Nat) : Int)) _ (fun j hj => ?_) ?_
    · unfold ref_OrderDual_l1
      have e0 : decide ((j : Int) < (n : Int)) = true := decide_eq_true (by omega)
      have e3 : decide (IntKind.u64.wrap (j : Int) < 0) = false := by rw [wrap_u64 (by omega)]; exact decide_eq_false (by omega)
      simp only [e0, cond_true]
      rw [ref_Below_eq hf (by omega) (by omega), wrap64 (by omega) (by omega)]
      simp only [Option.bind_some, e3, cond_false]
      rw [wrap_u64 (by omega), shl_u32 (by omega), or_u32 (wordOf_lt32 _ (by omega)) (Nat.pow_lt_pow_right (by decide) (by omega)), wordOf]
      cases below ws j i <;> rfl
    · unfold ref_OrderDual_l1
      have e0 : decide ((n : Int) < (n : Int)) = false := decide_eq_false (by omega)
      simp only [e0, cond_false]
  have h2 : loopM (ref_OrderDual_l2 (((n : Int), cl ws, ()), ())) (0, (fun k => (cl (tab k fun i => wordOf n fun j => below ws j i), ((n : Int), ()), ())) 0) = some (.inl (cl (downW n ws), ((n : Int), ()), ())) := by
    refine loopM_up n (fun k => (cl (tab k fun i => wordOf n fun j => below ws j i), ((n : Int), ()), ())) _ (fun i hi => ?_) ?_
    · unfold ref_OrderDual_l2
      have e0 : decide ((i : Int) < (n : Int)) = true := decide_eq_true (by omega)
      simp only [e0, cond_true]
      rw [h1 i _ hi, wrap64 (by omega) (by omega)]
      simp only [Option.bind_some, Sum.elim_inl, cl_length, tab_length, List.length_singleton]
      rw [room4 (by omega), tab_succ, ← cl_app]
      rfl
    · unfold ref_OrderDual_l2
      have e0 : decide ((n : Int) < (n : Int)) = false := decide_eq_false (by omega)
      simp only [e0, cond_false]
      rfl
  unfold ref_OrderDual
  have h3 : loopM (ref_OrderDual_l2 (((n : Int), cl ws, ()), ())) (0, [], ((n : Int), ()), ()) = some (.inl (cl (downW n ws), ((n : Int), ()), ())) := h2
  simp only [h3, Option.bind_some, Sum.elim_inl]
end

section
open Go Go.Abs


theorem downW_bit {n : Nat} {ws : List Nat} {i : Nat} (hi : i < n) (j : Nat) : ((downW n ws).getD i 0).testBit j = (decide (j < n) && below ws j i) := by
  unfold downW; rw [getD_tab hi, wordOf_bit]
theorem fit_downW {n : Nat} {ws : List Nat} (hn : n ≤ 16) : Fit (downW n ws) := fit_tab fun i _ => wordOf_lt32 _ (by omega)
theorem below_down {n : Nat} {ws : List Nat} {i j : Nat} (hi : i < n) (hj : j < n) : below (downW n ws) i j = below ws j i := by
  unfold below; rw [downW_bit hi, decide_eq_true hj, Bool.true_and]; rfl
theorem inside_down {n : Nat} {ws : List Nat} : Inside n (downW n ws) := fun w hw i hi => by
  obtain ⟨j, hj, rfl⟩ := mem_tab.1 hw
  rw [wordOf_bit, decide_eq_false (by omega)]; rfl
theorem length_down {n : Nat} {ws : List Nat} : (downW n ws).length = n := tab_length ..
theorem order_down {n : Nat} {ws : List Nat} (o : IsOrder n ws) : IsOrder n (downW n ws) where
  refl i hi := by rw [below_down hi hi]; exact o.refl i hi
  anti i j hi hj hne h := by
    rw [below_down hi hj] at h
    rw [below_down hj hi]
    exact o.anti j i hj hi (Ne.symm hne) h
  trans i j k hi hj hk h1 h2 := by
    rw [below_down hi hj] at h1
    rw [below_down hj hk] at h2
    rw [below_down hi hk]
    exact o.trans k j i hk hj hi h2 h1
theorem order_anti {n : Nat} {ws : List Nat} (o : IsOrder n ws) {i j : Nat} (hi : i < n) (hj : j < n) (h1 : below ws i j = true) (h2 : below ws j i = true) : i = j :=
  Classical.byContradiction fun hne => by rw [o.anti i j hi hj hne h1] at h2; cases h2
end

section
open Go Go.Abs


/-- A square table, row by row. -/
def sq {α : Type} (n : Nat) (G : Nat → Nat → α) : List α := tab (n * n) fun p => G (p / n) (p % n)
theorem sq_length {α : Type} (n : Nat) (G : Nat → Nat → α) : (sq n G).length = n * n := tab_length ..
theorem idx_lt {a b n : Nat} (ha : a < n) (hb : b < n) : a * n + b < n * n := by
  have : (a + 1) * n ≤ n * n := Nat.mul_le_mul_right n ha
  rw [Nat.succ_mul] at this; omega
theorem idx_div {a b n : Nat} (hb : b < n) : (a * n + b) / n = a := by
  rw [Nat.mul_comm, Nat.mul_add_div (by omega), Nat.div_eq_of_lt hb]; rfl
theorem idx_mod {a b n : Nat} (hb : b < n) : (a * n + b) % n = b := by
  rw [Nat.mul_comm, Nat.mul_add_mod, Nat.mod_eq_of_lt hb]
theorem idx_of {p n : Nat} (hp : p < n * n) : p / n < n ∧ p % n < n ∧ p / n * n + p % n = p := by
  have hn : 0 < n := Nat.pos_of_ne_zero fun h => by rw [h] at hp; simp at hp
  exact ⟨Nat.div_lt_of_lt_mul hp, Nat.mod_lt _ hn, Nat.div_add_mod' p n⟩
theorem sq_le {n : Nat} (hn : n ≤ 16) : n * n ≤ 256 := Nat.mul_le_mul hn hn
theorem idx_wrap {a b n : Nat} (ha : a < n) (hb : b < n) (hn : n ≤ 16) : IntKind.i64.wrap (IntKind.i64.wrap ((a : Int) * (n : Int)) + (b : Int)) = ((a * n + b : Nat) : Int) := by
  have h1 := idx_lt ha hb
  have h2 := sq_le hn
  have e : (a : Int) * (n : Int) = ((a * n : Nat) : Int) := by simp
  rw [e, wrap64 (x := ((a * n : Nat) : Int)) (by omega) (by omega), wrap64 (by omega) (by omega)]; rfl
theorem sq_wrap {n : Nat} (hn : n ≤ 16) : IntKind.i64.wrap ((n : Int) * (n : Int)) = ((n * n : Nat) : Int) := by
  have h2 := sq_le hn
  have e : (n : Int) * (n : Int) = ((n * n : Nat) : Int) := by simp
  rw [e, wrap64 (by omega) (by omega)]
theorem sq_get {α : Type} {n a b : Nat} (G : Nat → Nat → α) (ha : a < n) (hb : b < n) : (sq n G)[a * n + b]? = some (G a b) := by
  unfold sq; rw [tab_get _ (idx_lt ha hb), idx_div hb, idx_mod hb]
theorem sq_getI {α : Type} {n a b : Nat} (G : Nat → Nat → α) (ha : a < n) (hb : b < n) : getI (sq n G) ((a * n + b : Nat) : Int) = some (G a b) := by rw [getI_nat, sq_get G ha hb]
theorem sq_congr {α : Type} {n : Nat} {G G' : Nat → Nat → α} (h : ∀ a b, a < n → b < n → G a b = G' a b) : sq n G = sq n G' :=
  tab_congr fun p hp => h _ _ (idx_of hp).1 (idx_of hp).2.1
theorem sq_set {α : Type} {n a b : Nat} (G : Nat → Nat → α) (ha : a < n) (hb : b < n) (v : α) : (sq n G).set (a * n + b) v = sq n fun a' b' => if a' = a ∧ b' = b then v else G a' b' := by
  unfold sq
  rw [tab_set]
  refine tab_congr fun p hp => ?_
  have h := idx_of hp
  by_cases e : p = a * n + b
  · subst e; rw [if_pos rfl, idx_div hb, idx_mod hb]; exact (if_pos ⟨rfl, rfl⟩).symm
  · rw [if_neg e]; refine (if_neg ?_).symm
    rintro ⟨h1, h2⟩
    rw [h1, h2] at h; exact e h.2.2.symm
theorem rep_sq {α : Type} (n : Nat) (v : α) : List.replicate (n * n) v = sq n fun _ _ => v := rep_tab ..
theorem idx_inB {a b n : Nat} (ha : a < n) (hb : b < n) : inB ((a * n + b : Nat) : Int) (n * n) = true := inB_T (idx_lt ha hb)
/-- A square table that is built entry by entry. -/
def sqTo {α : Type} (n : Nat) (G : Nat → Nat → α) (k : Nat) : List α := tab k fun p => G (p / n) (p % n)
theorem sqTo_length {α : Type} (n k : Nat) (G : Nat → Nat → α) : (sqTo n G k).length = k := tab_length ..
theorem sqTo_succ {α : Type} {n a b : Nat} (G : Nat → Nat → α) (hb : b < n) : sqTo n G (a * n + b) ++ [G a b] = sqTo n G (a * n + (b + 1)) := by
  unfold sqTo
  rw [← Nat.add_assoc, tab_succ, idx_div hb, idx_mod hb]
theorem sqTo_row {α : Type} {n a : Nat} (G : Nat → Nat → α) : sqTo n G (a * n + n) = sqTo n G ((a + 1) * n + 0) := by
  rw [Nat.succ_mul]; rfl
/-- A list of n times n, as a square. -/
theorem list_sq {n : Nat} {f : List Int} (h : f.length = n * n) : f = sq n fun a b => f.getD (a * n + b) 0 := by
  apply List.ext_getElem?
  intro p
  by_cases hp : p < n * n
  · unfold sq
    rw [tab_get _ hp]
    dsimp only
    rw [(idx_of hp).2.2, getD_get (by omega)]
  · rw [List.getElem?_eq_none (by omega), List.getElem?_eq_none (by rw [sq_length]; omega)]
theorem word_lt {n : Nat} {ws : List Nat} (hin : Inside n ws) (i : Nat) : ws.getD i 0 < 2 ^ n :=
  Nat.lt_pow_two_of_testBit _ fun j hj => by
    cases h : (ws.getD i 0).testBit j
    · rfl
    · have := insideD hin h; omega
/-- A word's bits: each place of a row that they name is turned. -/
theorem into_row {α : Type} {f : Int × List α × Unit → Option ((Int × List α × Unit) ⊕ ((List α × Unit) ⊕ Empty))} {n w a : Nat} (hw : w < 2 ^ 32) (hin : ∀ j, w.testBit j = true → j < n) (ha : a < n) (H : Nat → α → α) (G : Nat → Nat → α)
    (h : ∀ r q (G' : Nat → Nat → α), 2 ^ r * (2 * q + 1) < 2 ^ 64 → w.testBit r = true → r < n → G' a r = G a r → (∀ a' b', a' ≠ a → G' a' b' = G a' b') → f (((2 ^ r * (2 * q + 1) : Nat) : Int), sq n G', ()) = some (.inl (((2 ^ r * (2 * q) : Nat) : Int), (sq n G').set (a * n + r) (H r (G a r)), ())))
    (hend : ∀ l, f (0, l, ()) = some (.inr (.inl (l, ())))) :
    loopM f ((w : Int), sq n G, ()) = some (.inl (sq n fun a' b' => if a' = a ∧ w.testBit b' = true then H b' (G a' b') else G a' b', ())) := by
  have step : ∀ k a' b', (if a' = a ∧ (decide (b' < k + 1) && w.testBit b') = true then H b' (G a' b') else G a' b') = if a' = a ∧ b' = k then (if w.testBit k = true then H k (G a k) else G a k) else if a' = a ∧ (decide (b' < k) && w.testBit b') = true then H b' (G a' b') else G a' b' := fun k a' b' => by
    by_cases h1 : a' = a
    · subst h1
      by_cases h : b' = k
      · subst h; simp
      · have : decide (b' < k + 1) = decide (b' < k) := by simp; omega
        rw [this, if_neg (show ¬ (a' = a' ∧ b' = k) from fun x => h x.2)]
    · simp [h1]
  have key := loopM_bits (f := f) (v := w) 32 (fun k => (sq n fun a' b' => if a' = a ∧ (decide (b' < k) && w.testBit b') = true then H b' (G a' b') else G a' b', ())) (.inl (sq n fun a' b' => if a' = a ∧ w.testBit b' = true then H b' (G a' b') else G a' b', ())) hw (by decide) (fun r q h1 h2 h3 => ?_) (fun r _ h2 => ?_) ?_
  · simpa using key
  · have hr := hin r h2
    rw [h r q _ h1 h2 hr (by simp) (fun a' b' hne => by simp [hne]), sq_set _ ha hr]
    refine congrArg (fun x => some (Sum.inl (_, x, ()))) (sq_congr fun a' b' _ _ => ?_)
    rw [step, h2, if_pos rfl]
  · refine congrArg (fun x => (x, ())) (sq_congr fun a' b' _ _ => ?_)
    rw [step, h2]
    by_cases h1 : a' = a ∧ b' = r
    · rw [if_pos h1, h1.1, h1.2, h2]; simp
    · rw [if_neg h1]
  · rw [hend]
    refine congrArg (fun x => some (Sum.inr (Sum.inl (x, ())))) (sq_congr fun a' b' _ _ => ?_)
    cases h : w.testBit b'
    · simp
    · have := bit_lt hw h; simp [this]
end

section
open Go Go.Abs


theorem find_congr {α : Type} {p q : α → Bool} : ∀ {l : List α}, (∀ x ∈ l, p x = q x) → l.find? p = l.find? q
  | [], _ => rfl
  | a :: l, h => by rw [List.find?_cons, List.find?_cons, h a (List.mem_cons_self ..), find_congr fun x hx => h x (List.mem_cons_of_mem _ hx)]
theorem findSome_if' {β : Type} (p : Nat → Bool) (b : Nat → β) : ∀ (l : List Nat), (l.findSome? fun r => cond (p r) (some (b r)) none) = (l.find? p).map b
  | [] => rfl
  | a :: l => by
    rw [List.findSome?_cons, List.find?_cons, findSome_if' p b l]
    cases p a <;> rfl
theorem fsome_congr {β : Type} {f g : Nat → Option β} : ∀ {l : List Nat}, (∀ x ∈ l, f x = g x) → l.findSome? f = l.findSome? g
  | [], _ => rfl
  | a :: l, h => by
    rw [List.findSome?_cons, List.findSome?_cons, h a (List.mem_cons_self ..), fsome_congr fun x hx => h x (List.mem_cons_of_mem _ hx)]
theorem find_range {n i : Nat} {p : Nat → Bool} (h : (List.range n).find? p = some i) : i < n ∧ p i = true := ⟨List.mem_range.1 (List.mem_of_find?_eq_some h), List.find?_some h⟩
theorem word_lt' {n : Nat} {w : Nat} (h : ∀ j, w.testBit j = true → j < n) : w < 2 ^ n :=
  Nat.lt_pow_two_of_testBit _ fun j hj => by
    cases hb : w.testBit j
    · rfl
    · have := h j hb; omega

/-- A place that may be missing, as the program tells it. -/
def orNo : Option Nat → Int
  | some i => (i : Int)
  | none => -1
/-- The least common upper bound. -/
def lubAt (n : Nat) (ws : List Nat) (a b x : Nat) : Bool := (below ws a x && below ws b x) && (List.range n).all fun y => !(below ws a y && below ws b y) || below ws x y
def lub (n : Nat) (ws : List Nat) (a b : Nat) : Option Nat := (List.range n).find? (lubAt n ws a b)
def bestOf (n : Nat) (set : Nat) (rs : List Nat) : Option Nat := (List.range n).find? fun i => set.testBit i && decide (dif set (rs.getD i 0) = 0)

theorem lattice_best_eq {n : Nat} {rs : List Nat} (hf : Fit rs) (hl : rs.length = n) (hn : n ≤ 16) {set : Nat} (hs : set < 2 ^ n) : lattice_best ((set : Int), cl rs, ()) = some (orNo (bestOf n set rs), ()) := by
  have h32 : set < 2 ^ 32 := Nat.lt_of_lt_of_le hs (Nat.pow_le_pow_right (by decide) (by omega))
  have key := loopM_bitsStop (f := lattice_best_l1 ((set : Int), cl rs, ())) n (fun _ => (((0 : Int), ()), ())) (fun r => cond (decide (dif set (rs.getD r 0) = 0)) (some (.inl (((r : Int), ()), ()))) none) (.inr (.inl ((0, ()), ()))) hs (by omega) (fun r q h1 h2 h3 => by
    have e : (((dif set (rs.getD r 0) : Nat) : Int) == 0) = decide (dif set (rs.getD r 0) = 0) := by rw [Bool.eq_iff_iff, beq_iff_eq, decide_eq_true_eq]; omega
    unfold lattice_best_l1
    simp (disch := first | assumption | omega) only [cond_true, Option.bind_some, getI_cl, nz_eq, tz_eq h1, clr_eq h1, not_u32 h32 (fitD hf r), e]
    cases decide (dif set (rs.getD r 0) = 0) <;> rfl) (fun _ _ _ => rfl) rfl
  have e : ((List.range n).findSome? fun r => if set.testBit r = true then cond (decide (dif set (rs.getD r 0) = 0)) (some (Sum.inl (((r : Int), ()), ()))) none else none) =
      (bestOf n set rs).map fun r : Nat => ((Sum.inl (((r : Int), ()), ())) : ((Int × Unit) × Unit) ⊕ (((Int × Unit) × Unit) ⊕ Empty)) := by
    unfold bestOf
    rw [← findSome_if']
    refine fsome_congr fun r hr => ?_
    cases set.testBit r <;> rfl
  unfold lattice_best
  rw [e] at key
  simp (disch := first | assumption | omega) only [Option.bind_some, wrap_u64 (lt_64 h32), key]
  cases bestOf n set rs <;> rfl

theorem best_lub {n : Nat} {ws : List Nat} (hin : Inside n ws) {a b : Nat} : bestOf n (ws.getD a 0 &&& ws.getD b 0) ws = lub n ws a b := by
  refine find_congr fun x hx => ?_
  unfold lubAt
  rw [Nat.testBit_and]
  have e : decide (dif (ws.getD a 0 &&& ws.getD b 0) (ws.getD x 0) = 0) = (List.range n).all fun y => !(below ws a y && below ws b y) || below ws x y := ?_
  · rw [e]; rfl
  rw [Bool.eq_iff_iff, decide_eq_true_eq, dif_zero, List.all_eq_true]
  constructor
  · intro h y hy
    cases h1 : below ws a y
    · rfl
    · cases h2 : below ws b y
      · rfl
      · have := h y (by rw [Nat.testBit_and]; unfold below at h1 h2; rw [h1, h2]; rfl)
        unfold below; rw [this]; rfl
  · intro h y hy
    rw [Nat.testBit_and, Bool.and_eq_true] at hy
    have := h y (List.mem_range.2 (insideD hin hy.1))
    unfold below at this
    rw [hy.1, hy.2] at this
    simpa using this

theorem ref_join_eq {n : Nat} {ws : List Nat} (hf : Fit ws) (hl : ws.length = n) (hn : n ≤ 16) {a b : Nat} (ha : a < n) (hb : b < n) : ref_join (((n : Int), cl ws, ()), (a : Int), (b : Int), ()) = some (orNo (lub n ws a b), ()) := by
  have l1 : ∀ (x : Nat) (c : Bool), x < n → loopM (ref_join_l1 (((n : Int), cl ws, ()), (a : Int), (b : Int), ()) ((x : Int), ())) (c, 0, ()) = some (.inl (c && (List.range n).all fun y => !(below ws a y && below ws b y) || below ws x y, ())) := fun x c hx => by
    refine loopM_sim (f := ref_join_l1 (((n : Int), cl ws, ()), (a : Int), (b : Int), ()) ((x : Int), ())) n (fun k => (c && (List.range k).all fun y => !(below ws a y && below ws b y) || below ws x y, (k : Int), ())) _ (fun y hy => ?_) ?_ (by simp)
    · unfold ref_join_l1
      simp (disch := first | assumption | omega) only [cond_true, Option.bind_some, dcT, wrapS, ref_Below_eq hf (show a < ws.length by omega) (show y < 2 ^ 64 by omega), ref_Below_eq hf (show b < ws.length by omega) (show y < 2 ^ 64 by omega), ref_Below_eq hf (show x < ws.length by omega) (show y < 2 ^ 64 by omega), all_succ]
      cases below ws a y <;> cases below ws b y <;> cases below ws x y <;> simp
    · unfold ref_join_l1
      simp (disch := first | assumption | omega) only [cond_false, dcF, wrapS]
  have l2 : ref_join_l2 = ref_join_l1 := rfl
  have key := loopM_stop (f := ref_join_l3 (((n : Int), cl ws, ()), (a : Int), (b : Int), ())) n (fun k => ((k : Int), ())) (fun x => cond (lubAt n ws a b x) (some (.inl ((x : Int), ()))) none) (.inr (.inl ())) (fun x hx => by
    unfold ref_join_l3
    rw [l2]
    simp (disch := first | assumption | omega) only [cond_true, Option.bind_some, Sum.elim_inl, dcT, wrapS, ref_Below_eq hf (show a < ws.length by omega) (show x < 2 ^ 64 by omega), ref_Below_eq hf (show b < ws.length by omega) (show x < 2 ^ 64 by omega), l1 x _ hx]
    unfold lubAt
    cases below ws a x
    · rfl
    · cases below ws b x
      · rfl
      · cases (List.range n).all fun y => !(below ws a y && below ws b y) || below ws x y <;> rfl) (by
    unfold ref_join_l3
    simp (disch := first | assumption | omega) only [cond_false, dcF, wrapS])
  rw [findSome_if'] at key
  unfold ref_join lub
  rw [show ((0 : Int), ()) = (((0 : Nat) : Int), ()) from rfl, key]
  cases (List.range n).find? (lubAt n ws a b) <;> rfl

/-- Joins and meets as tables; which pairs lack one. -/
def joinT (n : Nat) (ws : List Nat) (a b : Nat) : Int := orNo (lub n ws a b)
def meetT (n : Nat) (ws : List Nat) (a b : Nat) : Int := orNo (lub n (downW n ws) a b)
def lacks (n : Nat) (ws : List Nat) (a b : Nat) : Bool := decide (joinT n ws a b < 0) || decide (meetT n ws a b < 0)
/-- Is an order a lattice? -/
def latB (n : Nat) (ws : List Nat) : Bool := (List.range n).all fun a => (List.range n).all fun b => !lacks n ws a b

theorem rows_find {β : Type} (n : Nat) (bad : Nat → Nat → Bool) (V : Nat → Nat → β) :
    ((List.range n).all (fun a => (List.range n).all fun b => !bad a b) = true ∧ ((List.range n).findSome? fun a => (List.range n).findSome? fun b => cond (bad a b) (some (V a b)) none) = none) ∨
    ((List.range n).all (fun a => (List.range n).all fun b => !bad a b) = false ∧ ∃ a b, ((List.range n).findSome? fun a => (List.range n).findSome? fun b => cond (bad a b) (some (V a b)) none) = some (V a b)) := by
  cases h : (List.range n).findSome? fun a => (List.range n).findSome? fun b => cond (bad a b) (some (V a b)) none with
  | none =>
    left
    refine ⟨?_, rfl⟩
    rw [List.all_eq_true]
    intro a ha
    rw [List.all_eq_true]
    intro b hb
    have := List.findSome?_eq_none_iff.1 (List.findSome?_eq_none_iff.1 h a ha) b hb
    cases hb : bad a b
    · rfl
    · rw [hb] at this; cases this
  | some v =>
    right
    obtain ⟨a, ha, h1⟩ := List.exists_of_findSome?_eq_some h
    obtain ⟨b, hb, h2⟩ := List.exists_of_findSome?_eq_some h1
    cases hbad : bad a b
    · rw [hbad] at h2; cases h2
    · rw [hbad] at h2
      have hv : V a b = v := Option.some.inj h2
      refine ⟨?_, a, b, by rw [hv]⟩
      rw [← Bool.not_eq_true, List.all_eq_true]
      intro hall
      have := List.all_eq_true.1 (hall a ha) b hb
      rw [hbad] at this; cases this

/-- The joins of all up to k, from the first on. -/
def topTo (n : Nat) (ws : List Nat) : Nat → Nat
  | 0 => 0
  | k + 1 => (lub n ws (topTo n ws k) k).getD 0
theorem lub_spec {n : Nat} {ws : List Nat} {a b x : Nat} (h : lub n ws a b = some x) : x < n ∧ below ws a x = true ∧ below ws b x = true ∧ ∀ y, y < n → below ws a y = true → below ws b y = true → below ws x y = true := by
  obtain ⟨h1, h2⟩ := find_range h
  unfold lubAt at h2
  rw [Bool.and_eq_true, Bool.and_eq_true, List.all_eq_true] at h2
  refine ⟨h1, h2.1.1, h2.1.2, fun y hy h3 h4 => ?_⟩
  have := h2.2 y (List.mem_range.2 hy)
  rw [h3, h4] at this
  simpa using this
theorem topTo_spec {n : Nat} {ws : List Nat} (o : IsOrder n ws) (hlat : ∀ a b, a < n → b < n → ∃ x, lub n ws a b = some x) (h0 : 0 < n) : ∀ k, k ≤ n → topTo n ws k < n ∧ ∀ j, j < k → below ws j (topTo n ws k) = true
  | 0, _ => ⟨h0, fun j hj => by omega⟩
  | k + 1, hk => by
    obtain ⟨h1, h2⟩ := topTo_spec o hlat h0 k (by omega)
    obtain ⟨x, hx⟩ := hlat (topTo n ws k) k h1 (by omega)
    obtain ⟨h3, h4, h5, -⟩ := lub_spec hx
    have e : topTo n ws (k + 1) = x := by rw [topTo, hx]; rfl
    rw [e]
    refine ⟨h3, fun j hj => ?_⟩
    by_cases h : j = k
    · subst h; exact h5
    · exact o.trans j _ x (by omega) h1 h3 (h2 j (by omega)) h4
/-- The program finds that element at once. -/
theorem best_all {n : Nat} {ws rs : List Nat} (o : IsOrder n ws) (hrs : ∀ i j, i < n → j < n → below rs i j = below ws j i) {t : Nat} (ht : t < n) (hall : ∀ j, j < n → below ws j t = true) : bestOf n (2 ^ n - 1) rs = some t := by
  have hp : ∀ i, i < n → ((2 ^ n - 1).testBit i && decide (dif (2 ^ n - 1) (rs.getD i 0) = 0)) = decide (i = t) := fun i hi => by
    rw [all_bit, decide_eq_true hi, Bool.true_and, Bool.eq_iff_iff, decide_eq_true_eq, decide_eq_true_eq, dif_zero]
    constructor
    · intro h
      have h1 := h t (by rw [all_bit]; simpa using ht)
      have h2 : below rs i t = true := h1
      rw [hrs i t hi ht] at h2
      exact order_anti o hi ht (hall i hi) h2
    · rintro rfl j hj
      rw [all_bit, decide_eq_true_eq] at hj
      have := hrs i j hi hj
      rw [hall j hj] at this
      exact this
  unfold bestOf
  rw [find_congr (q := fun i => decide (i = t)) fun i hi => hp i (List.mem_range.1 hi)]
  cases h : (List.range n).find? fun i => decide (i = t) with
  | none => exact absurd (List.find?_eq_none.1 h t (List.mem_range.2 ht)) (by simp)
  | some j =>
    have := (find_range h).2
    rw [decide_eq_true_eq] at this
    rw [this]

theorem latB_iff {n : Nat} {ws : List Nat} : latB n ws = true ↔ ∀ a b, a < n → b < n → (∃ x, lub n ws a b = some x) ∧ ∃ x, lub n (downW n ws) a b = some x := by
  have hno : ∀ (q : Option Nat), ¬ orNo q < 0 ↔ ∃ x, q = some x := fun q => by
    cases q with
    | none => exact ⟨fun h => absurd (show (-1 : Int) < 0 by decide) h, fun ⟨x, h⟩ => by cases h⟩
    | some i => exact ⟨fun _ => ⟨i, rfl⟩, fun _ h => by have : (i : Int) < 0 := h; omega⟩
  unfold latB
  rw [List.all_eq_true]
  constructor
  · intro h a b ha hb
    have h1 := List.all_eq_true.1 (h a (List.mem_range.2 ha)) b (List.mem_range.2 hb)
    unfold lacks at h1
    rw [Bool.not_eq_true', Bool.or_eq_false_iff, decide_eq_false_iff_not, decide_eq_false_iff_not] at h1
    exact ⟨(hno _).1 h1.1, (hno _).1 h1.2⟩
  · intro h a ha
    rw [List.all_eq_true]
    intro b hb
    obtain ⟨h1, h2⟩ := h a b (List.mem_range.1 ha) (List.mem_range.1 hb)
    unfold lacks
    rw [Bool.not_eq_true', Bool.or_eq_false_iff, decide_eq_false_iff_not, decide_eq_false_iff_not]
    exact ⟨(hno _).2 h1, (hno _).2 h2⟩

/-- What making a lattice answers, and what it makes. -/
noncomputable def latc (N : Int) (ws : List Nat) : Int := if ordc N ws = 0 then cond (decide (N ≠ 0) && latB N.toNat ws) 0 5 else ordc N ws
def latR (n : Nat) (ws : List Nat) : List Int × List Int × Int × Int × Unit := (sq n (joinT n ws), sq n (meetT n ws), ((topTo n (downW n ws) n : Nat) : Int), ((topTo n ws n : Nat) : Int), ())

theorem latc_zero {N : Int} {ws : List Nat} (h : latc N ws = 0) : ordc N ws = 0 ∧ 0 < N ∧ latB N.toNat ws = true := by
  unfold latc at h
  by_cases h0 : ordc N ws = 0
  · rw [if_pos h0] at h
    have := (ordc_zero h0).1
    cases h1 : (decide (N ≠ 0) && latB N.toNat ws)
    · rw [h1] at h; cases h
    · rw [Bool.and_eq_true, decide_eq_true_eq] at h1
      exact ⟨h0, by omega, h1.2⟩
  · rw [if_neg h0] at h; exact absurd h h0

/-- Where the program leaves a row, and with what. -/
abbrev LatT : Type := (Int × List Int × List Int × List Int × Int × Int × Unit)
abbrev LatU : Type := (Int × LatT × List Int × List Int × (Int × List Int × Int × Int × Unit) × Unit)
def latG (n : Nat) (ws : List Nat) (t : Int × List Int × Int × Int × Unit) (a : Nat) : Option LatU :=
  (List.range n).findSome? fun b => cond (lacks n ws a b) (some (5, (0, [], [], [], 0, 0, ()), sqTo n (joinT n ws) (a * n + b), sqTo n (meetT n ws) (a * n + b), t, ())) none

theorem lattice_Of_l1_eq {n : Nat} {ws : List Nat} (hf : Fit ws) (hl : ws.length = n) (hn : n ≤ 16) (hin : Inside n ws) (t : Int × List Int × Int × Int × Unit) {a : Nat} (ha : a < n) (y : LatT × List Int × List Int × (Int × List Int × Int × Int × Unit) × Unit) :
    loopM (lattice_Of_l1 (((n : Int), cl ws, ()), ()) ((a : Int), y) (cl (downW n ws), ())) (0, (0, [], [], [], 0, 0, ()), sqTo n (joinT n ws) (a * n + 0), sqTo n (meetT n ws) (a * n + 0), t, ()) =
      some (exitOr (latG n ws t a) (.inl ((0, [], [], [], 0, 0, ()), sqTo n (joinT n ws) ((a + 1) * n + 0), sqTo n (meetT n ws) ((a + 1) * n + 0), t, ()))) := by
  have hsq := sq_le hn
  have fd : Fit (downW n ws) := fit_downW hn
  have hld : (downW n ws).length = n := length_down
  have wl : ∀ {rs : List Nat}, Inside n rs → ∀ a b, rs.getD a 0 &&& rs.getD b 0 < 2 ^ n := fun hi a b => word_lt' fun j hj => by
    rw [Nat.testBit_and, Bool.and_eq_true] at hj; exact insideD hi hj.1
  refine loopM_exit (f := lattice_Of_l1 (((n : Int), cl ws, ()), ()) ((a : Int), y) (cl (downW n ws), ())) n (fun b => ((b : Int), (0, [], [], [], 0, 0, ()), sqTo n (joinT n ws) (a * n + b), sqTo n (meetT n ws) (a * n + b), t, ())) _ _ (fun b hb => ?_) ?_ rfl
  · have := idx_lt ha hb
    unfold lattice_Of_l1
    simp (disch := first | assumption | omega) only [cond_true, Option.bind_some, dcT, getI_cl, get_cl, inB_T, Int.toNat_natCast, wrapS, length_cl, List.length_cons, List.length_nil, room8, Bool.and_self, and_u32 (fitD hf a) (fitD hf b), and_u32 (fitD fd a) (fitD fd b), lattice_best_eq hf hl hn (wl hin a b), lattice_best_eq fd hld hn (wl inside_down a b), best_lub hin, best_lub (inside_down (n := n) (ws := ws)), sqTo_length]
    unfold lacks
    show cond (decide (joinT n ws a b < 0)) _ (cond (decide (meetT n ws a b < 0)) _ (some (Sum.inl (_, _, sqTo n (joinT n ws) (a * n + b) ++ [joinT n ws a b], sqTo n (meetT n ws) (a * n + b) ++ [meetT n ws a b], _)))) = _
    rw [sqTo_succ (joinT n ws) hb, sqTo_succ (meetT n ws) hb]
    cases decide (joinT n ws a b < 0) <;> cases decide (meetT n ws a b < 0) <;> rfl
  · unfold lattice_Of_l1
    simp (disch := first | assumption | omega) only [cond_true, cond_false, Option.bind_some, dcF, getI_cl, get_cl, inB_T, Int.toNat_natCast, wrapS, length_cl, List.length_cons, List.length_nil, Bool.and_true, Bool.true_and, sqTo_row]

theorem lattice_Of_l2_eq {n : Nat} {ws : List Nat} (hf : Fit ws) (hl : ws.length = n) (hn : n ≤ 16) (hin : Inside n ws) (t : Int × List Int × Int × Int × Unit) :
    loopM (lattice_Of_l2 (((n : Int), cl ws, ()), ()) (cl (downW n ws), ())) (0, (0, [], [], [], 0, 0, ()), [], [], t, ()) =
      some (exitOr ((List.range n).findSome? (latG n ws t)) (.inl ((0, [], [], [], 0, 0, ()), sq n (joinT n ws), sq n (meetT n ws), t, ()))) := by
  refine loopM_exit (f := lattice_Of_l2 (((n : Int), cl ws, ()), ()) (cl (downW n ws), ())) n (fun a => ((a : Int), (0, [], [], [], 0, 0, ()), sqTo n (joinT n ws) (a * n + 0), sqTo n (meetT n ws) (a * n + 0), t, ())) _ _ (fun a ha => ?_) ?_ (by rw [Nat.zero_mul]; rfl)
  · unfold lattice_Of_l2
    simp (disch := first | assumption | omega) only [cond_true, dcT, wrapS]
    rw [lattice_Of_l1_eq hf hl hn hin t ha]
    cases latG n ws t a <;> rfl
  · unfold lattice_Of_l2
    simp (disch := first | assumption | omega) only [cond_false, dcF, wrapS]
    rfl

theorem lattice_Of_eq {N : Int} {ws : List Nat} (hf : Fit ws) : lattice_Of ((N, cl ws, ()), ()) =
    some (if latc N ws = 0 then (((N, cl ws, ()), latR N.toNat ws, ()), 0, ()) else (((0, [], ()), ([], [], 0, 0, ()), ()), latc N ws, ())) := by
  unfold lattice_Of latc
  simp (disch := first | assumption | omega) only [Option.bind_some, order_Check_eq hf]
  by_cases h : ordc N ws = 0
  · obtain ⟨h1, h2, h3, hin, o⟩ := ordc_zero h
    obtain ⟨n, rfl⟩ := Int.eq_ofNat_of_zero_le h1
    have hl : ws.length = n := by omega
    have hn : n ≤ 16 := by omega
    have o : IsOrder n ws := o
    have hin : Inside n ws := hin
    by_cases h0 : n = 0
    · subst h0
      simp (disch := first | assumption | omega) only [cond_true, cond_false, dcF, Int.toNat_natCast, if_true, h, bneF, beqT]
      rfl
    · have fd : Fit (downW n ws) := fit_downW hn
      have hld : (downW n ws).length = n := length_down
      simp (disch := first | assumption | omega) only [cond_false, Option.bind_some, dcT, Int.toNat_natCast, Bool.true_and, if_true, h, bneF, beqF, order_Down_eq hf hl hn hin]
      rw [lattice_Of_l2_eq hf hl hn hin]
      rcases rows_find n (lacks n ws) (fun a b => ((5, (0, [], [], [], 0, 0, ()), sqTo n (joinT n ws) (a * n + b), sqTo n (meetT n ws) (a * n + b), ((n : Int), cl ws, 0, 0, ()), ()) : LatU)) with ⟨hb, he⟩ | ⟨hb, a, b, he⟩
      · have hb : latB n ws = true := hb
        have hlat := latB_iff.1 hb
        have hp : 2 ^ n - 1 < 2 ^ n := by have := Nat.two_pow_pos n; omega
        have h0' : 0 < n := by omega
        obtain ⟨t1, t2⟩ := topTo_spec o (fun a b ha hb => (hlat a b ha hb).1) h0' n (Nat.le_refl n)
        obtain ⟨b1, b2⟩ := topTo_spec (order_down o) (fun a b ha hb => (hlat a b ha hb).2) h0' n (Nat.le_refl n)
        have e1 := best_all (rs := ws) (order_down o) (fun i j hi hj => (below_down hj hi).symm) b1 b2
        have e2 := best_all (rs := downW n ws) o (fun i j hi hj => below_down hi hj) t1 t2
        have he : (List.range n).findSome? (latG n ws ((n : Int), cl ws, 0, 0, ())) = none := he
        rw [he]
        simp (disch := first | assumption | omega) only [exitOr_none, cond_true, Option.bind_some, Sum.elim_inl, Sum.elim_inr, if_true, sets_All_eq (show n ≤ 32 by omega), lattice_best_eq hf hl hn hp, lattice_best_eq fd hld hn hp, e1, e2, hb]
        rfl
      · have hb : latB n ws = false := hb
        have he : (List.range n).findSome? (latG n ws ((n : Int), cl ws, 0, 0, ())) = _ := he
        rw [he, hb]
        rfl
  · simp (disch := first | assumption | omega) only [cond_true, if_false, h, bneT]

/-- The same of the reference. -/
abbrev RLatT : Type := (List Int × List Int × Int × Int × Unit)
abbrev RLatU : Type := (Int × RLatT × List Int × List Int × (Int × Int × Unit) × Unit)
def rlatG (n : Nat) (ws : List Nat) (a : Nat) : Option RLatU :=
  (List.range n).findSome? fun b => cond (lacks n ws a b) (some (5, ([], [], 0, 0, ()), sqTo n (joinT n ws) (a * n + b), sqTo n (meetT n ws) (a * n + b), (0, 0, ()), ())) none

theorem ref_LatticeMake_l1_eq {n : Nat} {ws : List Nat} (hf : Fit ws) (hl : ws.length = n) (hn : n ≤ 16) {a : Nat} (ha : a < n) (y : RLatT × List Int × List Int × (Int × Int × Unit) × Unit) :
    loopM (ref_LatticeMake_l1 (((n : Int), cl ws, ()), ()) ((a : Int), y) (((n : Int), cl (downW n ws), ()), ())) (0, ([], [], 0, 0, ()), sqTo n (joinT n ws) (a * n + 0), sqTo n (meetT n ws) (a * n + 0), (0, 0, ()), ()) =
      some (exitOr (rlatG n ws a) (.inl (([], [], 0, 0, ()), sqTo n (joinT n ws) ((a + 1) * n + 0), sqTo n (meetT n ws) ((a + 1) * n + 0), (0, 0, ()), ()))) := by
  have hsq := sq_le hn
  have fd : Fit (downW n ws) := fit_downW hn
  have hld : (downW n ws).length = n := length_down
  refine loopM_exit (f := ref_LatticeMake_l1 (((n : Int), cl ws, ()), ()) ((a : Int), y) (((n : Int), cl (downW n ws), ()), ())) n (fun b => ((b : Int), ([], [], 0, 0, ()), sqTo n (joinT n ws) (a * n + b), sqTo n (meetT n ws) (a * n + b), (0, 0, ()), ())) _ _ (fun b hb => ?_) ?_ rfl
  · have := idx_lt ha hb
    unfold ref_LatticeMake_l1
    simp (disch := first | assumption | omega) only [cond_true, Option.bind_some, dcT, wrapS, List.length_cons, List.length_nil, room8, Bool.and_self, ref_join_eq hf hl hn ha hb, ref_join_eq fd hld hn ha hb, sqTo_length]
    unfold lacks
    show cond (decide (joinT n ws a b < 0)) _ (cond (decide (meetT n ws a b < 0)) _ (some (Sum.inl (_, _, sqTo n (joinT n ws) (a * n + b) ++ [joinT n ws a b], sqTo n (meetT n ws) (a * n + b) ++ [meetT n ws a b], _)))) = _
    rw [sqTo_succ (joinT n ws) hb, sqTo_succ (meetT n ws) hb]
    cases decide (joinT n ws a b < 0) <;> cases decide (meetT n ws a b < 0) <;> rfl
  · unfold ref_LatticeMake_l1
    simp (disch := first | assumption | omega) only [cond_false, dcF, wrapS, List.length_cons, List.length_nil, Bool.and_true, Bool.true_and, sqTo_row]

theorem ref_LatticeMake_l2_eq {n : Nat} {ws : List Nat} (hf : Fit ws) (hl : ws.length = n) (hn : n ≤ 16) :
    loopM (ref_LatticeMake_l2 (((n : Int), cl ws, ()), ()) (((n : Int), cl (downW n ws), ()), ())) (0, ([], [], 0, 0, ()), [], [], (0, 0, ()), ()) =
      some (exitOr ((List.range n).findSome? (rlatG n ws)) (.inl (([], [], 0, 0, ()), sq n (joinT n ws), sq n (meetT n ws), (0, 0, ()), ()))) := by
  refine loopM_exit (f := ref_LatticeMake_l2 (((n : Int), cl ws, ()), ()) (((n : Int), cl (downW n ws), ()), ())) n (fun a => ((a : Int), ([], [], 0, 0, ()), sqTo n (joinT n ws) (a * n + 0), sqTo n (meetT n ws) (a * n + 0), (0, 0, ()), ())) _ _ (fun a ha => ?_) ?_ (by rw [Nat.zero_mul]; rfl)
  · unfold ref_LatticeMake_l2
    simp (disch := first | assumption | omega) only [cond_true, dcT, wrapS]
    rw [ref_LatticeMake_l1_eq hf hl hn ha]
    cases rlatG n ws a <;> rfl
  · unfold ref_LatticeMake_l2
    simp (disch := first | assumption | omega) only [cond_false, dcF, wrapS]
    rfl

theorem ref_LatticeMake_l3_eq {n : Nat} {ws : List Nat} (o : IsOrder n ws) (hn : n ≤ 16) (h0 : 0 < n) (hlat : ∀ a b, a < n → b < n → (∃ x, lub n ws a b = some x) ∧ ∃ x, lub n (downW n ws) a b = some x) (c : RLatT) (d : (Int × Int × Unit) × Unit) :
    loopM (ref_LatticeMake_l3 (((n : Int), cl ws, ()), ()) (c, sq n (joinT n ws), sq n (meetT n ws), d)) (0, (0, 0, ()), ()) = some (.inl ((((topTo n (downW n ws) n : Nat) : Int), ((topTo n ws n : Nat) : Int), ()), ())) := by
  refine loopM_sim (f := ref_LatticeMake_l3 (((n : Int), cl ws, ()), ()) (c, sq n (joinT n ws), sq n (meetT n ws), d)) n (fun k => ((k : Int), (((topTo n (downW n ws) k : Nat) : Int), ((topTo n ws k : Nat) : Int), ()), ())) _ (fun k hk => ?_) ?_ rfl
  · obtain ⟨t1, -⟩ := topTo_spec o (fun a b ha hb => (hlat a b ha hb).1) h0 k (by omega)
    obtain ⟨b1, -⟩ := topTo_spec (order_down o) (fun a b ha hb => (hlat a b ha hb).2) h0 k (by omega)
    obtain ⟨x, hx⟩ := (hlat _ k t1 hk).1
    obtain ⟨y, hy⟩ := (hlat _ k b1 hk).2
    unfold ref_LatticeMake_l3
    simp (disch := first | assumption | omega) only [cond_true, Option.bind_some, dcT, Int.toNat_natCast, wrapS, idx_wrap t1 hk hn, idx_wrap b1 hk hn, sq_length, idx_inB t1 hk, idx_inB b1 hk, sq_get _ t1 hk, sq_get _ b1 hk]
    unfold joinT meetT
    rw [hx, hy, topTo, topTo, hx, hy]
    rfl
  · unfold ref_LatticeMake_l3
    simp (disch := first | assumption | omega) only [cond_false, dcF, wrapS]

theorem ref_LatticeMake_eq {N : Int} {ws : List Nat} (hf : Fit ws) : ref_LatticeMake ((N, cl ws, ()), ()) =
    some (if latc N ws = 0 then (latR N.toNat ws, 0, ()) else (([], [], 0, 0, ()), latc N ws, ())) := by
  unfold ref_LatticeMake latc
  simp (disch := first | assumption | omega) only [Option.bind_some, ref_OrderCheck_eq hf]
  by_cases h : ordc N ws = 0
  · obtain ⟨h1, h2, h3, hin, o⟩ := ordc_zero h
    obtain ⟨n, rfl⟩ := Int.eq_ofNat_of_zero_le h1
    have hl : ws.length = n := by omega
    have hn : n ≤ 16 := by omega
    have o : IsOrder n ws := o
    by_cases h0 : n = 0
    · subst h0
      simp (disch := first | assumption | omega) only [cond_true, cond_false, dcF, Int.toNat_natCast, if_true, h, bneF, beqT]
      rfl
    · simp (disch := first | assumption | omega) only [cond_false, Option.bind_some, dcT, Int.toNat_natCast, Bool.true_and, if_true, h, bneF, beqF, ref_OrderDual_eq hf hl hn]
      rw [ref_LatticeMake_l2_eq hf hl hn]
      rcases rows_find n (lacks n ws) (fun a b => ((5, ([], [], 0, 0, ()), sqTo n (joinT n ws) (a * n + b), sqTo n (meetT n ws) (a * n + b), (0, 0, ()), ()) : RLatU)) with ⟨hb, he⟩ | ⟨hb, a, b, he⟩
      · have hb : latB n ws = true := hb
        have hlat := latB_iff.1 hb
        have he : (List.range n).findSome? (rlatG n ws) = none := he
        rw [he]
        simp (disch := first | assumption | omega) only [exitOr_none, cond_true, Option.bind_some, Sum.elim_inl, Sum.elim_inr, if_true, ref_LatticeMake_l3_eq o hn (show 0 < n by omega) hlat, hb]
        rfl
      · have hb : latB n ws = false := hb
        have he : (List.range n).findSome? (rlatG n ws) = _ := he
        rw [he, hb]
        rfl
  · simp (disch := first | assumption | omega) only [cond_true, if_false, h, bneT]
end

section
open Go Go.Abs


/-- Is i strictly below j? -/
def under (ws : List Nat) (i j : Nat) : Bool := decide (i ≠ j) && below ws i j
theorem under_word (ws : List Nat) (i j : Nat) : (dif (ws.getD i 0) (2 ^ i)).testBit j = under ws i j := by
  rw [dif_bit, Nat.testBit_two_pow]
  unfold under below
  by_cases h : i = j <;> simp [h]
theorem under_lt {n : Nat} {ws : List Nat} (hin : Inside n ws) {i j : Nat} (h : under ws i j = true) : j < n := by
  unfold under at h
  exact insideD hin (Bool.and_eq_true_iff.1 h).2
end

end Go.Proofs.Tryd
