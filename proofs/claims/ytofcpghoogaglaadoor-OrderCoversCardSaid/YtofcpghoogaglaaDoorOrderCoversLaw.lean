/- The plain law of OrderCovers. -/
import Derived.Test.YtofcpghoogaglaaDoorOrderCoversFuns
import Derived.Test.YtofcpghoogaglaaDoorAbsWords
namespace Go.Proofs.Tryd
open Go Go.Abs

theorem tz_table : ∀ r : Fin 64, getI lit0 (shrI .u64 (IntKind.u64.wrap (((2 ^ r.val : Nat) : Int) * (285870213051353865 : Int))) (58 : Int)) = some (r.val : Int) := by decide +kernel

theorem tz_eq {r q : Nat} (h : 2 ^ r * (2 * q + 1) < 2 ^ 64) : math_bits_TrailingZeros64 (((2 ^ r * (2 * q + 1) : Nat) : Int), ()) = some ((r : Int), ()) := by
  have hr : r < 64 := bit_lt h (by rw [odd_bit]; simp)
  have hp : 0 < 2 ^ r * (2 * q + 1) := Nat.mul_pos (Nat.two_pow_pos r) (by omega)
  unfold math_bits_TrailingZeros64
  have e0 : ((((2 ^ r * (2 * q + 1) : Nat) : Int), ()).1 == (0 : Int)) = false := by
    simp only [beq_eq_false_iff_ne]; omega
  have e1 : IntKind.u64.wrap (0 - ((2 ^ r * (2 * q + 1) : Nat) : Int)) = ((2 ^ 64 - 2 ^ r * (2 * q + 1) : Nat) : Int) := by
    unfold IntKind.wrap; simp only [IntKind.bits, IntKind.signed]
    generalize 2 ^ r * (2 * q + 1) = v at *
    simp; omega
  simp only [e0, cond_false]
  rw [e1, and_u64 h (by omega), low_one h, getS_eq, tab0_eq, tz_table ⟨r, hr⟩]
  simp only [Option.bind_some]
  rw [wrap64 (by omega) (by omega)]

theorem sets_One_eq {i : Nat} (h : i < 32) : sets_One ((i : Int), ()) = some (((2 ^ i : Nat) : Int), ()) := by
  unfold sets_One
  have : decide ((i : Int) < 0) = false := decide_eq_false (by omega)
  simp only [this, cond_false]
  rw [shl_u32 h]

theorem sets_All_eq {n : Nat} (h : n ≤ 32) : sets_All ((n : Int), ()) = some (((2 ^ n - 1 : Nat) : Int), ()) := by
  unfold sets_All
  have : decide ((n : Int) < 0) = false := decide_eq_false (by omega)
  simp only [this, cond_false]
  rw [all_u32 h]

theorem sets_Has_eq {a : Nat} (i : Nat) (h : a < 2 ^ 32) : sets_Has_uint32 ((a : Int), (i : Int), ()) = some (a.testBit i, ()) := by
  unfold sets_Has_uint32
  have : decide ((i : Int) < 0) = false := decide_eq_false (by omega)
  simp only [this, cond_false]
  rw [has_u32 i h]

theorem ref_Bit_eq {a : Nat} {i : Nat} (h : a < 2 ^ 32) (hi : i < 2 ^ 64) : ref_Bit ((a : Int), (i : Int), ()) = some (a.testBit i, ()) := by
  unfold ref_Bit
  have : decide (IntKind.u64.wrap (i : Int) < 0) = false := by rw [wrap_u64 hi]; exact decide_eq_false (by omega)
  simp only [this, cond_false]
  rw [wrap_u64 hi, bit_u32 i h]

/-- The words of an order: each fits. -/
def Fit (ws : List Nat) : Prop := ∀ w ∈ ws, w < 2 ^ 32
/-- Is i below j? -/
def below (ws : List Nat) (i j : Nat) : Bool := (ws.getD i 0).testBit j

theorem below_eq {ws : List Nat} {i j w : Nat} (h : ws[i]? = some w) : below ws i j = w.testBit j := by
  unfold below; rw [List.getD_eq_getElem?_getD, h]; rfl

theorem ref_Below_eq {ws : List Nat} (hf : Fit ws) {N : Int} {i j : Nat} (hi : i < ws.length) (hj : j < 2 ^ 64) : ref_Below ((N, cl ws, ()), (i : Int), (j : Int), ()) = some (below ws i j, ()) := by
  unfold ref_Below
  have e : ws[i]? = some ws[i] := List.getElem?_eq_getElem hi
  simp only [cl_getI, e, Option.map_some, Option.bind_some]
  rw [ref_Bit_eq (hf _ (List.getElem_mem hi)) hj, below_eq e]
  rfl

theorem wf_u32 {x : Int} (h : (Lit.int .u32 x).wf = true) : 0 ≤ x ∧ x < 4294967296 := by
  simp [Lit.wf, IntKind.min, IntKind.max, IntKind.bits, IntKind.signed] at h
  omega
theorem words_of {l : List Int} (h : Wf (.list (.int .u32)) l) : ∃ ws, l = cl ws ∧ Fit ws := by
  obtain ⟨ws, rfl⟩ := cl_of (l := l) fun v hv => (wf_u32 (h.2 v hv)).1
  refine ⟨ws, rfl, fun w hw => ?_⟩
  have := (wf_u32 (h.2 (w : Int) (List.mem_map.2 ⟨w, hw, rfl⟩))).2
  omega

/-- What an order must be. -/
structure IsOrder (n : Nat) (ws : List Nat) : Prop where
  refl : ∀ i, i < n → below ws i i = true
  anti : ∀ i j, i < n → j < n → i ≠ j → below ws i j = true → below ws j i = false
  trans : ∀ i j k, i < n → j < n → k < n → below ws i j = true → below ws j k = true → below ws i k = true

/-- No word has a bit at n or further up. -/
def Inside (n : Nat) (ws : List Nat) : Prop := ∀ w ∈ ws, ∀ i, n ≤ i → w.testBit i = false

open Classical in
/-- What both checks answer. -/
noncomputable def ordc (N : Int) (ws : List Nat) : Int :=
  if N < 0 then 1 else if N > 16 then 1 else if (ws.length : Int) ≠ N then 2 else if ¬ Inside N.toNat ws then 2 else if IsOrder N.toNat ws then 0 else 3

theorem below_lt {n : Nat} {ws : List Nat} {i j : Nat} (hin : Inside n ws) (hi : i < ws.length) (h : below ws i j = true) : j < n := by
  rw [below_eq (List.getElem?_eq_getElem hi)] at h
  by_cases hj : j < n
  · exact hj
  · rw [hin _ (List.getElem_mem hi) j (by omega)] at h; cases h

theorem all_bit (n i : Nat) : (2 ^ n - 1).testBit i = decide (i < n) := Nat.testBit_two_pow_sub_one n i

theorem dif_all {n w : Nat} : dif w (2 ^ n - 1) = 0 ↔ ∀ i, n ≤ i → w.testBit i = false := by
  rw [dif_zero]
  constructor
  · intro h i hi
    cases hb : w.testBit i
    · rfl
    · have := h i hb; rw [all_bit] at this; simp at this; omega
  · intro h i hb
    rw [all_bit]
    by_cases hi : i < n
    · simpa using hi
    · rw [h i (by omega)] at hb; cases hb

/-- A bit of the order's word that stands in the way of its being one. -/
def badJ (ws : List Nat) (i w : Nat) (j : Nat) : Bool := below ws j i || !decide (dif (ws.getD j 0) w = 0)
def badI (ws : List Nat) (i : Nat) : Bool := !below ws i i || (bitsL (dif (ws.getD i 0) (2 ^ i))).any (badJ ws i (ws.getD i 0))

theorem order_Check_l4_eq {N : Int} {ws : List Nat} (hf : Fit ws) {i w : Nat} (hi : i < 32) (hw : w < 2 ^ 32) (hlen : ∀ j, w.testBit j = true → j < ws.length) (y : (Int × Unit) × Unit) (s : (Int × Unit) × Unit) :
    loopM (order_Check_l4 ((N, cl ws, ()), ()) ((i : Int), y) (w : Int)) (((dif w (2 ^ i) : Nat) : Int), s) =
      some (if (bitsL (dif w (2 ^ i))).any (badJ ws i w) = true then .inl ((3, ()), ()) else .inr (.inl (s.1, ()))) := by
  have hd : dif w (2 ^ i) < 2 ^ 64 := Nat.lt_of_lt_of_le (dif_lt hw) (by decide)
  refine loopM_each (g := fun r s => some (if badJ ws i w r = true then .inr (.inl ((3, ()), ())) else .inl s)) (e := fun s => .inr (.inl (s.1, ()))) hd (fun r q s h hb => ?_) (fun s => ?_) s _
    (eachM_any (badJ ws i w) _ _ _ fun r _ => rfl)
  · rw [dif_bit] at hb
    have hr := hlen r (Bool.and_eq_true_iff.1 hb).1
    have hr64 : r < 64 := bit_lt hd (by rw [dif_bit]; exact hb)
    have e : ws[r]? = some ws[r] := List.getElem?_eq_getElem hr
    have hfr := hf _ (List.getElem_mem hr)
    unfold order_Check_l4
    simp only [nz_eq, cond_true, tz_eq h, Option.bind_some, cl_getI, e, Option.map_some]
    rw [sets_Has_eq i hfr]
    simp only [Option.bind_some]
    rw [not_u32 hfr hw, clr_eq h, show (0 : Int) = ((0 : Nat) : Int) from rfl, cast_bne]
    have e2 : badJ ws i w r = (ws[r].testBit i || !decide (dif ws[r] w = 0)) := by
      unfold badJ; rw [below_eq e, List.getD_eq_getElem?_getD, e]; rfl
    rw [e2]
    cases ws[r].testBit i <;> cases decide (dif ws[r] w = 0) <;> rfl
  · unfold order_Check_l4
    rfl

theorem order_Check_l5_eq {n : Nat} {ws : List Nat} (hf : Fit ws) (hl : ws.length = n) (hn : n ≤ 16) (hin : Inside n ws) :
    loopM (order_Check_l5 (((n : Int), cl ws, ()), ())) (0, ((0 : Int), ()), ()) = some (if (List.range n).any (badI ws) = true then .inl ((3, ()), ()) else .inr (.inl ((0, ()), ()))) := by
  refine loopM_any0 n _ (badI ws) _ _ (fun i hi => ?_) ?_
  · have hi' : i < ws.length := by omega
    have e : ws[i]? = some ws[i] := List.getElem?_eq_getElem hi'
    have hfr := hf _ (List.getElem_mem hi')
    unfold order_Check_l5
    have e0 : decide ((i : Int) < ((cl ws).length : Int)) = true := by rw [cl_length]; exact decide_eq_true (by omega)
    simp only [e0, cond_true, cl_getI, e, Option.map_some, Option.bind_some]
    rw [sets_Has_eq i hfr, sets_One_eq (by omega)]
    simp only [Option.bind_some]
    have hp : 2 ^ i < 2 ^ 32 := Nat.pow_lt_pow_right (by decide) (by omega)
    have hd : dif ws[i] (2 ^ i) < 2 ^ 64 := Nat.lt_of_lt_of_le (dif_lt hfr) (by decide)
    rw [not_u32 hfr hp, wrap_u64 hd, order_Check_l4_eq hf (by omega) hfr (fun j hj => by
      have := below_lt hin hi' (by rw [below_eq e]; exact hj)
      omega)]
    have e2 : badI ws i = (!ws[i].testBit i || (bitsL (dif ws[i] (2 ^ i))).any (badJ ws i ws[i])) := by
      unfold badI; rw [below_eq e, List.getD_eq_getElem?_getD, e]; rfl
    rw [e2, wrap64 (by omega) (by omega)]
    cases ws[i].testBit i <;> cases (bitsL (dif ws[i] (2 ^ i))).any (badJ ws i ws[i]) <;> rfl
  · unfold order_Check_l5
    have e0 : decide ((n : Int) < ((cl ws).length : Int)) = false := by rw [cl_length]; exact decide_eq_false (by omega)
    simp only [e0, cond_false]

theorem badI_iff {n : Nat} {ws : List Nat} (hf : Fit ws) (hl : ws.length = n) (hn : n ≤ 16) (hin : Inside n ws) : (List.range n).any (badI ws) = false ↔ IsOrder n ws := by
  have hget : ∀ i (hi : i < n), ∃ w, ws[i]? = some w ∧ w < 2 ^ 32 := fun i hi => ⟨ws[i], List.getElem?_eq_getElem (by omega), hf _ (List.getElem_mem _)⟩
  rw [List.any_eq_false]
  constructor
  · intro h
    have h1 : ∀ i, i < n → below ws i i = true ∧ ∀ j, j ≠ i → below ws i j = true → below ws j i = false ∧ ∀ k, below ws j k = true → below ws i k = true := by
      intro i hi
      have hb := h i (List.mem_range.2 hi)
      obtain ⟨w, hw, hw32⟩ := hget i hi
      have hgd : ws.getD i 0 = w := by rw [List.getD_eq_getElem?_getD, hw]; rfl
      unfold badI at hb
      rw [hgd] at hb
      simp only [Bool.or_eq_true, not_or, Bool.not_eq_true, Bool.not_eq_false'] at hb
      refine ⟨hb.1, fun j hji hij => ?_⟩
      have hj : j ∈ bitsL (dif w (2 ^ i)) := (mem_bitsL (Nat.lt_of_lt_of_le (dif_lt hw32) (by decide))).2 (by
        rw [dif_bit, ← below_eq hw, hij, Nat.testBit_two_pow]; simp [Ne.symm hji])
      have hb2 := List.any_eq_false.1 hb.2 j hj
      unfold badJ at hb2
      simp only [Bool.or_eq_true, not_or, Bool.not_eq_true, Bool.not_eq_false', decide_eq_true_eq] at hb2
      refine ⟨hb2.1, fun k hk => ?_⟩
      have := dif_zero.1 hb2.2 k hk
      rw [below_eq hw]; exact this
    refine ⟨fun i hi => (h1 i hi).1, fun i j hi _ hne hij => ((h1 i hi).2 j (Ne.symm hne) hij).1, fun i j k hi _ _ hij hjk => ?_⟩
    by_cases e : j = i
    · subst e; exact hjk
    · exact ((h1 i hi).2 j e hij).2 k hjk
  · intro o i hi
    have hi := List.mem_range.1 hi
    obtain ⟨w, hw, hw32⟩ := hget i hi
    have hgd : ws.getD i 0 = w := by rw [List.getD_eq_getElem?_getD, hw]; rfl
    unfold badI
    rw [hgd, o.refl i hi]
    simp only [Bool.not_true, Bool.false_or, Bool.not_eq_true]
    refine List.any_eq_false.2 fun j hj => ?_
    have hb := (mem_bitsL (Nat.lt_of_lt_of_le (dif_lt hw32) (by decide))).1 hj
    rw [dif_bit, Nat.testBit_two_pow, ← below_eq hw] at hb
    have hb2 := Bool.and_eq_true_iff.1 hb
    have hji : i ≠ j := by intro e; subst e; simp at hb2
    have hjn := below_lt hin (by omega) hb2.1
    unfold badJ
    rw [o.anti i j hi hjn hji hb2.1]
    simp only [Bool.false_or, Bool.not_eq_true, Bool.not_eq_false', decide_eq_true_eq]
    refine dif_zero.2 fun k hk => ?_
    have hjk : below ws j k = true := hk
    rw [← below_eq hw]
    exact o.trans i j k hi hjn (below_lt hin (by omega) hjk) hb2.1 hjk

theorem order_Check_l1_eq {n : Nat} {ws : List Nat} (hf : Fit ws) (hl : ws.length = n) (hn : n ≤ 16) :
    loopM (order_Check_l1 (((n : Int), cl ws, ()), ())) (0, ()) = some (((List.range n).findSome? fun i => if dif (ws.getD i 0) (2 ^ n - 1) = 0 then none else some (.inl ((i : Int), ()))).getD (.inr (.inl ()))) := by
  refine loopM_find n _ _ _ (fun i hi => ?_) ?_
  · have hi' : i < ws.length := by omega
    have e : ws[i]? = some ws[i] := List.getElem?_eq_getElem hi'
    have hfr := hf _ (List.getElem_mem hi')
    have hgd : ws.getD i 0 = ws[i] := by rw [List.getD_eq_getElem?_getD, e]; rfl
    unfold order_Check_l1
    have e0 : decide ((i : Int) < ((cl ws).length : Int)) = true := by rw [cl_length]; exact decide_eq_true (by omega)
    have hp : 2 ^ n - 1 < 2 ^ 32 := by have : 2 ^ n < 2 ^ 32 := Nat.pow_lt_pow_right (by decide) (by omega); omega
    simp only [e0, cond_true, cl_getI, e, Option.map_some, Option.bind_some, sets_All_eq (show n ≤ 32 by omega), hgd]
    rw [not_u32 hfr hp, show (0 : Int) = ((0 : Nat) : Int) from rfl, cast_bne, wrap64 (by omega) (by omega)]
    by_cases hz : dif ws[i] (2 ^ n - 1) = 0 <;> simp [hz]
  · unfold order_Check_l1
    have e0 : decide ((n : Int) < ((cl ws).length : Int)) = false := by rw [cl_length]; exact decide_eq_false (by omega)
    simp only [e0, cond_false]

theorem findIdx_cases {n : Nat} {ws : List Nat} (hl : ws.length = n) {β : Type} (b : Nat → β) :
    (¬ Inside n ws ∧ ∃ i, i < n ∧ ((List.range n).findSome? fun i => if dif (ws.getD i 0) (2 ^ n - 1) = 0 then none else some (b i)) = some (b i)) ∨
    (Inside n ws ∧ ((List.range n).findSome? fun i => if dif (ws.getD i 0) (2 ^ n - 1) = 0 then none else some (b i)) = none) := by
  cases h : ((List.range n).findSome? fun i => if dif (ws.getD i 0) (2 ^ n - 1) = 0 then none else some (b i)) with
  | some z =>
    left
    obtain ⟨i, hi, hz⟩ := List.exists_of_findSome?_eq_some h
    have hi := List.mem_range.1 hi
    have e : ws[i]? = some ws[i] := List.getElem?_eq_getElem (by omega)
    have hgd : ws.getD i 0 = ws[i] := by rw [List.getD_eq_getElem?_getD, e]; rfl
    by_cases hd : dif (ws.getD i 0) (2 ^ n - 1) = 0
    · rw [if_pos hd] at hz; cases hz
    · rw [if_neg hd] at hz
      exact ⟨fun hin => hd (by rw [hgd]; exact dif_all.2 (hin _ (List.getElem_mem _))), i, hi, hz.symm⟩
  | none =>
    right
    refine ⟨fun w hw => ?_, rfl⟩
    obtain ⟨i, hi, rfl⟩ := List.getElem_of_mem hw
    have hz := List.findSome?_eq_none_iff.1 h i (List.mem_range.2 (by omega))
    have e : ws[i]? = some ws[i] := List.getElem?_eq_getElem hi
    have hgd : ws.getD i 0 = ws[i] := by rw [List.getD_eq_getElem?_getD, e]; rfl
    rw [hgd] at hz
    by_cases hd : dif ws[i] (2 ^ n - 1) = 0
    · exact dif_all.1 hd
    · rw [if_neg hd] at hz; cases hz

theorem order_Check_eq {N : Int} {ws : List Nat} (hf : Fit ws) : order_Check ((N, cl ws, ()), ()) = some (ordc N ws, ()) := by
  unfold order_Check ordc
  by_cases h1 : N < 0
  · simp only [decide_eq_true h1, cond_true, if_pos h1]
  by_cases h2 : N > 16
  · simp only [decide_eq_false h1, cond_false, decide_eq_true h2, cond_true, if_neg h1, if_pos h2]
  simp only [decide_eq_false h1, cond_false, decide_eq_false h2, if_neg h1, if_neg h2, cl_length, cond_bne]
  by_cases h3 : (ws.length : Int) = N
  · obtain ⟨n, rfl⟩ := Int.eq_ofNat_of_zero_le (show 0 ≤ N by omega)
    have hl : ws.length = n := by omega
    rw [if_pos h3, if_neg (show ¬ ¬ (ws.length : Int) = (n : Int) from fun h => h h3), order_Check_l1_eq hf hl (by omega)]
    rcases findIdx_cases hl (β := (Int × Unit) ⊕ Unit ⊕ Empty) (fun i => .inl ((i : Int), ())) with ⟨hin, i, hi, hz⟩ | ⟨hin, hz⟩
    · rw [hz]
      have e0 : decide ((i : Int) ≥ 0) = true := decide_eq_true (by omega)
      simp only [Option.getD_some, Option.bind_some, Sum.elim_inl, e0, cond_true]
      rw [if_pos (by simpa using hin)]
    · rw [hz]
      have e0 : decide ((-1 : Int) ≥ 0) = false := by decide
      simp only [Option.getD_none, Option.bind_some, Sum.elim_inl, Sum.elim_inr, e0, cond_false]
      rw [order_Check_l5_eq hf hl (by omega) hin, if_neg (show ¬ ¬ Inside (n : Int).toNat ws from fun h => h hin)]
      have hb := badI_iff hf hl (by omega) hin
      by_cases hany : (List.range n).any (badI ws) = true
      · have : ¬ IsOrder (n : Int).toNat ws := fun o => by rw [hb.2 o] at hany; cases hany
        rw [if_pos hany, if_neg this]; rfl
      · have : IsOrder (n : Int).toNat ws := hb.1 (by simpa using hany)
        rw [if_neg hany, if_pos this]; rfl
  · rw [if_neg h3, if_pos h3]

/-! The reference. -/
theorem any_range'_iff {a k : Nat} {bad : Nat → Bool} : (List.range' a k).any bad = true ↔ ∃ i, a ≤ i ∧ i < a + k ∧ bad i = true := by
  rw [List.any_eq_true]
  constructor
  · rintro ⟨i, hi, hb⟩
    rw [List.mem_range'_1] at hi
    exact ⟨i, hi.1, hi.2, hb⟩
  · rintro ⟨i, h1, h2, hb⟩
    exact ⟨i, List.mem_range'_1.2 ⟨h1, h2⟩, hb⟩

theorem ref_Outside_eq {w n : Nat} (hw : w < 2 ^ 32) (hn : n ≤ 32) : ref_Outside ((w : Int), (n : Int), ()) = some ((List.range' n (32 - n)).any (w.testBit ·), ()) := by
  unfold ref_Outside
  rw [loopM_any n 32 () (w.testBit ·) (.inl (true, ())) (.inr (.inl ())) hn (fun i _ hi => ?_) ?_]
  · cases (List.range' n (32 - n)).any (w.testBit ·) <;> rfl
  · unfold ref_Outside_l1
    rfl
  · unfold ref_Outside_l1
    have e0 : decide ((i : Int) < 32) = true := decide_eq_true (by omega)
    simp only [e0, cond_true]
    rw [ref_Bit_eq hw (by omega), wrap64 (by omega) (by omega)]
    cases w.testBit i <;> rfl

theorem outside_iff {w n : Nat} (hw : w < 2 ^ 32) : (List.range' n (32 - n)).any (w.testBit ·) = false ↔ ∀ i, n ≤ i → w.testBit i = false := by
  rw [← Bool.not_eq_true, any_range'_iff]
  constructor
  · intro h i hi
    cases hb : w.testBit i
    · rfl
    · exact absurd ⟨i, hi, by have := bit_lt hw hb; omega, hb⟩ h
  · rintro h ⟨i, h1, _, h3⟩
    rw [h i h1] at h3; cases h3

/-- What stands in the way at three numbers. -/
def badK (ws : List Nat) (i j k : Nat) : Bool := below ws i j && (below ws j k && !below ws i k)
def badIJ (n : Nat) (ws : List Nat) (i j : Nat) : Bool := (if i = j then !below ws i i else below ws i j && below ws j i) || (List.range n).any (badK ws i j)

theorem ref_l2_eq {n : Nat} {ws : List Nat} (hf : Fit ws) (hl : ws.length = n) (hn : n ≤ 16) {i j : Nat} (hi : i < n) (hj : j < n) :
    loopM (ref_OrderCheck_l2 (((n : Int), cl ws, ()), ()) ((i : Int), ()) ((j : Int), ())) (0, ()) = some (if (List.range n).any (badK ws i j) = true then .inl (3, ()) else .inr (.inl ())) := by
  refine loopM_any0 n _ _ _ _ (fun k hk => ?_) ?_
  · unfold ref_OrderCheck_l2
    have e0 : decide ((k : Int) < (n : Int)) = true := decide_eq_true (by omega)
    simp only [e0, cond_true]
    rw [ref_Below_eq hf (by omega) (by omega), ref_Below_eq hf (by omega) (by omega), ref_Below_eq hf (by omega) (by omega), wrap64 (by omega) (by omega)]
    unfold badK
    cases below ws i j <;> cases below ws j k <;> cases below ws i k <;> rfl
  · unfold ref_OrderCheck_l2
    have e0 : decide ((n : Int) < (n : Int)) = false := decide_eq_false (by omega)
    simp only [e0, cond_false]
theorem ref_l3_same : ref_OrderCheck_l3 = ref_OrderCheck_l2 := rfl
theorem ref_l4_same : ref_OrderCheck_l4 = ref_OrderCheck_l2 := rfl
theorem ref_l5_same : ref_OrderCheck_l5 = ref_OrderCheck_l2 := rfl
theorem ref_l6_same : ref_OrderCheck_l6 = ref_OrderCheck_l2 := rfl
theorem ref_l7_same : ref_OrderCheck_l7 = ref_OrderCheck_l2 := rfl

theorem ref_l8_eq {n : Nat} {ws : List Nat} (hf : Fit ws) (hl : ws.length = n) (hn : n ≤ 16) {i : Nat} (hi : i < n) :
    loopM (ref_OrderCheck_l8 (((n : Int), cl ws, ()), ()) ((i : Int), ())) (0, ()) = some (if (List.range n).any (badIJ n ws i) = true then .inl (3, ()) else .inr (.inl ())) := by
  refine loopM_any0 n _ _ _ _ (fun j hj => ?_) ?_
  · unfold ref_OrderCheck_l8
    rw [ref_l3_same, ref_l4_same, ref_l5_same, ref_l6_same, ref_l7_same]
    have e0 : decide ((j : Int) < (n : Int)) = true := decide_eq_true (by omega)
    simp only [e0, cond_true]
    rw [ref_l2_eq hf hl hn hi hj, ref_Below_eq hf (by omega) (by omega), ref_Below_eq hf (by omega) (by omega), ref_Below_eq hf (by omega) (by omega), wrap64 (by omega) (by omega), cond_beq, cond_bne]
    simp only [Option.bind_some]
    unfold badIJ
    by_cases hij : i = j
    · subst hij
      simp only [if_true]
      cases below ws i i <;> cases (List.range n).any (badK ws i i) <;> rfl
    · have : ¬ (i : Int) = (j : Int) := by omega
      simp only [this, hij, if_false]
      cases below ws i j <;> cases below ws j i <;> cases (List.range n).any (badK ws i j) <;> rfl
  · unfold ref_OrderCheck_l8
    have e0 : decide ((n : Int) < (n : Int)) = false := decide_eq_false (by omega)
    simp only [e0, cond_false]

theorem ref_l9_eq {n : Nat} {ws : List Nat} (hf : Fit ws) (hl : ws.length = n) (hn : n ≤ 16) :
    loopM (ref_OrderCheck_l9 (((n : Int), cl ws, ()), ())) (0, ()) = some (if (List.range n).any (fun i => (List.range n).any (badIJ n ws i)) = true then .inl (3, ()) else .inr (.inl ())) := by
  refine loopM_any0 n _ _ _ _ (fun i hi => ?_) ?_
  · unfold ref_OrderCheck_l9
    have e0 : decide ((i : Int) < (n : Int)) = true := decide_eq_true (by omega)
    simp only [e0, cond_true]
    rw [ref_l8_eq hf hl hn hi, wrap64 (by omega) (by omega)]
    cases (List.range n).any (badIJ n ws i) <;> rfl
  · unfold ref_OrderCheck_l9
    have e0 : decide ((n : Int) < (n : Int)) = false := decide_eq_false (by omega)
    simp only [e0, cond_false]

theorem badIJ_iff {n : Nat} {ws : List Nat} : (List.range n).any (fun i => (List.range n).any (badIJ n ws i)) = false ↔ IsOrder n ws := by
  have hb : ∀ i j, badIJ n ws i j = false ↔ (if i = j then below ws i i = true else (below ws i j = true → below ws j i = false)) ∧ ∀ k, k < n → below ws i j = true → below ws j k = true → below ws i k = true := by
    intro i j
    unfold badIJ
    rw [Bool.or_eq_false_iff, List.any_eq_false]
    refine and_congr ?_ ?_
    · by_cases h : i = j
      · simp [h]
      · simp only [h, if_false]; cases below ws i j <;> cases below ws j i <;> simp
    · constructor
      · intro h k hk h1 h2
        have := h k (List.mem_range.2 hk)
        unfold badK at this
        rw [h1, h2] at this
        simpa using this
      · intro h k hk
        unfold badK
        have := h k (List.mem_range.1 hk)
        cases h1 : below ws i j <;> cases h2 : below ws j k <;> simp_all
  rw [List.any_eq_false]
  constructor
  · intro h
    have h' : ∀ i j, i < n → j < n → badIJ n ws i j = false := fun i j hi hj => by
      have := List.any_eq_false.1 (by simpa using h i (List.mem_range.2 hi)) j (List.mem_range.2 hj)
      simpa using this
    refine ⟨fun i hi => ?_, fun i j hi hj hij h1 => ?_, fun i j k hi hj hk => ((hb i j).1 (h' i j hi hj)).2 k hk⟩
    · simpa using ((hb i i).1 (h' i i hi hi)).1
    · have := ((hb i j).1 (h' i j hi hj)).1
      rw [if_neg hij] at this
      exact this h1
  · intro o i hi
    have hi := List.mem_range.1 hi
    rw [Bool.not_eq_true, List.any_eq_false]
    intro j hj
    have hj := List.mem_range.1 hj
    rw [Bool.not_eq_true, hb]
    refine ⟨?_, fun k hk => o.trans i j k hi hj hk⟩
    by_cases h : i = j
    · subst h; simpa using o.refl i hi
    · rw [if_neg h]; exact o.anti i j hi hj h

theorem ref_l1_eq {n : Nat} {ws : List Nat} (hf : Fit ws) (hl : ws.length = n) (hn : n ≤ 16) :
    loopM (ref_OrderCheck_l1 (((n : Int), cl ws, ()), ())) (0, ()) = some (if (List.range n).any (fun i => (List.range' n (32 - n)).any ((ws.getD i 0).testBit ·)) = true then .inl (2, ()) else .inr (.inl ())) := by
  refine loopM_any0 n _ _ _ _ (fun i hi => ?_) ?_
  · unfold ref_OrderCheck_l1
    have e : ws[i]? = some ws[i] := List.getElem?_eq_getElem (by omega)
    have hgd : ws.getD i 0 = ws[i] := by rw [List.getD_eq_getElem?_getD, e]; rfl
    have e0 : decide ((i : Int) < (n : Int)) = true := decide_eq_true (by omega)
    simp only [e0, cond_true, cl_getI, e, Option.map_some, Option.bind_some, hgd]
    rw [ref_Outside_eq (hf _ (List.getElem_mem _)) (by omega), wrap64 (by omega) (by omega)]
    simp only [Option.bind_some]
    cases (List.range' n (32 - n)).any (ws[i].testBit ·) <;> rfl
  · unfold ref_OrderCheck_l1
    have e0 : decide ((n : Int) < (n : Int)) = false := decide_eq_false (by omega)
    simp only [e0, cond_false]

theorem inside_any {n : Nat} {ws : List Nat} (hf : Fit ws) (hl : ws.length = n) : (List.range n).any (fun i => (List.range' n (32 - n)).any ((ws.getD i 0).testBit ·)) = false ↔ Inside n ws := by
  rw [List.any_eq_false]
  constructor
  · intro h w hw
    obtain ⟨i, hi, rfl⟩ := List.getElem_of_mem hw
    have e : ws[i]? = some ws[i] := List.getElem?_eq_getElem hi
    have hgd : ws.getD i 0 = ws[i] := by rw [List.getD_eq_getElem?_getD, e]; rfl
    have := h i (List.mem_range.2 (by omega))
    rw [Bool.not_eq_true, hgd] at this
    exact (outside_iff (hf _ (List.getElem_mem _))).1 this
  · intro hin i hi
    have hi := List.mem_range.1 hi
    have e : ws[i]? = some ws[i] := List.getElem?_eq_getElem (by omega)
    have hgd : ws.getD i 0 = ws[i] := by rw [List.getD_eq_getElem?_getD, e]; rfl
    rw [Bool.not_eq_true, hgd]
    exact (outside_iff (hf _ (List.getElem_mem _))).2 (hin _ (List.getElem_mem _))

theorem ref_OrderCheck_eq {N : Int} {ws : List Nat} (hf : Fit ws) : ref_OrderCheck ((N, cl ws, ()), ()) = some (ordc N ws, ()) := by
  unfold ref_OrderCheck ordc
  by_cases h1 : N < 0
  · simp only [decide_eq_true h1, cond_true, if_pos h1]
  by_cases h2 : N > 16
  · simp only [decide_eq_false h1, cond_false, decide_eq_true h2, cond_true, if_neg h1, if_pos h2]
  simp only [decide_eq_false h1, cond_false, decide_eq_false h2, if_neg h1, if_neg h2, cl_length, cond_bne]
  by_cases h3 : (ws.length : Int) = N
  · obtain ⟨n, rfl⟩ := Int.eq_ofNat_of_zero_le (show 0 ≤ N by omega)
    have hl : ws.length = n := by omega
    rw [if_pos h3, if_neg (show ¬ ¬ (ws.length : Int) = (n : Int) from fun h => h h3), ref_l1_eq hf hl (by omega), ref_l9_eq hf hl (by omega)]
    have hi := inside_any hf hl
    have hb := badIJ_iff (n := n) (ws := ws)
    by_cases hin : Inside n ws
    · rw [hi.2 hin, if_neg (show ¬ ¬ Inside (n : Int).toNat ws by simpa using hin)]
      by_cases ho : IsOrder n ws
      · rw [hb.2 ho, if_pos (show IsOrder (n : Int).toNat ws from ho)]; rfl
      · have : (List.range n).any (fun i => (List.range n).any (badIJ n ws i)) = true := by
          cases h : (List.range n).any (fun i => (List.range n).any (badIJ n ws i))
          · exact absurd (hb.1 h) ho
          · rfl
        rw [this, if_neg (show ¬ IsOrder (n : Int).toNat ws from ho)]; rfl
    · have : (List.range n).any (fun i => (List.range' n (32 - n)).any ((ws.getD i 0).testBit ·)) = true := by
        cases h : (List.range n).any (fun i => (List.range' n (32 - n)).any ((ws.getD i 0).testBit ·))
        · exact absurd (hi.1 h) hin
        · rfl
      rw [this, if_pos (show ¬ Inside (n : Int).toNat ws from hin)]; rfl
  · rw [if_neg h3, if_pos h3]

/-- What a good order is. -/
theorem ordc_zero {N : Int} {ws : List Nat} (h : ordc N ws = 0) : 0 ≤ N ∧ N ≤ 16 ∧ (ws.length : Int) = N ∧ Inside N.toNat ws ∧ IsOrder N.toNat ws := by
  unfold ordc at h
  by_cases h1 : N < 0
  · rw [if_pos h1] at h; cases h
  rw [if_neg h1] at h
  by_cases h2 : N > 16
  · rw [if_pos h2] at h; cases h
  rw [if_neg h2] at h
  by_cases h3 : (ws.length : Int) = N
  · rw [if_neg (fun k => k h3)] at h
    by_cases h4 : Inside N.toNat ws
    · rw [if_neg (fun k => k h4)] at h
      by_cases h5 : IsOrder N.toNat ws
      · exact ⟨by omega, by omega, h3, h4, h5⟩
      · rw [if_neg h5] at h; cases h
    · rw [if_pos h4] at h; cases h
  · rw [if_pos h3] at h; cases h

/-- Is i strictly below j? -/
def under (ws : List Nat) (i j : Nat) : Bool := decide (i ≠ j) && below ws i j
/-- Is a covered by b? -/
def covered (n : Nat) (ws : List Nat) (a b : Nat) : Bool := under ws a b && !(List.range n).any fun x => under ws a x && under ws x b
def coversAt (n : Nat) (ws : List Nat) (a : Nat) : List (Int × Int × Unit) := ((List.range n).filter (covered n ws a)).map fun b : Nat => ((a : Int), (b : Int), ())
def coversTo (n : Nat) (ws : List Nat) : Nat → List (Int × Int × Unit)
  | 0 => []
  | k + 1 => coversTo n ws k ++ coversAt n ws k
theorem coversAt_len (n : Nat) (ws : List Nat) (a : Nat) : (coversAt n ws a).length ≤ n := by
  unfold coversAt; rw [List.length_map]; exact Nat.le_trans (List.length_filter_le _ _) (by simp)
theorem coversTo_len (n : Nat) (ws : List Nat) : ∀ k, (coversTo n ws k).length ≤ k * n
  | 0 => by simp [coversTo]
  | k + 1 => by
    have h1 := coversTo_len n ws k
    have h2 := coversAt_len n ws k
    rw [coversTo, List.length_append, Nat.succ_mul]; omega

/-- What covers an element, as a word. -/
def aboveW (ws : List Nat) (i : Nat) : Nat := (bitsL (dif (ws.getD i 0) (2 ^ i))).foldl (fun a r => dif a (dif (ws.getD r 0) (2 ^ r))) (dif (ws.getD i 0) (2 ^ i))

theorem getD_of {ws : List Nat} {i : Nat} (h : i < ws.length) : ws.getD i 0 = ws[i] := by
  rw [List.getD_eq_getElem?_getD, List.getElem?_eq_getElem h]; rfl

theorem order_Above_eq {N : Int} {n : Nat} {ws : List Nat} (hf : Fit ws) (hl : ws.length = n) (hn : n ≤ 16) (hin : Inside n ws) {i : Nat} (hi : i < n) :
    order_Above ((N, cl ws, ()), (i : Int), ()) = some (((aboveW ws i : Nat) : Int), ()) ∧ aboveW ws i < 2 ^ 32 := by
  have hi' : i < ws.length := by omega
  have e : ws[i]? = some ws[i] := List.getElem?_eq_getElem hi'
  have hfr := hf _ (List.getElem_mem hi')
  have hp : 2 ^ i < 2 ^ 32 := Nat.pow_lt_pow_right (by decide) (by omega)
  have hd : dif ws[i] (2 ^ i) < 2 ^ 64 := Nat.lt_of_lt_of_le (dif_lt hfr) (by decide)
  have hbit : ∀ r, (dif ws[i] (2 ^ i)).testBit r = true → r < n := fun r hb => by
    rw [dif_bit] at hb
    exact below_lt hin hi' (by rw [below_eq e]; exact (Bool.and_eq_true_iff.1 hb).1)
  have hsim := eachM_sim (e := fun s => (.inl (s.1, ()) : ((Int × Unit) × Unit) ⊕ Empty)) (g := fun r (s : (Int × Unit) × Unit) => some (.inl ((bitsI .andNot .u32 s.1.1 ((dif (ws.getD r 0) (2 ^ r) : Nat) : Int), ()), ()) : ((Int × Unit) × Unit) ⊕ (((Int × Unit) × Unit) ⊕ Empty)))
    (fun a : Nat => (((a : Int), ()), ())) (fun a r => dif a (dif (ws.getD r 0) (2 ^ r))) (fun a => a < 2 ^ 32) (bitsL (dif ws[i] (2 ^ i))) (dif ws[i] (2 ^ i)) (dif_lt hfr) (fun r hr a ha => by
      have hr := hbit r ((mem_bitsL hd).1 hr)
      have hr' : r < ws.length := by omega
      refine ⟨?_, dif_lt ha⟩
      dsimp only
      rw [getD_of hr', not_u32 ha (dif_lt (hf _ (List.getElem_mem hr')))])
  have hloop := loopM_each (f := order_Above_l1 ((N, cl ws, ()), (i : Int), ())) hd (fun r q s h hb => ?_) (fun s => ?_) _ _ hsim.1
  · constructor
    · unfold order_Above
      simp only [cl_getI, e, Option.map_some, Option.bind_some]
      rw [sets_One_eq (by omega)]
      simp only [Option.bind_some]
      rw [not_u32 hfr hp, wrap_u64 hd, hloop]
      simp only [Option.bind_some, Sum.elim_inl]
      unfold aboveW
      rw [getD_of hi']
    · unfold aboveW
      rw [getD_of hi']
      exact hsim.2
  · have hr := hbit r hb
    have hr' : r < ws.length := by omega
    have e2 : ws[r]? = some ws[r] := List.getElem?_eq_getElem hr'
    unfold order_Above_l1
    simp only [nz_eq, cond_true, tz_eq h, Option.bind_some, cl_getI, e2, Option.map_some, clr_eq h]
    rw [sets_One_eq (by omega)]
    simp only [Option.bind_some]
    rw [not_u32 (hf _ (List.getElem_mem hr')) (Nat.pow_lt_pow_right (by decide) (by omega)), getD_of hr']
  · unfold order_Above_l1
    rfl

theorem aboveW_bit {n : Nat} {ws : List Nat} (hf : Fit ws) (hl : ws.length = n) (hin : Inside n ws) {i : Nat} (hi : i < n) (b : Nat) : (aboveW ws i).testBit b = covered n ws i b := by
  have hi' : i < ws.length := by omega
  have e : ws[i]? = some ws[i] := List.getElem?_eq_getElem hi'
  have hfr := hf _ (List.getElem_mem hi')
  have hd : dif ws[i] (2 ^ i) < 2 ^ 64 := Nat.lt_of_lt_of_le (dif_lt hfr) (by decide)
  have hu : ∀ x, (dif ws[i] (2 ^ i)).testBit x = under ws i x := fun x => by
    unfold under
    rw [dif_bit, Nat.testBit_two_pow, below_eq e, Bool.and_comm]
    by_cases h : i = x <;> simp [h]
  unfold aboveW covered
  rw [getD_of hi', foldl_dif_bit, hu]
  congr 1
  rw [Bool.eq_iff_iff, List.all_eq_true, Bool.not_eq_true', ← Bool.not_eq_true, List.any_eq_true]
  constructor
  · rintro h ⟨x, hx, hb⟩
    obtain ⟨h1, h2⟩ := Bool.and_eq_true_iff.1 hb
    have := h x ((mem_bitsL hd).2 (by rw [hu]; exact h1))
    have hx := List.mem_range.1 hx
    unfold under at h2
    obtain ⟨h3, h4⟩ := Bool.and_eq_true_iff.1 h2
    rw [dif_bit, Nat.testBit_two_pow] at this
    have h5 : (ws.getD x 0).testBit b = true := h4
    rw [h5, decide_eq_false (of_decide_eq_true h3)] at this
    cases this
  · intro h x hx
    have hux := (mem_bitsL hd).1 hx
    rw [hu] at hux
    have hxn : x < n := below_lt hin hi' (Bool.and_eq_true_iff.1 hux).2
    cases hb : (dif (ws.getD x 0) (2 ^ x)).testBit b
    · rfl
    · refine absurd ⟨x, List.mem_range.2 hxn, ?_⟩ h
      rw [dif_bit, Nat.testBit_two_pow] at hb
      obtain ⟨h1, h2⟩ := Bool.and_eq_true_iff.1 hb
      rw [hux]
      unfold under below
      rw [h1]
      have : x ≠ b := by intro e; subst e; simp at h2
      simp [this]

theorem order_Covers_l1_eq {n : Nat} {ws : List Nat} (hf : Fit ws) (hl : ws.length = n) (hn : n ≤ 16) (hin : Inside n ws) {i : Nat} (hi : i < n) (y : List (Int × Int × Unit) × Unit × Unit) (s : List (Int × Int × Unit)) (hs : s.length ≤ 1000) :
    loopM (order_Covers_l1 ((i : Int), y)) (((aboveW ws i : Nat) : Int), s, (), ()) = some (.inl (s ++ coversAt n ws i, (), ())) := by
  have hd : aboveW ws i < 2 ^ 64 := Nat.lt_of_lt_of_le (order_Above_eq (N := 0) hf hl hn hin hi).2 (by decide)
  have hb := aboveW_bit hf hl hin hi
  have hlist : bitsL (aboveW ws i) = (List.range n).filter (covered n ws i) := by
    rw [bitsL_of (n := n) (by omega) (fun r hr => by
      rw [hb] at hr
      unfold covered under at hr
      exact below_lt hin (by omega) (Bool.and_eq_true_iff.1 (Bool.and_eq_true_iff.1 hr).1).2)]
    exact List.filter_congr fun r _ => hb r
  have hlen := bitsL_length (aboveW ws i)
  have happ := eachM_app (e := fun s => (.inl s : (List (Int × Int × Unit) × Unit × Unit) ⊕ Empty)) (g := fun r (s : List (Int × Int × Unit) × Unit × Unit) => cond (roomOk (s.1.length + 1) 16) (some (.inl (s.1 ++ [((i : Int), (r : Int), ())], (), ()) : (List (Int × Int × Unit) × Unit × Unit) ⊕ ((List (Int × Int × Unit) × Unit × Unit) ⊕ Empty))) none)
    (fun a => (a, (), ())) (fun r => ((i : Int), (r : Int), ())) 10000 (bitsL (aboveW ws i)) s (by omega) (fun r _ a ha => by
      dsimp only
      rw [room16 (by omega)]; rfl)
  rw [loopM_each (f := order_Covers_l1 ((i : Int), y)) hd (fun r q s h _ => ?_) (fun s => ?_) _ _ happ]
  · rw [hlist]; rfl
  · unfold order_Covers_l1
    simp only [nz_eq, cond_true, tz_eq h, Option.bind_some, clr_eq h, List.length_singleton, Bool.true_and, Bool.and_true]
    cases roomOk (s.1.length + 1) 16 <;> rfl
  · unfold order_Covers_l1
    rfl

theorem order_Covers_eq {N : Int} {ws : List Nat} (hf : Fit ws) : order_Covers ((N, cl ws, ()), ()) = some (if ordc N ws = 0 then (coversTo N.toNat ws N.toNat, 0, ()) else ([], ordc N ws, ())) := by
  unfold order_Covers
  simp only [order_Check_eq hf, Option.bind_some, cond_bne]
  by_cases h : ordc N ws = 0
  · obtain ⟨h1, h2, h3, h4, h5⟩ := ordc_zero h
    obtain ⟨n, rfl⟩ := Int.eq_ofNat_of_zero_le h1
    rw [if_pos h, if_pos h]
    have hloop : loopM (order_Covers_l2 (((n : Int), cl ws, ()), ())) (0, (fun k => (coversTo n ws k, (), ())) 0) = some (.inl (coversTo n ws n, (), ())) := by
      refine loopM_up n (fun k => (coversTo n ws k, (), ())) _ (fun i hi => ?_) ?_
      · have e0 : decide ((i : Int) < (n : Int)) = true := decide_eq_true (by omega)
        have hA := order_Above_eq (N := (n : Int)) (n := n) hf (by omega) (by omega) h4 hi
        have hlen := coversTo_len n ws i
        have hmul : i * n ≤ 16 * 16 := Nat.mul_le_mul (by omega) (by omega)
        unfold order_Covers_l2
        simp only [e0, cond_true]
        rw [hA.1]
        simp only [Option.bind_some]
        rw [wrap_u64 (Nat.lt_of_lt_of_le hA.2 (by decide)), order_Covers_l1_eq (n := n) hf (by omega) (by omega) h4 hi _ _ (by omega), wrap64 (by omega) (by omega)]
        rfl
      · have e0 : decide ((n : Int) < (n : Int)) = false := decide_eq_false (by omega)
        unfold order_Covers_l2
        simp only [e0, cond_false]
    have hloop' : loopM (order_Covers_l2 (((n : Int), cl ws, ()), ())) (0, [], (), ()) = some (.inl (coversTo n ws n, (), ())) := hloop
    rw [hloop']
    rfl
  · rw [if_neg h, if_neg h]

theorem ref_Under_eq {ws : List Nat} (hf : Fit ws) {N : Int} {i j : Nat} (hi : i < ws.length) (hj : j < 2 ^ 64) : ref_Under ((N, cl ws, ()), (i : Int), (j : Int), ()) = some (under ws i j, ()) := by
  unfold ref_Under under
  rw [cond_bne]
  have e : ws[i]? = some ws[i] := List.getElem?_eq_getElem hi
  by_cases h : i = j
  · subst h; simp
  · have : ¬ (i : Int) = (j : Int) := by omega
    simp only [this, if_false, cl_getI, e, Option.map_some, Option.bind_some]
    rw [ref_Bit_eq (hf _ (List.getElem_mem hi)) hj, below_eq e]
    simp [h]

theorem ref_Covered_eq {n : Nat} {ws : List Nat} (hf : Fit ws) (hl : ws.length = n) (hn : n ≤ 16) {a b : Nat} (ha : a < n) (hb : b < n) : ref_Covered (((n : Int), cl ws, ()), (a : Int), (b : Int), ()) = some (covered n ws a b, ()) := by
  unfold ref_Covered covered
  rw [ref_Under_eq hf (by omega) (by omega)]
  simp only [Option.bind_some]
  rw [loopM_any0 n () (fun x => under ws a x && under ws x b) (.inl (false, ())) (.inr (.inl ())) (fun x hx => ?_) ?_]
  · cases under ws a b <;> cases (List.range n).any (fun x => under ws a x && under ws x b) <;> rfl
  · unfold ref_Covered_l1
    have e0 : decide ((n : Int) < (n : Int)) = false := decide_eq_false (by omega)
    simp only [e0, cond_false]
  · unfold ref_Covered_l1
    have e0 : decide ((x : Int) < (n : Int)) = true := decide_eq_true (by omega)
    simp only [e0, cond_true]
    rw [ref_Under_eq hf (by omega) (by omega), ref_Under_eq hf (by omega) (by omega), wrap64 (by omega) (by omega)]
    cases under ws a x <;> cases under ws x b <;> rfl

theorem ref_OrderCovers_eq {n : Nat} {ws : List Nat} (hf : Fit ws) (hl : ws.length = n) (hn : n ≤ 16) : ref_OrderCovers (((n : Int), cl ws, ()), ()) = some (coversTo n ws n, ()) := by
  have h1 : ∀ (a : Nat) (s : List (Int × Int × Unit)) (y : List (Int × Int × Unit)), a < n → s.length ≤ 1000 → loopM (ref_OrderCovers_l1 (((n : Int), cl ws, ()), ()) (y, (a : Int), ())) (s, 0, ()) = some (.inl (s ++ coversAt n ws a, ())) := by
    intro a s y ha hs
    have h0 : loopM (ref_OrderCovers_l1 (((n : Int), cl ws, ()), ()) (y, (a : Int), ())) ((fun k => s ++ ((List.range k).filter (covered n ws a)).map fun b : Nat => ((a : Int), (b : Int), ())) 0, 0, ()) = some (.inl (s ++ coversAt n ws a, ())) := by
      refine loopM_fold' n (fun k => s ++ ((List.range k).filter (covered n ws a)).map fun b : Nat => ((a : Int), (b : Int), ())) _ (fun b hb => ?_) ?_
      · have hlen : (s ++ ((List.range b).filter (covered n ws a)).map fun b : Nat => ((a : Int), (b : Int), ())).length ≤ 2000 := by
          rw [List.length_append, List.length_map]
          have := List.length_filter_le (covered n ws a) (List.range b)
          rw [List.length_range] at this
          omega
        unfold ref_OrderCovers_l1
        have e0 : decide ((b : Int) < (n : Int)) = true := decide_eq_true (by omega)
        simp only [e0, cond_true]
        rw [ref_Covered_eq hf hl hn ha hb, wrap64 (by omega) (by omega), room16 (by simp only [List.length_singleton]; omega), List.range_succ, List.filter_append, List.map_append]
        cases hc : covered n ws a b
        · simp [hc]
        · simp [hc]
      · unfold ref_OrderCovers_l1
        have e0 : decide ((n : Int) < (n : Int)) = false := decide_eq_false (by omega)
        simp only [e0, cond_false]
        rfl
    simpa using h0
  have h2 : loopM (ref_OrderCovers_l2 (((n : Int), cl ws, ()), ())) (coversTo n ws 0, 0, ()) = some (.inl (coversTo n ws n, ())) := by
    refine loopM_fold' n (coversTo n ws) _ (fun a ha => ?_) ?_
    · have hlen := coversTo_len n ws a
      have hmul : a * n ≤ 16 * 16 := Nat.mul_le_mul (by omega) (by omega)
      unfold ref_OrderCovers_l2
      have e0 : decide ((a : Int) < (n : Int)) = true := decide_eq_true (by omega)
      simp only [e0, cond_true]
      rw [h1 a _ _ ha (by omega), wrap64 (by omega) (by omega)]
      rfl
    · unfold ref_OrderCovers_l2
      have e0 : decide ((n : Int) < (n : Int)) = false := decide_eq_false (by omega)
      simp only [e0, cond_false]
  unfold ref_OrderCovers
  have h3 : loopM (ref_OrderCovers_l2 (((n : Int), cl ws, ()), ())) ([], 0, ()) = some (.inl (coversTo n ws n, ())) := h2
  rw [h3]
  rfl

theorem ref_Pairs_same {l : List (Int × Int × Unit)} (h : l.length ≤ 1000000) : ref_Pairs (l, l, ()) = some (true, ()) := by
  unfold ref_Pairs
  rw [cond_bne, if_pos rfl, loopM_any0 l.length () (fun _ => false) (.inl (false, ())) (.inr (.inl ())) (fun i hi => ?_) ?_]
  · simp
  · unfold ref_Pairs_l1
    simp
  · unfold ref_Pairs_l1
    have e0 : decide ((i : Int) < (l.length : Int)) = true := decide_eq_true (by omega)
    simp only [e0, cond_true, getI_nat, List.getElem?_eq_getElem hi, Option.bind_some]
    rw [wrap64 (by omega) (by omega)]
    simp


/-- THE LAW. -/
theorem orderCovers {N : Int} {ws : List Nat} (hf : Fit ws) : law_OrderCovers ((N, cl ws, ()), ()) = some (true, ()) := by
  unfold law_OrderCovers
  simp only [order_Covers_eq hf, ref_OrderCheck_eq hf, Option.bind_some, cond_bne, cond_beq]
  by_cases h : ordc N ws = 0
  · obtain ⟨h1, h2, h3, h4, h5⟩ := ordc_zero h
    obtain ⟨n, rfl⟩ := Int.eq_ofNat_of_zero_le h1
    have hlen := coversTo_len n ws n
    have hmul : n * n ≤ 16 * 16 := Nat.mul_le_mul (by omega) (by omega)
    simp only [h, if_true, Int.toNat_natCast]
    rw [ref_OrderCovers_eq hf (by omega) (by omega)]
    simp only [Option.bind_some]
    rw [ref_Pairs_same (by omega)]
    rfl
  · simp only [h, if_false, if_true]
    rfl

theorem orderCovers_law (x : ADen sp5.args) (h : WfA sp5.args x) : law_OrderCovers x = some (true, ()) := by
  obtain ⟨⟨N, l, ⟨⟩⟩, ⟨⟩⟩ := x
  obtain ⟨ws, rfl, hf⟩ := words_of h.1.2.1
  exact orderCovers hf

end Go.Proofs.Tryd
