/- Lemmas on functions of the program, by name: order2. -/
import Derived.Test.YthohigdbddilmaaDoorD2Funs
import Derived.Test.YthohigdbddilmaaDoorAbsSums
import Derived.Test.YthohigdbddilmaaDoorD2LibOrder
namespace Go.Proofs.Tryd
open Go Go.Abs


theorem order_Check_l1_eq {n : Nat} {ws : List Nat} (hf : Fit ws) (hl : ws.length = n) (hn : n ≤ 16) :
    loopM (order_Check_l1 (((n : Int), cl ws, ()), ())) (0, ()) = some (((List.range n).findSome? fun i => if dif (ws.getD i 0) (2 ^ n - 1) = 0 then none else some (.inl ((i : Int), ()))).getD (.inr (.inl ()))) := by
  refine loopM_find n _ _ _ (fun i hi => ?_) ?_
  · have hi' : i < ws.length := by omega
    have e : ws[i]? = some ws[i] := List.getElem?_eq_getElem hi'
    have hfr := hf _ (List.getElem_mem hi')
    have hgd : ws.getD i 0 = ws[i] := by rw [List.getD_eq_getElem?_getD, e]; rfl
    unfold order_Check_l1
    have e0 : decide ((i : Int) < ((cl ws).length : Int)) = true := by rw [cl_length]; exact decide_eq_true (by omega)
    have hp : 2 ^ n - 1 < 2 ^ 32 := by have : 2 ^ n < 2 ^ 32 := Nat.pow_lt_pow_right (by decide) (by omega); omega
    simp only [e0, cond_true, cl_getI, e, Option.map_some, Option.bind_some, sets_All_eq (show n ≤ 32 by omega), hgd]
    rw [not_u32 hfr hp, show (0 : Int) = ((0 : Nat) : Int) from rfl, cast_bne, wrap64 (by omega) (by omega)]
    by_cases hz : dif ws[i] (2 ^ n - 1) = 0 <;> simp [hz]
  · unfold order_Check_l1
    have e0 : decide ((n : Int) < ((cl ws).length : Int)) = false := by rw [cl_length]; exact decide_eq_false (by omega)
    simp only [e0, cond_false]

theorem findIdx_cases {n : Nat} {ws : List Nat} (hl : ws.length = n) {β : Type} (b : Nat → β) :
    (¬ Inside n ws ∧ ∃ i, i < n ∧ ((List.range n).findSome? fun i => if dif (ws.getD i 0) (2 ^ n - 1) = 0 then none else some (b i)) = some (b i)) ∨
    (Inside n ws ∧ ((List.range n).findSome? fun i => if dif (ws.getD i 0) (2 ^ n - 1) = 0 then none else some (b i)) = none) := by
  cases h : ((List.range n).findSome? fun i => if dif (ws.getD i 0) (2 ^ n - 1) = 0 then none else some (b i)) with
  | some z =>
    left
    obtain ⟨i, hi, hz⟩ := List.exists_of_findSome?_eq_some h
    have hi := List.mem_range.1 hi
    have e : ws[i]? = some ws[i] := List.getElem?_eq_getElem (by omega)
    have hgd : ws.getD i 0 = ws[i] := by rw [List.getD_eq_getElem?_getD, e]; rfl
    by_cases hd : dif (ws.getD i 0) (2 ^ n - 1) = 0
    · rw [if_pos hd] at hz; cases hz
    · rw [if_neg hd] at hz
      exact ⟨fun hin => hd (by rw [hgd]; exact dif_all.2 (hin _ (List.getElem_mem _))), i, hi, hz.symm⟩
  | none =>
    right
    refine ⟨fun w hw => ?_, rfl⟩
    obtain ⟨i, hi, rfl⟩ := List.getElem_of_mem hw
    have hz := List.findSome?_eq_none_iff.1 h i (List.mem_range.2 (by omega))
    have e : ws[i]? = some ws[i] := List.getElem?_eq_getElem hi
    have hgd : ws.getD i 0 = ws[i] := by rw [List.getD_eq_getElem?_getD, e]; rfl
    rw [hgd] at hz
    by_cases hd : dif ws[i] (2 ^ n - 1) = 0
    · exact dif_all.1 hd
    · rw [if_neg hd] at hz; cases hz

theorem order_Check_eq {N : Int} {ws : List Nat} (hf : Fit ws) : order_Check ((N, cl ws, ()), ()) = some (ordc N ws, ()) := by
  unfold order_Check ordc
  by_cases h1 : N < 0
  · simp only [decide_eq_true h1, cond_true, if_pos h1]
  by_cases h2 : N > 16
  · simp only [decide_eq_false h1, cond_false, decide_eq_true h2, cond_true, if_neg h1, if_pos h2]
  simp only [decide_eq_false h1, cond_false, decide_eq_false h2, if_neg h1, if_neg h2, cl_length, cond_bne]
  by_cases h3 : (ws.length : Int) = N
  · obtain ⟨n, rfl⟩ := Int.eq_ofNat_of_zero_le (show 0 ≤ N by omega)
    have hl : ws.length = n := by omega
    rw [if_pos h3, if_neg (show ¬ ¬ (ws.length : Int) = (n : Int) from fun h => h h3), order_Check_l1_eq hf hl (by omega)]
    rcases findIdx_cases hl (β := (Int × Unit) ⊕ Unit ⊕ Empty) (fun i => .inl ((i : Int), ())) with ⟨hin, i, hi, hz⟩ | ⟨hin, hz⟩
    · rw [hz]
      have e0 : decide ((i : Int) ≥ 0) = true := decide_eq_true (by omega)
      simp only [Option.getD_some, Option.bind_some, Sum.elim_inl, e0, cond_true]
      rw [if_pos (by simpa using hin)]
    · rw [hz]
      have e0 : decide ((-1 : Int) ≥ 0) = false := by decide
      simp only [Option.getD_none, Option.bind_some, Sum.elim_inl, Sum.elim_inr, e0, cond_false]
      rw [order_Check_l5_eq hf hl (by omega) hin, if_neg (show ¬ ¬ Inside (n : Int).toNat ws from fun h => h hin)]
      have hb := badI_iff hf hl (by omega) hin
      by_cases hany : (List.range n).any (badI ws) = true
      · have : ¬ IsOrder (n : Int).toNat ws := fun o => by rw [hb.2 o] at hany; cases hany
        rw [if_pos hany, if_neg this]; rfl
      · have : IsOrder (n : Int).toNat ws := hb.1 (by simpa using hany)
        rw [if_neg hany, if_pos this]; rfl
  · rw [if_neg h3, if_pos h3]

/-! The reference. -/
theorem any_range'_iff {a k : Nat} {bad : Nat → Bool} : (List.range' a k).any bad = true ↔ ∃ i, a ≤ i ∧ i < a + k ∧ bad i = true := by
  rw [List.any_eq_true]
  constructor
  · rintro ⟨i, hi, hb⟩
    rw [List.mem_range'_1] at hi
    exact ⟨i, hi.1, hi.2, hb⟩
  · rintro ⟨i, h1, h2, hb⟩
    exact ⟨i, List.mem_range'_1.2 ⟨h1, h2⟩, hb⟩

theorem ref_Outside_eq {w n : Nat} (hw : w < 2 ^ 32) (hn : n ≤ 32) : ref_Outside ((w : Int), (n : Int), ()) = some ((List.range' n (32 - n)).any (w.testBit ·), ()) := by
  unfold ref_Outside
  rw [loopM_any n 32 () (w.testBit ·) (.inl (true, ())) (.inr (.inl ())) hn (fun i _ hi => ?_) ?_]
  · cases (List.range' n (32 - n)).any (w.testBit ·) <;> rfl
  · unfold ref_Outside_l1
    rfl
  · unfold ref_Outside_l1
    have e0 : decide ((i : Int) < 32) = true := decide_eq_true (by omega)
    simp only [e0, cond_true]
    rw [ref_Bit_eq hw (by omega), wrap64 (by omega) (by omega)]
    cases w.testBit i <;> rfl

theorem outside_iff {w n : Nat} (hw : w < 2 ^ 32) : (List.range' n (32 - n)).any (w.testBit ·) = false ↔ ∀ i, n ≤ i → w.testBit i = false := by
  rw [← Bool.not_eq_true, any_range'_iff]
  constructor
  · intro h i hi
    cases hb : w.testBit i
    · rfl
    · exact absurd ⟨i, hi, by have := bit_lt hw hb; omega, hb⟩ h
  · rintro h ⟨i, h1, _, h3⟩
    rw [h i h1] at h3; cases h3

/-- What stands in the way at three numbers. -/
def badK (ws : List Nat) (i j k : Nat) : Bool := below ws i j && (below ws j k && !below ws i k)
def badIJ (n : Nat) (ws : List Nat) (i j : Nat) : Bool := (if i = j then !below ws i i else below ws i j && below ws j i) || (List.range n).any (badK ws i j)

theorem ref_l2_eq {n : Nat} {ws : List Nat} (hf : Fit ws) (hl : ws.length = n) (hn : n ≤ 16) {i j : Nat} (hi : i < n) (hj : j < n) :
    loopM (ref_OrderCheck_l2 (((n : Int), cl ws, ()), ()) ((i : Int), ()) ((j : Int), ())) (0, ()) = some (if (List.range n).any (badK ws i j) = true then .inl (3, ()) else .inr (.inl ())) := by
  refine loopM_any0 n _ _ _ _ (fun k hk => ?_) ?_
  · unfold ref_OrderCheck_l2
    have e0 : decide ((k : Int) < (n : Int)) = true := decide_eq_true (by omega)
    simp only [e0, cond_true]
    rw [ref_Below_eq hf (by omega) (by omega), ref_Below_eq hf (by omega) (by omega), ref_Below_eq hf (by omega) (by omega), wrap64 (by omega) (by omega)]
    unfold badK
    cases below ws i j <;> cases below ws j k <;> cases below ws i k <;> rfl
  · unfold ref_OrderCheck_l2
    have e0 : decide ((n : Int) < (n : Int)) = false := decide_eq_false (by omega)
    simp only [e0, cond_false]
theorem ref_l3_same : ref_OrderCheck_l3 = ref_OrderCheck_l2 := rfl
theorem ref_l4_same : ref_OrderCheck_l4 = ref_OrderCheck_l2 := rfl
theorem ref_l5_same : ref_OrderCheck_l5 = ref_OrderCheck_l2 := rfl
theorem ref_l6_same : ref_OrderCheck_l6 = ref_OrderCheck_l2 := rfl
theorem ref_l7_same : ref_OrderCheck_l7 = ref_OrderCheck_l2 := rfl

theorem ref_l8_eq {n : Nat} {ws : List Nat} (hf : Fit ws) (hl : ws.length = n) (hn : n ≤ 16) {i : Nat} (hi : i < n) :
    loopM (ref_OrderCheck_l8 (((n : Int), cl ws, ()), ()) ((i : Int), ())) (0, ()) = some (if (List.range n).any (badIJ n ws i) = true then .inl (3, ()) else .inr (.inl ())) := by
  refine loopM_any0 n _ _ _ _ (fun j hj => ?_) ?_
  · unfold ref_OrderCheck_l8
    rw [ref_l3_same, ref_l4_same, ref_l5_same, ref_l6_same, ref_l7_same]
    have e0 : decide ((j : Int) < (n : Int)) = true := decide_eq_true (by omega)
    simp only [e0, cond_true]
    rw [ref_l2_eq hf hl hn hi hj, ref_Below_eq hf (by omega) (by omega), ref_Below_eq hf (by omega) (by omega), ref_Below_eq hf (by omega) (by omega), wrap64 (by omega) (by omega), cond_beq, cond_bne]
    simp only [Option.bind_some]
    unfold badIJ
    by_cases hij : i = j
    · subst hij
      simp only [if_true]
      cases below ws i i <;> cases (List.range n).any (badK ws i i) <;> rfl
    · have : ¬ (i : Int) = (j : Int) := by omega
      simp only [this, hij, if_false]
      cases below ws i j <;> cases below ws j i <;> cases (List.range n).any (badK ws i j) <;> rfl
  · unfold ref_OrderCheck_l8
    have e0 : decide ((n : Int) < (n : Int)) = false := decide_eq_false (by omega)
    simp only [e0, cond_false]

theorem ref_l9_eq {n : Nat} {ws : List Nat} (hf : Fit ws) (hl : ws.length = n) (hn : n ≤ 16) :
    loopM (ref_OrderCheck_l9 (((n : Int), cl ws, ()), ())) (0, ()) = some (if (List.range n).any (fun i => (List.range n).any (badIJ n ws i)) = true then .inl (3, ()) else .inr (.inl ())) := by
  refine loopM_any0 n _ _ _ _ (fun i hi => ?_) ?_
  · unfold ref_OrderCheck_l9
    have e0 : decide ((i : Int) < (n : Int)) = true := decide_eq_true (by omega)
    simp only [e0, cond_true]
    rw [ref_l8_eq hf hl hn hi, wrap64 (by omega) (by omega)]
    cases (List.range n).any (badIJ n ws i) <;> rfl
  · unfold ref_OrderCheck_l9
    have e0 : decide ((n : Int) < (n : Int)) = false := decide_eq_false (by omega)
    simp only [e0, cond_false]

theorem badIJ_iff {n : Nat} {ws : List Nat} : (List.range n).any (fun i => (List.range n).any (badIJ n ws i)) = false ↔ IsOrder n ws := by
  have hb : ∀ i j, badIJ n ws i j = false ↔ (if i = j then below ws i i = true else (below ws i j = true → below ws j i = false)) ∧ ∀ k, k < n → below ws i j = true → below ws j k = true → below ws i k = true := by
    intro i j
    unfold badIJ
    rw [Bool.or_eq_false_iff, List.any_eq_false]
    refine and_congr ?_ ?_
    · by_cases h : i = j
      · simp [h]
      · simp only [h, if_false]; cases below ws i j <;> cases below ws j i <;> simp
    · constructor
      · intro h k hk h1 h2
        have := h k (List.mem_range.2 hk)
        unfold badK at this
        rw [h1, h2] at this
        simpa using this
      · intro h k hk
        unfold badK
        have := h k (List.mem_range.1 hk)
        cases h1 : below ws i j <;> cases h2 : below ws j k <;> simp_all
  rw [List.any_eq_false]
  constructor
  · intro h
    have h' : ∀ i j, i < n → j < n → badIJ n ws i j = false := fun i j hi hj => by
      have := List.any_eq_false.1 (by simpa using h i (List.mem_range.2 hi)) j (List.mem_range.2 hj)
      simpa using this
    refine ⟨fun i hi => ?_, fun i j hi hj hij h1 => ?_, fun i j k hi hj hk => ((hb i j).1 (h' i j hi hj)).2 k hk⟩
    · simpa using ((hb i i).1 (h' i i hi hi)).1
    · have := ((hb i j).1 (h' i j hi hj)).1
      rw [if_neg hij] at this
      exact this h1
  · intro o i hi
    have hi := List.mem_range.1 hi
    rw [Bool.not_eq_true, List.any_eq_false]
    intro j hj
    have hj := List.mem_range.1 hj
    rw [Bool.not_eq_true, hb]
    refine ⟨?_, fun k hk => o.trans i j k hi hj hk⟩
    by_cases h : i = j
    · subst h; simpa using o.refl i hi
    · rw [if_neg h]; exact o.anti i j hi hj h

theorem ref_l1_eq {n : Nat} {ws : List Nat} (hf : Fit ws) (hl : ws.length = n) (hn : n ≤ 16) :
    loopM (ref_OrderCheck_l1 (((n : Int), cl ws, ()), ())) (0, ()) = some (if (List.range n).any (fun i => (List.range' n (32 - n)).any ((ws.getD i 0).testBit ·)) = true then .inl (2, ()) else .inr (.inl ())) := by
  refine loopM_any0 n _ _ _ _ (fun i hi => ?_) ?_
  · unfold ref_OrderCheck_l1
    have e : ws[i]? = some ws[i] := List.getElem?_eq_getElem (by omega)
    have hgd : ws.getD i 0 = ws[i] := by rw [List.getD_eq_getElem?_getD, e]; rfl
    have e0 : decide ((i : Int) < (n : Int)) = true := decide_eq_true (by omega)
    simp only [e0, cond_true, cl_getI, e, Option.map_some, Option.bind_some, hgd]
    rw [ref_Outside_eq (hf _ (List.getElem_mem _)) (by omega), wrap64 (by omega) (by omega)]
    simp only [Option.bind_some]
    cases (List.range' n (32 - n)).any (ws[i].testBit ·) <;> rfl
  · unfold ref_OrderCheck_l1
    have e0 : decide ((n : Int) < (n : Int)) = false := decide_eq_false (by omega)
    simp only [e0, cond_false]

theorem inside_any {n : Nat} {ws : List Nat} (hf : Fit ws) (hl : ws.length = n) : (List.range n).any (fun i => (List.range' n (32 - n)).any ((ws.getD i 0).testBit ·)) = false ↔ Inside n ws := by
  rw [List.any_eq_false]
  constructor
  · intro h w hw
    obtain ⟨i, hi, rfl⟩ := List.getElem_of_mem hw
    have e : ws[i]? = some ws[i] := List.getElem?_eq_getElem hi
    have hgd : ws.getD i 0 = ws[i] := by rw [List.getD_eq_getElem?_getD, e]; rfl
    have := h i (List.mem_range.2 (by omega))
    rw [Bool.not_eq_true, hgd] at this
    exact (outside_iff (hf _ (List.getElem_mem _))).1 this
  · intro hin i hi
    have hi := List.mem_range.1 hi
    have e : ws[i]? = some ws[i] := List.getElem?_eq_getElem (by omega)
    have hgd : ws.getD i 0 = ws[i] := by rw [List.getD_eq_getElem?_getD, e]; rfl
    rw [Bool.not_eq_true, hgd]
    exact (outside_iff (hf _ (List.getElem_mem _))).2 (hin _ (List.getElem_mem _))

theorem ref_OrderCheck_eq {N : Int} {ws : List Nat} (hf : Fit ws) : ref_OrderCheck ((N, cl ws, ()), ()) = some (ordc N ws, ()) := by
  unfold ref_OrderCheck ordc
  by_cases h1 : N < 0
  · simp only [decide_eq_true h1, cond_true, if_pos h1]
  by_cases h2 : N > 16
  · simp only [decide_eq_false h1, cond_false, decide_eq_true h2, cond_true, if_neg h1, if_pos h2]
  simp only [decide_eq_false h1, cond_false, decide_eq_false h2, if_neg h1, if_neg h2, cl_length, cond_bne]
  by_cases h3 : (ws.length : Int) = N
  · obtain ⟨n, rfl⟩ := Int.eq_ofNat_of_zero_le (show 0 ≤ N by omega)
    have hl : ws.length = n := by omega
    rw [if_pos h3, if_neg (show ¬ ¬ (ws.length : Int) = (n : Int) from fun h => h h3), ref_l1_eq hf hl (by omega), ref_l9_eq hf hl (by omega)]
    have hi := inside_any hf hl
    have hb := badIJ_iff (n := n) (ws := ws)
    by_cases hin : Inside n ws
    · rw [hi.2 hin, if_neg (show ¬ ¬ Inside (n : Int).toNat ws by simpa using hin)]
      by_cases ho : IsOrder n ws
      · rw [hb.2 ho, if_pos (show IsOrder (n : Int).toNat ws from ho)]; rfl
      · have : (List.range n).any (fun i => (List.range n).any (badIJ n ws i)) = true := by
          cases h : (List.range n).any (fun i => (List.range n).any (badIJ n ws i))
          · exact absurd (hb.1 h) ho
          · rfl
        rw [this, if_neg (show ¬ IsOrder (n : Int).toNat ws from ho)]; rfl
    · have : (List.range n).any (fun i => (List.range' n (32 - n)).any ((ws.getD i 0).testBit ·)) = true := by
        cases h : (List.range n).any (fun i => (List.range' n (32 - n)).any ((ws.getD i 0).testBit ·))
        · exact absurd (hi.1 h) hin
        · rfl
      rw [this, if_pos (show ¬ Inside (n : Int).toNat ws from hin)]; rfl
  · rw [if_neg h3, if_pos h3]

/-- What a good order is. -/
theorem ordc_zero {N : Int} {ws : List Nat} (h : ordc N ws = 0) : 0 ≤ N ∧ N ≤ 16 ∧ (ws.length : Int) = N ∧ Inside N.toNat ws ∧ IsOrder N.toNat ws := by
  unfold ordc at h
  by_cases h1 : N < 0
  · rw [if_pos h1] at h; cases h
  rw [if_neg h1] at h
  by_cases h2 : N > 16
  · rw [if_pos h2] at h; cases h
  rw [if_neg h2] at h
  by_cases h3 : (ws.length : Int) = N
  · rw [if_neg (fun k => k h3)] at h
    by_cases h4 : Inside N.toNat ws
    · rw [if_neg (fun k => k h4)] at h
      by_cases h5 : IsOrder N.toNat ws
      · exact ⟨by omega, by omega, h3, h4, h5⟩
      · rw [if_neg h5] at h; cases h
    · rw [if_pos h4] at h; cases h
  · rw [if_pos h3] at h; cases h

end Go.Proofs.Tryd
