/- Lemmas on functions of the program, by name: order2. -/
import Derived.Test.YtoddbincogignaaDoorD5Funs
import Derived.Test.YtoddbincogignaaDoorAbsSums
import Derived.Test.YtoddbincogignaaDoorD5LibOrder
namespace Go.Proofs.Tryd
open Go Go.Abs


theorem findIdx_cases {n : Nat} {ws : List Nat} (hl : ws.length = n) {β : Type} (b : Nat → β) :
    (¬ Inside n ws ∧ ∃ i, i < n ∧ ((List.range n).findSome? fun i => if dif (ws.getD i 0) (2 ^ n - 1) = 0 then none else some (b i)) = some (b i)) ∨
    (Inside n ws ∧ ((List.range n).findSome? fun i => if dif (ws.getD i 0) (2 ^ n - 1) = 0 then none else some (b i)) = none) := by
  cases h : ((List.range n).findSome? fun i => if dif (ws.getD i 0) (2 ^ n - 1) = 0 then none else some (b i)) with
  | some z =>
    left
    obtain ⟨i, hi, hz⟩ := List.exists_of_findSome?_eq_some h
    have hi := List.mem_range.1 hi
    have e : ws[i]? = some ws[i] := List.getElem?_eq_getElem (by omega)
    have hgd : ws.getD i 0 = ws[i] := by rw [List.getD_eq_getElem?_getD, e]; rfl
    by_cases hd : dif (ws.getD i 0) (2 ^ n - 1) = 0
    · rw [if_pos hd] at hz; cases hz
    · rw [if_neg hd] at hz
      exact ⟨fun hin => hd (by rw [hgd]; exact dif_all.2 (hin _ (List.getElem_mem _))), i, hi, hz.symm⟩
  | none =>
    right
    refine ⟨fun w hw => ?_, rfl⟩
    obtain ⟨i, hi, rfl⟩ := List.getElem_of_mem hw
    have hz := List.findSome?_eq_none_iff.1 h i (List.mem_range.2 (by omega))
    have e : ws[i]? = some ws[i] := List.getElem?_eq_getElem hi
    have hgd : ws.getD i 0 = ws[i] := by rw [List.getD_eq_getElem?_getD, e]; rfl
    rw [hgd] at hz
    by_cases hd : dif ws[i] (2 ^ n - 1) = 0
    · exact dif_all.1 hd
    · rw [if_neg hd] at hz; cases hz

/-! The reference. -/
theorem any_range'_iff {a k : Nat} {bad : Nat → Bool} : (List.range' a k).any bad = true ↔ ∃ i, a ≤ i ∧ i < a + k ∧ bad i = true := by
  rw [List.any_eq_true]
  constructor
  · rintro ⟨i, hi, hb⟩
    rw [List.mem_range'_1] at hi
    exact ⟨i, hi.1, hi.2, hb⟩
  · rintro ⟨i, h1, h2, hb⟩
    exact ⟨i, List.mem_range'_1.2 ⟨h1, h2⟩, hb⟩

theorem ref_Outside_eq {w n : Nat} (hw : w < 2 ^ 32) (hn : n ≤ 32) : ref_Outside ((w : Int), (n : Int), ()) = some ((List.range' n (32 - n)).any (w.testBit ·), ()) := by
  unfold ref_Outside
  rw [loopM_any n 32 () (w.testBit ·) (.inl (true, ())) (.inr (.inl ())) hn (fun i _ hi => ?_) ?_]
  · cases (List.range' n (32 - n)).any (w.testBit ·) <;> rfl
  · unfold ref_Outside_l1
    rfl
  · unfold ref_Outside_l1
    have e0 : decide ((i : Int) < 32) = true := decide_eq_true (by omega)
    simp only [e0, cond_true]
    rw [ref_Bit_eq hw (by omega), wrap64 (by omega) (by omega)]
    cases w.testBit i <;> rfl

theorem outside_iff {w n : Nat} (hw : w < 2 ^ 32) : (List.range' n (32 - n)).any (w.testBit ·) = false ↔ ∀ i, n ≤ i → w.testBit i = false := by
  rw [← Bool.not_eq_true, any_range'_iff]
  constructor
  · intro h i hi
    cases hb : w.testBit i
    · rfl
    · exact absurd ⟨i, hi, by have := bit_lt hw hb; omega, hb⟩ h
  · rintro h ⟨i, h1, _, h3⟩
    rw [h i h1] at h3; cases h3

/-- What stands in the way at three numbers. -/
def badK (ws : List Nat) (i j k : Nat) : Bool := below ws i j && (below ws j k && !below ws i k)
def badIJ (n : Nat) (ws : List Nat) (i j : Nat) : Bool := (if i = j then !below ws i i else below ws i j && below ws j i) || (List.range n).any (badK ws i j)

theorem badIJ_iff {n : Nat} {ws : List Nat} : (List.range n).any (fun i => (List.range n).any (badIJ n ws i)) = false ↔ IsOrder n ws := by
  have hb : ∀ i j, badIJ n ws i j = false ↔ (if i = j then below ws i i = true else (below ws i j = true → below ws j i = false)) ∧ ∀ k, k < n → below ws i j = true → below ws j k = true → below ws i k = true := by
    intro i j
    unfold badIJ
    rw [Bool.or_eq_false_iff, List.any_eq_false]
    refine and_congr ?_ ?_
    · by_cases h : i = j
      · simp [h]
      · simp only [h, if_false]; cases below ws i j <;> cases below ws j i <;> simp
    · constructor
      · intro h k hk h1 h2
        have := h k (List.mem_range.2 hk)
        unfold badK at this
        rw [h1, h2] at this
        simpa using this
      · intro h k hk
        unfold badK
        have := h k (List.mem_range.1 hk)
        cases h1 : below ws i j <;> cases h2 : below ws j k <;> simp_all
  rw [List.any_eq_false]
  constructor
  · intro h
    have h' : ∀ i j, i < n → j < n → badIJ n ws i j = false := fun i j hi hj => by
      have := List.any_eq_false.1 (by simpa using h i (List.mem_range.2 hi)) j (List.mem_range.2 hj)
      simpa using this
    refine ⟨fun i hi => ?_, fun i j hi hj hij h1 => ?_, fun i j k hi hj hk => ((hb i j).1 (h' i j hi hj)).2 k hk⟩
    · simpa using ((hb i i).1 (h' i i hi hi)).1
    · have := ((hb i j).1 (h' i j hi hj)).1
      rw [if_neg hij] at this
      exact this h1
  · intro o i hi
    have hi := List.mem_range.1 hi
    rw [Bool.not_eq_true, List.any_eq_false]
    intro j hj
    have hj := List.mem_range.1 hj
    rw [Bool.not_eq_true, hb]
    refine ⟨?_, fun k hk => o.trans i j k hi hj hk⟩
    by_cases h : i = j
    · subst h; simpa using o.refl i hi
    · rw [if_neg h]; exact o.anti i j hi hj h

theorem inside_any {n : Nat} {ws : List Nat} (hf : Fit ws) (hl : ws.length = n) : (List.range n).any (fun i => (List.range' n (32 - n)).any ((ws.getD i 0).testBit ·)) = false ↔ Inside n ws := by
  rw [List.any_eq_false]
  constructor
  · intro h w hw
    obtain ⟨i, hi, rfl⟩ := List.getElem_of_mem hw
    have e : ws[i]? = some ws[i] := List.getElem?_eq_getElem hi
    have hgd : ws.getD i 0 = ws[i] := by rw [List.getD_eq_getElem?_getD, e]; rfl
    have := h i (List.mem_range.2 (by omega))
    rw [Bool.not_eq_true, hgd] at this
    exact (outside_iff (hf _ (List.getElem_mem _))).1 this
  · intro hin i hi
    have hi := List.mem_range.1 hi
    have e : ws[i]? = some ws[i] := List.getElem?_eq_getElem (by omega)
    have hgd : ws.getD i 0 = ws[i] := by rw [List.getD_eq_getElem?_getD, e]; rfl
    rw [Bool.not_eq_true, hgd]
    exact (outside_iff (hf _ (List.getElem_mem _))).2 (hin _ (List.getElem_mem _))

/-- What a good order is. -/
theorem ordc_zero {N : Int} {ws : List Nat} (h : ordc N ws = 0) : 0 ≤ N ∧ N ≤ 16 ∧ (ws.length : Int) = N ∧ Inside N.toNat ws ∧ IsOrder N.toNat ws := by
  unfold ordc at h
  by_cases h1 : N < 0
  · rw [if_pos h1] at h; cases h
  rw [if_neg h1] at h
  by_cases h2 : N > 16
  · rw [if_pos h2] at h; cases h
  rw [if_neg h2] at h
  by_cases h3 : (ws.length : Int) = N
  · rw [if_neg (fun k => k h3)] at h
    by_cases h4 : Inside N.toNat ws
    · rw [if_neg (fun k => k h4)] at h
      by_cases h5 : IsOrder N.toNat ws
      · exact ⟨by omega, by omega, h3, h4, h5⟩
      · rw [if_neg h5] at h; cases h
    · rw [if_pos h4] at h; cases h
  · rw [if_pos h3] at h; cases h

end Go.Proofs.Tryd
