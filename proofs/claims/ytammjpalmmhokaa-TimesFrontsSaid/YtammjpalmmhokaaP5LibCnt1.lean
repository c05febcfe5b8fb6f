/- Lemmas on functions of the program, by name: cnt1. -/
import Derived.Test.YtammjpalmmhokaaP5Funs
import Derived.Test.YtammjpalmmhokaaAbsSums
import Derived.Test.YtammjpalmmhokaaP5LibTimes
import Derived.Test.YtammjpalmmhokaaP5LibFindm
namespace Go.Proofs.Try
open Go Go.Abs


/-! Times compared. -/
def cmpL : List Int → List Int → Int
  | [], [] => 0
  | [], _ :: _ => -1
  | _ :: _, [] => 1
  | a :: r, b :: s => if a < b then -1 else if a > b then 1 else cmpL r s
theorem cmpL_eq : ∀ {a b : List Int}, cmpL a b = 0 ↔ a = b
  | [], [] => by simp [cmpL]
  | [], _ :: _ => by simp [cmpL]
  | _ :: _, [] => by simp [cmpL]
  | a :: r, b :: s => by
    have ih := cmpL_eq (a := r) (b := s)
    simp only [cmpL, List.cons.injEq]
    split
    · constructor
      · intro h; omega
      · intro h; omega
    · split
      · constructor
        · intro h; omega
        · intro h; omega
      · rw [ih]; constructor
        · intro h; exact ⟨by omega, h⟩
        · exact fun h => h.2
theorem cmpL_neg : ∀ (a b : List Int), cmpL b a = - cmpL a b
  | [], [] => rfl
  | [], _ :: _ => rfl
  | _ :: _, [] => rfl
  | a :: r, b :: s => by
    have ih := cmpL_neg r s
    simp only [cmpL]
    by_cases h1 : a < b
    · rw [if_pos h1, if_neg (by omega), if_pos (by omega)]; rfl
    · by_cases h2 : a > b
      · rw [if_pos (show b < a from h2), if_neg h1, if_pos h2]
      · rw [if_neg h1, if_neg h2, if_neg (by omega), if_neg (by omega), ih]
theorem cmpL_trans : ∀ {a b c : List Int}, cmpL a b < 0 → cmpL b c < 0 → cmpL a c < 0
  | [], [], c, h, _ => by simp [cmpL] at h
  | [], _ :: _, [], _, h => by simp [cmpL] at h
  | [], _ :: _, _ :: _, _, _ => by simp [cmpL]
  | _ :: _, [], _, h, _ => by simp [cmpL] at h
  | _ :: _, _ :: _, [], _, h => by simp [cmpL] at h
  | a :: r, b :: s, c :: t, h1, h2 => by
    simp only [cmpL] at h1 h2 ⊢
    have ih := cmpL_trans (a := r) (b := s) (c := t)
    by_cases hab : a < b
    · by_cases hbc : b < c
      · rw [if_pos (by omega)]; decide
      · rw [if_neg hbc] at h2
        by_cases hbc2 : b > c
        · rw [if_pos hbc2] at h2; omega
        · rw [if_pos (by omega)]; decide
    · rw [if_neg hab] at h1
      by_cases hab2 : a > b
      · rw [if_pos hab2] at h1; omega
      · rw [if_neg hab2] at h1
        by_cases hbc : b < c
        · rw [if_pos (by omega)]; decide
        · rw [if_neg hbc] at h2
          by_cases hbc2 : b > c
          · rw [if_pos hbc2] at h2; omega
          · rw [if_neg hbc2] at h2
            rw [if_neg (by omega), if_neg (by omega)]
            exact ih h1 h2
theorem cmpL_irr (a : List Int) : ¬ cmpL a a < 0 := by rw [cmpL_eq.2 rfl]; decide

theorem cmp_Compare_eq (v w : Int) : cmp_Compare_int (v, w, ()) = some (if v < w then -1 else if v > w then 1 else 0, ()) := by
  unfold cmp_Compare_int cmp_isNaN_int
  simp only [bneF rfl, Option.bind_some, cond_false, cond_dec]
  split
  · rfl
  · split <;> rfl

theorem slices_Compare_eq {a b : List Int} (ha : a.length ≤ 1000000) : slices_Compare_s_int_int (a, b, ()) = some (cmpL a b, ()) := by
  have key : ∀ k i, i + k = a.length → i ≤ b.length → (loopM (slices_Compare_s_int_int_l1 (a, b, ())) ((i : Int), ())).bind (Sum.elim (fun z5 => (some z5)) (Sum.elim (fun z6 => (cond (decide ((a.length : Int) < (b.length : Int))) (some ((-1 : Int), ())) (some ((0 : Int), ())))) Empty.elim)) = some (cmpL (a.drop i) (b.drop i), ()) := by
    intro k
    induction k with
    | zero =>
      intro i hi hb
      have hi' : i = a.length := by omega
      rw [loopM_inr (b := .inr (.inl ())) (by
        unfold slices_Compare_s_int_int_l1
        simp only [dcF (show ¬ (i : Int) < (a.length : Int) by omega), cond_false])]
      rw [List.drop_of_length_le (by omega)]
      simp only [Option.bind_some, Sum.elim_inl, Sum.elim_inr, cond_dec]
      by_cases hlt : i < b.length
      · rw [List.drop_eq_getElem_cons hlt, if_pos (by omega)]; rfl
      · rw [List.drop_of_length_le (by omega), if_neg (by omega)]; rfl
    | succ k ih =>
      intro i hi hb
      have hia : i < a.length := by omega
      by_cases hib : i < b.length
      · have hst : slices_Compare_s_int_int_l1 (a, b, ()) ((i : Int), ()) = cond (cmpL [a[i]] [b[i]] != 0) (some (.inr (.inl (cmpL [a[i]] [b[i]], ())))) (some (.inl (((i + 1 : Nat) : Int), ()))) := by
          unfold slices_Compare_s_int_int_l1
          simp only [dcT (show (i : Int) < (a.length : Int) by omega), dcF (show ¬ (i : Int) ≥ (b.length : Int) by omega), cond_true, cond_false, getI_lt hia, getI_lt hib, Option.bind_some, cmp_Compare_eq, wrapS (show i < 9223372036854775807 by omega)]
          rfl
        rw [List.drop_eq_getElem_cons hia, List.drop_eq_getElem_cons hib]
        by_cases h1 : a[i] < b[i]
        · have hc : cmpL [a[i]] [b[i]] = -1 := by simp only [cmpL, if_pos h1]
          rw [hc] at hst
          rw [loopM_inr hst]; simp only [cmpL, if_pos h1]; rfl
        · by_cases h2 : a[i] > b[i]
          · have hc : cmpL [a[i]] [b[i]] = 1 := by simp only [cmpL, if_neg h1, if_pos h2]
            rw [hc] at hst
            rw [loopM_inr hst]; simp only [cmpL, if_neg h1, if_pos h2]; rfl
          · have hc : cmpL [a[i]] [b[i]] = 0 := by simp only [cmpL, if_neg h1, if_neg h2]
            rw [hc] at hst
            rw [loopM_inl hst, ih (i + 1) (by omega) (by omega)]
            simp only [cmpL, if_neg h1, if_neg h2]
      · have hst : slices_Compare_s_int_int_l1 (a, b, ()) ((i : Int), ()) = some (.inr (.inl ((1 : Int), ()))) := by
          unfold slices_Compare_s_int_int_l1
          simp only [dcT (show (i : Int) < (a.length : Int) by omega), dcT (show (i : Int) ≥ (b.length : Int) by omega), cond_true, getI_lt hia, Option.bind_some]
        rw [loopM_inr hst, List.drop_eq_getElem_cons hia, List.drop_of_length_le (l := b) (show b.length ≤ i by omega)]
        rfl
  unfold slices_Compare_s_int_int
  exact key a.length 0 (by omega) (by omega)

def lessB (a b : List Int) : Bool := decide (a.length = b.length) && (decide (chk a = 0) && (decide (chk b = 0) && decide (cmpL a b < 0)))
theorem lessB_iff {a b : List Int} : lessB a b = true ↔ a.length = b.length ∧ chk a = 0 ∧ chk b = 0 ∧ cmpL a b < 0 := by
  unfold lessB
  simp only [Bool.and_eq_true, decide_eq_true_eq]
theorem lessB_of {a b : List Int} (h : a.length = b.length) (ha : chk a = 0) (hb : chk b = 0) : lessB a b = decide (cmpL a b < 0) := by
  unfold lessB
  rw [decide_eq_true h, decide_eq_true ha, decide_eq_true hb]; rfl
theorem times_alike_eq (a b : List Int) : times_alike (a, b, ()) = some (decide (a.length = b.length) && (decide (chk a = 0) && decide (chk b = 0)), ()) := by
  unfold times_alike
  simp only [times_Check_eq, Option.bind_some, cond_beq]
  by_cases h : a.length = b.length
  · rw [if_pos (by omega), decide_eq_true h]
    by_cases h2 : chk a = 0
    · rw [if_pos h2, decide_eq_true h2]; simp only [Bool.true_and]; rfl
    · rw [if_neg h2, decide_eq_false h2]; rfl
  · rw [if_neg (by omega), decide_eq_false h]; rfl
theorem ref_TimesLess_eq (a b : List Int) : ref_TimesLess (a, b, ()) = some (lessB a b, ()) := by
  unfold ref_TimesLess lessB
  simp only [ref_TimesCheck_eq, Option.bind_some, cond_bne]
  by_cases h : a.length = b.length
  · rw [if_pos (by omega), decide_eq_true h]
    by_cases h2 : chk a = 0
    · rw [if_pos h2, decide_eq_true h2]
      by_cases h3 : chk b = 0
      · rw [if_pos h3, decide_eq_true h3]
        have h4 := (chk_zero h2).2.1
        have key : ∀ k i, i + k = a.length → (loopM (ref_TimesLess_l1 (a, b, ())) ((i : Int), ())).bind (Sum.elim (fun z8 => (some z8)) (Sum.elim (fun z9 => (some (false, ()))) Empty.elim)) = some (decide (cmpL (a.drop i) (b.drop i) < 0), ()) := by
          intro k
          induction k with
          | zero =>
            intro i hi
            rw [loopM_inr (b := .inr (.inl ())) (by
              unfold ref_TimesLess_l1
              simp only [dcF (show ¬ (i : Int) < (a.length : Int) by omega), cond_false])]
            rw [List.drop_of_length_le (by omega), List.drop_of_length_le (by omega)]; rfl
          | succ k ih =>
            intro i hi
            have hia : i < a.length := by omega
            have hib : i < b.length := by omega
            have hst : ref_TimesLess_l1 (a, b, ()) ((i : Int), ()) = cond (a[i] != b[i]) (some (.inr (.inl (decide (a[i] < b[i]), ())))) (some (.inl (((i + 1 : Nat) : Int), ()))) := by
              unfold ref_TimesLess_l1
              simp only [dcT (show (i : Int) < (a.length : Int) by omega), cond_true, getI_lt hia, getI_lt hib, Option.bind_some, wrapS (show i < 9223372036854775807 by omega)]
            rw [List.drop_eq_getElem_cons hia, List.drop_eq_getElem_cons hib]
            by_cases he : a[i] = b[i]
            · rw [bneF he, cond_false] at hst
              rw [loopM_inl hst, ih (i + 1) (by omega)]
              simp only [cmpL, if_neg (show ¬ a[i] < b[i] by omega), if_neg (show ¬ a[i] > b[i] by omega)]
            · rw [bneT he, cond_true] at hst
              rw [loopM_inr hst]
              by_cases h1 : a[i] < b[i]
              · simp only [cmpL, if_pos h1, decide_eq_true h1]; rfl
              · simp only [cmpL, if_neg h1, if_pos (show a[i] > b[i] by omega), decide_eq_false h1]; rfl
        exact key a.length 0 (by omega)
      · rw [if_neg h3, decide_eq_false h3]; rfl
    · rw [if_neg h2, decide_eq_false h2]; rfl
  · rw [if_neg (by omega), decide_eq_false h]; rfl

theorem ref_TimesSame_eq {a b : List Int} (ha : a.length ≤ 1000000) : ref_TimesSame (a, b, ()) = some (decide (a = b), ()) := by
  unfold ref_TimesSame
  simp only [cond_bne]
  by_cases h : a.length = b.length
  · rw [if_pos (by omega)]
    have key : ∀ k i, i + k = a.length → (loopM (ref_TimesSame_l1 (a, b, ())) ((i : Int), ())).bind (Sum.elim (fun z8 => (some z8)) (Sum.elim (fun z9 => (some (true, ()))) Empty.elim)) = some (decide (a.drop i = b.drop i), ()) := by
      intro k
      induction k with
      | zero =>
        intro i hi
        rw [loopM_inr (b := .inr (.inl ())) (by
          unfold ref_TimesSame_l1
          simp only [dcF (show ¬ (i : Int) < (a.length : Int) by omega), cond_false])]
        rw [List.drop_of_length_le (by omega), List.drop_of_length_le (by omega)]; rfl
      | succ k ih =>
        intro i hi
        have hia : i < a.length := by omega
        have hib : i < b.length := by omega
        have hst : ref_TimesSame_l1 (a, b, ()) ((i : Int), ()) = cond (a[i] != b[i]) (some (.inr (.inl (false, ())))) (some (.inl (((i + 1 : Nat) : Int), ()))) := by
          unfold ref_TimesSame_l1
          simp only [dcT (show (i : Int) < (a.length : Int) by omega), cond_true, getI_lt hia, getI_lt hib, Option.bind_some, wrapS (show i < 9223372036854775807 by omega)]
        rw [List.drop_eq_getElem_cons hia, List.drop_eq_getElem_cons hib]
        by_cases he : a[i] = b[i]
        · rw [bneF he, cond_false] at hst
          rw [loopM_inl hst, ih (i + 1) (by omega)]
          exact congrArg (fun x => some (x, ())) (decide_eq_decide.2 (by rw [List.cons.injEq]; exact ⟨fun h => ⟨he, h⟩, fun h => h.2⟩))
        · rw [bneT he, cond_true] at hst
          rw [loopM_inr hst]
          rw [decide_eq_false (fun h => he (List.cons.inj h).1)]; rfl
    exact key a.length 0 (by omega)
  · rw [if_neg (by omega), decide_eq_false (fun e => h (by rw [e]))]

end Go.Proofs.Try
