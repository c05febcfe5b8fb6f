/- Lemmas on functions of the program, by name: front1. -/
import Derived.Test.YtammjpalmmhokaaP5Funs
import Derived.Test.YtammjpalmmhokaaAbsSums
import Derived.Test.YtammjpalmmhokaaP5LibCnt5
namespace Go.Proofs.Try
open Go Go.Abs


/-! Fronts of times. -/
def underL : List Int → List Int → Bool
  | a :: r, b :: s => decide (a ≤ b) && underL r s
  | _, _ => true
theorem under_refl : ∀ a : List Int, underL a a = true
  | [] => rfl
  | a :: r => by simp [underL, under_refl r]
theorem under_trans : ∀ {a b c : List Int}, a.length = b.length → b.length = c.length → underL a b = true → underL b c = true → underL a c = true
  | [], _, _, _, _, _, _ => rfl
  | a :: r, [], _, h, _, _, _ => by simp at h
  | a :: r, b :: s, [], _, h, _, _ => by simp at h
  | a :: r, b :: s, c :: t, h1, h2, h3, h4 => by
    simp only [underL, Bool.and_eq_true, decide_eq_true_eq, List.length_cons] at *
    exact ⟨by omega, under_trans (by omega) (by omega) h3.2 h4.2⟩
theorem under_cmp : ∀ {a b : List Int}, a.length = b.length → underL a b = true → a = b ∨ (cmpL a b < 0 ∧ a.sum < b.sum)
  | [], [], _, _ => .inl rfl
  | [], _ :: _, h, _ => by simp at h
  | _ :: _, [], h, _ => by simp at h
  | a :: r, b :: s, h, hu => by
    simp only [underL, Bool.and_eq_true, decide_eq_true_eq, List.length_cons] at *
    simp only [cmpL, List.sum_cons]
    rcases under_cmp (a := r) (b := s) (by omega) hu.2 with e | ⟨h1, h2⟩
    · subst e
      by_cases hab : a = b
      · left; rw [hab]
      · right; rw [if_pos (by omega)]; exact ⟨by decide, by omega⟩
    · right
      by_cases hab : a < b
      · rw [if_pos hab]; exact ⟨by decide, by omega⟩
      · rw [if_neg hab, if_neg (by omega)]; exact ⟨h1, by omega⟩

theorem times_Under_eq {a b : List Int} (hl : a.length = b.length) (ha : a.length ≤ 1000000) : times_Under (a, b, ()) = some (underL a b, ()) := by
  have key : ∀ k i, i + k = a.length → (loopM (times_Under_l1 (a, b, ())) ((i : Int), ())).bind (Sum.elim (fun z4 => (some z4)) (Sum.elim (fun z5 => (some (true, ()))) Empty.elim)) = some (underL (a.drop i) (b.drop i), ()) := by
    intro k
    induction k with
    | zero =>
      intro i hi
      rw [loopM_inr (b := .inr (.inl ())) (by
        unfold times_Under_l1
        simp only [dcF (show ¬ (i : Int) < (a.length : Int) by omega), cond_false])]
      rw [List.drop_of_length_le (by omega), List.drop_of_length_le (by omega)]; rfl
    | succ k ih =>
      intro i hi
      have hia : i < a.length := by omega
      have hib : i < b.length := by omega
      have hst : times_Under_l1 (a, b, ()) ((i : Int), ()) = cond (decide (a[i] > b[i])) (some (.inr (.inl (false, ())))) (some (.inl (((i + 1 : Nat) : Int), ()))) := by
        unfold times_Under_l1
        simp only [dcT (show (i : Int) < (a.length : Int) by omega), cond_true, getI_lt hia, getI_lt hib, Option.bind_some, wrapS (show i < 9223372036854775807 by omega)]
      rw [List.drop_eq_getElem_cons hia, List.drop_eq_getElem_cons hib]
      by_cases he : a[i] ≤ b[i]
      · rw [dcF (show ¬ a[i] > b[i] by omega), cond_false] at hst
        rw [loopM_inl hst, ih (i + 1) (by omega)]
        simp only [underL, decide_eq_true he, Bool.true_and]
      · rw [dcT (show a[i] > b[i] by omega), cond_true] at hst
        rw [loopM_inr hst]
        simp only [underL, decide_eq_false he, Bool.false_and]; rfl
  unfold times_Under
  exact key a.length 0 (by omega)

def leB (a b : List Int) : Bool := decide (a.length = b.length) && (decide (chk a = 0) && (decide (chk b = 0) && underL a b))
theorem leB_of {a b : List Int} (h : a.length = b.length) (ha : chk a = 0) (hb : chk b = 0) : leB a b = underL a b := by
  unfold leB
  rw [decide_eq_true h, decide_eq_true ha, decide_eq_true hb]; rfl
theorem times_Leq_eq (a b : List Int) : times_Leq (a, b, ()) = some (leB a b, ()) := by
  unfold times_Leq leB
  simp only [times_alike_eq, Option.bind_some]
  by_cases h : a.length = b.length
  · by_cases h2 : chk a = 0
    · by_cases h3 : chk b = 0
      · rw [times_Under_eq h (by have := (chk_zero h2).2.1; omega)]
        simp only [h, h2, h3, decide_true, Bool.and_self, cond_true, Option.bind_some, Bool.true_and]
      · simp only [h3, decide_false, Bool.and_false, cond_false, Bool.false_and]
    · simp only [h2, decide_false, Bool.and_false, Bool.false_and, cond_false]
  · simp only [h, decide_false, Bool.false_and, cond_false]
theorem ref_TimesLeq_eq (a b : List Int) : ref_TimesLeq (a, b, ()) = some (leB a b, ()) := by
  unfold ref_TimesLeq leB
  simp only [ref_TimesCheck_eq, Option.bind_some, cond_bne]
  by_cases h : a.length = b.length
  · rw [if_pos (by omega), decide_eq_true h]
    by_cases h2 : chk a = 0
    · rw [if_pos h2, decide_eq_true h2]
      by_cases h3 : chk b = 0
      · rw [if_pos h3, decide_eq_true h3]
        have h4 := (chk_zero h2).2.1
        have key : ∀ k i, i + k = a.length → (loopM (ref_TimesLeq_l1 (a, b, ())) ((i : Int), ())).bind (Sum.elim (fun z6 => (some z6)) (Sum.elim (fun z7 => (some (true, ()))) Empty.elim)) = some (underL (a.drop i) (b.drop i), ()) := by
          intro k
          induction k with
          | zero =>
            intro i hi
            rw [loopM_inr (b := .inr (.inl ())) (by
              unfold ref_TimesLeq_l1
              simp only [dcF (show ¬ (i : Int) < (a.length : Int) by omega), cond_false])]
            rw [List.drop_of_length_le (by omega), List.drop_of_length_le (by omega)]; rfl
          | succ k ih =>
            intro i hi
            have hia : i < a.length := by omega
            have hib : i < b.length := by omega
            have hst : ref_TimesLeq_l1 (a, b, ()) ((i : Int), ()) = cond (decide (a[i] > b[i])) (some (.inr (.inl (false, ())))) (some (.inl (((i + 1 : Nat) : Int), ()))) := by
              unfold ref_TimesLeq_l1
              simp only [dcT (show (i : Int) < (a.length : Int) by omega), cond_true, getI_lt hia, getI_lt hib, Option.bind_some, wrapS (show i < 9223372036854775807 by omega)]
            rw [List.drop_eq_getElem_cons hia, List.drop_eq_getElem_cons hib]
            by_cases he : a[i] ≤ b[i]
            · rw [dcF (show ¬ a[i] > b[i] by omega), cond_false] at hst
              rw [loopM_inl hst, ih (i + 1) (by omega)]
              simp only [underL, decide_eq_true he, Bool.true_and]
            · rw [dcT (show a[i] > b[i] by omega), cond_true] at hst
              rw [loopM_inr hst]
              simp only [underL, decide_eq_false he, Bool.false_and]; rfl
        exact key a.length 0 (by omega)
      · rw [if_neg h3, decide_eq_false h3]; rfl
    · rw [if_neg h2, decide_eq_false h2]; rfl
  · rw [if_neg (by omega), decide_eq_false h]; rfl

theorem times_Open_eq {l : List (List Int)} (t : List Int) (hl : l.length ≤ 9223372036854775806) : times_Open (l, t, ()) = some (l.any fun u => leB u t, ()) := by
  have k := loopM_exit (f := times_Open_l1 (l, t, ())) l.length (fun i => ((i : Int), ())) (fun i => cond (leB (l.getD i []) t) (some ((i : Int), ())) none) (.inl ()) (fun i hi => by
    unfold times_Open_l1
    simp only [dcT (show (i : Int) < (l.length : Int) by omega), cond_true, getI_D [] (Int.natCast_nonneg i) (show (i : Int) < (l.length : Int) by omega), Int.toNat_natCast, Option.bind_some, times_Leq_eq]
    rw [wrapS (by omega)]
    cases leB (l.getD i []) t <;> rfl) (by
    unfold times_Open_l1
    simp only [dcF (show ¬ (l.length : Int) < (l.length : Int) by omega), cond_false]) (s0 := ((0 : Int), ())) rfl
  rw [find_map (fun i => leB (l.getD i []) t) fun i => ((i : Int), ())] at k
  have hany : (l.any fun u => leB u t) = ((List.range l.length).find? fun i => leB (l.getD i []) t).isSome := by
    rw [Bool.eq_iff_iff, List.any_eq_true, List.find?_isSome]
    constructor
    · rintro ⟨u, hu, h⟩
      obtain ⟨i, hi, rfl⟩ := List.mem_iff_getElem.1 hu
      exact ⟨i, List.mem_range.2 hi, by rw [List.getD_eq_getElem?_getD, List.getElem?_eq_getElem hi]; exact h⟩
    · rintro ⟨i, hi, h⟩
      have hi := List.mem_range.1 hi
      rw [List.getD_eq_getElem?_getD, List.getElem?_eq_getElem hi] at h
      exact ⟨l[i], List.getElem_mem hi, h⟩
  unfold times_Open
  rw [k, hany]
  cases (List.range l.length).find? fun i => leB (l.getD i []) t with
  | none => rfl
  | some i => simp only [Option.map_some, exitOr_some, Option.bind_some, Sum.elim_inl, dcT (show (i : Int) ≥ 0 by omega)]; rfl
theorem ref_TimesOpen_eq {l : List (List Int)} (t : List Int) (hl : l.length ≤ 9223372036854775806) : ref_TimesOpen (l, t, ()) = some (l.any fun u => leB u t, ()) := by
  have k := loopM_exit (f := ref_TimesOpen_l1 (l, t, ())) l.length (fun i => ((i : Int), ())) (fun i => cond (leB (l.getD i []) t) (some (true, ())) none) (.inl ()) (fun i hi => by
    unfold ref_TimesOpen_l1
    simp only [dcT (show (i : Int) < (l.length : Int) by omega), cond_true, getI_D [] (Int.natCast_nonneg i) (show (i : Int) < (l.length : Int) by omega), Int.toNat_natCast, Option.bind_some, ref_TimesLeq_eq]
    rw [wrapS (by omega)]
    cases leB (l.getD i []) t <;> rfl) (by
    unfold ref_TimesOpen_l1
    simp only [dcF (show ¬ (l.length : Int) < (l.length : Int) by omega), cond_false]) (s0 := ((0 : Int), ())) rfl
  rw [find_const] at k
  have hany : (l.any fun u => leB u t) = (List.range l.length).any fun i => leB (l.getD i []) t := by
    rw [Bool.eq_iff_iff, List.any_eq_true, List.any_eq_true]
    constructor
    · rintro ⟨u, hu, h⟩
      obtain ⟨i, hi, rfl⟩ := List.mem_iff_getElem.1 hu
      exact ⟨i, List.mem_range.2 hi, by rw [List.getD_eq_getElem?_getD, List.getElem?_eq_getElem hi]; exact h⟩
    · rintro ⟨i, hi, h⟩
      have hi := List.mem_range.1 hi
      rw [List.getD_eq_getElem?_getD, List.getElem?_eq_getElem hi] at h
      exact ⟨l[i], List.getElem_mem hi, h⟩
  unfold ref_TimesOpen
  rw [k, hany]
  cases (List.range l.length).any fun i => leB (l.getD i []) t <;> rfl

end Go.Proofs.Try
