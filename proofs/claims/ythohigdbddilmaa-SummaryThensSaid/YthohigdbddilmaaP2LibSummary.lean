/- Lemmas on functions of the program, by name: summary. -/
import Derived.Test.YthohigdbddilmaaP2Funs
import Derived.Test.YthohigdbddilmaaAbsSums
import Derived.Test.YthohigdbddilmaaP2LibBadn
namespace Go.Proofs.Try
open Go Go.Abs


/-! ### summary.Check -/
theorem summary_within_eq (v : Int) : summary_within (v, ()) = some (!bad v, ()) := by
  unfold summary_within bad
  simp only [cond_dec]
  by_cases h1 : v ≥ 0
  · have h2 : ¬ v < 0 := by omega
    by_cases h3 : v ≤ 1048576
    · have h4 : ¬ v > 1048576 := by omega
      simp [h1, h2, h3, h4]
    · have h4 : v > 1048576 := by omega
      simp [h1, h2, h3, h4]
  · have h2 : v < 0 := by omega
    simp [h1, h2]

/-- The check of a summary (n, d, l) at m coordinates. -/
def sck (n d : Int) (l : List Int) (m : Int) : Int := if m < 1 ∨ m > 4 ∨ n < 1 ∨ n > m ∨ (l.length : Int) > 4 - n then 1 else if (bad d || l.any bad) = true then 2 else 0

theorem sck_zero {n d m : Int} {l : List Int} (h : sck n d l m = 0) : 1 ≤ n ∧ n ≤ m ∧ m ≤ 4 ∧ (l.length : Int) ≤ 4 - n ∧ (0 ≤ d ∧ d ≤ 1048576) ∧ ∀ (i : Nat) (v : Int), l[i]? = some v → 0 ≤ v ∧ v ≤ 1048576 := by
  unfold sck at h
  split at h
  · cases h
  · rename_i h1
    split at h
    · cases h
    · rename_i h2
      rw [Bool.not_eq_true, Bool.or_eq_false_iff] at h2
      refine ⟨by omega, by omega, by omega, by omega, bad_ok h2.1, fun i v hi => bad_ok ?_⟩
      cases hb : bad v with
      | false => rfl
      | true =>
        have := List.any_eq_true.2 ⟨v, List.mem_of_getElem? hi, hb⟩
        rw [h2.2] at this; cases this

theorem summary_Check_eq (n d m : Int) (l : List Int) : summary_Check ((n, d, l, ()), m, ()) = some (sck n d l m, ()) := by
  unfold summary_Check sck
  simp only [cond_dec]
  by_cases h1 : m < 1
  · simp [h1]
  · by_cases h2 : m > 4
    · simp [h1, h2]
    · by_cases h3 : n < 1
      · simp [h1, h2, h3]
      · by_cases h4 : n > m
        · simp [h1, h2, h3, h4]
        · rw [wrap64 (by omega) (by omega)]
          by_cases h5 : (l.length : Int) > 4 - n
          · simp [h1, h2, h3, h4, h5]
          · rw [if_neg h1, if_neg h2, if_neg h3, if_neg h4, if_neg h5, if_neg (by omega)]
            have hlen : ([d] ++ l).length = l.length + 1 := by simp
            have hr : roomOk (([d]).length + l.length) 8 = true := room8 (by simp; omega)
            rw [hr, Bool.and_true, Bool.and_true, Bool.and_true, cond_true]
            have key := loopM_all (f := summary_Check_l1 ((n, d, l, ()), m, ())) ([d] ++ l) bad (Sum.inl (2, ())) (Sum.inr (Sum.inl ())) (fun i v hi => by
                have hlt := (List.getElem?_eq_some_iff.1 hi).1
                have hi' : ((i : Int) < (([d] ++ l).length : Int)) := by omega
                have hib : inB (i : Int) ([d] ++ l).length = true := by simp only [inB, Bool.and_eq_true, decide_eq_true_eq]; omega
                unfold summary_Check_l1
                simp only [hi', decide_true, hib, cond_true, Int.toNat_natCast, hi, Option.bind_some, summary_within_eq, Bool.not_not]
                rw [wrap64 (by omega) (by omega)]
                cases bad v <;> rfl) (by simp [summary_Check_l1])
            rw [key]
            have hany : ([d] ++ l).any bad = (bad d || l.any bad) := by simp
            rw [hany]
            split <;> rfl

theorem ref_SummaryCheck_loop (n d m : Int) (l : List Int) (hl : l.length ≤ 4) : loopM (ref_SummaryCheck_l1 ((n, d, l, ()), m, ())) (0, ()) = some (if l.any bad = true then Sum.inl (2, ()) else Sum.inr (Sum.inl ())) := by
  refine loopM_all l bad (Sum.inl (2, ())) (Sum.inr (Sum.inl ())) (fun i v hi => ?_) ?_
  · have hlt := (List.getElem?_eq_some_iff.1 hi).1
    have hi' : ((i : Int) < (l.length : Int)) := by omega
    unfold ref_SummaryCheck_l1
    simp only [hi', decide_true, cond_true, getI_nat, hi, Option.bind_some]
    rw [wrap64 (by omega) (by omega)]
    exact bad_two v _ _
  · simp [ref_SummaryCheck_l1]

theorem ref_SummaryCheck_eq (n d m : Int) (l : List Int) : ref_SummaryCheck ((n, d, l, ()), m, ()) = some (sck n d l m, ()) := by
  unfold ref_SummaryCheck sck
  by_cases h1 : m < 1
  · simp [h1]
  · by_cases h2 : m > 4
    · simp [h1, h2]
    · by_cases h3 : n < 1
      · simp [h1, h2, h3]
      · by_cases h4 : n > m
        · simp [h1, h2, h3, h4]
        · by_cases h5 : (l.length : Int) > 4
          · have h6 : (l.length : Int) > 4 - n := by omega
            simp [h1, h2, h3, h4, h5, h6]
          · by_cases h6 : (l.length : Int) > 4 - n
            · have h7 : IntKind.i64.wrap (n + (l.length : Int)) > 4 := by rw [wrap64 (by omega) (by omega)]; omega
              simp [h1, h2, h3, h4, h5, h6, h7]
            · have h7 : ¬ (IntKind.i64.wrap (n + (l.length : Int)) > 4) := by rw [wrap64 (by omega) (by omega)]; omega
              simp only [h1, h2, h3, h4, h5, h7, decide_false, cond_false]
              have hn : ¬ (False ∨ False ∨ False ∨ False ∨ (l.length : Int) > 4 - n) := by simp; omega
              rw [if_neg hn]
              by_cases h8 : bad d = true
              · rw [h8, Bool.true_or, if_pos rfl]
                unfold bad at h8
                by_cases h9 : d < 0
                · simp [h9]
                · have h10 : d > 1048576 := by simpa [h9] using h8
                  simp [h9, h10]
              · have h8 : bad d = false := by simpa using h8
                have hd := bad_ok h8
                have h9 : ¬ d < 0 := by omega
                have h10 : ¬ d > 1048576 := by omega
                simp only [h9, h10, decide_false, cond_false]
                rw [ref_SummaryCheck_loop n d m l (by omega), h8, Bool.false_or]
                split <;> rfl

end Go.Proofs.Try
