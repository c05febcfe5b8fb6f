/- Lemmas on functions of the program, by name: times. -/
import Derived.Test.YtammjpalmmhokaaP5Funs
import Derived.Test.YtammjpalmmhokaaAbsSums
import Derived.Test.YtammjpalmmhokaaP5LibBadn
namespace Go.Proofs.Try
open Go Go.Abs


/-! ### times.Check and its like -/
def chk (l : List Int) : Int := if l.length = 0 ∨ l.length > 4 then 1 else if l.any bad = true then 2 else 0

theorem chk_zero {l : List Int} (h : chk l = 0) : 0 < l.length ∧ l.length ≤ 4 ∧ ∀ (i : Nat) (v : Int), l[i]? = some v → 0 ≤ v ∧ v ≤ 1048576 := by
  unfold chk at h
  split at h
  · cases h
  · split at h
    · cases h
    · rename_i h1 h2
      refine ⟨by omega, by omega, fun i v hi => bad_ok ?_⟩
      have hm := List.mem_of_getElem? hi
      cases hb : bad v with
      | false => rfl
      | true => exact absurd (List.any_eq_true.2 ⟨v, hm, hb⟩) h2

theorem times_Check_loop (l : List Int) (hl : l.length ≤ 4) : loopM (times_Check_l1 (l, ())) (0, ()) = some (if l.any bad = true then Sum.inl (2, ()) else Sum.inr (Sum.inl ())) := by
  refine loopM_all l bad (Sum.inl (2, ())) (Sum.inr (Sum.inl ())) (fun i v hi => ?_) ?_
  · have hlt := (List.getElem?_eq_some_iff.1 hi).1
    have hi' : ((i : Int) < (l.length : Int)) := by omega
    unfold times_Check_l1
    simp only [hi', decide_true, cond_true, getI_nat, hi, Option.bind_some]
    rw [wrap64 (by omega) (by omega)]
    exact bad_two v _ _
  · simp [times_Check_l1]

theorem ref_TimesCheck_loop (l : List Int) (hl : l.length ≤ 4) : loopM (ref_TimesCheck_l1 (l, ())) (0, ()) = some (if l.any bad = true then Sum.inl (2, ()) else Sum.inr (Sum.inl ())) := by
  refine loopM_all l bad (Sum.inl (2, ())) (Sum.inr (Sum.inl ())) (fun i v hi => ?_) ?_
  · have hlt := (List.getElem?_eq_some_iff.1 hi).1
    have hi' : ((i : Int) < (l.length : Int)) := by omega
    unfold ref_TimesCheck_l1
    simp only [hi', decide_true, cond_true, getI_nat, hi, Option.bind_some]
    rw [wrap64 (by omega) (by omega)]
    exact bad_two v _ _
  · simp [ref_TimesCheck_l1]

theorem times_Check_eq (l : List Int) : times_Check (l, ()) = some (chk l, ()) := by
  unfold times_Check chk
  by_cases h0 : l.length = 0
  · simp [h0]
  · by_cases h4 : l.length > 4
    · have : ((l.length : Int) > 4) := by omega
      simp [h0, h4, this]
    · have h5 : ¬ ((l.length : Int) > 4) := by omega
      have h6 : ((l.length : Int) == 0) = false := by simp; exact fun h => h0 (by simp [h])
      simp only [h6, cond_false, h5, decide_false]
      have hn : ¬ (l.length = 0 ∨ l.length > 4) := by omega
      rw [times_Check_loop l (by omega), if_neg hn]
      split <;> rfl

theorem ref_TimesCheck_eq (l : List Int) : ref_TimesCheck (l, ()) = some (chk l, ()) := by
  unfold ref_TimesCheck chk
  by_cases h0 : l.length = 0
  · simp [h0]
  · have h6 : ¬ ((l.length : Int) < 1) := by omega
    by_cases h4 : l.length > 4
    · have : ((l.length : Int) > 4) := by omega
      simp [h4, this, h6]
    · have h5 : ¬ ((l.length : Int) > 4) := by omega
      simp only [h6, cond_false, h5, decide_false]
      have hn : ¬ (l.length = 0 ∨ l.length > 4) := by omega
      rw [ref_TimesCheck_loop l (by omega), if_neg hn]
      split <;> rfl

end Go.Proofs.Try
