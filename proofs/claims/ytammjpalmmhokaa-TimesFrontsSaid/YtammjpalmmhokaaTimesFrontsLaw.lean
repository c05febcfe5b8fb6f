/- The plain law of TimesFronts. -/
import Derived.Test.YtammjpalmmhokaaP5Funs
import Derived.Test.YtammjpalmmhokaaAbsSums
import Derived.Test.YtammjpalmmhokaaP5LibFront3
namespace Go.Proofs.Try
open Go Go.Abs


theorem times_Front_eq (l : List (List Int)) : times_Front (l, ()) = some (if tlist l = 0 then (sortT l).filter (minB l) else [], tlist l, ()) := by
  unfold times_Front
  simp only [times_List_eq, Option.bind_some, cond_bne]
  by_cases h : tlist l = 0
  · obtain ⟨h64, hf⟩ := tlist_zero h
    have hd : l = [] ∨ (l.getD 0 []).length ≤ 4 := by
      cases l with
      | nil => exact .inl rfl
      | cons t r => exact .inr ((chk_zero (hf t (List.mem_cons_self ..)).1).2.1)
    rcases hd with rfl | hd
    · simp only [h, if_true, times_Least_eq (l := []) (d := 0) (by simp) (by omega) (fun t ht => by cases ht), Option.bind_some]; rfl
    · simp only [h, if_true, times_Least_eq h64 hd (fun t ht => (hf t ht).2), Option.bind_some, front_same hf]
  · simp only [h, if_false]

/-- THE LAW. -/
theorem timesFronts {l : List (List Int)} (t : List Int) (hl : l.length * 24 ≤ 140737488351232) : law_TimesFronts (l, t, ()) = some (true, ()) := by
  have hlen : l.length ≤ 9223372036854775806 := by omega
  unfold law_TimesFronts
  simp only [times_Front_eq, ref_TimesList_eq, times_Open_eq t hlen, ref_TimesOpen_eq t hlen, Option.bind_some, bneF rfl, cond_false]
  have hb : ∀ b : Bool, (b != b) = false := fun b => by cases b <;> rfl
  simp only [hb, cond_false]
  by_cases h : tlist l = 0
  · obtain ⟨h64, hf⟩ := tlist_zero h
    obtain ⟨s1, s2, s3⟩ := sort_facts l
    simp only [h, if_true, bneF rfl, cond_false, ref_TimesFront_eq h64 hf, Option.bind_some]
    rw [ref_Lists_same (Nat.le_trans (List.length_filter_le _ _) (by omega)) fun x hx => by
      have := (chk_zero (hf x ((s2 x).1 (List.mem_filter.1 hx).1)).1).2.1
      omega]
    rfl
  · simp only [h, if_false, bneT h, cond_true]
    rfl

theorem timesFronts_law (x : ADen sp7.args) (h0 : List.length x.1 * 24 ≤ 140737488351232) : law_TimesFronts x = some (true, ()) := by
  obtain ⟨l, t, ⟨⟩⟩ := x
  exact timesFronts t h0

end Go.Proofs.Try
