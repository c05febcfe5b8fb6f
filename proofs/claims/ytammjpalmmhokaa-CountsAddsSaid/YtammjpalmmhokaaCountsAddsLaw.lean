/- The plain law of CountsAdds. -/
import Derived.Test.YtammjpalmmhokaaP3Funs
import Derived.Test.YtammjpalmmhokaaAbsSums
import Derived.Test.YtammjpalmmhokaaP3LibCnt6
namespace Go.Proofs.Try
open Go Go.Abs


section
variable {c : List Cn} {t : List Int} {n : Int}
/-- What is wrong with a tally, a time and a number. -/
def av (c : List Cn) (t : List Int) (n : Int) : Int := if cchk c ≠ 0 then cchk c else if chk t ≠ 0 then chk t else if apartB c [(t, n, ())] = true then 3 else if overB n = true then 2 else 0
theorem counts_Add_eq (hc : c.length * 24 ≤ 140737488355328) : counts_Add (c, t, n, ()) = if av c t n ≠ 0 then some ([], av c t n, ()) else counts_merge (c, [(t, n, ())], ()) := by
  unfold counts_Add av
  simp only [counts_Check_eq hc, times_Check_eq, counts_apart_eq, counts_over_eq, Option.bind_some, cond_bne]
  by_cases h1 : cchk c = 0
  · by_cases h2 : chk t = 0
    · simp only [h1, h2, if_true, ne_eq, not_true_eq_false, if_false]
      cases apartB c [(t, n, ())] with
      | true => rfl
      | false =>
        simp only [cond_false, Bool.false_eq_true, if_false]
        cases overB n with
        | true => rfl
        | false =>
          simp only [cond_false, Bool.false_eq_true, if_false, not_true_eq_false]
          cases counts_merge (c, [(t, n, ())], ()) <;> rfl
    · simp only [h1, h2, if_true, ne_eq, not_true_eq_false, not_false_eq_true, if_false]
  · simp only [h1, ne_eq, not_false_eq_true, if_true, if_false]

theorem single (ht : chk t = 0) (hn : overB n = false) : Tally [(t, n, ())] :=
  ⟨by simp, fun x hx => by rw [List.mem_singleton] at hx; subst hx; exact ⟨ht, rfl⟩, fun x hx => by rw [List.mem_singleton] at hx; subst hx; exact over_false.1 hn, List.pairwise_singleton _ _⟩

/-- The law's end, as it stands after what is wrong is known. -/
theorem law_end (hc : c.length * 24 ≤ 140737488355328) : ∀ e : Int, e = av c t n → ((counts_Add (c, t, n, ())).bind fun r1 => (cond (e != (0 : Int)) (cond (r1.2.1 == e) (some (((r1.1.length : Int) == (0 : Int)), ())) (some (false, ()))) ((ref_CountsBoth (c, [(t, n, ())], ())).bind fun r10 => (cond (r1.2.1 == r10.2.1) ((ref_Counts (r1.1, r10.1, ())).bind fun r11 => (some r11)) (some (false, ())))))) = some (true, ()) := by
  intro e he
  subst he
  rw [counts_Add_eq hc]
  by_cases h : av c t n = 0
  · have hh := h
    unfold av at hh
    split at hh
    · rename_i h1; exact absurd hh h1
    split at hh
    · rename_i h1; exact absurd hh h1
    split at hh
    · cases hh
    split at hh
    · cases hh
    rename_i h1 h2 h3 h4
    obtain ⟨m1, m2, m3⟩ := sum_same (cchk_zero (by simpa using h1)) (single (n := n) (by simpa using h2) (by simpa using h4)) (by simpa using h3)
    rw [if_neg (by simpa using h), m1, h]
    simp only [Option.bind_some, bneF rfl, cond_false, m2, beq_self_eq_true, cond_true]
    rw [m3]; rfl
  · rw [if_pos h]
    simp only [Option.bind_some, bneT h, cond_true, beq_self_eq_true]
    rfl

/-- THE LAW. -/
theorem countsAdds (hc' : c.length * 32 ≤ 140737488351232) : law_CountsAdds (c, t, n, ()) = some (true, ()) := by
  have hc : c.length * 24 ≤ 140737488355328 := by omega
  have key := law_end (t := t) (n := n) hc _ rfl
  obtain ⟨r1, hr1, hk⟩ := Option.bind_eq_some_iff.1 key
  unfold law_CountsAdds
  simp only [hr1, Option.bind_some, ref_CountsCheck_eq hc, counts_Check_eq hc, bneF rfl, cond_false, ref_TimesCheck_eq, ref_CountsOver_eq]
  by_cases h1 : cchk c = 0
  · simp only [h1, beqT rfl, cond_true, Option.bind_some, Sum.elim_inl]
    by_cases h2 : chk t = 0
    · simp only [h2, beqT rfl, cond_true]
      by_cases h3 : 0 < c.length
      · simp only [dcT (show (c.length : Int) > 0 by omega), cond_true, getI_D cz (show (0 : Int) ≤ 0 by omega) (show (0 : Int) < (c.length : Int) by omega), Int.toNat_zero, Option.bind_some]
        by_cases h4 : ((c.getD 0 cz).1.length : Int) = (t.length : Int)
        · have ha : apartB c [(t, n, ())] = false := by
            unfold apartB
            rw [show ((([((t, n, ()) : Cn)] : List Cn).getD 0 cz).1.length : Int) = (t.length : Int) from rfl, bneF h4, Bool.and_false, Bool.and_false]
          simp only [bneF h4, cond_false, Option.bind_some, Sum.elim_inl, beqT rfl, cond_true]
          cases ho : overB n with
          | true =>
            have hv : av c t n = 2 := by unfold av; simp only [h1, h2, ha, ho]; rfl
            rw [hv] at hk
            exact hk
          | false =>
            have hv : av c t n = 0 := by unfold av; simp only [h1, h2, ha, ho]; rfl
            rw [hv] at hk
            exact hk
        · have ha : apartB c [(t, n, ())] = true := by
            unfold apartB
            rw [show ((([((t, n, ()) : Cn)] : List Cn).getD 0 cz).1.length : Int) = (t.length : Int) from rfl, bneT h4, decide_eq_true h3]; rfl
          have hv : av c t n = 3 := by unfold av; simp only [h1, h2, ha]; rfl
          rw [hv] at hk
          simp only [bneT h4, cond_true, Option.bind_some, Sum.elim_inl]
          exact hk
      · have ha : apartB c [(t, n, ())] = false := by
          unfold apartB
          rw [decide_eq_false h3]; rfl
        simp only [dcF (show ¬ (c.length : Int) > 0 by omega), cond_false]
        cases ho : overB n with
        | true =>
          have hv : av c t n = 2 := by unfold av; simp only [h1, h2, ha, ho]; rfl
          rw [hv] at hk
          exact hk
        | false =>
          have hv : av c t n = 0 := by unfold av; simp only [h1, h2, ha, ho]; rfl
          rw [hv] at hk
          exact hk
    · have hv : av c t n = chk t := by unfold av; simp only [h1, h2, ne_eq, not_true_eq_false, not_false_eq_true, if_true, if_false]
      rw [hv] at hk
      simp only [beqF h2, cond_false]
      exact hk
  · have hv : av c t n = cchk c := by unfold av; simp only [h1, ne_eq, not_false_eq_true, if_true]
    rw [hv] at hk
    simp only [beqF h1, cond_false, Option.bind_some, Sum.elim_inl]
    exact hk
end

theorem countsAdds_law (x : ADen sp3.args) (h0 : List.length x.1 * 32 ≤ 140737488351232) : law_CountsAdds x = some (true, ()) := by
  obtain ⟨c, t, n, ⟨⟩⟩ := x
  exact countsAdds h0

end Go.Proofs.Try
