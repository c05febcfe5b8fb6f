/- The plain law of CountsSums. -/
import Derived.Test.YtammjpalmmhokaaP3Funs
import Derived.Test.YtammjpalmmhokaaAbsSums
import Derived.Test.YtammjpalmmhokaaP3LibCnt6
namespace Go.Proofs.Try
open Go Go.Abs


def pv (c d : List Cn) : Int := if cchk c ≠ 0 then cchk c else if cchk d ≠ 0 then cchk d else if apartB c d = true then 3 else 0
section
variable {c d : List Cn}
theorem counts_pair_eq (hc : c.length * 24 ≤ 140737488355328) (hd : d.length * 24 ≤ 140737488355328) : counts_pair (c, d, ()) = some (pv c d, ()) := by
  have f0 : counts_pair_l1 (c, d, ()) ((0 : Int), ()) = if cchk c = 0 then some (.inl ((1 : Int), ())) else some (.inr (.inl (cchk c, ()))) := by
    unfold counts_pair_l1
    have g : getI [c, d] (0 : Int) = some c := rfl
    have d0 : decide ((0 : Int) < 2) = true := rfl
    have w0 : IntKind.i64.wrap ((0 : Int) + 1) = 1 := by decide
    simp only [d0, cond_true, g, Option.bind_some, counts_Check_eq hc, cond_bne, w0]
  have f1 : counts_pair_l1 (c, d, ()) ((1 : Int), ()) = if cchk d = 0 then some (.inl ((2 : Int), ())) else some (.inr (.inl (cchk d, ()))) := by
    unfold counts_pair_l1
    have g : getI [c, d] (1 : Int) = some d := rfl
    have d0 : decide ((1 : Int) < 2) = true := rfl
    have w0 : IntKind.i64.wrap ((1 : Int) + 1) = 2 := by decide
    simp only [d0, cond_true, g, Option.bind_some, counts_Check_eq hd, cond_bne, w0]
  have f2 : counts_pair_l1 (c, d, ()) ((2 : Int), ()) = some (.inr (.inr (.inl ()))) := rfl
  unfold counts_pair pv
  by_cases h1 : cchk c = 0
  · rw [if_pos h1] at f0
    rw [loopM_inl f0, if_neg (show ¬ cchk c ≠ 0 by simpa using h1)]
    by_cases h2 : cchk d = 0
    · rw [if_pos h2] at f1
      rw [loopM_inl f1, loopM_inr f2, if_neg (show ¬ cchk d ≠ 0 by simpa using h2)]
      simp only [Option.bind_some, Sum.elim_inr, Sum.elim_inl, counts_apart_eq]
      cases apartB c d <;> rfl
    · rw [if_neg h2] at f1
      rw [loopM_inr f1, if_pos h2]; rfl
  · rw [if_neg h1] at f0
    rw [loopM_inr f0, if_pos h1]; rfl
theorem ref_CountsPair_eq (hc : c.length * 24 ≤ 140737488355328) (hd : d.length * 24 ≤ 140737488355328) : ref_CountsPair (c, d, ()) = some (pv c d, ()) := by
  unfold ref_CountsPair pv apartB
  simp only [ref_CountsCheck_eq hc, ref_CountsCheck_eq hd, Option.bind_some, cond_bne]
  by_cases h1 : cchk c = 0
  · rw [if_pos h1, if_neg (show ¬ cchk c ≠ 0 by simpa using h1)]
    by_cases h2 : cchk d = 0
    · rw [if_pos h2, if_neg (show ¬ cchk d ≠ 0 by simpa using h2)]
      by_cases h : 0 < c.length
      · rw [decide_eq_true h, dcT (show (c.length : Int) > 0 by omega), cond_true, Bool.true_and]
        by_cases h' : 0 < d.length
        · rw [decide_eq_true h', dcT (show (d.length : Int) > 0 by omega), cond_true, Bool.true_and, getI_D cz (show (0 : Int) ≤ 0 by omega) (show (0 : Int) < (c.length : Int) by omega), getI_D cz (show (0 : Int) ≤ 0 by omega) (show (0 : Int) < (d.length : Int) by omega)]
          simp only [Option.bind_some, Int.toNat_zero]
          by_cases he : ((c.getD 0 cz).1.length : Int) = ((d.getD 0 cz).1.length : Int)
          · rw [if_pos he, bneF he]; rfl
          · rw [if_neg he, bneT he]; rfl
        · rw [decide_eq_false h', dcF (show ¬ (d.length : Int) > 0 by omega)]; rfl
      · rw [decide_eq_false h, dcF (show ¬ (c.length : Int) > 0 by omega)]; rfl
    · rw [if_neg h2, if_pos h2]
  · rw [if_neg h1, if_pos h1]

/-- THE LAW. -/
theorem countsSums (hc : c.length * 32 ≤ 140737488351232) (hd : d.length * 32 ≤ 140737488351232) : law_CountsSums (c, d, ()) = some (true, ()) := by
  have hc2 : c.length * 24 ≤ 140737488355328 := by omega
  have hd2 : d.length * 24 ≤ 140737488355328 := by omega
  unfold law_CountsSums counts_Sum
  simp only [counts_pair_eq hc2 hd2, ref_CountsPair_eq hc2 hd2, Option.bind_some, cond_bne]
  by_cases h : pv c d = 0
  · have hh := h
    unfold pv at hh
    split at hh
    · rename_i h1; exact absurd hh h1
    split at hh
    · rename_i h1; exact absurd hh h1
    split at hh
    · cases hh
    rename_i h1 h2 h3
    obtain ⟨m1, m2, m3⟩ := sum_same (cchk_zero (by simpa using h1)) (cchk_zero (by simpa using h2)) (by simpa using h3)
    rw [if_pos h]
    simp only [m1, m2, Option.bind_some, h, if_true, beq_self_eq_true, cond_true]
    rw [m3]; rfl
  · rw [if_neg h]
    simp only [h, if_false, Option.bind_some, beq_self_eq_true, cond_true]
    rfl
end

theorem countsSums_law (x : ADen sp4.args) (h0 : List.length x.1 * 32 ≤ 140737488351232) (h1 : List.length x.2.1 * 32 ≤ 140737488351232) : law_CountsSums x = some (true, ()) := by
  obtain ⟨c, d, ⟨⟩⟩ := x
  exact countsSums h0 h1

end Go.Proofs.Try
