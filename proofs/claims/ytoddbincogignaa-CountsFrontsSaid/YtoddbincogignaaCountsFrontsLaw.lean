/- The plain law of CountsFronts. -/
import Derived.Test.YtoddbincogignaaP7Funs
import Derived.Test.YtoddbincogignaaAbsSums
import Derived.Test.YtoddbincogignaaP7LemmasCountsFronts2
namespace Go.Proofs.Try
open Go Go.Abs


def pv (c d : List Cn) : Int := if cchk c ≠ 0 then cchk c else if cchk d ≠ 0 then cchk d else if apartB c d = true then 3 else 0
section
variable {c d : List Cn}
theorem counts_pair_eq (hc : c.length * 24 ≤ 140737488355328) (hd : d.length * 24 ≤ 140737488355328) : counts_pair (c, d, ()) = some (pv c d, ()) := by
  have f0 : counts_pair_l1 (c, d, ()) ((0 : Int), ()) = if cchk c = 0 then some (.inl ((1 : Int), ())) else some (.inr (.inl (cchk c, ()))) := by
    unfold counts_pair_l1
    have g : getI [c, d] (0 : Int) = some c := rfl
    have d0 : decide ((0 : Int) < 2) = true := rfl
    have w0 : IntKind.i64.wrap ((0 : Int) + 1) = 1 := by decide
    simp only [d0, cond_true, g, Option.bind_some, counts_Check_eq hc, cond_bne, w0]
  have f1 : counts_pair_l1 (c, d, ()) ((1 : Int), ()) = if cchk d = 0 then some (.inl ((2 : Int), ())) else some (.inr (.inl (cchk d, ()))) := by
    unfold counts_pair_l1
    have g : getI [c, d] (1 : Int) = some d := rfl
    have d0 : decide ((1 : Int) < 2) = true := rfl
    have w0 : IntKind.i64.wrap ((1 : Int) + 1) = 2 := by decide
    simp only [d0, cond_true, g, Option.bind_some, counts_Check_eq hd, cond_bne, w0]
  have f2 : counts_pair_l1 (c, d, ()) ((2 : Int), ()) = some (.inr (.inr (.inl ()))) := rfl
  unfold counts_pair pv
  by_cases h1 : cchk c = 0
  · rw [if_pos h1] at f0
    rw [loopM_inl f0, if_neg (show ¬ cchk c ≠ 0 by simpa using h1)]
    by_cases h2 : cchk d = 0
    · rw [if_pos h2] at f1
      rw [loopM_inl f1, loopM_inr f2, if_neg (show ¬ cchk d ≠ 0 by simpa using h2)]
      simp only [Option.bind_some, Sum.elim_inr, Sum.elim_inl, counts_apart_eq]
      cases apartB c d <;> rfl
    · rw [if_neg h2] at f1
      rw [loopM_inr f1, if_pos h2]; rfl
  · rw [if_neg h1] at f0
    rw [loopM_inr f0, if_pos h1]; rfl
theorem ref_CountsPair_eq (hc : c.length * 24 ≤ 140737488355328) (hd : d.length * 24 ≤ 140737488355328) : ref_CountsPair (c, d, ()) = some (pv c d, ()) := by
  unfold ref_CountsPair pv apartB
  simp only [ref_CountsCheck_eq hc, ref_CountsCheck_eq hd, Option.bind_some, cond_bne]
  by_cases h1 : cchk c = 0
  · rw [if_pos h1, if_neg (show ¬ cchk c ≠ 0 by simpa using h1)]
    by_cases h2 : cchk d = 0
    · rw [if_pos h2, if_neg (show ¬ cchk d ≠ 0 by simpa using h2)]
      by_cases h : 0 < c.length
      · rw [decide_eq_true h, dcT (show (c.length : Int) > 0 by omega), cond_true, Bool.true_and]
        by_cases h' : 0 < d.length
        · rw [decide_eq_true h', dcT (show (d.length : Int) > 0 by omega), cond_true, Bool.true_and, getI_D cz (show (0 : Int) ≤ 0 by omega) (show (0 : Int) < (c.length : Int) by omega), getI_D cz (show (0 : Int) ≤ 0 by omega) (show (0 : Int) < (d.length : Int) by omega)]
          simp only [Option.bind_some, Int.toNat_zero]
          by_cases he : ((c.getD 0 cz).1.length : Int) = ((d.getD 0 cz).1.length : Int)
          · rw [if_pos he, bneF he]; rfl
          · rw [if_neg he, bneT he]; rfl
        · rw [decide_eq_false h', dcF (show ¬ (d.length : Int) > 0 by omega)]; rfl
      · rw [decide_eq_false h, dcF (show ¬ (c.length : Int) > 0 by omega)]; rfl
    · rw [if_neg h2, if_pos h2]
  · rw [if_neg h1, if_pos h1]

theorem pv_zero (h : pv c d = 0) : Tally c ∧ Tally d ∧ apartB c d = false := by
  unfold pv at h
  split at h
  · rename_i h1; exact absurd h h1
  split at h
  · rename_i h1; exact absurd h h1
  split at h
  · cases h
  rename_i h1 h2 h3
  exact ⟨cchk_zero (by simpa using h1), cchk_zero (by simpa using h2), by simpa using h3⟩

/-- How the front changes, both ways. -/
theorem moves_same (h : pv c d = 0) : ∃ r : List Cn × Int × Unit, counts_merge (markC (frontC c) (-1), markC (frontC d) 1, ()) = some r ∧ ref_CountsBoth (markC (frontC c) (-1), markC (frontC d) 1, ()) = some r ∧ ref_Counts (r.1, r.1, ()) = some (true, ()) := by
  obtain ⟨hc, hd, ha⟩ := pv_zero h
  obtain ⟨a1, a2, a3⟩ := front_facts hc
  obtain ⟨b1, b2, b3⟩ := front_facts hd
  have t1 := mark_tally (n := -1) a1 a2 a3 (.inr rfl)
  have t2 := mark_tally (n := 1) b1 b2 b3 (.inl rfl)
  refine ⟨_, sum_same t1 t2 ?_⟩
  unfold apartB
  by_cases e1 : frontC c = []
  · rw [e1]; rfl
  by_cases e2 : frontC d = []
  · rw [e2]; simp [markC]
  rw [mark_zero _ (fun t ht => (a2 t ht).2) e1, mark_zero _ (fun t ht => (b2 t ht).2) e2]
  have hne1 : 0 < c.length := by
    cases c with
    | nil => exact absurd rfl e1
    | cons x r => simp
  have hne2 : 0 < d.length := by
    cases d with
    | nil => exact absurd rfl e2
    | cons x r => simp
  unfold apartB at ha
  rw [decide_eq_true hne1, decide_eq_true hne2, Bool.true_and, Bool.true_and] at ha
  rw [ha]; simp

/-- THE LAW. -/
theorem countsFronts (hc' : c.length * 32 ≤ 140737488351232) (hd' : d.length * 32 ≤ 140737488351232) : law_CountsFronts (c, d, ()) = some (true, ()) := by
  have hc : c.length * 24 ≤ 140737488355328 := by omega
  have hd : d.length * 24 ≤ 140737488355328 := by omega
  have hF : counts_Front (c, ()) = some (if cchk c = 0 then frontC c else [], cchk c, ()) := by
    unfold counts_Front
    simp only [counts_Check_eq hc, Option.bind_some, cond_bne]
    by_cases h : cchk c = 0
    · simp only [h, if_true, counts_front_eq (cchk_zero h), Option.bind_some]
    · simp only [h, if_false]
  have hM : ∃ m : List Cn × Int × Unit, counts_Moves (c, d, ()) = some m ∧ (pv c d ≠ 0 → m = ([], pv c d, ())) ∧ (pv c d = 0 → ref_CountsMoves (c, d, ()) = some m ∧ ref_Counts (m.1, m.1, ()) = some (true, ())) := by
    unfold counts_Moves
    simp only [counts_pair_eq hc hd, Option.bind_some, cond_bne]
    by_cases h : pv c d = 0
    · obtain ⟨r, r1, r2, r3⟩ := moves_same h
      obtain ⟨tc, td, -⟩ := pv_zero h
      obtain ⟨a1, -⟩ := front_facts tc
      obtain ⟨b1, -⟩ := front_facts td
      refine ⟨r, ?_, fun hn => absurd h hn, fun _ => ⟨?_, r3⟩⟩
      · simp only [h, if_true, counts_front_eq tc, counts_front_eq td, Option.bind_some, Moves_c1_eq (show (frontC c).length ≤ 1000 by omega), Moves_c1_eq (show (frontC d).length ≤ 1000 by omega), r1]
      · unfold ref_CountsMoves
        simp only [ref_CountsFront_eq tc, ref_CountsFront_eq td, Option.bind_some, ref_Moves_l1 (show (frontC c).length ≤ 1000 by omega), ref_Moves_l2 (show (frontC d).length ≤ 1000 by omega), Sum.elim_inl, r2]
    · exact ⟨_, by rw [if_neg h], fun _ => rfl, fun h' => absurd h' h⟩
  obtain ⟨m, m1, m2, m3⟩ := hM
  unfold law_CountsFronts
  simp only [hF, m1, ref_CountsCheck_eq hc, Option.bind_some, bneF rfl, cond_false]
  have hend : (ref_CountsPair (c, d, ())).bind (fun r8 => (cond (r8.1 != (0 : Int)) (cond (m.2.1 == r8.1) (some (((m.1.length : Int) == (0 : Int)), ())) (some (false, ()))) ((ref_CountsMoves (c, d, ())).bind fun r9 => (cond (m.2.1 == r9.2.1) ((ref_Counts (m.1, r9.1, ())).bind fun r10 => (some r10)) (some (false, ())))))) = some (true, ()) := by
    simp only [ref_CountsPair_eq hc hd, Option.bind_some, cond_bne]
    by_cases h : pv c d = 0
    · obtain ⟨q1, q2⟩ := m3 h
      simp only [h, if_true, q1, Option.bind_some, beqT rfl, cond_true, q2]
    · rw [if_neg h, m2 h]
      simp only [beqT rfl, cond_true]; rfl
  by_cases h : cchk c = 0
  · obtain ⟨a1, a2, a3⟩ := front_facts (cchk_zero h)
    simp only [h, if_true, bneF rfl, cond_false, ref_CountsFront_eq (cchk_zero h), Option.bind_some]
    rw [ref_Lists_same (by omega) fun x hx => by have := (chk_zero (a2 x hx).1).2.1; omega]
    simp only [Option.bind_some, Bool.not_true, cond_false, Sum.elim_inr, Sum.elim_inl]
    exact hend
  · simp only [h, if_false, bneT h, cond_true, List.length_nil]
    exact hend
end

theorem countsFronts_law (x : ADen sp4.args) (h0 : List.length x.1 * 32 ≤ 140737488351232) (h1 : List.length x.2.1 * 32 ≤ 140737488351232) : law_CountsFronts x = some (true, ()) := by
  obtain ⟨c, d, ⟨⟩⟩ := x
  exact countsFronts h0 h1

end Go.Proofs.Try
