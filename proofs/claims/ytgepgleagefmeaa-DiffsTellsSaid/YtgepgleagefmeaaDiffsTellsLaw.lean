/- The plain law of DiffsTells. -/
import Derived.Test.YtgepgleagefmeaaP17Funs
import Derived.Test.YtgepgleagefmeaaAbsSums
import Derived.Test.YtgepgleagefmeaaP17LemmasDiffsTells2
namespace Go.Proofs.Try
open Go Go.Abs


theorem at_eq {D : List Df} (h : D.length * 48 ≤ 140737488355328) (t : List Int) : diffs_At (D, t, ()) =
    some (if dchk D ≠ 0 then ([], dchk D, ()) else if chk t ≠ 0 then ([], chk t, ()) else if 0 < D.length ∧ (D.getD 0 ([], [], ())).1.length ≠ t.length then ([], 3, ()) else ((standB D t).map toR, 0, ())) := by
  unfold diffs_At
  rw [check_eq h]
  simp only [Option.bind_some]
  by_cases h0 : dchk D = 0
  · have g := dchk_zero h0
    have g1 := g.len
    have hsb := standB_le g t
    rw [bneF h0, cond_false, if_neg (by simpa using h0)]
    simp only [times_Check_eq, Option.bind_some]
    by_cases hc : chk t = 0
    · rw [bneF hc, cond_false, if_neg (by simpa using hc)]
      have fin : ∀ (hs : ∀ d ∈ D, d.1.length = t.length), (((diffs_Stands (D, t, ())).bind fun r8 => (((cond (decide ((r8.1.length : Int) > (128 : Int))) (some (Sum.inl (([] : List Rw), (1 : Int), ()))) ((bags_Bag_Rows r8).bind fun r9 => (some (Sum.inl (r9.1, (0 : Int), ()))))) : Option ((List Rw × Int × Unit) ⊕ Empty)).bind (Sum.elim (fun z10 => (some z10)) Empty.elim)))) = some ((standB D t).map toR, 0, ()) := fun hs => by
        rw [stands_eq g hc hs]
        simp only [Option.bind_some]
        rw [dcF (show ¬ ((standB D t).length : Int) > 128 by omega), cond_false, show bags_Bag_Rows (standB D t, ()) = _ from rows_eq (bag_rise _) (show (standB D t).length ≤ 3000000 by omega)]
        rfl
      match D, g, h0, fin with
      | [], g, h0, fin =>
        rw [dcF (show ¬ (([] : List Df).length : Int) > 0 by simp), cond_false, if_neg (fun h => absurd h.1 (by simp))]
        exact fin (fun d hd => by cases hd)
      | d :: D', g, h0, fin =>
        obtain ⟨n, hn⟩ := g.same
        rw [dcT (show (((d :: D').length : Nat) : Int) > 0 by simp only [List.length_cons]; omega), cond_true]
        rw [show getI (d :: D') (0 : Int) = some d from rfl]
        simp only [Option.bind_some]
        by_cases he : d.1.length = t.length
        · rw [bneF (show (d.1.length : Int) = (t.length : Int) by omega), cond_false, if_neg (fun h => h.2 he)]
          exact fin (fun e hd => by rw [hn e hd, ← hn d List.mem_cons_self]; exact he)
        · rw [bneT (show (d.1.length : Int) ≠ (t.length : Int) by omega), cond_true, if_pos ⟨by simp, he⟩]
    · rw [bneT hc, cond_true, if_pos (by simpa using hc)]
  · rw [bneT h0, cond_true, if_pos (by simpa using h0)]

theorem diffsTells {D : List Df} (h : D.length * 48 ≤ 140737488355328) (t : List Int) : law_DiffsTells (D, t, ()) = some (true, ()) := by
  unfold law_DiffsTells
  rw [tidy_eq h]
  simp only [Option.bind_some]
  rw [at_eq h t]
  simp only [Option.bind_some]
  rw [ref_check_eq D]
  simp only [Option.bind_some]
  by_cases h0 : dchk D = 0
  · have g := dchk_zero h0
    have g1 := g.len
    have t1 := tidy_len D
    have hsb := standB_le g t
    have h4 := good_times g
    have hsame : ref_DiffsSame (tidyL D, tidyL D, ()) = some (true, ()) := ref_same (by omega) (fun d hd => by
      have h3 := len_le_num hd
      have h5 := tidy_num D
      have h6 := g.num
      obtain ⟨u, hu, -, rfl⟩ := tidyL_mem.1 hd
      have h7 := h4 u hu
      exact ⟨by show u.length ≤ _; omega, by omega⟩)
    rw [if_pos h0, if_neg (by simpa using h0), bneF h0, cond_false]
    simp only [bneF rfl, cond_false]
    rw [ref_tidy_eq g]
    simp only [Option.bind_some]
    rw [hsame]
    simp only [Option.bind_some, Bool.not_true, cond_false, ref_TimesCheck_eq]
    have hst := ref_stands_eq g t
    have hsm := same_eq ((standB D t).map toR) (by rw [List.length_map]; omega)
    by_cases hc : chk t = 0
    · rw [if_neg (by simpa using hc), beqT hc, cond_true]
      match D, g, h0, hst, hsm with
      | [], g, h0, hst, hsm =>
        rw [if_neg (fun h => absurd h.1 (by simp)), dcF (show ¬ (([] : List Df).length : Int) > 0 by simp), cond_false]
        simp only [Option.bind_some, Sum.elim_inl, bneF hc, cond_false, beqT rfl, cond_true, hst, hsm]
      | d :: D', g, h0, hst, hsm =>
        rw [dcT (show (((d :: D').length : Nat) : Int) > 0 by simp only [List.length_cons]; omega), cond_true]
        rw [show getI (d :: D') (0 : Int) = some d from rfl]
        simp only [Option.bind_some]
        by_cases he : d.1.length = t.length
        · rw [if_neg (fun h => h.2 he), bneF (show (d.1.length : Int) = (t.length : Int) by omega)]
          simp only [cond_false, Option.bind_some, Sum.elim_inl, bneF hc, beqT rfl, cond_true, hst, hsm]
        · rw [if_pos ⟨by simp, he⟩, bneT (show (d.1.length : Int) ≠ (t.length : Int) by omega)]
          rfl
    · rw [if_pos (by simpa using hc), beqF hc, cond_false]
      simp only [Sum.elim_inl, bneT hc, cond_true, beqT rfl]
      rfl
  · rw [if_neg h0, if_pos (by simpa using h0), bneT h0, cond_true]
    simp only [beqT rfl, cond_true]
    rfl

theorem diffsTells_law (x : ADen sp9.args) (h0 : List.length x.1 * 48 ≤ 140737488351232) : law_DiffsTells x = some (true, ()) := by
  obtain ⟨D, t, ⟨⟩⟩ := x
  exact diffsTells (show D.length * 48 ≤ 140737488355328 from Nat.le_trans h0 (by decide)) t

end Go.Proofs.Try
