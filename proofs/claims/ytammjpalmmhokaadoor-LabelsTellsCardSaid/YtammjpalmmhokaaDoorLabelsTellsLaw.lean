/- The plain law of LabelsTells. -/
import Derived.Test.YtammjpalmmhokaaDoorD4Funs
import Derived.Test.YtammjpalmmhokaaDoorAbsSums
import Derived.Test.YtammjpalmmhokaaDoorD4LemmasLabelsTells3
namespace Go.Proofs.Tryd
open Go Go.Abs


section
variable {Nd : List Node} {Ed : List Edge} {l : List Int} {N : Int} {ws : List Nat}
theorem sl1 (o : Int × List Int × Unit) (g : List Node × List Edge × Unit) (l : List Int) (v : Int) : labels_Sees_l1 (o, g, l, v, ()) = labels_Legal_l1 (o, g, l, ()) := rfl
theorem sl2 (o : Int × List Int × Unit) (g : List Node × List Edge × Unit) (l : List Int) (v : Int) : labels_Sees_l2 (o, g, l, v, ()) = labels_Legal_l2 (o, g, l, ()) := rfl
theorem sl4 : labels_Sees_l4 = labels_Sees_l3 := rfl
theorem ll2 : law_LabelsTells_l2 = law_LabelsTells_l1 := rfl
theorem ll3 : law_LabelsTells_l3 = law_LabelsTells_l1 := rfl
theorem ll4 : law_LabelsTells_l4 = law_LabelsTells_l1 := rfl
theorem ll5 : law_LabelsTells_l5 = law_LabelsTells_l1 := rfl
theorem ll6 : law_LabelsTells_l6 = law_LabelsTells_l1 := rfl
theorem ll7 : law_LabelsTells_l7 = law_LabelsTells_l1 := rfl
theorem ll8 : law_LabelsTells_l8 = law_LabelsTells_l1 := rfl

/-- What a faulty labelled graph gives. -/
theorem bad_case (hf : Fit ws) (v : Int) (h : ¬ (lcv N ws Nd Ed l).1 = 0) : labels_Legal ((N, cl ws, ()), (Nd, Ed, ()), l, ()) = some (lcv N ws Nd Ed l, ()) ∧ labels_Sees ((N, cl ws, ()), (Nd, Ed, ()), l, v, ()) = some ([], lcv N ws Nd Ed l, ()) := by
  unfold labels_Legal labels_Sees
  simp only [lattice_Of_eq hf, Option.bind_some, cond_bne]
  unfold lcv at h ⊢
  by_cases h1 : latc N ws = 0
  · rw [if_neg (show ¬ latc N ws ≠ 0 by simpa using h1)] at h ⊢
    by_cases h2 : (gval Nd Ed).1 = 0
    · rw [if_neg (show ¬ (gval Nd Ed).1 ≠ 0 by simpa using h2)] at h ⊢
      obtain ⟨hz, hn, -, -, -, -⟩ := gval_zero h2
      by_cases h3 : (l.length : Int) = (Nd.length : Int)
      · rw [if_neg (show ¬ (l.length : Int) ≠ (Nd.length : Int) by simpa using h3)] at h ⊢
        cases hfd : (List.range l.length).find? fun i => badL N (l.getD i 0) with
        | none => rw [hfd] at h; exact absurd rfl h
        | some i =>
          simp only [h1, if_true, graph_Check_eq, Option.bind_some, h2, h3, sl1, lab_l1 (l := l) (show l.length ≤ 12 by omega), hfd, Option.map_some, exitOr_some, Sum.elim_inl]
          exact ⟨rfl, rfl⟩
      · rw [if_pos (show (l.length : Int) ≠ (Nd.length : Int) from h3)]
        simp only [h1, if_true, graph_Check_eq, Option.bind_some, h2, h3, if_false]
        exact ⟨rfl, rfl⟩
    · rw [if_pos (show (gval Nd Ed).1 ≠ 0 from h2)]
      simp only [h1, if_true, graph_Check_eq, Option.bind_some, h2, if_false]
      exact ⟨trivial, trivial⟩
  · rw [if_pos (show latc N ws ≠ 0 from h1)]
    simp only [h1, if_false]
    exact ⟨trivial, trivial⟩

/-- And one without. -/
theorem good_case {n : Nat} {ls : List Nat} (hf : Fit ws) (h : (lcv (n : Int) ws Nd Ed (cl ls)).1 = 0) :
    labels_Legal (((n : Int), cl ws, ()), (Nd, Ed, ()), cl ls, ()) = some (fval ws ls Ed, ()) ∧ ref_LabelsFlow (((n : Int), cl ws, ()), (Nd, Ed, ()), cl ls, ()) = some (fval ws ls Ed, ()) ∧
    (∀ v : Int, (fval ws ls Ed).1 ≠ 0 → labels_Sees (((n : Int), cl ws, ()), (Nd, Ed, ()), cl ls, v, ()) = some ([], fval ws ls Ed, ())) ∧
    (∀ v : Int, (fval ws ls Ed).1 = 0 → ¬ (0 ≤ v ∧ v < n) → labels_Sees (((n : Int), cl ws, ()), (Nd, Ed, ()), cl ls, v, ()) = some ([], (2, 0, ()), ())) ∧
    (∀ v : Nat, (fval ws ls Ed).1 = 0 → v < n → labels_Sees (((n : Int), cl ws, ()), (Nd, Ed, ()), cl ls, (v : Int), ()) = some (cl ((List.range ls.length).filter fun i => below ws (ls.getD i 0) v), (0, 0, ()), ()) ∧
      loopM (law_LabelsTells_l1 (((n : Int), cl ws, ()), (Nd, Ed, ()), cl ls, (v : Int), ())) (([] : List Int), (0 : Int), ()) = some (.inl (cl ((List.range ls.length).filter fun i => below ws (ls.getD i 0) v), ()))) := by
  obtain ⟨hv, h1, h2, h3, ls', hcl, hls', hfd⟩ := lcv_zero h
  obtain rfl := cl_inj hcl
  have hls : ∀ x ∈ ls, (x : Int) < (n : Int) := hls'
  obtain ⟨hz, hn, hE, hN, hok, hr⟩ := gval_zero h2
  obtain ⟨ho0, hpos, hlat⟩ := latc_zero h1
  obtain ⟨o1, o2, o3, hin, o⟩ := ordc_zero ho0
  have hw : ws.length = n := by omega
  have hn16 : n ≤ 16 := by omega
  have hlen : ls.length = Nd.length := by rw [length_cl] at h3; exact h3
  have hl1 := fun z => lab_l1 (Nd := Nd) (Ed := Ed) (l := cl ls) (show (cl ls).length ≤ 12 by omega) (((((n : Int), cl ws, ()), latR (n : Int).toNat ws, ()), 0, ()) : LR) ((n : Int), cl ws, ()) z
  have hl2 := flow_l2 (Nd := Nd) (Ed := Ed) hf hw hls hE hok hlen ((n : Int), cl ws, ()) (latR (n : Int).toNat ws) ((0 : Int), ())
  have hrf := fun z => rflow_l1 (Nd := Nd) (Ed := Ed) hf hw hls hn16 hE hok hlen z
  have hfd' : (List.range (cl ls).length).find? (fun i => badL (n : Int) ((cl ls).getD i 0)) = none := hfd
  have h3' : ((cl ls).length : Int) = (Nd.length : Int) := by omega
  have hd1 : decide ((-1 : Int) ≥ 0) = false := by decide
  refine ⟨?_, ?_, fun v hfv => ?_, fun v hfv hnv => ?_, fun v hfv hvn => ⟨?_, rsees_l1 hf hw hls (by omega) (by omega) _⟩⟩
  · unfold labels_Legal fval
    simp only [lattice_Of_eq hf, Option.bind_some, cond_bne, h1, if_true, graph_Check_eq, h2, h3', hl1, hfd', Option.map_none, exitOr_none, Sum.elim_inr, Sum.elim_inl, hl2]
    cases (List.range Ed.length).find? fun i => offB ws ls Ed i with
    | none => simp only [Option.map_none, exitOr_none, Sum.elim_inr, Sum.elim_inl, hd1, cond_false]
    | some i => simp only [Option.map_some, exitOr_some, Sum.elim_inl, dcT (show (i : Int) ≥ 0 by omega), cond_true]
  · unfold ref_LabelsFlow fval
    simp only [hrf, Option.bind_some]
    cases (List.range Ed.length).find? fun i => offB ws ls Ed i <;> rfl
  · unfold labels_Sees
    unfold fval at hfv ⊢
    simp only [lattice_Of_eq hf, Option.bind_some, cond_bne, h1, if_true, graph_Check_eq, h2, h3', sl1, sl2, hl1, hfd', Option.map_none, exitOr_none, Sum.elim_inr, Sum.elim_inl, hl2]
    cases hq : (List.range Ed.length).find? fun i => offB ws ls Ed i with
    | none => rw [hq] at hfv; exact absurd rfl hfv
    | some i => simp only [Option.map_some, exitOr_some, Sum.elim_inl, dcT (show (i : Int) ≥ 0 by omega), cond_true]; rfl
  · unfold labels_Sees
    unfold fval at hfv
    simp only [lattice_Of_eq hf, Option.bind_some, cond_bne, h1, if_true, graph_Check_eq, h2, h3', sl1, sl2, hl1, hfd', Option.map_none, exitOr_none, Sum.elim_inr, Sum.elim_inl, hl2]
    cases hq : (List.range Ed.length).find? fun i => offB ws ls Ed i with
    | some i => rw [hq] at hfv; cases hfv
    | none =>
      simp only [Option.map_none, exitOr_none, Sum.elim_inr, Sum.elim_inl, hd1, cond_false]
      by_cases hv0 : 0 ≤ v
      · rw [dcT (show v ≥ 0 from hv0), dcF (show ¬ v < (n : Int) by omega)]; rfl
      · rw [dcF (show ¬ v ≥ 0 from hv0)]; rfl
  · unfold labels_Sees
    unfold fval at hfv
    simp only [lattice_Of_eq hf, Option.bind_some, cond_bne, h1, if_true, graph_Check_eq, h2, h3', sl1, sl2, hl1, hfd', Option.map_none, exitOr_none, Sum.elim_inr, Sum.elim_inl, hl2]
    cases hq : (List.range Ed.length).find? fun i => offB ws ls Ed i with
    | some i => rw [hq] at hfv; cases hfv
    | none =>
      simp only [Option.map_none, exitOr_none, Sum.elim_inr, Sum.elim_inl, hd1, cond_false, dcT (show (v : Int) ≥ 0 by omega), cond_true, dcT (show (v : Int) < (n : Int) by omega), Bool.not_true]
      rw [sl4, sees_l3 hf hw hls (by omega)]
      rfl

/-- THE LAW. -/
theorem labelsTells (hf : Fit ws) (v : Int) : law_LabelsTells ((N, cl ws, ()), (Nd, Ed, ()), l, v, ()) = some (true, ()) := by
  have e20 : ((2 : Int) != 0) = true := rfl
  by_cases h : (lcv N ws Nd Ed l).1 = 0
  · obtain ⟨hv, h1, h2, h3, ls, rfl, hls', hfd⟩ := lcv_zero h
    obtain ⟨ho0, hpos, hlat⟩ := latc_zero h1
    obtain ⟨n, rfl⟩ := Int.eq_ofNat_of_zero_le (show 0 ≤ N by omega)
    obtain ⟨c1, c2, c3, c4, c5⟩ := good_case hf h
    obtain ⟨hz, hn, -⟩ := gval_zero h2
    unfold law_LabelsTells
    simp only [c1, ref_LabelsCheck_eq hf, c2, Option.bind_some, h, beq_self_eq_true, cond_true, Bool.and_true, Bool.not_true, cond_false]
    by_cases hq : (fval ws ls Ed).1 = 0
    · have hq0 : fval ws ls Ed = (0, 0, ()) := by
        unfold fval at hq ⊢
        cases hh : (List.range Ed.length).find? fun i => offB ws ls Ed i with
        | none => rfl
        | some i => rw [hh] at hq; cases hq
      by_cases hv0 : v < 0
      · simp only [c4 v hq (by omega), Option.bind_some, hq, beq_self_eq_true, cond_true, dcT hv0, e20, Bool.and_true]; rfl
      · by_cases hvn : v ≥ (n : Int)
        · simp only [c4 v hq (by omega), Option.bind_some, hq, beq_self_eq_true, cond_true, dcF hv0, cond_false, dcT hvn, e20, Bool.and_true]; rfl
        · obtain ⟨w, rfl⟩ := Int.eq_ofNat_of_zero_le (show 0 ≤ v by omega)
          obtain ⟨d1, d2⟩ := c5 w hq (by omega)
          have e00 : ((0 : Int) != 0) = false := rfl
          simp only [d1, Option.bind_some, hq, beq_self_eq_true, cond_true, dcF hv0, cond_false, dcF hvn, e00, ll3, d2, Sum.elim_inl]
          have hfl : (cl ((List.range ls.length).filter fun i => below ws (ls.getD i 0) w)).length ≤ 1000000 := by
            rw [length_cl]
            refine Nat.le_trans (List.length_filter_le _ _) ?_
            rw [List.length_range]
            rw [length_cl] at h3
            omega
          rw [ref_TimesSame_same _ hfl, hq0]
          rfl
    · simp only [c3 v hq, Option.bind_some, beqF hq, cond_false, bneT hq, cond_true, beq_self_eq_true, Bool.and_true]; rfl
  · obtain ⟨b1, b2⟩ := bad_case hf v h
    unfold law_LabelsTells
    simp only [b1, b2, ref_LabelsCheck_eq hf, Option.bind_some, beqF h, cond_false, beq_self_eq_true, Bool.and_true, Bool.not_true, bneT h, cond_true]
    rfl
end

theorem labelsTells_law (x : ADen sp9.args) (h : WfA sp9.args x) : law_LabelsTells x = some (true, ()) := by
  obtain ⟨⟨N, l, ⟨⟩⟩, ⟨Nd, Ed, ⟨⟩⟩, lb, v, ⟨⟩⟩ := x
  obtain ⟨ws, rfl, hf⟩ := words_of h.1.2.1
  exact labelsTells hf v

end Go.Proofs.Tryd
