/- The plain law of LabelsInfers. -/
import Derived.Test.YtammjpalmmhokaaDoorD4Funs
import Derived.Test.YtammjpalmmhokaaDoorAbsSums
import Derived.Test.YtammjpalmmhokaaDoorD4LemmasLabelsInfers4
namespace Go.Proofs.Tryd
open Go Go.Abs


section
variable {Nd : List Node} {Ed : List Edge} {l : List Int} {N : Int} {ws : List Nat}
theorem infer_bad (hf : Fit ws) (h : ¬ (lcv N ws Nd Ed l).1 = 0) : labels_Infer ((N, cl ws, ()), (Nd, Ed, ()), l, ()) = some ([], lcv N ws Nd Ed l, ()) := by
  unfold labels_Infer
  simp only [lattice_Of_eq hf, Option.bind_some, cond_bne]
  unfold lcv at h ⊢
  by_cases h1 : latc N ws = 0
  · rw [if_neg (show ¬ latc N ws ≠ 0 by simpa using h1)] at h ⊢
    by_cases h2 : (gval Nd Ed).1 = 0
    · rw [if_neg (show ¬ (gval Nd Ed).1 ≠ 0 by simpa using h2)] at h ⊢
      obtain ⟨hz, hn, -, -, -, -⟩ := gval_zero h2
      by_cases h3 : (l.length : Int) = (Nd.length : Int)
      · rw [if_neg (show ¬ (l.length : Int) ≠ (Nd.length : Int) by simpa using h3)] at h ⊢
        cases hfd : (List.range l.length).find? fun i => badL N (l.getD i 0) with
        | none => rw [hfd] at h; exact absurd rfl h
        | some i =>
          simp only [h1, if_true, graph_Check_eq, Option.bind_some, h2, h3, inf_l1, lab_l1 (l := l) (show l.length ≤ 12 by omega), hfd, Option.map_some, exitOr_some, Sum.elim_inl]
          rfl
      · rw [if_pos (show (l.length : Int) ≠ (Nd.length : Int) from h3)]
        simp only [h1, if_true, graph_Check_eq, Option.bind_some, h2, h3, if_false]
        rfl
    · rw [if_pos (show (gval Nd Ed).1 ≠ 0 from h2)]
      simp only [h1, if_true, graph_Check_eq, Option.bind_some, h2, if_false]
  · rw [if_pos (show latc N ws ≠ 0 from h1)]
    simp only [h1, if_false]

theorem tab_of (ls : List Nat) : ls = tab ls.length fun i => ls.getD i 0 := by
  apply List.ext_getElem?
  intro i
  by_cases hi : i < ls.length
  · rw [tab_get _ hi, List.getD_eq_getElem?_getD, List.getElem?_eq_getElem hi]; rfl
  · rw [List.getElem?_eq_none (by omega), List.getElem?_eq_none (by rw [length_tab]; omega)]

/-- THE LAW. -/
theorem labelsInfers (hf : Fit ws) : law_LabelsInfers ((N, cl ws, ()), (Nd, Ed, ()), l, ()) = some (true, ()) := by
  by_cases h : (lcv N ws Nd Ed l).1 = 0
  · obtain ⟨hv, h1, h2, h3, ls, rfl, hls', hfd⟩ := lcv_zero h
    obtain ⟨ho0, hpos, hlat⟩ := latc_zero h1
    obtain ⟨n, rfl⟩ := Int.eq_ofNat_of_zero_le (show 0 ≤ N by omega)
    obtain ⟨hz, hn, hE, hN, hok, hr⟩ := gval_zero h2
    obtain ⟨o1, o2, o3, hin, o⟩ := ordc_zero ho0
    have hw : ws.length = n := by omega
    have hn16 : n ≤ 16 := by omega
    have hlen : ls.length = Nd.length := by rw [length_cl] at h3; exact h3
    have hls : ∀ x ∈ ls, (x : Int) < (n : Int) := hls'
    have hlat' : latB n ws = true := hlat
    have o' : IsOrder n ws := o
    have hF : ∀ i, i < Nd.length → ls.getD i 0 < n := fun i hi => lab_in hls (by omega)
    have htab : ls = tab Nd.length fun i => ls.getD i 0 := by have := tab_of ls; rwa [hlen] at this
    have hl1 := fun z => lab_l1 (Nd := Nd) (Ed := Ed) (l := cl ls) (show (cl ls).length ≤ 12 by omega) (((((n : Int), cl ws, ()), latR (n : Int).toNat ws, ()), 0, ()) : LR) ((n : Int), cl ws, ()) z
    have hfd' : (List.range (cl ls).length).find? (fun i => badL (n : Int) ((cl ls).getD i 0)) = none := hfd
    have h3' : ((cl ls).length : Int) = (Nd.length : Int) := by omega
    have e00 : ((0 : Int) = 0) = True := by simp
    have hl4 := inf_l4 (F := fun i => ls.getD i 0) o' hlat' hf hw hn16 hE hok hF ((n : Int), cl ws, ()) (cl ls) ((0 : Int), ()) _ (fun i => ls.getD i 0) (Nat.le_refl _) (mid_start o' hlat' hF)
    rw [← htab] at hl4
    have hinf : labels_Infer (((n : Int), cl ws, ()), (Nd, Ed, ()), cl ls, ()) = some (cl (tab Nd.length (bestF n ws Nd.length Ed fun i => ls.getD i 0)), (0, 0, ()), ()) := by
      unfold labels_Infer
      simp only [lattice_Of_eq hf, Option.bind_some, cond_bne, h1, if_true, graph_Check_eq, h2, h3', inf_l1, hl1, hfd', Option.map_none, exitOr_none, Sum.elim_inr, Sum.elim_inl]
      rw [room8 (by omega)]
      simp only [Bool.and_self, cond_true]
      have hl2 := inf_l2 (Nd := Nd) (Ed := Ed) hf hw hls hE hok hlen ((n : Int), cl ws, ()) (latR n ws) ((0 : Int), ())
      have hl2' : loopM (labels_Infer_l2 (((n : Int), cl ws, ()), (Nd, Ed, ()), cl ls, ()) ((((n : Int), cl ws, ()), latR (n : Int).toNat ws, ()), 0, ())) ((0 : Int), ()) = _ := hl2
      rw [hl2', idxv_of, Option.bind_some, Sum.elim_inl]
      have hl4' : loopM (labels_Infer_l4 (((n : Int), cl ws, ()), (Nd, Ed, ()), cl ls, ()) ((((n : Int), cl ws, ()), latR (n : Int).toNat ws, ()), 0, ())) (idxV ws ls Ed, cl ls, ()) = _ := hl4
      rw [hl4']
      rfl
    have href := ref_LabelsInfer_eq (Nd := Nd) (Ed := Ed) (F := fun i => ls.getD i 0) rfl hn hE hok hlat' hf hw hn16 hF
    rw [← htab] at href
    unfold law_LabelsInfers
    simp only [hinf, ref_LabelsCheck_eq hf, Option.bind_some, hv, bneF rfl, cond_false, beq_self_eq_true, Bool.and_true, cond_true, href]
    rw [ref_TimesSame_same _ (by rw [length_cl, length_tab]; omega)]
    rfl
  · unfold law_LabelsInfers
    simp only [infer_bad hf h, ref_LabelsCheck_eq hf, Option.bind_some, bneT h, cond_true, beq_self_eq_true, Bool.and_true]
    rfl
end

theorem labelsInfers_law (x : ADen sp8.args) (h : WfA sp8.args x) : law_LabelsInfers x = some (true, ()) := by
  obtain ⟨⟨N, l, ⟨⟩⟩, ⟨Nd, Ed, ⟨⟩⟩, lb, ⟨⟩⟩ := x
  obtain ⟨ws, rfl, hf⟩ := words_of h.1.2.1
  exact labelsInfers hf

end Go.Proofs.Tryd
