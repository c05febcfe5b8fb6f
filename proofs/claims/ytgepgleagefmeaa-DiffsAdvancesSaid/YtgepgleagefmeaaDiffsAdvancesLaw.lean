/- The plain law of DiffsAdvances. -/
import Derived.Test.YtgepgleagefmeaaP18Funs
import Derived.Test.YtgepgleagefmeaaAbsSums
import Derived.Test.YtgepgleagefmeaaP18LemmasDiffsAdvances3
namespace Go.Proofs.Try
open Go Go.Abs


theorem tlist_ok {F : List (List Int)} {f0 : List Int} (h : tlist (f0 :: F) = 0) : F.length ≤ 63 ∧ FOK f0.length f0 ∧ ∀ f ∈ F, FOK f0.length f := by
  obtain ⟨h1, h2⟩ := tlist_zero h
  refine ⟨by simp only [List.length_cons] at h1; omega, ⟨rfl, (h2 f0 List.mem_cons_self).1⟩, fun f hf => ?_⟩
  have := h2 f (List.mem_cons_of_mem _ hf)
  exact ⟨this.2, this.1⟩
theorem good_fok {D : List Df} (g : Good D) {d : Nat} (h : ∀ e ∈ D, e.1.length = d) : ∀ e ∈ D, FOK d e.1 ∧ e.2.1.length ≤ 3000000 := fun e he => ⟨⟨h e he, g.chk e he⟩, by have := len_le_num he; have := g.num; omega⟩
theorem law_loop {d : Nat} {D : List Df} {f0 : List Int} {F : List (List Int)} (hD : ∀ e ∈ D, FOK d e.1) (hf0 : FOK d f0) (hF : ∀ f ∈ F, FOK d f) (hFl : F.length ≤ 100000) (hl : D.length ≤ 100000) :
    loopM (law_DiffsAdvances_l1 (D, f0 :: F, ())) (([] : List Df), (0 : Int), ()) = some (.inl (movD D f0 F, ())) := by
  refine loopM_sim D.length (fun i => (movD (D.take i) f0 F, (i : Int), ())) _ (fun i hi => ?_) ?_ rfl
  · have hk := hD D[i] (List.getElem_mem hi)
    have hlen : (movD (D.take i) f0 F).length = i := by unfold movD; rw [List.length_map, List.length_take]; omega
    unfold law_DiffsAdvances_l1
    simp only [dcT (show (i : Int) < (D.length : Int) by omega), cond_true, getI_nat, List.getElem?_eq_getElem hi, Option.bind_some, wrapS (show i < 9223372036854775807 by omega), ref_adv hk hf0 hF hFl, hlen]
    rw [room_ok (show i + ([(advT D[i].1 f0 F, D[i].2.1, ())] : List Df).length ≤ 140737488355328 by simp; omega) (show (i + ([(advT D[i].1 f0 F, D[i].2.1, ())] : List Df).length) * 48 ≤ 140737488355328 by simp; omega), List.take_succ_eq_append_getElem hi]
    unfold movD
    rw [List.map_append]; rfl
  · unfold law_DiffsAdvances_l1
    simp only [dcF (show ¬ (D.length : Int) < (D.length : Int) by omega), cond_false, List.take_length]
theorem nil_told : (told (tidyL [])) = ([], 0, ()) := rfl
theorem tells_nil : diffs_History_Tells ([], ()) = some ([], 0, ()) := by
  have g : Good ([] : List Df) := ⟨by simp, Nat.zero_le _, fun d hd => (by cases hd), ⟨0, fun d hd => (by cases hd)⟩⟩
  have h := his_told g
  rw [nil_told] at h
  have e : (allSome (hisT ([] : List Df) ([] : List Df).length)) = some [] := rfl
  rw [e] at h
  simp only [Option.bind_some] at h
  cases hq : diffs_History_Tells ([], ()) with
  | none => rw [hq] at h; cases h
  | some v => rw [hq] at h; exact h
theorem told_same {D : List Df} (g : Good D) : ref_DiffsSame ((told (tidyL D)).1, (told (tidyL D)).1, ()) = some (true, ()) := by
  have t1 := tidy_len D
  have t2 := tidy_num D
  have g1 := g.len
  have g2 := g.num
  have h4 := good_times g
  unfold told
  rw [if_neg (by omega), if_neg (by omega)]
  show ref_DiffsSame (tidyL D, tidyL D, ()) = _
  exact ref_same (by omega) (fun d hd => by
    have h3 := len_le_num hd
    obtain ⟨u, hu, -, rfl⟩ := tidyL_mem.1 hd
    have h7 := h4 u hu
    exact ⟨by show u.length ≤ _; omega, by omega⟩)

theorem diffsAdvances {D : List Df} (h : D.length * 48 ≤ 140737488355328) (F : List (List Int)) : law_DiffsAdvances (D, F, ()) = some (true, ()) := by
  unfold law_DiffsAdvances diffs_Advance
  rw [check_eq h, ref_check_eq D]
  simp only [Option.bind_some, times_List_eq, ref_TimesList_eq]
  by_cases h0 : dchk D = 0
  · have g := dchk_zero h0
    have g1 := g.len
    simp only [bneF h0, cond_false, beqT h0, cond_true, Option.bind_some, Sum.elim_inl]
    by_cases ht : tlist F = 0
    · simp only [bneF ht, cond_false, beqT ht, cond_true]
      match F, ht with
      | [], ht =>
        simp only [List.length_nil, beqT (show (((0 : Nat) : Int)) = 0 from rfl), cond_true, Option.bind_some, Sum.elim_inl]
        rfl
      | f0 :: F, ht =>
        obtain ⟨l1, o1, o2⟩ := tlist_ok ht
        have hz : ((((f0 :: F).length : Nat) : Int) == (0 : Int)) = false := beqF (by simp only [List.length_cons]; omega)
        simp only [hz, cond_false, Option.bind_some, Sum.elim_inl, beqT ht, cond_true]
        match D, h, h0, g, g1 with
        | [], h, h0, g, g1 =>
          have hl8 : loopM (diffs_Advance_l8 (([] : List Df), f0 :: F, ())) ((0 : Int), ([] : Hm), ()) = some (.inl ([], ())) := loopM_inr (by
            unfold diffs_Advance_l8
            rfl)
          have hl2 : loopM (law_DiffsAdvances_l2 (([] : List Df), f0 :: F, ())) (([] : List Df), (0 : Int), ()) = some (.inl ([], ())) := loopM_inr (by
            unfold law_DiffsAdvances_l2
            rfl)
          rw [dcF (show ¬ ((([] : List Df).length : Nat) : Int) > 0 by simp), cond_false, hl8]
          simp only [Option.bind_some, Sum.elim_inl]
          rw [show allSome ([] : Hm) = some [] from rfl]
          simp only [Option.bind_some, tells_nil, cond_false, bneF ht, hl2, Sum.elim_inl, ref_told_eq g, nil_told, beqT rfl, cond_true]
          rw [ref_same (by simp) (fun d hd => by cases hd)]
          rfl
        | e :: D, h, h0, g, g1 =>
          obtain ⟨n, hn⟩ := g.same
          rw [dcT (show ((((e :: D).length : Nat)) : Int) > 0 by simp only [List.length_cons]; omega)]
          rw [show getI (e :: D) (0 : Int) = some e from rfl, show getI (f0 :: F) (0 : Int) = some f0 from rfl]
          simp only [cond_true, Option.bind_some]
          by_cases he : e.1.length = f0.length
          · have hfk := good_fok g (d := f0.length) (fun u hu => by rw [hn u hu, ← hn e List.mem_cons_self]; exact he)
            have gm := movD_good g (fun u hu => (hfk u hu).1) o1 o2
            simp only [bneF (show (e.1.length : Int) = (f0.length : Int) by omega), cond_false, Option.bind_some, Sum.elim_inl, bneF ht]
            rw [adv_main hfk o1 o2 (by omega) (by omega)]
            simp only [Option.bind_some, Sum.elim_inl]
            have hml : (movD (e :: D) f0 F).length = (e :: D).length := by unfold movD; rw [List.length_map]
            rw [← hml, his_told gm]
            simp only [Option.bind_some]
            rw [law_loop (fun u hu => (hfk u hu).1) o1 o2 (by omega) (by omega)]
            simp only [Option.bind_some, Sum.elim_inl, ref_told_eq gm, beqT rfl, cond_true, told_same gm]
          · simp only [bneT (show (e.1.length : Int) ≠ (f0.length : Int) by omega), cond_true, Option.bind_some, Sum.elim_inl]
            rfl
    · simp only [bneT ht, cond_true, Option.bind_some, beqF ht, cond_false, beqT rfl]
      rfl
  · simp only [bneT h0, cond_true, beqF h0, cond_false, Option.bind_some, Sum.elim_inl, beqT rfl]
    rfl

theorem diffsAdvances_law (x : ADen sp8.args) (h0 : List.length x.1 * 48 ≤ 140737488351232) : law_DiffsAdvances x = some (true, ()) := by
  obtain ⟨D, F, ⟨⟩⟩ := x
  exact diffsAdvances (show D.length * 48 ≤ 140737488355328 from Nat.le_trans h0 (by decide)) F

end Go.Proofs.Try
