/- The plain law of LatticeSubs. -/
import Derived.Test.YthohigdbddilmaaDoorD2Funs
import Derived.Test.YthohigdbddilmaaDoorAbsSums
import Derived.Test.YthohigdbddilmaaDoorD2LibLsub
import Derived.Test.YthohigdbddilmaaDoorD2LibSame
import Derived.Test.YthohigdbddilmaaDoorD2LibWords
namespace Go.Proofs.Tryd
open Go Go.Abs


theorem law_LatticeSubs_l1_eq {n : Nat} {ws : List Nat} {gs : List Int} (hlen : gs.length ≤ 16) :
    loopM (law_LatticeSubs_l1 (((n : Int), cl ws, ()), gs, ())) (0, 0, ()) = some (.inl (cond (gensB (n : Int) gs) 0 2, ())) := by
  let ok := fun k => (List.range k).all fun i => decide (0 ≤ gs.getD i 0) && decide (gs.getD i 0 < (n : Int))
  have hok : ok gs.length = gensB (n : Int) gs := by
    cases h : gensB (n : Int) gs
    · obtain ⟨k, hk, hb⟩ := gens_bad h
      cases h2 : ok gs.length
      · rfl
      · have := List.all_eq_true.1 h2 k (List.mem_range.2 hk)
        rw [Bool.and_eq_true, decide_eq_true_eq, decide_eq_true_eq] at this
        exact absurd this hb
    · obtain ⟨hs, rfl, hlt⟩ := gens_nat h
      refine List.all_eq_true.2 fun i hi => ?_
      have hi := List.mem_range.1 hi
      rw [cl_length] at hi
      have hg := hlt _ (List.mem_of_getElem? (getD_get (d := 0) hi))
      have e : (cl hs).getD i 0 = ((hs.getD i 0 : Nat) : Int) := by
        rw [List.getD_eq_getElem?_getD, get_cl hi]; rfl
      rw [e, Bool.and_eq_true, decide_eq_true_eq, decide_eq_true_eq]
      omega
  refine loopM_sim (f := law_LatticeSubs_l1 (((n : Int), cl ws, ()), gs, ())) gs.length (fun k => ((cond (ok k) 0 2 : Int), (k : Int), ())) _ (fun k hk => ?_) ?_ rfl
  · have hs : ok (k + 1) = (ok k && (decide (0 ≤ gs.getD k 0) && decide (gs.getD k 0 < (n : Int)))) := by
      show (List.range (k + 1)).all _ = _
      rw [List.range_succ, List.all_append]; simp [ok]
    unfold law_LatticeSubs_l1
    rw [hs]
    by_cases h1 : gs.getD k 0 < 0
    · have : ¬ 0 ≤ gs.getD k 0 := by omega
      simp (disch := first | assumption | omega) only [decide_true, decide_false, cond_true, cond_false, Option.bind_some, dcT, dcF, wrapS, Bool.and_true, getI_int, h1, this, Bool.and_false]
    · by_cases h2 : gs.getD k 0 ≥ (n : Int)
      · have : ¬ gs.getD k 0 < (n : Int) := by omega
        simp (disch := first | assumption | omega) only [decide_true, decide_false, cond_true, cond_false, Option.bind_some, dcT, wrapS, getI_int, h1, h2, this, Bool.and_false]
      · simp (disch := first | assumption | omega) only [decide_false, cond_true, cond_false, Option.bind_some, dcT, wrapS, Bool.and_true, Bool.and_self, getI_int, h1, h2]
  · unfold law_LatticeSubs_l1
    simp (disch := first | assumption | omega) only [cond_false, dcF, wrapS, hok] <;> rw [hok]
theorem law_LatticeSubs_l2_same : law_LatticeSubs_l2 = law_LatticeSubs_l1 := rfl

/-- THE LAW. -/
theorem latticeSubs {N : Int} {ws : List Nat} (hf : Fit ws) (gs : List Int) : law_LatticeSubs ((N, cl ws, ()), gs, ()) = some (true, ()) := by
  obtain ⟨hbad, hgood⟩ := lattice_Sub_eq (N := N) hf gs
  unfold law_LatticeSubs
  rw [law_LatticeSubs_l2_same, ref_LatticeMake_eq hf]
  by_cases h : latc N ws = 0
  · obtain ⟨h0, hpos, hlat⟩ := latc_zero h
    obtain ⟨h1, h2, h3, hin, o⟩ := ordc_zero h0
    obtain ⟨n, rfl⟩ := Int.eq_ofNat_of_zero_le h1
    have hn : n ≤ 16 := by omega
    have hlat : latB n ws = true := hlat
    have hsub : subc (n : Int) ws gs = if (gs.length : Int) > 16 then 1 else cond (gensB (n : Int) gs) 0 2 := by unfold subc; rw [if_pos h]
    by_cases hg : (gs.length : Int) > 16
    · rw [if_pos hg] at hsub
      rw [hsub] at hbad
      simp (disch := first | assumption | omega) only [decide_true, cond_true, Option.bind_some, Sum.elim_inl, Int.toNat_natCast, List.length_nil, if_true, hbad (by decide), h, hg, beqT] <;> rfl
    · rw [if_neg hg] at hsub
      have hlen : gs.length ≤ 16 := by omega
      cases hb : gensB (n : Int) gs
      · rw [hb] at hsub
        have hsub : subc (n : Int) ws gs = 2 := hsub
        rw [hsub] at hbad
        simp (disch := first | assumption | omega) only [decide_false, cond_true, cond_false, Option.bind_some, Sum.elim_inl, Int.toNat_natCast, List.length_nil, if_true, hbad (by decide), h, hg, law_LatticeSubs_l1_eq hlen, hb, beqT, bneT] <;> rfl
      · rw [hb] at hsub
        obtain ⟨S, hS, hm⟩ := hgood hsub
        obtain ⟨hs, rfl, hlt⟩ := gens_nat hb
        rw [cl_length] at hlen
        rw [map_clS] at hm
        have hm : Makes n ws (fun i => hs.contains i) S := hm
        have e : listB n S = listB n (turns n ws (fun i => hs.contains i) n) := listB_congr (makes_one hm (turns_make hlat _))
        have hll := listB_len (turns n ws (fun i => hs.contains i) n) n
        simp (disch := first | assumption | omega) only [cond_true, cond_false, Option.bind_some, Sum.elim_inl, dcF, Int.toNat_natCast, length_cl, if_true, hS, h, law_LatticeSubs_l1_eq (show (cl hs).length ≤ 16 by rw [cl_length]; exact hlen), hb, beqT, bneF, ref_LatticeSub_eq hlat hn hlen hlt, e]
        rw [ref_TimesSame_same _ (by rw [cl_length]; omega)]
        rfl
  · have hsub : subc N ws gs = latc N ws := by unfold subc; rw [if_neg h]
    rw [hsub] at hbad
    simp (disch := first | assumption | omega) only [cond_true, cond_false, Option.bind_some, Sum.elim_inl, List.length_nil, if_false, hbad h, h, beqF, bneT, beqT] <;> rfl

theorem latticeSubs_law (x : ADen sp5.args) (h : WfA sp5.args x) : law_LatticeSubs x = some (true, ()) := by
  obtain ⟨⟨N, l, ⟨⟩⟩, g, ⟨⟩⟩ := x
  obtain ⟨ws, rfl, hf⟩ := words_of h.1.2.1
  exact latticeSubs hf g

end Go.Proofs.Tryd
