/- The plain law of FixedTells. -/
import Derived.Test.YtofcpghoogaglaaDoorD1Funs
import Derived.Test.YtofcpghoogaglaaDoorAbsSums
import Derived.Test.YtofcpghoogaglaaDoorD1LibFixed
import Derived.Test.YtofcpghoogaglaaDoorD1LibSame
import Derived.Test.YtofcpghoogaglaaDoorD1LibWords
namespace Go.Proofs.Tryd
open Go Go.Abs


/-- What stays, of the first k. -/
def stays (fs : List Nat) (k : Nat) : List Nat := (List.range k).filter fun x => decide (fs.getD x 0 = x)
theorem stays_succ (fs : List Nat) (k : Nat) : stays fs (k + 1) = if fs.getD k 0 = k then stays fs k ++ [k] else stays fs k := by
  unfold stays
  rw [List.range_succ, List.filter_append]
  by_cases h : fs.getD k 0 = k
  · rw [if_pos h, List.filter_cons, decide_eq_true h]; rfl
  · rw [if_neg h, List.filter_cons, decide_eq_false h]; simp
theorem stays_len (fs : List Nat) (k : Nat) : (stays fs k).length ≤ k := by
  unfold stays; exact Nat.le_trans (List.length_filter_le _ _) (by simp)
theorem cl_snoc' (l : List Nat) (a : Nat) : cl l ++ [(a : Int)] = cl (l ++ [a]) := by simp [cl]

theorem fixed_All_eq {N : Int} {ws : List Nat} (hf : Fit ws) {f : List Int} (hlen : f.length ≤ 9223372036854775807) : fixed_All ((N, cl ws, ()), f, ()) = some (if fixc N ws f = 0 then (cl (stays (f.map Int.toNat) f.length), 0, ()) else ([], fixc N ws f, ())) := by
  unfold fixed_All
  simp (disch := first | assumption | omega) only [Option.bind_some, fixed_Check_eq hf hlen]
  by_cases h : fixc N ws f = 0
  · obtain ⟨h0, h1, h2⟩ := fixc_zero h
    obtain ⟨fs, rfl, h3, h4⟩ := into_nat h1
    have h5 := ordc_zero h0
    have key := loopM_sim (f := fixed_All_l1 ((N, cl ws, ()), cl fs, ())) fs.length (fun k => (cl (stays fs k), (k : Int), ())) (.inl (cl (stays fs fs.length), ())) (fun k hk => by
      have := stays_len fs k
      unfold fixed_All_l1
      simp (disch := first | assumption | omega) only [cond_true, Option.bind_some, dcT, getI_cl, wrapS, length_cl, List.length_cons, List.length_nil, room8, Bool.and_self, stays_succ]
      by_cases e : fs.getD k 0 = k
      · simp (disch := first | assumption | omega) only [cond_true, if_true, e, beqT, cl_snoc']
      · simp (disch := first | assumption | omega) only [cond_false, if_false, e, beqF]) (by
      unfold fixed_All_l1
      simp (disch := first | assumption | omega) only [cond_false, dcF, wrapS, length_cl, List.length_cons, List.length_nil, Bool.and_true, Bool.true_and]) (s0 := ([], 0, ())) rfl
    simp (disch := first | assumption | omega) only [cond_false, Option.bind_some, Sum.elim_inl, length_cl, if_true, h, bneF, key, map_cl]
  · simp (disch := first | assumption | omega) only [cond_true, if_false, h, bneT]

theorem ref_FixedAll_eq {fs : List Nat} (h : fs.length ≤ 1000000) : ref_FixedAll (cl fs, ()) = some (cl (stays fs fs.length), ()) := by
  have key := loopM_sim (f := ref_FixedAll_l1 (cl fs, ())) fs.length (fun k => (cl (stays fs k), (k : Int), ())) (.inl (cl (stays fs fs.length), ())) (fun k hk => by
    have := stays_len fs k
    unfold ref_FixedAll_l1
    simp (disch := first | assumption | omega) only [cond_true, Option.bind_some, dcT, getI_cl, wrapS, length_cl, List.length_cons, List.length_nil, room8, Bool.and_self, stays_succ]
    by_cases e : fs.getD k 0 = k
    · simp (disch := first | assumption | omega) only [cond_true, if_true, e, beqT, cl_snoc']
    · simp (disch := first | assumption | omega) only [cond_false, if_false, e, beqF]) (by
    unfold ref_FixedAll_l1
    simp (disch := first | assumption | omega) only [cond_false, dcF, wrapS, length_cl, List.length_cons, List.length_nil, Bool.and_true, Bool.true_and]) (s0 := ([], 0, ())) rfl
  unfold ref_FixedAll
  simp (disch := first | assumption | omega) only [Option.bind_some, Sum.elim_inl, key]

/-- THE LAW. -/
theorem fixedTells {N : Int} {ws : List Nat} (hf : Fit ws) {f : List Int} (hlen : f.length ≤ 9223372036854775807) : law_FixedTells ((N, cl ws, ()), f, ()) = some (true, ()) := by
  unfold law_FixedTells
  simp (disch := first | assumption | omega) only [Option.bind_some, fixed_Check_eq hf hlen, fixed_All_eq hf hlen, ref_OrderCheck_eq hf]
  by_cases h : ordc N ws = 0
  · obtain ⟨h1, h2, h3, hin, o⟩ := ordc_zero h
    obtain ⟨n, rfl⟩ := Int.eq_ofNat_of_zero_le h1
    have hl : ws.length = n := by omega
    have hn : n ≤ 16 := by omega
    have e : fixc (n : Int) ws f = monoc n ws f := by unfold fixc; rw [if_pos h]; rfl
    simp (disch := first | assumption | omega) only [cond_true, Option.bind_some, Sum.elim_inl, h, beqT, ref_FixedCheck_eq hf hl hn hlen, e]
    by_cases h0 : monoc n ws f = 0
    · obtain ⟨-, h1, -⟩ := fixc_zero (e.trans h0)
      obtain ⟨fs, rfl, h3, h4⟩ := into_nat h1
      have h3 : fs.length = n := h3
      have hs := stays_len fs fs.length
      simp (disch := first | assumption | omega) only [cond_true, cond_false, Option.bind_some, length_cl, if_true, h0, bneF, beqT, map_cl, ref_FixedAll_eq (show fs.length ≤ 1000000 by omega)]
      rw [ref_TimesSame_same _ (by rw [cl_length]; omega)]
      rfl
    · simp (disch := first | assumption | omega) only [cond_true, List.length_nil, if_false, h0, bneT, beqT]
  · have e : fixc N ws f = ordc N ws := by unfold fixc; rw [if_neg h]
    simp (disch := first | assumption | omega) only [cond_true, cond_false, Option.bind_some, Sum.elim_inl, List.length_nil, if_false, h, bneT, beqF, beqT, e]

theorem fixedTells_law (x : ADen sp10.args) (h : WfA sp10.args x) : law_FixedTells x = some (true, ()) := by
  obtain ⟨⟨N, l, ⟨⟩⟩, f, ⟨⟩⟩ := x
  obtain ⟨ws, rfl, hf⟩ := words_of h.1.2.1
  exact fixedTells hf h.2.1.1

end Go.Proofs.Tryd
