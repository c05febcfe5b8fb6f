/- The plain law of DownsTells. -/
import Derived.Test.YtofcpghoogaglaaDoorD1Funs
import Derived.Test.YtofcpghoogaglaaDoorAbsSums
import Derived.Test.YtofcpghoogaglaaDoorD1LibDowns
import Derived.Test.YtofcpghoogaglaaDoorD1LibWords
namespace Go.Proofs.Tryd
open Go Go.Abs


/-- THE LAW. -/
theorem downsTells {N : Int} {ws : List Nat} (hf : Fit ws) {set : Nat} (hs : set < 2 ^ 32) : law_DownsTells ((N, cl ws, ()), (set : Int), ()) = some (true, ()) := by
  unfold law_DownsTells
  simp (disch := first | assumption | omega) only [Option.bind_some, Sum.elim_inl, downs_Down_eq hf hs, downs_Maximal_eq hf hs, downs_Minimal_eq hf hs, ref_OrderCheck_eq hf]
  by_cases h : ordc N ws = 0
  · obtain ⟨h1, h2, h3, hin, o⟩ := ordc_zero h
    obtain ⟨n, rfl⟩ := Int.eq_ofNat_of_zero_le h1
    have hl : ws.length = n := by omega
    have hn : n ≤ 16 := by omega
    have e : downc (n : Int) ws set = cond (outs set n) 2 0 := by unfold downc; rw [if_pos h]; rfl
    simp (disch := first | assumption | omega) only [cond_true, Option.bind_some, Int.toNat_natCast, h, beqT, ref_Outside_outs hs (show n ≤ 32 by omega), e]
    cases outs set n
    · simp (disch := first | assumption | omega) only [cond_true, cond_false, Option.bind_some, Sum.elim_inl, if_true, beqT, bneF, ref_DownsDown_eq hf hl hn hs, ref_DownsMaximal_eq hf hl hn hs, ref_OrderDual_eq hf hl hn, ref_DownsMaximal_eq (fit_downW (ws := ws) hn) length_down hn hs]
    · rfl
  · have e : downc N ws set = ordc N ws := by unfold downc; rw [if_neg h]
    simp (disch := first | assumption | omega) only [cond_true, cond_false, if_false, h, beqF, bneT, bneF, e]
    rfl

theorem downsTells_law (x : ADen sp12.args) (h : WfA sp12.args x) : law_DownsTells x = some (true, ()) := by
  obtain ⟨⟨N, l, ⟨⟩⟩, s, ⟨⟩⟩ := x
  obtain ⟨ws, rfl, hf⟩ := words_of h.1.2.1
  obtain ⟨set, rfl, hs⟩ := u32_nat h.2.1
  exact downsTells hf hs

end Go.Proofs.Tryd
