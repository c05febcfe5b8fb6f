/- The plain law of DownsBelow. -/
import Derived.Test.YthohigdbddilmaaDoorD2Funs
import Derived.Test.YthohigdbddilmaaDoorAbsSums
import Derived.Test.YthohigdbddilmaaDoorD2LibBirk
namespace Go.Proofs.Tryd
open Go Go.Abs


/-- THE LAW. -/
theorem downsBelow {N : Int} {ws : List Nat} (hf : Fit ws) : law_DownsBelow ((N, cl ws, ()), ()) = some (true, ()) := by
  unfold law_DownsBelow
  simp (disch := first | assumption | omega) only [Option.bind_some, downs_Birkhoff_eq hf, ref_LatticeMake_eq hf]
  by_cases h : latc N ws = 0
  · obtain ⟨h0, -, -⟩ := latc_zero h
    obtain ⟨h1, h2, h3, hin, o⟩ := ordc_zero h0
    obtain ⟨n, rfl⟩ := Int.eq_ofNat_of_zero_le h1
    have hl : ws.length = n := by omega
    have hn : n ≤ 16 := by omega
    simp (disch := first | assumption | omega) only [cond_true, cond_false, Option.bind_some, Int.toNat_natCast, length_cl, length_tab, if_true, h, beqT, bneF, ref_DownsBirkhoff_eq hf hl hn]
    rw [ref_Words_same (by rw [cl_length, tab_length]; omega)]
    rfl
  · simp (disch := first | assumption | omega) only [cond_true, List.length_nil, if_false, h, beqT, bneT]

theorem downsBelow_law (x : ADen sp7.args) (h : WfA sp7.args x) : law_DownsBelow x = some (true, ()) := by
  obtain ⟨⟨N, l, ⟨⟩⟩, ⟨⟩⟩ := x
  obtain ⟨ws, rfl, hf⟩ := words_of h.1.2.1
  exact downsBelow hf

end Go.Proofs.Tryd
