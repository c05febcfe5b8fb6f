/- The plain law of LatticeIrreducible. -/
import Derived.Test.YtofcpghoogaglaaDoorD1Funs
import Derived.Test.YtofcpghoogaglaaDoorAbsSums
import Derived.Test.YtofcpghoogaglaaDoorD1LibIrr
import Derived.Test.YtofcpghoogaglaaDoorD1LibSame
import Derived.Test.YtofcpghoogaglaaDoorD1LibWords
namespace Go.Proofs.Tryd
open Go Go.Abs


/-- THE LAW. -/
theorem latticeIrreducible {N : Int} {ws : List Nat} (hf : Fit ws) : law_LatticeIrreducible ((N, cl ws, ()), ()) = some (true, ()) := by
  unfold law_LatticeIrreducible
  simp (disch := first | assumption | omega) only [Option.bind_some, lattice_Irreducible_eq hf, ref_LatticeMake_eq hf]
  by_cases h : latc N ws = 0
  · obtain ⟨h0, -, -⟩ := latc_zero h
    obtain ⟨h1, h2, h3, hin, o⟩ := ordc_zero h0
    obtain ⟨n, rfl⟩ := Int.eq_ofNat_of_zero_le h1
    have hl : ws.length = n := by omega
    have hn : n ≤ 16 := by omega
    have := irrTo_len n ws n
    have := irrTo_len n (downW n ws) n
    simp (disch := first | assumption | omega) only [cond_true, cond_false, Option.bind_some, Int.toNat_natCast, length_cl, if_true, h, beqT, bneF, ref_LatticeIrreducible_eq hf hl hn]
    rw [ref_TimesSame_same _ (by rw [cl_length]; omega), ref_TimesSame_same _ (by rw [cl_length]; omega)]
    rfl
  · simp (disch := first | assumption | omega) only [cond_true, List.length_nil, if_false, h, beqT, bneT]

theorem latticeIrreducible_law (x : ADen sp14.args) (h : WfA sp14.args x) : law_LatticeIrreducible x = some (true, ()) := by
  obtain ⟨⟨N, l, ⟨⟩⟩, ⟨⟩⟩ := x
  obtain ⟨ws, rfl, hf⟩ := words_of h.1.2.1
  exact latticeIrreducible hf

end Go.Proofs.Tryd
