/- The plain law of LatticeMakes. -/
import Derived.Test.YtofcpghoogaglaaDoorD1Funs
import Derived.Test.YtofcpghoogaglaaDoorAbsSums
import Derived.Test.YtofcpghoogaglaaDoorD1LibLattice
import Derived.Test.YtofcpghoogaglaaDoorD1LibSame
import Derived.Test.YtofcpghoogaglaaDoorD1LibWords
namespace Go.Proofs.Tryd
open Go Go.Abs


theorem latR_len {n : Nat} (hn : n ≤ 16) (ws : List Nat) : (latR n ws).1.length ≤ 1000000 ∧ (latR n ws).2.1.length ≤ 1000000 := by
  have := sq_le hn
  exact ⟨by show (sq n _).length ≤ _; rw [sq_length]; omega, by show (sq n _).length ≤ _; rw [sq_length]; omega⟩
theorem ref_Lattices_same {l : List Int × List Int × Int × Int × Unit} (h1 : l.1.length ≤ 1000000) (h2 : l.2.1.length ≤ 1000000) : ref_Lattices (l, l, ()) = some (true, ()) := by
  unfold ref_Lattices
  simp (disch := first | assumption | omega) only [cond_true, Option.bind_some, ref_TimesSame_same _ h1, ref_TimesSame_same _ h2, beqT]

/-- THE LAW. -/
theorem latticeMakes {N : Int} {ws : List Nat} (hf : Fit ws) : law_LatticeMakes ((N, cl ws, ()), ()) = some (true, ()) := by
  unfold law_LatticeMakes
  simp (disch := first | assumption | omega) only [Option.bind_some, lattice_Make_eq hf, ref_LatticeMake_eq hf]
  by_cases h : latc N ws = 0
  · obtain ⟨h0, h1, h2⟩ := latc_zero h
    obtain ⟨h3, h4, -⟩ := ordc_zero h0
    have hl := latR_len (show N.toNat ≤ 16 by omega) ws
    simp (disch := first | assumption | omega) only [cond_true, Option.bind_some, if_true, h, beqT, ref_Lattices_same hl.1 hl.2]
  · simp (disch := first | assumption | omega) only [cond_true, Option.bind_some, if_false, h, beqT, ref_Lattices_same (l := ([], [], 0, 0, ())) (by simp) (by simp)]

theorem latticeMakes_law (x : ADen sp11.args) (h : WfA sp11.args x) : law_LatticeMakes x = some (true, ()) := by
  obtain ⟨⟨N, l, ⟨⟩⟩, ⟨⟩⟩ := x
  obtain ⟨ws, rfl, hf⟩ := words_of h.1.2.1
  exact latticeMakes hf

end Go.Proofs.Tryd
