/- The plain law of MobiusChains. -/
import Derived.Test.YtofcpghoogaglaaDoorD1Funs
import Derived.Test.YtofcpghoogaglaaDoorAbsSums
import Derived.Test.YtofcpghoogaglaaDoorD1LibChains
import Derived.Test.YtofcpghoogaglaaDoorD1LibLongs
import Derived.Test.YtofcpghoogaglaaDoorD1LibWords
namespace Go.Proofs.Tryd
open Go Go.Abs


/-- THE LAW. -/
theorem mobiusChains {N a b : Int} {ws : List Nat} (hf : Fit ws) : law_MobiusChains ((N, cl ws, ()), a, b, ()) = some (true, ()) := by
  unfold law_MobiusChains
  simp (disch := first | assumption | omega) only [Option.bind_some, Sum.elim_inl, mobius_Chains_eq hf, ref_OrderCheck_eq hf]
  by_cases h : ordc N ws = 0
  · obtain ⟨h1, h2, h3, h4, h5⟩ := ordc_zero h
    obtain ⟨n, rfl⟩ := Int.eq_ofNat_of_zero_le h1
    have hl : ws.length = n := by omega
    by_cases ha : a < 0
    · have : a < 0 ∨ b < 0 ∨ a ≥ (n : Int) ∨ b ≥ (n : Int) := by omega
      simp (disch := first | assumption | omega) only [cond_true, cond_false, dcT, dcF, Int.toNat_natCast, List.length_nil, if_true, h, this]; rfl
    by_cases hb : b < 0
    · have : a < 0 ∨ b < 0 ∨ a ≥ (n : Int) ∨ b ≥ (n : Int) := by omega
      simp (disch := first | assumption | omega) only [cond_true, cond_false, Option.bind_some, Sum.elim_inl, dcT, dcF, Int.toNat_natCast, List.length_nil, if_true, h, this]; rfl
    by_cases ha2 : a ≥ (n : Int)
    · have : a < 0 ∨ b < 0 ∨ a ≥ (n : Int) ∨ b ≥ (n : Int) := by omega
      simp (disch := first | assumption | omega) only [cond_true, cond_false, dcT, dcF, Int.toNat_natCast, List.length_nil, if_true, h, this]; rfl
    by_cases hb2 : b ≥ (n : Int)
    · have : a < 0 ∨ b < 0 ∨ a ≥ (n : Int) ∨ b ≥ (n : Int) := by omega
      simp (disch := first | assumption | omega) only [cond_true, cond_false, Option.bind_some, Sum.elim_inl, dcT, dcF, Int.toNat_natCast, List.length_nil, if_true, h, this]; rfl
    have hno : ¬ (a < 0 ∨ b < 0 ∨ a ≥ (n : Int) ∨ b ≥ (n : Int)) := by omega
    obtain ⟨a, rfl⟩ := Int.eq_ofNat_of_zero_le (show 0 ≤ a by omega)
    obtain ⟨b, rfl⟩ := Int.eq_ofNat_of_zero_le (show 0 ≤ b by omega)
    have e : (tab n fun m => W64 (chFrom n ws a m b)) = tab n fun m => W64 (chTo n ws b m a) := tab_congr fun m _ => by rw [ch_same (by omega) (by omega)]
    simp (disch := first | assumption | omega) only [cond_true, cond_false, Option.bind_some, Sum.elim_inl, dcF, Int.toNat_natCast, length_tab, if_true, if_false, h, hno, beqT, bneF, ref_MobiusChains_eq hf hl (show n ≤ 16 by omega) (show a < n by omega) (show b < n by omega), e]
    rw [ref_Longs_same (by rw [tab_length]; omega)]
    rfl
  · simp (disch := first | assumption | omega) only [cond_true, cond_false, List.length_nil, if_false, h, beqF, bneT, beqT]

theorem mobiusChains_law (x : ADen sp7.args) (h : WfA sp7.args x) : law_MobiusChains x = some (true, ()) := by
  obtain ⟨⟨N, l, ⟨⟩⟩, a, b, ⟨⟩⟩ := x
  obtain ⟨ws, rfl, hf⟩ := words_of h.1.2.1
  exact mobiusChains hf

end Go.Proofs.Tryd
