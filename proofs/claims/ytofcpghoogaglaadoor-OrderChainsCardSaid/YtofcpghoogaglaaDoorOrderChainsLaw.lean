/- The plain law of OrderChains. -/
import Derived.Test.YtofcpghoogaglaaDoorD1Funs
import Derived.Test.YtofcpghoogaglaaDoorAbsSums
import Derived.Test.YtofcpghoogaglaaDoorD1LibChain
import Derived.Test.YtofcpghoogaglaaDoorD1LibSame
import Derived.Test.YtofcpghoogaglaaDoorD1LibWords
namespace Go.Proofs.Tryd
open Go Go.Abs


theorem chain_short {n : Nat} {ws : List Nat} (o : IsOrder n ws) : (theChain n ws).length ≤ n + 1 := by
  unfold theChain
  cases h : pickC n ws (2 ^ n - 1) (maxUp n ws) with
  | none => exact Nat.zero_le _
  | some i =>
    have hi := List.mem_range.1 (List.mem_of_find?_eq_some h)
    show (chainC n ws i).length ≤ _
    have := upC_le n ws i
    rw [chainC_len o hi]; omega

/-- THE LAW. -/
theorem orderChains {N : Int} {ws : List Nat} (hf : Fit ws) : law_OrderChains ((N, cl ws, ()), ()) = some (true, ()) := by
  unfold law_OrderChains
  simp (disch := first | assumption | omega) only [Option.bind_some, order_Heights_eq hf, order_Chain_eq hf, ref_OrderCheck_eq hf]
  by_cases h : ordc N ws = 0
  · obtain ⟨h1, h2, h3, hin, o⟩ := ordc_zero h
    obtain ⟨n, rfl⟩ := Int.eq_ofNat_of_zero_le h1
    have hl : ws.length = n := by omega
    have hn : n ≤ 16 := by omega
    have o : IsOrder n ws := o
    have hc := chain_short o
    simp (disch := first | assumption | omega) only [cond_true, cond_false, Option.bind_some, Int.toNat_natCast, length_cl, length_tab, if_true, h, beqT, bneF, ref_OrderHeights_eq hf hl hn o, ref_OrderChain_eq hf hl hn o]
    rw [ref_TimesSame_same _ (by rw [cl_length, tab_length]; omega), ref_TimesSame_same _ (by rw [cl_length]; omega)]
    rfl
  · simp (disch := first | assumption | omega) only [cond_true, List.length_nil, if_false, h, beqT, bneT] <;> rfl

theorem orderChains_law (x : ADen sp13.args) (h : WfA sp13.args x) : law_OrderChains x = some (true, ()) := by
  obtain ⟨⟨N, l, ⟨⟩⟩, ⟨⟩⟩ := x
  obtain ⟨ws, rfl, hf⟩ := words_of h.1.2.1
  exact orderChains hf

end Go.Proofs.Tryd
