/- The plain law of OrderSorts. -/
import Derived.Test.YtofcpghoogaglaaDoorD1Funs
import Derived.Test.YtofcpghoogaglaaDoorAbsSums
import Derived.Test.YtofcpghoogaglaaDoorD1LibSorted
import Derived.Test.YtofcpghoogaglaaDoorD1LibSame
import Derived.Test.YtofcpghoogaglaaDoorD1LibWords
namespace Go.Proofs.Tryd
open Go Go.Abs


/-- THE LAW. -/
theorem orderSorts {N : Int} {ws : List Nat} (hf : Fit ws) : law_OrderSorts ((N, cl ws, ()), ()) = some (true, ()) := by
  unfold law_OrderSorts
  simp (disch := first | assumption | omega) only [Option.bind_some, order_Sorted_eq hf, ref_OrderCheck_eq hf]
  by_cases h : ordc N ws = 0
  · obtain ⟨h1, h2, h3, h4, o⟩ := ordc_zero h
    obtain ⟨n, rfl⟩ := Int.eq_ofNat_of_zero_le h1
    have hl : ws.length = n := by omega
    simp (disch := first | assumption | omega) only [cond_true, cond_false, Option.bind_some, Int.toNat_natCast, length_cl, if_true, h, beqT, bneF, ref_OrderSorted_eq hf hl (show n ≤ 16 by omega) o]
    rw [ref_TimesSame_same _ (by rw [cl_length, sortTo_length]; omega)]
    rfl
  · simp (disch := first | assumption | omega) only [cond_true, List.length_nil, if_false, h, beqT, bneT]

theorem orderSorts_law (x : ADen sp8.args) (h : WfA sp8.args x) : law_OrderSorts x = some (true, ()) := by
  obtain ⟨⟨N, l, ⟨⟩⟩, ⟨⟩⟩ := x
  obtain ⟨ws, rfl, hf⟩ := words_of h.1.2.1
  exact orderSorts hf

end Go.Proofs.Tryd
