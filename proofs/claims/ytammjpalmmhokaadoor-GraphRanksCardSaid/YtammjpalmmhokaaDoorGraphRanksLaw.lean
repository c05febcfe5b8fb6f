/- The plain law of GraphRanks. -/
import Derived.Test.YtammjpalmmhokaaDoorD3Funs
import Derived.Test.YtammjpalmmhokaaDoorAbsSums
import Derived.Test.YtammjpalmmhokaaDoorD3LibGraph10
import Derived.Test.YtammjpalmmhokaaDoorD3LibSame
import Derived.Test.YtammjpalmmhokaaDoorD3LibGraphc
namespace Go.Proofs.Tryd
open Go Go.Abs


theorem graph_Rank_eq (N : List Node) (E : List Edge) : graph_Rank ((N, E, ()), ()) = some (if (gval N E).1 = 0 then cl (rankL N E N.length) else [], gval N E, ()) := by
  unfold graph_Rank
  simp only [graph_Check_eq, Option.bind_some, cond_bne]
  by_cases h : (gval N E).1 = 0
  · obtain ⟨hz, hn, hE, hN, hok, hr⟩ := gval_zero h
    have hr4 : roomOk N.length 4 = true := by
      unfold roomOk
      rw [Bool.and_eq_true]
      exact ⟨Nat.ble_eq_true_of_le (by omega), Nat.ble_eq_true_of_le (by omega)⟩
    simp only [h, if_true, dcT (show (0 : Int) ≤ (N.length : Int) by omega), dcT (show (N.length : Int) ≤ (N.length : Int) by omega), Int.toNat_natCast, hr4, dcT (show (N.length : Int) ≤ 9223372036854775807 by omega), Bool.and_self, cond_true, replic_cl, rank_l1 hn hE hok, Option.bind_some, Sum.elim_inl, rank_l3 hn hN hok hr]
    rw [hz]
  · simp only [h, if_false]

/-- THE LAW. -/
theorem graphRanks (N : List Node) (E : List Edge) : law_GraphRanks ((N, E, ()), ()) = some (true, ()) := by
  unfold law_GraphRanks
  simp only [graph_Rank_eq, ref_GraphCheck_eq, Option.bind_some, beq_self_eq_true, Bool.and_true, cond_true, cond_bne]
  by_cases h : (gval N E).1 = 0
  · obtain ⟨hz, hn, hE, hN, hok, hr⟩ := gval_zero h
    simp only [h, if_true, ref_GraphRank_eq hn hE hN hok hr, Option.bind_some]
    rw [ref_TimesSame_same _ (by rw [length_cl, rankL_len]; omega)]
    rfl
  · simp only [h, if_false]
    rfl

theorem graphRanks_law (x : ADen sp6.args) (_h : WfA sp6.args x) : law_GraphRanks x = some (true, ()) := by
  obtain ⟨⟨N, E, ⟨⟩⟩, ⟨⟩⟩ := x
  exact graphRanks N E

end Go.Proofs.Tryd
