/- 'watershedlaw.OrderChains' returns true, whatever it is given, and leaves its arguments as they were: the row, and its tied card. -/
import Derived.Test.YtofcpghoogaglaaDoorOrderChainsLaw
import Derived.Test.YtofcpghoogaglaaDoorAbsLaid
import Derived.Test.YtofcpghoogaglaaDoorRows
import Derived.Test.YtofcpghoogaglaaDoorTie
import Derived.Test.YtofcpghoogaglaaDoorCards
import Derived.ProofKit
import Derived.LaidMore
import Derived.SevenTiedAt
import Derived.ChangeSame
import Derived.Stop.Joined
namespace Go.Proofs.YtofcpghoogaglaaDoor
open Go Go.ChangeShapes Go.WideShapes Go.ChangeAt Go.RowKit

theorem orderChains_own : ownKnob Tryd.prog.godebug = none := by kernel_rfl
theorem orderChains_laidOut : laidOutB Tryd.prog = true := by kernel_rfl

/-- The door's own heap meets the condition. -/
theorem orderChains_met (os : Os) (args : Array Value) : laidMetH Tryd.prog Rows.orderChainsRow.laid ((World.doorLaid Tryd.prog 14 os).forCall (fun _ _ => 0) ⟨#[], args, []⟩).memory :=
  laidMetH_of_parts3 (fuel := 8) (laidMet_of_run' 8 (by kernel_rfl) (by kernel_rfl)) (by kernel_rfl) (by kernel_rfl)

theorem orderChains_tabs : ∀ p ∈ Go.Proofs.Tryd.gls, Abs.TabOf Tryd.prog Rows.orderChainsRow.laid p :=
  fun p hp => by
    rcases List.mem_cons.1 hp with rfl | hp
    · exact ⟨("math/bits.deBruijn64tab", Rows.laid_math_bits_deBruijn64tab), by simp [Rows.orderChainsRow], 128, 5, by kernel_rfl, by kernel_rfl, by kernel_rfl, by kernel_rfl, by kernel_rfl, by rw [Go.Proofs.Tryd.tab0_eq]; kernel_rfl⟩
    · cases hp

set_option maxRecDepth 100000 in
theorem orderChains_lifted (os : Os) (started : os.Started) (H : Type) (enc : TypeId × Value → H) :
    ReturnsInHanded {} Tryd.checked os 13 .any (fun w args => (Rows.orderChainsSpec.pre enc Tryd.prog Tryd.f13 [] false w args ∧ laidMetH Tryd.prog Rows.orderChainsRow.laid w) ∧ sizedMet enc Tryd.prog Tryd.f13 (OpenSpec.ofChange Rows.orderChainsSpec) false w args)
      (Rows.orderChainsSpec.post enc Tryd.prog Tryd.f13 false true false false) := by
  refine returnsInHanded_of_change_and (C := Tryd.checked) (X := fun w _ => laidMetH Tryd.prog Rows.orderChainsRow.laid w) (fun _ _ _ hh h => h.of_heap hh) orderChains_own started (by kernel_rfl) Tryd.func13
    (ChangeSpec.witness_shaped (enc := enc) (C := Tryd.checked) (os := os) (X := fun w _ => laidMetH Tryd.prog Rows.orderChainsRow.laid w) false (World.doorLaid Tryd.prog 14 os) #[.agg #[.int .i64 0, .slice none 0 0]] 40 rfl (World.shaped_of_RefB (by kernel_rfl) (by kernel_rfl)) (by kernel_rfl) (by kernel_rfl) (by kernel_rfl) (orderChains_met os _)) ?_
  intro W base args ds gs before hval0 hW _ _ hL _
  exact Abs.law_contract (P := Tryd.prog) (fn := Tryd.f13) (tb := 4) orderChains_laidOut (by kernel_rfl) (by kernel_rfl) rfl (by kernel_rfl) (by kernel_rfl) Go.Proofs.Tryd.ok13 (Abs.globOK_laid (by kernel_rfl) orderChains_tabs hL) (fun h => by
      match ds, h with
      | [_], _ => rfl) (fun x wf _ => Go.Proofs.Tryd.orderChains_law x wf) hval0 hW

theorem orderChains_holds : Rows.OrderChainsSaid :=
  OpenClaim.holds_of_wide 13 Tryd.f13 rfl rfl rfl rfl rfl rfl rfl ⟨rfl, rfl, rfl, rfl, rfl⟩ rfl rfl rfl rfl rfl (by kernel_rfl) Tryd.func13 (by kernel_rfl)
    (of_decide_eq_true (by kernel_rfl)) (by unfold Func.isWrapper; first | (rw [if_pos (by decide +kernel)]; kernel_rfl) | (rw [if_neg (by decide +kernel)]; exact ⟨rfl, rfl⟩))
    (fun os started H enc _ => orderChains_lifted os started H enc)

theorem orderChains_card_holds : Rows.OrderChainsCardSaid :=
  Claim7.holds_tied_plain_at .later [] [.data] true (true, "575d45e31cee6a3bd6784ceb62133218e6e32cfe5c07eb9bfbdc43d046bc6418") false
    orderChains_holds (fun _ h => by cases h) (by kernel_rfl) (fun _ h => by cases h) orderChains_row_tie rfl ⟨rfl, rfl⟩ (by kernel_rfl) rfl
    (fun f fn hf hfn => by
      obtain rfl : f = 13 := Option.some.inj ((show Tryd.prog.funcNamed "watershed/watershedlaw.OrderChains" = some 13 by kernel_rfl).symm.trans hf) |>.symm
      obtain rfl : fn = Tryd.f13 := (Option.some.inj (Tryd.func13.symm.trans hfn)).symm
      exact ⟨by kernel_rfl, fun j t ht => by
        have hm : t ∈ Tryd.f13.params.toList := List.mem_of_getElem? (by simpa using ht)
        have hall : (Tryd.f13.params.toList.all fun t => !(Tryd.prog.wantsStandIn t)) = true := by kernel_rfl
        have := List.all_eq_true.1 hall t hm
        exact (show Tryd.prog.wantsStandIn t = false by simpa using this)⟩)
    (by kernel_rfl)

end Go.Proofs.YtofcpghoogaglaaDoor
