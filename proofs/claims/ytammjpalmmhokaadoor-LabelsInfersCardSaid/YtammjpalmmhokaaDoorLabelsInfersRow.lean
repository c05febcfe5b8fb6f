/- 'watershedlaw.LabelsInfers' returns true, whatever it is given, and leaves its arguments as they were: the row, and its tied card. -/
import Derived.Test.YtammjpalmmhokaaDoorLabelsInfersLaw
import Derived.Test.YtammjpalmmhokaaDoorAbsLaid
import Derived.Test.YtammjpalmmhokaaDoorRows
import Derived.Test.YtammjpalmmhokaaDoorTie
import Derived.Test.YtammjpalmmhokaaDoorCards
import Derived.ProofKit
import Derived.LaidMore
import Derived.SevenTiedAt
import Derived.ChangeSame
import Derived.Stop.Joined
namespace Go.Proofs.YtammjpalmmhokaaDoor
open Go Go.ChangeShapes Go.WideShapes Go.ChangeAt Go.RowKit

theorem labelsInfers_own : ownKnob Tryd.prog.godebug = none := by kernel_rfl
theorem labelsInfers_laidOut : laidOutB Tryd.prog = true := by kernel_rfl

/-- The door's own heap meets the condition. -/
theorem labelsInfers_met (os : Os) (args : Array Value) : laidMetH Tryd.prog Rows.labelsInfersRow.laid ((World.doorLaid Tryd.prog 21 os).forCall (fun _ _ => 0) ⟨#[], args, []⟩).memory :=
  laidMetH_of_parts3 (fuel := 8) (laidMet_of_run' 8 (by kernel_rfl) (by kernel_rfl)) (by kernel_rfl) (by kernel_rfl)

theorem labelsInfers_tabs : ∀ p ∈ Go.Proofs.Tryd.gls, Abs.TabOf Tryd.prog Rows.labelsInfersRow.laid p :=
  fun p hp => by
    rcases List.mem_cons.1 hp with rfl | hp
    · exact ⟨("math/bits.deBruijn64tab", Rows.laid_math_bits_deBruijn64tab), by simp [Rows.labelsInfersRow], 159, 5, by kernel_rfl, by kernel_rfl, by kernel_rfl, by kernel_rfl, by kernel_rfl, by rw [Go.Proofs.Tryd.tab0_eq]; kernel_rfl⟩
    · cases hp

set_option maxRecDepth 100000 in
theorem labelsInfers_lifted (os : Os) (started : os.Started) (H : Type) (enc : TypeId × Value → H) :
    ReturnsInHanded {} Tryd.checked os 8 .any (fun w args => (Rows.labelsInfersSpec.pre enc Tryd.prog Tryd.f8 [] false w args ∧ laidMetH Tryd.prog Rows.labelsInfersRow.laid w) ∧ sizedMet enc Tryd.prog Tryd.f8 (OpenSpec.ofChange Rows.labelsInfersSpec) false w args)
      (Rows.labelsInfersSpec.post enc Tryd.prog Tryd.f8 false true false false) := by
  refine returnsInHanded_of_change_and (C := Tryd.checked) (X := fun w _ => laidMetH Tryd.prog Rows.labelsInfersRow.laid w) (fun _ _ _ hh h => h.of_heap hh) labelsInfers_own started (by kernel_rfl) Tryd.func8
    (ChangeSpec.witness_shaped (enc := enc) (C := Tryd.checked) (os := os) (X := fun w _ => laidMetH Tryd.prog Rows.labelsInfersRow.laid w) false (World.doorLaid Tryd.prog 21 os) #[.agg #[.int .i64 0, .slice none 0 0], .agg #[.slice none 0 0, .slice none 0 0], .slice none 0 0] 40 rfl (World.shaped_of_RefB (by kernel_rfl) (by kernel_rfl)) (by kernel_rfl) (by kernel_rfl) (by kernel_rfl) (labelsInfers_met os _)) ?_
  intro W base args ds gs before hval0 hW _ _ hL _
  exact Abs.law_contract (P := Tryd.prog) (fn := Tryd.f8) (tb := 4) labelsInfers_laidOut (by kernel_rfl) (by kernel_rfl) rfl (by kernel_rfl) (by kernel_rfl) Go.Proofs.Tryd.ok8 (Abs.globOK_laid (by kernel_rfl) labelsInfers_tabs hL) (fun h => by
      match ds, h with
      | [_, _, _], _ => rfl) (fun x wf _ => Go.Proofs.Tryd.labelsInfers_law x wf) hval0 hW

theorem labelsInfers_holds : Rows.LabelsInfersSaid :=
  OpenClaim.holds_of_wide 8 Tryd.f8 rfl rfl rfl rfl rfl rfl rfl ⟨rfl, rfl, rfl, rfl, rfl⟩ rfl rfl rfl rfl rfl (by kernel_rfl) Tryd.func8 (by kernel_rfl)
    (of_decide_eq_true (by kernel_rfl)) (by unfold Func.isWrapper; first | (rw [if_pos (by decide +kernel)]; kernel_rfl) | (rw [if_neg (by decide +kernel)]; exact ⟨rfl, rfl⟩))
    (fun os started H enc _ => labelsInfers_lifted os started H enc)

theorem labelsInfers_card_holds : Rows.LabelsInfersCardSaid :=
  Claim7.holds_tied_plain_at .later [] [.data] true (true, "4bab92b367a5f4300dc100c7ad48b891d1a380a874426787383f9cbadceee6dd") true
    labelsInfers_holds (fun _ h => by cases h) (by kernel_rfl) (fun _ h => by cases h) labelsInfers_row_tie rfl ⟨rfl, rfl⟩ (by kernel_rfl) rfl
    (fun f fn hf hfn => by
      obtain rfl : f = 8 := Option.some.inj ((show Tryd.prog.funcNamed "watershed/watershedlaw.LabelsInfers" = some 8 by kernel_rfl).symm.trans hf) |>.symm
      obtain rfl : fn = Tryd.f8 := (Option.some.inj (Tryd.func8.symm.trans hfn)).symm
      exact ⟨by kernel_rfl, fun j t ht => by
        have hm : t ∈ Tryd.f8.params.toList := List.mem_of_getElem? (by simpa using ht)
        have hall : (Tryd.f8.params.toList.all fun t => !(Tryd.prog.wantsStandIn t)) = true := by kernel_rfl
        have := List.all_eq_true.1 hall t hm
        exact (show Tryd.prog.wantsStandIn t = false by simpa using this)⟩)
    (by kernel_rfl)

end Go.Proofs.YtammjpalmmhokaaDoor
