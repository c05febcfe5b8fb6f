/- 'watershedlaw.LoopSteps' returns true, whatever it is given, and leaves its arguments as they were. -/
import Derived.Test.YtoddbincogignaaLoopStepsLaw
import Derived.Test.YtoddbincogignaaRows
import Derived.ProofKit
namespace Go.Proofs.Ytoddbincogignaa
open Go.ChangeShapes Go.WideShapes Go.ChangeAt Go.RowKit

theorem loopSteps_own : ownKnob Try.prog.godebug = none := by kernel_rfl
theorem loopSteps_laidOut : laidOutB Try.prog = true := by kernel_rfl

set_option maxRecDepth 100000 in
theorem loopSteps_lifted (os : Os) (started : os.Started) (H : Type) (enc : TypeId × Value → H) :
    ReturnsInHanded {} Try.checked os 13 .any (Rows.loopStepsSpec.pre6 enc Try.prog Try.f13 Rows.loopStepsRow.domain false) (Rows.loopStepsSpec.post enc Try.prog Try.f13 false true false false) := by
  refine returnsInHanded_of_change (C := Try.checked) loopSteps_own started (by kernel_rfl) Try.func13
    (ChangeSpec.witness6 (enc := enc) (C := Try.checked) false ⟨#[], #[.slice none 0 0, .slice none 0 0], []⟩ 40 (by kernel_rfl) (by kernel_rfl) (by kernel_rfl) (by kernel_rfl)) ?_
  intro W base args ds gs before hval0 hW hcnd _
  exact Abs.law_contract (P := Try.prog) (fn := Try.f13) (tb := 4) loopSteps_laidOut (by kernel_rfl) (by kernel_rfl) rfl (by kernel_rfl) (by kernel_rfl) Go.Proofs.Try.ok13 (fun _ _ _ _ h => by cases h) (fun h => by
      match ds, h with
      | [_, _], _ => rfl) (fun x wf _ => Go.Proofs.Try.loopSteps_law x wf) hval0 hW

theorem loopSteps_holds : Rows.LoopStepsSaid :=
  OpenClaim.holds_of_wide 13 Try.f13 rfl rfl rfl rfl rfl rfl rfl ⟨rfl, rfl, rfl, rfl, rfl⟩ rfl rfl rfl rfl rfl (by kernel_rfl) Try.func13 (by kernel_rfl)
    (of_decide_eq_true (by kernel_rfl)) (by unfold Func.isWrapper; first | (rw [if_pos (by decide +kernel)]; kernel_rfl) | (rw [if_neg (by decide +kernel)]; exact ⟨rfl, rfl⟩))
    (fun os started H enc _ => loopSteps_lifted os started H enc)

end Go.Proofs.Ytoddbincogignaa
