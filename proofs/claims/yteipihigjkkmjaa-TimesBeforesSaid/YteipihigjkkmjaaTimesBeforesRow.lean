/- 'watershedlaw.TimesBefores' returns true, whatever it is given, and leaves its arguments as they were. -/
import Derived.Test.YteipihigjkkmjaaTimesBeforesLaw
import Derived.Test.YteipihigjkkmjaaRows
import Derived.ProofKit
namespace Go.Proofs.Yteipihigjkkmjaa
open Go.ChangeShapes Go.WideShapes Go.ChangeAt Go.RowKit

theorem timesBefores_own : ownKnob Try.prog.godebug = none := by kernel_rfl
theorem timesBefores_laidOut : laidOutB Try.prog = true := by kernel_rfl

set_option maxRecDepth 100000 in
theorem timesBefores_lifted (os : Os) (started : os.Started) (H : Type) (enc : TypeId × Value → H) :
    ReturnsInHanded {} Try.checked os 11 .any (Rows.timesBeforesSpec.pre6 enc Try.prog Try.f11 Rows.timesBeforesRow.domain false) (Rows.timesBeforesSpec.post enc Try.prog Try.f11 false true false false) := by
  refine returnsInHanded_of_change (C := Try.checked) timesBefores_own started (by kernel_rfl) Try.func11
    (ChangeSpec.witness6 (enc := enc) (C := Try.checked) false ⟨#[], #[.slice none 0 0, .slice none 0 0], []⟩ 40 (by kernel_rfl) (by kernel_rfl) (by kernel_rfl) (by kernel_rfl)) ?_
  intro W base args ds gs before hval0 hW hcnd _
  exact Abs.law_contract (P := Try.prog) (fn := Try.f11) (tb := 4) timesBefores_laidOut (by kernel_rfl) (by kernel_rfl) rfl (by kernel_rfl) (by kernel_rfl) Go.Proofs.Try.ok11 (fun _ _ _ _ h => by cases h) (fun h => by
      match ds, h with
      | [_, _], _ => rfl) (fun x wf _ => Go.Proofs.Try.timesBefores_law x wf) hval0 hW

theorem timesBefores_holds : Rows.TimesBeforesSaid :=
  OpenClaim.holds_of_wide 11 Try.f11 rfl rfl rfl rfl rfl rfl rfl ⟨rfl, rfl, rfl, rfl, rfl⟩ rfl rfl rfl rfl rfl (by kernel_rfl) Try.func11 (by kernel_rfl)
    (of_decide_eq_true (by kernel_rfl)) (by unfold Func.isWrapper; first | (rw [if_pos (by decide +kernel)]; kernel_rfl) | (rw [if_neg (by decide +kernel)]; exact ⟨rfl, rfl⟩))
    (fun os started H enc _ => timesBefores_lifted os started H enc)

end Go.Proofs.Yteipihigjkkmjaa
