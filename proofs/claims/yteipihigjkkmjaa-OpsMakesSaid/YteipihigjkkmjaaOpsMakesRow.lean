/- 'watershedlaw.OpsMakes' returns true, whatever it is given, and leaves its arguments as they were. -/
import Derived.Test.YteipihigjkkmjaaOpsMakesLaw
import Derived.Test.YteipihigjkkmjaaRows
import Derived.ProofKit
namespace Go.Proofs.Yteipihigjkkmjaa
open Go.ChangeShapes Go.WideShapes Go.ChangeAt Go.RowKit

theorem opsMakes_own : ownKnob Try.prog.godebug = none := by kernel_rfl
theorem opsMakes_laidOut : laidOutB Try.prog = true := by kernel_rfl

set_option maxRecDepth 100000 in
theorem opsMakes_lifted (os : Os) (started : os.Started) (H : Type) (enc : TypeId × Value → H) :
    ReturnsInHanded {} Try.checked os 7 .any (Rows.opsMakesSpec.pre6 enc Try.prog Try.f7 Rows.opsMakesRow.domain false) (Rows.opsMakesSpec.post enc Try.prog Try.f7 false true false false) := by
  refine returnsInHanded_of_change (C := Try.checked) opsMakes_own started (by kernel_rfl) Try.func7
    (ChangeSpec.witness6 (enc := enc) (C := Try.checked) false ⟨#[], #[.agg #[.int .i64 0, .int .i64 0, .int .i64 0], .slice none 0 0], []⟩ 40 (by kernel_rfl) (by kernel_rfl) (by kernel_rfl) (by kernel_rfl)) ?_
  intro W base args ds gs before hval0 hW hcnd _
  exact Abs.law_contract (P := Try.prog) (fn := Try.f7) (tb := 4) opsMakes_laidOut (by kernel_rfl) (by kernel_rfl) rfl (by kernel_rfl) (by kernel_rfl) Go.Proofs.Try.ok7 (fun _ _ _ _ h => by cases h) (fun h => by
      match ds, h with
      | [_, _], _ => rfl) (fun x wf _ => Go.Proofs.Try.opsMakes_law x wf) hval0 hW

theorem opsMakes_holds : Rows.OpsMakesSaid :=
  OpenClaim.holds_of_wide 7 Try.f7 rfl rfl rfl rfl rfl rfl rfl ⟨rfl, rfl, rfl, rfl, rfl⟩ rfl rfl rfl rfl rfl (by kernel_rfl) Try.func7 (by kernel_rfl)
    (of_decide_eq_true (by kernel_rfl)) (by unfold Func.isWrapper; first | (rw [if_pos (by decide +kernel)]; kernel_rfl) | (rw [if_neg (by decide +kernel)]; exact ⟨rfl, rfl⟩))
    (fun os started H enc _ => opsMakes_lifted os started H enc)

end Go.Proofs.Yteipihigjkkmjaa
