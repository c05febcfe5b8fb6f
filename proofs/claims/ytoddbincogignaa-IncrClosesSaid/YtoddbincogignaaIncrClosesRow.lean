/- 'watershedlaw.IncrCloses' returns true, whatever it is given, and leaves its arguments as they were. -/
import Derived.Test.YtoddbincogignaaIncrClosesLaw
import Derived.Test.YtoddbincogignaaRows
import Derived.ProofKit
namespace Go.Proofs.Ytoddbincogignaa
open Go.ChangeShapes Go.WideShapes Go.ChangeAt Go.RowKit

theorem incrCloses_own : ownKnob Try.prog.godebug = none := by kernel_rfl
theorem incrCloses_laidOut : laidOutB Try.prog = true := by kernel_rfl

set_option maxRecDepth 100000 in
theorem incrCloses_lifted (os : Os) (started : os.Started) (H : Type) (enc : TypeId × Value → H) :
    ReturnsInHanded {} Try.checked os 12 .any (Rows.incrClosesSpec.pre6 enc Try.prog Try.f12 Rows.incrClosesRow.domain false) (Rows.incrClosesSpec.post enc Try.prog Try.f12 false true false false) := by
  refine returnsInHanded_of_change (C := Try.checked) incrCloses_own started (by kernel_rfl) Try.func12
    (ChangeSpec.witness6 (enc := enc) (C := Try.checked) false ⟨#[], #[.slice none 0 0], []⟩ 40 (by kernel_rfl) (by kernel_rfl) (by kernel_rfl) (by kernel_rfl)) ?_
  intro W base args ds gs before hval0 hW hcnd _
  exact Abs.law_contract (P := Try.prog) (fn := Try.f12) (tb := 4) incrCloses_laidOut (by kernel_rfl) (by kernel_rfl) rfl (by kernel_rfl) (by kernel_rfl) Go.Proofs.Try.ok12 (fun _ _ _ _ h => by cases h) (fun h => by
      match ds, h with
      | [_], _ => rfl) (fun x wf _ => Go.Proofs.Try.incrCloses_law x wf) hval0 hW

theorem incrCloses_holds : Rows.IncrClosesSaid :=
  OpenClaim.holds_of_wide 12 Try.f12 rfl rfl rfl rfl rfl rfl rfl ⟨rfl, rfl, rfl, rfl, rfl⟩ rfl rfl rfl rfl rfl (by kernel_rfl) Try.func12 (by kernel_rfl)
    (of_decide_eq_true (by kernel_rfl)) (by unfold Func.isWrapper; first | (rw [if_pos (by decide +kernel)]; kernel_rfl) | (rw [if_neg (by decide +kernel)]; exact ⟨rfl, rfl⟩))
    (fun os started H enc _ => incrCloses_lifted os started H enc)

end Go.Proofs.Ytoddbincogignaa
