/- 'watershedlaw.CountsFronts' returns true, whatever it is given, and leaves its arguments as they were. -/
import Derived.Test.YtoddbincogignaaCountsFrontsLaw
import Derived.Test.YtoddbincogignaaRows
import Derived.ProofKit
import Derived.Test.YtoddbincogignaaAbsSized
namespace Go.Proofs.Ytoddbincogignaa
open Go.ChangeShapes Go.WideShapes Go.ChangeAt Go.RowKit

theorem countsFronts_own : ownKnob Try.prog.godebug = none := by kernel_rfl
theorem countsFronts_laidOut : laidOutB Try.prog = true := by kernel_rfl

set_option maxRecDepth 100000 in
theorem countsFronts_lifted (os : Os) (started : os.Started) (H : Type) (enc : TypeId × Value → H) :
    ReturnsInHanded {} Try.checked os 4 .any (Rows.countsFrontsSpec.pre6 enc Try.prog Try.f4 Rows.countsFrontsRow.domain false) (Rows.countsFrontsSpec.post enc Try.prog Try.f4 false true false false) := by
  refine returnsInHanded_of_change_sized (C := Try.checked) countsFronts_own started (by kernel_rfl) Try.func4
    (ChangeSpec.witness6 (enc := enc) (C := Try.checked) false ⟨#[], #[.slice none 0 0, .slice none 0 0], []⟩ 40 (by kernel_rfl) (by kernel_rfl) (by kernel_rfl) (by kernel_rfl)) ?_
  intro W base args ds gs before hval0 hW _ hsz _
  exact Abs.law_contract (P := Try.prog) (fn := Try.f4) (tb := 4) countsFronts_laidOut (by kernel_rfl) (by kernel_rfl) rfl (by kernel_rfl) (by kernel_rfl) Go.Proofs.Try.ok4 (fun _ _ _ _ h => by cases h) (fun h => by
      match ds, h with
      | [_, _], _ => rfl) (fun x wf dat => by
      match ds, hsz, dat with
      | [d0, d1], hsz, dat => exact Go.Proofs.Try.countsFronts_law x (Abs.sized_len hsz (j := 0) (t := 30) (e := 100) dat.1 rfl rfl (by kernel_rfl) (by kernel_rfl)) (Abs.sized_len hsz (j := 1) (t := 30) (e := 100) dat.2.1 rfl rfl (by kernel_rfl) (by kernel_rfl))) hval0 hW

theorem countsFronts_holds : Rows.CountsFrontsSaid :=
  OpenClaim.holds_of_wide 4 Try.f4 rfl rfl rfl rfl rfl rfl rfl ⟨rfl, rfl, rfl, rfl, rfl⟩ rfl rfl rfl rfl rfl (by kernel_rfl) Try.func4 (by kernel_rfl)
    (of_decide_eq_true (by kernel_rfl)) (by unfold Func.isWrapper; first | (rw [if_pos (by decide +kernel)]; kernel_rfl) | (rw [if_neg (by decide +kernel)]; exact ⟨rfl, rfl⟩))
    (fun os started H enc _ => countsFronts_lifted os started H enc)

end Go.Proofs.Ytoddbincogignaa
