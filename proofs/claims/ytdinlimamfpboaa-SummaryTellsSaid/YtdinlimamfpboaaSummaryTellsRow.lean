/- 'watershedlaw.SummaryTells' returns true, whatever it is given, and leaves its arguments as they were. -/
import Derived.Test.YtdinlimamfpboaaSummaryTellsLaw
import Derived.Test.YtdinlimamfpboaaRows
import Derived.ProofKit
namespace Go.Proofs.Ytdinlimamfpboaa
open Go.ChangeShapes Go.WideShapes Go.ChangeAt Go.RowKit

theorem summaryTells_own : ownKnob Try.prog.godebug = none := by kernel_rfl
theorem summaryTells_laidOut : laidOutB Try.prog = true := by kernel_rfl

set_option maxRecDepth 100000 in
theorem summaryTells_lifted (os : Os) (started : os.Started) (H : Type) (enc : TypeId × Value → H) :
    ReturnsInHanded {} Try.checked os 4 .any (Rows.summaryTellsSpec.pre6 enc Try.prog Try.f4 Rows.summaryTellsRow.domain false) (Rows.summaryTellsSpec.post enc Try.prog Try.f4 false true false false) := by
  refine returnsInHanded_of_change (C := Try.checked) summaryTells_own started (by kernel_rfl) Try.func4
    (ChangeSpec.witness6 (enc := enc) (C := Try.checked) false ⟨#[], #[.agg #[.int .i64 0, .int .i64 0, .slice none 0 0], .int .i64 0, .slice none 0 0], []⟩ 40 (by kernel_rfl) (by kernel_rfl) (by kernel_rfl) (by kernel_rfl)) ?_
  intro W base args ds gs before hval0 hW hcnd _
  exact Abs.law_contract (P := Try.prog) (fn := Try.f4) (tb := 4) summaryTells_laidOut (by kernel_rfl) (by kernel_rfl) rfl (by kernel_rfl) (by kernel_rfl) Go.Proofs.Try.ok4 (fun h => by
      match ds, h with
      | [_, _, _], _ => rfl) (fun x _ _ => Go.Proofs.Try.summaryTells x.1.1 x.1.2.1 x.1.2.2.1 x.2.1 x.2.2.1) hval0 hW

theorem summaryTells_holds : Rows.SummaryTellsSaid :=
  OpenClaim.holds_of_wide 4 Try.f4 rfl rfl rfl rfl rfl rfl rfl ⟨rfl, rfl, rfl, rfl, rfl⟩ rfl rfl rfl rfl rfl (by kernel_rfl) Try.func4 (by kernel_rfl)
    (of_decide_eq_true (by kernel_rfl)) (by unfold Func.isWrapper; first | (rw [if_pos (by decide +kernel)]; kernel_rfl) | (rw [if_neg (by decide +kernel)]; exact ⟨rfl, rfl⟩))
    (fun os started H enc _ => summaryTells_lifted os started H enc)

end Go.Proofs.Ytdinlimamfpboaa
