/- 'watershedlaw.QueuePlays' returns true, whatever it is given, and leaves its arguments as they were. -/
import Derived.Test.YtgepgleagefmeaaQueuePlaysLaw
import Derived.Test.YtgepgleagefmeaaRows
import Derived.ProofKit
namespace Go.Proofs.Ytgepgleagefmeaa
open Go.ChangeShapes Go.WideShapes Go.ChangeAt Go.RowKit

theorem queuePlays_own : ownKnob Try.prog.godebug = none := by kernel_rfl
theorem queuePlays_laidOut : laidOutB Try.prog = true := by kernel_rfl

set_option maxRecDepth 100000 in
theorem queuePlays_lifted (os : Os) (started : os.Started) (H : Type) (enc : TypeId × Value → H) :
    ReturnsInHanded {} Try.checked os 3 .any (Rows.queuePlaysSpec.pre6 enc Try.prog Try.f3 Rows.queuePlaysRow.domain false) (Rows.queuePlaysSpec.post enc Try.prog Try.f3 false true false false) := by
  refine returnsInHanded_of_change (C := Try.checked) queuePlays_own started (by kernel_rfl) Try.func3
    (ChangeSpec.witness6 (enc := enc) (C := Try.checked) false ⟨#[], #[.int .i64 0, .int .i64 0, .slice none 0 0], []⟩ 40 (by kernel_rfl) (by kernel_rfl) (by kernel_rfl) (by kernel_rfl)) ?_
  intro W base args ds gs before hval0 hW hcnd _
  exact Abs.law_contract (P := Try.prog) (fn := Try.f3) (tb := 4) queuePlays_laidOut (by kernel_rfl) (by kernel_rfl) rfl (by kernel_rfl) (by kernel_rfl) Go.Proofs.Try.ok3 (fun _ _ _ _ h => by cases h) (fun h => by
      match ds, h with
      | [_, _, _], _ => rfl) (fun x wf _ => Go.Proofs.Try.queuePlays_law x wf) hval0 hW

theorem queuePlays_holds : Rows.QueuePlaysSaid :=
  OpenClaim.holds_of_wide 3 Try.f3 rfl rfl rfl rfl rfl rfl rfl ⟨rfl, rfl, rfl, rfl, rfl⟩ rfl rfl rfl rfl rfl (by kernel_rfl) Try.func3 (by kernel_rfl)
    (of_decide_eq_true (by kernel_rfl)) (by unfold Func.isWrapper; first | (rw [if_pos (by decide +kernel)]; kernel_rfl) | (rw [if_neg (by decide +kernel)]; exact ⟨rfl, rfl⟩))
    (fun os started H enc _ => queuePlays_lifted os started H enc)

end Go.Proofs.Ytgepgleagefmeaa
