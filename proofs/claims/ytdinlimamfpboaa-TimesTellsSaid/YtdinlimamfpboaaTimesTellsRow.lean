/- 'watershedlaw.TimesTells' returns true, whatever two slices of ints it is given, and leaves them as they were. -/
import Derived.Test.YtdinlimamfpboaaTimesTellsLaw
import Derived.Test.YtdinlimamfpboaaRows
import Derived.ProofKit
namespace Go.Proofs.Ytdinlimamfpboaa
open Go.ChangeShapes Go.WideShapes Go.ChangeAt Go.RowKit

theorem Try.own : ownKnob Try.prog.godebug = none := by kernel_rfl
theorem Try.laidOut : laidOutB Try.prog = true := by kernel_rfl

set_option maxRecDepth 100000 in
theorem timesTells_lifted (os : Os) (started : os.Started) (H : Type) (enc : TypeId × Value → H) :
    ReturnsInHanded {} Try.checked os 8 .any (Rows.timesTellsSpec.pre6 enc Try.prog Try.f8 Rows.timesTellsRow.domain false) (Rows.timesTellsSpec.post enc Try.prog Try.f8 false true false false) := by
  refine returnsInHanded_of_change (C := Try.checked) Try.own started (by kernel_rfl) Try.func8
    (ChangeSpec.witness6 (enc := enc) (C := Try.checked) false ⟨#[], #[.slice none 0 0, .slice none 0 0], []⟩ 8 (by kernel_rfl) (by kernel_rfl) (by kernel_rfl) (by kernel_rfl)) ?_
  intro W base args ds gs before hval0 hW hcnd _
  exact Abs.law_contract (P := Try.prog) (fn := Try.f8) (tb := 4) Try.laidOut (by kernel_rfl) (by kernel_rfl) rfl (by kernel_rfl) (by kernel_rfl) Go.Proofs.Try.ok8 (fun h => by
      match ds, h with
      | [_, _], _ => rfl) (fun x _ _ => Go.Proofs.Try.timesTells x.1 x.2.1) hval0 hW

theorem timesTells_holds : Rows.TimesTellsSaid :=
  OpenClaim.holds_of_wide 8 Try.f8 rfl rfl rfl rfl rfl rfl rfl ⟨rfl, rfl, rfl, rfl, rfl⟩ rfl rfl rfl rfl rfl (by kernel_rfl) Try.func8 (by kernel_rfl)
    (of_decide_eq_true (by kernel_rfl)) (by unfold Func.isWrapper; first | (rw [if_pos (by decide +kernel)]; kernel_rfl) | (rw [if_neg (by decide +kernel)]; exact ⟨rfl, rfl⟩))
    (fun os started H enc _ => timesTells_lifted os started H enc)


end Go.Proofs.Ytdinlimamfpboaa
