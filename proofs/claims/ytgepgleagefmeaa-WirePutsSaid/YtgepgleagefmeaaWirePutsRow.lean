/- 'watershedlaw.WirePuts' returns true, whatever it is given, and leaves its arguments as they were. -/
import Derived.Test.YtgepgleagefmeaaWirePutsLaw
import Derived.Test.YtgepgleagefmeaaRows
import Derived.ProofKit
import Derived.Test.YtgepgleagefmeaaAbsSized
namespace Go.Proofs.Ytgepgleagefmeaa
open Go.ChangeShapes Go.WideShapes Go.ChangeAt Go.RowKit

theorem wirePuts_own : ownKnob Try.prog.godebug = none := by kernel_rfl
theorem wirePuts_laidOut : laidOutB Try.prog = true := by kernel_rfl

set_option maxRecDepth 100000 in
theorem wirePuts_lifted (os : Os) (started : os.Started) (H : Type) (enc : TypeId × Value → H) :
    ReturnsInHanded {} Try.checked os 10 .any (Rows.wirePutsSpec.pre6 enc Try.prog Try.f10 Rows.wirePutsRow.domain false) (Rows.wirePutsSpec.post enc Try.prog Try.f10 false true false false) := by
  refine returnsInHanded_of_change_sized (C := Try.checked) wirePuts_own started (by kernel_rfl) Try.func10
    (ChangeSpec.witness6 (enc := enc) (C := Try.checked) false ⟨#[], #[.slice none 0 0, .int .i64 0], []⟩ 40 (by kernel_rfl) (by kernel_rfl) (by kernel_rfl) (by kernel_rfl)) ?_
  intro W base args ds gs before hval0 hW _ hsz _
  exact Abs.law_contract (P := Try.prog) (fn := Try.f10) (tb := 4) wirePuts_laidOut (by kernel_rfl) (by kernel_rfl) rfl (by kernel_rfl) (by kernel_rfl) Go.Proofs.Try.ok10 (fun _ _ _ _ h => by cases h) (fun h => by
      match ds, h with
      | [_, _], _ => rfl) (fun x wf dat => by
      match ds, hsz, dat with
      | [d0, d1], hsz, dat => exact Go.Proofs.Try.wirePuts_law x wf (Abs.sized_len hsz (j := 0) (t := 62) (e := 75) dat.1 rfl rfl (by kernel_rfl) (by kernel_rfl))) hval0 hW

theorem wirePuts_holds : Rows.WirePutsSaid :=
  OpenClaim.holds_of_wide 10 Try.f10 rfl rfl rfl rfl rfl rfl rfl ⟨rfl, rfl, rfl, rfl, rfl⟩ rfl rfl rfl rfl rfl (by kernel_rfl) Try.func10 (by kernel_rfl)
    (of_decide_eq_true (by kernel_rfl)) (by unfold Func.isWrapper; first | (rw [if_pos (by decide +kernel)]; kernel_rfl) | (rw [if_neg (by decide +kernel)]; exact ⟨rfl, rfl⟩))
    (fun os started H enc _ => wirePuts_lifted os started H enc)

end Go.Proofs.Ytgepgleagefmeaa
