/- 'watershedlaw.BagsTells' returns true, where what it is given is of bulk at most 1048576, and leaves its arguments as they were. -/
import Derived.Test.YtoddbincogignaaBagsTellsLaw
import Derived.Test.YtoddbincogignaaRows
import Derived.ProofKit
import Derived.JoinedCond
import Derived.Test.YtoddbincogignaaAbsUpto
namespace Go.Proofs.Ytoddbincogignaa
open Go.ChangeShapes Go.WideShapes Go.ChangeAt Go.RowKit

theorem bagsTells_own : ownKnob Try.prog.godebug = none := by kernel_rfl
theorem bagsTells_laidOut : laidOutB Try.prog = true := by kernel_rfl

theorem bagsTells_bulk (H : Type) : Abs.BulkFn H Rows.uptoBulk Rows.uptoBulkAll where
  lit l := by cases l <;> simp [Rows.uptoBulk]
  nil := by simp [Rows.uptoBulk]
  slice es sp := by simp only [Rows.uptoBulk]; omega
  agg ps := by simp only [Rows.uptoBulk]
  none := by simp only [Rows.uptoBulkAll]
  cons d r := by simp only [Rows.uptoBulkAll]

set_option maxRecDepth 100000 in
theorem bagsTells_lifted (os : Os) (started : os.Started) (H : Type) (enc : TypeId × Value → H) (F0 : Stop.Interp) :
    ReturnsInHanded {} Try.checked os 6 .any ((Rows.OpenSpec.upto Rows.bagsTellsSpec).pre6 enc Try.prog Try.f6 Rows.bagsTellsUptoRow.domain false) (((Rows.OpenSpec.upto Rows.bagsTellsSpec).at F0).post enc Try.prog Try.f6 false true false false) := by
  refine returnsInHanded_of_cond (C := Try.checked) (s := Rows.OpenSpec.upto Rows.bagsTellsSpec) (k := Rows.uptoSmall) rfl bagsTells_own started (by kernel_rfl) Try.func6
    (OpenSpec.witness (enc := enc) (C := Try.checked) (s := Rows.OpenSpec.upto Rows.bagsTellsSpec) (k := Rows.uptoSmall) rfl false ⟨#[], #[.slice none 0 0, .slice none 0 0, .int .i64 0], []⟩ 40 (by kernel_rfl) (by kernel_rfl) (by kernel_rfl)
      (x := ([.nil, .nil, .lit (.int .i64 0)], [], [])) (by kernel_rfl) (by kernel_rfl) (by kernel_rfl)) ?_
  intro W base args ds gs before hval0 hW _ hk _
  have hb : Rows.uptoBulkAll (ds ++ gs) ≤ 1048576 := of_decide_eq_true hk
  have hgs : gs = [] := by
    obtain ⟨p, q, -, hV, -⟩ := hW
    cases gs with
    | nil => rfl
    | cons => exact hV.elim
  rw [hgs, List.append_nil] at hb
  exact Abs.law_contract (s := (Rows.OpenSpec.upto Rows.bagsTellsSpec).at F0) (P := Try.prog) (fn := Try.f6) (tb := 4) bagsTells_laidOut (by kernel_rfl) (by kernel_rfl) rfl (by kernel_rfl) (by kernel_rfl) Go.Proofs.Try.ok6 (fun _ _ _ _ h => by cases h) (fun h => by
      match ds, h with
      | [_, _, _], _ => rfl) (fun x wf dat => Go.Proofs.Try.bagsTells_law x wf (Nat.le_trans (Abs.bulkA_le (bagsTells_bulk H) _ ds x dat) hb)) hval0 hW

theorem bagsTells_upto_holds : Rows.BagsTellsUptoSaid :=
  OpenClaim.holds_of_cond 6 Try.f6 rfl rfl rfl rfl rfl rfl rfl ⟨rfl, rfl, rfl, rfl, rfl⟩ rfl rfl rfl rfl rfl (by kernel_rfl) Try.func6 (by kernel_rfl)
    (of_decide_eq_true (by kernel_rfl)) (by unfold Func.isWrapper; first | (rw [if_pos (by decide +kernel)]; kernel_rfl) | (rw [if_neg (by decide +kernel)]; exact ⟨rfl, rfl⟩))
    (fun os started H enc _ F0 => bagsTells_lifted os started H enc F0)

end Go.Proofs.Ytoddbincogignaa
