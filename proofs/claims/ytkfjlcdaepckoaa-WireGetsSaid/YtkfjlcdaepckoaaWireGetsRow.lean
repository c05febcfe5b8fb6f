/- 'watershedlaw.WireGets' returns true, whatever it is given, and leaves its arguments as they were. -/
import Derived.Test.YtkfjlcdaepckoaaWireGetsLaw
import Derived.Test.YtkfjlcdaepckoaaRows
import Derived.ProofKit
import Derived.Test.YtkfjlcdaepckoaaAbsSized
namespace Go.Proofs.Ytkfjlcdaepckoaa
open Go.ChangeShapes Go.WideShapes Go.ChangeAt Go.RowKit
theorem y4l:ownKnob Try.prog.godebug=none:=by kernel_rfl
theorem y4j:laidOutB Try.prog=true:=by kernel_rfl
set_option maxRecDepth 100000 in
theorem y4k (os:Os) (started:os.Started) (H:Type) (enc:TypeId×Value->H) :
  ReturnsInHanded {} Try.checked os 3 .any (Rows.wireGetsSpec.pre6 enc Try.prog Try.f3 Rows.wireGetsRow.domain false) (Rows.wireGetsSpec.post enc Try.prog Try.f3 false true false false):=by
 refine returnsInHanded_of_change_sized (C:=Try.checked) y4l started (by kernel_rfl) Try.func3
  (ChangeSpec.witness6 (enc:=enc) (C:=Try.checked) false ⟨#[],#[.slice none 0 0],[]⟩ 40 (by kernel_rfl) (by kernel_rfl) (by kernel_rfl) (by kernel_rfl)) ?_
 intro W base args ds gs before hval0 hW _ hsz _
 exact Abs.law_contract (P:=Try.prog) (fn:=Try.f3) (tb:=4) y4j (by kernel_rfl) (by kernel_rfl) rfl (by kernel_rfl) (by kernel_rfl) Go.Proofs.Try.ok3 (fun _ _ _ _ h=>by cases h) (fun h=>by
  match ds,h with
  | [_],_=>rfl) (fun x wf dat=>by
  match ds,hsz,dat with
  | [d0],hsz,dat=>exact Go.Proofs.Try.wireGets_law x wf (Abs.sized_len hsz (j:=0) (t:=22) (e:=5) dat.1 rfl rfl (by kernel_rfl) (by kernel_rfl))) hval0 hW
theorem wireGets_holds:Rows.WireGetsSaid :=
 OpenClaim.holds_of_wide 3 Try.f3 rfl rfl rfl rfl rfl rfl rfl ⟨rfl,rfl,rfl,rfl,rfl⟩ rfl rfl rfl rfl rfl (by kernel_rfl) Try.func3 (by kernel_rfl)
  (of_decide_eq_true (by kernel_rfl)) (by unfold Func.isWrapper;first | (rw[if_pos (by decide +kernel)];kernel_rfl) | (rw[if_neg (by decide +kernel)];exact⟨rfl,rfl⟩))
  (fun os started H enc _=>y4k os started H enc)
end Go.Proofs.Ytkfjlcdaepckoaa
