/- 'watershedlaw.LoopRounds' returns true, whatever it is given, and leaves its arguments as they were. -/
import Derived.Test.YtgepgleagefmeabGreatLoopRoundsLaw
import Derived.Test.YtgepgleagefmeabGreatRows
import Derived.ProofKit
import Derived.Test.YtgepgleagefmeabGreatAbsSized
namespace Go.Proofs.YtgepgleagefmeabGreat
open Go.ChangeShapes Go.WideShapes Go.ChangeAt Go.RowKit
theorem loopRounds_own:ownKnob Tryz.prog.godebug=none:=by kernel_rfl
theorem loopRounds_laidOut:laidOutB Tryz.prog=true:=by kernel_rfl
set_option maxRecDepth 100000 in
theorem loopRounds_lifted (os:Os) (started:os.Started) (H:Type) (enc:TypeId × Value→H) :
    ReturnsInHanded {} Tryz.checked os 4 .any (Rows.loopRoundsSpec.pre6 enc Tryz.prog Tryz.f4 Rows.loopRoundsRow.domain false) (Rows.loopRoundsSpec.post enc Tryz.prog Tryz.f4 false true false false):=by
  refine returnsInHanded_of_change_sized (C:=Tryz.checked) loopRounds_own started (by kernel_rfl) Tryz.func4
    (ChangeSpec.witness6 (enc:=enc) (C:=Tryz.checked) false ⟨#[],#[.slice none 0 0,.slice none 0 0,.int .i64 0],[]⟩ 40 (by kernel_rfl) (by kernel_rfl) (by kernel_rfl) (by kernel_rfl)) ?_
  intro W base args ds gs before hval0 hW _ hsz _
  exact Abs.law_contract (P:=Tryz.prog) (fn:=Tryz.f4) (tb:=4) loopRounds_laidOut (by kernel_rfl) (by kernel_rfl) rfl (by kernel_rfl) (by kernel_rfl) Go.Proofs.Tryz.ok4 (fun _ _ _ _ h=>by cases h) (fun h=>by
      match ds,h with
      | [_,_,_],_=>rfl) (fun x wf dat=>by
      match ds,hsz,dat with
      | [d0,d1,d2],hsz,dat=>exact Go.Proofs.Tryz.loopRounds_law x (Abs.sized_len hsz (j:=0) (t:=24) (e:=32) dat.1 rfl rfl (by kernel_rfl) (by kernel_rfl)) (Abs.sized_len hsz (j:=1) (t:=24) (e:=32) dat.2.1 rfl rfl (by kernel_rfl) (by kernel_rfl))) hval0 hW
theorem loopRounds_holds:Rows.LoopRoundsSaid :=
  OpenClaim.holds_of_wide 4 Tryz.f4 rfl rfl rfl rfl rfl rfl rfl ⟨rfl,rfl,rfl,rfl,rfl⟩ rfl rfl rfl rfl rfl (by kernel_rfl) Tryz.func4 (by kernel_rfl)
    (of_decide_eq_true (by kernel_rfl)) (by unfold Func.isWrapper; first | (rw [if_pos (by decide +kernel)]; kernel_rfl) | (rw [if_neg (by decide +kernel)]; exact ⟨rfl,rfl⟩))
    (fun os started H enc _=>loopRounds_lifted os started H enc)
end Go.Proofs.YtgepgleagefmeabGreat
