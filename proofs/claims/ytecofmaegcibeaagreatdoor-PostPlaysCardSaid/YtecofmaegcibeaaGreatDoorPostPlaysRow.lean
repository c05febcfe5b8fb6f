/- 'watershedlaw.PostPlays' returns true, whatever it is given, and leaves its arguments as they were: the row, and its tied card. -/
import Derived.Test.YtecofmaegcibeaaGreatDoorPostPlaysLaw
import Derived.Test.YtecofmaegcibeaaGreatDoorAbsLaid
import Derived.Test.YtecofmaegcibeaaGreatDoorRows
import Derived.Test.YtecofmaegcibeaaGreatDoorTie
import Derived.Test.YtecofmaegcibeaaGreatDoorCards
import Derived.ProofKit
import Derived.LaidMore
import Derived.SevenTiedAt
import Derived.ChangeSame
import Derived.Stop.Joined
namespace Go.Proofs.YtecofmaegcibeaaGreatDoor
open Go Go.ChangeShapes Go.WideShapes Go.ChangeAt Go.RowKit
theorem v9u:ownKnob Tryz.prog.godebug=none:=by kernel_rfl
theorem v9r:laidOutB Tryz.prog=true:=by kernel_rfl
theorem v9t (os:Os) (args:Array Value):laidMetH Tryz.prog Rows.postPlaysRow.laid ((World.doorLaid Tryz.prog 14 os).forCall (λ_ _=>0) ⟨#[],args,[]⟩).memory :=
 laidMetH_of_parts3 (fuel:=8) (laidMet_of_run' 8 (by kernel_rfl) (by kernel_rfl)) (by kernel_rfl) (by kernel_rfl)
theorem v9v:∀p∈Go.Proofs.Tryz.gls,Abs.TabOf Tryz.prog Rows.postPlaysRow.laid p :=
 λp hp=>by
  rcases List.mem_cons.1 hp with rfl | hp
  ·exact .inl ⟨by decide,("math/bits.deBruijn64tab",Rows.laid_math_bits_deBruijn64tab),by simp[Rows.postPlaysRow],230,5,by kernel_rfl,by kernel_rfl,by kernel_rfl,by kernel_rfl,by kernel_rfl,by rw[Go.Proofs.Tryz.tab0_eq];kernel_rfl⟩
  ·cases hp
set_option maxRecDepth 100000 in
theorem v9s (os:Os) (started:os.Started) (H:Type) (enc:TypeId×Value->H) :
  ReturnsInHanded {} Tryz.checked os 3 .any (λw args=>(Rows.postPlaysSpec.pre enc Tryz.prog Tryz.f3 [] false w args/\laidMetH Tryz.prog Rows.postPlaysRow.laid w)/\sizedMet enc Tryz.prog Tryz.f3 (OpenSpec.ofChange Rows.postPlaysSpec) false w args)
   (Rows.postPlaysSpec.post enc Tryz.prog Tryz.f3 false true false false):=by
 refine returnsInHanded_of_change_and (C:=Tryz.checked) (X:=λw _=>laidMetH Tryz.prog Rows.postPlaysRow.laid w) (λ_ _ _ hh h=>h.of_heap hh) v9u started (by kernel_rfl) Tryz.func3
  (ChangeSpec.witness_shaped (enc:=enc) (C:=Tryz.checked) (os:=os) (X:=λw _=>laidMetH Tryz.prog Rows.postPlaysRow.laid w) false (World.doorLaid Tryz.prog 14 os) #[.agg #[.slice none 0 0,.slice none 0 0],.int .i64 0,.slice none 0 0,.slice none 0 0] 40 rfl (World.shaped_of_RefB (by kernel_rfl) (by kernel_rfl)) (by kernel_rfl) (by kernel_rfl) (by kernel_rfl) (v9t os _)) ?_
 intro W base args ds gs before hval0 hW _ _ hL _
 exact Abs.law_contract (P:=Tryz.prog) (fn:=Tryz.f3) (tb:=4) v9r (by kernel_rfl) (by kernel_rfl) rfl (by kernel_rfl) (by kernel_rfl) Go.Proofs.Tryz.ok3 (Abs.globOK_laid v9v hL) (λh=>by
  match ds,h with
  | [_,_,_,_],_=>rfl) (λx wf _=>Go.Proofs.Tryz.postPlays_law x wf) hval0 hW
theorem postPlays_holds:Rows.PostPlaysSaid :=
 OpenClaim.holds_of_wide 3 Tryz.f3 rfl rfl rfl rfl rfl rfl rfl ⟨rfl,rfl,rfl,rfl,rfl⟩ rfl rfl rfl rfl rfl (by kernel_rfl) Tryz.func3 (by kernel_rfl)
  (of_decide_eq_true (by kernel_rfl)) (by unfold Func.isWrapper;first | (rw[if_pos (by decide +kernel)];kernel_rfl) | (rw[if_neg (by decide +kernel)];exact⟨rfl,rfl⟩))
  (λos started H enc _=>v9s os started H enc)
theorem postPlays_card_holds:Rows.PostPlaysCardSaid :=
 Claim7.holds_tied_plain_at .later [] [.data] true (true,"c00ddde5dcf68ff3f7ade87d9d1f63b96fe6a193a9bb4077549aba2e6eea7f85") false
  postPlays_holds (λ_ h=>by cases h) (by kernel_rfl) (λ_ h=>by cases h) postPlays_row_tie rfl ⟨rfl,rfl⟩ (by kernel_rfl) rfl
  (λf fn hf hfn=>by
   obtain rfl:f=3:=Option.some.inj ((show Tryz.prog.funcNamed "watershed/watershedlaw.PostPlays"=some 3 by kernel_rfl).symm.trans hf) |>.symm
   obtain rfl:fn=Tryz.f3:=(Option.some.inj (Tryz.func3.symm.trans hfn)).symm
   exact⟨by kernel_rfl,λj t ht=>by
    have hm:t∈Tryz.f3.params.toList:=List.mem_of_getElem? (by simpa using ht)
    have hall:(Tryz.f3.params.toList.all λt=>!(Tryz.prog.wantsStandIn t))=true:=by kernel_rfl
    have:=List.all_eq_true.1 hall t hm
    exact(show Tryz.prog.wantsStandIn t=false by simpa using this)⟩)
  (by kernel_rfl)
end Go.Proofs.YtecofmaegcibeaaGreatDoor
