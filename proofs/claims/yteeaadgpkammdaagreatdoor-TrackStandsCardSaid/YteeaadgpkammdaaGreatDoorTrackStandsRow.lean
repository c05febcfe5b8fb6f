/- 'watershedlaw.TrackStands' returns true, whatever it is given, and leaves its arguments as they were: the row, and its tied card. -/
import Derived.Test.YteeaadgpkammdaaGreatDoorTrackStandsLaw
import Derived.Test.YteeaadgpkammdaaGreatDoorAbsLaid
import Derived.Test.YteeaadgpkammdaaGreatDoorRows
import Derived.Test.YteeaadgpkammdaaGreatDoorTie
import Derived.Test.YteeaadgpkammdaaGreatDoorCards
import Derived.ProofKit
import Derived.LaidMore
import Derived.SevenTiedAt
import Derived.ChangeSame
import Derived.Stop.Joined
namespace Go.Proofs.YteeaadgpkammdaaGreatDoor
open Go Go.ChangeShapes Go.WideShapes Go.ChangeAt Go.RowKit
theorem v60:ownKnob Tryz.prog.godebug=none:=by kernel_rfl
theorem v5x:laidOutB Tryz.prog=true:=by kernel_rfl
theorem v5z (os:Os) (args:Array Value):laidMetH Tryz.prog Rows.trackStandsRow.laid ((World.doorLaid Tryz.prog 14 os).forCall (fun _ _=>0) ⟨#[],args,[]⟩).memory :=
 laidMetH_of_parts3 (fuel:=8) (laidMet_of_run' 8 (by kernel_rfl) (by kernel_rfl)) (by kernel_rfl) (by kernel_rfl)
theorem v62:∀ p∈Go.Proofs.Tryz.gls,Abs.TabOf Tryz.prog Rows.trackStandsRow.laid p :=
 fun p hp=>by
  rcases List.mem_cons.1 hp with rfl | hp
  ·exact⟨("math/bits.deBruijn64tab",Rows.laid_math_bits_deBruijn64tab),by simp[Rows.trackStandsRow],245,5,by kernel_rfl,by kernel_rfl,by kernel_rfl,by kernel_rfl,by kernel_rfl,by rw[Go.Proofs.Tryz.tab0_eq];kernel_rfl⟩
  ·cases hp
set_option maxRecDepth 100000 in
theorem v5y (os:Os) (started:os.Started) (H:Type) (enc:TypeId×Value->H) :
  ReturnsInHanded {} Tryz.checked os 4 .any (fun w args=>(Rows.trackStandsSpec.pre enc Tryz.prog Tryz.f4 [] false w args/\laidMetH Tryz.prog Rows.trackStandsRow.laid w)/\sizedMet enc Tryz.prog Tryz.f4 (OpenSpec.ofChange Rows.trackStandsSpec) false w args)
   (Rows.trackStandsSpec.post enc Tryz.prog Tryz.f4 false true false false):=by
 refine returnsInHanded_of_change_and (C:=Tryz.checked) (X:=fun w _=>laidMetH Tryz.prog Rows.trackStandsRow.laid w) (fun _ _ _ hh h=>h.of_heap hh) v60 started (by kernel_rfl) Tryz.func4
  (ChangeSpec.witness_shaped (enc:=enc) (C:=Tryz.checked) (os:=os) (X:=fun w _=>laidMetH Tryz.prog Rows.trackStandsRow.laid w) false (World.doorLaid Tryz.prog 14 os) #[.agg #[.slice none 0 0,.slice none 0 0],.slice none 0 0] 40 rfl (World.shaped_of_RefB (by kernel_rfl) (by kernel_rfl)) (by kernel_rfl) (by kernel_rfl) (by kernel_rfl) (v5z os _)) ?_
 intro W base args ds gs before hval0 hW _ _ hL _
 exact Abs.law_contract (P:=Tryz.prog) (fn:=Tryz.f4) (tb:=4) v5x (by kernel_rfl) (by kernel_rfl) rfl (by kernel_rfl) (by kernel_rfl) Go.Proofs.Tryz.ok4 (Abs.globOK_laid (by kernel_rfl) v62 hL) (fun h=>by
  match ds,h with
  | [_,_],_=>rfl) (fun x wf _=>Go.Proofs.Tryz.trackStands_law x wf) hval0 hW
theorem trackStands_holds:Rows.TrackStandsSaid :=
 OpenClaim.holds_of_wide 4 Tryz.f4 rfl rfl rfl rfl rfl rfl rfl ⟨rfl,rfl,rfl,rfl,rfl⟩ rfl rfl rfl rfl rfl (by kernel_rfl) Tryz.func4 (by kernel_rfl)
  (of_decide_eq_true (by kernel_rfl)) (by unfold Func.isWrapper;first | (rw[if_pos (by decide +kernel)];kernel_rfl) | (rw[if_neg (by decide +kernel)];exact⟨rfl,rfl⟩))
  (fun os started H enc _=>v5y os started H enc)
theorem trackStands_card_holds:Rows.TrackStandsCardSaid :=
 Claim7.holds_tied_plain_at .later [] [.data] true (true,"2014a2a094cb5d685916ea859d51f7355828be2e218fbf88bc0e0c8ec388f6e6") true
  trackStands_holds (fun _ h=>by cases h) (by kernel_rfl) (fun _ h=>by cases h) trackStands_row_tie rfl ⟨rfl,rfl⟩ (by kernel_rfl) rfl
  (fun f fn hf hfn=>by
   obtain rfl:f=4:=Option.some.inj ((show Tryz.prog.funcNamed "watershed/watershedlaw.TrackStands"=some 4 by kernel_rfl).symm.trans hf) |>.symm
   obtain rfl:fn=Tryz.f4:=(Option.some.inj (Tryz.func4.symm.trans hfn)).symm
   exact⟨by kernel_rfl,fun j t ht=>by
    have hm:t∈Tryz.f4.params.toList:=List.mem_of_getElem? (by simpa using ht)
    have hall:(Tryz.f4.params.toList.all fun t=>!(Tryz.prog.wantsStandIn t))=true:=by kernel_rfl
    have:=List.all_eq_true.1 hall t hm
    exact(show Tryz.prog.wantsStandIn t=false by simpa using this)⟩)
  (by kernel_rfl)
end Go.Proofs.YteeaadgpkammdaaGreatDoor
