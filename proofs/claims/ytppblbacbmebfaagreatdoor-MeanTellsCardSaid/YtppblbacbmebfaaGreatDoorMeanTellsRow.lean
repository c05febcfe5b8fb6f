/- 'watershedlaw.MeanTells' returns true, whatever it is given, and leaves its arguments as they were: the row, and its tied card. -/
import Derived.Test.YtppblbacbmebfaaGreatDoorMeanTellsLaw
import Derived.Test.YtppblbacbmebfaaGreatDoorAbsLaid
import Derived.Test.YtppblbacbmebfaaGreatDoorRows
import Derived.Test.YtppblbacbmebfaaGreatDoorTie
import Derived.Test.YtppblbacbmebfaaGreatDoorCards
import Derived.ProofKit
import Derived.LaidMore
import Derived.SevenTiedAt
import Derived.ChangeSame
import Derived.Stop.Joined
namespace Go.Proofs.YtppblbacbmebfaaGreatDoor
open Go Go.ChangeShapes Go.WideShapes Go.ChangeAt Go.RowKit
theorem y8s:ownKnob Tryz.prog.godebug=none:=by kernel_rfl
theorem y8p:laidOutB Tryz.prog=true:=by kernel_rfl
theorem y8r (os:Os) (args:Array Value):laidMetH Tryz.prog Rows.meanTellsRow.laid ((World.doorLaid Tryz.prog 14 os).forCall (fun _ _=>0) ⟨#[],args,[]⟩).memory :=
 laidMetH_of_parts3 (fuel:=8) (laidMet_of_run' 8 (by kernel_rfl) (by kernel_rfl)) (by kernel_rfl) (by kernel_rfl)
theorem y8t:∀ p∈Go.Proofs.Tryz.gls,Abs.TabOf Tryz.prog Rows.meanTellsRow.laid p :=
 fun p hp=>by
  rcases List.mem_cons.1 hp with rfl | hp
  ·exact .inl ⟨by decide,("math/bits.deBruijn64tab",Rows.laid_math_bits_deBruijn64tab),by simp[Rows.meanTellsRow],163,5,by kernel_rfl,by kernel_rfl,by kernel_rfl,by kernel_rfl,by kernel_rfl,by rw[Go.Proofs.Tryz.tab0_eq];kernel_rfl⟩
  ·cases hp
set_option maxRecDepth 100000 in
theorem y8q (os:Os) (started:os.Started) (H:Type) (enc:TypeId×Value->H) :
  ReturnsInHanded {} Tryz.checked os 3 .any (fun w args=>(Rows.meanTellsSpec.pre enc Tryz.prog Tryz.f3 [] false w args/\laidMetH Tryz.prog Rows.meanTellsRow.laid w)/\sizedMet enc Tryz.prog Tryz.f3 (OpenSpec.ofChange Rows.meanTellsSpec) false w args)
   (Rows.meanTellsSpec.post enc Tryz.prog Tryz.f3 false true false false):=by
 refine returnsInHanded_of_change_and (C:=Tryz.checked) (X:=fun w _=>laidMetH Tryz.prog Rows.meanTellsRow.laid w) (fun _ _ _ hh h=>h.of_heap hh) y8s started (by kernel_rfl) Tryz.func3
  (ChangeSpec.witness_shaped (enc:=enc) (C:=Tryz.checked) (os:=os) (X:=fun w _=>laidMetH Tryz.prog Rows.meanTellsRow.laid w) false (World.doorLaid Tryz.prog 14 os) #[.agg #[.slice none 0 0,.slice none 0 0,.int .i64 0],.slice none 0 0,.int .i64 0,.int .i64 0,.slice none 0 0] 40 rfl (World.shaped_of_RefB (by kernel_rfl) (by kernel_rfl)) (by kernel_rfl) (by kernel_rfl) (by kernel_rfl) (y8r os _)) ?_
 intro W base args ds gs before hval0 hW _ _ hL _
 exact Abs.law_contract (P:=Tryz.prog) (fn:=Tryz.f3) (tb:=4) y8p (by kernel_rfl) (by kernel_rfl) rfl (by kernel_rfl) (by kernel_rfl) Go.Proofs.Tryz.ok3 (Abs.globOK_laid y8t hL) (fun h=>by
  match ds,h with
  | [_,_,_,_,_],_=>rfl) (fun x wf _=>Go.Proofs.Tryz.meanTells_law x wf) hval0 hW
theorem meanTells_holds:Rows.MeanTellsSaid :=
 OpenClaim.holds_of_wide 3 Tryz.f3 rfl rfl rfl rfl rfl rfl rfl ⟨rfl,rfl,rfl,rfl,rfl⟩ rfl rfl rfl rfl rfl (by kernel_rfl) Tryz.func3 (by kernel_rfl)
  (of_decide_eq_true (by kernel_rfl)) (by unfold Func.isWrapper;first | (rw[if_pos (by decide +kernel)];kernel_rfl) | (rw[if_neg (by decide +kernel)];exact⟨rfl,rfl⟩))
  (fun os started H enc _=>y8q os started H enc)
theorem meanTells_card_holds:Rows.MeanTellsCardSaid :=
 Claim7.holds_tied_plain_at .later [] [.data] true (true,"d7158aaff826740566532843c35f3d03e4a7b43f26ce3849acd521799a66d810") true
  meanTells_holds (fun _ h=>by cases h) (by kernel_rfl) (fun _ h=>by cases h) meanTells_row_tie rfl ⟨rfl,rfl⟩ (by kernel_rfl) rfl
  (fun f fn hf hfn=>by
   obtain rfl:f=3:=Option.some.inj ((show Tryz.prog.funcNamed "watershed/watershedlaw.MeanTells"=some 3 by kernel_rfl).symm.trans hf) |>.symm
   obtain rfl:fn=Tryz.f3:=(Option.some.inj (Tryz.func3.symm.trans hfn)).symm
   exact⟨by kernel_rfl,fun j t ht=>by
    have hm:t∈Tryz.f3.params.toList:=List.mem_of_getElem? (by simpa using ht)
    have hall:(Tryz.f3.params.toList.all fun t=>!(Tryz.prog.wantsStandIn t))=true:=by kernel_rfl
    have:=List.all_eq_true.1 hall t hm
    exact(show Tryz.prog.wantsStandIn t=false by simpa using this)⟩)
  (by kernel_rfl)
end Go.Proofs.YtppblbacbmebfaaGreatDoor
