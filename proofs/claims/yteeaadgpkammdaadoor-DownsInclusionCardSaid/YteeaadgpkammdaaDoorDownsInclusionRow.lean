/- 'watershedlaw.DownsInclusion' returns true, whatever it is given, and leaves its arguments as they were: the row, and its tied card. -/
import Derived.Test.YteeaadgpkammdaaDoorDownsInclusionLaw
import Derived.Test.YteeaadgpkammdaaDoorAbsLaid
import Derived.Test.YteeaadgpkammdaaDoorRows
import Derived.Test.YteeaadgpkammdaaDoorTie
import Derived.Test.YteeaadgpkammdaaDoorCards
import Derived.ProofKit
import Derived.LaidMore
import Derived.SevenTiedAt
import Derived.ChangeSame
import Derived.Stop.Joined
namespace Go.Proofs.YteeaadgpkammdaaDoor
open Go Go.ChangeShapes Go.WideShapes Go.ChangeAt Go.RowKit
theorem downsInclusion_own:ownKnob Tryd.prog.godebug=none:=by kernel_rfl
theorem downsInclusion_laidOut:laidOutB Tryd.prog=true:=by kernel_rfl
theorem downsInclusion_met (os:Os) (args:Array Value):laidMetH Tryd.prog Rows.downsInclusionRow.laid ((World.doorLaid Tryd.prog 21 os).forCall (fun _ _=>0) ⟨#[],args,[]⟩).memory :=
  laidMetH_of_parts3 (fuel:=8) (laidMet_of_run' 8 (by kernel_rfl) (by kernel_rfl)) (by kernel_rfl) (by kernel_rfl)
theorem downsInclusion_tabs:∀ p∈Go.Proofs.Tryd.gls,Abs.TabOf Tryd.prog Rows.downsInclusionRow.laid p :=
  fun p hp=>by
    rcases List.mem_cons.1 hp with rfl | hp
    · exact ⟨("math/bits.deBruijn64tab",Rows.laid_math_bits_deBruijn64tab),by simp [Rows.downsInclusionRow],109,5,by kernel_rfl,by kernel_rfl,by kernel_rfl,by kernel_rfl,by kernel_rfl,by rw [Go.Proofs.Tryd.tab0_eq]; kernel_rfl⟩
    · cases hp
set_option maxRecDepth 100000 in
theorem downsInclusion_lifted (os:Os) (started:os.Started) (H:Type) (enc:TypeId × Value→H) :
    ReturnsInHanded {} Tryd.checked os 4 .any (fun w args=>(Rows.downsInclusionSpec.pre enc Tryd.prog Tryd.f4 [] false w args∧laidMetH Tryd.prog Rows.downsInclusionRow.laid w)∧sizedMet enc Tryd.prog Tryd.f4 (OpenSpec.ofChange Rows.downsInclusionSpec) false w args)
      (Rows.downsInclusionSpec.post enc Tryd.prog Tryd.f4 false true false false):=by
  refine returnsInHanded_of_change_and (C:=Tryd.checked) (X:=fun w _=>laidMetH Tryd.prog Rows.downsInclusionRow.laid w) (fun _ _ _ hh h=>h.of_heap hh) downsInclusion_own started (by kernel_rfl) Tryd.func4
    (ChangeSpec.witness_shaped (enc:=enc) (C:=Tryd.checked) (os:=os) (X:=fun w _=>laidMetH Tryd.prog Rows.downsInclusionRow.laid w) false (World.doorLaid Tryd.prog 21 os) #[.agg #[.int .i64 0,.slice none 0 0]] 40 rfl (World.shaped_of_RefB (by kernel_rfl) (by kernel_rfl)) (by kernel_rfl) (by kernel_rfl) (by kernel_rfl) (downsInclusion_met os _)) ?_
  intro W base args ds gs before hval0 hW _ _ hL _
  exact Abs.law_contract (P:=Tryd.prog) (fn:=Tryd.f4) (tb:=4) downsInclusion_laidOut (by kernel_rfl) (by kernel_rfl) rfl (by kernel_rfl) (by kernel_rfl) Go.Proofs.Tryd.ok4 (Abs.globOK_laid (by kernel_rfl) downsInclusion_tabs hL) (fun h=>by
      match ds,h with
      | [_],_=>rfl) (fun x wf _=>Go.Proofs.Tryd.downsInclusion_law x wf) hval0 hW
theorem downsInclusion_holds:Rows.DownsInclusionSaid :=
  OpenClaim.holds_of_wide 4 Tryd.f4 rfl rfl rfl rfl rfl rfl rfl ⟨rfl,rfl,rfl,rfl,rfl⟩ rfl rfl rfl rfl rfl (by kernel_rfl) Tryd.func4 (by kernel_rfl)
    (of_decide_eq_true (by kernel_rfl)) (by unfold Func.isWrapper; first | (rw [if_pos (by decide +kernel)]; kernel_rfl) | (rw [if_neg (by decide +kernel)]; exact ⟨rfl,rfl⟩))
    (fun os started H enc _=>downsInclusion_lifted os started H enc)
theorem downsInclusion_card_holds:Rows.DownsInclusionCardSaid :=
  Claim7.holds_tied_plain_at .later [] [.data] true (true,"552bdd4881a08c9fe7c36f391fd10736ffb2bf5c1a775308876066d35cbda0fa") true
    downsInclusion_holds (fun _ h=>by cases h) (by kernel_rfl) (fun _ h=>by cases h) downsInclusion_row_tie rfl ⟨rfl,rfl⟩ (by kernel_rfl) rfl
    (fun f fn hf hfn=>by
      obtain rfl:f=4:=Option.some.inj ((show Tryd.prog.funcNamed "watershed/watershedlaw.DownsInclusion"=some 4 by kernel_rfl).symm.trans hf) |>.symm
      obtain rfl:fn=Tryd.f4:=(Option.some.inj (Tryd.func4.symm.trans hfn)).symm
      exact ⟨by kernel_rfl,fun j t ht=>by
        have hm:t∈Tryd.f4.params.toList:=List.mem_of_getElem? (by simpa using ht)
        have hall:(Tryd.f4.params.toList.all fun t=>!(Tryd.prog.wantsStandIn t))=true:=by kernel_rfl
        have:=List.all_eq_true.1 hall t hm
        exact (show Tryd.prog.wantsStandIn t=false by simpa using this)⟩)
    (by kernel_rfl)
end Go.Proofs.YteeaadgpkammdaaDoor
