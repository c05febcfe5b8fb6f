/- 'watershedlaw.PolicyPlays' returns true, whatever it is given, and leaves its arguments as they were: the row, and its tied card. -/
import Derived.Test.YteeaadgpkammdaaDoorPolicyPlaysLaw
import Derived.Test.YteeaadgpkammdaaDoorAbsLaid
import Derived.Test.YteeaadgpkammdaaDoorRows
import Derived.Test.YteeaadgpkammdaaDoorTie
import Derived.Test.YteeaadgpkammdaaDoorCards
import Derived.ProofKit
import Derived.LaidMore
import Derived.SevenTiedAt
import Derived.ChangeSame
import Derived.Stop.Joined
namespace Go.Proofs.YteeaadgpkammdaaDoor
open Go Go.ChangeShapes Go.WideShapes Go.ChangeAt Go.RowKit
theorem policyPlays_own:ownKnob Tryd.prog.godebug=none:=by kernel_rfl
theorem policyPlays_laidOut:laidOutB Tryd.prog=true:=by kernel_rfl
theorem policyPlays_met (os:Os) (args:Array Value):laidMetH Tryd.prog Rows.policyPlaysRow.laid ((World.doorLaid Tryd.prog 21 os).forCall (fun _ _=>0) ⟨#[],args,[]⟩).memory :=
  laidMetH_of_parts3 (fuel:=8) (laidMet_of_run' 8 (by kernel_rfl) (by kernel_rfl)) (by kernel_rfl) (by kernel_rfl)
theorem policyPlays_tabs:∀ p∈Go.Proofs.Tryd.gls,Abs.TabOf Tryd.prog Rows.policyPlaysRow.laid p :=
  fun p hp=>by
    rcases List.mem_cons.1 hp with rfl | hp
    · exact .inl ⟨by decide,("math/bits.deBruijn64tab",Rows.laid_math_bits_deBruijn64tab),by simp [Rows.policyPlaysRow],109,5,by kernel_rfl,by kernel_rfl,by kernel_rfl,by kernel_rfl,by kernel_rfl,by rw [Go.Proofs.Tryd.tab0_eq]; kernel_rfl⟩
    rcases List.mem_cons.1 hp with rfl | hp
    · exact .inr ⟨rfl,("errors.errorType",Rows.laid_errors_errorType),by simp [Rows.policyPlaysRow],[101,114,114,111,114],124,2,91,91,by kernel_rfl,by kernel_rfl,by kernel_rfl,by kernel_rfl,by kernel_rfl,by kernel_rfl,rfl⟩
    · cases hp
set_option maxRecDepth 100000 in
theorem policyPlays_lifted (os:Os) (started:os.Started) (H:Type) (enc:TypeId × Value→H) :
    ReturnsInHanded {} Tryd.checked os 5 .any (fun w args=>(Rows.policyPlaysSpec.pre enc Tryd.prog Tryd.f5 [] false w args∧laidMetH Tryd.prog Rows.policyPlaysRow.laid w)∧sizedMet enc Tryd.prog Tryd.f5 (OpenSpec.ofChange Rows.policyPlaysSpec) false w args)
      (Rows.policyPlaysSpec.post enc Tryd.prog Tryd.f5 false true false false):=by
  refine returnsInHanded_of_change_and (C:=Tryd.checked) (X:=fun w _=>laidMetH Tryd.prog Rows.policyPlaysRow.laid w) (fun _ _ _ hh h=>h.of_heap hh) policyPlays_own started (by kernel_rfl) Tryd.func5
    (ChangeSpec.witness_shaped (enc:=enc) (C:=Tryd.checked) (os:=os) (X:=fun w _=>laidMetH Tryd.prog Rows.policyPlaysRow.laid w) false (World.doorLaid Tryd.prog 21 os) #[.agg #[.int .i64 0,.slice none 0 0],.slice none 0 0,.slice none 0 0] 40 rfl (World.shaped_of_RefB (by kernel_rfl) (by kernel_rfl)) (by kernel_rfl) (by kernel_rfl) (by kernel_rfl) (policyPlays_met os _)) ?_
  intro W base args ds gs before hval0 hW _ _ hL _
  exact Abs.law_contract (P:=Tryd.prog) (fn:=Tryd.f5) (tb:=4) policyPlays_laidOut (by kernel_rfl) (by kernel_rfl) rfl (by kernel_rfl) (by kernel_rfl) Go.Proofs.Tryd.ok5 (Abs.globOK_laid policyPlays_tabs hL) (fun h=>by
      match ds,h with
      | [_,_,_],_=>rfl) (fun x wf _=>Go.Proofs.Tryd.policyPlays_law x wf) hval0 hW
theorem policyPlays_holds:Rows.PolicyPlaysSaid :=
  OpenClaim.holds_of_wide 5 Tryd.f5 rfl rfl rfl rfl rfl rfl rfl ⟨rfl,rfl,rfl,rfl,rfl⟩ rfl rfl rfl rfl rfl (by kernel_rfl) Tryd.func5 (by kernel_rfl)
    (of_decide_eq_true (by kernel_rfl)) (by unfold Func.isWrapper; first | (rw [if_pos (by decide +kernel)]; kernel_rfl) | (rw [if_neg (by decide +kernel)]; exact ⟨rfl,rfl⟩))
    (fun os started H enc _=>policyPlays_lifted os started H enc)
theorem policyPlays_card_holds:Rows.PolicyPlaysCardSaid :=
  Claim7.holds_tied_plain_at .later [] [.data,.handle] true (true,"552bdd4881a08c9fe7c36f391fd10736ffb2bf5c1a775308876066d35cbda0fa") true
    policyPlays_holds (fun _ h=>by cases h) (by kernel_rfl) (fun _ h=>by cases h) policyPlays_row_tie rfl ⟨rfl,rfl⟩ (by kernel_rfl) rfl
    (fun f fn hf hfn=>by
      obtain rfl:f=5:=Option.some.inj ((show Tryd.prog.funcNamed "watershed/watershedlaw.PolicyPlays"=some 5 by kernel_rfl).symm.trans hf) |>.symm
      obtain rfl:fn=Tryd.f5:=(Option.some.inj (Tryd.func5.symm.trans hfn)).symm
      exact ⟨by kernel_rfl,fun j t ht=>by
        have hm:t∈Tryd.f5.params.toList:=List.mem_of_getElem? (by simpa using ht)
        have hall:(Tryd.f5.params.toList.all fun t=>!(Tryd.prog.wantsStandIn t))=true:=by kernel_rfl
        have:=List.all_eq_true.1 hall t hm
        exact (show Tryd.prog.wantsStandIn t=false by simpa using this)⟩)
    (by kernel_rfl)
end Go.Proofs.YteeaadgpkammdaaDoor
