/- 'watershedlaw.ReachFronts' returns true, whatever it is given, and leaves its arguments as they were: the row, and its tied card. -/
import Derived.Test.YtgepgleagefmeabGreatDoorReachFrontsLaw
import Derived.Test.YtgepgleagefmeabGreatDoorAbsLaid
import Derived.Test.YtgepgleagefmeabGreatDoorRows
import Derived.Test.YtgepgleagefmeabGreatDoorTie
import Derived.Test.YtgepgleagefmeabGreatDoorCards
import Derived.ProofKit
import Derived.LaidMore
import Derived.SevenTiedAt
import Derived.ChangeSame
import Derived.Stop.Joined
namespace Go.Proofs.YtgepgleagefmeabGreatDoor
open Go Go.ChangeShapes Go.WideShapes Go.ChangeAt Go.RowKit
theorem qmzwr:ownKnob Tryz.prog.godebug=none:=by kernel_rfl
theorem qyq1r:laidOutB Tryz.prog=true:=by kernel_rfl
theorem q5q39 (os:Os) (args:Array Value):laidMetH Tryz.prog Rows.reachFrontsRow.laid ((World.doorLaid Tryz.prog 14 os).forCall (fun _ _=>0) ⟨#[],args,[]⟩).memory :=
  laidMetH_of_parts3 (fuel:=8) (laidMet_of_run' 8 (by kernel_rfl) (by kernel_rfl)) (by kernel_rfl) (by kernel_rfl)
theorem qd57v:∀ p∈Go.Proofs.Tryz.gls,Abs.TabOf Tryz.prog Rows.reachFrontsRow.laid p :=
  fun p hp=>by
    rcases List.mem_cons.1 hp with rfl | hp
    · exact ⟨("math/bits.deBruijn64tab",Rows.laid_math_bits_deBruijn64tab),by simp [Rows.reachFrontsRow],313,5,by kernel_rfl,by kernel_rfl,by kernel_rfl,by kernel_rfl,by kernel_rfl,by rw [Go.Proofs.Tryz.tab0_eq]; kernel_rfl⟩
    · cases hp
set_option maxRecDepth 100000 in
theorem qta5h (os:Os) (started:os.Started) (H:Type) (enc:TypeId × Value→H) :
    ReturnsInHanded {} Tryz.checked os 4 .any (fun w args=>(Rows.reachFrontsSpec.pre enc Tryz.prog Tryz.f4 [] false w args∧laidMetH Tryz.prog Rows.reachFrontsRow.laid w)∧sizedMet enc Tryz.prog Tryz.f4 (OpenSpec.ofChange Rows.reachFrontsSpec) false w args)
      (Rows.reachFrontsSpec.post enc Tryz.prog Tryz.f4 false true false false):=by
  refine returnsInHanded_of_change_and (C:=Tryz.checked) (X:=fun w _=>laidMetH Tryz.prog Rows.reachFrontsRow.laid w) (fun _ _ _ hh h=>h.of_heap hh) qmzwr started (by kernel_rfl) Tryz.func4
    (ChangeSpec.witness_shaped (enc:=enc) (C:=Tryz.checked) (os:=os) (X:=fun w _=>laidMetH Tryz.prog Rows.reachFrontsRow.laid w) false (World.doorLaid Tryz.prog 14 os) #[.agg #[.slice none 0 0,.slice none 0 0],.slice none 0 0] 40 rfl (World.shaped_of_RefB (by kernel_rfl) (by kernel_rfl)) (by kernel_rfl) (by kernel_rfl) (by kernel_rfl) (q5q39 os _)) ?_
  intro W base args ds gs before hval0 hW _ _ hL _
  exact Abs.law_contract (P:=Tryz.prog) (fn:=Tryz.f4) (tb:=4) qyq1r (by kernel_rfl) (by kernel_rfl) rfl (by kernel_rfl) (by kernel_rfl) Go.Proofs.Tryz.ok4 (Abs.globOK_laid (by kernel_rfl) qd57v hL) (fun h=>by
      match ds,h with
      | [_,_],_=>rfl) (fun x wf _=>Go.Proofs.Tryz.reachFronts_law x wf) hval0 hW
theorem reachFronts_holds:Rows.ReachFrontsSaid :=
  OpenClaim.holds_of_wide 4 Tryz.f4 rfl rfl rfl rfl rfl rfl rfl ⟨rfl,rfl,rfl,rfl,rfl⟩ rfl rfl rfl rfl rfl (by kernel_rfl) Tryz.func4 (by kernel_rfl)
    (of_decide_eq_true (by kernel_rfl)) (by unfold Func.isWrapper; first | (rw [if_pos (by decide +kernel)]; kernel_rfl) | (rw [if_neg (by decide +kernel)]; exact ⟨rfl,rfl⟩))
    (fun os started H enc _=>qta5h os started H enc)
theorem reachFronts_card_holds:Rows.ReachFrontsCardSaid :=
  Claim7.holds_tied_plain_at .later [] [.data] true (true,"467e9dba5e009773d4e0f0b49a037de4040910e61a71ba96959fc6d1e15cdf48") true
    reachFronts_holds (fun _ h=>by cases h) (by kernel_rfl) (fun _ h=>by cases h) reachFronts_row_tie rfl ⟨rfl,rfl⟩ (by kernel_rfl) rfl
    (fun f fn hf hfn=>by
      obtain rfl:f=4:=Option.some.inj ((show Tryz.prog.funcNamed "watershed/watershedlaw.ReachFronts"=some 4 by kernel_rfl).symm.trans hf) |>.symm
      obtain rfl:fn=Tryz.f4:=(Option.some.inj (Tryz.func4.symm.trans hfn)).symm
      exact ⟨by kernel_rfl,fun j t ht=>by
        have hm:t∈Tryz.f4.params.toList:=List.mem_of_getElem? (by simpa using ht)
        have hall:(Tryz.f4.params.toList.all fun t=>!(Tryz.prog.wantsStandIn t))=true:=by kernel_rfl
        have:=List.all_eq_true.1 hall t hm
        exact (show Tryz.prog.wantsStandIn t=false by simpa using this)⟩)
    (by kernel_rfl)
end Go.Proofs.YtgepgleagefmeabGreatDoor
