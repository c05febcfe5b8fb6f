/-
  DERIVED. GIVEN WITH THE SEED: THE CARDS: each row of YtamkgeejenceaaaDoorRows.lean that lists a variable, with what it lists TIED to the program's text (the seventh form; the later family's looks); each row that meets fmt, with fmt's text TOLD by the authors' own Lean function (tested against real Go, not proved from fmt's source: count such statements apart). THE CARD IS WHAT COUNTS. Prove the row's statement (the work); the ties are given (YtamkgeejenceaaaDoorTie.lean); close each card by the builder's one call (the guide's Derived/Test/ToyasCard.lean, 'card_holds'). Laid BY PROGRAM, IN A SANDBOX (cutbox-door.mjs). By AI agents, Wed Nov 11 2026. No macro, syntax, notation, axiom, sorry.
-/
import Derived.Test.YtamkgeejenceaaaDoorRows
import GoSem.ClaimSeven
namespace Go.Proofs.YtamkgeejenceaaaDoor
namespace Rows

/-- THE TIED CARD OF 'watershedlaw.DownsAll'. -/
def downsAllCard : Claim7 := { stood := { row := downsAllRow, standIns := [], harness := (true, "40c028e303e858583abb2c09cfd922afca46491916306b9fcc2db612ca832085"), looks := true }, kinds := [], alts := [], laidByText := true, laidKinds := [.data], laidTests := true, laidLooks := .later }
def DownsAllCardSaid : Prop := Claim7.holds Tryd.pinned (.plain (OpenSpec.ofChange downsAllSpec)) downsAllCard

/-- THE TIED CARD OF 'watershedlaw.DownsInclusion'. -/
def downsInclusionCard : Claim7 := { stood := { row := downsInclusionRow, standIns := [], harness := (true, "40c028e303e858583abb2c09cfd922afca46491916306b9fcc2db612ca832085"), looks := true }, kinds := [], alts := [], laidByText := true, laidKinds := [.data], laidTests := true, laidLooks := .later }
def DownsInclusionCardSaid : Prop := Claim7.holds Tryd.pinned (.plain (OpenSpec.ofChange downsInclusionSpec)) downsInclusionCard

/-- THE TIED CARD OF 'watershedlaw.PolicyPlays'. -/
def policyPlaysCard : Claim7 := { stood := { row := policyPlaysRow, standIns := [], harness := (true, "40c028e303e858583abb2c09cfd922afca46491916306b9fcc2db612ca832085"), looks := true }, kinds := [], alts := [], laidByText := true, laidKinds := [.data, .handle], laidTests := true, laidLooks := .later }
def PolicyPlaysCardSaid : Prop := Claim7.holds Tryd.pinned (.plain (OpenSpec.ofChange policyPlaysSpec)) policyPlaysCard

/-- THE TIED CARD OF 'watershedlaw.PolarCompletes'. -/
def polarCompletesCard : Claim7 := { stood := { row := polarCompletesRow, standIns := [], harness := (true, "40c028e303e858583abb2c09cfd922afca46491916306b9fcc2db612ca832085"), looks := true }, kinds := [], alts := [], laidByText := true, laidKinds := [.data], laidTests := true, laidLooks := .later }
def PolarCompletesCardSaid : Prop := Claim7.holds Tryd.pinned (.plain (OpenSpec.ofChange polarCompletesSpec)) polarCompletesCard

/-- THE TIED CARD OF 'watershedlaw.ReachPaths'. -/
def reachPathsCard : Claim7 := { stood := { row := reachPathsRow, standIns := [], harness := (true, "40c028e303e858583abb2c09cfd922afca46491916306b9fcc2db612ca832085"), looks := true }, kinds := [], alts := [], laidByText := true, laidKinds := [.data], laidTests := true, laidLooks := .later }
def ReachPathsCardSaid : Prop := Claim7.holds Tryd.pinned (.plain (OpenSpec.ofChange reachPathsSpec)) reachPathsCard

/-- THE TIED CARD OF 'watershedlaw.ReachCoulds'. -/
def reachCouldsCard : Claim7 := { stood := { row := reachCouldsRow, standIns := [], harness := (true, "40c028e303e858583abb2c09cfd922afca46491916306b9fcc2db612ca832085"), looks := true }, kinds := [], alts := [], laidByText := true, laidKinds := [.data], laidTests := true, laidLooks := .later }
def ReachCouldsCardSaid : Prop := Claim7.holds Tryd.pinned (.plain (OpenSpec.ofChange reachCouldsSpec)) reachCouldsCard

/-- THE TIED CARD OF 'watershedlaw.TrackMays'. -/
def trackMaysCard : Claim7 := { stood := { row := trackMaysRow, standIns := [], harness := (true, "40c028e303e858583abb2c09cfd922afca46491916306b9fcc2db612ca832085"), looks := true }, kinds := [], alts := [], laidByText := true, laidKinds := [.data], laidTests := true, laidLooks := .later }
def TrackMaysCardSaid : Prop := Claim7.holds Tryd.pinned (.plain (OpenSpec.ofChange trackMaysSpec)) trackMaysCard

/-- THE SECOND FORM's CARD OF 'watershedlaw.DownsAll'. -/
def downsAllUptoCard : Claim7 := { stood := { row := downsAllUptoRow, standIns := [], harness := (true, "40c028e303e858583abb2c09cfd922afca46491916306b9fcc2db612ca832085"), looks := true }, kinds := [], alts := [], laidByText := true, laidKinds := [.data], laidTests := true, laidLooks := .later }
def DownsAllUptoCardSaid : Prop := Claim7.holds Tryd.pinned (.plain (OpenSpec.upto downsAllSpec)) downsAllUptoCard

/-- THE SECOND FORM's CARD OF 'watershedlaw.DownsInclusion'. -/
def downsInclusionUptoCard : Claim7 := { stood := { row := downsInclusionUptoRow, standIns := [], harness := (true, "40c028e303e858583abb2c09cfd922afca46491916306b9fcc2db612ca832085"), looks := true }, kinds := [], alts := [], laidByText := true, laidKinds := [.data], laidTests := true, laidLooks := .later }
def DownsInclusionUptoCardSaid : Prop := Claim7.holds Tryd.pinned (.plain (OpenSpec.upto downsInclusionSpec)) downsInclusionUptoCard

/-- THE SECOND FORM's CARD OF 'watershedlaw.PolicyPlays'. -/
def policyPlaysUptoCard : Claim7 := { stood := { row := policyPlaysUptoRow, standIns := [], harness := (true, "40c028e303e858583abb2c09cfd922afca46491916306b9fcc2db612ca832085"), looks := true }, kinds := [], alts := [], laidByText := true, laidKinds := [.data, .handle], laidTests := true, laidLooks := .later }
def PolicyPlaysUptoCardSaid : Prop := Claim7.holds Tryd.pinned (.plain (OpenSpec.upto policyPlaysSpec)) policyPlaysUptoCard

/-- THE SECOND FORM's CARD OF 'watershedlaw.PolarCompletes'. -/
def polarCompletesUptoCard : Claim7 := { stood := { row := polarCompletesUptoRow, standIns := [], harness := (true, "40c028e303e858583abb2c09cfd922afca46491916306b9fcc2db612ca832085"), looks := true }, kinds := [], alts := [], laidByText := true, laidKinds := [.data], laidTests := true, laidLooks := .later }
def PolarCompletesUptoCardSaid : Prop := Claim7.holds Tryd.pinned (.plain (OpenSpec.upto polarCompletesSpec)) polarCompletesUptoCard

/-- THE SECOND FORM's CARD OF 'watershedlaw.ReachPaths'. -/
def reachPathsUptoCard : Claim7 := { stood := { row := reachPathsUptoRow, standIns := [], harness := (true, "40c028e303e858583abb2c09cfd922afca46491916306b9fcc2db612ca832085"), looks := true }, kinds := [], alts := [], laidByText := true, laidKinds := [.data], laidTests := true, laidLooks := .later }
def ReachPathsUptoCardSaid : Prop := Claim7.holds Tryd.pinned (.plain (OpenSpec.upto reachPathsSpec)) reachPathsUptoCard

/-- THE SECOND FORM's CARD OF 'watershedlaw.ReachCoulds'. -/
def reachCouldsUptoCard : Claim7 := { stood := { row := reachCouldsUptoRow, standIns := [], harness := (true, "40c028e303e858583abb2c09cfd922afca46491916306b9fcc2db612ca832085"), looks := true }, kinds := [], alts := [], laidByText := true, laidKinds := [.data], laidTests := true, laidLooks := .later }
def ReachCouldsUptoCardSaid : Prop := Claim7.holds Tryd.pinned (.plain (OpenSpec.upto reachCouldsSpec)) reachCouldsUptoCard

/-- THE SECOND FORM's CARD OF 'watershedlaw.TrackMays'. -/
def trackMaysUptoCard : Claim7 := { stood := { row := trackMaysUptoRow, standIns := [], harness := (true, "40c028e303e858583abb2c09cfd922afca46491916306b9fcc2db612ca832085"), looks := true }, kinds := [], alts := [], laidByText := true, laidKinds := [.data], laidTests := true, laidLooks := .later }
def TrackMaysUptoCardSaid : Prop := Claim7.holds Tryd.pinned (.plain (OpenSpec.upto trackMaysSpec)) trackMaysUptoCard
end Rows
end Go.Proofs.YtamkgeejenceaaaDoor
