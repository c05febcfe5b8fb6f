/-
  DERIVED. GIVEN WITH THE SEED: THE CARDS: each row of YtgepgleagefmeabGreatDoorRows.lean that lists a variable, with what it lists TIED to the program's text (the seventh form; the later family's looks); each row that meets fmt, with fmt's text TOLD by the authors' own Lean function (tested against real Go, not proved from fmt's source: count such statements apart). THE CARD IS WHAT COUNTS. Prove the row's statement (the work); the ties are given (YtgepgleagefmeabGreatDoorTie.lean); close each card by the builder's one call (the guide's Derived/Test/ToyasCard.lean, 'card_holds'). Laid BY PROGRAM, IN A SANDBOX (cutbox-door.mjs). By AI agents, Wed Nov 11 2026. No macro, syntax, notation, axiom, sorry.
-/
import Derived.Test.YtgepgleagefmeabGreatDoorRows
import GoSem.ClaimSeven
namespace Go.Proofs.YtgepgleagefmeabGreatDoor
namespace Rows

/-- THE TIED CARD OF 'watershedlaw.MeanTells'. -/
def meanTellsCard : Claim7 := { stood := { row := meanTellsRow, standIns := [], harness := (true, "467e9dba5e009773d4e0f0b49a037de4040910e61a71ba96959fc6d1e15cdf48"), looks := true }, kinds := [], alts := [], laidByText := true, laidKinds := [.data], laidTests := true, laidLooks := .later }
def MeanTellsCardSaid : Prop := Claim7.holds Tryz.pinned (.plain (OpenSpec.ofChange meanTellsSpec)) meanTellsCard

/-- THE TIED CARD OF 'watershedlaw.ReachFronts'. -/
def reachFrontsCard : Claim7 := { stood := { row := reachFrontsRow, standIns := [], harness := (true, "467e9dba5e009773d4e0f0b49a037de4040910e61a71ba96959fc6d1e15cdf48"), looks := true }, kinds := [], alts := [], laidByText := true, laidKinds := [.data], laidTests := true, laidLooks := .later }
def ReachFrontsCardSaid : Prop := Claim7.holds Tryz.pinned (.plain (OpenSpec.ofChange reachFrontsSpec)) reachFrontsCard

/-- THE TIED CARD OF 'watershedlaw.TrackStands'. -/
def trackStandsCard : Claim7 := { stood := { row := trackStandsRow, standIns := [], harness := (true, "467e9dba5e009773d4e0f0b49a037de4040910e61a71ba96959fc6d1e15cdf48"), looks := true }, kinds := [], alts := [], laidByText := true, laidKinds := [.data], laidTests := true, laidLooks := .later }
def TrackStandsCardSaid : Prop := Claim7.holds Tryz.pinned (.plain (OpenSpec.ofChange trackStandsSpec)) trackStandsCard

/-- THE TIED CARD OF 'watershedlaw.PostPlays'. -/
def postPlaysCard : Claim7 := { stood := { row := postPlaysRow, standIns := [], harness := (true, "467e9dba5e009773d4e0f0b49a037de4040910e61a71ba96959fc6d1e15cdf48"), looks := true }, kinds := [], alts := [], laidByText := true, laidKinds := [.data], laidTests := true, laidLooks := .later }
def PostPlaysCardSaid : Prop := Claim7.holds Tryz.pinned (.plain (OpenSpec.ofChange postPlaysSpec)) postPlaysCard

/-- THE SECOND FORM's CARD OF 'watershedlaw.MeanTells'. -/
def meanTellsUptoCard : Claim7 := { stood := { row := meanTellsUptoRow, standIns := [], harness := (true, "467e9dba5e009773d4e0f0b49a037de4040910e61a71ba96959fc6d1e15cdf48"), looks := true }, kinds := [], alts := [], laidByText := true, laidKinds := [.data], laidTests := true, laidLooks := .later }
def MeanTellsUptoCardSaid : Prop := Claim7.holds Tryz.pinned (.plain (OpenSpec.upto meanTellsSpec)) meanTellsUptoCard

/-- THE SECOND FORM's CARD OF 'watershedlaw.ReachFronts'. -/
def reachFrontsUptoCard : Claim7 := { stood := { row := reachFrontsUptoRow, standIns := [], harness := (true, "467e9dba5e009773d4e0f0b49a037de4040910e61a71ba96959fc6d1e15cdf48"), looks := true }, kinds := [], alts := [], laidByText := true, laidKinds := [.data], laidTests := true, laidLooks := .later }
def ReachFrontsUptoCardSaid : Prop := Claim7.holds Tryz.pinned (.plain (OpenSpec.upto reachFrontsSpec)) reachFrontsUptoCard

/-- THE SECOND FORM's CARD OF 'watershedlaw.TrackStands'. -/
def trackStandsUptoCard : Claim7 := { stood := { row := trackStandsUptoRow, standIns := [], harness := (true, "467e9dba5e009773d4e0f0b49a037de4040910e61a71ba96959fc6d1e15cdf48"), looks := true }, kinds := [], alts := [], laidByText := true, laidKinds := [.data], laidTests := true, laidLooks := .later }
def TrackStandsUptoCardSaid : Prop := Claim7.holds Tryz.pinned (.plain (OpenSpec.upto trackStandsSpec)) trackStandsUptoCard

/-- THE SECOND FORM's CARD OF 'watershedlaw.PostPlays'. -/
def postPlaysUptoCard : Claim7 := { stood := { row := postPlaysUptoRow, standIns := [], harness := (true, "467e9dba5e009773d4e0f0b49a037de4040910e61a71ba96959fc6d1e15cdf48"), looks := true }, kinds := [], alts := [], laidByText := true, laidKinds := [.data], laidTests := true, laidLooks := .later }
def PostPlaysUptoCardSaid : Prop := Claim7.holds Tryz.pinned (.plain (OpenSpec.upto postPlaysSpec)) postPlaysUptoCard
end Rows
end Go.Proofs.YtgepgleagefmeabGreatDoor
