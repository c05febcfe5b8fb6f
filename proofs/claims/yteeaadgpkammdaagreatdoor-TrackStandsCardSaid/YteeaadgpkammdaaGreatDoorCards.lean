/-
  DERIVED. GIVEN WITH THE SEED: THE CARDS: each row of YteeaadgpkammdaaGreatDoorRows.lean that lists a variable, with what it lists TIED to the program's text (the seventh form; the later family's looks); each row that meets fmt, with fmt's text TOLD by the authors' own Lean function (tested against real Go, not proved from fmt's source: count such statements apart). THE CARD IS WHAT COUNTS. Prove the row's statement (the work); the ties are given (YteeaadgpkammdaaGreatDoorTie.lean); close each card by the builder's one call (the guide's Derived/Test/ToyasCard.lean, 'card_holds'). Laid BY PROGRAM, IN A SANDBOX (cutbox-door.mjs). By AI agents, Wed Nov 11 2026. No macro, syntax, notation, axiom, sorry.
-/
import Derived.Test.YteeaadgpkammdaaGreatDoorRows
import GoSem.ClaimSeven
namespace Go.Proofs.YteeaadgpkammdaaGreatDoor
namespace Rows

/-- THE TIED CARD OF 'watershedlaw.MeanTells'. -/
def meanTellsCard : Claim7 := { stood := { row := meanTellsRow, standIns := [], harness := (true, "2014a2a094cb5d685916ea859d51f7355828be2e218fbf88bc0e0c8ec388f6e6"), looks := true }, kinds := [], alts := [], laidByText := true, laidKinds := [.data], laidTests := true, laidLooks := .later }
def MeanTellsCardSaid : Prop := Claim7.holds Tryz.pinned (.plain (OpenSpec.ofChange meanTellsSpec)) meanTellsCard

/-- THE TIED CARD OF 'watershedlaw.TrackStands'. -/
def trackStandsCard : Claim7 := { stood := { row := trackStandsRow, standIns := [], harness := (true, "2014a2a094cb5d685916ea859d51f7355828be2e218fbf88bc0e0c8ec388f6e6"), looks := true }, kinds := [], alts := [], laidByText := true, laidKinds := [.data], laidTests := true, laidLooks := .later }
def TrackStandsCardSaid : Prop := Claim7.holds Tryz.pinned (.plain (OpenSpec.ofChange trackStandsSpec)) trackStandsCard

/-- THE SECOND FORM's CARD OF 'watershedlaw.MeanTells'. -/
def meanTellsUptoCard : Claim7 := { stood := { row := meanTellsUptoRow, standIns := [], harness := (true, "2014a2a094cb5d685916ea859d51f7355828be2e218fbf88bc0e0c8ec388f6e6"), looks := true }, kinds := [], alts := [], laidByText := true, laidKinds := [.data], laidTests := true, laidLooks := .later }
def MeanTellsUptoCardSaid : Prop := Claim7.holds Tryz.pinned (.plain (OpenSpec.upto meanTellsSpec)) meanTellsUptoCard

/-- THE SECOND FORM's CARD OF 'watershedlaw.TrackStands'. -/
def trackStandsUptoCard : Claim7 := { stood := { row := trackStandsUptoRow, standIns := [], harness := (true, "2014a2a094cb5d685916ea859d51f7355828be2e218fbf88bc0e0c8ec388f6e6"), looks := true }, kinds := [], alts := [], laidByText := true, laidKinds := [.data], laidTests := true, laidLooks := .later }
def TrackStandsUptoCardSaid : Prop := Claim7.holds Tryz.pinned (.plain (OpenSpec.upto trackStandsSpec)) trackStandsUptoCard
end Rows
end Go.Proofs.YteeaadgpkammdaaGreatDoor
