/-
  DERIVED. GIVEN WITH THE SEED: THE CARDS: each row of YtppblbacbmebfaaGreatDoorRows.lean that lists a variable, with what it lists TIED to the program's text (the seventh form; the later family's looks); each row that meets fmt, with fmt's text TOLD by the authors' own Lean function (tested against real Go, not proved from fmt's source: count such statements apart). THE CARD IS WHAT COUNTS. Prove the row's statement (the work); the ties are given (YtppblbacbmebfaaGreatDoorTie.lean); close each card by the builder's one call (the guide's Derived/Test/ToyasCard.lean, 'card_holds'). Laid BY PROGRAM, IN A SANDBOX (cutbox-door.mjs). By AI agents, Wed Nov 11 2026. No macro, syntax, notation, axiom, sorry.
-/
import Derived.Test.YtppblbacbmebfaaGreatDoorRows
import GoSem.ClaimSeven
namespace Go.Proofs.YtppblbacbmebfaaGreatDoor
namespace Rows

/-- THE TIED CARD OF 'watershedlaw.MeanTells'. -/
def meanTellsCard : Claim7 := { stood := { row := meanTellsRow, standIns := [], harness := (true, "d7158aaff826740566532843c35f3d03e4a7b43f26ce3849acd521799a66d810"), looks := true }, kinds := [], alts := [], laidByText := true, laidKinds := [.data], laidTests := true, laidLooks := .later }
def MeanTellsCardSaid : Prop := Claim7.holds Tryz.pinned (.plain (OpenSpec.ofChange meanTellsSpec)) meanTellsCard

/-- THE SECOND FORM's CARD OF 'watershedlaw.MeanTells'. -/
def meanTellsUptoCard : Claim7 := { stood := { row := meanTellsUptoRow, standIns := [], harness := (true, "d7158aaff826740566532843c35f3d03e4a7b43f26ce3849acd521799a66d810"), looks := true }, kinds := [], alts := [], laidByText := true, laidKinds := [.data], laidTests := true, laidLooks := .later }
def MeanTellsUptoCardSaid : Prop := Claim7.holds Tryz.pinned (.plain (OpenSpec.upto meanTellsSpec)) meanTellsUptoCard
end Rows
end Go.Proofs.YtppblbacbmebfaaGreatDoor
