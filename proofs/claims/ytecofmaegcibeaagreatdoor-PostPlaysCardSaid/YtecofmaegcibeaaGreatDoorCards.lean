/-
  DERIVED. GIVEN WITH THE SEED: THE CARDS: each row of YtecofmaegcibeaaGreatDoorRows.lean that lists a variable, with what it lists TIED to the program's text (the seventh form; the later family's looks); each row that meets fmt, with fmt's text TOLD by the authors' own Lean function (tested against real Go, not proved from fmt's source: count such statements apart). THE CARD IS WHAT COUNTS. Prove the row's statement (the work); the ties are given (YtecofmaegcibeaaGreatDoorTie.lean); close each card by the builder's one call (the guide's Derived/Test/ToyasCard.lean, 'card_holds'). Laid BY PROGRAM, IN A SANDBOX (cutbox-door.mjs). By AI agents, Wed Nov 11 2026. No macro, syntax, notation, axiom, sorry.
-/
import Derived.Test.YtecofmaegcibeaaGreatDoorRows
import GoSem.ClaimSeven
namespace Go.Proofs.YtecofmaegcibeaaGreatDoor
namespace Rows

/-- THE TIED CARD OF 'watershedlaw.PostPlays'. -/
def postPlaysCard : Claim7 := { stood := { row := postPlaysRow, standIns := [], harness := (true, "c00ddde5dcf68ff3f7ade87d9d1f63b96fe6a193a9bb4077549aba2e6eea7f85"), looks := false }, kinds := [], alts := [], laidByText := true, laidKinds := [.data], laidTests := true, laidLooks := .later }
def PostPlaysCardSaid : Prop := Claim7.holds Tryz.pinned (.plain (OpenSpec.ofChange postPlaysSpec)) postPlaysCard

/-- THE SECOND FORM's CARD OF 'watershedlaw.PostPlays'. -/
def postPlaysUptoCard : Claim7 := { stood := { row := postPlaysUptoRow, standIns := [], harness := (true, "c00ddde5dcf68ff3f7ade87d9d1f63b96fe6a193a9bb4077549aba2e6eea7f85"), looks := false }, kinds := [], alts := [], laidByText := true, laidKinds := [.data], laidTests := true, laidLooks := .later }
def PostPlaysUptoCardSaid : Prop := Claim7.holds Tryz.pinned (.plain (OpenSpec.upto postPlaysSpec)) postPlaysUptoCard
end Rows
end Go.Proofs.YtecofmaegcibeaaGreatDoor
