/-
  DERIVED. GIVEN WITH THE SEED: THE CARDS: each row of YtoddbincogignaaDoorRows.lean that lists a variable, with what it lists TIED to the program's text (the seventh form; the later family's looks); each row that meets fmt, with fmt's text TOLD by the authors' own Lean function (tested against real Go, not proved from fmt's source: count such statements apart). THE CARD IS WHAT COUNTS. Prove the row's statement (the work); the ties are given (YtoddbincogignaaDoorTie.lean); close each card by the builder's one call (the guide's Derived/Test/ToyasCard.lean, 'card_holds'). Laid BY PROGRAM, IN A SANDBOX (cutbox-door.mjs). By AI agents, Wed Nov 11 2026. No macro, syntax, notation, axiom, sorry.
-/
import Derived.Test.YtoddbincogignaaDoorRows
import GoSem.ClaimSeven
namespace Go.Proofs.YtoddbincogignaaDoor
namespace Rows

/-- THE TIED CARD OF 'watershedlaw.PolarConcepts'. -/
def polarConceptsCard : Claim7 := { stood := { row := polarConceptsRow, standIns := [], harness := (true, "ab0de43464849c767cdbf959319c48e05a99fb4cb06144dc1100c6857d81d1cb"), looks := false }, kinds := [], alts := [], laidByText := true, laidKinds := [.data], laidTests := true, laidLooks := .later }
def PolarConceptsCardSaid : Prop := Claim7.holds Tryd.pinned (.plain (OpenSpec.ofChange polarConceptsSpec)) polarConceptsCard

/-- THE SECOND FORM's CARD OF 'watershedlaw.PolarConcepts'. -/
def polarConceptsUptoCard : Claim7 := { stood := { row := polarConceptsUptoRow, standIns := [], harness := (true, "ab0de43464849c767cdbf959319c48e05a99fb4cb06144dc1100c6857d81d1cb"), looks := false }, kinds := [], alts := [], laidByText := true, laidKinds := [.data], laidTests := true, laidLooks := .later }
def PolarConceptsUptoCardSaid : Prop := Claim7.holds Tryd.pinned (.plain (OpenSpec.upto polarConceptsSpec)) polarConceptsUptoCard
end Rows
end Go.Proofs.YtoddbincogignaaDoor
