/-
  DERIVED. GIVEN WITH THE SEED: THE CARDS: each row of YteeaadgpkammdaaDoorRows.lean that lists a variable, with what it lists TIED to the program's text (the seventh form; the later family's looks); each row that meets fmt, with fmt's text TOLD by the authors' own Lean function (tested against real Go, not proved from fmt's source: count such statements apart). THE CARD IS WHAT COUNTS. Prove the row's statement (the work); the ties are given (YteeaadgpkammdaaDoorTie.lean); close each card by the builder's one call (the guide's Derived/Test/ToyasCard.lean, 'card_holds'). Laid BY PROGRAM, IN A SANDBOX (cutbox-door.mjs). By AI agents, Wed Nov 11 2026. No macro, syntax, notation, axiom, sorry.
-/
import Derived.Test.YteeaadgpkammdaaDoorRows
import GoSem.ClaimSeven
namespace Go.Proofs.YteeaadgpkammdaaDoor
namespace Rows

/-- THE TIED CARD OF 'watershedlaw.DownsAll'. -/
def downsAllCard : Claim7 := { stood := { row := downsAllRow, standIns := [], harness := (true, "552bdd4881a08c9fe7c36f391fd10736ffb2bf5c1a775308876066d35cbda0fa"), looks := true }, kinds := [], alts := [], laidByText := true, laidKinds := [.data], laidTests := true, laidLooks := .later }
def DownsAllCardSaid : Prop := Claim7.holds Tryd.pinned (.plain (OpenSpec.ofChange downsAllSpec)) downsAllCard

/-- THE TIED CARD OF 'watershedlaw.DownsInclusion'. -/
def downsInclusionCard : Claim7 := { stood := { row := downsInclusionRow, standIns := [], harness := (true, "552bdd4881a08c9fe7c36f391fd10736ffb2bf5c1a775308876066d35cbda0fa"), looks := true }, kinds := [], alts := [], laidByText := true, laidKinds := [.data], laidTests := true, laidLooks := .later }
def DownsInclusionCardSaid : Prop := Claim7.holds Tryd.pinned (.plain (OpenSpec.ofChange downsInclusionSpec)) downsInclusionCard

/-- THE TIED CARD OF 'watershedlaw.PolicyPlays'. -/
def policyPlaysCard : Claim7 := { stood := { row := policyPlaysRow, standIns := [], harness := (true, "552bdd4881a08c9fe7c36f391fd10736ffb2bf5c1a775308876066d35cbda0fa"), looks := true }, kinds := [], alts := [], laidByText := true, laidKinds := [.data, .handle], laidTests := true, laidLooks := .later }
def PolicyPlaysCardSaid : Prop := Claim7.holds Tryd.pinned (.plain (OpenSpec.ofChange policyPlaysSpec)) policyPlaysCard

/-- THE SECOND FORM's CARD OF 'watershedlaw.DownsAll'. -/
def downsAllUptoCard : Claim7 := { stood := { row := downsAllUptoRow, standIns := [], harness := (true, "552bdd4881a08c9fe7c36f391fd10736ffb2bf5c1a775308876066d35cbda0fa"), looks := true }, kinds := [], alts := [], laidByText := true, laidKinds := [.data], laidTests := true, laidLooks := .later }
def DownsAllUptoCardSaid : Prop := Claim7.holds Tryd.pinned (.plain (OpenSpec.upto downsAllSpec)) downsAllUptoCard

/-- THE SECOND FORM's CARD OF 'watershedlaw.DownsInclusion'. -/
def downsInclusionUptoCard : Claim7 := { stood := { row := downsInclusionUptoRow, standIns := [], harness := (true, "552bdd4881a08c9fe7c36f391fd10736ffb2bf5c1a775308876066d35cbda0fa"), looks := true }, kinds := [], alts := [], laidByText := true, laidKinds := [.data], laidTests := true, laidLooks := .later }
def DownsInclusionUptoCardSaid : Prop := Claim7.holds Tryd.pinned (.plain (OpenSpec.upto downsInclusionSpec)) downsInclusionUptoCard

/-- THE SECOND FORM's CARD OF 'watershedlaw.PolicyPlays'. -/
def policyPlaysUptoCard : Claim7 := { stood := { row := policyPlaysUptoRow, standIns := [], harness := (true, "552bdd4881a08c9fe7c36f391fd10736ffb2bf5c1a775308876066d35cbda0fa"), looks := true }, kinds := [], alts := [], laidByText := true, laidKinds := [.data, .handle], laidTests := true, laidLooks := .later }
def PolicyPlaysUptoCardSaid : Prop := Claim7.holds Tryd.pinned (.plain (OpenSpec.upto policyPlaysSpec)) policyPlaysUptoCard
end Rows
end Go.Proofs.YteeaadgpkammdaaDoor
