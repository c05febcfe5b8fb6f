/-
  DERIVED. GIVEN WITH THE SEED: THE CARDS: each row of YthohigdbddilmaaDoorRows.lean that lists a variable, with what it lists TIED to the program's text (the seventh form; the later family's looks); each row that meets fmt, with fmt's text TOLD by the authors' own Lean function (tested against real Go, not proved from fmt's source: count such statements apart). THE CARD IS WHAT COUNTS. Prove the row's statement (the work); the ties are given (YthohigdbddilmaaDoorTie.lean); close each card by the builder's one call (the guide's Derived/Test/ToyasCard.lean, 'card_holds'). Laid BY PROGRAM, IN A SANDBOX (cutbox-door.mjs). By AI agents, Wed Nov 11 2026. No macro, syntax, notation, axiom, sorry.
-/
import Derived.Test.YthohigdbddilmaaDoorRows
import GoSem.ClaimSeven
namespace Go.Proofs.YthohigdbddilmaaDoor
namespace Rows

/-- THE TIED CARD OF 'watershedlaw.MobiusSums'. -/
def mobiusSumsCard : Claim7 := { stood := { row := mobiusSumsRow, standIns := [], harness := (true, "e2c5f55f2f593cf54bcdf85417e8f1c80d228ff0fc1ccf0fa654ea34d8d29f18"), looks := false }, kinds := [], alts := [], laidByText := true, laidKinds := [.data], laidTests := true, laidLooks := .later }
def MobiusSumsCardSaid : Prop := Claim7.holds Tryd.pinned (.plain (OpenSpec.ofChange mobiusSumsSpec)) mobiusSumsCard

/-- THE TIED CARD OF 'watershedlaw.MobiusInverses'. -/
def mobiusInversesCard : Claim7 := { stood := { row := mobiusInversesRow, standIns := [], harness := (true, "e2c5f55f2f593cf54bcdf85417e8f1c80d228ff0fc1ccf0fa654ea34d8d29f18"), looks := false }, kinds := [], alts := [], laidByText := true, laidKinds := [.data], laidTests := true, laidLooks := .later }
def MobiusInversesCardSaid : Prop := Claim7.holds Tryd.pinned (.plain (OpenSpec.ofChange mobiusInversesSpec)) mobiusInversesCard

/-- THE TIED CARD OF 'watershedlaw.LatticeSubs'. -/
def latticeSubsCard : Claim7 := { stood := { row := latticeSubsRow, standIns := [], harness := (true, "e2c5f55f2f593cf54bcdf85417e8f1c80d228ff0fc1ccf0fa654ea34d8d29f18"), looks := false }, kinds := [], alts := [], laidByText := true, laidKinds := [.data], laidTests := true, laidLooks := .later }
def LatticeSubsCardSaid : Prop := Claim7.holds Tryd.pinned (.plain (OpenSpec.ofChange latticeSubsSpec)) latticeSubsCard

/-- THE TIED CARD OF 'watershedlaw.LatticeKinds'. -/
def latticeKindsCard : Claim7 := { stood := { row := latticeKindsRow, standIns := [], harness := (true, "e2c5f55f2f593cf54bcdf85417e8f1c80d228ff0fc1ccf0fa654ea34d8d29f18"), looks := false }, kinds := [], alts := [], laidByText := true, laidKinds := [.data], laidTests := true, laidLooks := .later }
def LatticeKindsCardSaid : Prop := Claim7.holds Tryd.pinned (.plain (OpenSpec.ofChange latticeKindsSpec)) latticeKindsCard

/-- THE TIED CARD OF 'watershedlaw.DownsBelow'. -/
def downsBelowCard : Claim7 := { stood := { row := downsBelowRow, standIns := [], harness := (true, "e2c5f55f2f593cf54bcdf85417e8f1c80d228ff0fc1ccf0fa654ea34d8d29f18"), looks := false }, kinds := [], alts := [], laidByText := true, laidKinds := [.data], laidTests := true, laidLooks := .later }
def DownsBelowCardSaid : Prop := Claim7.holds Tryd.pinned (.plain (OpenSpec.ofChange downsBelowSpec)) downsBelowCard

/-- THE TIED CARD OF 'watershedlaw.MobiusTables'. -/
def mobiusTablesCard : Claim7 := { stood := { row := mobiusTablesRow, standIns := [], harness := (true, "e2c5f55f2f593cf54bcdf85417e8f1c80d228ff0fc1ccf0fa654ea34d8d29f18"), looks := false }, kinds := [], alts := [], laidByText := true, laidKinds := [.data], laidTests := true, laidLooks := .later }
def MobiusTablesCardSaid : Prop := Claim7.holds Tryd.pinned (.plain (OpenSpec.ofChange mobiusTablesSpec)) mobiusTablesCard

/-- THE TIED CARD OF 'watershedlaw.FixedEnds'. -/
def fixedEndsCard : Claim7 := { stood := { row := fixedEndsRow, standIns := [], harness := (true, "e2c5f55f2f593cf54bcdf85417e8f1c80d228ff0fc1ccf0fa654ea34d8d29f18"), looks := false }, kinds := [], alts := [], laidByText := true, laidKinds := [.data], laidTests := true, laidLooks := .later }
def FixedEndsCardSaid : Prop := Claim7.holds Tryd.pinned (.plain (OpenSpec.ofChange fixedEndsSpec)) fixedEndsCard

/-- THE TIED CARD OF 'watershedlaw.FixedAdjoints'. -/
def fixedAdjointsCard : Claim7 := { stood := { row := fixedAdjointsRow, standIns := [], harness := (true, "e2c5f55f2f593cf54bcdf85417e8f1c80d228ff0fc1ccf0fa654ea34d8d29f18"), looks := false }, kinds := [], alts := [], laidByText := true, laidKinds := [.data], laidTests := true, laidLooks := .later }
def FixedAdjointsCardSaid : Prop := Claim7.holds Tryd.pinned (.plain (OpenSpec.ofChange fixedAdjointsSpec)) fixedAdjointsCard

/-- THE TIED CARD OF 'watershedlaw.GraphChecks'. -/
def graphChecksCard : Claim7 := { stood := { row := graphChecksRow, standIns := [], harness := (true, "e2c5f55f2f593cf54bcdf85417e8f1c80d228ff0fc1ccf0fa654ea34d8d29f18"), looks := false }, kinds := [], alts := [], laidByText := true, laidKinds := [.data], laidTests := true, laidLooks := .later }
def GraphChecksCardSaid : Prop := Claim7.holds Tryd.pinned (.plain (OpenSpec.ofChange graphChecksSpec)) graphChecksCard

/-- THE TIED CARD OF 'watershedlaw.DownsAll'. -/
def downsAllCard : Claim7 := { stood := { row := downsAllRow, standIns := [], harness := (true, "e2c5f55f2f593cf54bcdf85417e8f1c80d228ff0fc1ccf0fa654ea34d8d29f18"), looks := false }, kinds := [], alts := [], laidByText := true, laidKinds := [.data], laidTests := true, laidLooks := .later }
def DownsAllCardSaid : Prop := Claim7.holds Tryd.pinned (.plain (OpenSpec.ofChange downsAllSpec)) downsAllCard

/-- THE TIED CARD OF 'watershedlaw.DownsInclusion'. -/
def downsInclusionCard : Claim7 := { stood := { row := downsInclusionRow, standIns := [], harness := (true, "e2c5f55f2f593cf54bcdf85417e8f1c80d228ff0fc1ccf0fa654ea34d8d29f18"), looks := false }, kinds := [], alts := [], laidByText := true, laidKinds := [.data], laidTests := true, laidLooks := .later }
def DownsInclusionCardSaid : Prop := Claim7.holds Tryd.pinned (.plain (OpenSpec.ofChange downsInclusionSpec)) downsInclusionCard

/-- THE SECOND FORM's CARD OF 'watershedlaw.MobiusSums'. -/
def mobiusSumsUptoCard : Claim7 := { stood := { row := mobiusSumsUptoRow, standIns := [], harness := (true, "e2c5f55f2f593cf54bcdf85417e8f1c80d228ff0fc1ccf0fa654ea34d8d29f18"), looks := false }, kinds := [], alts := [], laidByText := true, laidKinds := [.data], laidTests := true, laidLooks := .later }
def MobiusSumsUptoCardSaid : Prop := Claim7.holds Tryd.pinned (.plain (OpenSpec.upto mobiusSumsSpec)) mobiusSumsUptoCard

/-- THE SECOND FORM's CARD OF 'watershedlaw.MobiusInverses'. -/
def mobiusInversesUptoCard : Claim7 := { stood := { row := mobiusInversesUptoRow, standIns := [], harness := (true, "e2c5f55f2f593cf54bcdf85417e8f1c80d228ff0fc1ccf0fa654ea34d8d29f18"), looks := false }, kinds := [], alts := [], laidByText := true, laidKinds := [.data], laidTests := true, laidLooks := .later }
def MobiusInversesUptoCardSaid : Prop := Claim7.holds Tryd.pinned (.plain (OpenSpec.upto mobiusInversesSpec)) mobiusInversesUptoCard

/-- THE SECOND FORM's CARD OF 'watershedlaw.LatticeSubs'. -/
def latticeSubsUptoCard : Claim7 := { stood := { row := latticeSubsUptoRow, standIns := [], harness := (true, "e2c5f55f2f593cf54bcdf85417e8f1c80d228ff0fc1ccf0fa654ea34d8d29f18"), looks := false }, kinds := [], alts := [], laidByText := true, laidKinds := [.data], laidTests := true, laidLooks := .later }
def LatticeSubsUptoCardSaid : Prop := Claim7.holds Tryd.pinned (.plain (OpenSpec.upto latticeSubsSpec)) latticeSubsUptoCard

/-- THE SECOND FORM's CARD OF 'watershedlaw.LatticeKinds'. -/
def latticeKindsUptoCard : Claim7 := { stood := { row := latticeKindsUptoRow, standIns := [], harness := (true, "e2c5f55f2f593cf54bcdf85417e8f1c80d228ff0fc1ccf0fa654ea34d8d29f18"), looks := false }, kinds := [], alts := [], laidByText := true, laidKinds := [.data], laidTests := true, laidLooks := .later }
def LatticeKindsUptoCardSaid : Prop := Claim7.holds Tryd.pinned (.plain (OpenSpec.upto latticeKindsSpec)) latticeKindsUptoCard

/-- THE SECOND FORM's CARD OF 'watershedlaw.DownsBelow'. -/
def downsBelowUptoCard : Claim7 := { stood := { row := downsBelowUptoRow, standIns := [], harness := (true, "e2c5f55f2f593cf54bcdf85417e8f1c80d228ff0fc1ccf0fa654ea34d8d29f18"), looks := false }, kinds := [], alts := [], laidByText := true, laidKinds := [.data], laidTests := true, laidLooks := .later }
def DownsBelowUptoCardSaid : Prop := Claim7.holds Tryd.pinned (.plain (OpenSpec.upto downsBelowSpec)) downsBelowUptoCard

/-- THE SECOND FORM's CARD OF 'watershedlaw.MobiusTables'. -/
def mobiusTablesUptoCard : Claim7 := { stood := { row := mobiusTablesUptoRow, standIns := [], harness := (true, "e2c5f55f2f593cf54bcdf85417e8f1c80d228ff0fc1ccf0fa654ea34d8d29f18"), looks := false }, kinds := [], alts := [], laidByText := true, laidKinds := [.data], laidTests := true, laidLooks := .later }
def MobiusTablesUptoCardSaid : Prop := Claim7.holds Tryd.pinned (.plain (OpenSpec.upto mobiusTablesSpec)) mobiusTablesUptoCard

/-- THE SECOND FORM's CARD OF 'watershedlaw.FixedEnds'. -/
def fixedEndsUptoCard : Claim7 := { stood := { row := fixedEndsUptoRow, standIns := [], harness := (true, "e2c5f55f2f593cf54bcdf85417e8f1c80d228ff0fc1ccf0fa654ea34d8d29f18"), looks := false }, kinds := [], alts := [], laidByText := true, laidKinds := [.data], laidTests := true, laidLooks := .later }
def FixedEndsUptoCardSaid : Prop := Claim7.holds Tryd.pinned (.plain (OpenSpec.upto fixedEndsSpec)) fixedEndsUptoCard

/-- THE SECOND FORM's CARD OF 'watershedlaw.FixedAdjoints'. -/
def fixedAdjointsUptoCard : Claim7 := { stood := { row := fixedAdjointsUptoRow, standIns := [], harness := (true, "e2c5f55f2f593cf54bcdf85417e8f1c80d228ff0fc1ccf0fa654ea34d8d29f18"), looks := false }, kinds := [], alts := [], laidByText := true, laidKinds := [.data], laidTests := true, laidLooks := .later }
def FixedAdjointsUptoCardSaid : Prop := Claim7.holds Tryd.pinned (.plain (OpenSpec.upto fixedAdjointsSpec)) fixedAdjointsUptoCard

/-- THE SECOND FORM's CARD OF 'watershedlaw.GraphChecks'. -/
def graphChecksUptoCard : Claim7 := { stood := { row := graphChecksUptoRow, standIns := [], harness := (true, "e2c5f55f2f593cf54bcdf85417e8f1c80d228ff0fc1ccf0fa654ea34d8d29f18"), looks := false }, kinds := [], alts := [], laidByText := true, laidKinds := [.data], laidTests := true, laidLooks := .later }
def GraphChecksUptoCardSaid : Prop := Claim7.holds Tryd.pinned (.plain (OpenSpec.upto graphChecksSpec)) graphChecksUptoCard

/-- THE SECOND FORM's CARD OF 'watershedlaw.DownsAll'. -/
def downsAllUptoCard : Claim7 := { stood := { row := downsAllUptoRow, standIns := [], harness := (true, "e2c5f55f2f593cf54bcdf85417e8f1c80d228ff0fc1ccf0fa654ea34d8d29f18"), looks := false }, kinds := [], alts := [], laidByText := true, laidKinds := [.data], laidTests := true, laidLooks := .later }
def DownsAllUptoCardSaid : Prop := Claim7.holds Tryd.pinned (.plain (OpenSpec.upto downsAllSpec)) downsAllUptoCard

/-- THE SECOND FORM's CARD OF 'watershedlaw.DownsInclusion'. -/
def downsInclusionUptoCard : Claim7 := { stood := { row := downsInclusionUptoRow, standIns := [], harness := (true, "e2c5f55f2f593cf54bcdf85417e8f1c80d228ff0fc1ccf0fa654ea34d8d29f18"), looks := false }, kinds := [], alts := [], laidByText := true, laidKinds := [.data], laidTests := true, laidLooks := .later }
def DownsInclusionUptoCardSaid : Prop := Claim7.holds Tryd.pinned (.plain (OpenSpec.upto downsInclusionSpec)) downsInclusionUptoCard
end Rows
end Go.Proofs.YthohigdbddilmaaDoor
