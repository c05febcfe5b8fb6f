/-
  DERIVED. GIVEN WITH THE SEED: THE CARDS: each row of YtofcpghoogaglaaDoorRows.lean that lists a variable, with what it lists TIED to the program's text (the seventh form; the later family's looks); each row that meets fmt, with fmt's text TOLD by the authors' own Lean function (tested against real Go, not proved from fmt's source: count such statements apart). THE CARD IS WHAT COUNTS. Prove the row's statement (the work); the ties are given (YtofcpghoogaglaaDoorTie.lean); close each card by the builder's one call (the guide's Derived/Test/ToyasCard.lean, 'card_holds'). Laid BY PROGRAM, IN A SANDBOX (cutbox-door.mjs). By AI agents, Wed Nov 11 2026. No macro, syntax, notation, axiom, sorry.
-/
import Derived.Test.YtofcpghoogaglaaDoorRows
import GoSem.ClaimSeven
namespace Go.Proofs.YtofcpghoogaglaaDoor
namespace Rows

/-- THE TIED CARD OF 'watershedlaw.OrderMakes'. -/
def orderMakesCard : Claim7 := { stood := { row := orderMakesRow, standIns := [], harness := (true, "575d45e31cee6a3bd6784ceb62133218e6e32cfe5c07eb9bfbdc43d046bc6418"), looks := false }, kinds := [], alts := [], laidByText := true, laidKinds := [.data], laidTests := true, laidLooks := .later }
def OrderMakesCardSaid : Prop := Claim7.holds Tryd.pinned (.plain (OpenSpec.ofChange orderMakesSpec)) orderMakesCard

/-- THE TIED CARD OF 'watershedlaw.OrderChecks'. -/
def orderChecksCard : Claim7 := { stood := { row := orderChecksRow, standIns := [], harness := (true, "575d45e31cee6a3bd6784ceb62133218e6e32cfe5c07eb9bfbdc43d046bc6418"), looks := false }, kinds := [], alts := [], laidByText := true, laidKinds := [.data], laidTests := true, laidLooks := .later }
def OrderChecksCardSaid : Prop := Claim7.holds Tryd.pinned (.plain (OpenSpec.ofChange orderChecksSpec)) orderChecksCard

/-- THE TIED CARD OF 'watershedlaw.OrderCovers'. -/
def orderCoversCard : Claim7 := { stood := { row := orderCoversRow, standIns := [], harness := (true, "575d45e31cee6a3bd6784ceb62133218e6e32cfe5c07eb9bfbdc43d046bc6418"), looks := false }, kinds := [], alts := [], laidByText := true, laidKinds := [.data], laidTests := true, laidLooks := .later }
def OrderCoversCardSaid : Prop := Claim7.holds Tryd.pinned (.plain (OpenSpec.ofChange orderCoversSpec)) orderCoversCard

/-- THE TIED CARD OF 'watershedlaw.PolarTells'. -/
def polarTellsCard : Claim7 := { stood := { row := polarTellsRow, standIns := [], harness := (true, "575d45e31cee6a3bd6784ceb62133218e6e32cfe5c07eb9bfbdc43d046bc6418"), looks := false }, kinds := [], alts := [], laidByText := true, laidKinds := [.data], laidTests := true, laidLooks := .later }
def PolarTellsCardSaid : Prop := Claim7.holds Tryd.pinned (.plain (OpenSpec.ofChange polarTellsSpec)) polarTellsCard

/-- THE TIED CARD OF 'watershedlaw.MobiusChains'. -/
def mobiusChainsCard : Claim7 := { stood := { row := mobiusChainsRow, standIns := [], harness := (true, "575d45e31cee6a3bd6784ceb62133218e6e32cfe5c07eb9bfbdc43d046bc6418"), looks := false }, kinds := [], alts := [], laidByText := true, laidKinds := [.data], laidTests := true, laidLooks := .later }
def MobiusChainsCardSaid : Prop := Claim7.holds Tryd.pinned (.plain (OpenSpec.ofChange mobiusChainsSpec)) mobiusChainsCard

/-- THE TIED CARD OF 'watershedlaw.OrderSorts'. -/
def orderSortsCard : Claim7 := { stood := { row := orderSortsRow, standIns := [], harness := (true, "575d45e31cee6a3bd6784ceb62133218e6e32cfe5c07eb9bfbdc43d046bc6418"), looks := false }, kinds := [], alts := [], laidByText := true, laidKinds := [.data], laidTests := true, laidLooks := .later }
def OrderSortsCardSaid : Prop := Claim7.holds Tryd.pinned (.plain (OpenSpec.ofChange orderSortsSpec)) orderSortsCard

/-- THE TIED CARD OF 'watershedlaw.MobiusTimes'. -/
def mobiusTimesCard : Claim7 := { stood := { row := mobiusTimesRow, standIns := [], harness := (true, "575d45e31cee6a3bd6784ceb62133218e6e32cfe5c07eb9bfbdc43d046bc6418"), looks := false }, kinds := [], alts := [], laidByText := true, laidKinds := [.data], laidTests := true, laidLooks := .later }
def MobiusTimesCardSaid : Prop := Claim7.holds Tryd.pinned (.plain (OpenSpec.ofChange mobiusTimesSpec)) mobiusTimesCard

/-- THE TIED CARD OF 'watershedlaw.FixedTells'. -/
def fixedTellsCard : Claim7 := { stood := { row := fixedTellsRow, standIns := [], harness := (true, "575d45e31cee6a3bd6784ceb62133218e6e32cfe5c07eb9bfbdc43d046bc6418"), looks := false }, kinds := [], alts := [], laidByText := true, laidKinds := [.data], laidTests := true, laidLooks := .later }
def FixedTellsCardSaid : Prop := Claim7.holds Tryd.pinned (.plain (OpenSpec.ofChange fixedTellsSpec)) fixedTellsCard

/-- THE TIED CARD OF 'watershedlaw.LatticeMakes'. -/
def latticeMakesCard : Claim7 := { stood := { row := latticeMakesRow, standIns := [], harness := (true, "575d45e31cee6a3bd6784ceb62133218e6e32cfe5c07eb9bfbdc43d046bc6418"), looks := false }, kinds := [], alts := [], laidByText := true, laidKinds := [.data], laidTests := true, laidLooks := .later }
def LatticeMakesCardSaid : Prop := Claim7.holds Tryd.pinned (.plain (OpenSpec.ofChange latticeMakesSpec)) latticeMakesCard

/-- THE TIED CARD OF 'watershedlaw.DownsTells'. -/
def downsTellsCard : Claim7 := { stood := { row := downsTellsRow, standIns := [], harness := (true, "575d45e31cee6a3bd6784ceb62133218e6e32cfe5c07eb9bfbdc43d046bc6418"), looks := false }, kinds := [], alts := [], laidByText := true, laidKinds := [.data], laidTests := true, laidLooks := .later }
def DownsTellsCardSaid : Prop := Claim7.holds Tryd.pinned (.plain (OpenSpec.ofChange downsTellsSpec)) downsTellsCard

/-- THE TIED CARD OF 'watershedlaw.OrderChains'. -/
def orderChainsCard : Claim7 := { stood := { row := orderChainsRow, standIns := [], harness := (true, "575d45e31cee6a3bd6784ceb62133218e6e32cfe5c07eb9bfbdc43d046bc6418"), looks := false }, kinds := [], alts := [], laidByText := true, laidKinds := [.data], laidTests := true, laidLooks := .later }
def OrderChainsCardSaid : Prop := Claim7.holds Tryd.pinned (.plain (OpenSpec.ofChange orderChainsSpec)) orderChainsCard

/-- THE TIED CARD OF 'watershedlaw.LatticeIrreducible'. -/
def latticeIrreducibleCard : Claim7 := { stood := { row := latticeIrreducibleRow, standIns := [], harness := (true, "575d45e31cee6a3bd6784ceb62133218e6e32cfe5c07eb9bfbdc43d046bc6418"), looks := false }, kinds := [], alts := [], laidByText := true, laidKinds := [.data], laidTests := true, laidLooks := .later }
def LatticeIrreducibleCardSaid : Prop := Claim7.holds Tryd.pinned (.plain (OpenSpec.ofChange latticeIrreducibleSpec)) latticeIrreducibleCard

/-- THE SECOND FORM's CARD OF 'watershedlaw.OrderMakes'. -/
def orderMakesUptoCard : Claim7 := { stood := { row := orderMakesUptoRow, standIns := [], harness := (true, "575d45e31cee6a3bd6784ceb62133218e6e32cfe5c07eb9bfbdc43d046bc6418"), looks := false }, kinds := [], alts := [], laidByText := true, laidKinds := [.data], laidTests := true, laidLooks := .later }
def OrderMakesUptoCardSaid : Prop := Claim7.holds Tryd.pinned (.plain (OpenSpec.upto orderMakesSpec)) orderMakesUptoCard

/-- THE SECOND FORM's CARD OF 'watershedlaw.OrderChecks'. -/
def orderChecksUptoCard : Claim7 := { stood := { row := orderChecksUptoRow, standIns := [], harness := (true, "575d45e31cee6a3bd6784ceb62133218e6e32cfe5c07eb9bfbdc43d046bc6418"), looks := false }, kinds := [], alts := [], laidByText := true, laidKinds := [.data], laidTests := true, laidLooks := .later }
def OrderChecksUptoCardSaid : Prop := Claim7.holds Tryd.pinned (.plain (OpenSpec.upto orderChecksSpec)) orderChecksUptoCard

/-- THE SECOND FORM's CARD OF 'watershedlaw.OrderCovers'. -/
def orderCoversUptoCard : Claim7 := { stood := { row := orderCoversUptoRow, standIns := [], harness := (true, "575d45e31cee6a3bd6784ceb62133218e6e32cfe5c07eb9bfbdc43d046bc6418"), looks := false }, kinds := [], alts := [], laidByText := true, laidKinds := [.data], laidTests := true, laidLooks := .later }
def OrderCoversUptoCardSaid : Prop := Claim7.holds Tryd.pinned (.plain (OpenSpec.upto orderCoversSpec)) orderCoversUptoCard

/-- THE SECOND FORM's CARD OF 'watershedlaw.PolarTells'. -/
def polarTellsUptoCard : Claim7 := { stood := { row := polarTellsUptoRow, standIns := [], harness := (true, "575d45e31cee6a3bd6784ceb62133218e6e32cfe5c07eb9bfbdc43d046bc6418"), looks := false }, kinds := [], alts := [], laidByText := true, laidKinds := [.data], laidTests := true, laidLooks := .later }
def PolarTellsUptoCardSaid : Prop := Claim7.holds Tryd.pinned (.plain (OpenSpec.upto polarTellsSpec)) polarTellsUptoCard

/-- THE SECOND FORM's CARD OF 'watershedlaw.MobiusChains'. -/
def mobiusChainsUptoCard : Claim7 := { stood := { row := mobiusChainsUptoRow, standIns := [], harness := (true, "575d45e31cee6a3bd6784ceb62133218e6e32cfe5c07eb9bfbdc43d046bc6418"), looks := false }, kinds := [], alts := [], laidByText := true, laidKinds := [.data], laidTests := true, laidLooks := .later }
def MobiusChainsUptoCardSaid : Prop := Claim7.holds Tryd.pinned (.plain (OpenSpec.upto mobiusChainsSpec)) mobiusChainsUptoCard

/-- THE SECOND FORM's CARD OF 'watershedlaw.OrderSorts'. -/
def orderSortsUptoCard : Claim7 := { stood := { row := orderSortsUptoRow, standIns := [], harness := (true, "575d45e31cee6a3bd6784ceb62133218e6e32cfe5c07eb9bfbdc43d046bc6418"), looks := false }, kinds := [], alts := [], laidByText := true, laidKinds := [.data], laidTests := true, laidLooks := .later }
def OrderSortsUptoCardSaid : Prop := Claim7.holds Tryd.pinned (.plain (OpenSpec.upto orderSortsSpec)) orderSortsUptoCard

/-- THE SECOND FORM's CARD OF 'watershedlaw.MobiusTimes'. -/
def mobiusTimesUptoCard : Claim7 := { stood := { row := mobiusTimesUptoRow, standIns := [], harness := (true, "575d45e31cee6a3bd6784ceb62133218e6e32cfe5c07eb9bfbdc43d046bc6418"), looks := false }, kinds := [], alts := [], laidByText := true, laidKinds := [.data], laidTests := true, laidLooks := .later }
def MobiusTimesUptoCardSaid : Prop := Claim7.holds Tryd.pinned (.plain (OpenSpec.upto mobiusTimesSpec)) mobiusTimesUptoCard

/-- THE SECOND FORM's CARD OF 'watershedlaw.FixedTells'. -/
def fixedTellsUptoCard : Claim7 := { stood := { row := fixedTellsUptoRow, standIns := [], harness := (true, "575d45e31cee6a3bd6784ceb62133218e6e32cfe5c07eb9bfbdc43d046bc6418"), looks := false }, kinds := [], alts := [], laidByText := true, laidKinds := [.data], laidTests := true, laidLooks := .later }
def FixedTellsUptoCardSaid : Prop := Claim7.holds Tryd.pinned (.plain (OpenSpec.upto fixedTellsSpec)) fixedTellsUptoCard

/-- THE SECOND FORM's CARD OF 'watershedlaw.LatticeMakes'. -/
def latticeMakesUptoCard : Claim7 := { stood := { row := latticeMakesUptoRow, standIns := [], harness := (true, "575d45e31cee6a3bd6784ceb62133218e6e32cfe5c07eb9bfbdc43d046bc6418"), looks := false }, kinds := [], alts := [], laidByText := true, laidKinds := [.data], laidTests := true, laidLooks := .later }
def LatticeMakesUptoCardSaid : Prop := Claim7.holds Tryd.pinned (.plain (OpenSpec.upto latticeMakesSpec)) latticeMakesUptoCard

/-- THE SECOND FORM's CARD OF 'watershedlaw.DownsTells'. -/
def downsTellsUptoCard : Claim7 := { stood := { row := downsTellsUptoRow, standIns := [], harness := (true, "575d45e31cee6a3bd6784ceb62133218e6e32cfe5c07eb9bfbdc43d046bc6418"), looks := false }, kinds := [], alts := [], laidByText := true, laidKinds := [.data], laidTests := true, laidLooks := .later }
def DownsTellsUptoCardSaid : Prop := Claim7.holds Tryd.pinned (.plain (OpenSpec.upto downsTellsSpec)) downsTellsUptoCard

/-- THE SECOND FORM's CARD OF 'watershedlaw.OrderChains'. -/
def orderChainsUptoCard : Claim7 := { stood := { row := orderChainsUptoRow, standIns := [], harness := (true, "575d45e31cee6a3bd6784ceb62133218e6e32cfe5c07eb9bfbdc43d046bc6418"), looks := false }, kinds := [], alts := [], laidByText := true, laidKinds := [.data], laidTests := true, laidLooks := .later }
def OrderChainsUptoCardSaid : Prop := Claim7.holds Tryd.pinned (.plain (OpenSpec.upto orderChainsSpec)) orderChainsUptoCard

/-- THE SECOND FORM's CARD OF 'watershedlaw.LatticeIrreducible'. -/
def latticeIrreducibleUptoCard : Claim7 := { stood := { row := latticeIrreducibleUptoRow, standIns := [], harness := (true, "575d45e31cee6a3bd6784ceb62133218e6e32cfe5c07eb9bfbdc43d046bc6418"), looks := false }, kinds := [], alts := [], laidByText := true, laidKinds := [.data], laidTests := true, laidLooks := .later }
def LatticeIrreducibleUptoCardSaid : Prop := Claim7.holds Tryd.pinned (.plain (OpenSpec.upto latticeIrreducibleSpec)) latticeIrreducibleUptoCard
end Rows
end Go.Proofs.YtofcpghoogaglaaDoor
