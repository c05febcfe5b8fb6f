/-
  DERIVED. GIVEN WITH THE SEED: THE CARDS: each row of YtammjpalmmhokaaDoorRows.lean that lists a variable, with what it lists TIED to the program's text (the seventh form; the later family's looks); each row that meets fmt, with fmt's text TOLD by the authors' own Lean function (tested against real Go, not proved from fmt's source: count such statements apart). THE CARD IS WHAT COUNTS. Prove the row's statement (the work); the ties are given (YtammjpalmmhokaaDoorTie.lean); close each card by the builder's one call (the guide's Derived/Test/ToyasCard.lean, 'card_holds'). Laid BY PROGRAM, IN A SANDBOX (cutbox-door.mjs). By AI agents, Wed Nov 11 2026. No macro, syntax, notation, axiom, sorry.
-/
import Derived.Test.YtammjpalmmhokaaDoorRows
import GoSem.ClaimSeven
namespace Go.Proofs.YtammjpalmmhokaaDoor
namespace Rows

/-- THE TIED CARD OF 'watershedlaw.GraphChecks'. -/
def graphChecksCard : Claim7 := { stood := { row := graphChecksRow, standIns := [], harness := (true, "4bab92b367a5f4300dc100c7ad48b891d1a380a874426787383f9cbadceee6dd"), looks := true }, kinds := [], alts := [], laidByText := true, laidKinds := [.data], laidTests := true, laidLooks := .later }
def GraphChecksCardSaid : Prop := Claim7.holds Tryd.pinned (.plain (OpenSpec.ofChange graphChecksSpec)) graphChecksCard

/-- THE TIED CARD OF 'watershedlaw.DownsAll'. -/
def downsAllCard : Claim7 := { stood := { row := downsAllRow, standIns := [], harness := (true, "4bab92b367a5f4300dc100c7ad48b891d1a380a874426787383f9cbadceee6dd"), looks := true }, kinds := [], alts := [], laidByText := true, laidKinds := [.data], laidTests := true, laidLooks := .later }
def DownsAllCardSaid : Prop := Claim7.holds Tryd.pinned (.plain (OpenSpec.ofChange downsAllSpec)) downsAllCard

/-- THE TIED CARD OF 'watershedlaw.DownsInclusion'. -/
def downsInclusionCard : Claim7 := { stood := { row := downsInclusionRow, standIns := [], harness := (true, "4bab92b367a5f4300dc100c7ad48b891d1a380a874426787383f9cbadceee6dd"), looks := true }, kinds := [], alts := [], laidByText := true, laidKinds := [.data], laidTests := true, laidLooks := .later }
def DownsInclusionCardSaid : Prop := Claim7.holds Tryd.pinned (.plain (OpenSpec.ofChange downsInclusionSpec)) downsInclusionCard

/-- THE TIED CARD OF 'watershedlaw.GraphRanks'. -/
def graphRanksCard : Claim7 := { stood := { row := graphRanksRow, standIns := [], harness := (true, "4bab92b367a5f4300dc100c7ad48b891d1a380a874426787383f9cbadceee6dd"), looks := true }, kinds := [], alts := [], laidByText := true, laidKinds := [.data], laidTests := true, laidLooks := .later }
def GraphRanksCardSaid : Prop := Claim7.holds Tryd.pinned (.plain (OpenSpec.ofChange graphRanksSpec)) graphRanksCard

/-- THE TIED CARD OF 'watershedlaw.PolicyPlays'. -/
def policyPlaysCard : Claim7 := { stood := { row := policyPlaysRow, standIns := [], harness := (true, "4bab92b367a5f4300dc100c7ad48b891d1a380a874426787383f9cbadceee6dd"), looks := true }, kinds := [], alts := [], laidByText := true, laidKinds := [.data, .handle], laidTests := true, laidLooks := .later }
def PolicyPlaysCardSaid : Prop := Claim7.holds Tryd.pinned (.plain (OpenSpec.ofChange policyPlaysSpec)) policyPlaysCard

/-- THE TIED CARD OF 'watershedlaw.LabelsInfers'. -/
def labelsInfersCard : Claim7 := { stood := { row := labelsInfersRow, standIns := [], harness := (true, "4bab92b367a5f4300dc100c7ad48b891d1a380a874426787383f9cbadceee6dd"), looks := true }, kinds := [], alts := [], laidByText := true, laidKinds := [.data], laidTests := true, laidLooks := .later }
def LabelsInfersCardSaid : Prop := Claim7.holds Tryd.pinned (.plain (OpenSpec.ofChange labelsInfersSpec)) labelsInfersCard

/-- THE TIED CARD OF 'watershedlaw.LabelsTells'. -/
def labelsTellsCard : Claim7 := { stood := { row := labelsTellsRow, standIns := [], harness := (true, "4bab92b367a5f4300dc100c7ad48b891d1a380a874426787383f9cbadceee6dd"), looks := true }, kinds := [], alts := [], laidByText := true, laidKinds := [.data], laidTests := true, laidLooks := .later }
def LabelsTellsCardSaid : Prop := Claim7.holds Tryd.pinned (.plain (OpenSpec.ofChange labelsTellsSpec)) labelsTellsCard

/-- THE SECOND FORM's CARD OF 'watershedlaw.GraphChecks'. -/
def graphChecksUptoCard : Claim7 := { stood := { row := graphChecksUptoRow, standIns := [], harness := (true, "4bab92b367a5f4300dc100c7ad48b891d1a380a874426787383f9cbadceee6dd"), looks := true }, kinds := [], alts := [], laidByText := true, laidKinds := [.data], laidTests := true, laidLooks := .later }
def GraphChecksUptoCardSaid : Prop := Claim7.holds Tryd.pinned (.plain (OpenSpec.upto graphChecksSpec)) graphChecksUptoCard

/-- THE SECOND FORM's CARD OF 'watershedlaw.DownsAll'. -/
def downsAllUptoCard : Claim7 := { stood := { row := downsAllUptoRow, standIns := [], harness := (true, "4bab92b367a5f4300dc100c7ad48b891d1a380a874426787383f9cbadceee6dd"), looks := true }, kinds := [], alts := [], laidByText := true, laidKinds := [.data], laidTests := true, laidLooks := .later }
def DownsAllUptoCardSaid : Prop := Claim7.holds Tryd.pinned (.plain (OpenSpec.upto downsAllSpec)) downsAllUptoCard

/-- THE SECOND FORM's CARD OF 'watershedlaw.DownsInclusion'. -/
def downsInclusionUptoCard : Claim7 := { stood := { row := downsInclusionUptoRow, standIns := [], harness := (true, "4bab92b367a5f4300dc100c7ad48b891d1a380a874426787383f9cbadceee6dd"), looks := true }, kinds := [], alts := [], laidByText := true, laidKinds := [.data], laidTests := true, laidLooks := .later }
def DownsInclusionUptoCardSaid : Prop := Claim7.holds Tryd.pinned (.plain (OpenSpec.upto downsInclusionSpec)) downsInclusionUptoCard

/-- THE SECOND FORM's CARD OF 'watershedlaw.GraphRanks'. -/
def graphRanksUptoCard : Claim7 := { stood := { row := graphRanksUptoRow, standIns := [], harness := (true, "4bab92b367a5f4300dc100c7ad48b891d1a380a874426787383f9cbadceee6dd"), looks := true }, kinds := [], alts := [], laidByText := true, laidKinds := [.data], laidTests := true, laidLooks := .later }
def GraphRanksUptoCardSaid : Prop := Claim7.holds Tryd.pinned (.plain (OpenSpec.upto graphRanksSpec)) graphRanksUptoCard

/-- THE SECOND FORM's CARD OF 'watershedlaw.PolicyPlays'. -/
def policyPlaysUptoCard : Claim7 := { stood := { row := policyPlaysUptoRow, standIns := [], harness := (true, "4bab92b367a5f4300dc100c7ad48b891d1a380a874426787383f9cbadceee6dd"), looks := true }, kinds := [], alts := [], laidByText := true, laidKinds := [.data, .handle], laidTests := true, laidLooks := .later }
def PolicyPlaysUptoCardSaid : Prop := Claim7.holds Tryd.pinned (.plain (OpenSpec.upto policyPlaysSpec)) policyPlaysUptoCard

/-- THE SECOND FORM's CARD OF 'watershedlaw.LabelsInfers'. -/
def labelsInfersUptoCard : Claim7 := { stood := { row := labelsInfersUptoRow, standIns := [], harness := (true, "4bab92b367a5f4300dc100c7ad48b891d1a380a874426787383f9cbadceee6dd"), looks := true }, kinds := [], alts := [], laidByText := true, laidKinds := [.data], laidTests := true, laidLooks := .later }
def LabelsInfersUptoCardSaid : Prop := Claim7.holds Tryd.pinned (.plain (OpenSpec.upto labelsInfersSpec)) labelsInfersUptoCard

/-- THE SECOND FORM's CARD OF 'watershedlaw.LabelsTells'. -/
def labelsTellsUptoCard : Claim7 := { stood := { row := labelsTellsUptoRow, standIns := [], harness := (true, "4bab92b367a5f4300dc100c7ad48b891d1a380a874426787383f9cbadceee6dd"), looks := true }, kinds := [], alts := [], laidByText := true, laidKinds := [.data], laidTests := true, laidLooks := .later }
def LabelsTellsUptoCardSaid : Prop := Claim7.holds Tryd.pinned (.plain (OpenSpec.upto labelsTellsSpec)) labelsTellsUptoCard
end Rows
end Go.Proofs.YtammjpalmmhokaaDoor
