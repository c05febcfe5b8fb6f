/-
  DERIVED. GIVEN WITH THE SEED: THE CARDS: each row of YtgepgleagefmeabDoorRows.lean that lists a variable, with what it lists TIED to the program's text (the seventh form; the later family's looks); each row that meets fmt, with fmt's text TOLD by the authors' own Lean function (tested against real Go, not proved from fmt's source: count such statements apart). THE CARD IS WHAT COUNTS. Prove the row's statement (the work); the ties are given (YtgepgleagefmeabDoorTie.lean); close each card by the builder's one call (the guide's Derived/Test/ToyasCard.lean, 'card_holds'). Laid BY PROGRAM, IN A SANDBOX (cutbox-door.mjs). By AI agents, Wed Nov 11 2026. No macro, syntax, notation, axiom, sorry.
-/
import Derived.Test.YtgepgleagefmeabDoorRows
import GoSem.ClaimSeven
namespace Go.Proofs.YtgepgleagefmeabDoor
namespace Rows

/-- THE TIED CARD OF 'watershedlaw.ReachPaths'. -/
def reachPathsCard : Claim7 := { stood := { row := reachPathsRow, standIns := [], harness := (true, "3a9cbfd325f199d560caee1c65cf65b5d1443da5211e513f61592e3a5b727ac1"), looks := false }, kinds := [], alts := [], laidByText := true, laidKinds := [.data], laidTests := true, laidLooks := .later }
def ReachPathsCardSaid : Prop := Claim7.holds Tryd.pinned (.plain (OpenSpec.ofChange reachPathsSpec)) reachPathsCard

/-- THE TIED CARD OF 'watershedlaw.ReachCoulds'. -/
def reachCouldsCard : Claim7 := { stood := { row := reachCouldsRow, standIns := [], harness := (true, "3a9cbfd325f199d560caee1c65cf65b5d1443da5211e513f61592e3a5b727ac1"), looks := false }, kinds := [], alts := [], laidByText := true, laidKinds := [.data], laidTests := true, laidLooks := .later }
def ReachCouldsCardSaid : Prop := Claim7.holds Tryd.pinned (.plain (OpenSpec.ofChange reachCouldsSpec)) reachCouldsCard

/-- THE TIED CARD OF 'watershedlaw.TrackMays'. -/
def trackMaysCard : Claim7 := { stood := { row := trackMaysRow, standIns := [], harness := (true, "3a9cbfd325f199d560caee1c65cf65b5d1443da5211e513f61592e3a5b727ac1"), looks := false }, kinds := [], alts := [], laidByText := true, laidKinds := [.data], laidTests := true, laidLooks := .later }
def TrackMaysCardSaid : Prop := Claim7.holds Tryd.pinned (.plain (OpenSpec.ofChange trackMaysSpec)) trackMaysCard

/-- THE SECOND FORM's CARD OF 'watershedlaw.ReachPaths'. -/
def reachPathsUptoCard : Claim7 := { stood := { row := reachPathsUptoRow, standIns := [], harness := (true, "3a9cbfd325f199d560caee1c65cf65b5d1443da5211e513f61592e3a5b727ac1"), looks := false }, kinds := [], alts := [], laidByText := true, laidKinds := [.data], laidTests := true, laidLooks := .later }
def ReachPathsUptoCardSaid : Prop := Claim7.holds Tryd.pinned (.plain (OpenSpec.upto reachPathsSpec)) reachPathsUptoCard

/-- THE SECOND FORM's CARD OF 'watershedlaw.ReachCoulds'. -/
def reachCouldsUptoCard : Claim7 := { stood := { row := reachCouldsUptoRow, standIns := [], harness := (true, "3a9cbfd325f199d560caee1c65cf65b5d1443da5211e513f61592e3a5b727ac1"), looks := false }, kinds := [], alts := [], laidByText := true, laidKinds := [.data], laidTests := true, laidLooks := .later }
def ReachCouldsUptoCardSaid : Prop := Claim7.holds Tryd.pinned (.plain (OpenSpec.upto reachCouldsSpec)) reachCouldsUptoCard

/-- THE SECOND FORM's CARD OF 'watershedlaw.TrackMays'. -/
def trackMaysUptoCard : Claim7 := { stood := { row := trackMaysUptoRow, standIns := [], harness := (true, "3a9cbfd325f199d560caee1c65cf65b5d1443da5211e513f61592e3a5b727ac1"), looks := false }, kinds := [], alts := [], laidByText := true, laidKinds := [.data], laidTests := true, laidLooks := .later }
def TrackMaysUptoCardSaid : Prop := Claim7.holds Tryd.pinned (.plain (OpenSpec.upto trackMaysSpec)) trackMaysUptoCard
end Rows
end Go.Proofs.YtgepgleagefmeabDoor
