/-
  No cell of these rows narrows 'for every input' (looked for: loops, veiled, ifaces, maps, wideKeys, modest, calm, conditions, laid).
  DERIVED. THE GIVEN ROWS OF THIS SEAT. 9 by the template 'for every input the law returns true; each argument reads behind the call as it read before'; 0 by the template 'total and deterministic' (their statements: YtgepgleagefmeaaTotals.lean).
  GIVEN WITH THE SEED: the statements are not yours to turn. If you find one false, say at which input.
  Laid BY PROGRAM, IN A SANDBOX (cutbox-rows.mjs): the forced cells as the released guide's own fill.sh prints them over the translation 20afc86f39112b7d… (all of the seat's roots in one cut). By AI agents, Wed Nov 11 2026. No macro, syntax, notation, axiom, sorry.
-/
import Derived.Test.YtgepgleagefmeaaChecked
import GoSem.Claim
import GoSem.ClaimJoined
import GoSem.ClaimMapViews
import Derived.JoinedTies
import Derived.KernelRfl
namespace Go.Proofs.Ytgepgleagefmeaa
/- THE CELL 'sum', in the pinned program and in every row, IS THE sha256 OF THE DUMP (.gsa) THAT YtgepgleagefmeaaProg.lean LOADS. Nothing in Lean hashes anything: it is a label: what it is worth is what the hold of that sum in a sandbox is worth. -/
noncomputable def Try.pinned : Pinned := { name := "ytgepgleagefmeaa", sum := "20afc86f39112b7d42ff4667ab4156ccc39bec82fa07f4d17a7ebf7d81a2de3e", checked := Try.checked }
namespace Rows
def none {H : Type} : Left H := { results := [], args := [] }

/-- 'watershedlaw.QueuePlays': WHATEVER THE INPUT: true; the input reads as it did. -/
def queuePlaysSpec : ChangeSpec := { name := "queuePlays", fn := fun _ => fun
  | [d1, d2, d3] => { results := [.lit (.bool true)], args := [d1, d2, d3] }
  | _ => none }
def queuePlaysRow : OpenClaim := { program := "ytgepgleagefmeaa", sum := "20afc86f39112b7d42ff4667ab4156ccc39bec82fa07f4d17a7ebf7d81a2de3e", func := "watershed/watershedlaw.QueuePlays", spec := "queuePlays", unfollowed := true, recurses := true, plainKeys := false, apart := false }
def QueuePlaysSaid : Prop := queuePlaysRow.holds Try.pinned (OpenSpec.ofChange queuePlaysSpec)

/-- ITS FALSE NEIGHBOUR: 'it returns false'. Refute it at one input. -/
def queuePlaysWrong : ChangeSpec := { name := "queuePlays", fn := fun _ => fun
  | [d1, d2, d3] => { results := [.lit (.bool false)], args := [d1, d2, d3] }
  | _ => none }
def QueuePlaysWrongFalsely : Prop := queuePlaysRow.holds Try.pinned (OpenSpec.ofChange queuePlaysWrong)

/-- 'watershedlaw.SlotsPlays': WHATEVER THE INPUT: true; the input reads as it did. -/
def slotsPlaysSpec : ChangeSpec := { name := "slotsPlays", fn := fun _ => fun
  | [d1, d2, d3] => { results := [.lit (.bool true)], args := [d1, d2, d3] }
  | _ => none }
def slotsPlaysRow : OpenClaim := { program := "ytgepgleagefmeaa", sum := "20afc86f39112b7d42ff4667ab4156ccc39bec82fa07f4d17a7ebf7d81a2de3e", func := "watershed/watershedlaw.SlotsPlays", spec := "slotsPlays", unfollowed := true, recurses := true, plainKeys := false, apart := false }
def SlotsPlaysSaid : Prop := slotsPlaysRow.holds Try.pinned (OpenSpec.ofChange slotsPlaysSpec)

/-- ITS FALSE NEIGHBOUR: 'it returns false'. Refute it at one input. -/
def slotsPlaysWrong : ChangeSpec := { name := "slotsPlays", fn := fun _ => fun
  | [d1, d2, d3] => { results := [.lit (.bool false)], args := [d1, d2, d3] }
  | _ => none }
def SlotsPlaysWrongFalsely : Prop := slotsPlaysRow.holds Try.pinned (OpenSpec.ofChange slotsPlaysWrong)

/-- 'watershedlaw.CrewShares': WHATEVER THE INPUT: true; the input reads as it did. -/
def crewSharesSpec : ChangeSpec := { name := "crewShares", fn := fun _ => fun
  | [d1, d2] => { results := [.lit (.bool true)], args := [d1, d2] }
  | _ => none }
def crewSharesRow : OpenClaim := { program := "ytgepgleagefmeaa", sum := "20afc86f39112b7d42ff4667ab4156ccc39bec82fa07f4d17a7ebf7d81a2de3e", func := "watershed/watershedlaw.CrewShares", spec := "crewShares", unfollowed := true, recurses := true, plainKeys := false, apart := false }
def CrewSharesSaid : Prop := crewSharesRow.holds Try.pinned (OpenSpec.ofChange crewSharesSpec)

/-- ITS FALSE NEIGHBOUR: 'it returns false'. Refute it at one input. -/
def crewSharesWrong : ChangeSpec := { name := "crewShares", fn := fun _ => fun
  | [d1, d2] => { results := [.lit (.bool false)], args := [d1, d2] }
  | _ => none }
def CrewSharesWrongFalsely : Prop := crewSharesRow.holds Try.pinned (OpenSpec.ofChange crewSharesWrong)

/-- 'watershedlaw.OpsPairs': WHATEVER THE INPUT: true; the input reads as it did. -/
def opsPairsSpec : ChangeSpec := { name := "opsPairs", fn := fun _ => fun
  | [d1, d2, d3] => { results := [.lit (.bool true)], args := [d1, d2, d3] }
  | _ => none }
def opsPairsRow : OpenClaim := { program := "ytgepgleagefmeaa", sum := "20afc86f39112b7d42ff4667ab4156ccc39bec82fa07f4d17a7ebf7d81a2de3e", func := "watershed/watershedlaw.OpsPairs", spec := "opsPairs", unfollowed := true, recurses := true, plainKeys := false, apart := false }
def OpsPairsSaid : Prop := opsPairsRow.holds Try.pinned (OpenSpec.ofChange opsPairsSpec)

/-- ITS FALSE NEIGHBOUR: 'it returns false'. Refute it at one input. -/
def opsPairsWrong : ChangeSpec := { name := "opsPairs", fn := fun _ => fun
  | [d1, d2, d3] => { results := [.lit (.bool false)], args := [d1, d2, d3] }
  | _ => none }
def OpsPairsWrongFalsely : Prop := opsPairsRow.holds Try.pinned (OpenSpec.ofChange opsPairsWrong)

/-- 'watershedlaw.DiffsUndoes': WHATEVER THE INPUT: true; the input reads as it did. -/
def diffsUndoesSpec : ChangeSpec := { name := "diffsUndoes", fn := fun _ => fun
  | [d] => { results := [.lit (.bool true)], args := [d] }
  | _ => none }
def diffsUndoesRow : OpenClaim := { program := "ytgepgleagefmeaa", sum := "20afc86f39112b7d42ff4667ab4156ccc39bec82fa07f4d17a7ebf7d81a2de3e", func := "watershed/watershedlaw.DiffsUndoes", spec := "diffsUndoes", unfollowed := true, recurses := true, plainKeys := false, apart := false }
def DiffsUndoesSaid : Prop := diffsUndoesRow.holds Try.pinned (OpenSpec.ofChange diffsUndoesSpec)

/-- ITS FALSE NEIGHBOUR: 'it returns false'. Refute it at one input. -/
def diffsUndoesWrong : ChangeSpec := { name := "diffsUndoes", fn := fun _ => fun
  | [d] => { results := [.lit (.bool false)], args := [d] }
  | _ => none }
def DiffsUndoesWrongFalsely : Prop := diffsUndoesRow.holds Try.pinned (OpenSpec.ofChange diffsUndoesWrong)

/-- 'watershedlaw.DiffsAdvances': WHATEVER THE INPUT: true; the input reads as it did. -/
def diffsAdvancesSpec : ChangeSpec := { name := "diffsAdvances", fn := fun _ => fun
  | [d1, d2] => { results := [.lit (.bool true)], args := [d1, d2] }
  | _ => none }
def diffsAdvancesRow : OpenClaim := { program := "ytgepgleagefmeaa", sum := "20afc86f39112b7d42ff4667ab4156ccc39bec82fa07f4d17a7ebf7d81a2de3e", func := "watershed/watershedlaw.DiffsAdvances", spec := "diffsAdvances", unfollowed := true, recurses := true, plainKeys := false, apart := false }
def DiffsAdvancesSaid : Prop := diffsAdvancesRow.holds Try.pinned (OpenSpec.ofChange diffsAdvancesSpec)

/-- ITS FALSE NEIGHBOUR: 'it returns false'. Refute it at one input. -/
def diffsAdvancesWrong : ChangeSpec := { name := "diffsAdvances", fn := fun _ => fun
  | [d1, d2] => { results := [.lit (.bool false)], args := [d1, d2] }
  | _ => none }
def DiffsAdvancesWrongFalsely : Prop := diffsAdvancesRow.holds Try.pinned (OpenSpec.ofChange diffsAdvancesWrong)

/-- 'watershedlaw.DiffsTells': WHATEVER THE INPUT: true; the input reads as it did. -/
def diffsTellsSpec : ChangeSpec := { name := "diffsTells", fn := fun _ => fun
  | [d1, d2] => { results := [.lit (.bool true)], args := [d1, d2] }
  | _ => none }
def diffsTellsRow : OpenClaim := { program := "ytgepgleagefmeaa", sum := "20afc86f39112b7d42ff4667ab4156ccc39bec82fa07f4d17a7ebf7d81a2de3e", func := "watershed/watershedlaw.DiffsTells", spec := "diffsTells", unfollowed := true, recurses := true, plainKeys := false, apart := false }
def DiffsTellsSaid : Prop := diffsTellsRow.holds Try.pinned (OpenSpec.ofChange diffsTellsSpec)

/-- ITS FALSE NEIGHBOUR: 'it returns false'. Refute it at one input. -/
def diffsTellsWrong : ChangeSpec := { name := "diffsTells", fn := fun _ => fun
  | [d1, d2] => { results := [.lit (.bool false)], args := [d1, d2] }
  | _ => none }
def DiffsTellsWrongFalsely : Prop := diffsTellsRow.holds Try.pinned (OpenSpec.ofChange diffsTellsWrong)

/-- 'watershedlaw.WirePuts': WHATEVER THE INPUT: true; the input reads as it did. -/
def wirePutsSpec : ChangeSpec := { name := "wirePuts", fn := fun _ => fun
  | [d1, d2] => { results := [.lit (.bool true)], args := [d1, d2] }
  | _ => none }
def wirePutsRow : OpenClaim := { program := "ytgepgleagefmeaa", sum := "20afc86f39112b7d42ff4667ab4156ccc39bec82fa07f4d17a7ebf7d81a2de3e", func := "watershed/watershedlaw.WirePuts", spec := "wirePuts", unfollowed := true, recurses := true, plainKeys := false, apart := false }
def WirePutsSaid : Prop := wirePutsRow.holds Try.pinned (OpenSpec.ofChange wirePutsSpec)

/-- ITS FALSE NEIGHBOUR: 'it returns false'. Refute it at one input. -/
def wirePutsWrong : ChangeSpec := { name := "wirePuts", fn := fun _ => fun
  | [d1, d2] => { results := [.lit (.bool false)], args := [d1, d2] }
  | _ => none }
def WirePutsWrongFalsely : Prop := wirePutsRow.holds Try.pinned (OpenSpec.ofChange wirePutsWrong)

/-- 'watershedlaw.WireGets': WHATEVER THE INPUT: true; the input reads as it did. -/
def wireGetsSpec : ChangeSpec := { name := "wireGets", fn := fun _ => fun
  | [d] => { results := [.lit (.bool true)], args := [d] }
  | _ => none }
def wireGetsRow : OpenClaim := { program := "ytgepgleagefmeaa", sum := "20afc86f39112b7d42ff4667ab4156ccc39bec82fa07f4d17a7ebf7d81a2de3e", func := "watershed/watershedlaw.WireGets", spec := "wireGets", unfollowed := true, recurses := true, plainKeys := false, apart := false }
def WireGetsSaid : Prop := wireGetsRow.holds Try.pinned (OpenSpec.ofChange wireGetsSpec)

/-- ITS FALSE NEIGHBOUR: 'it returns false'. Refute it at one input. -/
def wireGetsWrong : ChangeSpec := { name := "wireGets", fn := fun _ => fun
  | [d] => { results := [.lit (.bool false)], args := [d] }
  | _ => none }
def WireGetsWrongFalsely : Prop := wireGetsRow.holds Try.pinned (OpenSpec.ofChange wireGetsWrong)

/- THE SECOND FORM. 'bulk': how many values and letters a reading holds, each counted each time it is reached (what is shared counts as often as it is met; a slice's spare places count too). A statement '..UptoSaid' is the law's where the arguments, and the package variables that the reading takes, are together of bulk at most 1048576: NARROWER than '..Said'. Prove '..Said' where nothing that the law and all that it calls make is longer than what came in: it says more and counts as full. Else prove '..UptoSaid'. A law counts once. -/
mutual
def uptoBulk {H : Type} : DataW H → Nat
  | .lit (.string bytes) => bytes.length + 1
  | .lit _ => 1
  | .nil => 1
  | .ptr d => uptoBulk d + 1
  | .slice elems spare => uptoBulkAll elems + uptoBulkAll spare + 1
  | .agg parts => uptoBulkAll parts + 1
  | .iface _ d => uptoBulk d + 1
  | .map entries => uptoBulkEntries entries + 1
  | .held _ => 1
def uptoBulkAll {H : Type} : List (DataW H) → Nat
  | [] => 0
  | d :: r => uptoBulk d + uptoBulkAll r
def uptoBulkEntries {H : Type} : List (Lit × DataW H) → Nat
  | [] => 0
  | x :: r => uptoBulkEntry x + uptoBulkEntries r
def uptoBulkEntry {H : Type} : Lit × DataW H → Nat
  | (.string bytes, d) => bytes.length + uptoBulk d + 1
  | (_, d) => uptoBulk d + 1
 end
def uptoSmall : (H : Type) → List (DataW H) → Bool := fun _ ds => decide (uptoBulkAll ds ≤ 1048576)
def OpenSpec.upto (s : _root_.Go.ChangeSpec) : _root_.Go.OpenSpec := { _root_.Go.OpenSpec.ofChange s with cond := some uptoSmall }

/-- 'watershedlaw.QueuePlays', WHERE WHAT IT READS IS OF BULK AT MOST 1048576: true; the input reads as it did. -/
def queuePlaysUptoRow : OpenClaim := { program := "ytgepgleagefmeaa", sum := "20afc86f39112b7d42ff4667ab4156ccc39bec82fa07f4d17a7ebf7d81a2de3e", func := "watershed/watershedlaw.QueuePlays", spec := "queuePlays", unfollowed := true, recurses := true, plainKeys := false, apart := false, narrowed := true }
def QueuePlaysUptoSaid : Prop := queuePlaysUptoRow.holds Try.pinned (OpenSpec.upto queuePlaysSpec)

/-- 'watershedlaw.SlotsPlays', WHERE WHAT IT READS IS OF BULK AT MOST 1048576: true; the input reads as it did. -/
def slotsPlaysUptoRow : OpenClaim := { program := "ytgepgleagefmeaa", sum := "20afc86f39112b7d42ff4667ab4156ccc39bec82fa07f4d17a7ebf7d81a2de3e", func := "watershed/watershedlaw.SlotsPlays", spec := "slotsPlays", unfollowed := true, recurses := true, plainKeys := false, apart := false, narrowed := true }
def SlotsPlaysUptoSaid : Prop := slotsPlaysUptoRow.holds Try.pinned (OpenSpec.upto slotsPlaysSpec)

/-- 'watershedlaw.CrewShares', WHERE WHAT IT READS IS OF BULK AT MOST 1048576: true; the input reads as it did. -/
def crewSharesUptoRow : OpenClaim := { program := "ytgepgleagefmeaa", sum := "20afc86f39112b7d42ff4667ab4156ccc39bec82fa07f4d17a7ebf7d81a2de3e", func := "watershed/watershedlaw.CrewShares", spec := "crewShares", unfollowed := true, recurses := true, plainKeys := false, apart := false, narrowed := true }
def CrewSharesUptoSaid : Prop := crewSharesUptoRow.holds Try.pinned (OpenSpec.upto crewSharesSpec)

/-- 'watershedlaw.OpsPairs', WHERE WHAT IT READS IS OF BULK AT MOST 1048576: true; the input reads as it did. -/
def opsPairsUptoRow : OpenClaim := { program := "ytgepgleagefmeaa", sum := "20afc86f39112b7d42ff4667ab4156ccc39bec82fa07f4d17a7ebf7d81a2de3e", func := "watershed/watershedlaw.OpsPairs", spec := "opsPairs", unfollowed := true, recurses := true, plainKeys := false, apart := false, narrowed := true }
def OpsPairsUptoSaid : Prop := opsPairsUptoRow.holds Try.pinned (OpenSpec.upto opsPairsSpec)

/-- 'watershedlaw.DiffsUndoes', WHERE WHAT IT READS IS OF BULK AT MOST 1048576: true; the input reads as it did. -/
def diffsUndoesUptoRow : OpenClaim := { program := "ytgepgleagefmeaa", sum := "20afc86f39112b7d42ff4667ab4156ccc39bec82fa07f4d17a7ebf7d81a2de3e", func := "watershed/watershedlaw.DiffsUndoes", spec := "diffsUndoes", unfollowed := true, recurses := true, plainKeys := false, apart := false, narrowed := true }
def DiffsUndoesUptoSaid : Prop := diffsUndoesUptoRow.holds Try.pinned (OpenSpec.upto diffsUndoesSpec)

/-- 'watershedlaw.DiffsAdvances', WHERE WHAT IT READS IS OF BULK AT MOST 1048576: true; the input reads as it did. -/
def diffsAdvancesUptoRow : OpenClaim := { program := "ytgepgleagefmeaa", sum := "20afc86f39112b7d42ff4667ab4156ccc39bec82fa07f4d17a7ebf7d81a2de3e", func := "watershed/watershedlaw.DiffsAdvances", spec := "diffsAdvances", unfollowed := true, recurses := true, plainKeys := false, apart := false, narrowed := true }
def DiffsAdvancesUptoSaid : Prop := diffsAdvancesUptoRow.holds Try.pinned (OpenSpec.upto diffsAdvancesSpec)

/-- 'watershedlaw.DiffsTells', WHERE WHAT IT READS IS OF BULK AT MOST 1048576: true; the input reads as it did. -/
def diffsTellsUptoRow : OpenClaim := { program := "ytgepgleagefmeaa", sum := "20afc86f39112b7d42ff4667ab4156ccc39bec82fa07f4d17a7ebf7d81a2de3e", func := "watershed/watershedlaw.DiffsTells", spec := "diffsTells", unfollowed := true, recurses := true, plainKeys := false, apart := false, narrowed := true }
def DiffsTellsUptoSaid : Prop := diffsTellsUptoRow.holds Try.pinned (OpenSpec.upto diffsTellsSpec)

/-- 'watershedlaw.WirePuts', WHERE WHAT IT READS IS OF BULK AT MOST 1048576: true; the input reads as it did. -/
def wirePutsUptoRow : OpenClaim := { program := "ytgepgleagefmeaa", sum := "20afc86f39112b7d42ff4667ab4156ccc39bec82fa07f4d17a7ebf7d81a2de3e", func := "watershed/watershedlaw.WirePuts", spec := "wirePuts", unfollowed := true, recurses := true, plainKeys := false, apart := false, narrowed := true }
def WirePutsUptoSaid : Prop := wirePutsUptoRow.holds Try.pinned (OpenSpec.upto wirePutsSpec)

/-- 'watershedlaw.WireGets', WHERE WHAT IT READS IS OF BULK AT MOST 1048576: true; the input reads as it did. -/
def wireGetsUptoRow : OpenClaim := { program := "ytgepgleagefmeaa", sum := "20afc86f39112b7d42ff4667ab4156ccc39bec82fa07f4d17a7ebf7d81a2de3e", func := "watershed/watershedlaw.WireGets", spec := "wireGets", unfollowed := true, recurses := true, plainKeys := false, apart := false, narrowed := true }
def WireGetsUptoSaid : Prop := wireGetsUptoRow.holds Try.pinned (OpenSpec.upto wireGetsSpec)

end Rows
end Go.Proofs.Ytgepgleagefmeaa
