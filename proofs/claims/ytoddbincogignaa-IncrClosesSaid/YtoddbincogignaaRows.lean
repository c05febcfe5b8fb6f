/-
  No cell of these rows narrows 'for every input' (looked for: loops, veiled, ifaces, maps, wideKeys, modest, calm, conditions, laid).
  DERIVED. THE GIVEN ROWS OF THIS SEAT. 11 by the template 'for every input the law returns true; each argument reads behind the call as it read before'; 0 by the template 'total and deterministic' (their statements: YtoddbincogignaaTotals.lean).
  GIVEN WITH THE SEED: the statements are not yours to turn. If you find one false, say at which input.
  Laid BY PROGRAM, IN A SANDBOX (cutbox-rows.mjs): the forced cells as the released guide's own fill.sh prints them over the translation b74865baa2f70b9c… (all of the seat's roots in one cut). By AI agents, Wed Nov 11 2026. No macro, syntax, notation, axiom, sorry.
-/
import Derived.Test.YtoddbincogignaaChecked
import GoSem.Claim
import GoSem.ClaimJoined
import GoSem.ClaimMapViews
import Derived.JoinedTies
import Derived.KernelRfl
namespace Go.Proofs.Ytoddbincogignaa
/- THE CELL 'sum', in the pinned program and in every row, IS THE sha256 OF THE DUMP (.gsa) THAT YtoddbincogignaaProg.lean LOADS. Nothing in Lean hashes anything: it is a label: what it is worth is what the hold of that sum in a sandbox is worth. -/
noncomputable def Try.pinned : Pinned := { name := "ytoddbincogignaa", sum := "b74865baa2f70b9c6d1cfd07bde90d2e1f1473f9880a7b2e60a843f91d5dd50c", checked := Try.checked }
namespace Rows
def none {H : Type} : Left H := { results := [], args := [] }

/-- 'watershedlaw.SummaryFronts': WHATEVER THE INPUT: true; the input reads as it did. -/
def summaryFrontsSpec : ChangeSpec := { name := "summaryFronts", fn := fun _ => fun
  | [d] => { results := [.lit (.bool true)], args := [d] }
  | _ => none }
def summaryFrontsRow : OpenClaim := { program := "ytoddbincogignaa", sum := "b74865baa2f70b9c6d1cfd07bde90d2e1f1473f9880a7b2e60a843f91d5dd50c", func := "watershed/watershedlaw.SummaryFronts", spec := "summaryFronts", unfollowed := true, recurses := true, plainKeys := false, apart := false }
def SummaryFrontsSaid : Prop := summaryFrontsRow.holds Try.pinned (OpenSpec.ofChange summaryFrontsSpec)

/-- ITS FALSE NEIGHBOUR: 'it returns false'. Refute it at one input. -/
def summaryFrontsWrong : ChangeSpec := { name := "summaryFronts", fn := fun _ => fun
  | [d] => { results := [.lit (.bool false)], args := [d] }
  | _ => none }
def SummaryFrontsWrongFalsely : Prop := summaryFrontsRow.holds Try.pinned (OpenSpec.ofChange summaryFrontsWrong)

/-- 'watershedlaw.CountsFronts': WHATEVER THE INPUT: true; the input reads as it did. -/
def countsFrontsSpec : ChangeSpec := { name := "countsFronts", fn := fun _ => fun
  | [d1, d2] => { results := [.lit (.bool true)], args := [d1, d2] }
  | _ => none }
def countsFrontsRow : OpenClaim := { program := "ytoddbincogignaa", sum := "b74865baa2f70b9c6d1cfd07bde90d2e1f1473f9880a7b2e60a843f91d5dd50c", func := "watershed/watershedlaw.CountsFronts", spec := "countsFronts", unfollowed := true, recurses := true, plainKeys := false, apart := false }
def CountsFrontsSaid : Prop := countsFrontsRow.holds Try.pinned (OpenSpec.ofChange countsFrontsSpec)

/-- ITS FALSE NEIGHBOUR: 'it returns false'. Refute it at one input. -/
def countsFrontsWrong : ChangeSpec := { name := "countsFronts", fn := fun _ => fun
  | [d1, d2] => { results := [.lit (.bool false)], args := [d1, d2] }
  | _ => none }
def CountsFrontsWrongFalsely : Prop := countsFrontsRow.holds Try.pinned (OpenSpec.ofChange countsFrontsWrong)

/-- 'watershedlaw.TimesBefores': WHATEVER THE INPUT: true; the input reads as it did. -/
def timesBeforesSpec : ChangeSpec := { name := "timesBefores", fn := fun _ => fun
  | [d1, d2] => { results := [.lit (.bool true)], args := [d1, d2] }
  | _ => none }
def timesBeforesRow : OpenClaim := { program := "ytoddbincogignaa", sum := "b74865baa2f70b9c6d1cfd07bde90d2e1f1473f9880a7b2e60a843f91d5dd50c", func := "watershed/watershedlaw.TimesBefores", spec := "timesBefores", unfollowed := true, recurses := true, plainKeys := false, apart := false }
def TimesBeforesSaid : Prop := timesBeforesRow.holds Try.pinned (OpenSpec.ofChange timesBeforesSpec)

/-- ITS FALSE NEIGHBOUR: 'it returns false'. Refute it at one input. -/
def timesBeforesWrong : ChangeSpec := { name := "timesBefores", fn := fun _ => fun
  | [d1, d2] => { results := [.lit (.bool false)], args := [d1, d2] }
  | _ => none }
def TimesBeforesWrongFalsely : Prop := timesBeforesRow.holds Try.pinned (OpenSpec.ofChange timesBeforesWrong)

/-- 'watershedlaw.BagsTells': WHATEVER THE INPUT: true; the input reads as it did. -/
def bagsTellsSpec : ChangeSpec := { name := "bagsTells", fn := fun _ => fun
  | [d1, d2, d3] => { results := [.lit (.bool true)], args := [d1, d2, d3] }
  | _ => none }
def bagsTellsRow : OpenClaim := { program := "ytoddbincogignaa", sum := "b74865baa2f70b9c6d1cfd07bde90d2e1f1473f9880a7b2e60a843f91d5dd50c", func := "watershed/watershedlaw.BagsTells", spec := "bagsTells", unfollowed := true, recurses := true, plainKeys := false, apart := false }
def BagsTellsSaid : Prop := bagsTellsRow.holds Try.pinned (OpenSpec.ofChange bagsTellsSpec)

/-- ITS FALSE NEIGHBOUR: 'it returns false'. Refute it at one input. -/
def bagsTellsWrong : ChangeSpec := { name := "bagsTells", fn := fun _ => fun
  | [d1, d2, d3] => { results := [.lit (.bool false)], args := [d1, d2, d3] }
  | _ => none }
def BagsTellsWrongFalsely : Prop := bagsTellsRow.holds Try.pinned (OpenSpec.ofChange bagsTellsWrong)

/-- 'watershedlaw.DiffsTells': WHATEVER THE INPUT: true; the input reads as it did. -/
def diffsTellsSpec : ChangeSpec := { name := "diffsTells", fn := fun _ => fun
  | [d1, d2] => { results := [.lit (.bool true)], args := [d1, d2] }
  | _ => none }
def diffsTellsRow : OpenClaim := { program := "ytoddbincogignaa", sum := "b74865baa2f70b9c6d1cfd07bde90d2e1f1473f9880a7b2e60a843f91d5dd50c", func := "watershed/watershedlaw.DiffsTells", spec := "diffsTells", unfollowed := true, recurses := true, plainKeys := false, apart := false }
def DiffsTellsSaid : Prop := diffsTellsRow.holds Try.pinned (OpenSpec.ofChange diffsTellsSpec)

/-- ITS FALSE NEIGHBOUR: 'it returns false'. Refute it at one input. -/
def diffsTellsWrong : ChangeSpec := { name := "diffsTells", fn := fun _ => fun
  | [d1, d2] => { results := [.lit (.bool false)], args := [d1, d2] }
  | _ => none }
def DiffsTellsWrongFalsely : Prop := diffsTellsRow.holds Try.pinned (OpenSpec.ofChange diffsTellsWrong)

/-- 'watershedlaw.DiffsUndoes': WHATEVER THE INPUT: true; the input reads as it did. -/
def diffsUndoesSpec : ChangeSpec := { name := "diffsUndoes", fn := fun _ => fun
  | [d] => { results := [.lit (.bool true)], args := [d] }
  | _ => none }
def diffsUndoesRow : OpenClaim := { program := "ytoddbincogignaa", sum := "b74865baa2f70b9c6d1cfd07bde90d2e1f1473f9880a7b2e60a843f91d5dd50c", func := "watershed/watershedlaw.DiffsUndoes", spec := "diffsUndoes", unfollowed := true, recurses := true, plainKeys := false, apart := false }
def DiffsUndoesSaid : Prop := diffsUndoesRow.holds Try.pinned (OpenSpec.ofChange diffsUndoesSpec)

/-- ITS FALSE NEIGHBOUR: 'it returns false'. Refute it at one input. -/
def diffsUndoesWrong : ChangeSpec := { name := "diffsUndoes", fn := fun _ => fun
  | [d] => { results := [.lit (.bool false)], args := [d] }
  | _ => none }
def DiffsUndoesWrongFalsely : Prop := diffsUndoesRow.holds Try.pinned (OpenSpec.ofChange diffsUndoesWrong)

/-- 'watershedlaw.DiffsAdvances': WHATEVER THE INPUT: true; the input reads as it did. -/
def diffsAdvancesSpec : ChangeSpec := { name := "diffsAdvances", fn := fun _ => fun
  | [d1, d2] => { results := [.lit (.bool true)], args := [d1, d2] }
  | _ => none }
def diffsAdvancesRow : OpenClaim := { program := "ytoddbincogignaa", sum := "b74865baa2f70b9c6d1cfd07bde90d2e1f1473f9880a7b2e60a843f91d5dd50c", func := "watershed/watershedlaw.DiffsAdvances", spec := "diffsAdvances", unfollowed := true, recurses := true, plainKeys := false, apart := false }
def DiffsAdvancesSaid : Prop := diffsAdvancesRow.holds Try.pinned (OpenSpec.ofChange diffsAdvancesSpec)

/-- ITS FALSE NEIGHBOUR: 'it returns false'. Refute it at one input. -/
def diffsAdvancesWrong : ChangeSpec := { name := "diffsAdvances", fn := fun _ => fun
  | [d1, d2] => { results := [.lit (.bool false)], args := [d1, d2] }
  | _ => none }
def DiffsAdvancesWrongFalsely : Prop := diffsAdvancesRow.holds Try.pinned (OpenSpec.ofChange diffsAdvancesWrong)

/-- 'watershedlaw.OpsPairs': WHATEVER THE INPUT: true; the input reads as it did. -/
def opsPairsSpec : ChangeSpec := { name := "opsPairs", fn := fun _ => fun
  | [d1, d2, d3] => { results := [.lit (.bool true)], args := [d1, d2, d3] }
  | _ => none }
def opsPairsRow : OpenClaim := { program := "ytoddbincogignaa", sum := "b74865baa2f70b9c6d1cfd07bde90d2e1f1473f9880a7b2e60a843f91d5dd50c", func := "watershed/watershedlaw.OpsPairs", spec := "opsPairs", unfollowed := true, recurses := true, plainKeys := false, apart := false }
def OpsPairsSaid : Prop := opsPairsRow.holds Try.pinned (OpenSpec.ofChange opsPairsSpec)

/-- ITS FALSE NEIGHBOUR: 'it returns false'. Refute it at one input. -/
def opsPairsWrong : ChangeSpec := { name := "opsPairs", fn := fun _ => fun
  | [d1, d2, d3] => { results := [.lit (.bool false)], args := [d1, d2, d3] }
  | _ => none }
def OpsPairsWrongFalsely : Prop := opsPairsRow.holds Try.pinned (OpenSpec.ofChange opsPairsWrong)

/-- 'watershedlaw.OpsMakes': WHATEVER THE INPUT: true; the input reads as it did. -/
def opsMakesSpec : ChangeSpec := { name := "opsMakes", fn := fun _ => fun
  | [d1, d2] => { results := [.lit (.bool true)], args := [d1, d2] }
  | _ => none }
def opsMakesRow : OpenClaim := { program := "ytoddbincogignaa", sum := "b74865baa2f70b9c6d1cfd07bde90d2e1f1473f9880a7b2e60a843f91d5dd50c", func := "watershed/watershedlaw.OpsMakes", spec := "opsMakes", unfollowed := true, recurses := true, plainKeys := false, apart := false }
def OpsMakesSaid : Prop := opsMakesRow.holds Try.pinned (OpenSpec.ofChange opsMakesSpec)

/-- ITS FALSE NEIGHBOUR: 'it returns false'. Refute it at one input. -/
def opsMakesWrong : ChangeSpec := { name := "opsMakes", fn := fun _ => fun
  | [d1, d2] => { results := [.lit (.bool false)], args := [d1, d2] }
  | _ => none }
def OpsMakesWrongFalsely : Prop := opsMakesRow.holds Try.pinned (OpenSpec.ofChange opsMakesWrong)

/-- 'watershedlaw.IncrCloses': WHATEVER THE INPUT: true; the input reads as it did. -/
def incrClosesSpec : ChangeSpec := { name := "incrCloses", fn := fun _ => fun
  | [d] => { results := [.lit (.bool true)], args := [d] }
  | _ => none }
def incrClosesRow : OpenClaim := { program := "ytoddbincogignaa", sum := "b74865baa2f70b9c6d1cfd07bde90d2e1f1473f9880a7b2e60a843f91d5dd50c", func := "watershed/watershedlaw.IncrCloses", spec := "incrCloses", unfollowed := true, recurses := true, plainKeys := false, apart := false }
def IncrClosesSaid : Prop := incrClosesRow.holds Try.pinned (OpenSpec.ofChange incrClosesSpec)

/-- ITS FALSE NEIGHBOUR: 'it returns false'. Refute it at one input. -/
def incrClosesWrong : ChangeSpec := { name := "incrCloses", fn := fun _ => fun
  | [d] => { results := [.lit (.bool false)], args := [d] }
  | _ => none }
def IncrClosesWrongFalsely : Prop := incrClosesRow.holds Try.pinned (OpenSpec.ofChange incrClosesWrong)

/-- 'watershedlaw.LoopSteps': WHATEVER THE INPUT: true; the input reads as it did. -/
def loopStepsSpec : ChangeSpec := { name := "loopSteps", fn := fun _ => fun
  | [d1, d2] => { results := [.lit (.bool true)], args := [d1, d2] }
  | _ => none }
def loopStepsRow : OpenClaim := { program := "ytoddbincogignaa", sum := "b74865baa2f70b9c6d1cfd07bde90d2e1f1473f9880a7b2e60a843f91d5dd50c", func := "watershed/watershedlaw.LoopSteps", spec := "loopSteps", inPlace := ["maps.clone"], unfollowed := true, recurses := true, plainKeys := false, apart := false }
def LoopStepsSaid : Prop := loopStepsRow.holds Try.pinned (OpenSpec.ofChange loopStepsSpec)

/-- ITS FALSE NEIGHBOUR: 'it returns false'. Refute it at one input. -/
def loopStepsWrong : ChangeSpec := { name := "loopSteps", fn := fun _ => fun
  | [d1, d2] => { results := [.lit (.bool false)], args := [d1, d2] }
  | _ => none }
def LoopStepsWrongFalsely : Prop := loopStepsRow.holds Try.pinned (OpenSpec.ofChange loopStepsWrong)

/- THE SECOND FORM. 'bulk': how many values and letters a reading holds, each counted each time it is reached (what is shared counts as often as it is met; a slice's spare places count too). A statement '..UptoSaid' is the law's where the arguments, and the package variables that the reading takes, are together of bulk at most 1048576: NARROWER than '..Said'. Prove '..Said' where nothing that the law and all that it calls make is longer than what came in: it says more and counts as full. Else prove '..UptoSaid'. A law counts once. -/
mutual
def uptoBulk {H : Type} : DataW H → Nat
  | .lit (.string bytes) => bytes.length + 1
  | .lit _ => 1
  | .nil => 1
  | .ptr d => uptoBulk d + 1
  | .slice elems spare => uptoBulkAll elems + uptoBulkAll spare + 1
  | .agg parts => uptoBulkAll parts + 1
  | .iface _ d => uptoBulk d + 1
  | .map entries => uptoBulkEntries entries + 1
  | .held _ => 1
def uptoBulkAll {H : Type} : List (DataW H) → Nat
  | [] => 0
  | d :: r => uptoBulk d + uptoBulkAll r
def uptoBulkEntries {H : Type} : List (Lit × DataW H) → Nat
  | [] => 0
  | x :: r => uptoBulkEntry x + uptoBulkEntries r
def uptoBulkEntry {H : Type} : Lit × DataW H → Nat
  | (.string bytes, d) => bytes.length + uptoBulk d + 1
  | (_, d) => uptoBulk d + 1
 end
def uptoSmall : (H : Type) → List (DataW H) → Bool := fun _ ds => decide (uptoBulkAll ds ≤ 1048576)
def OpenSpec.upto (s : _root_.Go.ChangeSpec) : _root_.Go.OpenSpec := { _root_.Go.OpenSpec.ofChange s with cond := some uptoSmall }

/-- 'watershedlaw.SummaryFronts', WHERE WHAT IT READS IS OF BULK AT MOST 1048576: true; the input reads as it did. -/
def summaryFrontsUptoRow : OpenClaim := { program := "ytoddbincogignaa", sum := "b74865baa2f70b9c6d1cfd07bde90d2e1f1473f9880a7b2e60a843f91d5dd50c", func := "watershed/watershedlaw.SummaryFronts", spec := "summaryFronts", unfollowed := true, recurses := true, plainKeys := false, apart := false, narrowed := true }
def SummaryFrontsUptoSaid : Prop := summaryFrontsUptoRow.holds Try.pinned (OpenSpec.upto summaryFrontsSpec)

/-- 'watershedlaw.CountsFronts', WHERE WHAT IT READS IS OF BULK AT MOST 1048576: true; the input reads as it did. -/
def countsFrontsUptoRow : OpenClaim := { program := "ytoddbincogignaa", sum := "b74865baa2f70b9c6d1cfd07bde90d2e1f1473f9880a7b2e60a843f91d5dd50c", func := "watershed/watershedlaw.CountsFronts", spec := "countsFronts", unfollowed := true, recurses := true, plainKeys := false, apart := false, narrowed := true }
def CountsFrontsUptoSaid : Prop := countsFrontsUptoRow.holds Try.pinned (OpenSpec.upto countsFrontsSpec)

/-- 'watershedlaw.TimesBefores', WHERE WHAT IT READS IS OF BULK AT MOST 1048576: true; the input reads as it did. -/
def timesBeforesUptoRow : OpenClaim := { program := "ytoddbincogignaa", sum := "b74865baa2f70b9c6d1cfd07bde90d2e1f1473f9880a7b2e60a843f91d5dd50c", func := "watershed/watershedlaw.TimesBefores", spec := "timesBefores", unfollowed := true, recurses := true, plainKeys := false, apart := false, narrowed := true }
def TimesBeforesUptoSaid : Prop := timesBeforesUptoRow.holds Try.pinned (OpenSpec.upto timesBeforesSpec)

/-- 'watershedlaw.BagsTells', WHERE WHAT IT READS IS OF BULK AT MOST 1048576: true; the input reads as it did. -/
def bagsTellsUptoRow : OpenClaim := { program := "ytoddbincogignaa", sum := "b74865baa2f70b9c6d1cfd07bde90d2e1f1473f9880a7b2e60a843f91d5dd50c", func := "watershed/watershedlaw.BagsTells", spec := "bagsTells", unfollowed := true, recurses := true, plainKeys := false, apart := false, narrowed := true }
def BagsTellsUptoSaid : Prop := bagsTellsUptoRow.holds Try.pinned (OpenSpec.upto bagsTellsSpec)

/-- 'watershedlaw.DiffsTells', WHERE WHAT IT READS IS OF BULK AT MOST 1048576: true; the input reads as it did. -/
def diffsTellsUptoRow : OpenClaim := { program := "ytoddbincogignaa", sum := "b74865baa2f70b9c6d1cfd07bde90d2e1f1473f9880a7b2e60a843f91d5dd50c", func := "watershed/watershedlaw.DiffsTells", spec := "diffsTells", unfollowed := true, recurses := true, plainKeys := false, apart := false, narrowed := true }
def DiffsTellsUptoSaid : Prop := diffsTellsUptoRow.holds Try.pinned (OpenSpec.upto diffsTellsSpec)

/-- 'watershedlaw.DiffsUndoes', WHERE WHAT IT READS IS OF BULK AT MOST 1048576: true; the input reads as it did. -/
def diffsUndoesUptoRow : OpenClaim := { program := "ytoddbincogignaa", sum := "b74865baa2f70b9c6d1cfd07bde90d2e1f1473f9880a7b2e60a843f91d5dd50c", func := "watershed/watershedlaw.DiffsUndoes", spec := "diffsUndoes", unfollowed := true, recurses := true, plainKeys := false, apart := false, narrowed := true }
def DiffsUndoesUptoSaid : Prop := diffsUndoesUptoRow.holds Try.pinned (OpenSpec.upto diffsUndoesSpec)

/-- 'watershedlaw.DiffsAdvances', WHERE WHAT IT READS IS OF BULK AT MOST 1048576: true; the input reads as it did. -/
def diffsAdvancesUptoRow : OpenClaim := { program := "ytoddbincogignaa", sum := "b74865baa2f70b9c6d1cfd07bde90d2e1f1473f9880a7b2e60a843f91d5dd50c", func := "watershed/watershedlaw.DiffsAdvances", spec := "diffsAdvances", unfollowed := true, recurses := true, plainKeys := false, apart := false, narrowed := true }
def DiffsAdvancesUptoSaid : Prop := diffsAdvancesUptoRow.holds Try.pinned (OpenSpec.upto diffsAdvancesSpec)

/-- 'watershedlaw.OpsPairs', WHERE WHAT IT READS IS OF BULK AT MOST 1048576: true; the input reads as it did. -/
def opsPairsUptoRow : OpenClaim := { program := "ytoddbincogignaa", sum := "b74865baa2f70b9c6d1cfd07bde90d2e1f1473f9880a7b2e60a843f91d5dd50c", func := "watershed/watershedlaw.OpsPairs", spec := "opsPairs", unfollowed := true, recurses := true, plainKeys := false, apart := false, narrowed := true }
def OpsPairsUptoSaid : Prop := opsPairsUptoRow.holds Try.pinned (OpenSpec.upto opsPairsSpec)

/-- 'watershedlaw.OpsMakes', WHERE WHAT IT READS IS OF BULK AT MOST 1048576: true; the input reads as it did. -/
def opsMakesUptoRow : OpenClaim := { program := "ytoddbincogignaa", sum := "b74865baa2f70b9c6d1cfd07bde90d2e1f1473f9880a7b2e60a843f91d5dd50c", func := "watershed/watershedlaw.OpsMakes", spec := "opsMakes", unfollowed := true, recurses := true, plainKeys := false, apart := false, narrowed := true }
def OpsMakesUptoSaid : Prop := opsMakesUptoRow.holds Try.pinned (OpenSpec.upto opsMakesSpec)

/-- 'watershedlaw.IncrCloses', WHERE WHAT IT READS IS OF BULK AT MOST 1048576: true; the input reads as it did. -/
def incrClosesUptoRow : OpenClaim := { program := "ytoddbincogignaa", sum := "b74865baa2f70b9c6d1cfd07bde90d2e1f1473f9880a7b2e60a843f91d5dd50c", func := "watershed/watershedlaw.IncrCloses", spec := "incrCloses", unfollowed := true, recurses := true, plainKeys := false, apart := false, narrowed := true }
def IncrClosesUptoSaid : Prop := incrClosesUptoRow.holds Try.pinned (OpenSpec.upto incrClosesSpec)

/-- 'watershedlaw.LoopSteps', WHERE WHAT IT READS IS OF BULK AT MOST 1048576: true; the input reads as it did. -/
def loopStepsUptoRow : OpenClaim := { program := "ytoddbincogignaa", sum := "b74865baa2f70b9c6d1cfd07bde90d2e1f1473f9880a7b2e60a843f91d5dd50c", func := "watershed/watershedlaw.LoopSteps", spec := "loopSteps", inPlace := ["maps.clone"], unfollowed := true, recurses := true, plainKeys := false, apart := false, narrowed := true }
def LoopStepsUptoSaid : Prop := loopStepsUptoRow.holds Try.pinned (OpenSpec.upto loopStepsSpec)

end Rows
end Go.Proofs.Ytoddbincogignaa
