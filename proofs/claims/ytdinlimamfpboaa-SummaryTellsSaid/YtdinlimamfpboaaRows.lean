/-
  No cell of these rows narrows 'for every input' (looked for: loops, veiled, ifaces, maps, wideKeys, modest, calm, conditions, laid).
  DERIVED. THE GIVEN ROWS OF THIS SEAT. 6 by the template 'for every input the law returns true; each argument reads behind the call as it read before'; 0 by the template 'total and deterministic' (their statements: YtdinlimamfpboaaTotals.lean).
  GIVEN WITH THE SEED: the statements are not yours to turn. If you find one false, say at which input.
  Laid BY PROGRAM, IN A SANDBOX (cutbox-rows.mjs): the forced cells as the released guide's own fill.sh prints them over the translation 3312befd67fc32b9… (all of the seat's roots in one cut). By AI agents, Wed Nov 11 2026. No macro, syntax, notation, axiom, sorry.
-/
import Derived.Test.YtdinlimamfpboaaChecked
import GoSem.Claim
import GoSem.ClaimJoined
import GoSem.ClaimMapViews
import Derived.JoinedTies
import Derived.KernelRfl
namespace Go.Proofs.Ytdinlimamfpboaa
/- THE CELL 'sum', in the pinned program and in every row, IS THE sha256 OF THE DUMP (.gsa) THAT YtdinlimamfpboaaProg.lean LOADS. Nothing in Lean hashes anything: it is a label: what it is worth is what the hold of that sum in a sandbox is worth. -/
noncomputable def Try.pinned : Pinned := { name := "ytdinlimamfpboaa", sum := "3312befd67fc32b9aed3bb6f7ddc30e19d1eba7e5d121281748a33b18efd3074", checked := Try.checked }
namespace Rows
def none {H : Type} : Left H := { results := [], args := [] }

/-- 'watershedlaw.GraphSums': WHATEVER THE INPUT: true; the input reads as it did. -/
def graphSumsSpec : ChangeSpec := { name := "graphSums", fn := fun _ => fun
  | [d] => { results := [.lit (.bool true)], args := [d] }
  | _ => none }
def graphSumsRow : OpenClaim := { program := "ytdinlimamfpboaa", sum := "3312befd67fc32b9aed3bb6f7ddc30e19d1eba7e5d121281748a33b18efd3074", func := "watershed/watershedlaw.GraphSums", spec := "graphSums", apart := false }
def GraphSumsSaid : Prop := graphSumsRow.holds Try.pinned (OpenSpec.ofChange graphSumsSpec)

/-- ITS FALSE NEIGHBOUR: 'it returns false'. Refute it at one input. -/
def graphSumsWrong : ChangeSpec := { name := "graphSums", fn := fun _ => fun
  | [d] => { results := [.lit (.bool false)], args := [d] }
  | _ => none }
def GraphSumsWrongFalsely : Prop := graphSumsRow.holds Try.pinned (OpenSpec.ofChange graphSumsWrong)

/-- 'watershedlaw.SummaryTells': WHATEVER THE INPUT: true; the input reads as it did. -/
def summaryTellsSpec : ChangeSpec := { name := "summaryTells", fn := fun _ => fun
  | [d1, d2, d3] => { results := [.lit (.bool true)], args := [d1, d2, d3] }
  | _ => none }
def summaryTellsRow : OpenClaim := { program := "ytdinlimamfpboaa", sum := "3312befd67fc32b9aed3bb6f7ddc30e19d1eba7e5d121281748a33b18efd3074", func := "watershed/watershedlaw.SummaryTells", spec := "summaryTells", apart := false }
def SummaryTellsSaid : Prop := summaryTellsRow.holds Try.pinned (OpenSpec.ofChange summaryTellsSpec)

/-- ITS FALSE NEIGHBOUR: 'it returns false'. Refute it at one input. -/
def summaryTellsWrong : ChangeSpec := { name := "summaryTells", fn := fun _ => fun
  | [d1, d2, d3] => { results := [.lit (.bool false)], args := [d1, d2, d3] }
  | _ => none }
def SummaryTellsWrongFalsely : Prop := summaryTellsRow.holds Try.pinned (OpenSpec.ofChange summaryTellsWrong)

/-- 'watershedlaw.QueuePlays': WHATEVER THE INPUT: true; the input reads as it did. -/
def queuePlaysSpec : ChangeSpec := { name := "queuePlays", fn := fun _ => fun
  | [d1, d2, d3] => { results := [.lit (.bool true)], args := [d1, d2, d3] }
  | _ => none }
def queuePlaysRow : OpenClaim := { program := "ytdinlimamfpboaa", sum := "3312befd67fc32b9aed3bb6f7ddc30e19d1eba7e5d121281748a33b18efd3074", func := "watershed/watershedlaw.QueuePlays", spec := "queuePlays", unfollowed := true, recurses := true, apart := false }
def QueuePlaysSaid : Prop := queuePlaysRow.holds Try.pinned (OpenSpec.ofChange queuePlaysSpec)

/-- ITS FALSE NEIGHBOUR: 'it returns false'. Refute it at one input. -/
def queuePlaysWrong : ChangeSpec := { name := "queuePlays", fn := fun _ => fun
  | [d1, d2, d3] => { results := [.lit (.bool false)], args := [d1, d2, d3] }
  | _ => none }
def QueuePlaysWrongFalsely : Prop := queuePlaysRow.holds Try.pinned (OpenSpec.ofChange queuePlaysWrong)

/-- 'watershedlaw.SummaryThens': WHATEVER THE INPUT: true; the input reads as it did. -/
def summaryThensSpec : ChangeSpec := { name := "summaryThens", fn := fun _ => fun
  | [d1, d2] => { results := [.lit (.bool true)], args := [d1, d2] }
  | _ => none }
def summaryThensRow : OpenClaim := { program := "ytdinlimamfpboaa", sum := "3312befd67fc32b9aed3bb6f7ddc30e19d1eba7e5d121281748a33b18efd3074", func := "watershed/watershedlaw.SummaryThens", spec := "summaryThens", apart := false }
def SummaryThensSaid : Prop := summaryThensRow.holds Try.pinned (OpenSpec.ofChange summaryThensSpec)

/-- ITS FALSE NEIGHBOUR: 'it returns false'. Refute it at one input. -/
def summaryThensWrong : ChangeSpec := { name := "summaryThens", fn := fun _ => fun
  | [d1, d2] => { results := [.lit (.bool false)], args := [d1, d2] }
  | _ => none }
def SummaryThensWrongFalsely : Prop := summaryThensRow.holds Try.pinned (OpenSpec.ofChange summaryThensWrong)

/-- 'watershedlaw.SlotsPlays': WHATEVER THE INPUT: true; the input reads as it did. -/
def slotsPlaysSpec : ChangeSpec := { name := "slotsPlays", fn := fun _ => fun
  | [d1, d2, d3] => { results := [.lit (.bool true)], args := [d1, d2, d3] }
  | _ => none }
def slotsPlaysRow : OpenClaim := { program := "ytdinlimamfpboaa", sum := "3312befd67fc32b9aed3bb6f7ddc30e19d1eba7e5d121281748a33b18efd3074", func := "watershed/watershedlaw.SlotsPlays", spec := "slotsPlays", unfollowed := true, recurses := true, apart := false }
def SlotsPlaysSaid : Prop := slotsPlaysRow.holds Try.pinned (OpenSpec.ofChange slotsPlaysSpec)

/-- ITS FALSE NEIGHBOUR: 'it returns false'. Refute it at one input. -/
def slotsPlaysWrong : ChangeSpec := { name := "slotsPlays", fn := fun _ => fun
  | [d1, d2, d3] => { results := [.lit (.bool false)], args := [d1, d2, d3] }
  | _ => none }
def SlotsPlaysWrongFalsely : Prop := slotsPlaysRow.holds Try.pinned (OpenSpec.ofChange slotsPlaysWrong)

/-- 'watershedlaw.TimesTells': WHATEVER THE INPUT: true; the input reads as it did. -/
def timesTellsSpec : ChangeSpec := { name := "timesTells", fn := fun _ => fun
  | [d1, d2] => { results := [.lit (.bool true)], args := [d1, d2] }
  | _ => none }
def timesTellsRow : OpenClaim := { program := "ytdinlimamfpboaa", sum := "3312befd67fc32b9aed3bb6f7ddc30e19d1eba7e5d121281748a33b18efd3074", func := "watershed/watershedlaw.TimesTells", spec := "timesTells", unfollowed := true, recurses := true, apart := false }
def TimesTellsSaid : Prop := timesTellsRow.holds Try.pinned (OpenSpec.ofChange timesTellsSpec)

/-- ITS FALSE NEIGHBOUR: 'it returns false'. Refute it at one input. -/
def timesTellsWrong : ChangeSpec := { name := "timesTells", fn := fun _ => fun
  | [d1, d2] => { results := [.lit (.bool false)], args := [d1, d2] }
  | _ => none }
def TimesTellsWrongFalsely : Prop := timesTellsRow.holds Try.pinned (OpenSpec.ofChange timesTellsWrong)

/- THE SECOND FORM. 'bulk': how many values and letters a reading holds, each counted each time it is reached (what is shared counts as often as it is met; a slice's spare places count too). A statement '..UptoSaid' is the law's where the arguments, and the package variables that the reading takes, are together of bulk at most 1048576: NARROWER than '..Said'. Prove '..Said' where nothing that the law and all that it calls make is longer than what came in: it says more and counts as full. Else prove '..UptoSaid'. A law counts once. -/
mutual
def uptoBulk {H : Type} : DataW H → Nat
  | .lit (.string bytes) => bytes.length + 1
  | .lit _ => 1
  | .nil => 1
  | .ptr d => uptoBulk d + 1
  | .slice elems spare => uptoBulkAll elems + uptoBulkAll spare + 1
  | .agg parts => uptoBulkAll parts + 1
  | .iface _ d => uptoBulk d + 1
  | .map entries => uptoBulkEntries entries + 1
  | .held _ => 1
def uptoBulkAll {H : Type} : List (DataW H) → Nat
  | [] => 0
  | d :: r => uptoBulk d + uptoBulkAll r
def uptoBulkEntries {H : Type} : List (Lit × DataW H) → Nat
  | [] => 0
  | x :: r => uptoBulkEntry x + uptoBulkEntries r
def uptoBulkEntry {H : Type} : Lit × DataW H → Nat
  | (.string bytes, d) => bytes.length + uptoBulk d + 1
  | (_, d) => uptoBulk d + 1
 end
def uptoSmall : (H : Type) → List (DataW H) → Bool := fun _ ds => decide (uptoBulkAll ds ≤ 1048576)
def OpenSpec.upto (s : _root_.Go.ChangeSpec) : _root_.Go.OpenSpec := { _root_.Go.OpenSpec.ofChange s with cond := some uptoSmall }

/-- 'watershedlaw.GraphSums', WHERE WHAT IT READS IS OF BULK AT MOST 1048576: true; the input reads as it did. -/
def graphSumsUptoRow : OpenClaim := { program := "ytdinlimamfpboaa", sum := "3312befd67fc32b9aed3bb6f7ddc30e19d1eba7e5d121281748a33b18efd3074", func := "watershed/watershedlaw.GraphSums", spec := "graphSums", apart := false, narrowed := true }
def GraphSumsUptoSaid : Prop := graphSumsUptoRow.holds Try.pinned (OpenSpec.upto graphSumsSpec)

/-- 'watershedlaw.SummaryTells', WHERE WHAT IT READS IS OF BULK AT MOST 1048576: true; the input reads as it did. -/
def summaryTellsUptoRow : OpenClaim := { program := "ytdinlimamfpboaa", sum := "3312befd67fc32b9aed3bb6f7ddc30e19d1eba7e5d121281748a33b18efd3074", func := "watershed/watershedlaw.SummaryTells", spec := "summaryTells", apart := false, narrowed := true }
def SummaryTellsUptoSaid : Prop := summaryTellsUptoRow.holds Try.pinned (OpenSpec.upto summaryTellsSpec)

/-- 'watershedlaw.QueuePlays', WHERE WHAT IT READS IS OF BULK AT MOST 1048576: true; the input reads as it did. -/
def queuePlaysUptoRow : OpenClaim := { program := "ytdinlimamfpboaa", sum := "3312befd67fc32b9aed3bb6f7ddc30e19d1eba7e5d121281748a33b18efd3074", func := "watershed/watershedlaw.QueuePlays", spec := "queuePlays", unfollowed := true, recurses := true, apart := false, narrowed := true }
def QueuePlaysUptoSaid : Prop := queuePlaysUptoRow.holds Try.pinned (OpenSpec.upto queuePlaysSpec)

/-- 'watershedlaw.SummaryThens', WHERE WHAT IT READS IS OF BULK AT MOST 1048576: true; the input reads as it did. -/
def summaryThensUptoRow : OpenClaim := { program := "ytdinlimamfpboaa", sum := "3312befd67fc32b9aed3bb6f7ddc30e19d1eba7e5d121281748a33b18efd3074", func := "watershed/watershedlaw.SummaryThens", spec := "summaryThens", apart := false, narrowed := true }
def SummaryThensUptoSaid : Prop := summaryThensUptoRow.holds Try.pinned (OpenSpec.upto summaryThensSpec)

/-- 'watershedlaw.SlotsPlays', WHERE WHAT IT READS IS OF BULK AT MOST 1048576: true; the input reads as it did. -/
def slotsPlaysUptoRow : OpenClaim := { program := "ytdinlimamfpboaa", sum := "3312befd67fc32b9aed3bb6f7ddc30e19d1eba7e5d121281748a33b18efd3074", func := "watershed/watershedlaw.SlotsPlays", spec := "slotsPlays", unfollowed := true, recurses := true, apart := false, narrowed := true }
def SlotsPlaysUptoSaid : Prop := slotsPlaysUptoRow.holds Try.pinned (OpenSpec.upto slotsPlaysSpec)

/-- 'watershedlaw.TimesTells', WHERE WHAT IT READS IS OF BULK AT MOST 1048576: true; the input reads as it did. -/
def timesTellsUptoRow : OpenClaim := { program := "ytdinlimamfpboaa", sum := "3312befd67fc32b9aed3bb6f7ddc30e19d1eba7e5d121281748a33b18efd3074", func := "watershed/watershedlaw.TimesTells", spec := "timesTells", unfollowed := true, recurses := true, apart := false, narrowed := true }
def TimesTellsUptoSaid : Prop := timesTellsUptoRow.holds Try.pinned (OpenSpec.upto timesTellsSpec)

end Rows
end Go.Proofs.Ytdinlimamfpboaa
