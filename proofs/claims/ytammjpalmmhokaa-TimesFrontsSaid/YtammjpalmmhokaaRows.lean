/-
  No cell of these rows narrows 'for every input' (looked for: loops, veiled, ifaces, maps, wideKeys, modest, calm, conditions, laid).
  DERIVED. THE GIVEN ROWS OF THIS SEAT. 5 by the template 'for every input the law returns true; each argument reads behind the call as it read before'; 0 by the template 'total and deterministic' (their statements: YtammjpalmmhokaaTotals.lean).
  GIVEN WITH THE SEED: the statements are not yours to turn. If you find one false, say at which input.
  Laid BY PROGRAM, IN A SANDBOX (cutbox-rows.mjs): the forced cells as the released guide's own fill.sh prints them over the translation b8da8fe1bd68d837… (all of the seat's roots in one cut). By AI agents, Wed Nov 11 2026. No macro, syntax, notation, axiom, sorry.
-/
import Derived.Test.YtammjpalmmhokaaChecked
import GoSem.Claim
import GoSem.ClaimJoined
import GoSem.ClaimMapViews
import Derived.JoinedTies
import Derived.KernelRfl
namespace Go.Proofs.Ytammjpalmmhokaa
/- THE CELL 'sum', in the pinned program and in every row, IS THE sha256 OF THE DUMP (.gsa) THAT YtammjpalmmhokaaProg.lean LOADS. Nothing in Lean hashes anything: it is a label: what it is worth is what the hold of that sum in a sandbox is worth. -/
noncomputable def Try.pinned : Pinned := { name := "ytammjpalmmhokaa", sum := "b8da8fe1bd68d8376bff442d93a7e0574737f178667e4941be0ce356352d0110", checked := Try.checked }
namespace Rows
def none {H : Type} : Left H := { results := [], args := [] }

/-- 'watershedlaw.CountsAdds': WHATEVER THE INPUT: true; the input reads as it did. -/
def countsAddsSpec : ChangeSpec := { name := "countsAdds", fn := fun _ => fun
  | [d1, d2, d3] => { results := [.lit (.bool true)], args := [d1, d2, d3] }
  | _ => none }
def countsAddsRow : OpenClaim := { program := "ytammjpalmmhokaa", sum := "b8da8fe1bd68d8376bff442d93a7e0574737f178667e4941be0ce356352d0110", func := "watershed/watershedlaw.CountsAdds", spec := "countsAdds", unfollowed := true, recurses := true, apart := false }
def CountsAddsSaid : Prop := countsAddsRow.holds Try.pinned (OpenSpec.ofChange countsAddsSpec)

/-- ITS FALSE NEIGHBOUR: 'it returns false'. Refute it at one input. -/
def countsAddsWrong : ChangeSpec := { name := "countsAdds", fn := fun _ => fun
  | [d1, d2, d3] => { results := [.lit (.bool false)], args := [d1, d2, d3] }
  | _ => none }
def CountsAddsWrongFalsely : Prop := countsAddsRow.holds Try.pinned (OpenSpec.ofChange countsAddsWrong)

/-- 'watershedlaw.CountsSums': WHATEVER THE INPUT: true; the input reads as it did. -/
def countsSumsSpec : ChangeSpec := { name := "countsSums", fn := fun _ => fun
  | [d1, d2] => { results := [.lit (.bool true)], args := [d1, d2] }
  | _ => none }
def countsSumsRow : OpenClaim := { program := "ytammjpalmmhokaa", sum := "b8da8fe1bd68d8376bff442d93a7e0574737f178667e4941be0ce356352d0110", func := "watershed/watershedlaw.CountsSums", spec := "countsSums", unfollowed := true, recurses := true, apart := false }
def CountsSumsSaid : Prop := countsSumsRow.holds Try.pinned (OpenSpec.ofChange countsSumsSpec)

/-- ITS FALSE NEIGHBOUR: 'it returns false'. Refute it at one input. -/
def countsSumsWrong : ChangeSpec := { name := "countsSums", fn := fun _ => fun
  | [d1, d2] => { results := [.lit (.bool false)], args := [d1, d2] }
  | _ => none }
def CountsSumsWrongFalsely : Prop := countsSumsRow.holds Try.pinned (OpenSpec.ofChange countsSumsWrong)

/-- 'watershedlaw.QueuePlays': WHATEVER THE INPUT: true; the input reads as it did. -/
def queuePlaysSpec : ChangeSpec := { name := "queuePlays", fn := fun _ => fun
  | [d1, d2, d3] => { results := [.lit (.bool true)], args := [d1, d2, d3] }
  | _ => none }
def queuePlaysRow : OpenClaim := { program := "ytammjpalmmhokaa", sum := "b8da8fe1bd68d8376bff442d93a7e0574737f178667e4941be0ce356352d0110", func := "watershed/watershedlaw.QueuePlays", spec := "queuePlays", unfollowed := true, recurses := true, apart := false }
def QueuePlaysSaid : Prop := queuePlaysRow.holds Try.pinned (OpenSpec.ofChange queuePlaysSpec)

/-- ITS FALSE NEIGHBOUR: 'it returns false'. Refute it at one input. -/
def queuePlaysWrong : ChangeSpec := { name := "queuePlays", fn := fun _ => fun
  | [d1, d2, d3] => { results := [.lit (.bool false)], args := [d1, d2, d3] }
  | _ => none }
def QueuePlaysWrongFalsely : Prop := queuePlaysRow.holds Try.pinned (OpenSpec.ofChange queuePlaysWrong)

/-- 'watershedlaw.SlotsPlays': WHATEVER THE INPUT: true; the input reads as it did. -/
def slotsPlaysSpec : ChangeSpec := { name := "slotsPlays", fn := fun _ => fun
  | [d1, d2, d3] => { results := [.lit (.bool true)], args := [d1, d2, d3] }
  | _ => none }
def slotsPlaysRow : OpenClaim := { program := "ytammjpalmmhokaa", sum := "b8da8fe1bd68d8376bff442d93a7e0574737f178667e4941be0ce356352d0110", func := "watershed/watershedlaw.SlotsPlays", spec := "slotsPlays", unfollowed := true, recurses := true, apart := false }
def SlotsPlaysSaid : Prop := slotsPlaysRow.holds Try.pinned (OpenSpec.ofChange slotsPlaysSpec)

/-- ITS FALSE NEIGHBOUR: 'it returns false'. Refute it at one input. -/
def slotsPlaysWrong : ChangeSpec := { name := "slotsPlays", fn := fun _ => fun
  | [d1, d2, d3] => { results := [.lit (.bool false)], args := [d1, d2, d3] }
  | _ => none }
def SlotsPlaysWrongFalsely : Prop := slotsPlaysRow.holds Try.pinned (OpenSpec.ofChange slotsPlaysWrong)

/-- 'watershedlaw.TimesFronts': WHATEVER THE INPUT: true; the input reads as it did. -/
def timesFrontsSpec : ChangeSpec := { name := "timesFronts", fn := fun _ => fun
  | [d1, d2] => { results := [.lit (.bool true)], args := [d1, d2] }
  | _ => none }
def timesFrontsRow : OpenClaim := { program := "ytammjpalmmhokaa", sum := "b8da8fe1bd68d8376bff442d93a7e0574737f178667e4941be0ce356352d0110", func := "watershed/watershedlaw.TimesFronts", spec := "timesFronts", unfollowed := true, recurses := true, apart := false }
def TimesFrontsSaid : Prop := timesFrontsRow.holds Try.pinned (OpenSpec.ofChange timesFrontsSpec)

/-- ITS FALSE NEIGHBOUR: 'it returns false'. Refute it at one input. -/
def timesFrontsWrong : ChangeSpec := { name := "timesFronts", fn := fun _ => fun
  | [d1, d2] => { results := [.lit (.bool false)], args := [d1, d2] }
  | _ => none }
def TimesFrontsWrongFalsely : Prop := timesFrontsRow.holds Try.pinned (OpenSpec.ofChange timesFrontsWrong)

/- THE SECOND FORM. 'bulk': how many values and letters a reading holds, each counted each time it is reached (what is shared counts as often as it is met; a slice's spare places count too). A statement '..UptoSaid' is the law's where the arguments, and the package variables that the reading takes, are together of bulk at most 1048576: NARROWER than '..Said'. Prove '..Said' where nothing that the law and all that it calls make is longer than what came in: it says more and counts as full. Else prove '..UptoSaid'. A law counts once. -/
mutual
def uptoBulk {H : Type} : DataW H → Nat
  | .lit (.string bytes) => bytes.length + 1
  | .lit _ => 1
  | .nil => 1
  | .ptr d => uptoBulk d + 1
  | .slice elems spare => uptoBulkAll elems + uptoBulkAll spare + 1
  | .agg parts => uptoBulkAll parts + 1
  | .iface _ d => uptoBulk d + 1
  | .map entries => uptoBulkEntries entries + 1
  | .held _ => 1
def uptoBulkAll {H : Type} : List (DataW H) → Nat
  | [] => 0
  | d :: r => uptoBulk d + uptoBulkAll r
def uptoBulkEntries {H : Type} : List (Lit × DataW H) → Nat
  | [] => 0
  | x :: r => uptoBulkEntry x + uptoBulkEntries r
def uptoBulkEntry {H : Type} : Lit × DataW H → Nat
  | (.string bytes, d) => bytes.length + uptoBulk d + 1
  | (_, d) => uptoBulk d + 1
 end
def uptoSmall : (H : Type) → List (DataW H) → Bool := fun _ ds => decide (uptoBulkAll ds ≤ 1048576)
def OpenSpec.upto (s : _root_.Go.ChangeSpec) : _root_.Go.OpenSpec := { _root_.Go.OpenSpec.ofChange s with cond := some uptoSmall }

/-- 'watershedlaw.CountsAdds', WHERE WHAT IT READS IS OF BULK AT MOST 1048576: true; the input reads as it did. -/
def countsAddsUptoRow : OpenClaim := { program := "ytammjpalmmhokaa", sum := "b8da8fe1bd68d8376bff442d93a7e0574737f178667e4941be0ce356352d0110", func := "watershed/watershedlaw.CountsAdds", spec := "countsAdds", unfollowed := true, recurses := true, apart := false, narrowed := true }
def CountsAddsUptoSaid : Prop := countsAddsUptoRow.holds Try.pinned (OpenSpec.upto countsAddsSpec)

/-- 'watershedlaw.CountsSums', WHERE WHAT IT READS IS OF BULK AT MOST 1048576: true; the input reads as it did. -/
def countsSumsUptoRow : OpenClaim := { program := "ytammjpalmmhokaa", sum := "b8da8fe1bd68d8376bff442d93a7e0574737f178667e4941be0ce356352d0110", func := "watershed/watershedlaw.CountsSums", spec := "countsSums", unfollowed := true, recurses := true, apart := false, narrowed := true }
def CountsSumsUptoSaid : Prop := countsSumsUptoRow.holds Try.pinned (OpenSpec.upto countsSumsSpec)

/-- 'watershedlaw.QueuePlays', WHERE WHAT IT READS IS OF BULK AT MOST 1048576: true; the input reads as it did. -/
def queuePlaysUptoRow : OpenClaim := { program := "ytammjpalmmhokaa", sum := "b8da8fe1bd68d8376bff442d93a7e0574737f178667e4941be0ce356352d0110", func := "watershed/watershedlaw.QueuePlays", spec := "queuePlays", unfollowed := true, recurses := true, apart := false, narrowed := true }
def QueuePlaysUptoSaid : Prop := queuePlaysUptoRow.holds Try.pinned (OpenSpec.upto queuePlaysSpec)

/-- 'watershedlaw.SlotsPlays', WHERE WHAT IT READS IS OF BULK AT MOST 1048576: true; the input reads as it did. -/
def slotsPlaysUptoRow : OpenClaim := { program := "ytammjpalmmhokaa", sum := "b8da8fe1bd68d8376bff442d93a7e0574737f178667e4941be0ce356352d0110", func := "watershed/watershedlaw.SlotsPlays", spec := "slotsPlays", unfollowed := true, recurses := true, apart := false, narrowed := true }
def SlotsPlaysUptoSaid : Prop := slotsPlaysUptoRow.holds Try.pinned (OpenSpec.upto slotsPlaysSpec)

/-- 'watershedlaw.TimesFronts', WHERE WHAT IT READS IS OF BULK AT MOST 1048576: true; the input reads as it did. -/
def timesFrontsUptoRow : OpenClaim := { program := "ytammjpalmmhokaa", sum := "b8da8fe1bd68d8376bff442d93a7e0574737f178667e4941be0ce356352d0110", func := "watershed/watershedlaw.TimesFronts", spec := "timesFronts", unfollowed := true, recurses := true, apart := false, narrowed := true }
def TimesFrontsUptoSaid : Prop := timesFrontsUptoRow.holds Try.pinned (OpenSpec.upto timesFrontsSpec)

end Rows
end Go.Proofs.Ytammjpalmmhokaa
