/-
  NARROWER THAN 'FOR EVERY INPUT', by the rows' own cells (each row's printed sentence says how): MobiusSums: laid · MobiusInverses: laid · LatticeSubs: laid · LatticeKinds: laid · DownsBelow: laid · MobiusTables: laid · FixedEnds: laid · FixedAdjoints: laid · GraphChecks: laid · DownsAll: laid · DownsInclusion: laid.
  DERIVED. THE GIVEN ROWS OF THIS SEAT. 11 by the template 'for every input the law returns true; each argument reads behind the call as it read before'; 0 by the template 'total and deterministic' (their statements: YthohigdbddilmaaDoorTotals.lean).
  GIVEN WITH THE SEED: the statements are not yours to turn. If you find one false, say at which input.
  Laid BY PROGRAM, IN A SANDBOX (cutbox-rows.mjs): the forced cells as the released guide's own fill.sh prints them over the translation 627e712b4489c057… (all of the seat's roots in one cut). By AI agents, Wed Nov 11 2026. No macro, syntax, notation, axiom, sorry.
-/
import Derived.Test.YthohigdbddilmaaDoorChecked
import GoSem.Claim
import GoSem.ClaimJoined
import GoSem.ClaimMapViews
import Derived.JoinedTies
import Derived.KernelRfl
namespace Go.Proofs.YthohigdbddilmaaDoor
/- THE CELL 'sum', in the pinned program and in every row, IS THE sha256 OF THE DUMP (.gsa) THAT YthohigdbddilmaaDoorProg.lean LOADS. Nothing in Lean hashes anything: it is a label: what it is worth is what the hold of that sum in a sandbox is worth. -/
noncomputable def Tryd.pinned : Pinned := { name := "ythohigdbddilmaadoor", sum := "627e712b4489c0578543842c24fa4c43941701b3245a6b089d7cffdf412632d6", checked := Tryd.checked }
namespace Rows
def none {H : Type} : Left H := { results := [], args := [] }

/- WHAT THE LISTED PACKAGE-LEVEL VARIABLES READ AS WHEN THE CALL BEGINS. Each datum BY PROGRAM (the guide's laid-datum.mjs) off the statement by which the dump's own 'gosem.cut.vars' lays the variable. In a bare row this is a premise. The card (YthohigdbddilmaaDoorCards.lean) ties it to the program's text. -/
def laid_math_bits_deBruijn64tab {H : Type} : DataW H := .agg [.lit (.int .u8 0), .lit (.int .u8 1), .lit (.int .u8 56), .lit (.int .u8 2), .lit (.int .u8 57), .lit (.int .u8 49), .lit (.int .u8 28), .lit (.int .u8 3), .lit (.int .u8 61), .lit (.int .u8 58), .lit (.int .u8 42), .lit (.int .u8 50), .lit (.int .u8 38), .lit (.int .u8 29), .lit (.int .u8 17), .lit (.int .u8 4), .lit (.int .u8 62), .lit (.int .u8 47), .lit (.int .u8 59), .lit (.int .u8 36), .lit (.int .u8 45), .lit (.int .u8 43), .lit (.int .u8 51), .lit (.int .u8 22), .lit (.int .u8 53), .lit (.int .u8 39), .lit (.int .u8 33), .lit (.int .u8 30), .lit (.int .u8 24), .lit (.int .u8 18), .lit (.int .u8 12), .lit (.int .u8 5), .lit (.int .u8 63), .lit (.int .u8 55), .lit (.int .u8 48), .lit (.int .u8 27), .lit (.int .u8 60), .lit (.int .u8 41), .lit (.int .u8 37), .lit (.int .u8 16), .lit (.int .u8 46), .lit (.int .u8 35), .lit (.int .u8 44), .lit (.int .u8 21), .lit (.int .u8 52), .lit (.int .u8 32), .lit (.int .u8 23), .lit (.int .u8 11), .lit (.int .u8 54), .lit (.int .u8 26), .lit (.int .u8 40), .lit (.int .u8 15), .lit (.int .u8 34), .lit (.int .u8 20), .lit (.int .u8 31), .lit (.int .u8 10), .lit (.int .u8 25), .lit (.int .u8 14), .lit (.int .u8 19), .lit (.int .u8 9), .lit (.int .u8 13), .lit (.int .u8 8), .lit (.int .u8 7), .lit (.int .u8 6)]

/-- 'watershedlaw.MobiusSums': WHATEVER THE INPUT: true; the input reads as it did. -/
def mobiusSumsSpec : ChangeSpec := { name := "mobiusSums", fn := fun _ => fun
  | [d1, d2] => { results := [.lit (.bool true)], args := [d1, d2] }
  | _ => none }
def mobiusSumsRow : OpenClaim := { program := "ythohigdbddilmaadoor", sum := "627e712b4489c0578543842c24fa4c43941701b3245a6b089d7cffdf412632d6", func := "watershed/watershedlaw.MobiusSums", spec := "mobiusSums", unfollowed := true, recurses := true, named := ["math/bits.deBruijn64tab"], plainKeys := false, apart := false, laid := [("math/bits.deBruijn64tab", laid_math_bits_deBruijn64tab)] }
def MobiusSumsSaid : Prop := mobiusSumsRow.holds Tryd.pinned (OpenSpec.ofChange mobiusSumsSpec)

/-- ITS FALSE NEIGHBOUR: 'it returns false'. Refute it at one input. -/
def mobiusSumsWrong : ChangeSpec := { name := "mobiusSums", fn := fun _ => fun
  | [d1, d2] => { results := [.lit (.bool false)], args := [d1, d2] }
  | _ => none }
def MobiusSumsWrongFalsely : Prop := mobiusSumsRow.holds Tryd.pinned (OpenSpec.ofChange mobiusSumsWrong)

/-- 'watershedlaw.MobiusInverses': WHATEVER THE INPUT: true; the input reads as it did. -/
def mobiusInversesSpec : ChangeSpec := { name := "mobiusInverses", fn := fun _ => fun
  | [d1, d2] => { results := [.lit (.bool true)], args := [d1, d2] }
  | _ => none }
def mobiusInversesRow : OpenClaim := { program := "ythohigdbddilmaadoor", sum := "627e712b4489c0578543842c24fa4c43941701b3245a6b089d7cffdf412632d6", func := "watershed/watershedlaw.MobiusInverses", spec := "mobiusInverses", unfollowed := true, recurses := true, named := ["math/bits.deBruijn64tab"], plainKeys := false, apart := false, laid := [("math/bits.deBruijn64tab", laid_math_bits_deBruijn64tab)] }
def MobiusInversesSaid : Prop := mobiusInversesRow.holds Tryd.pinned (OpenSpec.ofChange mobiusInversesSpec)

/-- ITS FALSE NEIGHBOUR: 'it returns false'. Refute it at one input. -/
def mobiusInversesWrong : ChangeSpec := { name := "mobiusInverses", fn := fun _ => fun
  | [d1, d2] => { results := [.lit (.bool false)], args := [d1, d2] }
  | _ => none }
def MobiusInversesWrongFalsely : Prop := mobiusInversesRow.holds Tryd.pinned (OpenSpec.ofChange mobiusInversesWrong)

/-- 'watershedlaw.LatticeSubs': WHATEVER THE INPUT: true; the input reads as it did. -/
def latticeSubsSpec : ChangeSpec := { name := "latticeSubs", fn := fun _ => fun
  | [d1, d2] => { results := [.lit (.bool true)], args := [d1, d2] }
  | _ => none }
def latticeSubsRow : OpenClaim := { program := "ythohigdbddilmaadoor", sum := "627e712b4489c0578543842c24fa4c43941701b3245a6b089d7cffdf412632d6", func := "watershed/watershedlaw.LatticeSubs", spec := "latticeSubs", unfollowed := true, recurses := true, named := ["math/bits.deBruijn64tab"], plainKeys := false, apart := false, laid := [("math/bits.deBruijn64tab", laid_math_bits_deBruijn64tab)] }
def LatticeSubsSaid : Prop := latticeSubsRow.holds Tryd.pinned (OpenSpec.ofChange latticeSubsSpec)

/-- ITS FALSE NEIGHBOUR: 'it returns false'. Refute it at one input. -/
def latticeSubsWrong : ChangeSpec := { name := "latticeSubs", fn := fun _ => fun
  | [d1, d2] => { results := [.lit (.bool false)], args := [d1, d2] }
  | _ => none }
def LatticeSubsWrongFalsely : Prop := latticeSubsRow.holds Tryd.pinned (OpenSpec.ofChange latticeSubsWrong)

/-- 'watershedlaw.LatticeKinds': WHATEVER THE INPUT: true; the input reads as it did. -/
def latticeKindsSpec : ChangeSpec := { name := "latticeKinds", fn := fun _ => fun
  | [d] => { results := [.lit (.bool true)], args := [d] }
  | _ => none }
def latticeKindsRow : OpenClaim := { program := "ythohigdbddilmaadoor", sum := "627e712b4489c0578543842c24fa4c43941701b3245a6b089d7cffdf412632d6", func := "watershed/watershedlaw.LatticeKinds", spec := "latticeKinds", unfollowed := true, recurses := true, named := ["math/bits.deBruijn64tab"], plainKeys := false, apart := false, laid := [("math/bits.deBruijn64tab", laid_math_bits_deBruijn64tab)] }
def LatticeKindsSaid : Prop := latticeKindsRow.holds Tryd.pinned (OpenSpec.ofChange latticeKindsSpec)

/-- ITS FALSE NEIGHBOUR: 'it returns false'. Refute it at one input. -/
def latticeKindsWrong : ChangeSpec := { name := "latticeKinds", fn := fun _ => fun
  | [d] => { results := [.lit (.bool false)], args := [d] }
  | _ => none }
def LatticeKindsWrongFalsely : Prop := latticeKindsRow.holds Tryd.pinned (OpenSpec.ofChange latticeKindsWrong)

/-- 'watershedlaw.DownsBelow': WHATEVER THE INPUT: true; the input reads as it did. -/
def downsBelowSpec : ChangeSpec := { name := "downsBelow", fn := fun _ => fun
  | [d] => { results := [.lit (.bool true)], args := [d] }
  | _ => none }
def downsBelowRow : OpenClaim := { program := "ythohigdbddilmaadoor", sum := "627e712b4489c0578543842c24fa4c43941701b3245a6b089d7cffdf412632d6", func := "watershed/watershedlaw.DownsBelow", spec := "downsBelow", unfollowed := true, recurses := true, named := ["math/bits.deBruijn64tab"], plainKeys := false, apart := false, laid := [("math/bits.deBruijn64tab", laid_math_bits_deBruijn64tab)] }
def DownsBelowSaid : Prop := downsBelowRow.holds Tryd.pinned (OpenSpec.ofChange downsBelowSpec)

/-- ITS FALSE NEIGHBOUR: 'it returns false'. Refute it at one input. -/
def downsBelowWrong : ChangeSpec := { name := "downsBelow", fn := fun _ => fun
  | [d] => { results := [.lit (.bool false)], args := [d] }
  | _ => none }
def DownsBelowWrongFalsely : Prop := downsBelowRow.holds Tryd.pinned (OpenSpec.ofChange downsBelowWrong)

/-- 'watershedlaw.MobiusTables': WHATEVER THE INPUT: true; the input reads as it did. -/
def mobiusTablesSpec : ChangeSpec := { name := "mobiusTables", fn := fun _ => fun
  | [d] => { results := [.lit (.bool true)], args := [d] }
  | _ => none }
def mobiusTablesRow : OpenClaim := { program := "ythohigdbddilmaadoor", sum := "627e712b4489c0578543842c24fa4c43941701b3245a6b089d7cffdf412632d6", func := "watershed/watershedlaw.MobiusTables", spec := "mobiusTables", unfollowed := true, recurses := true, named := ["math/bits.deBruijn64tab"], plainKeys := false, apart := false, laid := [("math/bits.deBruijn64tab", laid_math_bits_deBruijn64tab)] }
def MobiusTablesSaid : Prop := mobiusTablesRow.holds Tryd.pinned (OpenSpec.ofChange mobiusTablesSpec)

/-- ITS FALSE NEIGHBOUR: 'it returns false'. Refute it at one input. -/
def mobiusTablesWrong : ChangeSpec := { name := "mobiusTables", fn := fun _ => fun
  | [d] => { results := [.lit (.bool false)], args := [d] }
  | _ => none }
def MobiusTablesWrongFalsely : Prop := mobiusTablesRow.holds Tryd.pinned (OpenSpec.ofChange mobiusTablesWrong)

/-- 'watershedlaw.FixedEnds': WHATEVER THE INPUT: true; the input reads as it did. -/
def fixedEndsSpec : ChangeSpec := { name := "fixedEnds", fn := fun _ => fun
  | [d1, d2] => { results := [.lit (.bool true)], args := [d1, d2] }
  | _ => none }
def fixedEndsRow : OpenClaim := { program := "ythohigdbddilmaadoor", sum := "627e712b4489c0578543842c24fa4c43941701b3245a6b089d7cffdf412632d6", func := "watershed/watershedlaw.FixedEnds", spec := "fixedEnds", unfollowed := true, recurses := true, named := ["math/bits.deBruijn64tab"], plainKeys := false, apart := false, laid := [("math/bits.deBruijn64tab", laid_math_bits_deBruijn64tab)] }
def FixedEndsSaid : Prop := fixedEndsRow.holds Tryd.pinned (OpenSpec.ofChange fixedEndsSpec)

/-- ITS FALSE NEIGHBOUR: 'it returns false'. Refute it at one input. -/
def fixedEndsWrong : ChangeSpec := { name := "fixedEnds", fn := fun _ => fun
  | [d1, d2] => { results := [.lit (.bool false)], args := [d1, d2] }
  | _ => none }
def FixedEndsWrongFalsely : Prop := fixedEndsRow.holds Tryd.pinned (OpenSpec.ofChange fixedEndsWrong)

/-- 'watershedlaw.FixedAdjoints': WHATEVER THE INPUT: true; the input reads as it did. -/
def fixedAdjointsSpec : ChangeSpec := { name := "fixedAdjoints", fn := fun _ => fun
  | [d1, d2, d3] => { results := [.lit (.bool true)], args := [d1, d2, d3] }
  | _ => none }
def fixedAdjointsRow : OpenClaim := { program := "ythohigdbddilmaadoor", sum := "627e712b4489c0578543842c24fa4c43941701b3245a6b089d7cffdf412632d6", func := "watershed/watershedlaw.FixedAdjoints", spec := "fixedAdjoints", unfollowed := true, recurses := true, named := ["math/bits.deBruijn64tab"], plainKeys := false, apart := false, laid := [("math/bits.deBruijn64tab", laid_math_bits_deBruijn64tab)] }
def FixedAdjointsSaid : Prop := fixedAdjointsRow.holds Tryd.pinned (OpenSpec.ofChange fixedAdjointsSpec)

/-- ITS FALSE NEIGHBOUR: 'it returns false'. Refute it at one input. -/
def fixedAdjointsWrong : ChangeSpec := { name := "fixedAdjoints", fn := fun _ => fun
  | [d1, d2, d3] => { results := [.lit (.bool false)], args := [d1, d2, d3] }
  | _ => none }
def FixedAdjointsWrongFalsely : Prop := fixedAdjointsRow.holds Tryd.pinned (OpenSpec.ofChange fixedAdjointsWrong)

/-- 'watershedlaw.GraphChecks': WHATEVER THE INPUT: true; the input reads as it did. -/
def graphChecksSpec : ChangeSpec := { name := "graphChecks", fn := fun _ => fun
  | [d] => { results := [.lit (.bool true)], args := [d] }
  | _ => none }
def graphChecksRow : OpenClaim := { program := "ythohigdbddilmaadoor", sum := "627e712b4489c0578543842c24fa4c43941701b3245a6b089d7cffdf412632d6", func := "watershed/watershedlaw.GraphChecks", spec := "graphChecks", unfollowed := true, recurses := true, named := ["math/bits.deBruijn64tab"], plainKeys := false, apart := false, laid := [("math/bits.deBruijn64tab", laid_math_bits_deBruijn64tab)] }
def GraphChecksSaid : Prop := graphChecksRow.holds Tryd.pinned (OpenSpec.ofChange graphChecksSpec)

/-- ITS FALSE NEIGHBOUR: 'it returns false'. Refute it at one input. -/
def graphChecksWrong : ChangeSpec := { name := "graphChecks", fn := fun _ => fun
  | [d] => { results := [.lit (.bool false)], args := [d] }
  | _ => none }
def GraphChecksWrongFalsely : Prop := graphChecksRow.holds Tryd.pinned (OpenSpec.ofChange graphChecksWrong)

/-- 'watershedlaw.DownsAll': WHATEVER THE INPUT: true; the input reads as it did. -/
def downsAllSpec : ChangeSpec := { name := "downsAll", fn := fun _ => fun
  | [d] => { results := [.lit (.bool true)], args := [d] }
  | _ => none }
def downsAllRow : OpenClaim := { program := "ythohigdbddilmaadoor", sum := "627e712b4489c0578543842c24fa4c43941701b3245a6b089d7cffdf412632d6", func := "watershed/watershedlaw.DownsAll", spec := "downsAll", unfollowed := true, recurses := true, named := ["math/bits.deBruijn64tab"], plainKeys := false, apart := false, laid := [("math/bits.deBruijn64tab", laid_math_bits_deBruijn64tab)] }
def DownsAllSaid : Prop := downsAllRow.holds Tryd.pinned (OpenSpec.ofChange downsAllSpec)

/-- ITS FALSE NEIGHBOUR: 'it returns false'. Refute it at one input. -/
def downsAllWrong : ChangeSpec := { name := "downsAll", fn := fun _ => fun
  | [d] => { results := [.lit (.bool false)], args := [d] }
  | _ => none }
def DownsAllWrongFalsely : Prop := downsAllRow.holds Tryd.pinned (OpenSpec.ofChange downsAllWrong)

/-- 'watershedlaw.DownsInclusion': WHATEVER THE INPUT: true; the input reads as it did. -/
def downsInclusionSpec : ChangeSpec := { name := "downsInclusion", fn := fun _ => fun
  | [d] => { results := [.lit (.bool true)], args := [d] }
  | _ => none }
def downsInclusionRow : OpenClaim := { program := "ythohigdbddilmaadoor", sum := "627e712b4489c0578543842c24fa4c43941701b3245a6b089d7cffdf412632d6", func := "watershed/watershedlaw.DownsInclusion", spec := "downsInclusion", unfollowed := true, recurses := true, named := ["math/bits.deBruijn64tab"], plainKeys := false, apart := false, laid := [("math/bits.deBruijn64tab", laid_math_bits_deBruijn64tab)] }
def DownsInclusionSaid : Prop := downsInclusionRow.holds Tryd.pinned (OpenSpec.ofChange downsInclusionSpec)

/-- ITS FALSE NEIGHBOUR: 'it returns false'. Refute it at one input. -/
def downsInclusionWrong : ChangeSpec := { name := "downsInclusion", fn := fun _ => fun
  | [d] => { results := [.lit (.bool false)], args := [d] }
  | _ => none }
def DownsInclusionWrongFalsely : Prop := downsInclusionRow.holds Tryd.pinned (OpenSpec.ofChange downsInclusionWrong)

/- THE SECOND FORM. 'bulk': how many values and letters a reading holds, each counted each time it is reached (what is shared counts as often as it is met; a slice's spare places count too). A statement '..UptoSaid' is the law's where the arguments, and the package variables that the reading takes, are together of bulk at most 1048576: NARROWER than '..Said'. Prove '..Said' where nothing that the law and all that it calls make is longer than what came in: it says more and counts as full. Else prove '..UptoSaid'. A law counts once. -/
mutual
def uptoBulk {H : Type} : DataW H → Nat
  | .lit (.string bytes) => bytes.length + 1
  | .lit _ => 1
  | .nil => 1
  | .ptr d => uptoBulk d + 1
  | .slice elems spare => uptoBulkAll elems + uptoBulkAll spare + 1
  | .agg parts => uptoBulkAll parts + 1
  | .iface _ d => uptoBulk d + 1
  | .map entries => uptoBulkEntries entries + 1
  | .held _ => 1
def uptoBulkAll {H : Type} : List (DataW H) → Nat
  | [] => 0
  | d :: r => uptoBulk d + uptoBulkAll r
def uptoBulkEntries {H : Type} : List (Lit × DataW H) → Nat
  | [] => 0
  | x :: r => uptoBulkEntry x + uptoBulkEntries r
def uptoBulkEntry {H : Type} : Lit × DataW H → Nat
  | (.string bytes, d) => bytes.length + uptoBulk d + 1
  | (_, d) => uptoBulk d + 1
 end
def uptoSmall : (H : Type) → List (DataW H) → Bool := fun _ ds => decide (uptoBulkAll ds ≤ 1048576)
def OpenSpec.upto (s : _root_.Go.ChangeSpec) : _root_.Go.OpenSpec := { _root_.Go.OpenSpec.ofChange s with cond := some uptoSmall }

/-- 'watershedlaw.MobiusSums', WHERE WHAT IT READS IS OF BULK AT MOST 1048576: true; the input reads as it did. -/
def mobiusSumsUptoRow : OpenClaim := { program := "ythohigdbddilmaadoor", sum := "627e712b4489c0578543842c24fa4c43941701b3245a6b089d7cffdf412632d6", func := "watershed/watershedlaw.MobiusSums", spec := "mobiusSums", unfollowed := true, recurses := true, named := ["math/bits.deBruijn64tab"], plainKeys := false, apart := false, laid := [("math/bits.deBruijn64tab", laid_math_bits_deBruijn64tab)], narrowed := true }
def MobiusSumsUptoSaid : Prop := mobiusSumsUptoRow.holds Tryd.pinned (OpenSpec.upto mobiusSumsSpec)

/-- 'watershedlaw.MobiusInverses', WHERE WHAT IT READS IS OF BULK AT MOST 1048576: true; the input reads as it did. -/
def mobiusInversesUptoRow : OpenClaim := { program := "ythohigdbddilmaadoor", sum := "627e712b4489c0578543842c24fa4c43941701b3245a6b089d7cffdf412632d6", func := "watershed/watershedlaw.MobiusInverses", spec := "mobiusInverses", unfollowed := true, recurses := true, named := ["math/bits.deBruijn64tab"], plainKeys := false, apart := false, laid := [("math/bits.deBruijn64tab", laid_math_bits_deBruijn64tab)], narrowed := true }
def MobiusInversesUptoSaid : Prop := mobiusInversesUptoRow.holds Tryd.pinned (OpenSpec.upto mobiusInversesSpec)

/-- 'watershedlaw.LatticeSubs', WHERE WHAT IT READS IS OF BULK AT MOST 1048576: true; the input reads as it did. -/
def latticeSubsUptoRow : OpenClaim := { program := "ythohigdbddilmaadoor", sum := "627e712b4489c0578543842c24fa4c43941701b3245a6b089d7cffdf412632d6", func := "watershed/watershedlaw.LatticeSubs", spec := "latticeSubs", unfollowed := true, recurses := true, named := ["math/bits.deBruijn64tab"], plainKeys := false, apart := false, laid := [("math/bits.deBruijn64tab", laid_math_bits_deBruijn64tab)], narrowed := true }
def LatticeSubsUptoSaid : Prop := latticeSubsUptoRow.holds Tryd.pinned (OpenSpec.upto latticeSubsSpec)

/-- 'watershedlaw.LatticeKinds', WHERE WHAT IT READS IS OF BULK AT MOST 1048576: true; the input reads as it did. -/
def latticeKindsUptoRow : OpenClaim := { program := "ythohigdbddilmaadoor", sum := "627e712b4489c0578543842c24fa4c43941701b3245a6b089d7cffdf412632d6", func := "watershed/watershedlaw.LatticeKinds", spec := "latticeKinds", unfollowed := true, recurses := true, named := ["math/bits.deBruijn64tab"], plainKeys := false, apart := false, laid := [("math/bits.deBruijn64tab", laid_math_bits_deBruijn64tab)], narrowed := true }
def LatticeKindsUptoSaid : Prop := latticeKindsUptoRow.holds Tryd.pinned (OpenSpec.upto latticeKindsSpec)

/-- 'watershedlaw.DownsBelow', WHERE WHAT IT READS IS OF BULK AT MOST 1048576: true; the input reads as it did. -/
def downsBelowUptoRow : OpenClaim := { program := "ythohigdbddilmaadoor", sum := "627e712b4489c0578543842c24fa4c43941701b3245a6b089d7cffdf412632d6", func := "watershed/watershedlaw.DownsBelow", spec := "downsBelow", unfollowed := true, recurses := true, named := ["math/bits.deBruijn64tab"], plainKeys := false, apart := false, laid := [("math/bits.deBruijn64tab", laid_math_bits_deBruijn64tab)], narrowed := true }
def DownsBelowUptoSaid : Prop := downsBelowUptoRow.holds Tryd.pinned (OpenSpec.upto downsBelowSpec)

/-- 'watershedlaw.MobiusTables', WHERE WHAT IT READS IS OF BULK AT MOST 1048576: true; the input reads as it did. -/
def mobiusTablesUptoRow : OpenClaim := { program := "ythohigdbddilmaadoor", sum := "627e712b4489c0578543842c24fa4c43941701b3245a6b089d7cffdf412632d6", func := "watershed/watershedlaw.MobiusTables", spec := "mobiusTables", unfollowed := true, recurses := true, named := ["math/bits.deBruijn64tab"], plainKeys := false, apart := false, laid := [("math/bits.deBruijn64tab", laid_math_bits_deBruijn64tab)], narrowed := true }
def MobiusTablesUptoSaid : Prop := mobiusTablesUptoRow.holds Tryd.pinned (OpenSpec.upto mobiusTablesSpec)

/-- 'watershedlaw.FixedEnds', WHERE WHAT IT READS IS OF BULK AT MOST 1048576: true; the input reads as it did. -/
def fixedEndsUptoRow : OpenClaim := { program := "ythohigdbddilmaadoor", sum := "627e712b4489c0578543842c24fa4c43941701b3245a6b089d7cffdf412632d6", func := "watershed/watershedlaw.FixedEnds", spec := "fixedEnds", unfollowed := true, recurses := true, named := ["math/bits.deBruijn64tab"], plainKeys := false, apart := false, laid := [("math/bits.deBruijn64tab", laid_math_bits_deBruijn64tab)], narrowed := true }
def FixedEndsUptoSaid : Prop := fixedEndsUptoRow.holds Tryd.pinned (OpenSpec.upto fixedEndsSpec)

/-- 'watershedlaw.FixedAdjoints', WHERE WHAT IT READS IS OF BULK AT MOST 1048576: true; the input reads as it did. -/
def fixedAdjointsUptoRow : OpenClaim := { program := "ythohigdbddilmaadoor", sum := "627e712b4489c0578543842c24fa4c43941701b3245a6b089d7cffdf412632d6", func := "watershed/watershedlaw.FixedAdjoints", spec := "fixedAdjoints", unfollowed := true, recurses := true, named := ["math/bits.deBruijn64tab"], plainKeys := false, apart := false, laid := [("math/bits.deBruijn64tab", laid_math_bits_deBruijn64tab)], narrowed := true }
def FixedAdjointsUptoSaid : Prop := fixedAdjointsUptoRow.holds Tryd.pinned (OpenSpec.upto fixedAdjointsSpec)

/-- 'watershedlaw.GraphChecks', WHERE WHAT IT READS IS OF BULK AT MOST 1048576: true; the input reads as it did. -/
def graphChecksUptoRow : OpenClaim := { program := "ythohigdbddilmaadoor", sum := "627e712b4489c0578543842c24fa4c43941701b3245a6b089d7cffdf412632d6", func := "watershed/watershedlaw.GraphChecks", spec := "graphChecks", unfollowed := true, recurses := true, named := ["math/bits.deBruijn64tab"], plainKeys := false, apart := false, laid := [("math/bits.deBruijn64tab", laid_math_bits_deBruijn64tab)], narrowed := true }
def GraphChecksUptoSaid : Prop := graphChecksUptoRow.holds Tryd.pinned (OpenSpec.upto graphChecksSpec)

/-- 'watershedlaw.DownsAll', WHERE WHAT IT READS IS OF BULK AT MOST 1048576: true; the input reads as it did. -/
def downsAllUptoRow : OpenClaim := { program := "ythohigdbddilmaadoor", sum := "627e712b4489c0578543842c24fa4c43941701b3245a6b089d7cffdf412632d6", func := "watershed/watershedlaw.DownsAll", spec := "downsAll", unfollowed := true, recurses := true, named := ["math/bits.deBruijn64tab"], plainKeys := false, apart := false, laid := [("math/bits.deBruijn64tab", laid_math_bits_deBruijn64tab)], narrowed := true }
def DownsAllUptoSaid : Prop := downsAllUptoRow.holds Tryd.pinned (OpenSpec.upto downsAllSpec)

/-- 'watershedlaw.DownsInclusion', WHERE WHAT IT READS IS OF BULK AT MOST 1048576: true; the input reads as it did. -/
def downsInclusionUptoRow : OpenClaim := { program := "ythohigdbddilmaadoor", sum := "627e712b4489c0578543842c24fa4c43941701b3245a6b089d7cffdf412632d6", func := "watershed/watershedlaw.DownsInclusion", spec := "downsInclusion", unfollowed := true, recurses := true, named := ["math/bits.deBruijn64tab"], plainKeys := false, apart := false, laid := [("math/bits.deBruijn64tab", laid_math_bits_deBruijn64tab)], narrowed := true }
def DownsInclusionUptoSaid : Prop := downsInclusionUptoRow.holds Tryd.pinned (OpenSpec.upto downsInclusionSpec)

end Rows
end Go.Proofs.YthohigdbddilmaaDoor
