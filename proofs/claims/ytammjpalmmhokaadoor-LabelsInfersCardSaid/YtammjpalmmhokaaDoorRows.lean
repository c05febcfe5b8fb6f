/-
  NARROWER THAN 'FOR EVERY INPUT', by the rows' own cells (each row's printed sentence says how): GraphChecks: laid · DownsAll: laid · DownsInclusion: laid · GraphRanks: laid · PolicyPlays: laid · LabelsInfers: laid · LabelsTells: laid.
  DERIVED. THE GIVEN ROWS OF THIS SEAT. 7 by the template 'for every input the law returns true; each argument reads behind the call as it read before'; 0 by the template 'total and deterministic' (their statements: YtammjpalmmhokaaDoorTotals.lean).
  GIVEN WITH THE SEED: the statements are not yours to turn. If you find one false, say at which input.
  Laid BY PROGRAM, IN A SANDBOX (cutbox-rows.mjs): the forced cells as the released guide's own fill.sh prints them over the translation 6566637888dfae22… (all of the seat's roots in one cut). By AI agents, Wed Nov 11 2026. No macro, syntax, notation, axiom, sorry.
-/
import Derived.Test.YtammjpalmmhokaaDoorChecked
import GoSem.Claim
import GoSem.ClaimJoined
import GoSem.ClaimMapViews
import Derived.JoinedTies
import Derived.KernelRfl
namespace Go.Proofs.YtammjpalmmhokaaDoor
/- THE CELL 'sum', in the pinned program and in every row, IS THE sha256 OF THE DUMP (.gsa) THAT YtammjpalmmhokaaDoorProg.lean LOADS. Nothing in Lean hashes anything: it is a label: what it is worth is what the hold of that sum in a sandbox is worth. -/
noncomputable def Tryd.pinned : Pinned := { name := "ytammjpalmmhokaadoor", sum := "6566637888dfae22a295b4a6df676fbda1b46b58473ac84ccd8d7b0c6d72f7fe", checked := Tryd.checked }
namespace Rows
def none {H : Type} : Left H := { results := [], args := [] }

/- WHAT THE LISTED PACKAGE-LEVEL VARIABLES READ AS WHEN THE CALL BEGINS. Each datum BY PROGRAM (the guide's laid-datum.mjs) off the statement by which the dump's own 'gosem.cut.vars' lays the variable. In a bare row this is a premise. The card (YtammjpalmmhokaaDoorCards.lean) ties it to the program's text. -/
def laid_math_bits_deBruijn64tab {H : Type} : DataW H := .agg [.lit (.int .u8 0), .lit (.int .u8 1), .lit (.int .u8 56), .lit (.int .u8 2), .lit (.int .u8 57), .lit (.int .u8 49), .lit (.int .u8 28), .lit (.int .u8 3), .lit (.int .u8 61), .lit (.int .u8 58), .lit (.int .u8 42), .lit (.int .u8 50), .lit (.int .u8 38), .lit (.int .u8 29), .lit (.int .u8 17), .lit (.int .u8 4), .lit (.int .u8 62), .lit (.int .u8 47), .lit (.int .u8 59), .lit (.int .u8 36), .lit (.int .u8 45), .lit (.int .u8 43), .lit (.int .u8 51), .lit (.int .u8 22), .lit (.int .u8 53), .lit (.int .u8 39), .lit (.int .u8 33), .lit (.int .u8 30), .lit (.int .u8 24), .lit (.int .u8 18), .lit (.int .u8 12), .lit (.int .u8 5), .lit (.int .u8 63), .lit (.int .u8 55), .lit (.int .u8 48), .lit (.int .u8 27), .lit (.int .u8 60), .lit (.int .u8 41), .lit (.int .u8 37), .lit (.int .u8 16), .lit (.int .u8 46), .lit (.int .u8 35), .lit (.int .u8 44), .lit (.int .u8 21), .lit (.int .u8 52), .lit (.int .u8 32), .lit (.int .u8 23), .lit (.int .u8 11), .lit (.int .u8 54), .lit (.int .u8 26), .lit (.int .u8 40), .lit (.int .u8 15), .lit (.int .u8 34), .lit (.int .u8 20), .lit (.int .u8 31), .lit (.int .u8 10), .lit (.int .u8 25), .lit (.int .u8 14), .lit (.int .u8 19), .lit (.int .u8 9), .lit (.int .u8 13), .lit (.int .u8 8), .lit (.int .u8 7), .lit (.int .u8 6)]
def laid_errors_errorType {H : Type} : DataW H := .iface "internal/reflectlite.rtype" (.agg [.ptr (.lit (.string [101, 114, 114, 111, 114]))])

/-- 'watershedlaw.GraphChecks': WHATEVER THE INPUT: true; the input reads as it did. -/
def graphChecksSpec : ChangeSpec := { name := "graphChecks", fn := fun _ => fun
  | [d] => { results := [.lit (.bool true)], args := [d] }
  | _ => none }
def graphChecksRow : OpenClaim := { program := "ytammjpalmmhokaadoor", sum := "6566637888dfae22a295b4a6df676fbda1b46b58473ac84ccd8d7b0c6d72f7fe", func := "watershed/watershedlaw.GraphChecks", spec := "graphChecks", unfollowed := true, recurses := true, named := ["math/bits.deBruijn64tab"], plainKeys := false, apart := false, laid := [("math/bits.deBruijn64tab", laid_math_bits_deBruijn64tab)] }
def GraphChecksSaid : Prop := graphChecksRow.holds Tryd.pinned (OpenSpec.ofChange graphChecksSpec)

/-- ITS FALSE NEIGHBOUR: 'it returns false'. Refute it at one input. -/
def graphChecksWrong : ChangeSpec := { name := "graphChecks", fn := fun _ => fun
  | [d] => { results := [.lit (.bool false)], args := [d] }
  | _ => none }
def GraphChecksWrongFalsely : Prop := graphChecksRow.holds Tryd.pinned (OpenSpec.ofChange graphChecksWrong)

/-- 'watershedlaw.DownsAll': WHATEVER THE INPUT: true; the input reads as it did. -/
def downsAllSpec : ChangeSpec := { name := "downsAll", fn := fun _ => fun
  | [d] => { results := [.lit (.bool true)], args := [d] }
  | _ => none }
def downsAllRow : OpenClaim := { program := "ytammjpalmmhokaadoor", sum := "6566637888dfae22a295b4a6df676fbda1b46b58473ac84ccd8d7b0c6d72f7fe", func := "watershed/watershedlaw.DownsAll", spec := "downsAll", unfollowed := true, recurses := true, named := ["math/bits.deBruijn64tab"], plainKeys := false, apart := false, laid := [("math/bits.deBruijn64tab", laid_math_bits_deBruijn64tab)] }
def DownsAllSaid : Prop := downsAllRow.holds Tryd.pinned (OpenSpec.ofChange downsAllSpec)

/-- ITS FALSE NEIGHBOUR: 'it returns false'. Refute it at one input. -/
def downsAllWrong : ChangeSpec := { name := "downsAll", fn := fun _ => fun
  | [d] => { results := [.lit (.bool false)], args := [d] }
  | _ => none }
def DownsAllWrongFalsely : Prop := downsAllRow.holds Tryd.pinned (OpenSpec.ofChange downsAllWrong)

/-- 'watershedlaw.DownsInclusion': WHATEVER THE INPUT: true; the input reads as it did. -/
def downsInclusionSpec : ChangeSpec := { name := "downsInclusion", fn := fun _ => fun
  | [d] => { results := [.lit (.bool true)], args := [d] }
  | _ => none }
def downsInclusionRow : OpenClaim := { program := "ytammjpalmmhokaadoor", sum := "6566637888dfae22a295b4a6df676fbda1b46b58473ac84ccd8d7b0c6d72f7fe", func := "watershed/watershedlaw.DownsInclusion", spec := "downsInclusion", unfollowed := true, recurses := true, named := ["math/bits.deBruijn64tab"], plainKeys := false, apart := false, laid := [("math/bits.deBruijn64tab", laid_math_bits_deBruijn64tab)] }
def DownsInclusionSaid : Prop := downsInclusionRow.holds Tryd.pinned (OpenSpec.ofChange downsInclusionSpec)

/-- ITS FALSE NEIGHBOUR: 'it returns false'. Refute it at one input. -/
def downsInclusionWrong : ChangeSpec := { name := "downsInclusion", fn := fun _ => fun
  | [d] => { results := [.lit (.bool false)], args := [d] }
  | _ => none }
def DownsInclusionWrongFalsely : Prop := downsInclusionRow.holds Tryd.pinned (OpenSpec.ofChange downsInclusionWrong)

/-- 'watershedlaw.GraphRanks': WHATEVER THE INPUT: true; the input reads as it did. -/
def graphRanksSpec : ChangeSpec := { name := "graphRanks", fn := fun _ => fun
  | [d] => { results := [.lit (.bool true)], args := [d] }
  | _ => none }
def graphRanksRow : OpenClaim := { program := "ytammjpalmmhokaadoor", sum := "6566637888dfae22a295b4a6df676fbda1b46b58473ac84ccd8d7b0c6d72f7fe", func := "watershed/watershedlaw.GraphRanks", spec := "graphRanks", unfollowed := true, recurses := true, named := ["math/bits.deBruijn64tab"], plainKeys := false, apart := false, laid := [("math/bits.deBruijn64tab", laid_math_bits_deBruijn64tab)] }
def GraphRanksSaid : Prop := graphRanksRow.holds Tryd.pinned (OpenSpec.ofChange graphRanksSpec)

/-- ITS FALSE NEIGHBOUR: 'it returns false'. Refute it at one input. -/
def graphRanksWrong : ChangeSpec := { name := "graphRanks", fn := fun _ => fun
  | [d] => { results := [.lit (.bool false)], args := [d] }
  | _ => none }
def GraphRanksWrongFalsely : Prop := graphRanksRow.holds Tryd.pinned (OpenSpec.ofChange graphRanksWrong)

/-- 'watershedlaw.PolicyPlays': WHATEVER THE INPUT: true; the input reads as it did. -/
def policyPlaysSpec : ChangeSpec := { name := "policyPlays", fn := fun _ => fun
  | [d1, d2, d3] => { results := [.lit (.bool true)], args := [d1, d2, d3] }
  | _ => none }
def policyPlaysRow : OpenClaim := { program := "ytammjpalmmhokaadoor", sum := "6566637888dfae22a295b4a6df676fbda1b46b58473ac84ccd8d7b0c6d72f7fe", func := "watershed/watershedlaw.PolicyPlays", spec := "policyPlays", inPlace := ["internal/reflectlite.ValueOf", "(internal/reflectlite.Value).Type", "(internal/reflectlite.Value).IsNil", "internal/reflectlite.TypeOf", "(internal/reflectlite.Value).Elem", "(internal/reflectlite.Value).Set"], unfollowed := true, recurses := true, named := ["math/bits.deBruijn64tab", "errors.errorType"], plainKeys := false, apart := false, laid := [("math/bits.deBruijn64tab", laid_math_bits_deBruijn64tab), ("errors.errorType", laid_errors_errorType)] }
def PolicyPlaysSaid : Prop := policyPlaysRow.holds Tryd.pinned (OpenSpec.ofChange policyPlaysSpec)

/-- ITS FALSE NEIGHBOUR: 'it returns false'. Refute it at one input. -/
def policyPlaysWrong : ChangeSpec := { name := "policyPlays", fn := fun _ => fun
  | [d1, d2, d3] => { results := [.lit (.bool false)], args := [d1, d2, d3] }
  | _ => none }
def PolicyPlaysWrongFalsely : Prop := policyPlaysRow.holds Tryd.pinned (OpenSpec.ofChange policyPlaysWrong)

/-- 'watershedlaw.LabelsInfers': WHATEVER THE INPUT: true; the input reads as it did. -/
def labelsInfersSpec : ChangeSpec := { name := "labelsInfers", fn := fun _ => fun
  | [d1, d2, d3] => { results := [.lit (.bool true)], args := [d1, d2, d3] }
  | _ => none }
def labelsInfersRow : OpenClaim := { program := "ytammjpalmmhokaadoor", sum := "6566637888dfae22a295b4a6df676fbda1b46b58473ac84ccd8d7b0c6d72f7fe", func := "watershed/watershedlaw.LabelsInfers", spec := "labelsInfers", unfollowed := true, recurses := true, named := ["math/bits.deBruijn64tab"], plainKeys := false, apart := false, laid := [("math/bits.deBruijn64tab", laid_math_bits_deBruijn64tab)] }
def LabelsInfersSaid : Prop := labelsInfersRow.holds Tryd.pinned (OpenSpec.ofChange labelsInfersSpec)

/-- ITS FALSE NEIGHBOUR: 'it returns false'. Refute it at one input. -/
def labelsInfersWrong : ChangeSpec := { name := "labelsInfers", fn := fun _ => fun
  | [d1, d2, d3] => { results := [.lit (.bool false)], args := [d1, d2, d3] }
  | _ => none }
def LabelsInfersWrongFalsely : Prop := labelsInfersRow.holds Tryd.pinned (OpenSpec.ofChange labelsInfersWrong)

/-- 'watershedlaw.LabelsTells': WHATEVER THE INPUT: true; the input reads as it did. -/
def labelsTellsSpec : ChangeSpec := { name := "labelsTells", fn := fun _ => fun
  | [d1, d2, d3, d4] => { results := [.lit (.bool true)], args := [d1, d2, d3, d4] }
  | _ => none }
def labelsTellsRow : OpenClaim := { program := "ytammjpalmmhokaadoor", sum := "6566637888dfae22a295b4a6df676fbda1b46b58473ac84ccd8d7b0c6d72f7fe", func := "watershed/watershedlaw.LabelsTells", spec := "labelsTells", unfollowed := true, recurses := true, named := ["math/bits.deBruijn64tab"], plainKeys := false, apart := false, laid := [("math/bits.deBruijn64tab", laid_math_bits_deBruijn64tab)] }
def LabelsTellsSaid : Prop := labelsTellsRow.holds Tryd.pinned (OpenSpec.ofChange labelsTellsSpec)

/-- ITS FALSE NEIGHBOUR: 'it returns false'. Refute it at one input. -/
def labelsTellsWrong : ChangeSpec := { name := "labelsTells", fn := fun _ => fun
  | [d1, d2, d3, d4] => { results := [.lit (.bool false)], args := [d1, d2, d3, d4] }
  | _ => none }
def LabelsTellsWrongFalsely : Prop := labelsTellsRow.holds Tryd.pinned (OpenSpec.ofChange labelsTellsWrong)

/- THE SECOND FORM. 'bulk': how many values and letters a reading holds, each counted each time it is reached (what is shared counts as often as it is met; a slice's spare places count too). A statement '..UptoSaid' is the law's where the arguments, and the package variables that the reading takes, are together of bulk at most 1048576: NARROWER than '..Said'. Prove '..Said' where nothing that the law and all that it calls make is longer than what came in: it says more and counts as full. Else prove '..UptoSaid'. A law counts once. -/
mutual
def uptoBulk {H : Type} : DataW H → Nat
  | .lit (.string bytes) => bytes.length + 1
  | .lit _ => 1
  | .nil => 1
  | .ptr d => uptoBulk d + 1
  | .slice elems spare => uptoBulkAll elems + uptoBulkAll spare + 1
  | .agg parts => uptoBulkAll parts + 1
  | .iface _ d => uptoBulk d + 1
  | .map entries => uptoBulkEntries entries + 1
  | .held _ => 1
def uptoBulkAll {H : Type} : List (DataW H) → Nat
  | [] => 0
  | d :: r => uptoBulk d + uptoBulkAll r
def uptoBulkEntries {H : Type} : List (Lit × DataW H) → Nat
  | [] => 0
  | x :: r => uptoBulkEntry x + uptoBulkEntries r
def uptoBulkEntry {H : Type} : Lit × DataW H → Nat
  | (.string bytes, d) => bytes.length + uptoBulk d + 1
  | (_, d) => uptoBulk d + 1
 end
def uptoSmall : (H : Type) → List (DataW H) → Bool := fun _ ds => decide (uptoBulkAll ds ≤ 1048576)
def OpenSpec.upto (s : _root_.Go.ChangeSpec) : _root_.Go.OpenSpec := { _root_.Go.OpenSpec.ofChange s with cond := some uptoSmall }

/-- 'watershedlaw.GraphChecks', WHERE WHAT IT READS IS OF BULK AT MOST 1048576: true; the input reads as it did. -/
def graphChecksUptoRow : OpenClaim := { program := "ytammjpalmmhokaadoor", sum := "6566637888dfae22a295b4a6df676fbda1b46b58473ac84ccd8d7b0c6d72f7fe", func := "watershed/watershedlaw.GraphChecks", spec := "graphChecks", unfollowed := true, recurses := true, named := ["math/bits.deBruijn64tab"], plainKeys := false, apart := false, laid := [("math/bits.deBruijn64tab", laid_math_bits_deBruijn64tab)], narrowed := true }
def GraphChecksUptoSaid : Prop := graphChecksUptoRow.holds Tryd.pinned (OpenSpec.upto graphChecksSpec)

/-- 'watershedlaw.DownsAll', WHERE WHAT IT READS IS OF BULK AT MOST 1048576: true; the input reads as it did. -/
def downsAllUptoRow : OpenClaim := { program := "ytammjpalmmhokaadoor", sum := "6566637888dfae22a295b4a6df676fbda1b46b58473ac84ccd8d7b0c6d72f7fe", func := "watershed/watershedlaw.DownsAll", spec := "downsAll", unfollowed := true, recurses := true, named := ["math/bits.deBruijn64tab"], plainKeys := false, apart := false, laid := [("math/bits.deBruijn64tab", laid_math_bits_deBruijn64tab)], narrowed := true }
def DownsAllUptoSaid : Prop := downsAllUptoRow.holds Tryd.pinned (OpenSpec.upto downsAllSpec)

/-- 'watershedlaw.DownsInclusion', WHERE WHAT IT READS IS OF BULK AT MOST 1048576: true; the input reads as it did. -/
def downsInclusionUptoRow : OpenClaim := { program := "ytammjpalmmhokaadoor", sum := "6566637888dfae22a295b4a6df676fbda1b46b58473ac84ccd8d7b0c6d72f7fe", func := "watershed/watershedlaw.DownsInclusion", spec := "downsInclusion", unfollowed := true, recurses := true, named := ["math/bits.deBruijn64tab"], plainKeys := false, apart := false, laid := [("math/bits.deBruijn64tab", laid_math_bits_deBruijn64tab)], narrowed := true }
def DownsInclusionUptoSaid : Prop := downsInclusionUptoRow.holds Tryd.pinned (OpenSpec.upto downsInclusionSpec)

/-- 'watershedlaw.GraphRanks', WHERE WHAT IT READS IS OF BULK AT MOST 1048576: true; the input reads as it did. -/
def graphRanksUptoRow : OpenClaim := { program := "ytammjpalmmhokaadoor", sum := "6566637888dfae22a295b4a6df676fbda1b46b58473ac84ccd8d7b0c6d72f7fe", func := "watershed/watershedlaw.GraphRanks", spec := "graphRanks", unfollowed := true, recurses := true, named := ["math/bits.deBruijn64tab"], plainKeys := false, apart := false, laid := [("math/bits.deBruijn64tab", laid_math_bits_deBruijn64tab)], narrowed := true }
def GraphRanksUptoSaid : Prop := graphRanksUptoRow.holds Tryd.pinned (OpenSpec.upto graphRanksSpec)

/-- 'watershedlaw.PolicyPlays', WHERE WHAT IT READS IS OF BULK AT MOST 1048576: true; the input reads as it did. -/
def policyPlaysUptoRow : OpenClaim := { program := "ytammjpalmmhokaadoor", sum := "6566637888dfae22a295b4a6df676fbda1b46b58473ac84ccd8d7b0c6d72f7fe", func := "watershed/watershedlaw.PolicyPlays", spec := "policyPlays", inPlace := ["internal/reflectlite.ValueOf", "(internal/reflectlite.Value).Type", "(internal/reflectlite.Value).IsNil", "internal/reflectlite.TypeOf", "(internal/reflectlite.Value).Elem", "(internal/reflectlite.Value).Set"], unfollowed := true, recurses := true, named := ["math/bits.deBruijn64tab", "errors.errorType"], plainKeys := false, apart := false, laid := [("math/bits.deBruijn64tab", laid_math_bits_deBruijn64tab), ("errors.errorType", laid_errors_errorType)], narrowed := true }
def PolicyPlaysUptoSaid : Prop := policyPlaysUptoRow.holds Tryd.pinned (OpenSpec.upto policyPlaysSpec)

/-- 'watershedlaw.LabelsInfers', WHERE WHAT IT READS IS OF BULK AT MOST 1048576: true; the input reads as it did. -/
def labelsInfersUptoRow : OpenClaim := { program := "ytammjpalmmhokaadoor", sum := "6566637888dfae22a295b4a6df676fbda1b46b58473ac84ccd8d7b0c6d72f7fe", func := "watershed/watershedlaw.LabelsInfers", spec := "labelsInfers", unfollowed := true, recurses := true, named := ["math/bits.deBruijn64tab"], plainKeys := false, apart := false, laid := [("math/bits.deBruijn64tab", laid_math_bits_deBruijn64tab)], narrowed := true }
def LabelsInfersUptoSaid : Prop := labelsInfersUptoRow.holds Tryd.pinned (OpenSpec.upto labelsInfersSpec)

/-- 'watershedlaw.LabelsTells', WHERE WHAT IT READS IS OF BULK AT MOST 1048576: true; the input reads as it did. -/
def labelsTellsUptoRow : OpenClaim := { program := "ytammjpalmmhokaadoor", sum := "6566637888dfae22a295b4a6df676fbda1b46b58473ac84ccd8d7b0c6d72f7fe", func := "watershed/watershedlaw.LabelsTells", spec := "labelsTells", unfollowed := true, recurses := true, named := ["math/bits.deBruijn64tab"], plainKeys := false, apart := false, laid := [("math/bits.deBruijn64tab", laid_math_bits_deBruijn64tab)], narrowed := true }
def LabelsTellsUptoSaid : Prop := labelsTellsUptoRow.holds Tryd.pinned (OpenSpec.upto labelsTellsSpec)

end Rows
end Go.Proofs.YtammjpalmmhokaaDoor
