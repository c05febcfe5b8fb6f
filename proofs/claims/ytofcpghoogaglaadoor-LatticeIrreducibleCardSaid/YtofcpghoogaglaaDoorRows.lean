/-
  NARROWER THAN 'FOR EVERY INPUT', by the rows' own cells (each row's printed sentence says how): OrderMakes: laid · OrderChecks: laid · OrderCovers: laid · PolarTells: laid · MobiusChains: laid · OrderSorts: laid · MobiusTimes: laid · FixedTells: laid · LatticeMakes: laid · DownsTells: laid · OrderChains: laid · LatticeIrreducible: laid.
  DERIVED. THE GIVEN ROWS OF THIS SEAT. 12 by the template 'for every input the law returns true; each argument reads behind the call as it read before'; 0 by the template 'total and deterministic' (their statements: YtofcpghoogaglaaDoorTotals.lean).
  GIVEN WITH THE SEED: the statements are not yours to turn. If you find one false, say at which input.
  Laid BY PROGRAM, IN A SANDBOX (cutbox-rows.mjs): the forced cells as the released guide's own fill.sh prints them over the translation afab7b918b171d12… (all of the seat's roots in one cut). By AI agents, Wed Nov 11 2026. No macro, syntax, notation, axiom, sorry.
-/
import Derived.Test.YtofcpghoogaglaaDoorChecked
import GoSem.Claim
import GoSem.ClaimJoined
import GoSem.ClaimMapViews
import Derived.JoinedTies
import Derived.KernelRfl
namespace Go.Proofs.YtofcpghoogaglaaDoor
/- THE CELL 'sum', in the pinned program and in every row, IS THE sha256 OF THE DUMP (.gsa) THAT YtofcpghoogaglaaDoorProg.lean LOADS. Nothing in Lean hashes anything: it is a label: what it is worth is what the hold of that sum in a sandbox is worth. -/
noncomputable def Tryd.pinned : Pinned := { name := "ytofcpghoogaglaadoor", sum := "afab7b918b171d1298ad476827502b0573d83c162049e78a73fbe67d66515227", checked := Tryd.checked }
namespace Rows
def none {H : Type} : Left H := { results := [], args := [] }

/- WHAT THE LISTED PACKAGE-LEVEL VARIABLES READ AS WHEN THE CALL BEGINS. Each datum BY PROGRAM (the guide's laid-datum.mjs) off the statement by which the dump's own 'gosem.cut.vars' lays the variable. In a bare row this is a premise. The card (YtofcpghoogaglaaDoorCards.lean) ties it to the program's text. -/
def laid_math_bits_deBruijn64tab {H : Type} : DataW H := .agg [.lit (.int .u8 0), .lit (.int .u8 1), .lit (.int .u8 56), .lit (.int .u8 2), .lit (.int .u8 57), .lit (.int .u8 49), .lit (.int .u8 28), .lit (.int .u8 3), .lit (.int .u8 61), .lit (.int .u8 58), .lit (.int .u8 42), .lit (.int .u8 50), .lit (.int .u8 38), .lit (.int .u8 29), .lit (.int .u8 17), .lit (.int .u8 4), .lit (.int .u8 62), .lit (.int .u8 47), .lit (.int .u8 59), .lit (.int .u8 36), .lit (.int .u8 45), .lit (.int .u8 43), .lit (.int .u8 51), .lit (.int .u8 22), .lit (.int .u8 53), .lit (.int .u8 39), .lit (.int .u8 33), .lit (.int .u8 30), .lit (.int .u8 24), .lit (.int .u8 18), .lit (.int .u8 12), .lit (.int .u8 5), .lit (.int .u8 63), .lit (.int .u8 55), .lit (.int .u8 48), .lit (.int .u8 27), .lit (.int .u8 60), .lit (.int .u8 41), .lit (.int .u8 37), .lit (.int .u8 16), .lit (.int .u8 46), .lit (.int .u8 35), .lit (.int .u8 44), .lit (.int .u8 21), .lit (.int .u8 52), .lit (.int .u8 32), .lit (.int .u8 23), .lit (.int .u8 11), .lit (.int .u8 54), .lit (.int .u8 26), .lit (.int .u8 40), .lit (.int .u8 15), .lit (.int .u8 34), .lit (.int .u8 20), .lit (.int .u8 31), .lit (.int .u8 10), .lit (.int .u8 25), .lit (.int .u8 14), .lit (.int .u8 19), .lit (.int .u8 9), .lit (.int .u8 13), .lit (.int .u8 8), .lit (.int .u8 7), .lit (.int .u8 6)]

/-- 'watershedlaw.OrderMakes': WHATEVER THE INPUT: true; the input reads as it did. -/
def orderMakesSpec : ChangeSpec := { name := "orderMakes", fn := fun _ => fun
  | [d1, d2] => { results := [.lit (.bool true)], args := [d1, d2] }
  | _ => none }
def orderMakesRow : OpenClaim := { program := "ytofcpghoogaglaadoor", sum := "afab7b918b171d1298ad476827502b0573d83c162049e78a73fbe67d66515227", func := "watershed/watershedlaw.OrderMakes", spec := "orderMakes", unfollowed := true, recurses := true, named := ["math/bits.deBruijn64tab"], apart := false, laid := [("math/bits.deBruijn64tab", laid_math_bits_deBruijn64tab)] }
def OrderMakesSaid : Prop := orderMakesRow.holds Tryd.pinned (OpenSpec.ofChange orderMakesSpec)

/-- ITS FALSE NEIGHBOUR: 'it returns false'. Refute it at one input. -/
def orderMakesWrong : ChangeSpec := { name := "orderMakes", fn := fun _ => fun
  | [d1, d2] => { results := [.lit (.bool false)], args := [d1, d2] }
  | _ => none }
def OrderMakesWrongFalsely : Prop := orderMakesRow.holds Tryd.pinned (OpenSpec.ofChange orderMakesWrong)

/-- 'watershedlaw.OrderChecks': WHATEVER THE INPUT: true; the input reads as it did. -/
def orderChecksSpec : ChangeSpec := { name := "orderChecks", fn := fun _ => fun
  | [d] => { results := [.lit (.bool true)], args := [d] }
  | _ => none }
def orderChecksRow : OpenClaim := { program := "ytofcpghoogaglaadoor", sum := "afab7b918b171d1298ad476827502b0573d83c162049e78a73fbe67d66515227", func := "watershed/watershedlaw.OrderChecks", spec := "orderChecks", unfollowed := true, recurses := true, named := ["math/bits.deBruijn64tab"], apart := false, laid := [("math/bits.deBruijn64tab", laid_math_bits_deBruijn64tab)] }
def OrderChecksSaid : Prop := orderChecksRow.holds Tryd.pinned (OpenSpec.ofChange orderChecksSpec)

/-- ITS FALSE NEIGHBOUR: 'it returns false'. Refute it at one input. -/
def orderChecksWrong : ChangeSpec := { name := "orderChecks", fn := fun _ => fun
  | [d] => { results := [.lit (.bool false)], args := [d] }
  | _ => none }
def OrderChecksWrongFalsely : Prop := orderChecksRow.holds Tryd.pinned (OpenSpec.ofChange orderChecksWrong)

/-- 'watershedlaw.OrderCovers': WHATEVER THE INPUT: true; the input reads as it did. -/
def orderCoversSpec : ChangeSpec := { name := "orderCovers", fn := fun _ => fun
  | [d] => { results := [.lit (.bool true)], args := [d] }
  | _ => none }
def orderCoversRow : OpenClaim := { program := "ytofcpghoogaglaadoor", sum := "afab7b918b171d1298ad476827502b0573d83c162049e78a73fbe67d66515227", func := "watershed/watershedlaw.OrderCovers", spec := "orderCovers", unfollowed := true, recurses := true, named := ["math/bits.deBruijn64tab"], apart := false, laid := [("math/bits.deBruijn64tab", laid_math_bits_deBruijn64tab)] }
def OrderCoversSaid : Prop := orderCoversRow.holds Tryd.pinned (OpenSpec.ofChange orderCoversSpec)

/-- ITS FALSE NEIGHBOUR: 'it returns false'. Refute it at one input. -/
def orderCoversWrong : ChangeSpec := { name := "orderCovers", fn := fun _ => fun
  | [d] => { results := [.lit (.bool false)], args := [d] }
  | _ => none }
def OrderCoversWrongFalsely : Prop := orderCoversRow.holds Tryd.pinned (OpenSpec.ofChange orderCoversWrong)

/-- 'watershedlaw.PolarTells': WHATEVER THE INPUT: true; the input reads as it did. -/
def polarTellsSpec : ChangeSpec := { name := "polarTells", fn := fun _ => fun
  | [d1, d2, d3, d4] => { results := [.lit (.bool true)], args := [d1, d2, d3, d4] }
  | _ => none }
def polarTellsRow : OpenClaim := { program := "ytofcpghoogaglaadoor", sum := "afab7b918b171d1298ad476827502b0573d83c162049e78a73fbe67d66515227", func := "watershed/watershedlaw.PolarTells", spec := "polarTells", unfollowed := true, recurses := true, named := ["math/bits.deBruijn64tab"], apart := false, laid := [("math/bits.deBruijn64tab", laid_math_bits_deBruijn64tab)] }
def PolarTellsSaid : Prop := polarTellsRow.holds Tryd.pinned (OpenSpec.ofChange polarTellsSpec)

/-- ITS FALSE NEIGHBOUR: 'it returns false'. Refute it at one input. -/
def polarTellsWrong : ChangeSpec := { name := "polarTells", fn := fun _ => fun
  | [d1, d2, d3, d4] => { results := [.lit (.bool false)], args := [d1, d2, d3, d4] }
  | _ => none }
def PolarTellsWrongFalsely : Prop := polarTellsRow.holds Tryd.pinned (OpenSpec.ofChange polarTellsWrong)

/-- 'watershedlaw.MobiusChains': WHATEVER THE INPUT: true; the input reads as it did. -/
def mobiusChainsSpec : ChangeSpec := { name := "mobiusChains", fn := fun _ => fun
  | [d1, d2, d3] => { results := [.lit (.bool true)], args := [d1, d2, d3] }
  | _ => none }
def mobiusChainsRow : OpenClaim := { program := "ytofcpghoogaglaadoor", sum := "afab7b918b171d1298ad476827502b0573d83c162049e78a73fbe67d66515227", func := "watershed/watershedlaw.MobiusChains", spec := "mobiusChains", unfollowed := true, recurses := true, named := ["math/bits.deBruijn64tab"], apart := false, laid := [("math/bits.deBruijn64tab", laid_math_bits_deBruijn64tab)] }
def MobiusChainsSaid : Prop := mobiusChainsRow.holds Tryd.pinned (OpenSpec.ofChange mobiusChainsSpec)

/-- ITS FALSE NEIGHBOUR: 'it returns false'. Refute it at one input. -/
def mobiusChainsWrong : ChangeSpec := { name := "mobiusChains", fn := fun _ => fun
  | [d1, d2, d3] => { results := [.lit (.bool false)], args := [d1, d2, d3] }
  | _ => none }
def MobiusChainsWrongFalsely : Prop := mobiusChainsRow.holds Tryd.pinned (OpenSpec.ofChange mobiusChainsWrong)

/-- 'watershedlaw.OrderSorts': WHATEVER THE INPUT: true; the input reads as it did. -/
def orderSortsSpec : ChangeSpec := { name := "orderSorts", fn := fun _ => fun
  | [d] => { results := [.lit (.bool true)], args := [d] }
  | _ => none }
def orderSortsRow : OpenClaim := { program := "ytofcpghoogaglaadoor", sum := "afab7b918b171d1298ad476827502b0573d83c162049e78a73fbe67d66515227", func := "watershed/watershedlaw.OrderSorts", spec := "orderSorts", unfollowed := true, recurses := true, named := ["math/bits.deBruijn64tab"], apart := false, laid := [("math/bits.deBruijn64tab", laid_math_bits_deBruijn64tab)] }
def OrderSortsSaid : Prop := orderSortsRow.holds Tryd.pinned (OpenSpec.ofChange orderSortsSpec)

/-- ITS FALSE NEIGHBOUR: 'it returns false'. Refute it at one input. -/
def orderSortsWrong : ChangeSpec := { name := "orderSorts", fn := fun _ => fun
  | [d] => { results := [.lit (.bool false)], args := [d] }
  | _ => none }
def OrderSortsWrongFalsely : Prop := orderSortsRow.holds Tryd.pinned (OpenSpec.ofChange orderSortsWrong)

/-- 'watershedlaw.MobiusTimes': WHATEVER THE INPUT: true; the input reads as it did. -/
def mobiusTimesSpec : ChangeSpec := { name := "mobiusTimes", fn := fun _ => fun
  | [d1, d2, d3] => { results := [.lit (.bool true)], args := [d1, d2, d3] }
  | _ => none }
def mobiusTimesRow : OpenClaim := { program := "ytofcpghoogaglaadoor", sum := "afab7b918b171d1298ad476827502b0573d83c162049e78a73fbe67d66515227", func := "watershed/watershedlaw.MobiusTimes", spec := "mobiusTimes", unfollowed := true, recurses := true, named := ["math/bits.deBruijn64tab"], apart := false, laid := [("math/bits.deBruijn64tab", laid_math_bits_deBruijn64tab)] }
def MobiusTimesSaid : Prop := mobiusTimesRow.holds Tryd.pinned (OpenSpec.ofChange mobiusTimesSpec)

/-- ITS FALSE NEIGHBOUR: 'it returns false'. Refute it at one input. -/
def mobiusTimesWrong : ChangeSpec := { name := "mobiusTimes", fn := fun _ => fun
  | [d1, d2, d3] => { results := [.lit (.bool false)], args := [d1, d2, d3] }
  | _ => none }
def MobiusTimesWrongFalsely : Prop := mobiusTimesRow.holds Tryd.pinned (OpenSpec.ofChange mobiusTimesWrong)

/-- 'watershedlaw.FixedTells': WHATEVER THE INPUT: true; the input reads as it did. -/
def fixedTellsSpec : ChangeSpec := { name := "fixedTells", fn := fun _ => fun
  | [d1, d2] => { results := [.lit (.bool true)], args := [d1, d2] }
  | _ => none }
def fixedTellsRow : OpenClaim := { program := "ytofcpghoogaglaadoor", sum := "afab7b918b171d1298ad476827502b0573d83c162049e78a73fbe67d66515227", func := "watershed/watershedlaw.FixedTells", spec := "fixedTells", unfollowed := true, recurses := true, named := ["math/bits.deBruijn64tab"], apart := false, laid := [("math/bits.deBruijn64tab", laid_math_bits_deBruijn64tab)] }
def FixedTellsSaid : Prop := fixedTellsRow.holds Tryd.pinned (OpenSpec.ofChange fixedTellsSpec)

/-- ITS FALSE NEIGHBOUR: 'it returns false'. Refute it at one input. -/
def fixedTellsWrong : ChangeSpec := { name := "fixedTells", fn := fun _ => fun
  | [d1, d2] => { results := [.lit (.bool false)], args := [d1, d2] }
  | _ => none }
def FixedTellsWrongFalsely : Prop := fixedTellsRow.holds Tryd.pinned (OpenSpec.ofChange fixedTellsWrong)

/-- 'watershedlaw.LatticeMakes': WHATEVER THE INPUT: true; the input reads as it did. -/
def latticeMakesSpec : ChangeSpec := { name := "latticeMakes", fn := fun _ => fun
  | [d] => { results := [.lit (.bool true)], args := [d] }
  | _ => none }
def latticeMakesRow : OpenClaim := { program := "ytofcpghoogaglaadoor", sum := "afab7b918b171d1298ad476827502b0573d83c162049e78a73fbe67d66515227", func := "watershed/watershedlaw.LatticeMakes", spec := "latticeMakes", unfollowed := true, recurses := true, named := ["math/bits.deBruijn64tab"], apart := false, laid := [("math/bits.deBruijn64tab", laid_math_bits_deBruijn64tab)] }
def LatticeMakesSaid : Prop := latticeMakesRow.holds Tryd.pinned (OpenSpec.ofChange latticeMakesSpec)

/-- ITS FALSE NEIGHBOUR: 'it returns false'. Refute it at one input. -/
def latticeMakesWrong : ChangeSpec := { name := "latticeMakes", fn := fun _ => fun
  | [d] => { results := [.lit (.bool false)], args := [d] }
  | _ => none }
def LatticeMakesWrongFalsely : Prop := latticeMakesRow.holds Tryd.pinned (OpenSpec.ofChange latticeMakesWrong)

/-- 'watershedlaw.DownsTells': WHATEVER THE INPUT: true; the input reads as it did. -/
def downsTellsSpec : ChangeSpec := { name := "downsTells", fn := fun _ => fun
  | [d1, d2] => { results := [.lit (.bool true)], args := [d1, d2] }
  | _ => none }
def downsTellsRow : OpenClaim := { program := "ytofcpghoogaglaadoor", sum := "afab7b918b171d1298ad476827502b0573d83c162049e78a73fbe67d66515227", func := "watershed/watershedlaw.DownsTells", spec := "downsTells", unfollowed := true, recurses := true, named := ["math/bits.deBruijn64tab"], apart := false, laid := [("math/bits.deBruijn64tab", laid_math_bits_deBruijn64tab)] }
def DownsTellsSaid : Prop := downsTellsRow.holds Tryd.pinned (OpenSpec.ofChange downsTellsSpec)

/-- ITS FALSE NEIGHBOUR: 'it returns false'. Refute it at one input. -/
def downsTellsWrong : ChangeSpec := { name := "downsTells", fn := fun _ => fun
  | [d1, d2] => { results := [.lit (.bool false)], args := [d1, d2] }
  | _ => none }
def DownsTellsWrongFalsely : Prop := downsTellsRow.holds Tryd.pinned (OpenSpec.ofChange downsTellsWrong)

/-- 'watershedlaw.OrderChains': WHATEVER THE INPUT: true; the input reads as it did. -/
def orderChainsSpec : ChangeSpec := { name := "orderChains", fn := fun _ => fun
  | [d] => { results := [.lit (.bool true)], args := [d] }
  | _ => none }
def orderChainsRow : OpenClaim := { program := "ytofcpghoogaglaadoor", sum := "afab7b918b171d1298ad476827502b0573d83c162049e78a73fbe67d66515227", func := "watershed/watershedlaw.OrderChains", spec := "orderChains", unfollowed := true, recurses := true, named := ["math/bits.deBruijn64tab"], apart := false, laid := [("math/bits.deBruijn64tab", laid_math_bits_deBruijn64tab)] }
def OrderChainsSaid : Prop := orderChainsRow.holds Tryd.pinned (OpenSpec.ofChange orderChainsSpec)

/-- ITS FALSE NEIGHBOUR: 'it returns false'. Refute it at one input. -/
def orderChainsWrong : ChangeSpec := { name := "orderChains", fn := fun _ => fun
  | [d] => { results := [.lit (.bool false)], args := [d] }
  | _ => none }
def OrderChainsWrongFalsely : Prop := orderChainsRow.holds Tryd.pinned (OpenSpec.ofChange orderChainsWrong)

/-- 'watershedlaw.LatticeIrreducible': WHATEVER THE INPUT: true; the input reads as it did. -/
def latticeIrreducibleSpec : ChangeSpec := { name := "latticeIrreducible", fn := fun _ => fun
  | [d] => { results := [.lit (.bool true)], args := [d] }
  | _ => none }
def latticeIrreducibleRow : OpenClaim := { program := "ytofcpghoogaglaadoor", sum := "afab7b918b171d1298ad476827502b0573d83c162049e78a73fbe67d66515227", func := "watershed/watershedlaw.LatticeIrreducible", spec := "latticeIrreducible", unfollowed := true, recurses := true, named := ["math/bits.deBruijn64tab"], apart := false, laid := [("math/bits.deBruijn64tab", laid_math_bits_deBruijn64tab)] }
def LatticeIrreducibleSaid : Prop := latticeIrreducibleRow.holds Tryd.pinned (OpenSpec.ofChange latticeIrreducibleSpec)

/-- ITS FALSE NEIGHBOUR: 'it returns false'. Refute it at one input. -/
def latticeIrreducibleWrong : ChangeSpec := { name := "latticeIrreducible", fn := fun _ => fun
  | [d] => { results := [.lit (.bool false)], args := [d] }
  | _ => none }
def LatticeIrreducibleWrongFalsely : Prop := latticeIrreducibleRow.holds Tryd.pinned (OpenSpec.ofChange latticeIrreducibleWrong)

/- THE SECOND FORM. 'bulk': how many values and letters a reading holds, each counted each time it is reached (what is shared counts as often as it is met; a slice's spare places count too). A statement '..UptoSaid' is the law's where the arguments, and the package variables that the reading takes, are together of bulk at most 1048576: NARROWER than '..Said'. Prove '..Said' where nothing that the law and all that it calls make is longer than what came in: it says more and counts as full. Else prove '..UptoSaid'. A law counts once. -/
mutual
def uptoBulk {H : Type} : DataW H → Nat
  | .lit (.string bytes) => bytes.length + 1
  | .lit _ => 1
  | .nil => 1
  | .ptr d => uptoBulk d + 1
  | .slice elems spare => uptoBulkAll elems + uptoBulkAll spare + 1
  | .agg parts => uptoBulkAll parts + 1
  | .iface _ d => uptoBulk d + 1
  | .map entries => uptoBulkEntries entries + 1
  | .held _ => 1
def uptoBulkAll {H : Type} : List (DataW H) → Nat
  | [] => 0
  | d :: r => uptoBulk d + uptoBulkAll r
def uptoBulkEntries {H : Type} : List (Lit × DataW H) → Nat
  | [] => 0
  | x :: r => uptoBulkEntry x + uptoBulkEntries r
def uptoBulkEntry {H : Type} : Lit × DataW H → Nat
  | (.string bytes, d) => bytes.length + uptoBulk d + 1
  | (_, d) => uptoBulk d + 1
 end
def uptoSmall : (H : Type) → List (DataW H) → Bool := fun _ ds => decide (uptoBulkAll ds ≤ 1048576)
def OpenSpec.upto (s : _root_.Go.ChangeSpec) : _root_.Go.OpenSpec := { _root_.Go.OpenSpec.ofChange s with cond := some uptoSmall }

/-- 'watershedlaw.OrderMakes', WHERE WHAT IT READS IS OF BULK AT MOST 1048576: true; the input reads as it did. -/
def orderMakesUptoRow : OpenClaim := { program := "ytofcpghoogaglaadoor", sum := "afab7b918b171d1298ad476827502b0573d83c162049e78a73fbe67d66515227", func := "watershed/watershedlaw.OrderMakes", spec := "orderMakes", unfollowed := true, recurses := true, named := ["math/bits.deBruijn64tab"], apart := false, laid := [("math/bits.deBruijn64tab", laid_math_bits_deBruijn64tab)], narrowed := true }
def OrderMakesUptoSaid : Prop := orderMakesUptoRow.holds Tryd.pinned (OpenSpec.upto orderMakesSpec)

/-- 'watershedlaw.OrderChecks', WHERE WHAT IT READS IS OF BULK AT MOST 1048576: true; the input reads as it did. -/
def orderChecksUptoRow : OpenClaim := { program := "ytofcpghoogaglaadoor", sum := "afab7b918b171d1298ad476827502b0573d83c162049e78a73fbe67d66515227", func := "watershed/watershedlaw.OrderChecks", spec := "orderChecks", unfollowed := true, recurses := true, named := ["math/bits.deBruijn64tab"], apart := false, laid := [("math/bits.deBruijn64tab", laid_math_bits_deBruijn64tab)], narrowed := true }
def OrderChecksUptoSaid : Prop := orderChecksUptoRow.holds Tryd.pinned (OpenSpec.upto orderChecksSpec)

/-- 'watershedlaw.OrderCovers', WHERE WHAT IT READS IS OF BULK AT MOST 1048576: true; the input reads as it did. -/
def orderCoversUptoRow : OpenClaim := { program := "ytofcpghoogaglaadoor", sum := "afab7b918b171d1298ad476827502b0573d83c162049e78a73fbe67d66515227", func := "watershed/watershedlaw.OrderCovers", spec := "orderCovers", unfollowed := true, recurses := true, named := ["math/bits.deBruijn64tab"], apart := false, laid := [("math/bits.deBruijn64tab", laid_math_bits_deBruijn64tab)], narrowed := true }
def OrderCoversUptoSaid : Prop := orderCoversUptoRow.holds Tryd.pinned (OpenSpec.upto orderCoversSpec)

/-- 'watershedlaw.PolarTells', WHERE WHAT IT READS IS OF BULK AT MOST 1048576: true; the input reads as it did. -/
def polarTellsUptoRow : OpenClaim := { program := "ytofcpghoogaglaadoor", sum := "afab7b918b171d1298ad476827502b0573d83c162049e78a73fbe67d66515227", func := "watershed/watershedlaw.PolarTells", spec := "polarTells", unfollowed := true, recurses := true, named := ["math/bits.deBruijn64tab"], apart := false, laid := [("math/bits.deBruijn64tab", laid_math_bits_deBruijn64tab)], narrowed := true }
def PolarTellsUptoSaid : Prop := polarTellsUptoRow.holds Tryd.pinned (OpenSpec.upto polarTellsSpec)

/-- 'watershedlaw.MobiusChains', WHERE WHAT IT READS IS OF BULK AT MOST 1048576: true; the input reads as it did. -/
def mobiusChainsUptoRow : OpenClaim := { program := "ytofcpghoogaglaadoor", sum := "afab7b918b171d1298ad476827502b0573d83c162049e78a73fbe67d66515227", func := "watershed/watershedlaw.MobiusChains", spec := "mobiusChains", unfollowed := true, recurses := true, named := ["math/bits.deBruijn64tab"], apart := false, laid := [("math/bits.deBruijn64tab", laid_math_bits_deBruijn64tab)], narrowed := true }
def MobiusChainsUptoSaid : Prop := mobiusChainsUptoRow.holds Tryd.pinned (OpenSpec.upto mobiusChainsSpec)

/-- 'watershedlaw.OrderSorts', WHERE WHAT IT READS IS OF BULK AT MOST 1048576: true; the input reads as it did. -/
def orderSortsUptoRow : OpenClaim := { program := "ytofcpghoogaglaadoor", sum := "afab7b918b171d1298ad476827502b0573d83c162049e78a73fbe67d66515227", func := "watershed/watershedlaw.OrderSorts", spec := "orderSorts", unfollowed := true, recurses := true, named := ["math/bits.deBruijn64tab"], apart := false, laid := [("math/bits.deBruijn64tab", laid_math_bits_deBruijn64tab)], narrowed := true }
def OrderSortsUptoSaid : Prop := orderSortsUptoRow.holds Tryd.pinned (OpenSpec.upto orderSortsSpec)

/-- 'watershedlaw.MobiusTimes', WHERE WHAT IT READS IS OF BULK AT MOST 1048576: true; the input reads as it did. -/
def mobiusTimesUptoRow : OpenClaim := { program := "ytofcpghoogaglaadoor", sum := "afab7b918b171d1298ad476827502b0573d83c162049e78a73fbe67d66515227", func := "watershed/watershedlaw.MobiusTimes", spec := "mobiusTimes", unfollowed := true, recurses := true, named := ["math/bits.deBruijn64tab"], apart := false, laid := [("math/bits.deBruijn64tab", laid_math_bits_deBruijn64tab)], narrowed := true }
def MobiusTimesUptoSaid : Prop := mobiusTimesUptoRow.holds Tryd.pinned (OpenSpec.upto mobiusTimesSpec)

/-- 'watershedlaw.FixedTells', WHERE WHAT IT READS IS OF BULK AT MOST 1048576: true; the input reads as it did. -/
def fixedTellsUptoRow : OpenClaim := { program := "ytofcpghoogaglaadoor", sum := "afab7b918b171d1298ad476827502b0573d83c162049e78a73fbe67d66515227", func := "watershed/watershedlaw.FixedTells", spec := "fixedTells", unfollowed := true, recurses := true, named := ["math/bits.deBruijn64tab"], apart := false, laid := [("math/bits.deBruijn64tab", laid_math_bits_deBruijn64tab)], narrowed := true }
def FixedTellsUptoSaid : Prop := fixedTellsUptoRow.holds Tryd.pinned (OpenSpec.upto fixedTellsSpec)

/-- 'watershedlaw.LatticeMakes', WHERE WHAT IT READS IS OF BULK AT MOST 1048576: true; the input reads as it did. -/
def latticeMakesUptoRow : OpenClaim := { program := "ytofcpghoogaglaadoor", sum := "afab7b918b171d1298ad476827502b0573d83c162049e78a73fbe67d66515227", func := "watershed/watershedlaw.LatticeMakes", spec := "latticeMakes", unfollowed := true, recurses := true, named := ["math/bits.deBruijn64tab"], apart := false, laid := [("math/bits.deBruijn64tab", laid_math_bits_deBruijn64tab)], narrowed := true }
def LatticeMakesUptoSaid : Prop := latticeMakesUptoRow.holds Tryd.pinned (OpenSpec.upto latticeMakesSpec)

/-- 'watershedlaw.DownsTells', WHERE WHAT IT READS IS OF BULK AT MOST 1048576: true; the input reads as it did. -/
def downsTellsUptoRow : OpenClaim := { program := "ytofcpghoogaglaadoor", sum := "afab7b918b171d1298ad476827502b0573d83c162049e78a73fbe67d66515227", func := "watershed/watershedlaw.DownsTells", spec := "downsTells", unfollowed := true, recurses := true, named := ["math/bits.deBruijn64tab"], apart := false, laid := [("math/bits.deBruijn64tab", laid_math_bits_deBruijn64tab)], narrowed := true }
def DownsTellsUptoSaid : Prop := downsTellsUptoRow.holds Tryd.pinned (OpenSpec.upto downsTellsSpec)

/-- 'watershedlaw.OrderChains', WHERE WHAT IT READS IS OF BULK AT MOST 1048576: true; the input reads as it did. -/
def orderChainsUptoRow : OpenClaim := { program := "ytofcpghoogaglaadoor", sum := "afab7b918b171d1298ad476827502b0573d83c162049e78a73fbe67d66515227", func := "watershed/watershedlaw.OrderChains", spec := "orderChains", unfollowed := true, recurses := true, named := ["math/bits.deBruijn64tab"], apart := false, laid := [("math/bits.deBruijn64tab", laid_math_bits_deBruijn64tab)], narrowed := true }
def OrderChainsUptoSaid : Prop := orderChainsUptoRow.holds Tryd.pinned (OpenSpec.upto orderChainsSpec)

/-- 'watershedlaw.LatticeIrreducible', WHERE WHAT IT READS IS OF BULK AT MOST 1048576: true; the input reads as it did. -/
def latticeIrreducibleUptoRow : OpenClaim := { program := "ytofcpghoogaglaadoor", sum := "afab7b918b171d1298ad476827502b0573d83c162049e78a73fbe67d66515227", func := "watershed/watershedlaw.LatticeIrreducible", spec := "latticeIrreducible", unfollowed := true, recurses := true, named := ["math/bits.deBruijn64tab"], apart := false, laid := [("math/bits.deBruijn64tab", laid_math_bits_deBruijn64tab)], narrowed := true }
def LatticeIrreducibleUptoSaid : Prop := latticeIrreducibleUptoRow.holds Tryd.pinned (OpenSpec.upto latticeIrreducibleSpec)

end Rows
end Go.Proofs.YtofcpghoogaglaaDoor
