/- Plain functions, printed by gen.py over the program that YtdinlimamfpboaaProg loads; each keeps its contract by the engine. -/
import Derived.Test.YtdinlimamfpboaaAbsLoops
import Derived.Test.YtdinlimamfpboaaProg
namespace Go.Proofs.Try
open Go Go.Abs
set_option maxRecDepth 100000


def tis : List (Nat × TInfo) := [(3, { agg := false, str := false, size := 1, bytes := 8, zeros := [.sc (.int .i64) (0 : Int)], flds := [], elem := none, arr := none, ty := (.int .i64) }),
  (4, { agg := false, str := false, size := 1, bytes := 1, zeros := [.sc .bool (false)], flds := [], elem := none, arr := none, ty := .bool }),
  (25, { agg := true, str := true, size := 5, bytes := 40, zeros := [.sc (.int .i64) (0 : Int), .sc (.int .i64) (0 : Int), .sc (.int .i64) (0 : Int), .sc (.int .i64) (0 : Int), .sc (.int .i64) (0 : Int)], flds := [{ off := 0, size := 1, agg := false }, { off := 1, size := 1, agg := false }, { off := 2, size := 3, agg := true }], elem := none, arr := none, ty := (.cons (.int .i64) (.cons (.int .i64) (.cons (.cons (.int .i64) (.cons (.int .i64) (.cons (.int .i64) .nil))) .nil))) }),
  (26, { agg := false, str := false, size := 1, bytes := 24, zeros := [.nils], flds := [], elem := some 3, arr := none, ty := (.list (.int .i64)) }),
  (28, { agg := true, str := true, size := 3, bytes := 40, zeros := [.sc (.int .i64) (0 : Int), .sc (.int .i64) (0 : Int), .nils], flds := [{ off := 0, size := 1, agg := false }, { off := 1, size := 1, agg := false }, { off := 2, size := 1, agg := false }], elem := none, arr := none, ty := (.cons (.int .i64) (.cons (.int .i64) (.cons (.list (.int .i64)) .nil))) }),
  (29, { agg := false, str := false, size := 1, bytes := 8, zeros := [.sc (.int .i64) (0 : Int)], flds := [], elem := none, arr := none, ty := (.int .i64) })]

theorem tis_ok : tiTable prog (tis.map (·.1)) = tis.map fun p => (p.1, some p.2) := by kernel_rfl
theorem mixed : prog.follows .mixedOrders = true := by kernel_rfl

/-- watershed/graph.may -/
noncomputable def sh39 : ((Int × (Int × ((Int × (Int × (Int × Unit))) × Unit))) × Unit) → Option (Bool × Unit) := fun x =>
  (cond (x.1.1 == (1 : Int)) (cond (decide (x.1.2.1 ≥ (1 : Int))) (some ((decide (x.1.2.1 ≤ (1 : Int))), ())) (some (false, ()))) (cond (x.1.1 == (4 : Int)) (cond (decide (x.1.2.1 ≥ (1 : Int))) (some ((decide (x.1.2.1 ≤ (IntKind.i64.wrap ((4 : Int) - (1 : Int))))), ())) (some (false, ()))) (((cond (x.1.1 == (5 : Int)) (some (Sum.inl ((x.1.1 == (5 : Int)), ()))) (some (Sum.inl ((x.1.1 == (6 : Int)), ())))) : Option ((Bool × Unit) ⊕ Empty)).bind (Sum.elim (fun z1 => (cond z1.1 (cond (decide (x.1.2.1 ≥ (IntKind.i64.wrap ((1 : Int) + (1 : Int))))) (some ((decide (x.1.2.1 ≤ (4 : Int))), ())) (some (false, ()))) (cond (x.1.1 == (2 : Int)) (cond (x.1.1 == (2 : Int)) (cond (decide (x.1.2.1 ≥ (1 : Int))) (some ((decide (x.1.2.1 ≤ (4 : Int))), ())) (some (false, ()))) (some (false, ()))) (cond (x.1.1 == (3 : Int)) (cond (decide (x.1.2.1 ≥ (1 : Int))) (some ((decide (x.1.2.1 ≤ (4 : Int))), ())) (some (false, ()))) (some (false, ())))))) Empty.elim))))
def an39 : Ann := (.seq .leaf (.seq .leaf (.seq (.seq .leaf (.blk (.seq .leaf (.br .leaf (.seq .leaf (.br .leaf (.seq (.seq .leaf (.join [13, 15] [] [] [] [(.nrm, [.tmp 13 .bool])] (.br .leaf .leaf))) (.br .leaf (.seq (.seq .leaf (.br .leaf .leaf)) (.br .leaf (.seq .leaf .leaf))))))))))) (.seq .leaf .leaf))))
noncomputable def sp39 : Abs.Spec := { args := [(true, (.cons (.int .i64) (.cons (.int .i64) (.cons (.cons (.int .i64) (.cons (.int .i64) (.cons (.int .i64) .nil))) .nil))))], res := [.val false .bool], f := sh39 }
theorem ok39 : FunOK' prog 39 sp39 :=
  evalFn_ok (C := mkCtx tis [] []) (mkCtx_ok mixed tis_ok specs_nil bodies_nil) mixed func39 (by kernel_rfl) (an := an39) (by kernel_rfl) (fun x => by kernel_rfl)

/-- watershed/graph.Sum -/
noncomputable def sh9 : ((Int × (Int × ((Int × (Int × (Int × Unit))) × Unit))) × Unit) → Option ((Int × (Int × ((List Int) × Unit))) × Int × Unit) := fun x =>
  ((sh39 x).bind fun r1 => (cond (!r1.1) (some (((0 : Int), (0 : Int), ([] : (List Int)), ()), (2 : Int), ())) (cond (x.1.1 == (4 : Int)) (some ((x.1.2.1, (0 : Int), [(0 : Int)], ()), (0 : Int), ())) (cond (x.1.1 == (5 : Int)) (some (((IntKind.i64.wrap (x.1.2.1 - (1 : Int))), (0 : Int), ([] : (List Int)), ()), (0 : Int), ())) (cond (x.1.1 == (6 : Int)) (some ((x.1.2.1, (1 : Int), ([] : (List Int)), ()), (0 : Int), ())) (some ((x.1.2.1, (0 : Int), ([] : (List Int)), ()), (0 : Int), ())))))))
def an9 : Ann := (.seq .leaf (.seq (.seq .leaf (.br (.seq .leaf .leaf) .leaf)) (.seq .leaf (.seq (.seq .leaf (.blk (.seq .leaf (.br .leaf (.seq .leaf (.br .leaf (.seq .leaf (.br .leaf .leaf)))))))) (.seq .leaf .leaf)))))
noncomputable def sp9 : Abs.Spec := { args := [(true, (.cons (.int .i64) (.cons (.int .i64) (.cons (.cons (.int .i64) (.cons (.int .i64) (.cons (.int .i64) .nil))) .nil))))], res := [.val true (.cons (.int .i64) (.cons (.int .i64) (.cons (.list (.int .i64)) .nil))), .val false (.int .i64)], f := sh9 }
theorem ok9 : FunOK' prog 9 sp9 :=
  evalFn_ok (C := mkCtx tis [(39, sp39)] []) (mkCtx_ok mixed tis_ok (specs_cons ok39 specs_nil) bodies_nil) mixed func9 (by kernel_rfl) (an := an9) (by kernel_rfl) (fun x => by kernel_rfl)

/-- watershed/watershedref.NodeMay -/
noncomputable def sh10 : ((Int × (Int × ((Int × (Int × (Int × Unit))) × Unit))) × Unit) → Option (Bool × Unit) := fun x =>
  (cond (decide (x.1.2.1 < (1 : Int))) (some (false, ())) (cond (decide (x.1.2.1 > (4 : Int))) (some (false, ())) (cond (decide (x.1.1 < (1 : Int))) (some (false, ())) (cond (decide (x.1.1 > (6 : Int))) (some (false, ())) (cond (x.1.1 == (1 : Int)) (cond (x.1.2.1 != (1 : Int)) (some (false, ())) (cond (x.1.1 == (4 : Int)) (cond (x.1.2.1 == (4 : Int)) (some (false, ())) (cond (decide (x.1.1 < (5 : Int))) (some (true, ())) (some ((decide (x.1.2.1 ≥ (2 : Int))), ())))) (cond (decide (x.1.1 < (5 : Int))) (some (true, ())) (some ((decide (x.1.2.1 ≥ (2 : Int))), ()))))) (cond (x.1.1 == (4 : Int)) (cond (x.1.2.1 == (4 : Int)) (some (false, ())) (cond (decide (x.1.1 < (5 : Int))) (some (true, ())) (some ((decide (x.1.2.1 ≥ (2 : Int))), ())))) (cond (decide (x.1.1 < (5 : Int))) (some (true, ())) (some ((decide (x.1.2.1 ≥ (2 : Int))), ())))))))))
def an10 : Ann := (.seq .leaf (.seq (.seq .leaf (.br (.seq .leaf .leaf) .leaf)) (.seq (.seq .leaf (.br (.seq .leaf .leaf) .leaf)) (.seq .leaf .leaf))))
noncomputable def sp10 : Abs.Spec := { args := [(true, (.cons (.int .i64) (.cons (.int .i64) (.cons (.cons (.int .i64) (.cons (.int .i64) (.cons (.int .i64) .nil))) .nil))))], res := [.val false .bool], f := sh10 }
theorem ok10 : FunOK' prog 10 sp10 :=
  evalFn_ok (C := mkCtx tis [] []) (mkCtx_ok mixed tis_ok specs_nil bodies_nil) mixed func10 (by kernel_rfl) (an := an10) (by kernel_rfl) (fun x => by kernel_rfl)

/-- watershed/watershedref.TimesSame -/
noncomputable def sh17 : ((List Int) × (List Int) × Unit) → Option (Bool × Unit) := fun x =>
  (cond ((x.1.length : Int) != (x.2.1.length : Int)) (some (false, ())) ((loopM (σ := (Int × Unit)) (β := ((Bool × Unit) ⊕ (Unit) ⊕ Empty)) (fun y4 => (cond (decide (y4.1 < (x.1.length : Int))) ((getI x.1 y4.1).bind fun v5 => ((getI x.2.1 y4.1).bind fun v6 => (cond (v5 != v6) (some (Sum.inr (Sum.inl (false, ())))) (some (Sum.inl ((IntKind.i64.wrap (y4.1 + (1 : Int))), ())))))) (some (Sum.inr (Sum.inr (Sum.inl ())))))) ((0 : Int), ())).bind (Sum.elim (fun z7 => (some z7)) (Sum.elim (fun z8 => (some (true, ()))) Empty.elim))))
def an17 : Ann := (.seq .leaf (.seq (.seq .leaf (.br (.seq .leaf .leaf) .leaf)) (.seq (.seq .leaf (.blk (.loop [4, 5, 11, 12, 13, 14, 15, 16, 17, 18, 19, 20, 21, 22, 23, 24, 25] [] [] [] [.tmp 5 (.int .i64)] [(.ret, [.tmp 4 .bool]), ((.ex 0), [])] (.seq (.seq .leaf (.br .leaf .leaf)) (.seq (.blk (.seq .leaf (.br (.seq .leaf .leaf) .leaf))) .leaf))))) (.seq .leaf .leaf))))
noncomputable def sp17 : Abs.Spec := { args := [(false, (.list (.int .i64))), (false, (.list (.int .i64)))], res := [.val false .bool], f := sh17 }
theorem ok17 : FunOK' prog 17 sp17 :=
  evalFn_ok (C := mkCtx tis [] []) (mkCtx_ok mixed tis_ok specs_nil bodies_nil) mixed func17 (by kernel_rfl) (an := an17) (by kernel_rfl) (fun x => by kernel_rfl)

/-- watershed/watershedref.SummarySame -/
noncomputable def sh11 : ((Int × (Int × ((List Int) × Unit))) × (Int × (Int × ((List Int) × Unit))) × Unit) → Option (Bool × Unit) := fun x =>
  (cond (x.1.1 == x.2.1.1) (cond (x.1.2.1 == x.2.1.2.1) ((sh17 (x.1.2.2.1, x.2.1.2.2.1, ())).bind fun r1 => (some r1)) (some (false, ()))) (some (false, ())))
def an11 : Ann := (.seq .leaf (.seq .leaf .leaf))
noncomputable def sp11 : Abs.Spec := { args := [(true, (.cons (.int .i64) (.cons (.int .i64) (.cons (.list (.int .i64)) .nil)))), (true, (.cons (.int .i64) (.cons (.int .i64) (.cons (.list (.int .i64)) .nil))))], res := [.val false .bool], f := sh11 }
theorem ok11 : FunOK' prog 11 sp11 :=
  evalFn_ok (C := mkCtx tis [(17, sp17)] []) (mkCtx_ok mixed tis_ok (specs_cons ok17 specs_nil) bodies_nil) mixed func11 (by kernel_rfl) (an := an11) (by kernel_rfl) (fun x => by kernel_rfl)

/-- watershed/watershedref.NodeSum -/
noncomputable def sh12 : ((Int × (Int × ((Int × (Int × (Int × Unit))) × Unit))) × Unit) → Option ((Int × (Int × ((List Int) × Unit))) × Unit) := fun x =>
  (cond (x.1.1 == (4 : Int)) (some ((x.1.2.1, (0 : Int), [(0 : Int)], ()), ())) (cond (x.1.1 == (5 : Int)) (some (((IntKind.i64.wrap (x.1.2.1 - (1 : Int))), (0 : Int), ([] : (List Int)), ()), ())) (cond (x.1.1 == (6 : Int)) (some ((x.1.2.1, (1 : Int), ([] : (List Int)), ()), ())) (some ((x.1.2.1, (0 : Int), ([] : (List Int)), ()), ())))))
def an12 : Ann := (.seq .leaf (.seq (.seq .leaf (.br (.seq .leaf .leaf) .leaf)) (.seq (.seq .leaf (.br (.seq .leaf .leaf) .leaf)) (.seq (.seq .leaf (.br (.seq .leaf .leaf) .leaf)) (.seq .leaf .leaf)))))
noncomputable def sp12 : Abs.Spec := { args := [(true, (.cons (.int .i64) (.cons (.int .i64) (.cons (.cons (.int .i64) (.cons (.int .i64) (.cons (.int .i64) .nil))) .nil))))], res := [.val true (.cons (.int .i64) (.cons (.int .i64) (.cons (.list (.int .i64)) .nil)))], f := sh12 }
theorem ok12 : FunOK' prog 12 sp12 :=
  evalFn_ok (C := mkCtx tis [] []) (mkCtx_ok mixed tis_ok specs_nil bodies_nil) mixed func12 (by kernel_rfl) (an := an12) (by kernel_rfl) (fun x => by kernel_rfl)

/-- watershed/watershedlaw.GraphSums -/
noncomputable def sh3 : ((Int × (Int × ((Int × (Int × (Int × Unit))) × Unit))) × Unit) → Option (Bool × Unit) := fun x =>
  ((sh9 x).bind fun r1 => ((sh10 x).bind fun r2 => (cond (!r2.1) (cond (r1.2.1 == (2 : Int)) ((sh11 (r1.1, ((0 : Int), (0 : Int), ([] : (List Int)), ()), ())).bind fun r3 => (some r3)) (some (false, ()))) (cond (r1.2.1 == (0 : Int)) ((sh12 x).bind fun r4 => ((sh11 (r1.1, r4.1, ())).bind fun r5 => (some r5))) (some (false, ()))))))
def an3 : Ann := (.seq .leaf (.seq .leaf (.seq (.seq .leaf (.br (.seq .leaf .leaf) .leaf)) (.seq .leaf .leaf))))
noncomputable def sp3 : Abs.Spec := { args := [(true, (.cons (.int .i64) (.cons (.int .i64) (.cons (.cons (.int .i64) (.cons (.int .i64) (.cons (.int .i64) .nil))) .nil))))], res := [.val false .bool], f := sh3 }
theorem ok3 : FunOK' prog 3 sp3 :=
  evalFn_ok (C := mkCtx tis [(9, sp9), (10, sp10), (11, sp11), (12, sp12)] []) (mkCtx_ok mixed tis_ok (specs_cons ok9 (specs_cons ok10 (specs_cons ok11 (specs_cons ok12 specs_nil)))) bodies_nil) mixed func3 (by kernel_rfl) (an := an3) (by kernel_rfl) (fun x => by kernel_rfl)

end Go.Proofs.Try
