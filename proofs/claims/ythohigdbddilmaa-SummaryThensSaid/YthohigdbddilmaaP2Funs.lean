/- Plain functions, printed by gen.py over the program that YthohigdbddilmaaProg loads; each keeps its contract by the engine. -/
import Derived.Test.YthohigdbddilmaaAbsLoops
import Derived.Test.YthohigdbddilmaaProg
namespace Go.Proofs.Try
open Go Go.Abs
set_option maxRecDepth 100000


def tis : List (Nat × TInfo) := [(3, { agg := false, str := false, size := 1, bytes := 8, zeros := [.sc (.int .i64) (0 : Int)], flds := [], elem := none, arr := none, ty := (.int .i64) }),
  (4, { agg := false, str := false, size := 1, bytes := 1, zeros := [.sc .bool (false)], flds := [], elem := none, arr := none, ty := .bool }),
  (22, { agg := false, str := false, size := 1, bytes := 24, zeros := [.nils], flds := [], elem := some 3, arr := none, ty := (.list (.int .i64)) }),
  (24, { agg := true, str := true, size := 3, bytes := 40, zeros := [.sc (.int .i64) (0 : Int), .sc (.int .i64) (0 : Int), .nils], flds := [{ off := 0, size := 1, agg := false }, { off := 1, size := 1, agg := false }, { off := 2, size := 1, agg := false }], elem := none, arr := none, ty := (.cons (.int .i64) (.cons (.int .i64) (.cons (.list (.int .i64)) .nil))) }),
  (25, { agg := false, str := false, size := 1, bytes := 8, zeros := [.sc (.int .i64) (0 : Int)], flds := [], elem := none, arr := none, ty := (.int .i64) }),
  (36, { agg := false, str := false, size := 1, bytes := 24, zeros := [.nils], flds := [], elem := some 39, arr := none, ty := (.list (.cons (.int .i64) (.cons .bool .nil))) }),
  (39, { agg := true, str := true, size := 2, bytes := 16, zeros := [.sc (.int .i64) (0 : Int), .sc .bool (false)], flds := [{ off := 0, size := 1, agg := false }, { off := 1, size := 1, agg := false }], elem := none, arr := none, ty := (.cons (.int .i64) (.cons .bool .nil)), eqo := some [(0, false), (1, true)] })]

theorem tis_ok : tiTable prog (tis.map (·.1)) = tis.map fun p => (p.1, some p.2) := by kernel_rfl
def pus : List Nat := []
theorem mixed : prog.follows .mixedOrders = true := by kernel_rfl

noncomputable def gls : List (Nat × (IntKind × Nat × List Int)) := []

/-- watershed/summary.within -/
noncomputable def summary_within : (Int × Unit) → Option (Bool × Unit) := fun x =>
  (cond (decide (x.1 ≥ (0 : Int))) (some ((decide (x.1 ≤ (1048576 : Int))), ())) (some (false, ())))
def an12 : Ann := (.seq .leaf (.seq .leaf .leaf))
noncomputable def sp12 : Abs.Spec := { args := [(false, (.int .i64))], res := [.val false .bool], f := summary_within }
theorem ok12 : FunOK' prog (Abs.look gls) 12 sp12 :=
  evalFn_ok (C := mkCtx tis [] [] [] gls pus) (mkCtx_ok mixed tis_ok specs_nil bodies_nil) mixed func12 (by kernel_rfl) (an := an12) (by kernel_rfl) (fun x => by kernel_rfl)

/-- watershed/summary.Check -/
noncomputable def summary_Check_l1 (x : ((Int × (Int × ((List Int) × Unit))) × Int × Unit)) : (Int × Unit) → Option ((Int × Unit) ⊕ ((Int × Unit) ⊕ (Unit) ⊕ Empty)) := fun y4 =>
  (cond (decide (y4.1 < (([x.1.2.1] ++ x.1.2.2.1).length : Int))) (cond (inB y4.1 ([x.1.2.1] ++ x.1.2.2.1).length) ((([x.1.2.1] ++ x.1.2.2.1)[y4.1.toNat]?).bind fun v5 => ((summary_within (v5, ())).bind fun r6 => (cond (!r6.1) (some (Sum.inr (Sum.inl ((2 : Int), ())))) (some (Sum.inl ((IntKind.i64.wrap (y4.1 + (1 : Int))), ())))))) none) (some (Sum.inr (Sum.inr (Sum.inl ())))))
noncomputable def summary_Check : ((Int × (Int × ((List Int) × Unit))) × Int × Unit) → Option (Int × Unit) := fun x =>
  (cond (decide (x.2.1 < (1 : Int))) (some ((1 : Int), ())) (cond (decide (x.2.1 > (4 : Int))) (some ((1 : Int), ())) (cond (decide (x.1.1 < (1 : Int))) (some ((1 : Int), ())) (cond (decide (x.1.1 > x.2.1)) (some ((1 : Int), ())) (cond (decide ((x.1.2.2.1.length : Int) > (IntKind.i64.wrap ((4 : Int) - x.1.1)))) (some ((1 : Int), ())) (cond (true && roomOk (([x.1.2.1]).length + x.1.2.2.1.length) 8 && true && true) ((loopM (summary_Check_l1 x) ((0 : Int), ())).bind (Sum.elim (fun z7 => (some z7)) (Sum.elim (fun _ => (some ((0 : Int), ()))) Empty.elim))) none))))))
def an9 : Ann := (.seq .leaf (.seq (.seq .leaf (.br (.seq .leaf .leaf) .leaf)) (.seq (.seq .leaf (.blk (.loop [4, 6, 40, 41, 42, 43, 44, 45, 46, 47] [45] [] [] [.tmp 40 (.int .i64)] [(.ret, [.tmp 4 (.int .i64)]), ((.ex 0), [])] (.seq .leaf (.seq (.br .leaf .leaf) (.seq (.blk (.seq .leaf (.seq .leaf (.br (.seq .leaf .leaf) .leaf)))) .leaf)))))) (.seq .leaf .leaf))))
noncomputable def sp9 : Abs.Spec := { args := [(true, (.cons (.int .i64) (.cons (.int .i64) (.cons (.list (.int .i64)) .nil)))), (false, (.int .i64))], res := [.val false (.int .i64)], f := summary_Check }
theorem ok9 : FunOK' prog (Abs.look gls) 9 sp9 :=
  evalFn_ok (C := mkCtx tis [(12, sp12)] [] [] gls pus) (mkCtx_ok mixed tis_ok (specs_cons ok12 specs_nil) bodies_nil) mixed func9 (by kernel_rfl) (an := an9) (by kernel_rfl) (fun x => by kernel_rfl)

/-- watershed/summary.Out -/
noncomputable def summary_Out : ((Int × (Int × ((List Int) × Unit))) × Unit) → Option (Int × Unit) := fun x =>
  (some ((IntKind.i64.wrap (x.1.1 + (x.1.2.2.1.length : Int))), ()))
def an10 : Ann := (.seq .leaf (.seq .leaf .leaf))
noncomputable def sp10 : Abs.Spec := { args := [(true, (.cons (.int .i64) (.cons (.int .i64) (.cons (.list (.int .i64)) .nil))))], res := [.val false (.int .i64)], f := summary_Out }
theorem ok10 : FunOK' prog (Abs.look gls) 10 sp10 :=
  evalFn_ok (C := mkCtx tis [] [] [] gls pus) (mkCtx_ok mixed tis_ok specs_nil bodies_nil) mixed func10 (by kernel_rfl) (an := an10) (by kernel_rfl) (fun x => by kernel_rfl)

/-- slices.Clone[[]int,int] -/
noncomputable def slices_Clone_s_int_int : ((List Int) × Unit) → Option ((List Int) × Unit) := fun x =>
  (cond (true && roomOk (([] : (List Int)).length + x.1.length) 8 && true && true) (some ((([] : (List Int)) ++ x.1), ())) none)
def an11 : Ann := (.seq .leaf (.seq (.seq .leaf (.br (.seq .leaf .leaf) .leaf)) (.seq .leaf .leaf)))
noncomputable def sp11 : Abs.Spec := { args := [(false, (.list (.int .i64)))], res := [.own 3 (.int .i64)], f := slices_Clone_s_int_int }
theorem ok11 : FunOK' prog (Abs.look gls) 11 sp11 :=
  evalNil_ok (C := mkCtx tis [] [] [] gls pus) (mkCtx_ok mixed tis_ok specs_nil bodies_nil) mixed func11 (by kernel_rfl) (an := an11) (by kernel_rfl) (Nat.le_of_ble_eq_true (by kernel_rfl)) (by kernel_rfl) (fun l => by kernel_rfl)

/-- watershed/summary.Then -/
noncomputable def summary_Then : ((Int × (Int × ((List Int) × Unit))) × (Int × (Int × ((List Int) × Unit))) × Unit) → Option ((Int × (Int × ((List Int) × Unit))) × Int × Unit) := fun x =>
  ((summary_Check (x.1, (4 : Int), ())).bind fun r1 => (cond (r1.1 != (0 : Int)) (some (((0 : Int), (0 : Int), ([] : (List Int)), ()), r1.1, ())) ((summary_Out (x.1, ())).bind fun r2 => ((summary_Check (x.2.1, r2.1, ())).bind fun r3 => (cond (r3.1 != (0 : Int)) (some (((0 : Int), (0 : Int), ([] : (List Int)), ()), r3.1, ())) (cond ((IntKind.i64.wrap (x.2.1.1 - x.1.1)) == (0 : Int)) ((summary_within ((IntKind.i64.wrap (x.2.1.2.1 + x.1.2.1)), ())).bind fun r4 => (cond (!r4.1) (some (((0 : Int), (0 : Int), ([] : (List Int)), ()), (6 : Int), ())) (cond (roomOk x.2.1.2.2.1.length 8 && true && true) (some ((x.2.1.1, (IntKind.i64.wrap (x.2.1.2.1 + x.1.2.1)), x.2.1.2.2.1, ()), (0 : Int), ())) none))) (cond (decide ((IntKind.i64.wrap (x.2.1.1 - x.1.1)) > (0 : Int))) (cond (decide (0 ≤ (0 : Int)) && decide ((0 : Int) ≤ (IntKind.i64.wrap (x.2.1.1 - x.1.1))) && decide ((IntKind.i64.wrap (x.2.1.1 - x.1.1)) ≤ x.1.2.2.1.length)) ((slices_Clone_s_int_int (((x.1.2.2.1.drop (0 : Int).toNat).take ((IntKind.i64.wrap (x.2.1.1 - x.1.1)).toNat - (0 : Int).toNat)), ())).bind fun r5 => (cond (inB (IntKind.i64.wrap ((IntKind.i64.wrap (x.2.1.1 - x.1.1)) - (1 : Int))) r5.1.length) ((r5.1[(IntKind.i64.wrap ((IntKind.i64.wrap (x.2.1.1 - x.1.1)) - (1 : Int))).toNat]?).bind fun v6 => ((r5.1[(IntKind.i64.wrap ((IntKind.i64.wrap (x.2.1.1 - x.1.1)) - (1 : Int))).toNat]?).bind fun _ => (((r5.1.set ((IntKind.i64.wrap ((IntKind.i64.wrap (x.2.1.1 - x.1.1)) - (1 : Int))).toNat) (IntKind.i64.wrap (v6 + x.2.1.2.1)))[(IntKind.i64.wrap ((IntKind.i64.wrap (x.2.1.1 - x.1.1)) - (1 : Int))).toNat]?).bind fun v8 => ((summary_within (v8, ())).bind fun r9 => (cond (!r9.1) (some (((0 : Int), (0 : Int), ([] : (List Int)), ()), (6 : Int), ())) (cond (true && roomOk ((r5.1.set ((IntKind.i64.wrap ((IntKind.i64.wrap (x.2.1.1 - x.1.1)) - (1 : Int))).toNat) (IntKind.i64.wrap (v6 + x.2.1.2.1))).length + x.2.1.2.2.1.length) 8 && true && true) (some ((x.1.1, x.1.2.1, ((r5.1.set ((IntKind.i64.wrap ((IntKind.i64.wrap (x.2.1.1 - x.1.1)) - (1 : Int))).toNat) (IntKind.i64.wrap (v6 + x.2.1.2.1))) ++ x.2.1.2.2.1), ()), (0 : Int), ())) none)))))) none)) none) ((summary_within (x.2.1.2.1, ())).bind fun r10 => (cond (!r10.1) (some (((0 : Int), (0 : Int), ([] : (List Int)), ()), (6 : Int), ())) (cond (roomOk x.2.1.2.2.1.length 8 && true && true) (some (x.2.1, (0 : Int), ())) none))))))))))
def an4 : Ann := (.seq .leaf (.seq (.seq .leaf (.seq .leaf (.br (.seq .leaf .leaf) .leaf))) (.seq (.seq .leaf (.seq .leaf (.br (.seq .leaf .leaf) .leaf))) (.seq .leaf (.seq .leaf (.seq (.seq .leaf (.blk (.seq .leaf (.br .leaf (.seq .leaf (.br (.seq .leaf (.seq .leaf .leaf)) .leaf)))))) (.seq (.seq .leaf (.br (.seq .leaf .leaf) .leaf)) (.seq .leaf (.seq .leaf .leaf)))))))))
noncomputable def sp4 : Abs.Spec := { args := [(true, (.cons (.int .i64) (.cons (.int .i64) (.cons (.list (.int .i64)) .nil)))), (true, (.cons (.int .i64) (.cons (.int .i64) (.cons (.list (.int .i64)) .nil))))], res := [.val true (.cons (.int .i64) (.cons (.int .i64) (.cons (.list (.int .i64)) .nil))), .val false (.int .i64)], f := summary_Then }
theorem ok4 : FunOK' prog (Abs.look gls) 4 sp4 :=
  evalFn_ok (C := mkCtx tis [(9, sp9), (10, sp10), (11, sp11), (12, sp12)] [] [] gls pus) (mkCtx_ok mixed tis_ok (specs_cons ok9 (specs_cons ok10 (specs_cons ok11 (specs_cons ok12 specs_nil)))) bodies_nil) mixed func4 (by kernel_rfl) (an := an4) (by kernel_rfl) (fun x => by kernel_rfl)

/-- watershed/watershedref.SummaryCheck -/
noncomputable def ref_SummaryCheck_l1 (x : ((Int × (Int × ((List Int) × Unit))) × Int × Unit)) : (Int × Unit) → Option ((Int × Unit) ⊕ ((Int × Unit) ⊕ (Unit) ⊕ Empty)) := fun y3 =>
  (cond (decide (y3.1 < (x.1.2.2.1.length : Int))) ((getI x.1.2.2.1 y3.1).bind fun v4 => (cond (decide (v4 < (0 : Int))) (some (Sum.inr (Sum.inl ((2 : Int), ())))) (cond (decide (v4 > (1048576 : Int))) (some (Sum.inr (Sum.inl ((2 : Int), ())))) (some (Sum.inl ((IntKind.i64.wrap (y3.1 + (1 : Int))), ())))))) (some (Sum.inr (Sum.inr (Sum.inl ())))))
noncomputable def ref_SummaryCheck : ((Int × (Int × ((List Int) × Unit))) × Int × Unit) → Option (Int × Unit) := fun x =>
  (cond (decide (x.2.1 < (1 : Int))) (some ((1 : Int), ())) (cond (decide (x.2.1 > (4 : Int))) (some ((1 : Int), ())) (cond (decide (x.1.1 < (1 : Int))) (some ((1 : Int), ())) (cond (decide (x.1.1 > x.2.1)) (some ((1 : Int), ())) (cond (decide ((x.1.2.2.1.length : Int) > (4 : Int))) (some ((1 : Int), ())) (cond (decide ((IntKind.i64.wrap (x.1.1 + (x.1.2.2.1.length : Int))) > (4 : Int))) (some ((1 : Int), ())) (cond (decide (x.1.2.1 < (0 : Int))) (some ((2 : Int), ())) (cond (decide (x.1.2.1 > (1048576 : Int))) (some ((2 : Int), ())) ((loopM (ref_SummaryCheck_l1 x) ((0 : Int), ())).bind (Sum.elim (fun z5 => (some z5)) (Sum.elim (fun _ => (some ((0 : Int), ()))) Empty.elim)))))))))))
def an13 : Ann := (.seq .leaf (.seq (.seq .leaf (.br (.seq .leaf .leaf) .leaf)) (.seq (.seq .leaf (.br (.seq .leaf .leaf) .leaf)) (.seq (.seq .leaf (.blk (.loop [4, 6, 50, 51, 52, 53, 54, 55, 56, 57, 58, 59, 60] [] [] [] [.tmp 50 (.int .i64)] [(.ret, [.tmp 4 (.int .i64)]), ((.ex 0), [])] (.seq .leaf (.seq (.br .leaf .leaf) (.seq (.blk (.seq .leaf (.seq .leaf (.br (.seq .leaf .leaf) .leaf)))) .leaf)))))) (.seq .leaf .leaf)))))
noncomputable def sp13 : Abs.Spec := { args := [(true, (.cons (.int .i64) (.cons (.int .i64) (.cons (.list (.int .i64)) .nil)))), (false, (.int .i64))], res := [.val false (.int .i64)], f := ref_SummaryCheck }
theorem ok13 : FunOK' prog (Abs.look gls) 13 sp13 :=
  evalFn_ok (C := mkCtx tis [] [] [] gls pus) (mkCtx_ok mixed tis_ok specs_nil bodies_nil) mixed func13 (by kernel_rfl) (an := an13) (by kernel_rfl) (fun x => by kernel_rfl)

/-- watershed/watershedref.SummaryOut -/
noncomputable def ref_SummaryOut : ((Int × (Int × ((List Int) × Unit))) × Unit) → Option (Int × Unit) := fun x =>
  (some ((IntKind.i64.wrap (x.1.1 + (x.1.2.2.1.length : Int))), ()))
def an14 : Ann := (.seq .leaf (.seq .leaf .leaf))
noncomputable def sp14 : Abs.Spec := { args := [(true, (.cons (.int .i64) (.cons (.int .i64) (.cons (.list (.int .i64)) .nil))))], res := [.val false (.int .i64)], f := ref_SummaryOut }
theorem ok14 : FunOK' prog (Abs.look gls) 14 sp14 :=
  evalFn_ok (C := mkCtx tis [] [] [] gls pus) (mkCtx_ok mixed tis_ok specs_nil bodies_nil) mixed func14 (by kernel_rfl) (an := an14) (by kernel_rfl) (fun x => by kernel_rfl)

/-- watershed/watershedref.SummaryPlace -/
noncomputable def ref_SummaryPlace : ((Int × (Int × ((List Int) × Unit))) × Int × Unit) → Option (Int × Unit) := fun x =>
  (cond (decide (x.2.1 ≥ x.1.1)) ((getI x.1.2.2.1 (IntKind.i64.wrap (x.2.1 - x.1.1))).bind fun v1 => (some (v1, ()))) (cond (x.2.1 == (IntKind.i64.wrap (x.1.1 - (1 : Int)))) (some (x.1.2.1, ())) (some ((0 : Int), ()))))
def an15 : Ann := (.seq .leaf (.seq (.seq .leaf (.br (.seq .leaf .leaf) .leaf)) (.seq (.seq .leaf (.br (.seq .leaf .leaf) .leaf)) (.seq .leaf .leaf))))
noncomputable def sp15 : Abs.Spec := { args := [(true, (.cons (.int .i64) (.cons (.int .i64) (.cons (.list (.int .i64)) .nil)))), (false, (.int .i64))], res := [.val false (.int .i64)], f := ref_SummaryPlace }
theorem ok15 : FunOK' prog (Abs.look gls) 15 sp15 :=
  evalFn_ok (C := mkCtx tis [] [] [] gls pus) (mkCtx_ok mixed tis_ok specs_nil bodies_nil) mixed func15 (by kernel_rfl) (an := an15) (by kernel_rfl) (fun x => by kernel_rfl)

/-- watershed/watershedref.SummaryThen -/
noncomputable def ref_SummaryThen_l1 (x : ((Int × (Int × ((List Int) × Unit))) × (Int × (Int × ((List Int) × Unit))) × Unit)) : (Int × (Int × Int × (List Int) × Unit) × (List Int) × (Int × Int × Unit) × Unit) → Option ((Int × (Int × Int × (List Int) × Unit) × (List Int) × (Int × Int × Unit) × Unit) ⊕ ((Int × (Int × Int × (List Int) × Unit) × (List Int) × (Int × Int × Unit) × Unit) ⊕ ((Int × Int × (List Int) × Unit) × (List Int) × (Int × Int × Unit) × Unit) ⊕ Empty)) := fun y34 =>
  ((ref_SummaryOut (x.2.1, ())).bind fun r35 => (cond (decide (y34.1 < r35.1)) ((ref_SummaryPlace (x.2.1, y34.1, ())).bind fun r36 => (cond (decide (y34.1 < x.2.1.1)) (((cond (decide (y34.1 < x.2.1.1)) ((ref_SummaryPlace (x.1, y34.1, ())).bind fun r38 => (some (Sum.inl ((IntKind.i64.wrap (r36.1 + r38.1)), ())))) (some (Sum.inl r36))) : Option ((Int × Unit) ⊕ Empty)).bind (Sum.elim (fun z39 => (cond (decide (y34.1 < x.1.1)) (cond (y34.1 == (IntKind.i64.wrap (x.1.1 - (1 : Int)))) (cond (decide (z39.1 > (1048576 : Int))) (some (Sum.inr (Sum.inl ((6 : Int), ((0 : Int), (0 : Int), ([] : (List Int)), ()), y34.2.2.1, ((IntKind.i64.wrap (y34.1 + (1 : Int))), z39.1, ()), ())))) (some (Sum.inl ((IntKind.i64.wrap (y34.1 + (1 : Int))), y34.2.1, y34.2.2.1, ((IntKind.i64.wrap (y34.1 + (1 : Int))), z39.1, ()), ())))) (cond (y34.1 == (IntKind.i64.wrap (x.2.1.1 - (1 : Int)))) (cond (decide (z39.1 > (1048576 : Int))) (some (Sum.inr (Sum.inl ((6 : Int), ((0 : Int), (0 : Int), ([] : (List Int)), ()), y34.2.2.1, ((IntKind.i64.wrap (y34.1 + (1 : Int))), z39.1, ()), ())))) (some (Sum.inl ((IntKind.i64.wrap (y34.1 + (1 : Int))), y34.2.1, y34.2.2.1, ((IntKind.i64.wrap (y34.1 + (1 : Int))), z39.1, ()), ())))) (cond (decide (z39.1 > (1048576 : Int))) (some (Sum.inr (Sum.inl ((6 : Int), ((0 : Int), (0 : Int), ([] : (List Int)), ()), y34.2.2.1, ((IntKind.i64.wrap (y34.1 + (1 : Int))), y34.2.2.2.1.2.1, ()), ())))) (some (Sum.inl ((IntKind.i64.wrap (y34.1 + (1 : Int))), y34.2.1, y34.2.2.1, ((IntKind.i64.wrap (y34.1 + (1 : Int))), y34.2.2.2.1.2.1, ()), ())))))) (cond (true && roomOk (y34.2.2.1.length + ([z39.1]).length) 8 && true && true) (cond (decide (z39.1 > (1048576 : Int))) (some (Sum.inr (Sum.inl ((6 : Int), ((0 : Int), (0 : Int), ([] : (List Int)), ()), (y34.2.2.1 ++ [z39.1]), y34.2.2.2.1, ())))) (some (Sum.inl ((IntKind.i64.wrap (y34.1 + (1 : Int))), y34.2.1, (y34.2.2.1 ++ [z39.1]), y34.2.2.2.1, ())))) none))) Empty.elim)) (((cond (decide (y34.1 < x.2.1.1)) ((ref_SummaryPlace (x.1, y34.1, ())).bind fun r41 => (some (Sum.inl ((IntKind.i64.wrap (r36.1 + r41.1)), ())))) (some (Sum.inl r36))) : Option ((Int × Unit) ⊕ Empty)).bind (Sum.elim (fun z42 => (cond (true && roomOk (y34.2.2.1.length + ([z42.1]).length) 8 && true && true) (cond (decide (z42.1 > (1048576 : Int))) (some (Sum.inr (Sum.inl ((6 : Int), ((0 : Int), (0 : Int), ([] : (List Int)), ()), (y34.2.2.1 ++ [z42.1]), y34.2.2.2.1, ())))) (some (Sum.inl ((IntKind.i64.wrap (y34.1 + (1 : Int))), y34.2.1, (y34.2.2.1 ++ [z42.1]), y34.2.2.2.1, ())))) none)) Empty.elim)))) (some (Sum.inr (Sum.inr (Sum.inl (y34.2.1, y34.2.2.1, y34.2.2.2.1, ())))))))
noncomputable def ref_SummaryThen : ((Int × (Int × ((List Int) × Unit))) × (Int × (Int × ((List Int) × Unit))) × Unit) → Option ((Int × (Int × ((List Int) × Unit))) × Int × Unit) := fun x =>
  ((ref_SummaryCheck (x.1, (4 : Int), ())).bind fun r1 => (cond (r1.1 != (0 : Int)) ((ref_SummaryCheck (x.1, (4 : Int), ())).bind fun r2 => (some (((0 : Int), (0 : Int), ([] : (List Int)), ()), r2.1, ()))) ((ref_SummaryOut (x.1, ())).bind fun r3 => ((ref_SummaryCheck (x.2.1, r3.1, ())).bind fun r4 => (cond (r4.1 != (0 : Int)) ((ref_SummaryOut (x.1, ())).bind fun r5 => ((ref_SummaryCheck (x.2.1, r5.1, ())).bind fun r6 => (some (((0 : Int), (0 : Int), ([] : (List Int)), ()), r6.1, ())))) ((loopM (ref_SummaryThen_l1 x) ((0 : Int), ((0 : Int), (0 : Int), ([] : (List Int)), ()), ([] : (List Int)), ((0 : Int), (0 : Int), ()), ())).bind (Sum.elim (fun z43 => (some (z43.2.1, z43.1, ()))) (Sum.elim (fun z44 => (some ((z44.2.2.1.1, z44.2.2.1.2.1, z44.2.1, ()), (0 : Int), ()))) Empty.elim))))))))
def an5 : Ann := (.seq .leaf (.seq (.seq .leaf (.br (.seq .leaf .leaf) .leaf)) (.seq (.seq .leaf (.br (.seq .leaf .leaf) .leaf)) (.seq .leaf (.seq (.seq .leaf (.blk (.loop [5, 7, 8, 9, 27, 28, 29, 30, 31, 32, 33, 34, 35, 36, 37, 38, 39, 40, 41, 42, 43, 44, 45, 46, 47, 48, 49, 50, 51, 52, 53, 54, 55, 56, 57, 58, 59, 60, 61, 62, 63, 64, 65, 66, 67, 68, 69, 70, 71, 72, 73, 74, 75, 76, 77, 78, 79, 80, 81] [29, 35, 53, 76, 77, 30000] [] [4, 6] [.tmp 7 (.int .i64), .cel 4 [.v (.int .i64), .v (.int .i64), .v (.list (.int .i64))], .arr 30000 3 (.int .i64) (.c 6 2), .cel 6 [.v (.int .i64), .v (.int .i64), .o 30000]] [(.ret, [.tmp 5 (.int .i64), .cel 4 [.v (.int .i64), .v (.int .i64), .v (.list (.int .i64))], .arr 30000 3 (.int .i64) (.c 6 2), .cel 6 [.v (.int .i64), .v (.int .i64), .o 30000]]), ((.ex 0), [.cel 4 [.v (.int .i64), .v (.int .i64), .v (.list (.int .i64))], .arr 30000 3 (.int .i64) (.c 6 2), .cel 6 [.v (.int .i64), .v (.int .i64), .o 30000]])] (.seq (.seq .leaf (.br .leaf .leaf)) (.seq (.blk (.seq .leaf (.seq .leaf (.seq (.seq .leaf (.join [8, 50, 51, 52, 53, 54] [53] [] [] [(.nrm, [.tmp 8 (.int .i64)])] (.br .leaf .leaf))) (.seq (.seq .leaf (.br (.seq .leaf (.seq .leaf (.br .leaf .leaf))) .leaf)) (.seq .leaf (.br (.seq .leaf .leaf) .leaf))))))) .leaf))))) (.seq .leaf .leaf))))))
noncomputable def sp5 : Abs.Spec := { args := [(true, (.cons (.int .i64) (.cons (.int .i64) (.cons (.list (.int .i64)) .nil)))), (true, (.cons (.int .i64) (.cons (.int .i64) (.cons (.list (.int .i64)) .nil))))], res := [.val true (.cons (.int .i64) (.cons (.int .i64) (.cons (.list (.int .i64)) .nil))), .val false (.int .i64)], f := ref_SummaryThen }
theorem ok5 : FunOK' prog (Abs.look gls) 5 sp5 :=
  evalFn_ok (C := mkCtx tis [(13, sp13), (14, sp14), (15, sp15)] [] [] gls pus) (mkCtx_ok mixed tis_ok (specs_cons ok13 (specs_cons ok14 (specs_cons ok15 specs_nil))) bodies_nil) mixed func5 (by kernel_rfl) (an := an5) (by kernel_rfl) (fun x => by kernel_rfl)

/-- watershed/watershedref.TimesSame -/
noncomputable def ref_TimesSame_l1 (x : ((List Int) × (List Int) × Unit)) : (Int × Unit) → Option ((Int × Unit) ⊕ ((Bool × Unit) ⊕ (Unit) ⊕ Empty)) := fun y4 =>
  (cond (decide (y4.1 < (x.1.length : Int))) ((getI x.1 y4.1).bind fun v5 => ((getI x.2.1 y4.1).bind fun v6 => (cond (v5 != v6) (some (Sum.inr (Sum.inl (false, ())))) (some (Sum.inl ((IntKind.i64.wrap (y4.1 + (1 : Int))), ())))))) (some (Sum.inr (Sum.inr (Sum.inl ())))))
noncomputable def ref_TimesSame : ((List Int) × (List Int) × Unit) → Option (Bool × Unit) := fun x =>
  (cond ((x.1.length : Int) != (x.2.1.length : Int)) (some (false, ())) ((loopM (ref_TimesSame_l1 x) ((0 : Int), ())).bind (Sum.elim (fun z7 => (some z7)) (Sum.elim (fun _ => (some (true, ()))) Empty.elim))))
def an16 : Ann := (.seq .leaf (.seq (.seq .leaf (.br (.seq .leaf .leaf) .leaf)) (.seq (.seq .leaf (.blk (.loop [4, 5, 11, 12, 13, 14, 15, 16, 17, 18, 19, 20, 21, 22, 23, 24, 25] [] [] [] [.tmp 5 (.int .i64)] [(.ret, [.tmp 4 .bool]), ((.ex 0), [])] (.seq (.seq .leaf (.br .leaf .leaf)) (.seq (.blk (.seq .leaf (.br (.seq .leaf .leaf) .leaf))) .leaf))))) (.seq .leaf .leaf))))
noncomputable def sp16 : Abs.Spec := { args := [(false, (.list (.int .i64))), (false, (.list (.int .i64)))], res := [.val false .bool], f := ref_TimesSame }
theorem ok16 : FunOK' prog (Abs.look gls) 16 sp16 :=
  evalFn_ok (C := mkCtx tis [] [] [] gls pus) (mkCtx_ok mixed tis_ok specs_nil bodies_nil) mixed func16 (by kernel_rfl) (an := an16) (by kernel_rfl) (fun x => by kernel_rfl)

/-- watershed/watershedref.SummarySame -/
noncomputable def ref_SummarySame : ((Int × (Int × ((List Int) × Unit))) × (Int × (Int × ((List Int) × Unit))) × Unit) → Option (Bool × Unit) := fun x =>
  (cond (x.1.1 == x.2.1.1) (cond (x.1.2.1 == x.2.1.2.1) ((ref_TimesSame (x.1.2.2.1, x.2.1.2.2.1, ())).bind fun r1 => (some r1)) (some (false, ()))) (some (false, ())))
def an6 : Ann := (.seq .leaf (.seq .leaf .leaf))
noncomputable def sp6 : Abs.Spec := { args := [(true, (.cons (.int .i64) (.cons (.int .i64) (.cons (.list (.int .i64)) .nil)))), (true, (.cons (.int .i64) (.cons (.int .i64) (.cons (.list (.int .i64)) .nil))))], res := [.val false .bool], f := ref_SummarySame }
theorem ok6 : FunOK' prog (Abs.look gls) 6 sp6 :=
  evalFn_ok (C := mkCtx tis [(16, sp16)] [] [] gls pus) (mkCtx_ok mixed tis_ok (specs_cons ok16 specs_nil) bodies_nil) mixed func6 (by kernel_rfl) (an := an6) (by kernel_rfl) (fun x => by kernel_rfl)

/-- watershed/summary.places -/
noncomputable def summary_places_l1 (x : ((Int × (Int × ((List Int) × Unit))) × Unit)) : (Int × (List (Int × (Bool × Unit))) × Unit) → Option ((Int × (List (Int × (Bool × Unit))) × Unit) ⊕ (((List (Int × (Bool × Unit))) × Unit) ⊕ Empty)) := fun y6 =>
  (cond (decide (y6.1 < ((List.replicate x.1.1.toNat ((0 : Int), false, ())).length : Int))) (cond (inB y6.1 y6.2.1.length) ((y6.2.1[y6.1.toNat]?).bind fun v7 => (some (Sum.inl ((IntKind.i64.wrap (y6.1 + (1 : Int))), (y6.2.1.set (y6.1.toNat) (v7.1, true, ())), ())))) none) (some (Sum.inr (Sum.inl (y6.2.1, ())))))
noncomputable def summary_places_l2 (x : ((Int × (Int × ((List Int) × Unit))) × Unit)) : ((List (Int × (Bool × Unit))) × Int × Unit) → Option (((List (Int × (Bool × Unit))) × Int × Unit) ⊕ (((List (Int × (Bool × Unit))) × Unit) ⊕ Empty)) := fun y14 =>
  (cond (decide (y14.2.1 < (x.1.2.2.1.length : Int))) ((getI x.1.2.2.1 y14.2.1).bind fun v15 => (cond (true && roomOk (y14.1.length + ([(v15, false, ())]).length) 16 && true && true) (some (Sum.inl ((y14.1 ++ [(v15, false, ())]), (IntKind.i64.wrap (y14.2.1 + (1 : Int))), ()))) none)) (some (Sum.inr (Sum.inl (y14.1, ())))))
noncomputable def summary_places : ((Int × (Int × ((List Int) × Unit))) × Unit) → Option ((List (Int × (Bool × Unit))) × Unit) := fun x =>
  ((summary_Out x).bind fun r1 => (cond (decide (0 ≤ x.1.1) && decide (x.1.1 ≤ r1.1) && roomOk r1.1.toNat 16 && decide (r1.1 ≤ 9223372036854775807) && true && true) ((loopM (summary_places_l1 x) ((0 : Int), (List.replicate x.1.1.toNat ((0 : Int), false, ())), ())).bind (Sum.elim (fun z8 => (cond (inB (IntKind.i64.wrap (x.1.1 - (1 : Int))) z8.1.length) ((z8.1[(IntKind.i64.wrap (x.1.1 - (1 : Int))).toNat]?).bind fun v9 => ((loopM (summary_places_l2 x) ((z8.1.set ((IntKind.i64.wrap (x.1.1 - (1 : Int))).toNat) (x.1.2.1, v9.2.1, ())), (0 : Int), ())).bind (Sum.elim (fun z16 => (some z16)) Empty.elim))) none)) Empty.elim)) none))
def an17 : Ann := (.seq .leaf (.seq .leaf (.seq (.seq .leaf (.blk (.loop [4, 14, 15, 16, 17, 18, 19, 20, 21] [] [] [11] [.tmp 14 (.int .i64), .arrS 11 39 (.cons (.int .i64) (.cons .bool .nil))] [((.ex 0), [.arrS 11 39 (.cons (.int .i64) (.cons .bool .nil))])] (.seq .leaf (.seq (.br .leaf .leaf) (.seq (.blk (.seq .leaf .leaf)) .leaf)))))) (.seq .leaf (.seq (.seq .leaf (.blk (.loop [3, 6, 33, 34, 35, 36, 37, 38, 39, 40, 41, 42] [40, 41, 30000] [11] [] [.arr 30000 39 (.cons (.int .i64) (.cons .bool .nil)) (.t 3), .own 3 30000, .tmp 33 (.int .i64)] [((.ex 2), [.arr 30000 39 (.cons (.int .i64) (.cons .bool .nil)) (.t 3), .own 3 30000])] (.seq .leaf (.seq (.br .leaf .leaf) (.seq (.blk (.seq .leaf .leaf)) .leaf)))))) (.seq .leaf .leaf))))))
noncomputable def sp17 : Abs.Spec := { args := [(true, (.cons (.int .i64) (.cons (.int .i64) (.cons (.list (.int .i64)) .nil))))], res := [.own 39 (.cons (.int .i64) (.cons .bool .nil))], f := summary_places }
theorem ok17 : FunOK' prog (Abs.look gls) 17 sp17 :=
  evalFn_ok (C := mkCtx tis [(10, sp10)] [] [] gls pus) (mkCtx_ok mixed tis_ok (specs_cons ok10 specs_nil) bodies_nil) mixed func17 (by kernel_rfl) (an := an17) (by kernel_rfl) (fun x => by kernel_rfl)

/-- watershed/summary.Leq -/
noncomputable def summary_Leq_l1 (r5 : ((List (Int × (Bool × Unit))) × Unit)) (r6 : ((List (Int × (Bool × Unit))) × Unit)) : (Int × Unit) → Option ((Int × Unit) ⊕ ((Bool × Unit) ⊕ (Unit) ⊕ Empty)) := fun y12 =>
  (cond (decide (y12.1 < (r5.1.length : Int))) (cond (inB y12.1 r5.1.length) ((r5.1[y12.1.toNat]?).bind fun v13 => (cond (inB y12.1 r6.1.length) ((r6.1[y12.1.toNat]?).bind fun v14 => (cond (decide (v13.1 > v14.1)) (some (Sum.inr (Sum.inl (false, ())))) (cond (inB y12.1 r5.1.length) ((r5.1[y12.1.toNat]?).bind fun v15 => (cond v15.2.1 (cond (inB y12.1 r6.1.length) ((r6.1[y12.1.toNat]?).bind fun v16 => (cond (!v16.2.1) (some (Sum.inr (Sum.inl (false, ())))) (some (Sum.inl ((IntKind.i64.wrap (y12.1 + (1 : Int))), ()))))) none) (some (Sum.inl ((IntKind.i64.wrap (y12.1 + (1 : Int))), ()))))) none))) none)) none) (some (Sum.inr (Sum.inr (Sum.inl ())))))
noncomputable def summary_Leq : ((Int × (Int × ((List Int) × Unit))) × (Int × (Int × ((List Int) × Unit))) × Unit) → Option (Bool × Unit) := fun x =>
  ((summary_Check (x.1, (4 : Int), ())).bind fun r1 => (cond (r1.1 != (0 : Int)) (some (false, ())) ((summary_Check (x.2.1, (4 : Int), ())).bind fun r2 => (cond (r2.1 != (0 : Int)) (some (false, ())) ((summary_Out (x.1, ())).bind fun r3 => ((summary_Out (x.2.1, ())).bind fun r4 => (cond (r3.1 != r4.1) (some (false, ())) ((summary_places (x.1, ())).bind fun r5 => ((summary_places (x.2.1, ())).bind fun r6 => ((loopM (summary_Leq_l1 r5 r6) ((0 : Int), ())).bind (Sum.elim (fun z17 => (some z17)) (Sum.elim (fun _ => (some (true, ()))) Empty.elim))))))))))))
def an7 : Ann := (.seq .leaf (.seq (.seq .leaf (.br (.seq .leaf .leaf) .leaf)) (.seq .leaf (.seq (.seq .leaf (.blk (.loop [4, 7, 29, 30, 31, 32, 33, 34, 35, 36, 37, 38, 39, 40, 41, 42, 43, 44, 45, 46, 47, 48, 49, 50, 51, 52, 53, 54, 55, 56, 57, 58] [] [] [] [.tmp 29 (.int .i64)] [(.ret, [.tmp 4 .bool]), ((.ex 0), [])] (.seq .leaf (.seq (.br .leaf .leaf) (.seq (.blk (.seq .leaf (.seq .leaf (.br (.seq .leaf .leaf) .leaf)))) .leaf)))))) (.seq .leaf .leaf)))))
noncomputable def sp7 : Abs.Spec := { args := [(true, (.cons (.int .i64) (.cons (.int .i64) (.cons (.list (.int .i64)) .nil)))), (true, (.cons (.int .i64) (.cons (.int .i64) (.cons (.list (.int .i64)) .nil))))], res := [.val false .bool], f := summary_Leq }
theorem ok7 : FunOK' prog (Abs.look gls) 7 sp7 :=
  evalFn_ok (C := mkCtx tis [(9, sp9), (10, sp10), (17, sp17)] [] [] gls pus) (mkCtx_ok mixed tis_ok (specs_cons ok9 (specs_cons ok10 (specs_cons ok17 specs_nil))) bodies_nil) mixed func7 (by kernel_rfl) (an := an7) (by kernel_rfl) (fun x => by kernel_rfl)

/-- watershed/watershedref.SummaryLeq -/
noncomputable def ref_SummaryLeq_l1 (x : ((Int × (Int × ((List Int) × Unit))) × (Int × (Int × ((List Int) × Unit))) × Unit)) : (Int × Unit) → Option ((Int × Unit) ⊕ ((Bool × Unit) ⊕ (Unit) ⊕ Empty)) := fun y9 =>
  ((ref_SummaryOut (x.1, ())).bind fun r10 => (cond (decide (y9.1 < r10.1)) ((ref_SummaryPlace (x.1, y9.1, ())).bind fun r11 => ((ref_SummaryPlace (x.2.1, y9.1, ())).bind fun r12 => (cond (decide (r11.1 > r12.1)) (some (Sum.inr (Sum.inl (false, ())))) (cond (decide (y9.1 < x.1.1)) (cond (decide (y9.1 ≥ x.2.1.1)) (some (Sum.inr (Sum.inl (false, ())))) (some (Sum.inl ((IntKind.i64.wrap (y9.1 + (1 : Int))), ())))) (some (Sum.inl ((IntKind.i64.wrap (y9.1 + (1 : Int))), ()))))))) (some (Sum.inr (Sum.inr (Sum.inl ()))))))
noncomputable def ref_SummaryLeq : ((Int × (Int × ((List Int) × Unit))) × (Int × (Int × ((List Int) × Unit))) × Unit) → Option (Bool × Unit) := fun x =>
  ((ref_SummaryCheck (x.1, (4 : Int), ())).bind fun r1 => (cond (r1.1 != (0 : Int)) (some (false, ())) ((ref_SummaryCheck (x.2.1, (4 : Int), ())).bind fun r2 => (cond (r2.1 != (0 : Int)) (some (false, ())) ((ref_SummaryOut (x.1, ())).bind fun r3 => ((ref_SummaryOut (x.2.1, ())).bind fun r4 => (cond (r3.1 != r4.1) (some (false, ())) ((loopM (ref_SummaryLeq_l1 x) ((0 : Int), ())).bind (Sum.elim (fun z13 => (some z13)) (Sum.elim (fun _ => (some (true, ()))) Empty.elim))))))))))
def an8 : Ann := (.seq .leaf (.seq (.seq .leaf (.br (.seq .leaf .leaf) .leaf)) (.seq (.seq .leaf (.blk (.loop [4, 5, 21, 22, 23, 24, 25, 26, 27, 28, 29, 30, 31, 32, 33, 34, 35, 36, 37, 38, 39, 40, 41, 42, 43, 44, 45] [23, 29, 32] [] [] [.tmp 5 (.int .i64)] [(.ret, [.tmp 4 .bool]), ((.ex 0), [])] (.seq (.seq .leaf (.br .leaf .leaf)) (.seq (.blk (.seq .leaf (.br (.seq .leaf .leaf) .leaf))) .leaf))))) (.seq .leaf .leaf))))
noncomputable def sp8 : Abs.Spec := { args := [(true, (.cons (.int .i64) (.cons (.int .i64) (.cons (.list (.int .i64)) .nil)))), (true, (.cons (.int .i64) (.cons (.int .i64) (.cons (.list (.int .i64)) .nil))))], res := [.val false .bool], f := ref_SummaryLeq }
theorem ok8 : FunOK' prog (Abs.look gls) 8 sp8 :=
  evalFn_ok (C := mkCtx tis [(13, sp13), (14, sp14), (15, sp15)] [] [] gls pus) (mkCtx_ok mixed tis_ok (specs_cons ok13 (specs_cons ok14 (specs_cons ok15 specs_nil))) bodies_nil) mixed func8 (by kernel_rfl) (an := an8) (by kernel_rfl) (fun x => by kernel_rfl)

/-- watershed/watershedlaw.SummaryThens -/
noncomputable def law_SummaryThens : ((Int × (Int × ((List Int) × Unit))) × (Int × (Int × ((List Int) × Unit))) × Unit) → Option (Bool × Unit) := fun x =>
  ((summary_Then x).bind fun r1 => ((ref_SummaryThen x).bind fun r2 => (cond (r1.2.1 == r2.2.1) ((ref_SummarySame (r1.1, r2.1, ())).bind fun r3 => (cond r3.1 ((summary_Leq x).bind fun r4 => ((ref_SummaryLeq x).bind fun r5 => (some ((r4.1 == r5.1), ())))) (some (false, ())))) (some (false, ())))))
def an3 : Ann := (.seq .leaf (.seq .leaf (.seq .leaf (.seq .leaf .leaf))))
noncomputable def sp3 : Abs.Spec := { args := [(true, (.cons (.int .i64) (.cons (.int .i64) (.cons (.list (.int .i64)) .nil)))), (true, (.cons (.int .i64) (.cons (.int .i64) (.cons (.list (.int .i64)) .nil))))], res := [.val false .bool], f := law_SummaryThens }
theorem ok3 : FunOK' prog (Abs.look gls) 3 sp3 :=
  evalFn_ok (C := mkCtx tis [(4, sp4), (5, sp5), (6, sp6), (7, sp7), (8, sp8)] [] [] gls pus) (mkCtx_ok mixed tis_ok (specs_cons ok4 (specs_cons ok5 (specs_cons ok6 (specs_cons ok7 (specs_cons ok8 specs_nil))))) bodies_nil) mixed func3 (by kernel_rfl) (an := an3) (by kernel_rfl) (fun x => by kernel_rfl)

end Go.Proofs.Try
