/- Plain functions, printed by gen.py over the program that YtdinlimamfpboaaProg loads; each keeps its contract by the engine. -/
import Derived.Test.YtdinlimamfpboaaAbsLoops
import Derived.Test.YtdinlimamfpboaaProg
namespace Go.Proofs.Try
open Go Go.Abs
set_option maxRecDepth 100000


def tis : List (Nat × TInfo) := [(3, { agg := false, str := false, size := 1, bytes := 8, zeros := [.sc (.int .i64) (0 : Int)], flds := [], elem := none, arr := none, ty := (.int .i64) }),
  (4, { agg := false, str := false, size := 1, bytes := 1, zeros := [.sc .bool (false)], flds := [], elem := none, arr := none, ty := .bool }),
  (26, { agg := false, str := false, size := 1, bytes := 24, zeros := [.nils], flds := [], elem := some 3, arr := none, ty := (.list (.int .i64)) }),
  (28, { agg := true, str := true, size := 3, bytes := 40, zeros := [.sc (.int .i64) (0 : Int), .sc (.int .i64) (0 : Int), .nils], flds := [{ off := 0, size := 1, agg := false }, { off := 1, size := 1, agg := false }, { off := 2, size := 1, agg := false }], elem := none, arr := none, ty := (.cons (.int .i64) (.cons (.int .i64) (.cons (.list (.int .i64)) .nil))) }),
  (29, { agg := false, str := false, size := 1, bytes := 8, zeros := [.sc (.int .i64) (0 : Int)], flds := [], elem := none, arr := none, ty := (.int .i64) })]

theorem tis_ok : tiTable prog (tis.map (·.1)) = tis.map fun p => (p.1, some p.2) := by kernel_rfl
theorem mixed : prog.follows .mixedOrders = true := by kernel_rfl

/-- watershed/times.Check -/
noncomputable def times_Check_l1 (x : ((List Int) × Unit)) : (Int × Unit) → Option ((Int × Unit) ⊕ ((Int × Unit) ⊕ (Unit) ⊕ Empty)) := fun y3 =>
  (cond (decide (y3.1 < (x.1.length : Int))) ((getI x.1 y3.1).bind fun v4 => (cond (decide (v4 < (0 : Int))) (some (Sum.inr (Sum.inl ((2 : Int), ())))) (cond (decide (v4 > (1048576 : Int))) (some (Sum.inr (Sum.inl ((2 : Int), ())))) (some (Sum.inl ((IntKind.i64.wrap (y3.1 + (1 : Int))), ())))))) (some (Sum.inr (Sum.inr (Sum.inl ())))))
noncomputable def times_Check : ((List Int) × Unit) → Option (Int × Unit) := fun x =>
  (cond ((x.1.length : Int) == (0 : Int)) (some ((1 : Int), ())) (cond (decide ((x.1.length : Int) > (4 : Int))) (some ((1 : Int), ())) ((loopM (times_Check_l1 x) ((0 : Int), ())).bind (Sum.elim (fun z5 => (some z5)) (Sum.elim (fun z6 => (some ((0 : Int), ()))) Empty.elim)))))
def an32 : Ann := (.seq .leaf (.seq (.seq .leaf (.br (.seq .leaf .leaf) .leaf)) (.seq (.seq .leaf (.blk (.loop [2, 4, 15, 16, 17, 18, 19, 20, 21, 22, 23, 24, 25] [] [] [] [.tmp 15 (.int .i64)] [(.ret, [.tmp 2 (.int .i64)]), ((.ex 0), [])] (.seq .leaf (.seq (.br .leaf .leaf) (.seq (.blk (.seq .leaf (.seq .leaf (.br (.seq .leaf .leaf) .leaf)))) .leaf)))))) (.seq .leaf .leaf))))
noncomputable def sp32 : Abs.Spec := { args := [(false, (.list (.int .i64)))], res := [.val false (.int .i64)], f := times_Check }
theorem ok32 : FunOK' prog 32 sp32 :=
  evalFn_ok (C := mkCtx tis [] []) (mkCtx_ok mixed tis_ok specs_nil bodies_nil) mixed func32 (by kernel_rfl) (an := an32) (by kernel_rfl) (fun x => by kernel_rfl)

/-- watershed/summary.within -/
noncomputable def summary_within : (Int × Unit) → Option (Bool × Unit) := fun x =>
  (cond (decide (x.1 ≥ (0 : Int))) (some ((decide (x.1 ≤ (1048576 : Int))), ())) (some (false, ())))
def an41 : Ann := (.seq .leaf (.seq .leaf .leaf))
noncomputable def sp41 : Abs.Spec := { args := [(false, (.int .i64))], res := [.val false .bool], f := summary_within }
theorem ok41 : FunOK' prog 41 sp41 :=
  evalFn_ok (C := mkCtx tis [] []) (mkCtx_ok mixed tis_ok specs_nil bodies_nil) mixed func41 (by kernel_rfl) (an := an41) (by kernel_rfl) (fun x => by kernel_rfl)

/-- watershed/summary.Check -/
noncomputable def summary_Check_l1 (x : ((Int × (Int × ((List Int) × Unit))) × Int × Unit)) : (Int × Unit) → Option ((Int × Unit) ⊕ ((Int × Unit) ⊕ (Unit) ⊕ Empty)) := fun y4 =>
  (cond (decide (y4.1 < (([x.1.2.1] ++ x.1.2.2.1).length : Int))) (cond (inB y4.1 ([x.1.2.1] ++ x.1.2.2.1).length) ((([x.1.2.1] ++ x.1.2.2.1)[y4.1.toNat]?).bind fun v5 => ((summary_within (v5, ())).bind fun r6 => (cond (!r6.1) (some (Sum.inr (Sum.inl ((2 : Int), ())))) (some (Sum.inl ((IntKind.i64.wrap (y4.1 + (1 : Int))), ())))))) none) (some (Sum.inr (Sum.inr (Sum.inl ())))))
noncomputable def summary_Check : ((Int × (Int × ((List Int) × Unit))) × Int × Unit) → Option (Int × Unit) := fun x =>
  (cond (decide (x.2.1 < (1 : Int))) (some ((1 : Int), ())) (cond (decide (x.2.1 > (4 : Int))) (some ((1 : Int), ())) (cond (decide (x.1.1 < (1 : Int))) (some ((1 : Int), ())) (cond (decide (x.1.1 > x.2.1)) (some ((1 : Int), ())) (cond (decide ((x.1.2.2.1.length : Int) > (IntKind.i64.wrap ((4 : Int) - x.1.1)))) (some ((1 : Int), ())) (cond (true && roomOk (([x.1.2.1]).length + x.1.2.2.1.length) 8 && true && true) ((loopM (summary_Check_l1 x) ((0 : Int), ())).bind (Sum.elim (fun z7 => (some z7)) (Sum.elim (fun z8 => (some ((0 : Int), ()))) Empty.elim))) none))))))
def an15 : Ann := (.seq .leaf (.seq (.seq .leaf (.br (.seq .leaf .leaf) .leaf)) (.seq (.seq .leaf (.blk (.loop [4, 6, 40, 41, 42, 43, 44, 45, 46, 47] [45] [] [] [.tmp 40 (.int .i64)] [(.ret, [.tmp 4 (.int .i64)]), ((.ex 0), [])] (.seq .leaf (.seq (.br .leaf .leaf) (.seq (.blk (.seq .leaf (.seq .leaf (.br (.seq .leaf .leaf) .leaf)))) .leaf)))))) (.seq .leaf .leaf))))
noncomputable def sp15 : Abs.Spec := { args := [(true, (.cons (.int .i64) (.cons (.int .i64) (.cons (.list (.int .i64)) .nil)))), (false, (.int .i64))], res := [.val false (.int .i64)], f := summary_Check }
theorem ok15 : FunOK' prog 15 sp15 :=
  evalFn_ok (C := mkCtx tis [(41, sp41)] []) (mkCtx_ok mixed tis_ok (specs_cons ok41 specs_nil) bodies_nil) mixed func15 (by kernel_rfl) (an := an15) (by kernel_rfl) (fun x => by kernel_rfl)

/-- slices.Clone[[]int,int] -/
noncomputable def slices_Clone_s_int_int : ((List Int) × Unit) → Option ((List Int) × Unit) := fun x =>
  (cond (true && roomOk (([] : (List Int)).length + x.1.length) 8 && true && true) (some ((([] : (List Int)) ++ x.1), ())) none)
def an40 : Ann := (.seq .leaf (.seq (.seq .leaf (.br (.seq .leaf .leaf) .leaf)) (.seq .leaf .leaf)))
noncomputable def sp40 : Abs.Spec := { args := [(false, (.list (.int .i64)))], res := [.own 3 (.int .i64)], f := slices_Clone_s_int_int }
theorem ok40 : FunOK' prog 40 sp40 :=
  evalNil_ok (C := mkCtx tis [] []) (mkCtx_ok mixed tis_ok specs_nil bodies_nil) mixed func40 (by kernel_rfl) (an := an40) (by kernel_rfl) (Nat.le_of_ble_eq_true (by kernel_rfl)) (by kernel_rfl) (fun l => by kernel_rfl)

/-- watershed/summary.Apply -/
noncomputable def summary_Apply : ((Int × (Int × ((List Int) × Unit))) × (List Int) × Unit) → Option ((List Int) × Int × Unit) := fun x =>
  ((times_Check (x.2.1, ())).bind fun r1 => (cond (r1.1 != (0 : Int)) (some (([] : (List Int)), r1.1, ())) ((summary_Check (x.1, (x.2.1.length : Int), ())).bind fun r2 => (cond (r2.1 != (0 : Int)) (some (([] : (List Int)), r2.1, ())) (cond (decide (0 ≤ (0 : Int)) && decide ((0 : Int) ≤ x.1.1) && decide (x.1.1 ≤ x.2.1.length)) ((slices_Clone_s_int_int (((x.2.1.drop (0 : Int).toNat).take (x.1.1.toNat - (0 : Int).toNat)), ())).bind fun r3 => (cond (true && roomOk (r3.1.length + x.1.2.2.1.length) 8 && true && true) (cond (inB (IntKind.i64.wrap (x.1.1 - (1 : Int))) (r3.1 ++ x.1.2.2.1).length) (((r3.1 ++ x.1.2.2.1)[(IntKind.i64.wrap (x.1.1 - (1 : Int))).toNat]?).bind fun v4 => (cond (inB (IntKind.i64.wrap (x.1.1 - (1 : Int))) (r3.1 ++ x.1.2.2.1).length) (((r3.1 ++ x.1.2.2.1)[(IntKind.i64.wrap (x.1.1 - (1 : Int))).toNat]?).bind fun v5 => (cond (inB (IntKind.i64.wrap (x.1.1 - (1 : Int))) ((r3.1 ++ x.1.2.2.1).set ((IntKind.i64.wrap (x.1.1 - (1 : Int))).toNat) (IntKind.i64.wrap (v4 + x.1.2.1))).length) ((((r3.1 ++ x.1.2.2.1).set ((IntKind.i64.wrap (x.1.1 - (1 : Int))).toNat) (IntKind.i64.wrap (v4 + x.1.2.1)))[(IntKind.i64.wrap (x.1.1 - (1 : Int))).toNat]?).bind fun v6 => ((summary_within (v6, ())).bind fun r7 => (cond (!r7.1) (some (([] : (List Int)), (6 : Int), ())) (some (((r3.1 ++ x.1.2.2.1).set ((IntKind.i64.wrap (x.1.1 - (1 : Int))).toNat) (IntKind.i64.wrap (v4 + x.1.2.1))), (0 : Int), ()))))) none)) none)) none) none)) none)))))
def an13 : Ann := (.seq .leaf (.seq (.seq .leaf (.seq .leaf (.br (.seq .leaf .leaf) .leaf))) (.seq (.seq .leaf (.seq .leaf (.br (.seq .leaf .leaf) .leaf))) (.seq .leaf (.seq .leaf (.seq (.seq .leaf (.br (.seq .leaf .leaf) .leaf)) (.seq .leaf .leaf)))))))
noncomputable def sp13 : Abs.Spec := { args := [(true, (.cons (.int .i64) (.cons (.int .i64) (.cons (.list (.int .i64)) .nil)))), (false, (.list (.int .i64)))], res := [.own 3 (.int .i64), .val false (.int .i64)], f := summary_Apply }
theorem ok13 : FunOK' prog 13 sp13 :=
  evalFn_ok (C := mkCtx tis [(15, sp15), (32, sp32), (40, sp40), (41, sp41)] []) (mkCtx_ok mixed tis_ok (specs_cons ok15 (specs_cons ok32 (specs_cons ok40 (specs_cons ok41 specs_nil)))) bodies_nil) mixed func13 (by kernel_rfl) (an := an13) (by kernel_rfl) (fun x => by kernel_rfl)

/-- watershed/watershedref.TimesCheck -/
noncomputable def ref_TimesCheck_l1 (x : ((List Int) × Unit)) : (Int × Unit) → Option ((Int × Unit) ⊕ ((Int × Unit) ⊕ (Unit) ⊕ Empty)) := fun y3 =>
  (cond (decide (y3.1 < (x.1.length : Int))) ((getI x.1 y3.1).bind fun v4 => (cond (decide (v4 < (0 : Int))) (some (Sum.inr (Sum.inl ((2 : Int), ())))) (cond (decide (v4 > (1048576 : Int))) (some (Sum.inr (Sum.inl ((2 : Int), ())))) (some (Sum.inl ((IntKind.i64.wrap (y3.1 + (1 : Int))), ())))))) (some (Sum.inr (Sum.inr (Sum.inl ())))))
noncomputable def ref_TimesCheck : ((List Int) × Unit) → Option (Int × Unit) := fun x =>
  (cond (decide ((x.1.length : Int) < (1 : Int))) (some ((1 : Int), ())) (cond (decide ((x.1.length : Int) > (4 : Int))) (some ((1 : Int), ())) ((loopM (ref_TimesCheck_l1 x) ((0 : Int), ())).bind (Sum.elim (fun z5 => (some z5)) (Sum.elim (fun z6 => (some ((0 : Int), ()))) Empty.elim)))))
def an33 : Ann := (.seq .leaf (.seq (.seq .leaf (.br (.seq .leaf .leaf) .leaf)) (.seq (.seq .leaf (.blk (.loop [2, 4, 15, 16, 17, 18, 19, 20, 21, 22, 23, 24, 25] [] [] [] [.tmp 15 (.int .i64)] [(.ret, [.tmp 2 (.int .i64)]), ((.ex 0), [])] (.seq .leaf (.seq (.br .leaf .leaf) (.seq (.blk (.seq .leaf (.seq .leaf (.br (.seq .leaf .leaf) .leaf)))) .leaf)))))) (.seq .leaf .leaf))))
noncomputable def sp33 : Abs.Spec := { args := [(false, (.list (.int .i64)))], res := [.val false (.int .i64)], f := ref_TimesCheck }
theorem ok33 : FunOK' prog 33 sp33 :=
  evalFn_ok (C := mkCtx tis [] []) (mkCtx_ok mixed tis_ok specs_nil bodies_nil) mixed func33 (by kernel_rfl) (an := an33) (by kernel_rfl) (fun x => by kernel_rfl)

/-- watershed/watershedref.SummaryCheck -/
noncomputable def ref_SummaryCheck_l1 (x : ((Int × (Int × ((List Int) × Unit))) × Int × Unit)) : (Int × Unit) → Option ((Int × Unit) ⊕ ((Int × Unit) ⊕ (Unit) ⊕ Empty)) := fun y3 =>
  (cond (decide (y3.1 < (x.1.2.2.1.length : Int))) ((getI x.1.2.2.1 y3.1).bind fun v4 => (cond (decide (v4 < (0 : Int))) (some (Sum.inr (Sum.inl ((2 : Int), ())))) (cond (decide (v4 > (1048576 : Int))) (some (Sum.inr (Sum.inl ((2 : Int), ())))) (some (Sum.inl ((IntKind.i64.wrap (y3.1 + (1 : Int))), ())))))) (some (Sum.inr (Sum.inr (Sum.inl ())))))
noncomputable def ref_SummaryCheck : ((Int × (Int × ((List Int) × Unit))) × Int × Unit) → Option (Int × Unit) := fun x =>
  (cond (decide (x.2.1 < (1 : Int))) (some ((1 : Int), ())) (cond (decide (x.2.1 > (4 : Int))) (some ((1 : Int), ())) (cond (decide (x.1.1 < (1 : Int))) (some ((1 : Int), ())) (cond (decide (x.1.1 > x.2.1)) (some ((1 : Int), ())) (cond (decide ((x.1.2.2.1.length : Int) > (4 : Int))) (some ((1 : Int), ())) (cond (decide ((IntKind.i64.wrap (x.1.1 + (x.1.2.2.1.length : Int))) > (4 : Int))) (some ((1 : Int), ())) (cond (decide (x.1.2.1 < (0 : Int))) (some ((2 : Int), ())) (cond (decide (x.1.2.1 > (1048576 : Int))) (some ((2 : Int), ())) ((loopM (ref_SummaryCheck_l1 x) ((0 : Int), ())).bind (Sum.elim (fun z5 => (some z5)) (Sum.elim (fun z6 => (some ((0 : Int), ()))) Empty.elim)))))))))))
def an16 : Ann := (.seq .leaf (.seq (.seq .leaf (.br (.seq .leaf .leaf) .leaf)) (.seq (.seq .leaf (.br (.seq .leaf .leaf) .leaf)) (.seq (.seq .leaf (.blk (.loop [4, 6, 50, 51, 52, 53, 54, 55, 56, 57, 58, 59, 60] [] [] [] [.tmp 50 (.int .i64)] [(.ret, [.tmp 4 (.int .i64)]), ((.ex 0), [])] (.seq .leaf (.seq (.br .leaf .leaf) (.seq (.blk (.seq .leaf (.seq .leaf (.br (.seq .leaf .leaf) .leaf)))) .leaf)))))) (.seq .leaf .leaf)))))
noncomputable def sp16 : Abs.Spec := { args := [(true, (.cons (.int .i64) (.cons (.int .i64) (.cons (.list (.int .i64)) .nil)))), (false, (.int .i64))], res := [.val false (.int .i64)], f := ref_SummaryCheck }
theorem ok16 : FunOK' prog 16 sp16 :=
  evalFn_ok (C := mkCtx tis [] []) (mkCtx_ok mixed tis_ok specs_nil bodies_nil) mixed func16 (by kernel_rfl) (an := an16) (by kernel_rfl) (fun x => by kernel_rfl)

/-- watershed/watershedref.SummaryOut -/
noncomputable def ref_SummaryOut : ((Int × (Int × ((List Int) × Unit))) × Unit) → Option (Int × Unit) := fun x =>
  (some ((IntKind.i64.wrap (x.1.1 + (x.1.2.2.1.length : Int))), ()))
def an42 : Ann := (.seq .leaf (.seq .leaf .leaf))
noncomputable def sp42 : Abs.Spec := { args := [(true, (.cons (.int .i64) (.cons (.int .i64) (.cons (.list (.int .i64)) .nil))))], res := [.val false (.int .i64)], f := ref_SummaryOut }
theorem ok42 : FunOK' prog 42 sp42 :=
  evalFn_ok (C := mkCtx tis [] []) (mkCtx_ok mixed tis_ok specs_nil bodies_nil) mixed func42 (by kernel_rfl) (an := an42) (by kernel_rfl) (fun x => by kernel_rfl)

/-- watershed/watershedref.SummaryPlace -/
noncomputable def ref_SummaryPlace : ((Int × (Int × ((List Int) × Unit))) × Int × Unit) → Option (Int × Unit) := fun x =>
  (cond (decide (x.2.1 ≥ x.1.1)) ((getI x.1.2.2.1 (IntKind.i64.wrap (x.2.1 - x.1.1))).bind fun v1 => (some (v1, ()))) (cond (x.2.1 == (IntKind.i64.wrap (x.1.1 - (1 : Int)))) (some (x.1.2.1, ())) (some ((0 : Int), ()))))
def an43 : Ann := (.seq .leaf (.seq (.seq .leaf (.br (.seq .leaf .leaf) .leaf)) (.seq (.seq .leaf (.br (.seq .leaf .leaf) .leaf)) (.seq .leaf .leaf))))
noncomputable def sp43 : Abs.Spec := { args := [(true, (.cons (.int .i64) (.cons (.int .i64) (.cons (.list (.int .i64)) .nil)))), (false, (.int .i64))], res := [.val false (.int .i64)], f := ref_SummaryPlace }
theorem ok43 : FunOK' prog 43 sp43 :=
  evalFn_ok (C := mkCtx tis [] []) (mkCtx_ok mixed tis_ok specs_nil bodies_nil) mixed func43 (by kernel_rfl) (an := an43) (by kernel_rfl) (fun x => by kernel_rfl)

/-- watershed/watershedref.SummaryApply -/
noncomputable def ref_SummaryApply_l1 (x : ((Int × (Int × ((List Int) × Unit))) × (List Int) × Unit)) : ((List Int) × Int × Unit) → Option (((List Int) × Int × Unit) ⊕ (((List Int) × Int × Unit) ⊕ ((List Int) × Unit) ⊕ Empty)) := fun y13 =>
  ((ref_SummaryOut (x.1, ())).bind fun r14 => (cond (decide (y13.2.1 < r14.1)) ((ref_SummaryPlace (x.1, y13.2.1, ())).bind fun r15 => (cond (decide (y13.2.1 < x.1.1)) ((getI x.2.1 y13.2.1).bind fun v16 => (cond (decide ((IntKind.i64.wrap (r15.1 + v16)) > (1048576 : Int))) (some (Sum.inr (Sum.inl (([] : (List Int)), (6 : Int), ())))) (cond (true && roomOk (y13.1.length + ([(IntKind.i64.wrap (r15.1 + v16))]).length) 8 && true && true) (some (Sum.inl ((y13.1 ++ [(IntKind.i64.wrap (r15.1 + v16))]), (IntKind.i64.wrap (y13.2.1 + (1 : Int))), ()))) none))) (cond (decide (r15.1 > (1048576 : Int))) (some (Sum.inr (Sum.inl (([] : (List Int)), (6 : Int), ())))) (cond (true && roomOk (y13.1.length + ([r15.1]).length) 8 && true && true) (some (Sum.inl ((y13.1 ++ [r15.1]), (IntKind.i64.wrap (y13.2.1 + (1 : Int))), ()))) none)))) (some (Sum.inr (Sum.inr (Sum.inl (y13.1, ())))))))
noncomputable def ref_SummaryApply : ((Int × (Int × ((List Int) × Unit))) × (List Int) × Unit) → Option ((List Int) × Int × Unit) := fun x =>
  ((ref_TimesCheck (x.2.1, ())).bind fun r1 => (cond (r1.1 != (0 : Int)) ((ref_TimesCheck (x.2.1, ())).bind fun r2 => (some (([] : (List Int)), r2.1, ()))) ((ref_SummaryCheck (x.1, (x.2.1.length : Int), ())).bind fun r3 => (cond (r3.1 != (0 : Int)) ((ref_SummaryCheck (x.1, (x.2.1.length : Int), ())).bind fun r4 => (some (([] : (List Int)), r4.1, ()))) ((loopM (ref_SummaryApply_l1 x) (([] : (List Int)), (0 : Int), ())).bind (Sum.elim (fun z17 => (some z17)) (Sum.elim (fun z18 => (some (z18.1, (0 : Int), ()))) Empty.elim)))))))
def an14 : Ann := (.seq .leaf (.seq (.seq .leaf (.br (.seq .leaf .leaf) .leaf)) (.seq (.seq .leaf (.br (.seq .leaf .leaf) .leaf)) (.seq .leaf (.seq (.seq .leaf (.blk (.loop [4, 5, 6, 7, 8, 23, 24, 25, 26, 27, 28, 29, 30, 31, 32, 33, 34, 35, 36, 37, 38, 39, 40, 41, 42, 43, 44, 45, 46, 47] [25, 31, 46, 47, 500] [] [] [.arr 500 3 (.int .i64) (.t 6), .own 6 500, .tmp 7 (.int .i64)] [(.ret, [.tmp 4 (.list (.int .i64)), .tmp 5 (.int .i64)]), ((.ex 0), [.arr 500 3 (.int .i64) (.t 6), .own 6 500])] (.seq (.seq .leaf (.br .leaf .leaf)) (.seq (.blk (.seq .leaf (.seq (.seq .leaf (.br .leaf .leaf)) (.seq (.seq .leaf (.br (.seq .leaf .leaf) .leaf)) .leaf)))) .leaf))))) (.seq .leaf .leaf))))))
noncomputable def sp14 : Abs.Spec := { args := [(true, (.cons (.int .i64) (.cons (.int .i64) (.cons (.list (.int .i64)) .nil)))), (false, (.list (.int .i64)))], res := [.val false (.list (.int .i64)), .val false (.int .i64)], f := ref_SummaryApply }
theorem ok14 : FunOK' prog 14 sp14 :=
  evalFn_ok (C := mkCtx tis [(16, sp16), (33, sp33), (42, sp42), (43, sp43)] []) (mkCtx_ok mixed tis_ok (specs_cons ok16 (specs_cons ok33 (specs_cons ok42 (specs_cons ok43 specs_nil)))) bodies_nil) mixed func14 (by kernel_rfl) (an := an14) (by kernel_rfl) (fun x => by kernel_rfl)

/-- watershed/watershedref.TimesSame -/
noncomputable def ref_TimesSame_l1 (x : ((List Int) × (List Int) × Unit)) : (Int × Unit) → Option ((Int × Unit) ⊕ ((Bool × Unit) ⊕ (Unit) ⊕ Empty)) := fun y4 =>
  (cond (decide (y4.1 < (x.1.length : Int))) ((getI x.1 y4.1).bind fun v5 => ((getI x.2.1 y4.1).bind fun v6 => (cond (v5 != v6) (some (Sum.inr (Sum.inl (false, ())))) (some (Sum.inl ((IntKind.i64.wrap (y4.1 + (1 : Int))), ())))))) (some (Sum.inr (Sum.inr (Sum.inl ())))))
noncomputable def ref_TimesSame : ((List Int) × (List Int) × Unit) → Option (Bool × Unit) := fun x =>
  (cond ((x.1.length : Int) != (x.2.1.length : Int)) (some (false, ())) ((loopM (ref_TimesSame_l1 x) ((0 : Int), ())).bind (Sum.elim (fun z7 => (some z7)) (Sum.elim (fun z8 => (some (true, ()))) Empty.elim))))
def an17 : Ann := (.seq .leaf (.seq (.seq .leaf (.br (.seq .leaf .leaf) .leaf)) (.seq (.seq .leaf (.blk (.loop [4, 5, 11, 12, 13, 14, 15, 16, 17, 18, 19, 20, 21, 22, 23, 24, 25] [] [] [] [.tmp 5 (.int .i64)] [(.ret, [.tmp 4 .bool]), ((.ex 0), [])] (.seq (.seq .leaf (.br .leaf .leaf)) (.seq (.blk (.seq .leaf (.br (.seq .leaf .leaf) .leaf))) .leaf))))) (.seq .leaf .leaf))))
noncomputable def sp17 : Abs.Spec := { args := [(false, (.list (.int .i64))), (false, (.list (.int .i64)))], res := [.val false .bool], f := ref_TimesSame }
theorem ok17 : FunOK' prog 17 sp17 :=
  evalFn_ok (C := mkCtx tis [] []) (mkCtx_ok mixed tis_ok specs_nil bodies_nil) mixed func17 (by kernel_rfl) (an := an17) (by kernel_rfl) (fun x => by kernel_rfl)

/-- watershed/watershedlaw.SummaryTells -/
noncomputable def law_SummaryTells : ((Int × (Int × ((List Int) × Unit))) × Int × (List Int) × Unit) → Option (Bool × Unit) := fun x =>
  ((summary_Apply (x.1, x.2.2.1, ())).bind fun r1 => ((ref_SummaryApply (x.1, x.2.2.1, ())).bind fun r2 => ((summary_Check (x.1, x.2.1, ())).bind fun r3 => ((ref_SummaryCheck (x.1, x.2.1, ())).bind fun r4 => (cond (r3.1 == r4.1) (cond (r1.2.1 == r2.2.1) ((ref_TimesSame (r1.1, r2.1, ())).bind fun r5 => (some r5)) (some (false, ()))) (some (false, ())))))))
def an4 : Ann := (.seq .leaf (.seq .leaf (.seq .leaf (.seq .leaf .leaf))))
noncomputable def sp4 : Abs.Spec := { args := [(true, (.cons (.int .i64) (.cons (.int .i64) (.cons (.list (.int .i64)) .nil)))), (false, (.int .i64)), (false, (.list (.int .i64)))], res := [.val false .bool], f := law_SummaryTells }
theorem ok4 : FunOK' prog 4 sp4 :=
  evalFn_ok (C := mkCtx tis [(13, sp13), (14, sp14), (15, sp15), (16, sp16), (17, sp17)] []) (mkCtx_ok mixed tis_ok (specs_cons ok13 (specs_cons ok14 (specs_cons ok15 (specs_cons ok16 (specs_cons ok17 specs_nil))))) bodies_nil) mixed func4 (by kernel_rfl) (an := an4) (by kernel_rfl) (fun x => by kernel_rfl)

end Go.Proofs.Try
