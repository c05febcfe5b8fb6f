/- Plain functions, printed by gen.py over the program that YtammjpalmmhokaaProg loads; each keeps its contract by the engine. -/
import Derived.Test.YtammjpalmmhokaaAbsLoops
import Derived.Test.YtammjpalmmhokaaP5Sort
import Derived.Test.YtammjpalmmhokaaProg
namespace Go.Proofs.Try
open Go Go.Abs
set_option maxRecDepth 100000


def tis : List (Nat × TInfo) := [(3, { agg := false, str := false, size := 1, bytes := 8, zeros := [.sc (.int .i64) (0 : Int)], flds := [], elem := none, arr := none, ty := (.int .i64) }),
  (4, { agg := false, str := false, size := 1, bytes := 1, zeros := [.sc .bool (false)], flds := [], elem := none, arr := none, ty := .bool }),
  (23, { agg := false, str := false, size := 1, bytes := 24, zeros := [.nils], flds := [], elem := some 3, arr := none, ty := (.list (.int .i64)) }),
  (24, { agg := false, str := false, size := 1, bytes := 8, zeros := [.sc (.int .i64) (0 : Int)], flds := [], elem := none, arr := none, ty := (.int .i64) }),
  (57, { agg := false, str := false, size := 1, bytes := 24, zeros := [.nils], flds := [], elem := some 23, arr := none, ty := (.list (.list (.int .i64))) })]

theorem tis_ok : tiTable prog (tis.map (·.1)) = tis.map fun p => (p.1, some p.2) := by kernel_rfl
def pus : List Nat := []
theorem mixed : prog.follows .mixedOrders = true := by kernel_rfl

noncomputable def gls : List (Nat × (IntKind × Nat × List Int)) := []

/-- watershed/times.Check -/
noncomputable def times_Check_l1 (x : ((List Int) × Unit)) : (Int × Unit) → Option ((Int × Unit) ⊕ ((Int × Unit) ⊕ (Unit) ⊕ Empty)) := fun y1 =>
  (cond (decide (y1.1 < (x.1.length : Int))) ((getI x.1 y1.1).bind fun v2 => (cond (decide (v2 < (0 : Int))) (some (Sum.inr (Sum.inl ((2 : Int), ())))) (cond (decide (v2 > (1048576 : Int))) (some (Sum.inr (Sum.inl ((2 : Int), ())))) (some (Sum.inl ((IntKind.i64.wrap (y1.1 + (1 : Int))), ())))))) (some (Sum.inr (Sum.inr (Sum.inl ())))))
noncomputable def times_Check : ((List Int) × Unit) → Option (Int × Unit) := fun x =>
  (cond ((x.1.length : Int) == (0 : Int)) (some ((1 : Int), ())) (cond (decide ((x.1.length : Int) > (4 : Int))) (some ((1 : Int), ())) ((loopM (times_Check_l1 x) ((0 : Int), ())).bind (Sum.elim (fun z3 => (some z3)) (Sum.elim (fun z4 => (some ((0 : Int), ()))) Empty.elim)))))
def an30 : Ann := (.seq .leaf (.seq (.seq .leaf (.br (.seq .leaf .leaf) .leaf)) (.seq (.seq .leaf (.blk (.loop [2, 4, 15, 16, 17, 18, 19, 20, 21, 22, 23, 24, 25] [] [] [] [.tmp 15 (.int .i64)] [(.ret, [.tmp 2 (.int .i64)]), ((.ex 0), [])] (.seq .leaf (.seq (.br .leaf .leaf) (.seq (.blk (.seq .leaf (.seq .leaf (.br (.seq .leaf .leaf) .leaf)))) .leaf)))))) (.seq .leaf .leaf))))
noncomputable def sp30 : Abs.Spec := { args := [(false, (.list (.int .i64)))], res := [.val false (.int .i64)], f := times_Check }
theorem ok30 : FunOK' prog (Abs.look gls) 30 sp30 :=
  evalFn_ok (C := mkCtx tis [] [] [] gls pus []) (mkCtx_ok mixed tis_ok specs_nil bodies_nil ) mixed func30 (by kernel_rfl) (an := an30) (by kernel_rfl) (fun x => by kernel_rfl)

/-- watershed/times.List -/
noncomputable def times_List_l1 (x : ((List (List Int)) × Unit)) : (Int × Unit) → Option ((Int × Unit) ⊕ ((Int × Unit) ⊕ (Unit) ⊕ Empty)) := fun y1 =>
  (cond (decide (y1.1 < (x.1.length : Int))) ((getI x.1 y1.1).bind fun v2 => ((times_Check (v2, ())).bind fun r3 => (cond (r3.1 != (0 : Int)) (some (Sum.inr (Sum.inl r3))) (some (Sum.inl ((IntKind.i64.wrap (y1.1 + (1 : Int))), ())))))) (some (Sum.inr (Sum.inr (Sum.inl ())))))
noncomputable def times_List_l2 (x : ((List (List Int)) × Unit)) : (Int × Unit) → Option ((Int × Unit) ⊕ ((Int × Unit) ⊕ (Unit) ⊕ Empty)) := fun y6 =>
  (cond (decide (y6.1 < (x.1.length : Int))) ((getI x.1 y6.1).bind fun v7 => ((getI x.1 (0 : Int)).bind fun v8 => (cond ((v7.length : Int) != (v8.length : Int)) (some (Sum.inr (Sum.inl ((3 : Int), ())))) (some (Sum.inl ((IntKind.i64.wrap (y6.1 + (1 : Int))), ())))))) (some (Sum.inr (Sum.inr (Sum.inl ())))))
noncomputable def times_List : ((List (List Int)) × Unit) → Option (Int × Unit) := fun x =>
  (cond (decide ((x.1.length : Int) > (64 : Int))) (some ((1 : Int), ())) ((loopM (times_List_l1 x) ((0 : Int), ())).bind (Sum.elim (fun z4 => (some z4)) (Sum.elim (fun z5 => ((loopM (times_List_l2 x) ((0 : Int), ())).bind (Sum.elim (fun z9 => (some z9)) (Sum.elim (fun z10 => (some ((0 : Int), ()))) Empty.elim)))) Empty.elim))))
def an37 : Ann := (.seq .leaf (.seq (.seq .leaf (.br (.seq .leaf .leaf) .leaf)) (.seq (.seq .leaf (.blk (.loop [2, 4, 5, 13, 14, 15, 16, 17, 18, 19, 20, 21, 22] [18] [] [] [.tmp 13 (.int .i64)] [(.ret, [.tmp 2 (.int .i64)]), ((.ex 0), [])] (.seq .leaf (.seq (.br .leaf .leaf) (.seq (.blk (.seq .leaf (.seq .leaf (.seq .leaf (.br (.seq .leaf .leaf) .leaf))))) .leaf)))))) (.seq (.seq .leaf (.blk (.loop [2, 7, 25, 26, 27, 28, 29, 30, 31, 32, 33, 34, 35, 36] [] [] [] [.tmp 25 (.int .i64)] [(.ret, [.tmp 2 (.int .i64)]), ((.ex 2), [])] (.seq .leaf (.seq (.br .leaf .leaf) (.seq (.blk (.seq .leaf (.seq .leaf (.br (.seq .leaf .leaf) .leaf)))) .leaf)))))) (.seq .leaf .leaf)))))
noncomputable def sp37 : Abs.Spec := { args := [(false, (.list (.list (.int .i64))))], res := [.val false (.int .i64)], f := times_List }
theorem ok37 : FunOK' prog (Abs.look gls) 37 sp37 :=
  evalFn_ok (C := mkCtx tis [(30, sp30)] [] [] gls pus []) (mkCtx_ok mixed tis_ok (specs_cons ok30 specs_nil) bodies_nil ) mixed func37 (by kernel_rfl) (an := an37) (by kernel_rfl) (fun x => by kernel_rfl)

/-- slices.Clone[[][]int,[]int] -/
noncomputable def slices_Clone_s_s_int_s_int : ((List (List Int)) × Unit) → Option ((List (List Int)) × Unit) := fun x =>
  (cond (true && roomOk (([] : (List (List Int))).length + x.1.length) 24 && true && true) (some ((([] : (List (List Int))) ++ x.1), ())) none)
def an64 : Ann := (.seq .leaf (.seq (.seq .leaf (.br (.seq .leaf .leaf) .leaf)) (.seq .leaf .leaf)))
noncomputable def sp64 : Abs.Spec := { args := [(false, (.list (.list (.int .i64))))], res := [.own 23 (.list (.int .i64))], f := slices_Clone_s_s_int_s_int }
theorem ok64 : FunOK' prog (Abs.look gls) 64 sp64 :=
  evalNil_ok (C := mkCtx tis [] [] [] gls pus []) (mkCtx_ok mixed tis_ok specs_nil bodies_nil ) mixed func64 (by kernel_rfl) (an := an64) (by kernel_rfl) (Nat.le_of_ble_eq_true (by kernel_rfl)) (by kernel_rfl) (fun l => by kernel_rfl)

/-- cmp.isNaN[int] -/
noncomputable def cmp_isNaN_int : (Int × Unit) → Option (Bool × Unit) := fun x =>
  (some ((x.1 != x.1), ()))
def an73 : Ann := (.seq .leaf (.seq .leaf .leaf))
noncomputable def sp73 : Abs.Spec := { args := [(false, (.int .i64))], res := [.val false .bool], f := cmp_isNaN_int }
theorem ok73 : FunOK' prog (Abs.look gls) 73 sp73 :=
  evalFn_ok (C := mkCtx tis [] [] [] gls pus []) (mkCtx_ok mixed tis_ok specs_nil bodies_nil ) mixed func73 (by kernel_rfl) (an := an73) (by kernel_rfl) (fun x => by kernel_rfl)

/-- cmp.Compare[int] -/
noncomputable def cmp_Compare_int : (Int × Int × Unit) → Option (Int × Unit) := fun x =>
  ((cmp_isNaN_int (x.1, ())).bind fun r1 => ((cmp_isNaN_int (x.2.1, ())).bind fun r2 => (cond r1.1 (cond r2.1 (some ((0 : Int), ())) (some ((-1 : Int), ()))) (cond r2.1 (some ((1 : Int), ())) (cond (decide (x.1 < x.2.1)) (some ((-1 : Int), ())) (cond (decide (x.1 > x.2.1)) (some ((1 : Int), ())) (some ((0 : Int), ()))))))))
def an69 : Ann := (.seq .leaf (.seq .leaf (.seq .leaf (.seq (.seq .leaf (.br (.seq (.seq .leaf (.br (.seq .leaf .leaf) .leaf)) (.seq .leaf .leaf)) .leaf)) (.seq (.seq .leaf (.br (.seq .leaf .leaf) .leaf)) (.seq (.seq .leaf (.br (.seq .leaf .leaf) .leaf)) (.seq (.seq .leaf (.br (.seq .leaf .leaf) .leaf)) (.seq .leaf .leaf))))))))
noncomputable def sp69 : Abs.Spec := { args := [(false, (.int .i64)), (false, (.int .i64))], res := [.val false (.int .i64)], f := cmp_Compare_int }
theorem ok69 : FunOK' prog (Abs.look gls) 69 sp69 :=
  evalFn_ok (C := mkCtx tis [(73, sp73)] [] [] gls pus []) (mkCtx_ok mixed tis_ok (specs_cons ok73 specs_nil) bodies_nil ) mixed func69 (by kernel_rfl) (an := an69) (by kernel_rfl) (fun x => by kernel_rfl)

/-- slices.Compare[[]int,int] -/
noncomputable def slices_Compare_s_int_int_l1 (x : ((List Int) × (List Int) × Unit)) : (Int × Unit) → Option ((Int × Unit) ⊕ ((Int × Unit) ⊕ (Unit) ⊕ Empty)) := fun y1 =>
  (cond (decide (y1.1 < (x.1.length : Int))) ((getI x.1 y1.1).bind fun v2 => (cond (decide (y1.1 ≥ (x.2.1.length : Int))) (some (Sum.inr (Sum.inl ((1 : Int), ())))) ((getI x.2.1 y1.1).bind fun v3 => ((cmp_Compare_int (v2, v3, ())).bind fun r4 => (cond (r4.1 != (0 : Int)) (some (Sum.inr (Sum.inl r4))) (some (Sum.inl ((IntKind.i64.wrap (y1.1 + (1 : Int))), ())))))))) (some (Sum.inr (Sum.inr (Sum.inl ())))))
noncomputable def slices_Compare_s_int_int : ((List Int) × (List Int) × Unit) → Option (Int × Unit) := fun x =>
  ((loopM (slices_Compare_s_int_int_l1 x) ((0 : Int), ())).bind (Sum.elim (fun z5 => (some z5)) (Sum.elim (fun z6 => (cond (decide ((x.1.length : Int) < (x.2.1.length : Int))) (some ((-1 : Int), ())) (some ((0 : Int), ())))) Empty.elim)))
def an58 : Ann := (.seq .leaf (.seq (.seq .leaf (.blk (.loop [4, 5, 6, 7, 8, 11, 12, 13, 14, 15, 16, 17, 18, 19, 20, 21, 22, 23, 24, 25, 26, 27, 28, 29, 30] [26] [] [] [.tmp 11 (.int .i64)] [(.ret, [.tmp 4 (.int .i64)]), ((.ex 0), [])] (.seq .leaf (.seq (.br .leaf .leaf) (.seq (.blk (.seq .leaf (.seq (.seq .leaf (.br (.seq .leaf .leaf) .leaf)) (.seq .leaf (.seq .leaf (.seq .leaf (.br (.seq .leaf .leaf) .leaf))))))) .leaf)))))) (.seq (.seq .leaf (.br (.seq .leaf .leaf) .leaf)) (.seq .leaf .leaf))))
noncomputable def sp58 : Abs.Spec := { args := [(false, (.list (.int .i64))), (false, (.list (.int .i64)))], res := [.val false (.int .i64)], f := slices_Compare_s_int_int }
theorem ok58 : FunOK' prog (Abs.look gls) 58 sp58 :=
  evalFn_ok (C := mkCtx tis [(69, sp69)] [] [] gls pus []) (mkCtx_ok mixed tis_ok (specs_cons ok69 specs_nil) bodies_nil ) mixed func58 (by kernel_rfl) (an := an58) (by kernel_rfl) (fun x => by kernel_rfl)

/-- watershed/times.Under -/
noncomputable def times_Under_l1 (x : ((List Int) × (List Int) × Unit)) : (Int × Unit) → Option ((Int × Unit) ⊕ ((Bool × Unit) ⊕ (Unit) ⊕ Empty)) := fun y1 =>
  (cond (decide (y1.1 < (x.1.length : Int))) ((getI x.1 y1.1).bind fun v2 => ((getI x.2.1 y1.1).bind fun v3 => (cond (decide (v2 > v3)) (some (Sum.inr (Sum.inl (false, ())))) (some (Sum.inl ((IntKind.i64.wrap (y1.1 + (1 : Int))), ())))))) (some (Sum.inr (Sum.inr (Sum.inl ())))))
noncomputable def times_Under : ((List Int) × (List Int) × Unit) → Option (Bool × Unit) := fun x =>
  ((loopM (times_Under_l1 x) ((0 : Int), ())).bind (Sum.elim (fun z4 => (some z4)) (Sum.elim (fun z5 => (some (true, ()))) Empty.elim)))
def an67 : Ann := (.seq .leaf (.seq (.seq .leaf (.blk (.loop [4, 5, 8, 9, 10, 11, 12, 13, 14, 15, 16, 17, 18, 19, 20] [] [] [] [.tmp 8 (.int .i64)] [(.ret, [.tmp 4 .bool]), ((.ex 0), [])] (.seq .leaf (.seq (.br .leaf .leaf) (.seq (.blk (.seq .leaf (.seq .leaf (.br (.seq .leaf .leaf) .leaf)))) .leaf)))))) (.seq .leaf .leaf)))
noncomputable def sp67 : Abs.Spec := { args := [(false, (.list (.int .i64))), (false, (.list (.int .i64)))], res := [.val false .bool], f := times_Under }
theorem ok67 : FunOK' prog (Abs.look gls) 67 sp67 :=
  evalFn_ok (C := mkCtx tis [] [] [] gls pus []) (mkCtx_ok mixed tis_ok specs_nil bodies_nil ) mixed func67 (by kernel_rfl) (an := an67) (by kernel_rfl) (fun x => by kernel_rfl)

/-- slices.Clone[[]int,int] -/
noncomputable def slices_Clone_s_int_int : ((List Int) × Unit) → Option ((List Int) × Unit) := fun x =>
  (cond (true && roomOk (([] : (List Int)).length + x.1.length) 8 && true && true) (some ((([] : (List Int)) ++ x.1), ())) none)
def an59 : Ann := (.seq .leaf (.seq (.seq .leaf (.br (.seq .leaf .leaf) .leaf)) (.seq .leaf .leaf)))
noncomputable def sp59 : Abs.Spec := { args := [(false, (.list (.int .i64)))], res := [.own 3 (.int .i64)], f := slices_Clone_s_int_int }
theorem ok59 : FunOK' prog (Abs.look gls) 59 sp59 :=
  evalNil_ok (C := mkCtx tis [] [] [] gls pus []) (mkCtx_ok mixed tis_ok specs_nil bodies_nil ) mixed func59 (by kernel_rfl) (an := an59) (by kernel_rfl) (Nat.le_of_ble_eq_true (by kernel_rfl)) (by kernel_rfl) (fun l => by kernel_rfl)

/-- watershed/times.Least -/
noncomputable def times_Least_l1 (y3 : ((List (List Int)) × Int × Unit)) (v4 : (List Int)) : (Int × Unit) → Option ((Int × Unit) ⊕ ((Int × Unit) ⊕ (Unit) ⊕ Empty)) := fun y5 =>
  (cond (decide (y5.1 < (y3.1.length : Int))) (cond (inB y5.1 y3.1.length) ((y3.1[y5.1.toNat]?).bind fun v6 => ((times_Under (v6, v4, ())).bind fun r7 => (cond r7.1 (some (Sum.inr (Sum.inl y5))) (some (Sum.inl ((IntKind.i64.wrap (y5.1 + (1 : Int))), ())))))) none) (some (Sum.inr (Sum.inr (Sum.inl ())))))
noncomputable def times_Least_l2 (v2 : (List (List Int))) : ((List (List Int)) × Int × Unit) → Option (((List (List Int)) × Int × Unit) ⊕ (((List (List Int)) × Unit) ⊕ Empty)) := fun y3 =>
  (cond (decide (y3.2.1 < (v2.length : Int))) (cond (inB y3.2.1 v2.length) ((v2[y3.2.1.toNat]?).bind fun v4 => ((((loopM (times_Least_l1 y3 v4) ((0 : Int), ())).bind (Sum.elim (fun z8 => (some (Sum.inl z8))) (Sum.elim (fun z9 => (some (Sum.inl ((-1 : Int), ())))) Empty.elim))) : Option ((Int × Unit) ⊕ Empty)).bind (Sum.elim (fun z10 => (cond (!(decide (z10.1 ≥ (0 : Int)))) ((slices_Clone_s_int_int (v4, ())).bind fun r11 => (cond (true && roomOk (y3.1.length + ([r11.1]).length) 24 && true && true) (some (Sum.inl ((y3.1 ++ [r11.1]), (IntKind.i64.wrap (y3.2.1 + (1 : Int))), ()))) none)) (some (Sum.inl (y3.1, (IntKind.i64.wrap (y3.2.1 + (1 : Int))), ()))))) Empty.elim))) none) (some (Sum.inr (Sum.inl (y3.1, ())))))
noncomputable def times_Least : ((List (List Int)) × Unit) → Option ((List (List Int)) × Unit) := fun x =>
  ((slices_Clone_s_s_int_s_int x).bind fun r1 => (cond (roomOk r1.1.length 1) ((sortP (fun a b => (slices_Compare_s_int_int (a, b, ())).map fun r => r.1) r1.1).bind fun v2 => ((loopM (times_Least_l2 v2) (([] : (List (List Int))), (0 : Int), ())).bind (Sum.elim (fun z12 => (some z12)) Empty.elim))) none))
def an53 : Ann := (.seq .leaf (.seq .leaf (.seq .leaf (.seq .leaf (.seq (.seq .leaf (.blk (.loop [4, 6, 13, 14, 15, 16, 17, 18, 19, 20, 21, 22, 23, 24, 25, 26] [6, 19, 23, 24, 25, 512, 518, 527, 528, 2064, 3072] [] [] [.arr 3072 23 (.list (.int .i64)) (.t 4), .own 4 3072, .tmp 13 (.int .i64)] [((.ex 0), [.arr 3072 23 (.list (.int .i64)) (.t 4), .own 4 3072])] (.seq .leaf (.seq (.br .leaf .leaf) (.seq (.blk (.seq .leaf (.seq .leaf (.br .leaf .leaf)))) .leaf)))))) (.seq .leaf .leaf))))))
noncomputable def sp53 : Abs.Spec := { args := [(false, (.list (.list (.int .i64))))], res := [.own 23 (.list (.int .i64))], f := times_Least }
theorem ok53 : FunOK' prog (Abs.look gls) 53 sp53 :=
  evalFn_ok (C := mkCtx tis [(58, sp58), (59, sp59), (64, sp64), (67, sp67)] [(54, (1024, (f54, (.seq .leaf (.seq .leaf .leaf))))),
    (66, (4096, (f66, (.seq .leaf (.seq .leaf .leaf))))),
    (68, (2048, (f68, (.join [4, 5, 6, 7, 8, 9, 10, 11, 12, 13, 14, 15, 16, 17, 18] [2064] [] [] [(.ret, [.tmp 4 (.int .i64)])] (.seq .leaf (.seq (.seq .leaf (.blk (.loop [4, 5, 8, 9, 10, 11, 12, 13, 14, 15, 16, 17, 18] [2064] [] [] [.tmp 8 (.int .i64)] [(.ret, [.tmp 4 (.int .i64)]), ((.ex 0), [])] (.seq .leaf (.seq (.br .leaf .leaf) (.seq (.blk (.seq .leaf (.seq .leaf (.br (.seq .leaf .leaf) .leaf)))) .leaf)))))) (.seq .leaf .leaf)))))))] [] gls pus [(38, 1024), (2062, 2048), (4128, 4096)] [65]) (mkCtxS_ok mixed tis_ok (specs_cons ok58 (specs_cons ok59 (specs_cons ok64 (specs_cons ok67 specs_nil)))) (bodies_cons ⟨func54, by kernel_rfl, by kernel_rfl⟩ (bodies_cons ⟨func66, by kernel_rfl, by kernel_rfl⟩ (bodies_cons ⟨func68, by kernel_rfl, by kernel_rfl⟩ bodies_nil))) (sorts_cons sort65 sorts_nil)) mixed func53 (by kernel_rfl) (an := an53) (by kernel_rfl) (fun x => by kernel_rfl)

/-- watershed/times.Front -/
noncomputable def times_Front : ((List (List Int)) × Unit) → Option ((List (List Int)) × Int × Unit) := fun x =>
  ((times_List x).bind fun r1 => (cond (r1.1 != (0 : Int)) (some (([] : (List (List Int))), r1.1, ())) ((times_Least x).bind fun r2 => (some (r2.1, (0 : Int), ())))))
def an24 : Ann := (.seq .leaf (.seq (.seq .leaf (.seq .leaf (.br (.seq .leaf .leaf) .leaf))) (.seq .leaf .leaf)))
noncomputable def sp24 : Abs.Spec := { args := [(false, (.list (.list (.int .i64))))], res := [.own 23 (.list (.int .i64)), .val false (.int .i64)], f := times_Front }
theorem ok24 : FunOK' prog (Abs.look gls) 24 sp24 :=
  evalFn_ok (C := mkCtx tis [(37, sp37), (53, sp53)] [] [] gls pus []) (mkCtx_ok mixed tis_ok (specs_cons ok37 (specs_cons ok53 specs_nil)) bodies_nil ) mixed func24 (by kernel_rfl) (an := an24) (by kernel_rfl) (fun x => by kernel_rfl)

/-- watershed/watershedref.TimesCheck -/
noncomputable def ref_TimesCheck_l1 (x : ((List Int) × Unit)) : (Int × Unit) → Option ((Int × Unit) ⊕ ((Int × Unit) ⊕ (Unit) ⊕ Empty)) := fun y1 =>
  (cond (decide (y1.1 < (x.1.length : Int))) ((getI x.1 y1.1).bind fun v2 => (cond (decide (v2 < (0 : Int))) (some (Sum.inr (Sum.inl ((2 : Int), ())))) (cond (decide (v2 > (1048576 : Int))) (some (Sum.inr (Sum.inl ((2 : Int), ())))) (some (Sum.inl ((IntKind.i64.wrap (y1.1 + (1 : Int))), ())))))) (some (Sum.inr (Sum.inr (Sum.inl ())))))
noncomputable def ref_TimesCheck : ((List Int) × Unit) → Option (Int × Unit) := fun x =>
  (cond (decide ((x.1.length : Int) < (1 : Int))) (some ((1 : Int), ())) (cond (decide ((x.1.length : Int) > (4 : Int))) (some ((1 : Int), ())) ((loopM (ref_TimesCheck_l1 x) ((0 : Int), ())).bind (Sum.elim (fun z3 => (some z3)) (Sum.elim (fun z4 => (some ((0 : Int), ()))) Empty.elim)))))
def an11 : Ann := (.seq .leaf (.seq (.seq .leaf (.br (.seq .leaf .leaf) .leaf)) (.seq (.seq .leaf (.blk (.loop [2, 4, 15, 16, 17, 18, 19, 20, 21, 22, 23, 24, 25] [] [] [] [.tmp 15 (.int .i64)] [(.ret, [.tmp 2 (.int .i64)]), ((.ex 0), [])] (.seq .leaf (.seq (.br .leaf .leaf) (.seq (.blk (.seq .leaf (.seq .leaf (.br (.seq .leaf .leaf) .leaf)))) .leaf)))))) (.seq .leaf .leaf))))
noncomputable def sp11 : Abs.Spec := { args := [(false, (.list (.int .i64)))], res := [.val false (.int .i64)], f := ref_TimesCheck }
theorem ok11 : FunOK' prog (Abs.look gls) 11 sp11 :=
  evalFn_ok (C := mkCtx tis [] [] [] gls pus []) (mkCtx_ok mixed tis_ok specs_nil bodies_nil ) mixed func11 (by kernel_rfl) (an := an11) (by kernel_rfl) (fun x => by kernel_rfl)

/-- watershed/watershedref.TimesList -/
noncomputable def ref_TimesList_l1 (x : ((List (List Int)) × Unit)) : (Int × Unit) → Option ((Int × Unit) ⊕ ((Int × Unit) ⊕ (Unit) ⊕ Empty)) := fun y1 =>
  (cond (decide (y1.1 < (x.1.length : Int))) ((getI x.1 y1.1).bind fun v2 => ((ref_TimesCheck (v2, ())).bind fun r3 => (cond (r3.1 != (0 : Int)) ((ref_TimesCheck (v2, ())).bind fun r4 => (some (Sum.inr (Sum.inl r4)))) (some (Sum.inl ((IntKind.i64.wrap (y1.1 + (1 : Int))), ())))))) (some (Sum.inr (Sum.inr (Sum.inl ())))))
noncomputable def ref_TimesList_l2 (x : ((List (List Int)) × Unit)) : (Int × Unit) → Option ((Int × Unit) ⊕ ((Int × Unit) ⊕ (Unit) ⊕ Empty)) := fun y7 =>
  (cond (decide (y7.1 < (x.1.length : Int))) ((getI x.1 y7.1).bind fun v8 => ((getI x.1 (0 : Int)).bind fun v9 => (cond ((v8.length : Int) != (v9.length : Int)) (some (Sum.inr (Sum.inl ((3 : Int), ())))) (some (Sum.inl ((IntKind.i64.wrap (y7.1 + (1 : Int))), ())))))) (some (Sum.inr (Sum.inr (Sum.inl ())))))
noncomputable def ref_TimesList : ((List (List Int)) × Unit) → Option (Int × Unit) := fun x =>
  (cond (decide ((x.1.length : Int) > (64 : Int))) (some ((1 : Int), ())) ((loopM (ref_TimesList_l1 x) ((0 : Int), ())).bind (Sum.elim (fun z5 => (some z5)) (Sum.elim (fun z6 => ((loopM (ref_TimesList_l2 x) ((0 : Int), ())).bind (Sum.elim (fun z10 => (some z10)) (Sum.elim (fun z11 => (some ((0 : Int), ()))) Empty.elim)))) Empty.elim))))
def an25 : Ann := (.seq .leaf (.seq (.seq .leaf (.br (.seq .leaf .leaf) .leaf)) (.seq (.seq .leaf (.blk (.loop [2, 4, 12, 13, 14, 15, 16, 17, 18, 19, 20, 21] [17, 20] [] [] [.tmp 12 (.int .i64)] [(.ret, [.tmp 2 (.int .i64)]), ((.ex 0), [])] (.seq .leaf (.seq (.br .leaf .leaf) (.seq (.blk (.seq .leaf (.seq .leaf (.br (.seq .leaf .leaf) .leaf)))) .leaf)))))) (.seq (.seq .leaf (.blk (.loop [2, 6, 24, 25, 26, 27, 28, 29, 30, 31, 32, 33, 34, 35] [] [] [] [.tmp 24 (.int .i64)] [(.ret, [.tmp 2 (.int .i64)]), ((.ex 2), [])] (.seq .leaf (.seq (.br .leaf .leaf) (.seq (.blk (.seq .leaf (.seq .leaf (.br (.seq .leaf .leaf) .leaf)))) .leaf)))))) (.seq .leaf .leaf)))))
noncomputable def sp25 : Abs.Spec := { args := [(false, (.list (.list (.int .i64))))], res := [.val false (.int .i64)], f := ref_TimesList }
theorem ok25 : FunOK' prog (Abs.look gls) 25 sp25 :=
  evalFn_ok (C := mkCtx tis [(11, sp11)] [] [] gls pus []) (mkCtx_ok mixed tis_ok (specs_cons ok11 specs_nil) bodies_nil ) mixed func25 (by kernel_rfl) (an := an25) (by kernel_rfl) (fun x => by kernel_rfl)

/-- watershed/times.alike -/
noncomputable def times_alike : ((List Int) × (List Int) × Unit) → Option (Bool × Unit) := fun x =>
  (cond ((x.1.length : Int) == (x.2.1.length : Int)) ((times_Check (x.1, ())).bind fun r1 => (cond (r1.1 == (0 : Int)) ((times_Check (x.2.1, ())).bind fun r2 => (some ((r2.1 == (0 : Int)), ()))) (some (false, ())))) (some (false, ())))
def an60 : Ann := (.seq .leaf (.seq .leaf .leaf))
noncomputable def sp60 : Abs.Spec := { args := [(false, (.list (.int .i64))), (false, (.list (.int .i64)))], res := [.val false .bool], f := times_alike }
theorem ok60 : FunOK' prog (Abs.look gls) 60 sp60 :=
  evalFn_ok (C := mkCtx tis [(30, sp30)] [] [] gls pus []) (mkCtx_ok mixed tis_ok (specs_cons ok30 specs_nil) bodies_nil ) mixed func60 (by kernel_rfl) (an := an60) (by kernel_rfl) (fun x => by kernel_rfl)

/-- watershed/times.Leq -/
noncomputable def times_Leq : ((List Int) × (List Int) × Unit) → Option (Bool × Unit) := fun x =>
  ((times_alike x).bind fun r1 => (cond r1.1 ((times_Under x).bind fun r2 => (some r2)) (some (false, ()))))
def an56 : Ann := (.seq .leaf (.seq .leaf .leaf))
noncomputable def sp56 : Abs.Spec := { args := [(false, (.list (.int .i64))), (false, (.list (.int .i64)))], res := [.val false .bool], f := times_Leq }
theorem ok56 : FunOK' prog (Abs.look gls) 56 sp56 :=
  evalFn_ok (C := mkCtx tis [(60, sp60), (67, sp67)] [] [] gls pus []) (mkCtx_ok mixed tis_ok (specs_cons ok60 (specs_cons ok67 specs_nil)) bodies_nil ) mixed func56 (by kernel_rfl) (an := an56) (by kernel_rfl) (fun x => by kernel_rfl)

/-- watershed/times.Open -/
noncomputable def times_Open_l1 (x : ((List (List Int)) × (List Int) × Unit)) : (Int × Unit) → Option ((Int × Unit) ⊕ ((Int × Unit) ⊕ (Unit) ⊕ Empty)) := fun y1 =>
  (cond (decide (y1.1 < (x.1.length : Int))) ((getI x.1 y1.1).bind fun v2 => ((times_Leq (v2, x.2.1, ())).bind fun r3 => (cond r3.1 (some (Sum.inr (Sum.inl y1))) (some (Sum.inl ((IntKind.i64.wrap (y1.1 + (1 : Int))), ())))))) (some (Sum.inr (Sum.inr (Sum.inl ())))))
noncomputable def times_Open : ((List (List Int)) × (List Int) × Unit) → Option (Bool × Unit) := fun x =>
  ((((loopM (times_Open_l1 x) ((0 : Int), ())).bind (Sum.elim (fun z4 => (some (Sum.inl z4))) (Sum.elim (fun z5 => (some (Sum.inl ((-1 : Int), ())))) Empty.elim))) : Option ((Int × Unit) ⊕ Empty)).bind (Sum.elim (fun z6 => (some ((decide (z6.1 ≥ (0 : Int))), ()))) Empty.elim))
def an26 : Ann := (.seq .leaf (.seq .leaf .leaf))
noncomputable def sp26 : Abs.Spec := { args := [(false, (.list (.list (.int .i64)))), (false, (.list (.int .i64)))], res := [.val false .bool], f := times_Open }
theorem ok26 : FunOK' prog (Abs.look gls) 26 sp26 :=
  evalFn_ok (C := mkCtx tis [(56, sp56)] [(54, (1024, (f54, (.seq .leaf (.seq .leaf .leaf))))),
    (55, (3072, (f55, (.seq .leaf (.seq .leaf .leaf))))),
    (68, (2048, (f68, (.join [4, 5, 6, 7, 8, 9, 10, 11, 12, 13, 14, 15, 16, 17, 18] [2064] [] [] [(.ret, [.tmp 4 (.int .i64)])] (.seq .leaf (.seq (.seq .leaf (.blk (.loop [4, 5, 8, 9, 10, 11, 12, 13, 14, 15, 16, 17, 18] [2064] [] [] [.tmp 8 (.int .i64)] [(.ret, [.tmp 4 (.int .i64)]), ((.ex 0), [])] (.seq .leaf (.seq (.br .leaf .leaf) (.seq (.blk (.seq .leaf (.seq .leaf (.br (.seq .leaf .leaf) .leaf)))) .leaf)))))) (.seq .leaf .leaf)))))))] [] gls pus [(14, 1024), (2062, 2048), (4128, 3072)]) (mkCtx_ok mixed tis_ok (specs_cons ok56 specs_nil) (bodies_cons ⟨func54, by kernel_rfl, by kernel_rfl⟩ (bodies_cons ⟨func55, by kernel_rfl, by kernel_rfl⟩ (bodies_cons ⟨func68, by kernel_rfl, by kernel_rfl⟩ bodies_nil))) ) mixed func26 (by kernel_rfl) (an := an26) (by kernel_rfl) (fun x => by kernel_rfl)

/-- watershed/watershedref.TimesLeq -/
noncomputable def ref_TimesLeq_l1 (x : ((List Int) × (List Int) × Unit)) : (Int × Unit) → Option ((Int × Unit) ⊕ ((Bool × Unit) ⊕ (Unit) ⊕ Empty)) := fun y3 =>
  (cond (decide (y3.1 < (x.1.length : Int))) ((getI x.1 y3.1).bind fun v4 => ((getI x.2.1 y3.1).bind fun v5 => (cond (decide (v4 > v5)) (some (Sum.inr (Sum.inl (false, ())))) (some (Sum.inl ((IntKind.i64.wrap (y3.1 + (1 : Int))), ())))))) (some (Sum.inr (Sum.inr (Sum.inl ())))))
noncomputable def ref_TimesLeq : ((List Int) × (List Int) × Unit) → Option (Bool × Unit) := fun x =>
  (cond ((x.1.length : Int) != (x.2.1.length : Int)) (some (false, ())) ((ref_TimesCheck (x.1, ())).bind fun r1 => (cond (r1.1 != (0 : Int)) (some (false, ())) ((ref_TimesCheck (x.2.1, ())).bind fun r2 => (cond (r2.1 != (0 : Int)) (some (false, ())) ((loopM (ref_TimesLeq_l1 x) ((0 : Int), ())).bind (Sum.elim (fun z6 => (some z6)) (Sum.elim (fun z7 => (some (true, ()))) Empty.elim))))))))
def an57 : Ann := (.seq .leaf (.seq (.seq .leaf (.br (.seq .leaf .leaf) .leaf)) (.seq (.seq .leaf (.blk (.loop [4, 5, 21, 22, 23, 24, 25, 26, 27, 28, 29, 30, 31, 32, 33, 34, 35] [] [] [] [.tmp 5 (.int .i64)] [(.ret, [.tmp 4 .bool]), ((.ex 0), [])] (.seq (.seq .leaf (.br .leaf .leaf)) (.seq (.blk (.seq .leaf (.br (.seq .leaf .leaf) .leaf))) .leaf))))) (.seq .leaf .leaf))))
noncomputable def sp57 : Abs.Spec := { args := [(false, (.list (.int .i64))), (false, (.list (.int .i64)))], res := [.val false .bool], f := ref_TimesLeq }
theorem ok57 : FunOK' prog (Abs.look gls) 57 sp57 :=
  evalFn_ok (C := mkCtx tis [(11, sp11)] [] [] gls pus []) (mkCtx_ok mixed tis_ok (specs_cons ok11 specs_nil) bodies_nil ) mixed func57 (by kernel_rfl) (an := an57) (by kernel_rfl) (fun x => by kernel_rfl)

/-- watershed/watershedref.TimesOpen -/
noncomputable def ref_TimesOpen_l1 (x : ((List (List Int)) × (List Int) × Unit)) : (Int × Unit) → Option ((Int × Unit) ⊕ ((Bool × Unit) ⊕ (Unit) ⊕ Empty)) := fun y1 =>
  (cond (decide (y1.1 < (x.1.length : Int))) ((getI x.1 y1.1).bind fun v2 => ((ref_TimesLeq (v2, x.2.1, ())).bind fun r3 => (cond r3.1 (some (Sum.inr (Sum.inl (true, ())))) (some (Sum.inl ((IntKind.i64.wrap (y1.1 + (1 : Int))), ())))))) (some (Sum.inr (Sum.inr (Sum.inl ())))))
noncomputable def ref_TimesOpen : ((List (List Int)) × (List Int) × Unit) → Option (Bool × Unit) := fun x =>
  ((loopM (ref_TimesOpen_l1 x) ((0 : Int), ())).bind (Sum.elim (fun z4 => (some z4)) (Sum.elim (fun z5 => (some (false, ()))) Empty.elim)))
def an27 : Ann := (.seq .leaf (.seq (.seq .leaf (.blk (.loop [4, 6, 9, 10, 11, 12, 13, 14, 15, 16] [15] [] [] [.tmp 9 (.int .i64)] [(.ret, [.tmp 4 .bool]), ((.ex 0), [])] (.seq .leaf (.seq (.br .leaf .leaf) (.seq (.blk (.seq .leaf (.seq .leaf (.br (.seq .leaf .leaf) .leaf)))) .leaf)))))) (.seq .leaf .leaf)))
noncomputable def sp27 : Abs.Spec := { args := [(false, (.list (.list (.int .i64)))), (false, (.list (.int .i64)))], res := [.val false .bool], f := ref_TimesOpen }
theorem ok27 : FunOK' prog (Abs.look gls) 27 sp27 :=
  evalFn_ok (C := mkCtx tis [(57, sp57)] [] [] gls pus []) (mkCtx_ok mixed tis_ok (specs_cons ok57 specs_nil) bodies_nil ) mixed func27 (by kernel_rfl) (an := an27) (by kernel_rfl) (fun x => by kernel_rfl)

/-- watershed/watershedref.TimesLess -/
noncomputable def ref_TimesLess_l1 (x : ((List Int) × (List Int) × Unit)) : (Int × Unit) → Option ((Int × Unit) ⊕ ((Bool × Unit) ⊕ (Unit) ⊕ Empty)) := fun y3 =>
  (cond (decide (y3.1 < (x.1.length : Int))) ((getI x.1 y3.1).bind fun v4 => ((getI x.2.1 y3.1).bind fun v5 => (cond (v4 != v5) ((getI x.1 y3.1).bind fun v6 => ((getI x.2.1 y3.1).bind fun v7 => (some (Sum.inr (Sum.inl ((decide (v6 < v7)), ())))))) (some (Sum.inl ((IntKind.i64.wrap (y3.1 + (1 : Int))), ())))))) (some (Sum.inr (Sum.inr (Sum.inl ())))))
noncomputable def ref_TimesLess : ((List Int) × (List Int) × Unit) → Option (Bool × Unit) := fun x =>
  (cond ((x.1.length : Int) != (x.2.1.length : Int)) (some (false, ())) ((ref_TimesCheck (x.1, ())).bind fun r1 => (cond (r1.1 != (0 : Int)) (some (false, ())) ((ref_TimesCheck (x.2.1, ())).bind fun r2 => (cond (r2.1 != (0 : Int)) (some (false, ())) ((loopM (ref_TimesLess_l1 x) ((0 : Int), ())).bind (Sum.elim (fun z8 => (some z8)) (Sum.elim (fun z9 => (some (false, ()))) Empty.elim))))))))
def an35 : Ann := (.seq .leaf (.seq (.seq .leaf (.br (.seq .leaf .leaf) .leaf)) (.seq (.seq .leaf (.blk (.loop [4, 5, 21, 22, 23, 24, 25, 26, 27, 28, 29, 30, 31, 32, 33, 34, 35, 36, 37, 38, 39, 40, 41, 42, 43, 44] [] [] [] [.tmp 5 (.int .i64)] [(.ret, [.tmp 4 .bool]), ((.ex 0), [])] (.seq (.seq .leaf (.br .leaf .leaf)) (.seq (.blk (.seq .leaf (.br (.seq .leaf .leaf) .leaf))) .leaf))))) (.seq .leaf .leaf))))
noncomputable def sp35 : Abs.Spec := { args := [(false, (.list (.int .i64))), (false, (.list (.int .i64)))], res := [.val false .bool], f := ref_TimesLess }
theorem ok35 : FunOK' prog (Abs.look gls) 35 sp35 :=
  evalFn_ok (C := mkCtx tis [(11, sp11)] [] [] gls pus []) (mkCtx_ok mixed tis_ok (specs_cons ok11 specs_nil) bodies_nil ) mixed func35 (by kernel_rfl) (an := an35) (by kernel_rfl) (fun x => by kernel_rfl)

/-- watershed/watershedref.TimesSame -/
noncomputable def ref_TimesSame_l1 (x : ((List Int) × (List Int) × Unit)) : (Int × Unit) → Option ((Int × Unit) ⊕ ((Bool × Unit) ⊕ (Unit) ⊕ Empty)) := fun y1 =>
  (cond (decide (y1.1 < (x.1.length : Int))) ((getI x.1 y1.1).bind fun v2 => ((getI x.2.1 y1.1).bind fun v3 => (cond (v2 != v3) (some (Sum.inr (Sum.inl (false, ())))) (some (Sum.inl ((IntKind.i64.wrap (y1.1 + (1 : Int))), ())))))) (some (Sum.inr (Sum.inr (Sum.inl ())))))
noncomputable def ref_TimesSame : ((List Int) × (List Int) × Unit) → Option (Bool × Unit) := fun x =>
  (cond ((x.1.length : Int) != (x.2.1.length : Int)) (some (false, ())) ((loopM (ref_TimesSame_l1 x) ((0 : Int), ())).bind (Sum.elim (fun z4 => (some z4)) (Sum.elim (fun z5 => (some (true, ()))) Empty.elim))))
def an44 : Ann := (.seq .leaf (.seq (.seq .leaf (.br (.seq .leaf .leaf) .leaf)) (.seq (.seq .leaf (.blk (.loop [4, 5, 11, 12, 13, 14, 15, 16, 17, 18, 19, 20, 21, 22, 23, 24, 25] [] [] [] [.tmp 5 (.int .i64)] [(.ret, [.tmp 4 .bool]), ((.ex 0), [])] (.seq (.seq .leaf (.br .leaf .leaf)) (.seq (.blk (.seq .leaf (.br (.seq .leaf .leaf) .leaf))) .leaf))))) (.seq .leaf .leaf))))
noncomputable def sp44 : Abs.Spec := { args := [(false, (.list (.int .i64))), (false, (.list (.int .i64)))], res := [.val false .bool], f := ref_TimesSame }
theorem ok44 : FunOK' prog (Abs.look gls) 44 sp44 :=
  evalFn_ok (C := mkCtx tis [] [] [] gls pus []) (mkCtx_ok mixed tis_ok specs_nil bodies_nil ) mixed func44 (by kernel_rfl) (an := an44) (by kernel_rfl) (fun x => by kernel_rfl)

/-- watershed/watershedref.TimesSorted -/
noncomputable def ref_TimesSorted_l1 (y1 : ((List (List Int)) × Int × Unit)) (v2 : (List Int)) : (Int × Unit) → Option ((Int × Unit) ⊕ ((Int × Unit) ⊕ Empty)) := fun y3 =>
  (cond (decide (y3.1 < (y1.1.length : Int))) ((getI y1.1 y3.1).bind fun v4 => ((ref_TimesLess (v4, v2, ())).bind fun r5 => (cond r5.1 (some (Sum.inl ((IntKind.i64.wrap (y3.1 + (1 : Int))), ()))) (some (Sum.inr (Sum.inl y3)))))) (some (Sum.inr (Sum.inl y3))))
noncomputable def ref_TimesSorted_l2 (z6 : (Int × Unit)) (y1 : ((List (List Int)) × Int × Unit)) : ((List (List Int)) × Int × Unit) → Option (((List (List Int)) × Int × Unit) ⊕ (((List (List Int)) × Unit) ⊕ Empty)) := fun y9 =>
  (cond (decide (y9.2.1 < z6.1)) ((getI y1.1 y9.2.1).bind fun v10 => (cond (true && roomOk (y9.1.length + ([v10]).length) 24 && true && true) (some (Sum.inl ((y9.1 ++ [v10]), (IntKind.i64.wrap (y9.2.1 + (1 : Int))), ()))) none)) (some (Sum.inr (Sum.inl (y9.1, ())))))
noncomputable def ref_TimesSorted_l3 (y1 : ((List (List Int)) × Int × Unit)) : ((List (List Int)) × Int × Unit) → Option (((List (List Int)) × Int × Unit) ⊕ (((List (List Int)) × Unit) ⊕ Empty)) := fun y12 =>
  (cond (decide (y12.2.1 < (y1.1.length : Int))) ((getI y1.1 y12.2.1).bind fun v13 => (cond (true && roomOk (y12.1.length + ([v13]).length) 24 && true && true) (some (Sum.inl ((y12.1 ++ [v13]), (IntKind.i64.wrap (y12.2.1 + (1 : Int))), ()))) none)) (some (Sum.inr (Sum.inl (y12.1, ())))))
noncomputable def ref_TimesSorted_l4 (z6 : (Int × Unit)) (y1 : ((List (List Int)) × Int × Unit)) : ((List (List Int)) × Int × Unit) → Option (((List (List Int)) × Int × Unit) ⊕ (((List (List Int)) × Unit) ⊕ Empty)) := fun y15 =>
  (cond (decide (y15.2.1 < z6.1)) ((getI y1.1 y15.2.1).bind fun v16 => (cond (true && roomOk (y15.1.length + ([v16]).length) 24 && true && true) (some (Sum.inl ((y15.1 ++ [v16]), (IntKind.i64.wrap (y15.2.1 + (1 : Int))), ()))) none)) (some (Sum.inr (Sum.inl (y15.1, ())))))
noncomputable def ref_TimesSorted_l5 (y1 : ((List (List Int)) × Int × Unit)) : ((List (List Int)) × Int × Unit) → Option (((List (List Int)) × Int × Unit) ⊕ (((List (List Int)) × Unit) ⊕ Empty)) := fun y18 =>
  (cond (decide (y18.2.1 < (y1.1.length : Int))) ((getI y1.1 y18.2.1).bind fun v19 => (cond (true && roomOk (y18.1.length + ([v19]).length) 24 && true && true) (some (Sum.inl ((y18.1 ++ [v19]), (IntKind.i64.wrap (y18.2.1 + (1 : Int))), ()))) none)) (some (Sum.inr (Sum.inl (y18.1, ())))))
noncomputable def ref_TimesSorted_l6 (x : ((List (List Int)) × Unit)) : ((List (List Int)) × Int × Unit) → Option (((List (List Int)) × Int × Unit) ⊕ (((List (List Int)) × Unit) ⊕ Empty)) := fun y1 =>
  (cond (decide (y1.2.1 < (x.1.length : Int))) ((getI x.1 y1.2.1).bind fun v2 => ((loopM (ref_TimesSorted_l1 y1 v2) ((0 : Int), ())).bind (Sum.elim (fun z6 => (cond (decide (z6.1 < (y1.1.length : Int))) ((getI y1.1 z6.1).bind fun v7 => ((ref_TimesSame (v7, v2, ())).bind fun r8 => (cond r8.1 (some (Sum.inl (y1.1, (IntKind.i64.wrap (y1.2.1 + (1 : Int))), ()))) ((loopM (ref_TimesSorted_l2 z6 y1) (([] : (List (List Int))), (0 : Int), ())).bind (Sum.elim (fun z11 => (cond (true && roomOk (z11.1.length + ([v2]).length) 24 && true && true) ((loopM (ref_TimesSorted_l3 y1) ((z11.1 ++ [v2]), z6.1, ())).bind (Sum.elim (fun z14 => (some (Sum.inl (z14.1, (IntKind.i64.wrap (y1.2.1 + (1 : Int))), ())))) Empty.elim)) none)) Empty.elim))))) ((loopM (ref_TimesSorted_l4 z6 y1) (([] : (List (List Int))), (0 : Int), ())).bind (Sum.elim (fun z17 => (cond (true && roomOk (z17.1.length + ([v2]).length) 24 && true && true) ((loopM (ref_TimesSorted_l5 y1) ((z17.1 ++ [v2]), z6.1, ())).bind (Sum.elim (fun z20 => (some (Sum.inl (z20.1, (IntKind.i64.wrap (y1.2.1 + (1 : Int))), ())))) Empty.elim)) none)) Empty.elim)))) Empty.elim))) (some (Sum.inr (Sum.inl (y1.1, ())))))
noncomputable def ref_TimesSorted : ((List (List Int)) × Unit) → Option ((List (List Int)) × Unit) := fun x =>
  ((loopM (ref_TimesSorted_l6 x) (([] : (List (List Int))), (0 : Int), ())).bind (Sum.elim (fun z21 => (some z21)) Empty.elim))
def an41 : Ann := (.seq .leaf (.seq .leaf (.seq (.seq .leaf (.blk (.loop [3, 5, 6, 7, 8, 9, 12, 13, 14, 15, 16, 17, 18, 19, 20, 21, 22, 23, 24, 25, 26, 27, 28, 29, 30, 31, 32, 33, 34, 35, 36, 37, 38, 39, 40, 41, 42, 43, 44, 45, 46, 47, 48, 49, 50, 51, 52, 53, 54, 55, 56, 57, 58, 59, 60, 61, 62, 63, 64, 65, 66, 67, 68, 69, 70, 71, 72, 73] [26, 40, 52, 53, 56, 57, 70, 71, 1024, 1025] [] [] [.tmp 3 (.list (.list (.int .i64))), .tmp 12 (.int .i64)] [((.ex 0), [.tmp 3 (.list (.list (.int .i64)))])] (.seq .leaf (.seq (.br .leaf .leaf) (.seq (.blk (.seq .leaf (.seq .leaf (.seq (.blk (.loop [6, 16, 17, 18, 19, 20, 21, 22, 23, 24, 25, 26, 27, 28, 29] [26] [] [] [.tmp 6 (.int .i64)] [((.ex 2), [.tmp 6 (.int .i64)])] (.seq (.seq .leaf (.br .leaf .leaf)) (.blk .leaf)))) (.seq (.seq .leaf (.br .leaf .leaf)) (.seq .leaf (.seq (.seq .leaf (.blk (.loop [7, 8, 42, 43, 44, 45, 46, 47, 48, 49, 50, 51, 52, 53] [52, 53, 1024] [] [] [.arr 1024 23 (.list (.int .i64)) (.t 7), .own 7 1024, .tmp 8 (.int .i64)] [((.ex 4), [.arr 1024 23 (.list (.int .i64)) (.t 7), .own 7 1024])] (.seq (.seq .leaf (.br .leaf .leaf)) (.seq (.blk .leaf) .leaf))))) (.seq .leaf (.seq (.seq .leaf (.blk (.loop [7, 9, 59, 60, 61, 62, 63, 64, 65, 66, 67, 68, 69, 70, 71] [70, 71, 1025] [57] [] [.arr 1025 23 (.list (.int .i64)) (.t 7), .own 7 1025, .tmp 9 (.int .i64)] [((.ex 6), [.arr 1025 23 (.list (.int .i64)) (.t 7), .own 7 1025])] (.seq (.seq .leaf (.br .leaf .leaf)) (.seq (.blk .leaf) .leaf))))) .leaf))))))))) .leaf)))))) (.seq .leaf .leaf))))
noncomputable def sp41 : Abs.Spec := { args := [(false, (.list (.list (.int .i64))))], res := [.val false (.list (.list (.int .i64)))], f := ref_TimesSorted }
theorem ok41 : FunOK' prog (Abs.look gls) 41 sp41 :=
  evalFn_ok (C := mkCtx tis [(35, sp35), (44, sp44)] [] [] gls pus []) (mkCtx_ok mixed tis_ok (specs_cons ok35 (specs_cons ok44 specs_nil)) bodies_nil ) mixed func41 (by kernel_rfl) (an := an41) (by kernel_rfl) (fun x => by kernel_rfl)

/-- watershed/watershedref.TimesFront -/
noncomputable def ref_TimesFront_l1 (x : ((List (List Int)) × Unit)) (v3 : (List Int)) : (Bool × Int × Unit) → Option ((Bool × Int × Unit) ⊕ ((Bool × Unit) ⊕ Empty)) := fun y4 =>
  (cond (decide (y4.2.1 < (x.1.length : Int))) ((getI x.1 y4.2.1).bind fun v5 => ((ref_TimesLeq (v5, v3, ())).bind fun r6 => (cond r6.1 ((ref_TimesSame (v5, v3, ())).bind fun r7 => (cond (!r7.1) (some (Sum.inl (false, (IntKind.i64.wrap (y4.2.1 + (1 : Int))), ()))) (some (Sum.inl (y4.1, (IntKind.i64.wrap (y4.2.1 + (1 : Int))), ()))))) (some (Sum.inl (y4.1, (IntKind.i64.wrap (y4.2.1 + (1 : Int))), ())))))) (some (Sum.inr (Sum.inl (y4.1, ())))))
noncomputable def ref_TimesFront_l2 (x : ((List (List Int)) × Unit)) (r1 : ((List (List Int)) × Unit)) : ((List (List Int)) × Int × Unit) → Option (((List (List Int)) × Int × Unit) ⊕ (((List (List Int)) × Unit) ⊕ Empty)) := fun y2 =>
  (cond (decide (y2.2.1 < (r1.1.length : Int))) ((getI r1.1 y2.2.1).bind fun v3 => ((loopM (ref_TimesFront_l1 x v3) (true, (0 : Int), ())).bind (Sum.elim (fun z8 => (cond z8.1 (cond (true && roomOk (y2.1.length + ([v3]).length) 24 && true && true) (some (Sum.inl ((y2.1 ++ [v3]), (IntKind.i64.wrap (y2.2.1 + (1 : Int))), ()))) none) (some (Sum.inl (y2.1, (IntKind.i64.wrap (y2.2.1 + (1 : Int))), ()))))) Empty.elim))) (some (Sum.inr (Sum.inl (y2.1, ())))))
noncomputable def ref_TimesFront : ((List (List Int)) × Unit) → Option ((List (List Int)) × Unit) := fun x =>
  ((ref_TimesSorted x).bind fun r1 => ((loopM (ref_TimesFront_l2 x r1) (([] : (List (List Int))), (0 : Int), ())).bind (Sum.elim (fun z9 => (some z9)) Empty.elim)))
def an29 : Ann := (.seq .leaf (.seq .leaf (.seq (.seq .leaf (.blk (.loop [3, 5, 6, 8, 12, 13, 14, 15, 16, 17, 18, 19, 20, 21, 22, 23, 24, 25, 26, 27, 28, 29, 30, 31, 32, 33, 34, 35, 36, 37] [24, 28, 35, 36, 1024] [] [] [.arr 1024 23 (.list (.int .i64)) (.t 3), .own 3 1024, .tmp 12 (.int .i64)] [((.ex 0), [.arr 1024 23 (.list (.int .i64)) (.t 3), .own 3 1024])] (.seq .leaf (.seq (.br .leaf .leaf) (.seq (.blk (.seq .leaf (.seq .leaf (.seq (.seq .leaf (.blk (.loop [6, 8, 18, 19, 20, 21, 22, 23, 24, 25, 26, 27, 28, 29, 30, 31] [24, 28] [] [] [.tmp 6 .bool, .tmp 18 (.int .i64)] [((.ex 2), [.tmp 6 .bool])] (.seq .leaf (.seq (.br .leaf .leaf) (.seq (.blk (.seq .leaf (.seq .leaf (.br .leaf .leaf)))) .leaf)))))) (.seq .leaf (.br .leaf .leaf)))))) .leaf)))))) (.seq .leaf .leaf))))
noncomputable def sp29 : Abs.Spec := { args := [(false, (.list (.list (.int .i64))))], res := [.own 23 (.list (.int .i64))], f := ref_TimesFront }
theorem ok29 : FunOK' prog (Abs.look gls) 29 sp29 :=
  evalFn_ok (C := mkCtx tis [(41, sp41), (44, sp44), (57, sp57)] [] [] gls pus []) (mkCtx_ok mixed tis_ok (specs_cons ok41 (specs_cons ok44 (specs_cons ok57 specs_nil))) bodies_nil ) mixed func29 (by kernel_rfl) (an := an29) (by kernel_rfl) (fun x => by kernel_rfl)

/-- watershed/watershedref.Lists -/
noncomputable def ref_Lists_l1 (x : ((List (List Int)) × (List (List Int)) × Unit)) : (Int × Unit) → Option ((Int × Unit) ⊕ ((Bool × Unit) ⊕ (Unit) ⊕ Empty)) := fun y1 =>
  (cond (decide (y1.1 < (x.1.length : Int))) ((getI x.1 y1.1).bind fun v2 => ((getI x.2.1 y1.1).bind fun v3 => ((ref_TimesSame (v2, v3, ())).bind fun r4 => (cond (!r4.1) (some (Sum.inr (Sum.inl (false, ())))) (some (Sum.inl ((IntKind.i64.wrap (y1.1 + (1 : Int))), ()))))))) (some (Sum.inr (Sum.inr (Sum.inl ())))))
noncomputable def ref_Lists : ((List (List Int)) × (List (List Int)) × Unit) → Option (Bool × Unit) := fun x =>
  (cond ((x.1.length : Int) != (x.2.1.length : Int)) (some (false, ())) ((loopM (ref_Lists_l1 x) ((0 : Int), ())).bind (Sum.elim (fun z5 => (some z5)) (Sum.elim (fun z6 => (some (true, ()))) Empty.elim))))
def an28 : Ann := (.seq .leaf (.seq (.seq .leaf (.br (.seq .leaf .leaf) .leaf)) (.seq (.seq .leaf (.blk (.loop [4, 5, 11, 12, 13, 14, 15, 16, 17, 18, 19, 20, 21, 22, 23, 24, 25, 26] [25] [] [] [.tmp 5 (.int .i64)] [(.ret, [.tmp 4 .bool]), ((.ex 0), [])] (.seq (.seq .leaf (.br .leaf .leaf)) (.seq (.blk (.seq .leaf (.br (.seq .leaf .leaf) .leaf))) .leaf))))) (.seq .leaf .leaf))))
noncomputable def sp28 : Abs.Spec := { args := [(false, (.list (.list (.int .i64)))), (false, (.list (.list (.int .i64))))], res := [.val false .bool], f := ref_Lists }
theorem ok28 : FunOK' prog (Abs.look gls) 28 sp28 :=
  evalFn_ok (C := mkCtx tis [(44, sp44)] [] [] gls pus []) (mkCtx_ok mixed tis_ok (specs_cons ok44 specs_nil) bodies_nil ) mixed func28 (by kernel_rfl) (an := an28) (by kernel_rfl) (fun x => by kernel_rfl)

/-- watershed/watershedlaw.TimesFronts -/
noncomputable def law_TimesFronts : ((List (List Int)) × (List Int) × Unit) → Option (Bool × Unit) := fun x =>
  ((times_Front (x.1, ())).bind fun r1 => ((ref_TimesList (x.1, ())).bind fun r2 => (cond (r1.2.1 != r2.1) (some (false, ())) ((times_Open x).bind fun r3 => ((ref_TimesOpen x).bind fun r4 => (cond (r3.1 != r4.1) (some (false, ())) (cond (r2.1 != (0 : Int)) (some (((r1.1.length : Int) == (0 : Int)), ())) ((ref_TimesFront (x.1, ())).bind fun r5 => ((ref_Lists (r1.1, r5.1, ())).bind fun r6 => (some r6))))))))))
def an7 : Ann := (.seq .leaf (.seq .leaf (.seq .leaf (.seq (.seq .leaf (.br (.seq .leaf .leaf) .leaf)) (.seq (.seq .leaf (.br (.seq .leaf .leaf) .leaf)) (.seq .leaf .leaf))))))
noncomputable def sp7 : Abs.Spec := { args := [(false, (.list (.list (.int .i64)))), (false, (.list (.int .i64)))], res := [.val false .bool], f := law_TimesFronts }
theorem ok7 : FunOK' prog (Abs.look gls) 7 sp7 :=
  evalFn_ok (C := mkCtx tis [(24, sp24), (25, sp25), (26, sp26), (27, sp27), (28, sp28), (29, sp29)] [] [] gls pus []) (mkCtx_ok mixed tis_ok (specs_cons ok24 (specs_cons ok25 (specs_cons ok26 (specs_cons ok27 (specs_cons ok28 (specs_cons ok29 specs_nil)))))) bodies_nil ) mixed func7 (by kernel_rfl) (an := an7) (by kernel_rfl) (fun x => by kernel_rfl)

end Go.Proofs.Try
