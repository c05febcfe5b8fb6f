/- Plain functions, printed by gen.py over the program that YtoddbincogignaaProg loads; each keeps its contract by the engine. -/
import Derived.Test.YtoddbincogignaaAbsLoops
import Derived.Test.YtoddbincogignaaAbsFn3
import Derived.Test.YtoddbincogignaaAbsUpto
import Derived.Test.YtoddbincogignaaP9Sort
import Derived.Test.YtoddbincogignaaProg
namespace Go.Proofs.Try
open Go Go.Abs
set_option maxRecDepth 100000


def tis : List (Nat × TInfo) := [(3, { agg := false, str := false, size := 1, bytes := 8, zeros := [.sc (.int .i64) (0 : Int)], flds := [], elem := none, arr := none, ty := (.int .i64) }),
  (4, { agg := false, str := false, size := 1, bytes := 1, zeros := [.sc .bool (false)], flds := [], elem := none, arr := none, ty := .bool }),
  (23, { agg := false, str := false, size := 1, bytes := 8, zeros := [.sc (.int .i64) (0 : Int)], flds := [], elem := none, arr := none, ty := (.int .i64) }),
  (31, { agg := false, str := false, size := 1, bytes := 24, zeros := [.nils], flds := [], elem := some 58, arr := none, ty := (.list (.list (.int .i64))) }),
  (58, { agg := false, str := false, size := 1, bytes := 24, zeros := [.nils], flds := [], elem := some 3, arr := none, ty := (.list (.int .i64)) }),
  (120, { agg := false, str := false, size := 1, bytes := 8, zeros := [.mpn], flds := [], elem := none, arr := none, ty := (.map true false (.cons (.int .i64) (.cons (.cons (.int .i64) (.cons (.int .i64) (.cons (.int .i64) (.cons (.int .i64) .nil)))) .nil)) (.int .i64)), mp := some (124, 3) }),
  (122, { agg := true, str := false, size := 4, bytes := 32, zeros := [.sc (.int .i64) (0 : Int), .sc (.int .i64) (0 : Int), .sc (.int .i64) (0 : Int), .sc (.int .i64) (0 : Int)], flds := [{ off := 0, size := 1, agg := false }, { off := 1, size := 1, agg := false }, { off := 2, size := 1, agg := false }, { off := 3, size := 1, agg := false }], elem := none, arr := some (4, 3), ty := (.cons (.int .i64) (.cons (.int .i64) (.cons (.int .i64) (.cons (.int .i64) .nil)))), eqo := some [(0, false), (1, false), (2, false), (3, false)] }),
  (124, { agg := true, str := true, size := 5, bytes := 40, zeros := [.sc (.int .i64) (0 : Int), .sc (.int .i64) (0 : Int), .sc (.int .i64) (0 : Int), .sc (.int .i64) (0 : Int), .sc (.int .i64) (0 : Int)], flds := [{ off := 0, size := 1, agg := false }, { off := 1, size := 4, agg := true }], elem := none, arr := none, ty := (.cons (.int .i64) (.cons (.cons (.int .i64) (.cons (.int .i64) (.cons (.int .i64) (.cons (.int .i64) .nil)))) .nil)), eqo := some [(0, false), (1, false), (2, false), (3, false), (4, false)] })]

theorem tis_ok : tiTable prog (tis.map (·.1)) = tis.map fun p => (p.1, some p.2) := by kernel_rfl
def pus : List Nat := []
theorem mixed : prog.follows .mixedOrders = true := by kernel_rfl

noncomputable def gls : List (Nat × (IntKind × Nat × List Int)) := []

/-- watershed/times.Check -/
noncomputable def times_Check_l1 (x : ((List Int) × Unit)) : (Int × Unit) → Option ((Int × Unit) ⊕ ((Int × Unit) ⊕ (Unit) ⊕ Empty)) := fun y1 =>
  (cond (decide (y1.1 < (x.1.length : Int))) ((getI x.1 y1.1).bind fun v2 => (cond (decide (v2 < (0 : Int))) (some (Sum.inr (Sum.inl ((2 : Int), ())))) (cond (decide (v2 > (1048576 : Int))) (some (Sum.inr (Sum.inl ((2 : Int), ())))) (some (Sum.inl ((IntKind.i64.wrap (y1.1 + (1 : Int))), ())))))) (some (Sum.inr (Sum.inr (Sum.inl ())))))
noncomputable def times_Check : ((List Int) × Unit) → Option (Int × Unit) := fun x =>
  (cond ((x.1.length : Int) == (0 : Int)) (some ((1 : Int), ())) (cond (decide ((x.1.length : Int) > (4 : Int))) (some ((1 : Int), ())) ((loopM (times_Check_l1 x) ((0 : Int), ())).bind (Sum.elim (fun z3 => (some z3)) (Sum.elim (fun z4 => (some ((0 : Int), ()))) Empty.elim)))))
def an102 : Ann := (.seq .leaf (.seq (.seq .leaf (.br (.seq .leaf .leaf) .leaf)) (.seq (.seq .leaf (.blk (.loop [2, 4, 15, 16, 17, 18, 19, 20, 21, 22, 23, 24, 25] [] [] [] [.tmp 15 (.int .i64)] [(.ret, [.tmp 2 (.int .i64)]), ((.ex 0), [])] (.seq .leaf (.seq (.br .leaf .leaf) (.seq (.blk (.seq .leaf (.seq .leaf (.br (.seq .leaf .leaf) .leaf)))) .leaf)))))) (.seq .leaf .leaf))))
noncomputable def sp102 : Abs.Spec := { args := [(false, (.list (.int .i64)))], res := [.val false (.int .i64)], f := times_Check }
theorem ok102 : FunOK' prog (Abs.look gls) 102 sp102 :=
  evalFn_ok (C := mkCtx tis [] [] [] gls pus []) (mkCtx_ok mixed tis_ok specs_nil bodies_nil ) mixed func102 (by kernel_rfl) (an := an102) (by kernel_rfl) (fun x => by kernel_rfl)

/-- watershed/times.List -/
noncomputable def times_List_l1 (x : ((List (List Int)) × Unit)) : (Int × Unit) → Option ((Int × Unit) ⊕ ((Int × Unit) ⊕ (Unit) ⊕ Empty)) := fun y1 =>
  (cond (decide (y1.1 < (x.1.length : Int))) ((getI x.1 y1.1).bind fun v2 => ((times_Check (v2, ())).bind fun r3 => (cond (r3.1 != (0 : Int)) (some (Sum.inr (Sum.inl r3))) (some (Sum.inl ((IntKind.i64.wrap (y1.1 + (1 : Int))), ())))))) (some (Sum.inr (Sum.inr (Sum.inl ())))))
noncomputable def times_List_l2 (x : ((List (List Int)) × Unit)) : (Int × Unit) → Option ((Int × Unit) ⊕ ((Int × Unit) ⊕ (Unit) ⊕ Empty)) := fun y6 =>
  (cond (decide (y6.1 < (x.1.length : Int))) ((getI x.1 y6.1).bind fun v7 => ((getI x.1 (0 : Int)).bind fun v8 => (cond ((v7.length : Int) != (v8.length : Int)) (some (Sum.inr (Sum.inl ((3 : Int), ())))) (some (Sum.inl ((IntKind.i64.wrap (y6.1 + (1 : Int))), ())))))) (some (Sum.inr (Sum.inr (Sum.inl ())))))
noncomputable def times_List : ((List (List Int)) × Unit) → Option (Int × Unit) := fun x =>
  (cond (decide ((x.1.length : Int) > (64 : Int))) (some ((1 : Int), ())) ((loopM (times_List_l1 x) ((0 : Int), ())).bind (Sum.elim (fun z4 => (some z4)) (Sum.elim (fun z5 => ((loopM (times_List_l2 x) ((0 : Int), ())).bind (Sum.elim (fun z9 => (some z9)) (Sum.elim (fun z10 => (some ((0 : Int), ()))) Empty.elim)))) Empty.elim))))
def an107 : Ann := (.seq .leaf (.seq (.seq .leaf (.br (.seq .leaf .leaf) .leaf)) (.seq (.seq .leaf (.blk (.loop [2, 4, 5, 13, 14, 15, 16, 17, 18, 19, 20, 21, 22] [18] [] [] [.tmp 13 (.int .i64)] [(.ret, [.tmp 2 (.int .i64)]), ((.ex 0), [])] (.seq .leaf (.seq (.br .leaf .leaf) (.seq (.blk (.seq .leaf (.seq .leaf (.seq .leaf (.br (.seq .leaf .leaf) .leaf))))) .leaf)))))) (.seq (.seq .leaf (.blk (.loop [2, 7, 25, 26, 27, 28, 29, 30, 31, 32, 33, 34, 35, 36] [] [] [] [.tmp 25 (.int .i64)] [(.ret, [.tmp 2 (.int .i64)]), ((.ex 2), [])] (.seq .leaf (.seq (.br .leaf .leaf) (.seq (.blk (.seq .leaf (.seq .leaf (.br (.seq .leaf .leaf) .leaf)))) .leaf)))))) (.seq .leaf .leaf)))))
noncomputable def sp107 : Abs.Spec := { args := [(false, (.list (.list (.int .i64))))], res := [.val false (.int .i64)], f := times_List }
theorem ok107 : FunOK' prog (Abs.look gls) 107 sp107 :=
  evalFn_ok (C := mkCtx tis [(102, sp102)] [] [] gls pus []) (mkCtx_ok mixed tis_ok (specs_cons ok102 specs_nil) bodies_nil ) mixed func107 (by kernel_rfl) (an := an107) (by kernel_rfl) (fun x => by kernel_rfl)

/-- watershed/times.greater -/
noncomputable def times_greater : (Int × Int × Unit) → Option (Int × Unit) := fun x =>
  (some ((if x.2.1 > x.1 then x.2.1 else x.1), ()))
def an149 : Ann := (.seq .leaf (.seq .leaf .leaf))
noncomputable def sp149 : Abs.Spec := { args := [(false, (.int .i64)), (false, (.int .i64))], res := [.val false (.int .i64)], f := times_greater }
theorem ok149 : FunOK' prog (Abs.look gls) 149 sp149 :=
  evalFn_ok (C := mkCtx tis [] [] [] gls pus []) (mkCtx_ok mixed tis_ok specs_nil bodies_nil ) mixed func149 (by kernel_rfl) (an := an149) (by kernel_rfl) (fun x => by kernel_rfl)

/-- watershed/times.Over -/
noncomputable def times_Over_l1 (x : ((List Int) × (List Int) × Unit)) : (Int × (List Int) × Unit) → Option ((Int × (List Int) × Unit) ⊕ (((List Int) × Unit) ⊕ Empty)) := fun y1 =>
  (cond (decide (y1.1 < (x.1.length : Int))) ((getI x.1 y1.1).bind fun v2 => ((getI x.2.1 y1.1).bind fun v3 => ((times_greater (v2, v3, ())).bind fun r4 => (cond (inB y1.1 y1.2.1.length) ((y1.2.1[y1.1.toNat]?).bind fun v5 => (some (Sum.inl ((IntKind.i64.wrap (y1.1 + (1 : Int))), (y1.2.1.set (y1.1.toNat) r4.1), ())))) none)))) (some (Sum.inr (Sum.inl (y1.2.1, ())))))
noncomputable def times_Over : ((List Int) × (List Int) × Unit) → Option ((List Int) × Unit) := fun x =>
  (cond (decide (0 ≤ (x.1.length : Int)) && decide ((x.1.length : Int) ≤ (x.1.length : Int)) && roomOk (x.1.length : Int).toNat 8 && decide ((x.1.length : Int) ≤ 9223372036854775807) && true && true) ((loopM (times_Over_l1 x) ((0 : Int), (List.replicate (x.1.length : Int).toNat (0 : Int)), ())).bind (Sum.elim (fun z6 => (some z6)) Empty.elim)) none)
def an93 : Ann := (.seq .leaf (.seq .leaf .leaf))
noncomputable def sp93 : Abs.Spec := { args := [(false, (.list (.int .i64))), (false, (.list (.int .i64)))], res := [.own 3 (.int .i64)], f := times_Over }
theorem ok93 : FunOK' prog (Abs.look gls) 93 sp93 :=
  evalFn_ok (C := mkCtx tis [(149, sp149)] [(148, (1024, (f148, (.seq .leaf (.seq .leaf (.seq (.seq .leaf (.blk (.loop [8, 14, 15, 16, 17, 18, 19, 20, 21, 22, 23, 24, 25, 26, 27, 28, 29, 30] [1052] [] [1035] [.tmp 14 (.int .i64), .arrS 1035 3 (.int .i64)] [((.ex 0), [.arrS 1035 3 (.int .i64)])] (.seq .leaf (.seq (.br .leaf .leaf) (.seq (.blk (.seq .leaf .leaf)) .leaf)))))) (.seq .leaf .leaf)))))))] [] gls pus [(14, 1024)]) (mkCtx_ok mixed tis_ok (specs_cons ok149 specs_nil) (bodies_cons ⟨func148, by kernel_rfl, by kernel_rfl⟩ bodies_nil) ) mixed func93 (by kernel_rfl) (an := an93) (by kernel_rfl) (fun x => by kernel_rfl)

/-- watershed/diffs.KeyOf -/
noncomputable def diffs_KeyOf : ((List Int) × Unit) → Option ((Int × ((Int × (Int × (Int × (Int × Unit)))) × Unit)) × Unit) := fun x =>
  (some (((x.1.length : Int), (((x.1[0]?).getD (0 : Int)), ((x.1[1]?).getD (0 : Int)), ((x.1[2]?).getD (0 : Int)), ((x.1[3]?).getD (0 : Int)), ()), ()), ()))
def an105 : Ann := (.seq .leaf (.seq .leaf (.seq .leaf (.seq .leaf .leaf))))
noncomputable def sp105 : Abs.Spec := { args := [(false, (.list (.int .i64)))], res := [.val true (.cons (.int .i64) (.cons (.cons (.int .i64) (.cons (.int .i64) (.cons (.int .i64) (.cons (.int .i64) .nil)))) .nil))], f := diffs_KeyOf }
theorem ok105 : FunOK' prog (Abs.look gls) 105 sp105 :=
  evalFn_ok (C := mkCtx tis [] [] [] gls pus []) (mkCtx_ok mixed tis_ok specs_nil bodies_nil ) mixed func105 (by kernel_rfl) (an := an105) (by kernel_rfl) (fun x => by kernel_rfl)

/-- slices.Clone[[]int,int] -/
noncomputable def slices_Clone_s_int_int : ((List Int) × Unit) → Option ((List Int) × Unit) := fun x =>
  (cond (true && roomOk (([] : (List Int)).length + x.1.length) 8 && true && true) (some ((([] : (List Int)) ++ x.1), ())) none)
def an128 : Ann := (.seq .leaf (.seq (.seq .leaf (.br (.seq .leaf .leaf) .leaf)) (.seq .leaf .leaf)))
noncomputable def sp128 : Abs.Spec := { args := [(false, (.list (.int .i64)))], res := [.own 3 (.int .i64)], f := slices_Clone_s_int_int }
theorem ok128 : FunOK' prog (Abs.look gls) 128 sp128 :=
  evalNil_ok (C := mkCtx tis [] [] [] gls pus []) (mkCtx_ok mixed tis_ok specs_nil bodies_nil ) mixed func128 (by kernel_rfl) (an := an128) (by kernel_rfl) (Nat.le_of_ble_eq_true (by kernel_rfl)) (by kernel_rfl) (fun l => by kernel_rfl)

/-- cmp.isNaN[int] -/
noncomputable def cmp_isNaN_int : (Int × Unit) → Option (Bool × Unit) := fun x =>
  (some ((x.1 != x.1), ()))
def an197 : Ann := (.seq .leaf (.seq .leaf .leaf))
noncomputable def sp197 : Abs.Spec := { args := [(false, (.int .i64))], res := [.val false .bool], f := cmp_isNaN_int }
theorem ok197 : FunOK' prog (Abs.look gls) 197 sp197 :=
  evalFn_ok (C := mkCtx tis [] [] [] gls pus []) (mkCtx_ok mixed tis_ok specs_nil bodies_nil ) mixed func197 (by kernel_rfl) (an := an197) (by kernel_rfl) (fun x => by kernel_rfl)

/-- cmp.Compare[int] -/
noncomputable def cmp_Compare_int : (Int × Int × Unit) → Option (Int × Unit) := fun x =>
  ((cmp_isNaN_int (x.1, ())).bind fun r1 => ((cmp_isNaN_int (x.2.1, ())).bind fun r2 => (cond r1.1 (cond r2.1 (some ((0 : Int), ())) (some ((-1 : Int), ()))) (cond r2.1 (some ((1 : Int), ())) (cond (decide (x.1 < x.2.1)) (some ((-1 : Int), ())) (cond (decide (x.1 > x.2.1)) (some ((1 : Int), ())) (some ((0 : Int), ()))))))))
def an171 : Ann := (.seq .leaf (.seq .leaf (.seq .leaf (.seq (.seq .leaf (.br (.seq (.seq .leaf (.br (.seq .leaf .leaf) .leaf)) (.seq .leaf .leaf)) .leaf)) (.seq (.seq .leaf (.br (.seq .leaf .leaf) .leaf)) (.seq (.seq .leaf (.br (.seq .leaf .leaf) .leaf)) (.seq (.seq .leaf (.br (.seq .leaf .leaf) .leaf)) (.seq .leaf .leaf))))))))
noncomputable def sp171 : Abs.Spec := { args := [(false, (.int .i64)), (false, (.int .i64))], res := [.val false (.int .i64)], f := cmp_Compare_int }
theorem ok171 : FunOK' prog (Abs.look gls) 171 sp171 :=
  evalFn_ok (C := mkCtx tis [(197, sp197)] [] [] gls pus []) (mkCtx_ok mixed tis_ok (specs_cons ok197 specs_nil) bodies_nil ) mixed func171 (by kernel_rfl) (an := an171) (by kernel_rfl) (fun x => by kernel_rfl)

/-- slices.Compare[[]int,int] -/
noncomputable def slices_Compare_s_int_int_l1 (x : ((List Int) × (List Int) × Unit)) : (Int × Unit) → Option ((Int × Unit) ⊕ ((Int × Unit) ⊕ (Unit) ⊕ Empty)) := fun y1 =>
  (cond (decide (y1.1 < (x.1.length : Int))) ((getI x.1 y1.1).bind fun v2 => (cond (decide (y1.1 ≥ (x.2.1.length : Int))) (some (Sum.inr (Sum.inl ((1 : Int), ())))) ((getI x.2.1 y1.1).bind fun v3 => ((cmp_Compare_int (v2, v3, ())).bind fun r4 => (cond (r4.1 != (0 : Int)) (some (Sum.inr (Sum.inl r4))) (some (Sum.inl ((IntKind.i64.wrap (y1.1 + (1 : Int))), ())))))))) (some (Sum.inr (Sum.inr (Sum.inl ())))))
noncomputable def slices_Compare_s_int_int : ((List Int) × (List Int) × Unit) → Option (Int × Unit) := fun x =>
  ((loopM (slices_Compare_s_int_int_l1 x) ((0 : Int), ())).bind (Sum.elim (fun z5 => (some z5)) (Sum.elim (fun z6 => (cond (decide ((x.1.length : Int) < (x.2.1.length : Int))) (some ((-1 : Int), ())) (some ((0 : Int), ())))) Empty.elim)))
def an138 : Ann := (.seq .leaf (.seq (.seq .leaf (.blk (.loop [4, 5, 6, 7, 8, 11, 12, 13, 14, 15, 16, 17, 18, 19, 20, 21, 22, 23, 24, 25, 26, 27, 28, 29, 30] [26] [] [] [.tmp 11 (.int .i64)] [(.ret, [.tmp 4 (.int .i64)]), ((.ex 0), [])] (.seq .leaf (.seq (.br .leaf .leaf) (.seq (.blk (.seq .leaf (.seq (.seq .leaf (.br (.seq .leaf .leaf) .leaf)) (.seq .leaf (.seq .leaf (.seq .leaf (.br (.seq .leaf .leaf) .leaf))))))) .leaf)))))) (.seq (.seq .leaf (.br (.seq .leaf .leaf) .leaf)) (.seq .leaf .leaf))))
noncomputable def sp138 : Abs.Spec := { args := [(false, (.list (.int .i64))), (false, (.list (.int .i64)))], res := [.val false (.int .i64)], f := slices_Compare_s_int_int }
theorem ok138 : FunOK' prog (Abs.look gls) 138 sp138 :=
  evalFn_ok (C := mkCtx tis [(171, sp171)] [] [] gls pus []) (mkCtx_ok mixed tis_ok (specs_cons ok171 specs_nil) bodies_nil ) mixed func138 (by kernel_rfl) (an := an138) (by kernel_rfl) (fun x => by kernel_rfl)

/-- watershed/incr.closed -/
noncomputable def incr_closed_l1 (v2 : (List Int)) : ((List (List Int)) × Int × (List ((Int × ((Int × (Int × (Int × (Int × Unit)))) × Unit)) × Int)) × Unit) → Option (((List (List Int)) × Int × (List ((Int × ((Int × (Int × (Int × (Int × Unit)))) × Unit)) × Int)) × Unit) ⊕ (((List (List Int)) × Bool × (List ((Int × ((Int × (Int × (Int × (Int × Unit)))) × Unit)) × Int)) × Unit) ⊕ ((List (List Int)) × (List ((Int × ((Int × (Int × (Int × (Int × Unit)))) × Unit)) × Int)) × Unit) ⊕ Empty)) := fun y3 =>
  (cond (decide (y3.2.1 < (y3.1.length : Int))) (((cond (decide (y3.2.1 ≥ (0 : Int))) (cond (inB y3.2.1 y3.1.length) ((y3.1[y3.2.1.toNat]?).bind fun v4 => ((times_Over (v2, v4, ())).bind fun r5 => (some (Sum.inl r5)))) none) (some (Sum.inl (v2, ())))) : Option (((List Int) × Unit) ⊕ Empty)).bind (Sum.elim (fun z6 => ((diffs_KeyOf z6).bind fun r7 => (cond ((mapGet (.cons (.int .i64) (.cons (.cons (.int .i64) (.cons (.int .i64) (.cons (.int .i64) (.cons (.int .i64) .nil)))) .nil)) y3.2.2.1 r7.1).isSome) (some (Sum.inl (y3.1, (IntKind.i64.wrap (y3.2.1 + (1 : Int))), y3.2.2.1, ()))) ((diffs_KeyOf z6).bind fun r8 => ((slices_Clone_s_int_int z6).bind fun r9 => (cond (true && roomOk (y3.1.length + ([r9.1]).length) 24 && true && true) (cond (decide (((y3.1 ++ [r9.1]).length : Int) > (64 : Int))) (some (Sum.inr (Sum.inl (([] : (List (List Int))), false, (mapSet (.cons (.int .i64) (.cons (.cons (.int .i64) (.cons (.int .i64) (.cons (.int .i64) (.cons (.int .i64) .nil)))) .nil)) y3.2.2.1 r8.1 (y3.1.length : Int)), ())))) (some (Sum.inl ((y3.1 ++ [r9.1]), (IntKind.i64.wrap (y3.2.1 + (1 : Int))), (mapSet (.cons (.int .i64) (.cons (.cons (.int .i64) (.cons (.int .i64) (.cons (.int .i64) (.cons (.int .i64) .nil)))) .nil)) y3.2.2.1 r8.1 (y3.1.length : Int)), ())))) none)))))) Empty.elim)) (some (Sum.inr (Sum.inr (Sum.inl (y3.1, y3.2.2.1, ()))))))
noncomputable def incr_closed_l2 (x : ((List (List Int)) × Unit)) : ((List (List Int)) × Int × (List ((Int × ((Int × (Int × (Int × (Int × Unit)))) × Unit)) × Int)) × Unit) → Option (((List (List Int)) × Int × (List ((Int × ((Int × (Int × (Int × (Int × Unit)))) × Unit)) × Int)) × Unit) ⊕ (((List (List Int)) × Bool × (List ((Int × ((Int × (Int × (Int × (Int × Unit)))) × Unit)) × Int)) × Unit) ⊕ ((List (List Int)) × (List ((Int × ((Int × (Int × (Int × (Int × Unit)))) × Unit)) × Int)) × Unit) ⊕ Empty)) := fun y1 =>
  (cond (decide (y1.2.1 < (x.1.length : Int))) ((getI x.1 y1.2.1).bind fun v2 => ((loopM (incr_closed_l1 v2) (y1.1, (-1 : Int), y1.2.2.1, ())).bind (Sum.elim (fun z10 => (some (Sum.inr (Sum.inl z10)))) (Sum.elim (fun z11 => (some (Sum.inl (z11.1, (IntKind.i64.wrap (y1.2.1 + (1 : Int))), z11.2.1, ())))) Empty.elim)))) (some (Sum.inr (Sum.inr (Sum.inl (y1.1, y1.2.2.1, ()))))))
noncomputable def incr_closed : ((List (List Int)) × Unit) → Option ((List (List Int)) × Bool × Unit) := fun x =>
  ((loopM (incr_closed_l2 x) (([] : (List (List Int))), (0 : Int), ([] : List ((Int × ((Int × (Int × (Int × (Int × Unit)))) × Unit)) × Int)), ())).bind (Sum.elim (fun z12 => (some (z12.1, z12.2.1, ()))) (Sum.elim (fun z13 => (cond (roomOk z13.1.length 1) ((sortP (fun a b => (slices_Compare_s_int_int (a, b, ())).map fun r => r.1) z13.1).bind fun v14 => (some (v14, true, ()))) none)) Empty.elim)))
def an116 : Ann := (.seq .leaf (.seq .leaf (.seq .leaf (.seq (.seq .leaf (.blk (.loop [2, 3, 5, 7, 8, 9, 10, 11, 15, 16, 17, 18, 19, 20, 21, 22, 23, 24, 25, 26, 27, 28, 29, 30, 31, 32, 33, 34, 35, 36, 37, 38, 39, 40, 41, 42, 43, 44, 45, 46, 47, 48, 49, 50, 51, 52, 53, 54, 55] [33, 37, 44, 49, 50, 51, 1024, 1026] [] [12] [.arr 1026 58 (.list (.int .i64)) (.t 5), .own 5 1026, .tmp 15 (.int .i64), .mapS 12 true false (.cons (.int .i64) (.cons (.cons (.int .i64) (.cons (.int .i64) (.cons (.int .i64) (.cons (.int .i64) .nil)))) .nil)) (.int .i64)] [(.ret, [.tmp 2 (.list (.list (.int .i64))), .tmp 3 .bool, .mapS 12 true false (.cons (.int .i64) (.cons (.cons (.int .i64) (.cons (.int .i64) (.cons (.int .i64) (.cons (.int .i64) .nil)))) .nil)) (.int .i64)]), ((.ex 0), [.arr 1026 58 (.list (.int .i64)) (.t 5), .own 5 1026, .mapS 12 true false (.cons (.int .i64) (.cons (.cons (.int .i64) (.cons (.int .i64) (.cons (.int .i64) (.cons (.int .i64) .nil)))) .nil)) (.int .i64)])] (.seq .leaf (.seq (.br .leaf .leaf) (.seq (.blk (.seq .leaf (.seq .leaf (.blk (.loop [2, 3, 5, 8, 9, 10, 11, 19, 20, 21, 22, 23, 24, 25, 26, 27, 28, 29, 30, 31, 32, 33, 34, 35, 36, 37, 38, 39, 40, 41, 42, 43, 44, 45, 46, 47, 48, 49, 50, 51, 52, 53, 54] [33, 37, 44, 49, 50, 51, 1024] [1026] [12] [.arr 1024 58 (.list (.int .i64)) (.t 5), .own 5 1024, .tmp 8 (.int .i64), .mapS 12 true false (.cons (.int .i64) (.cons (.cons (.int .i64) (.cons (.int .i64) (.cons (.int .i64) (.cons (.int .i64) .nil)))) .nil)) (.int .i64)] [(.ret, [.tmp 2 (.list (.list (.int .i64))), .tmp 3 .bool, .mapS 12 true false (.cons (.int .i64) (.cons (.cons (.int .i64) (.cons (.int .i64) (.cons (.int .i64) (.cons (.int .i64) .nil)))) .nil)) (.int .i64)]), ((.ex 2), [.arr 1024 58 (.list (.int .i64)) (.t 5), .own 5 1024, .mapS 12 true false (.cons (.int .i64) (.cons (.cons (.int .i64) (.cons (.int .i64) (.cons (.int .i64) (.cons (.int .i64) .nil)))) .nil)) (.int .i64)])] (.seq (.seq .leaf (.br .leaf .leaf)) (.seq (.blk (.seq .leaf (.seq (.seq .leaf (.join [9, 28, 29, 30, 31, 32, 33] [33] [] [] [(.nrm, [.tmp 9 (.list (.int .i64))])] (.br .leaf .leaf))) (.seq (.seq .leaf (.seq .leaf (.br .leaf .leaf))) (.seq .leaf (.seq .leaf (.seq .leaf (.br (.seq .leaf .leaf) .leaf)))))))) .leaf))))))) .leaf)))))) (.seq .leaf (.seq .leaf .leaf))))))
noncomputable def sp116 : Abs.Spec := { args := [(false, (.list (.list (.int .i64))))], res := [.val false (.list (.list (.int .i64))), .val false .bool], f := incr_closed }
theorem ok116 : FunOK' prog (Abs.look gls) 116 sp116 :=
  evalFn_ok (C := mkCtx tis [(93, sp93), (105, sp105), (128, sp128), (138, sp138)] [] [] gls pus [] [144]) (mkCtxS_ok mixed tis_ok (specs_cons ok93 (specs_cons ok105 (specs_cons ok128 (specs_cons ok138 specs_nil)))) bodies_nil (sorts_cons sort144 sorts_nil)) mixed func116 (by kernel_rfl) (an := an116) (by kernel_rfl) (fun x => by kernel_rfl)

/-- watershed/incr.Closure -/
noncomputable def incr_Closure : ((List (List Int)) × Unit) → Option ((List (List Int)) × Int × Unit) := fun x =>
  ((times_List x).bind fun r1 => (cond (r1.1 != (0 : Int)) (some (([] : (List (List Int))), r1.1, ())) ((incr_closed x).bind fun r2 => (cond (!r2.2.1) (some (([] : (List (List Int))), (1 : Int), ())) (some (r2.1, (0 : Int), ()))))))
def an64 : Ann := (.seq .leaf (.seq (.seq .leaf (.seq .leaf (.br (.seq .leaf .leaf) .leaf))) (.seq .leaf (.seq (.seq .leaf (.br (.seq .leaf .leaf) .leaf)) (.seq .leaf .leaf)))))
noncomputable def sp64 : Abs.Spec := { args := [(false, (.list (.list (.int .i64))))], res := [.val false (.list (.list (.int .i64))), .val false (.int .i64)], f := incr_Closure }
theorem ok64 : FunOK' prog (Abs.look gls) 64 sp64 :=
  evalFn_ok (C := mkCtx tis [(107, sp107), (116, sp116)] [] [] gls pus []) (mkCtx_ok mixed tis_ok (specs_cons ok107 (specs_cons ok116 specs_nil)) bodies_nil ) mixed func64 (by kernel_rfl) (an := an64) (by kernel_rfl) (fun x => by kernel_rfl)

/-- watershed/watershedref.TimesCheck -/
noncomputable def ref_TimesCheck_l1 (x : ((List Int) × Unit)) : (Int × Unit) → Option ((Int × Unit) ⊕ ((Int × Unit) ⊕ (Unit) ⊕ Empty)) := fun y1 =>
  (cond (decide (y1.1 < (x.1.length : Int))) ((getI x.1 y1.1).bind fun v2 => (cond (decide (v2 < (0 : Int))) (some (Sum.inr (Sum.inl ((2 : Int), ())))) (cond (decide (v2 > (1048576 : Int))) (some (Sum.inr (Sum.inl ((2 : Int), ())))) (some (Sum.inl ((IntKind.i64.wrap (y1.1 + (1 : Int))), ())))))) (some (Sum.inr (Sum.inr (Sum.inl ())))))
noncomputable def ref_TimesCheck : ((List Int) × Unit) → Option (Int × Unit) := fun x =>
  (cond (decide ((x.1.length : Int) < (1 : Int))) (some ((1 : Int), ())) (cond (decide ((x.1.length : Int) > (4 : Int))) (some ((1 : Int), ())) ((loopM (ref_TimesCheck_l1 x) ((0 : Int), ())).bind (Sum.elim (fun z3 => (some z3)) (Sum.elim (fun z4 => (some ((0 : Int), ()))) Empty.elim)))))
def an47 : Ann := (.seq .leaf (.seq (.seq .leaf (.br (.seq .leaf .leaf) .leaf)) (.seq (.seq .leaf (.blk (.loop [2, 4, 15, 16, 17, 18, 19, 20, 21, 22, 23, 24, 25] [] [] [] [.tmp 15 (.int .i64)] [(.ret, [.tmp 2 (.int .i64)]), ((.ex 0), [])] (.seq .leaf (.seq (.br .leaf .leaf) (.seq (.blk (.seq .leaf (.seq .leaf (.br (.seq .leaf .leaf) .leaf)))) .leaf)))))) (.seq .leaf .leaf))))
noncomputable def sp47 : Abs.Spec := { args := [(false, (.list (.int .i64)))], res := [.val false (.int .i64)], f := ref_TimesCheck }
theorem ok47 : FunOK' prog (Abs.look gls) 47 sp47 :=
  evalFn_ok (C := mkCtx tis [] [] [] gls pus []) (mkCtx_ok mixed tis_ok specs_nil bodies_nil ) mixed func47 (by kernel_rfl) (an := an47) (by kernel_rfl) (fun x => by kernel_rfl)

/-- watershed/watershedref.TimesList -/
noncomputable def ref_TimesList_l1 (x : ((List (List Int)) × Unit)) : (Int × Unit) → Option ((Int × Unit) ⊕ ((Int × Unit) ⊕ (Unit) ⊕ Empty)) := fun y1 =>
  (cond (decide (y1.1 < (x.1.length : Int))) ((getI x.1 y1.1).bind fun v2 => ((ref_TimesCheck (v2, ())).bind fun r3 => (cond (r3.1 != (0 : Int)) ((ref_TimesCheck (v2, ())).bind fun r4 => (some (Sum.inr (Sum.inl r4)))) (some (Sum.inl ((IntKind.i64.wrap (y1.1 + (1 : Int))), ())))))) (some (Sum.inr (Sum.inr (Sum.inl ())))))
noncomputable def ref_TimesList_l2 (x : ((List (List Int)) × Unit)) : (Int × Unit) → Option ((Int × Unit) ⊕ ((Int × Unit) ⊕ (Unit) ⊕ Empty)) := fun y7 =>
  (cond (decide (y7.1 < (x.1.length : Int))) ((getI x.1 y7.1).bind fun v8 => ((getI x.1 (0 : Int)).bind fun v9 => (cond ((v8.length : Int) != (v9.length : Int)) (some (Sum.inr (Sum.inl ((3 : Int), ())))) (some (Sum.inl ((IntKind.i64.wrap (y7.1 + (1 : Int))), ())))))) (some (Sum.inr (Sum.inr (Sum.inl ())))))
noncomputable def ref_TimesList : ((List (List Int)) × Unit) → Option (Int × Unit) := fun x =>
  (cond (decide ((x.1.length : Int) > (64 : Int))) (some ((1 : Int), ())) ((loopM (ref_TimesList_l1 x) ((0 : Int), ())).bind (Sum.elim (fun z5 => (some z5)) (Sum.elim (fun z6 => ((loopM (ref_TimesList_l2 x) ((0 : Int), ())).bind (Sum.elim (fun z10 => (some z10)) (Sum.elim (fun z11 => (some ((0 : Int), ()))) Empty.elim)))) Empty.elim))))
def an56 : Ann := (.seq .leaf (.seq (.seq .leaf (.br (.seq .leaf .leaf) .leaf)) (.seq (.seq .leaf (.blk (.loop [2, 4, 12, 13, 14, 15, 16, 17, 18, 19, 20, 21] [17, 20] [] [] [.tmp 12 (.int .i64)] [(.ret, [.tmp 2 (.int .i64)]), ((.ex 0), [])] (.seq .leaf (.seq (.br .leaf .leaf) (.seq (.blk (.seq .leaf (.seq .leaf (.br (.seq .leaf .leaf) .leaf)))) .leaf)))))) (.seq (.seq .leaf (.blk (.loop [2, 6, 24, 25, 26, 27, 28, 29, 30, 31, 32, 33, 34, 35] [] [] [] [.tmp 24 (.int .i64)] [(.ret, [.tmp 2 (.int .i64)]), ((.ex 2), [])] (.seq .leaf (.seq (.br .leaf .leaf) (.seq (.blk (.seq .leaf (.seq .leaf (.br (.seq .leaf .leaf) .leaf)))) .leaf)))))) (.seq .leaf .leaf)))))
noncomputable def sp56 : Abs.Spec := { args := [(false, (.list (.list (.int .i64))))], res := [.val false (.int .i64)], f := ref_TimesList }
theorem ok56 : FunOK' prog (Abs.look gls) 56 sp56 :=
  evalFn_ok (C := mkCtx tis [(47, sp47)] [] [] gls pus []) (mkCtx_ok mixed tis_ok (specs_cons ok47 specs_nil) bodies_nil ) mixed func56 (by kernel_rfl) (an := an56) (by kernel_rfl) (fun x => by kernel_rfl)

/-- watershed/watershedref.TimesLess -/
noncomputable def ref_TimesLess_l1 (x : ((List Int) × (List Int) × Unit)) : (Int × Unit) → Option ((Int × Unit) ⊕ ((Bool × Unit) ⊕ (Unit) ⊕ Empty)) := fun y3 =>
  (cond (decide (y3.1 < (x.1.length : Int))) ((getI x.1 y3.1).bind fun v4 => ((getI x.2.1 y3.1).bind fun v5 => (cond (v4 != v5) ((getI x.1 y3.1).bind fun v6 => ((getI x.2.1 y3.1).bind fun v7 => (some (Sum.inr (Sum.inl ((decide (v6 < v7)), ())))))) (some (Sum.inl ((IntKind.i64.wrap (y3.1 + (1 : Int))), ())))))) (some (Sum.inr (Sum.inr (Sum.inl ())))))
noncomputable def ref_TimesLess : ((List Int) × (List Int) × Unit) → Option (Bool × Unit) := fun x =>
  (cond ((x.1.length : Int) != (x.2.1.length : Int)) (some (false, ())) ((ref_TimesCheck (x.1, ())).bind fun r1 => (cond (r1.1 != (0 : Int)) (some (false, ())) ((ref_TimesCheck (x.2.1, ())).bind fun r2 => (cond (r2.1 != (0 : Int)) (some (false, ())) ((loopM (ref_TimesLess_l1 x) ((0 : Int), ())).bind (Sum.elim (fun z8 => (some z8)) (Sum.elim (fun z9 => (some (false, ()))) Empty.elim))))))))
def an85 : Ann := (.seq .leaf (.seq (.seq .leaf (.br (.seq .leaf .leaf) .leaf)) (.seq (.seq .leaf (.blk (.loop [4, 5, 21, 22, 23, 24, 25, 26, 27, 28, 29, 30, 31, 32, 33, 34, 35, 36, 37, 38, 39, 40, 41, 42, 43, 44] [] [] [] [.tmp 5 (.int .i64)] [(.ret, [.tmp 4 .bool]), ((.ex 0), [])] (.seq (.seq .leaf (.br .leaf .leaf)) (.seq (.blk (.seq .leaf (.br (.seq .leaf .leaf) .leaf))) .leaf))))) (.seq .leaf .leaf))))
noncomputable def sp85 : Abs.Spec := { args := [(false, (.list (.int .i64))), (false, (.list (.int .i64)))], res := [.val false .bool], f := ref_TimesLess }
theorem ok85 : FunOK' prog (Abs.look gls) 85 sp85 :=
  evalFn_ok (C := mkCtx tis [(47, sp47)] [] [] gls pus []) (mkCtx_ok mixed tis_ok (specs_cons ok47 specs_nil) bodies_nil ) mixed func85 (by kernel_rfl) (an := an85) (by kernel_rfl) (fun x => by kernel_rfl)

/-- watershed/watershedref.TimesSame -/
noncomputable def ref_TimesSame_l1 (x : ((List Int) × (List Int) × Unit)) : (Int × Unit) → Option ((Int × Unit) ⊕ ((Bool × Unit) ⊕ (Unit) ⊕ Empty)) := fun y1 =>
  (cond (decide (y1.1 < (x.1.length : Int))) ((getI x.1 y1.1).bind fun v2 => ((getI x.2.1 y1.1).bind fun v3 => (cond (v2 != v3) (some (Sum.inr (Sum.inl (false, ())))) (some (Sum.inl ((IntKind.i64.wrap (y1.1 + (1 : Int))), ())))))) (some (Sum.inr (Sum.inr (Sum.inl ())))))
noncomputable def ref_TimesSame : ((List Int) × (List Int) × Unit) → Option (Bool × Unit) := fun x =>
  (cond ((x.1.length : Int) != (x.2.1.length : Int)) (some (false, ())) ((loopM (ref_TimesSame_l1 x) ((0 : Int), ())).bind (Sum.elim (fun z4 => (some z4)) (Sum.elim (fun z5 => (some (true, ()))) Empty.elim))))
def an87 : Ann := (.seq .leaf (.seq (.seq .leaf (.br (.seq .leaf .leaf) .leaf)) (.seq (.seq .leaf (.blk (.loop [4, 5, 11, 12, 13, 14, 15, 16, 17, 18, 19, 20, 21, 22, 23, 24, 25] [] [] [] [.tmp 5 (.int .i64)] [(.ret, [.tmp 4 .bool]), ((.ex 0), [])] (.seq (.seq .leaf (.br .leaf .leaf)) (.seq (.blk (.seq .leaf (.br (.seq .leaf .leaf) .leaf))) .leaf))))) (.seq .leaf .leaf))))
noncomputable def sp87 : Abs.Spec := { args := [(false, (.list (.int .i64))), (false, (.list (.int .i64)))], res := [.val false .bool], f := ref_TimesSame }
theorem ok87 : FunOK' prog (Abs.look gls) 87 sp87 :=
  evalFn_ok (C := mkCtx tis [] [] [] gls pus []) (mkCtx_ok mixed tis_ok specs_nil bodies_nil ) mixed func87 (by kernel_rfl) (an := an87) (by kernel_rfl) (fun x => by kernel_rfl)

/-- watershed/watershedref.TimesSorted -/
noncomputable def ref_TimesSorted_l1 (y1 : ((List (List Int)) × Int × Unit)) (v2 : (List Int)) : (Int × Unit) → Option ((Int × Unit) ⊕ ((Int × Unit) ⊕ Empty)) := fun y3 =>
  (cond (decide (y3.1 < (y1.1.length : Int))) ((getI y1.1 y3.1).bind fun v4 => ((ref_TimesLess (v4, v2, ())).bind fun r5 => (cond r5.1 (some (Sum.inl ((IntKind.i64.wrap (y3.1 + (1 : Int))), ()))) (some (Sum.inr (Sum.inl y3)))))) (some (Sum.inr (Sum.inl y3))))
noncomputable def ref_TimesSorted_l2 (z6 : (Int × Unit)) (y1 : ((List (List Int)) × Int × Unit)) : ((List (List Int)) × Int × Unit) → Option (((List (List Int)) × Int × Unit) ⊕ (((List (List Int)) × Unit) ⊕ Empty)) := fun y9 =>
  (cond (decide (y9.2.1 < z6.1)) ((getI y1.1 y9.2.1).bind fun v10 => (cond (true && roomOk (y9.1.length + ([v10]).length) 24 && true && true) (some (Sum.inl ((y9.1 ++ [v10]), (IntKind.i64.wrap (y9.2.1 + (1 : Int))), ()))) none)) (some (Sum.inr (Sum.inl (y9.1, ())))))
noncomputable def ref_TimesSorted_l3 (y1 : ((List (List Int)) × Int × Unit)) : ((List (List Int)) × Int × Unit) → Option (((List (List Int)) × Int × Unit) ⊕ (((List (List Int)) × Unit) ⊕ Empty)) := fun y12 =>
  (cond (decide (y12.2.1 < (y1.1.length : Int))) ((getI y1.1 y12.2.1).bind fun v13 => (cond (true && roomOk (y12.1.length + ([v13]).length) 24 && true && true) (some (Sum.inl ((y12.1 ++ [v13]), (IntKind.i64.wrap (y12.2.1 + (1 : Int))), ()))) none)) (some (Sum.inr (Sum.inl (y12.1, ())))))
noncomputable def ref_TimesSorted_l4 (z6 : (Int × Unit)) (y1 : ((List (List Int)) × Int × Unit)) : ((List (List Int)) × Int × Unit) → Option (((List (List Int)) × Int × Unit) ⊕ (((List (List Int)) × Unit) ⊕ Empty)) := fun y15 =>
  (cond (decide (y15.2.1 < z6.1)) ((getI y1.1 y15.2.1).bind fun v16 => (cond (true && roomOk (y15.1.length + ([v16]).length) 24 && true && true) (some (Sum.inl ((y15.1 ++ [v16]), (IntKind.i64.wrap (y15.2.1 + (1 : Int))), ()))) none)) (some (Sum.inr (Sum.inl (y15.1, ())))))
noncomputable def ref_TimesSorted_l5 (y1 : ((List (List Int)) × Int × Unit)) : ((List (List Int)) × Int × Unit) → Option (((List (List Int)) × Int × Unit) ⊕ (((List (List Int)) × Unit) ⊕ Empty)) := fun y18 =>
  (cond (decide (y18.2.1 < (y1.1.length : Int))) ((getI y1.1 y18.2.1).bind fun v19 => (cond (true && roomOk (y18.1.length + ([v19]).length) 24 && true && true) (some (Sum.inl ((y18.1 ++ [v19]), (IntKind.i64.wrap (y18.2.1 + (1 : Int))), ()))) none)) (some (Sum.inr (Sum.inl (y18.1, ())))))
noncomputable def ref_TimesSorted_l6 (x : ((List (List Int)) × Unit)) : ((List (List Int)) × Int × Unit) → Option (((List (List Int)) × Int × Unit) ⊕ (((List (List Int)) × Unit) ⊕ Empty)) := fun y1 =>
  (cond (decide (y1.2.1 < (x.1.length : Int))) ((getI x.1 y1.2.1).bind fun v2 => ((loopM (ref_TimesSorted_l1 y1 v2) ((0 : Int), ())).bind (Sum.elim (fun z6 => (cond (decide (z6.1 < (y1.1.length : Int))) ((getI y1.1 z6.1).bind fun v7 => ((ref_TimesSame (v7, v2, ())).bind fun r8 => (cond r8.1 (some (Sum.inl (y1.1, (IntKind.i64.wrap (y1.2.1 + (1 : Int))), ()))) ((loopM (ref_TimesSorted_l2 z6 y1) (([] : (List (List Int))), (0 : Int), ())).bind (Sum.elim (fun z11 => (cond (true && roomOk (z11.1.length + ([v2]).length) 24 && true && true) ((loopM (ref_TimesSorted_l3 y1) ((z11.1 ++ [v2]), z6.1, ())).bind (Sum.elim (fun z14 => (some (Sum.inl (z14.1, (IntKind.i64.wrap (y1.2.1 + (1 : Int))), ())))) Empty.elim)) none)) Empty.elim))))) ((loopM (ref_TimesSorted_l4 z6 y1) (([] : (List (List Int))), (0 : Int), ())).bind (Sum.elim (fun z17 => (cond (true && roomOk (z17.1.length + ([v2]).length) 24 && true && true) ((loopM (ref_TimesSorted_l5 y1) ((z17.1 ++ [v2]), z6.1, ())).bind (Sum.elim (fun z20 => (some (Sum.inl (z20.1, (IntKind.i64.wrap (y1.2.1 + (1 : Int))), ())))) Empty.elim)) none)) Empty.elim)))) Empty.elim))) (some (Sum.inr (Sum.inl (y1.1, ())))))
noncomputable def ref_TimesSorted : ((List (List Int)) × Unit) → Option ((List (List Int)) × Unit) := fun x =>
  ((loopM (ref_TimesSorted_l6 x) (([] : (List (List Int))), (0 : Int), ())).bind (Sum.elim (fun z21 => (some z21)) Empty.elim))
def an51 : Ann := (.seq .leaf (.seq .leaf (.seq (.seq .leaf (.blk (.loop [3, 5, 6, 7, 8, 9, 12, 13, 14, 15, 16, 17, 18, 19, 20, 21, 22, 23, 24, 25, 26, 27, 28, 29, 30, 31, 32, 33, 34, 35, 36, 37, 38, 39, 40, 41, 42, 43, 44, 45, 46, 47, 48, 49, 50, 51, 52, 53, 54, 55, 56, 57, 58, 59, 60, 61, 62, 63, 64, 65, 66, 67, 68, 69, 70, 71, 72, 73] [26, 40, 52, 53, 56, 57, 70, 71, 1024, 1025] [] [] [.tmp 3 (.list (.list (.int .i64))), .tmp 12 (.int .i64)] [((.ex 0), [.tmp 3 (.list (.list (.int .i64)))])] (.seq .leaf (.seq (.br .leaf .leaf) (.seq (.blk (.seq .leaf (.seq .leaf (.seq (.blk (.loop [6, 16, 17, 18, 19, 20, 21, 22, 23, 24, 25, 26, 27, 28, 29] [26] [] [] [.tmp 6 (.int .i64)] [((.ex 2), [.tmp 6 (.int .i64)])] (.seq (.seq .leaf (.br .leaf .leaf)) (.blk .leaf)))) (.seq (.seq .leaf (.br .leaf .leaf)) (.seq .leaf (.seq (.seq .leaf (.blk (.loop [7, 8, 42, 43, 44, 45, 46, 47, 48, 49, 50, 51, 52, 53] [52, 53, 1024] [] [] [.arr 1024 58 (.list (.int .i64)) (.t 7), .own 7 1024, .tmp 8 (.int .i64)] [((.ex 4), [.arr 1024 58 (.list (.int .i64)) (.t 7), .own 7 1024])] (.seq (.seq .leaf (.br .leaf .leaf)) (.seq (.blk .leaf) .leaf))))) (.seq .leaf (.seq (.seq .leaf (.blk (.loop [7, 9, 59, 60, 61, 62, 63, 64, 65, 66, 67, 68, 69, 70, 71] [70, 71, 1025] [57] [] [.arr 1025 58 (.list (.int .i64)) (.t 7), .own 7 1025, .tmp 9 (.int .i64)] [((.ex 6), [.arr 1025 58 (.list (.int .i64)) (.t 7), .own 7 1025])] (.seq (.seq .leaf (.br .leaf .leaf)) (.seq (.blk .leaf) .leaf))))) .leaf))))))))) .leaf)))))) (.seq .leaf .leaf))))
noncomputable def sp51 : Abs.Spec := { args := [(false, (.list (.list (.int .i64))))], res := [.val false (.list (.list (.int .i64)))], f := ref_TimesSorted }
theorem ok51 : FunOK' prog (Abs.look gls) 51 sp51 :=
  evalFn_ok (C := mkCtx tis [(85, sp85), (87, sp87)] [] [] gls pus []) (mkCtx_ok mixed tis_ok (specs_cons ok85 (specs_cons ok87 specs_nil)) bodies_nil ) mixed func51 (by kernel_rfl) (an := an51) (by kernel_rfl) (fun x => by kernel_rfl)

/-- watershed/watershedref.TimesJoin -/
noncomputable def ref_TimesJoin_l1 (x : ((List Int) × (List Int) × Bool × Unit)) : ((List Int) × Int × Unit) → Option (((List Int) × Int × Unit) ⊕ (((List Int) × Unit) ⊕ Empty)) := fun y1 =>
  (cond (decide (y1.2.1 < (x.1.length : Int))) ((getI x.1 y1.2.1).bind fun v2 => ((getI x.2.1 y1.2.1).bind fun v3 => (cond ((decide (v3 > v2)) == x.2.2.1) ((getI x.2.1 y1.2.1).bind fun v4 => (cond (true && roomOk (y1.1.length + ([v4]).length) 8 && true && true) (some (Sum.inl ((y1.1 ++ [v4]), (IntKind.i64.wrap (y1.2.1 + (1 : Int))), ()))) none)) (cond (true && roomOk (y1.1.length + ([v2]).length) 8 && true && true) (some (Sum.inl ((y1.1 ++ [v2]), (IntKind.i64.wrap (y1.2.1 + (1 : Int))), ()))) none)))) (some (Sum.inr (Sum.inl (y1.1, ())))))
noncomputable def ref_TimesJoin : ((List Int) × (List Int) × Bool × Unit) → Option ((List Int) × Unit) := fun x =>
  ((loopM (ref_TimesJoin_l1 x) (([] : (List Int)), (0 : Int), ())).bind (Sum.elim (fun z5 => (some z5)) Empty.elim))
def an96 : Ann := (.seq .leaf (.seq .leaf (.seq (.seq .leaf (.blk (.loop [7, 8, 9, 10, 11, 12, 13, 14, 15, 16, 17, 18, 19, 20, 21, 22, 23, 24, 25, 26, 27, 28, 29, 30, 31, 32, 33, 34, 35] [34, 35, 1024] [] [] [.arr 1024 3 (.int .i64) (.t 7), .own 7 1024, .tmp 8 (.int .i64)] [((.ex 0), [.arr 1024 3 (.int .i64) (.t 7), .own 7 1024])] (.seq (.seq .leaf (.br .leaf .leaf)) (.seq (.blk (.seq .leaf (.seq (.seq .leaf (.br .leaf .leaf)) .leaf))) .leaf))))) (.seq .leaf .leaf))))
noncomputable def sp96 : Abs.Spec := { args := [(false, (.list (.int .i64))), (false, (.list (.int .i64))), (false, .bool)], res := [.own 3 (.int .i64)], f := ref_TimesJoin }
theorem ok96 : FunOK' prog (Abs.look gls) 96 sp96 :=
  evalFn_ok (C := mkCtx tis [] [] [] gls pus []) (mkCtx_ok mixed tis_ok specs_nil bodies_nil ) mixed func96 (by kernel_rfl) (an := an96) (by kernel_rfl) (fun x => by kernel_rfl)

/-- watershed/watershedref.TimesJoins -/
noncomputable def ref_TimesJoins_l1 (x : ((List (List Int)) × (List (List Int)) × Unit)) (v2 : (List Int)) : ((List (List Int)) × Int × Unit) → Option (((List (List Int)) × Int × Unit) ⊕ (((List (List Int)) × Unit) ⊕ Empty)) := fun y3 =>
  (cond (decide (y3.2.1 < (x.2.1.length : Int))) ((getI x.2.1 y3.2.1).bind fun v4 => ((ref_TimesJoin (v2, v4, true, ())).bind fun r5 => (cond (true && roomOk (y3.1.length + ([r5.1]).length) 24 && true && true) (some (Sum.inl ((y3.1 ++ [r5.1]), (IntKind.i64.wrap (y3.2.1 + (1 : Int))), ()))) none))) (some (Sum.inr (Sum.inl (y3.1, ())))))
noncomputable def ref_TimesJoins_l2 (x : ((List (List Int)) × (List (List Int)) × Unit)) : ((List (List Int)) × Int × Unit) → Option (((List (List Int)) × Int × Unit) ⊕ (((List (List Int)) × Unit) ⊕ Empty)) := fun y1 =>
  (cond (decide (y1.2.1 < (x.1.length : Int))) ((getI x.1 y1.2.1).bind fun v2 => ((loopM (ref_TimesJoins_l1 x v2) (y1.1, (0 : Int), ())).bind (Sum.elim (fun z6 => (some (Sum.inl (z6.1, (IntKind.i64.wrap (y1.2.1 + (1 : Int))), ())))) Empty.elim))) (some (Sum.inr (Sum.inl (y1.1, ())))))
noncomputable def ref_TimesJoins : ((List (List Int)) × (List (List Int)) × Unit) → Option ((List (List Int)) × Unit) := fun x =>
  ((loopM (ref_TimesJoins_l2 x) (([] : (List (List Int))), (0 : Int), ())).bind (Sum.elim (fun z7 => (some z7)) Empty.elim))
def an33 : Ann := (.seq .leaf (.seq .leaf (.seq (.seq .leaf (.blk (.loop [5, 7, 9, 12, 13, 14, 15, 16, 17, 18, 19, 20, 21, 22, 23, 24, 25, 26, 27, 28, 29] [25, 26, 27, 1024, 1025] [] [] [.arr 1025 58 (.list (.int .i64)) (.t 5), .own 5 1025, .tmp 12 (.int .i64)] [((.ex 0), [.arr 1025 58 (.list (.int .i64)) (.t 5), .own 5 1025])] (.seq .leaf (.seq (.br .leaf .leaf) (.seq (.blk (.seq .leaf (.seq .leaf (.blk (.loop [5, 9, 18, 19, 20, 21, 22, 23, 24, 25, 26, 27, 28] [25, 26, 27, 1024] [1025] [] [.arr 1024 58 (.list (.int .i64)) (.t 5), .own 5 1024, .tmp 18 (.int .i64)] [((.ex 2), [.arr 1024 58 (.list (.int .i64)) (.t 5), .own 5 1024])] (.seq .leaf (.seq (.br .leaf .leaf) (.seq (.blk (.seq .leaf .leaf)) .leaf)))))))) .leaf)))))) (.seq .leaf .leaf))))
noncomputable def sp33 : Abs.Spec := { args := [(false, (.list (.list (.int .i64)))), (false, (.list (.list (.int .i64))))], res := [.own 58 (.list (.int .i64))], f := ref_TimesJoins }
theorem ok33 : FunOK' prog (Abs.look gls) 33 sp33 :=
  evalFn_ok (C := mkCtx tis [(96, sp96)] [] [] gls pus []) (mkCtx_ok mixed tis_ok (specs_cons ok96 specs_nil) bodies_nil ) mixed func33 (by kernel_rfl) (an := an33) (by kernel_rfl) (fun x => by kernel_rfl)

/-- watershed/watershedref.TimesAll -/
noncomputable def ref_TimesAll_l1 (x : ((List (List Int)) × (List (List Int)) × Unit)) : ((List (List Int)) × Int × Unit) → Option (((List (List Int)) × Int × Unit) ⊕ (((List (List Int)) × Unit) ⊕ Empty)) := fun y1 =>
  (cond (decide (y1.2.1 < (x.1.length : Int))) ((getI x.1 y1.2.1).bind fun v2 => (cond (true && roomOk (y1.1.length + ([v2]).length) 24 && true && true) (some (Sum.inl ((y1.1 ++ [v2]), (IntKind.i64.wrap (y1.2.1 + (1 : Int))), ()))) none)) (some (Sum.inr (Sum.inl (y1.1, ())))))
noncomputable def ref_TimesAll_l2 (x : ((List (List Int)) × (List (List Int)) × Unit)) : ((List (List Int)) × Int × Unit) → Option (((List (List Int)) × Int × Unit) ⊕ (((List (List Int)) × Unit) ⊕ Empty)) := fun y4 =>
  (cond (decide (y4.2.1 < (x.2.1.length : Int))) ((getI x.2.1 y4.2.1).bind fun v5 => (cond (true && roomOk (y4.1.length + ([v5]).length) 24 && true && true) (some (Sum.inl ((y4.1 ++ [v5]), (IntKind.i64.wrap (y4.2.1 + (1 : Int))), ()))) none)) (some (Sum.inr (Sum.inl (y4.1, ())))))
noncomputable def ref_TimesAll : ((List (List Int)) × (List (List Int)) × Unit) → Option ((List (List Int)) × Unit) := fun x =>
  ((loopM (ref_TimesAll_l1 x) (([] : (List (List Int))), (0 : Int), ())).bind (Sum.elim (fun z3 => ((loopM (ref_TimesAll_l2 x) (z3.1, (0 : Int), ())).bind (Sum.elim (fun z6 => (some z6)) Empty.elim))) Empty.elim))
def an32 : Ann := (.seq .leaf (.seq .leaf (.seq (.seq .leaf (.blk (.loop [5, 7, 12, 13, 14, 15, 16, 17, 18, 19, 20] [18, 19, 1024] [] [] [.arr 1024 58 (.list (.int .i64)) (.t 5), .own 5 1024, .tmp 12 (.int .i64)] [((.ex 0), [.arr 1024 58 (.list (.int .i64)) (.t 5), .own 5 1024])] (.seq .leaf (.seq (.br .leaf .leaf) (.seq (.blk (.seq .leaf .leaf)) .leaf)))))) (.seq (.seq .leaf (.blk (.loop [5, 9, 23, 24, 25, 26, 27, 28, 29, 30, 31] [29, 30, 1025] [1024] [] [.arr 1025 58 (.list (.int .i64)) (.t 5), .own 5 1025, .tmp 23 (.int .i64)] [((.ex 2), [.arr 1025 58 (.list (.int .i64)) (.t 5), .own 5 1025])] (.seq .leaf (.seq (.br .leaf .leaf) (.seq (.blk (.seq .leaf .leaf)) .leaf)))))) (.seq .leaf .leaf)))))
noncomputable def sp32 : Abs.Spec := { args := [(false, (.list (.list (.int .i64)))), (false, (.list (.list (.int .i64))))], res := [.own 58 (.list (.int .i64))], f := ref_TimesAll }
theorem ok32 : FunOK' prog (Abs.look gls) 32 sp32 :=
  evalFn_ok (C := mkCtx tis [] [] [] gls pus []) (mkCtx_ok mixed tis_ok specs_nil bodies_nil ) mixed func32 (by kernel_rfl) (an := an32) (by kernel_rfl) (fun x => by kernel_rfl)

/-- watershed/watershedref.Closure -/
noncomputable def ref_Closure_l1 (x : ((List (List Int)) × Unit)) : ((List (List Int)) × Unit) → Option (((List (List Int)) × Unit) ⊕ (((List (List Int)) × Bool × Unit) ⊕ Empty)) := fun y2 =>
  ((ref_TimesJoins (x.1, y2.1, ())).bind fun r3 => ((ref_TimesAll (y2.1, r3.1, ())).bind fun r4 => ((ref_TimesSorted r4).bind fun r5 => (cond (decide ((r5.1.length : Int) > (64 : Int))) (some (Sum.inr (Sum.inl (([] : (List (List Int))), false, ())))) (cond ((r5.1.length : Int) == (y2.1.length : Int)) (some (Sum.inr (Sum.inl (y2.1, true, ())))) (some (Sum.inl r5)))))))
noncomputable def ref_Closure : ((List (List Int)) × Unit) → Option ((List (List Int)) × Bool × Unit) := fun x =>
  ((ref_TimesSorted x).bind fun r1 => ((loopM (ref_Closure_l1 x) r1).bind (Sum.elim (fun z6 => (some z6)) Empty.elim)))
def an65 : Ann := (.seq .leaf (.seq .leaf (.blk (.loop [2, 3, 4, 5, 8, 9, 10, 11, 12, 13, 14, 15, 16, 17, 18, 19, 20, 21, 22, 23] [11, 12, 13] [] [] [.tmp 4 (.list (.list (.int .i64)))] [(.ret, [.tmp 2 (.list (.list (.int .i64))), .tmp 3 .bool])] (.blk (.seq .leaf (.seq (.seq .leaf (.br (.seq .leaf .leaf) .leaf)) (.seq (.seq .leaf (.br (.seq .leaf .leaf) .leaf)) .leaf))))))))
noncomputable def sp65 : Abs.Spec := { args := [(false, (.list (.list (.int .i64))))], res := [.val false (.list (.list (.int .i64))), .val false .bool], f := ref_Closure }
theorem ok65 : FunOK' prog (Abs.look gls) 65 sp65 :=
  evalFn_ok (C := mkCtx tis [(32, sp32), (33, sp33), (51, sp51)] [] [] gls pus []) (mkCtx_ok mixed tis_ok (specs_cons ok32 (specs_cons ok33 (specs_cons ok51 specs_nil))) bodies_nil ) mixed func65 (by kernel_rfl) (an := an65) (by kernel_rfl) (fun x => by kernel_rfl)

/-- watershed/watershedref.Lists -/
noncomputable def ref_Lists_l1 (x : ((List (List Int)) × (List (List Int)) × Unit)) : (Int × Unit) → Option ((Int × Unit) ⊕ ((Bool × Unit) ⊕ (Unit) ⊕ Empty)) := fun y1 =>
  (cond (decide (y1.1 < (x.1.length : Int))) ((getI x.1 y1.1).bind fun v2 => ((getI x.2.1 y1.1).bind fun v3 => ((ref_TimesSame (v2, v3, ())).bind fun r4 => (cond (!r4.1) (some (Sum.inr (Sum.inl (false, ())))) (some (Sum.inl ((IntKind.i64.wrap (y1.1 + (1 : Int))), ()))))))) (some (Sum.inr (Sum.inr (Sum.inl ())))))
noncomputable def ref_Lists : ((List (List Int)) × (List (List Int)) × Unit) → Option (Bool × Unit) := fun x =>
  (cond ((x.1.length : Int) != (x.2.1.length : Int)) (some (false, ())) ((loopM (ref_Lists_l1 x) ((0 : Int), ())).bind (Sum.elim (fun z5 => (some z5)) (Sum.elim (fun z6 => (some (true, ()))) Empty.elim))))
def an21 : Ann := (.seq .leaf (.seq (.seq .leaf (.br (.seq .leaf .leaf) .leaf)) (.seq (.seq .leaf (.blk (.loop [4, 5, 11, 12, 13, 14, 15, 16, 17, 18, 19, 20, 21, 22, 23, 24, 25, 26] [25] [] [] [.tmp 5 (.int .i64)] [(.ret, [.tmp 4 .bool]), ((.ex 0), [])] (.seq (.seq .leaf (.br .leaf .leaf)) (.seq (.blk (.seq .leaf (.br (.seq .leaf .leaf) .leaf))) .leaf))))) (.seq .leaf .leaf))))
noncomputable def sp21 : Abs.Spec := { args := [(false, (.list (.list (.int .i64)))), (false, (.list (.list (.int .i64))))], res := [.val false .bool], f := ref_Lists }
theorem ok21 : FunOK' prog (Abs.look gls) 21 sp21 :=
  evalFn_ok (C := mkCtx tis [(87, sp87)] [] [] gls pus []) (mkCtx_ok mixed tis_ok (specs_cons ok87 specs_nil) bodies_nil ) mixed func21 (by kernel_rfl) (an := an21) (by kernel_rfl) (fun x => by kernel_rfl)

/-- watershed/watershedlaw.IncrCloses -/
noncomputable def law_IncrCloses : ((List (List Int)) × Unit) → Option (Bool × Unit) := fun x =>
  ((incr_Closure x).bind fun r1 => ((ref_TimesList x).bind fun r2 => (cond (r2.1 != (0 : Int)) (cond (r1.2.1 == r2.1) (some (((r1.1.length : Int) == (0 : Int)), ())) (some (false, ()))) ((ref_Closure x).bind fun r3 => (cond (!r3.2.1) (cond (r1.2.1 == (1 : Int)) (some (((r1.1.length : Int) == (0 : Int)), ())) (some (false, ()))) (cond (r1.2.1 == (0 : Int)) ((ref_Lists (r1.1, r3.1, ())).bind fun r4 => (some r4)) (some (false, ()))))))))
def an12 : Ann := (.seq .leaf (.seq .leaf (.seq .leaf (.seq (.seq .leaf (.br (.seq .leaf .leaf) .leaf)) (.seq .leaf (.seq (.seq .leaf (.br (.seq .leaf .leaf) .leaf)) (.seq .leaf .leaf)))))))
noncomputable def sp12 : Abs.Spec := { args := [(false, (.list (.list (.int .i64))))], res := [.val false .bool], f := law_IncrCloses }
theorem ok12 : FunOK' prog (Abs.look gls) 12 sp12 :=
  evalFn_ok (C := mkCtx tis [(21, sp21), (56, sp56), (64, sp64), (65, sp65)] [] [] gls pus []) (mkCtx_ok mixed tis_ok (specs_cons ok21 (specs_cons ok56 (specs_cons ok64 (specs_cons ok65 specs_nil)))) bodies_nil ) mixed func12 (by kernel_rfl) (an := an12) (by kernel_rfl) (fun x => by kernel_rfl)

end Go.Proofs.Try
