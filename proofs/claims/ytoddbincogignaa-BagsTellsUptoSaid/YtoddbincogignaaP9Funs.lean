/- Plain functions, printed by gen.py over the program that YtoddbincogignaaProg loads; each keeps its contract by the engine. -/
import Derived.Test.YtoddbincogignaaAbsLoops
import Derived.Test.YtoddbincogignaaAbsFn3
import Derived.Test.YtoddbincogignaaAbsUpto
import Derived.Test.YtoddbincogignaaP7Sort
import Derived.Test.YtoddbincogignaaProg
namespace Go.Proofs.Try
open Go Go.Abs
set_option maxRecDepth 100000


def tis : List (Nat × TInfo) := [(2, { agg := false, str := false, size := 1, bytes := 8, zeros := [.sc (.int .i64) (0 : Int)], flds := [], elem := none, arr := none, ty := (.int .i64) }),
  (3, { agg := false, str := false, size := 1, bytes := 8, zeros := [.sc (.int .i64) (0 : Int)], flds := [], elem := none, arr := none, ty := (.int .i64) }),
  (4, { agg := false, str := false, size := 1, bytes := 1, zeros := [.sc .bool (false)], flds := [], elem := none, arr := none, ty := .bool }),
  (23, { agg := false, str := false, size := 1, bytes := 8, zeros := [.sc (.int .i64) (0 : Int)], flds := [], elem := none, arr := none, ty := (.int .i64) }),
  (47, { agg := false, str := false, size := 1, bytes := 24, zeros := [.nils], flds := [], elem := some 110, arr := none, ty := (.list (.cons (.int .i64) (.cons (.int .i64) (.cons (.int .i64) .nil)))) }),
  (58, { agg := false, str := false, size := 1, bytes := 24, zeros := [.nils], flds := [], elem := some 3, arr := none, ty := (.list (.int .i64)) }),
  (110, { agg := true, str := true, size := 3, bytes := 24, zeros := [.sc (.int .i64) (0 : Int), .sc (.int .i64) (0 : Int), .sc (.int .i64) (0 : Int)], flds := [{ off := 0, size := 1, agg := false }, { off := 1, size := 1, agg := false }, { off := 2, size := 1, agg := false }], elem := none, arr := none, ty := (.cons (.int .i64) (.cons (.int .i64) (.cons (.int .i64) .nil))), eqo := some [(0, false), (1, false), (2, false)] }),
  (117, { agg := false, str := false, size := 1, bytes := 8, zeros := [.mpn], flds := [], elem := none, arr := none, ty := (.map true false (.cons (.int .i64) (.cons (.int .i64) .nil)) (.int .i64)), mp := some (172, 2) }),
  (168, { agg := false, str := false, size := 1, bytes := 24, zeros := [.nils], flds := [], elem := some 47, arr := none, ty := (.list (.list (.cons (.int .i64) (.cons (.int .i64) (.cons (.int .i64) .nil))))) }),
  (172, { agg := true, str := true, size := 2, bytes := 16, zeros := [.sc (.int .i64) (0 : Int), .sc (.int .i64) (0 : Int)], flds := [{ off := 0, size := 1, agg := false }, { off := 1, size := 1, agg := false }], elem := none, arr := none, ty := (.cons (.int .i64) (.cons (.int .i64) .nil)), eqo := some [(0, false), (1, false)] })]

theorem tis_ok : tiTable prog (tis.map (·.1)) = tis.map fun p => (p.1, some p.2) := by kernel_rfl
def pus : List Nat := []
theorem mixed : prog.follows .mixedOrders = true := by kernel_rfl

noncomputable def gls : List (Nat × (IntKind × Nat × List Int)) := []

/-- watershed/bags.Large$1 -/
noncomputable def bags_Large_c1 : ((List (Int × (Int × (Int × Unit)))) × Unit) → Option (Bool × Unit) := fun x =>
  (some ((decide ((x.1.length : Int) > (128 : Int))), ()))
def an163 : Ann := (.seq .leaf (.seq .leaf .leaf))
noncomputable def sp163 : Abs.Spec := { args := [(false, (.list (.cons (.int .i64) (.cons (.int .i64) (.cons (.int .i64) .nil)))))], res := [.val false .bool], f := bags_Large_c1 }
theorem ok163 : FunOK' prog (Abs.look gls) 163 sp163 :=
  evalFn_ok (C := mkCtx tis [] [] [] gls pus []) (mkCtx_ok mixed tis_ok specs_nil bodies_nil ) mixed func163 (by kernel_rfl) (an := an163) (by kernel_rfl) (fun x => by kernel_rfl)

/-- watershed/bags.Large -/
noncomputable def bags_Large_l1 (x : ((List (List (Int × (Int × (Int × Unit))))) × Unit)) : (Int × Unit) → Option ((Int × Unit) ⊕ ((Int × Unit) ⊕ (Unit) ⊕ Empty)) := fun y1 =>
  (cond (decide (y1.1 < (x.1.length : Int))) ((getI x.1 y1.1).bind fun v2 => ((bags_Large_c1 (v2, ())).bind fun r3 => (cond r3.1 (some (Sum.inr (Sum.inl y1))) (some (Sum.inl ((IntKind.i64.wrap (y1.1 + (1 : Int))), ())))))) (some (Sum.inr (Sum.inr (Sum.inl ())))))
noncomputable def bags_Large : ((List (List (Int × (Int × (Int × Unit))))) × Unit) → Option (Bool × Unit) := fun x =>
  ((((loopM (bags_Large_l1 x) ((0 : Int), ())).bind (Sum.elim (fun z4 => (some (Sum.inl z4))) (Sum.elim (fun z5 => (some (Sum.inl ((-1 : Int), ())))) Empty.elim))) : Option ((Int × Unit) ⊕ Empty)).bind (Sum.elim (fun z6 => (some ((decide (z6.1 ≥ (0 : Int))), ()))) Empty.elim))
def an117 : Ann := (.seq .leaf (.seq .leaf .leaf))
noncomputable def sp117 : Abs.Spec := { args := [(false, (.list (.list (.cons (.int .i64) (.cons (.int .i64) (.cons (.int .i64) .nil))))))], res := [.val false .bool], f := bags_Large }
theorem ok117 : FunOK' prog (Abs.look gls) 117 sp117 :=
  evalFn_ok (C := mkCtx tis [(163, sp163)] [(162, (1024, (f162, (.seq .leaf (.seq .leaf .leaf))))),
    (183, (2048, (f183, (.join [4, 5, 6, 7, 8, 9, 10, 11, 12, 13, 14, 15, 16, 17, 18] [2064] [] [] [(.ret, [.tmp 4 (.int .i64)])] (.seq .leaf (.seq (.seq .leaf (.blk (.loop [4, 5, 8, 9, 10, 11, 12, 13, 14, 15, 16, 17, 18] [2064] [] [] [.tmp 8 (.int .i64)] [(.ret, [.tmp 4 (.int .i64)]), ((.ex 0), [])] (.seq .leaf (.seq (.br .leaf .leaf) (.seq (.blk (.seq .leaf (.seq .leaf (.br (.seq .leaf .leaf) .leaf)))) .leaf)))))) (.seq .leaf .leaf)))))))] [] gls pus [(8, 1024), (2062, 2048)]) (mkCtx_ok mixed tis_ok (specs_cons ok163 specs_nil) (bodies_cons ⟨func162, by kernel_rfl, by kernel_rfl⟩ (bodies_cons ⟨func183, by kernel_rfl, by kernel_rfl⟩ bodies_nil)) ) mixed func117 (by kernel_rfl) (an := an117) (by kernel_rfl) (fun x => by kernel_rfl)

/-- cmp.isNaN[int64] -/
noncomputable def cmp_isNaN_int64 : (Int × Unit) → Option (Bool × Unit) := fun x =>
  (some ((x.1 != x.1), ()))
def an186 : Ann := (.seq .leaf (.seq .leaf .leaf))
noncomputable def sp186 : Abs.Spec := { args := [(false, (.int .i64))], res := [.val false .bool], f := cmp_isNaN_int64 }
theorem ok186 : FunOK' prog (Abs.look gls) 186 sp186 :=
  evalFn_ok (C := mkCtx tis [] [] [] gls pus []) (mkCtx_ok mixed tis_ok specs_nil bodies_nil ) mixed func186 (by kernel_rfl) (an := an186) (by kernel_rfl) (fun x => by kernel_rfl)

/-- cmp.Compare[int64] -/
noncomputable def cmp_Compare_int64 : (Int × Int × Unit) → Option (Int × Unit) := fun x =>
  ((cmp_isNaN_int64 (x.1, ())).bind fun r1 => ((cmp_isNaN_int64 (x.2.1, ())).bind fun r2 => (cond r1.1 (cond r2.1 (some ((0 : Int), ())) (some ((-1 : Int), ()))) (cond r2.1 (some ((1 : Int), ())) (cond (decide (x.1 < x.2.1)) (some ((-1 : Int), ())) (cond (decide (x.1 > x.2.1)) (some ((1 : Int), ())) (some ((0 : Int), ()))))))))
def an168 : Ann := (.seq .leaf (.seq .leaf (.seq .leaf (.seq (.seq .leaf (.br (.seq (.seq .leaf (.br (.seq .leaf .leaf) .leaf)) (.seq .leaf .leaf)) .leaf)) (.seq (.seq .leaf (.br (.seq .leaf .leaf) .leaf)) (.seq (.seq .leaf (.br (.seq .leaf .leaf) .leaf)) (.seq (.seq .leaf (.br (.seq .leaf .leaf) .leaf)) (.seq .leaf .leaf))))))))
noncomputable def sp168 : Abs.Spec := { args := [(false, (.int .i64)), (false, (.int .i64))], res := [.val false (.int .i64)], f := cmp_Compare_int64 }
theorem ok168 : FunOK' prog (Abs.look gls) 168 sp168 :=
  evalFn_ok (C := mkCtx tis [(186, sp186)] [] [] gls pus []) (mkCtx_ok mixed tis_ok (specs_cons ok186 specs_nil) bodies_nil ) mixed func168 (by kernel_rfl) (an := an168) (by kernel_rfl) (fun x => by kernel_rfl)

/-- cmp.Or[int] -/
noncomputable def cmp_Or_int_l1 (x : ((List Int) × Unit)) : (Int × Unit) → Option ((Int × Unit) ⊕ ((Int × Unit) ⊕ (Unit) ⊕ Empty)) := fun y1 =>
  (cond (decide (y1.1 < (x.1.length : Int))) ((getI x.1 y1.1).bind fun v2 => (cond (v2 != (0 : Int)) (some (Sum.inr (Sum.inl (v2, ())))) (some (Sum.inl ((IntKind.i64.wrap (y1.1 + (1 : Int))), ()))))) (some (Sum.inr (Sum.inr (Sum.inl ())))))
noncomputable def cmp_Or_int : ((List Int) × Unit) → Option (Int × Unit) := fun x =>
  ((loopM (cmp_Or_int_l1 x) ((0 : Int), ())).bind (Sum.elim (fun z3 => (some z3)) (Sum.elim (fun z4 => (some ((0 : Int), ()))) Empty.elim)))
def an167 : Ann := (.seq .leaf (.seq .leaf (.seq (.seq .leaf (.blk (.loop [2, 5, 8, 9, 10, 11, 12, 13, 14, 15, 16] [] [] [] [.tmp 8 (.int .i64)] [(.ret, [.tmp 2 (.int .i64)]), ((.ex 0), [])] (.seq .leaf (.seq (.br .leaf .leaf) (.seq (.blk (.seq .leaf (.seq .leaf (.br (.seq .leaf .leaf) .leaf)))) .leaf)))))) (.seq .leaf .leaf))))
noncomputable def sp167 : Abs.Spec := { args := [(false, (.list (.int .i64)))], res := [.val false (.int .i64)], f := cmp_Or_int }
theorem ok167 : FunOK' prog (Abs.look gls) 167 sp167 :=
  evalFn_ok (C := mkCtx tis [] [] [] gls pus []) (mkCtx_ok mixed tis_ok specs_nil bodies_nil ) mixed func167 (by kernel_rfl) (an := an167) (by kernel_rfl) (fun x => by kernel_rfl)

/-- (watershed/bags.Bag).Rows$1 -/
noncomputable def bags_Bag_Rows_c1 : ((Int × (Int × (Int × Unit))) × (Int × (Int × (Int × Unit))) × Unit) → Option (Int × Unit) := fun x =>
  ((cmp_Compare_int64 (x.1.1, x.2.1.1, ())).bind fun r1 => ((cmp_Compare_int64 (x.1.2.1, x.2.1.2.1, ())).bind fun r2 => ((cmp_Or_int ([r1.1, r2.1], ())).bind fun r3 => (some r3))))
def an166 : Ann := (.seq .leaf (.seq .leaf .leaf))
noncomputable def sp166 : Abs.Spec := { args := [(true, (.cons (.int .i64) (.cons (.int .i64) (.cons (.int .i64) .nil)))), (true, (.cons (.int .i64) (.cons (.int .i64) (.cons (.int .i64) .nil))))], res := [.val false (.int .i64)], f := bags_Bag_Rows_c1 }
theorem ok166 : FunOK' prog (Abs.look gls) 166 sp166 :=
  evalFn_ok (C := mkCtx tis [(167, sp167), (168, sp168)] [] [] gls pus []) (mkCtx_ok mixed tis_ok (specs_cons ok167 (specs_cons ok168 specs_nil)) bodies_nil ) mixed func166 (by kernel_rfl) (an := an166) (by kernel_rfl) (fun x => by kernel_rfl)

/-- (watershed/bags.Bag).Rows -/
noncomputable def bags_Bag_Rows_l1 : List ((Int × (Int × Unit)) × Int) → ((Int × (Int × Unit)) × Int) → ((List (Int × (Int × (Int × Unit)))) × Unit) → Option (((List (Int × (Int × (Int × Unit)))) × Unit) ⊕ (((List (Int × (Int × (Int × Unit)))) × Unit) ⊕ Empty)) := fun _r e2 y1 =>
  (cond (true && roomOk (y1.1.length + ([(e2.1.1, e2.1.2.1, e2.2, ())]).length) 24 && true && true) (some (Sum.inl ((y1.1 ++ [(e2.1.1, e2.1.2.1, e2.2, ())]), ()))) none)
noncomputable def bags_Bag_Rows_l1e : ((List (Int × (Int × (Int × Unit)))) × Unit) → Option (((List (Int × (Int × (Int × Unit)))) × Unit) ⊕ (((List (Int × (Int × (Int × Unit)))) × Unit) ⊕ Empty)) := fun y1 =>
  (some (Sum.inr (Sum.inl y1)))
noncomputable def bags_Bag_Rows : ((List ((Int × (Int × Unit)) × Int)) × Unit) → Option ((List (Int × (Int × (Int × Unit)))) × Unit) := fun x =>
  (anyX (bags_Bag_Rows_l1) (bags_Bag_Rows_l1e) (Sum.elim (fun z3 => (cond (roomOk z3.1.length 1) ((sortP (fun a b => (bags_Bag_Rows_c1 (a, b, ())).map fun r => r.1) z3.1).bind fun v4 => (some (v4, ()))) none)) Empty.elim) x.1 (([] : (List (Int × (Int × (Int × Unit))))), ()))
def an120 : AnnU := (.seq (.det .leaf) (.seq (.det .leaf) (.seq (.seq (.det .leaf) (.blk (.mloop [3, 4, 5, 8, 9, 10, 11, 12, 13, 14, 15, 16, 17, 18, 19, 20, 21] [4, 20, 21, 512, 516, 517, 522, 523, 524, 1024] [] [] [.arr 1024 110 (.cons (.int .i64) (.cons (.int .i64) (.cons (.int .i64) .nil))) (.t 3), .own 3 1024] [((.ex 0), [.arr 1024 110 (.cons (.int .i64) (.cons (.int .i64) (.cons (.int .i64) .nil))) (.t 3), .own 3 1024])] (.det (.seq (.br .leaf .leaf) (.blk (.seq .leaf .leaf))))))) (.det (.seq .leaf (.seq .leaf .leaf))))))
noncomputable def sp120 : Abs.Spec := { args := [(false, (.map true false (.cons (.int .i64) (.cons (.int .i64) .nil)) (.int .i64)))], res := [.own 110 (.cons (.int .i64) (.cons (.int .i64) (.cons (.int .i64) .nil)))], f := bags_Bag_Rows }
theorem ok120 : FunOK' prog (Abs.look gls) 120 sp120 :=
  evalFnU_ok (C := mkCtx tis [(166, sp166)] [] [] gls pus [] [] [(165, 3)]) (mkCtxN_ok mixed tis_ok (specs_cons ok166 specs_nil) bodies_nil sorts_nil (sortsN_cons sortN165 sortsN_nil)) mixed func120 (by kernel_rfl) (an := an120) (by kernel_rfl) (fun x => by kernel_rfl)

/-- watershed/bags.mixed -/
noncomputable def bags_mixed_l1 (x : ((List (Int × (Int × (Int × Unit)))) × (List (Int × (Int × (Int × Unit)))) × Int × Int × Unit)) : (Int × (List ((Int × (Int × Unit)) × Int)) × Unit) → Option ((Int × (List ((Int × (Int × Unit)) × Int)) × Unit) ⊕ (((List ((Int × (Int × Unit)) × Int)) × Unit) ⊕ Empty)) := fun y2 =>
  (cond (decide (y2.1 < (x.1.length : Int))) ((getI x.1 y2.1).bind fun v3 => (cond (((mapGet (.cons (.int .i64) (.cons (.int .i64) .nil)) (mapSet (.cons (.int .i64) (.cons (.int .i64) .nil)) (mapEnt (.cons (.int .i64) (.cons (.int .i64) .nil)) y2.2.1 (v3.1, v3.2.1, ()) (0 : Int)) (v3.1, v3.2.1, ()) (IntKind.i64.wrap (((mapGet (.cons (.int .i64) (.cons (.int .i64) .nil)) y2.2.1 (v3.1, v3.2.1, ())).getD (0 : Int)) + (IntKind.i64.wrap (x.2.2.1 * v3.2.2.1))))) (v3.1, v3.2.1, ())).getD (0 : Int)) == (0 : Int)) (some (Sum.inl ((IntKind.i64.wrap (y2.1 + (1 : Int))), (mapDel (.cons (.int .i64) (.cons (.int .i64) .nil)) (mapSet (.cons (.int .i64) (.cons (.int .i64) .nil)) (mapEnt (.cons (.int .i64) (.cons (.int .i64) .nil)) y2.2.1 (v3.1, v3.2.1, ()) (0 : Int)) (v3.1, v3.2.1, ()) (IntKind.i64.wrap (((mapGet (.cons (.int .i64) (.cons (.int .i64) .nil)) y2.2.1 (v3.1, v3.2.1, ())).getD (0 : Int)) + (IntKind.i64.wrap (x.2.2.1 * v3.2.2.1))))) (v3.1, v3.2.1, ())), ()))) (some (Sum.inl ((IntKind.i64.wrap (y2.1 + (1 : Int))), (mapSet (.cons (.int .i64) (.cons (.int .i64) .nil)) (mapEnt (.cons (.int .i64) (.cons (.int .i64) .nil)) y2.2.1 (v3.1, v3.2.1, ()) (0 : Int)) (v3.1, v3.2.1, ()) (IntKind.i64.wrap (((mapGet (.cons (.int .i64) (.cons (.int .i64) .nil)) y2.2.1 (v3.1, v3.2.1, ())).getD (0 : Int)) + (IntKind.i64.wrap (x.2.2.1 * v3.2.2.1))))), ()))))) (some (Sum.inr (Sum.inl (y2.2.1, ())))))
noncomputable def bags_mixed_l2 (x : ((List (Int × (Int × (Int × Unit)))) × (List (Int × (Int × (Int × Unit)))) × Int × Int × Unit)) : (Int × (List ((Int × (Int × Unit)) × Int)) × Unit) → Option ((Int × (List ((Int × (Int × Unit)) × Int)) × Unit) ⊕ (((List ((Int × (Int × Unit)) × Int)) × Unit) ⊕ Empty)) := fun y5 =>
  (cond (decide (y5.1 < (x.2.1.length : Int))) ((getI x.2.1 y5.1).bind fun v6 => (cond (((mapGet (.cons (.int .i64) (.cons (.int .i64) .nil)) (mapSet (.cons (.int .i64) (.cons (.int .i64) .nil)) (mapEnt (.cons (.int .i64) (.cons (.int .i64) .nil)) y5.2.1 (v6.1, v6.2.1, ()) (0 : Int)) (v6.1, v6.2.1, ()) (IntKind.i64.wrap (((mapGet (.cons (.int .i64) (.cons (.int .i64) .nil)) y5.2.1 (v6.1, v6.2.1, ())).getD (0 : Int)) + (IntKind.i64.wrap (x.2.2.2.1 * v6.2.2.1))))) (v6.1, v6.2.1, ())).getD (0 : Int)) == (0 : Int)) (some (Sum.inl ((IntKind.i64.wrap (y5.1 + (1 : Int))), (mapDel (.cons (.int .i64) (.cons (.int .i64) .nil)) (mapSet (.cons (.int .i64) (.cons (.int .i64) .nil)) (mapEnt (.cons (.int .i64) (.cons (.int .i64) .nil)) y5.2.1 (v6.1, v6.2.1, ()) (0 : Int)) (v6.1, v6.2.1, ()) (IntKind.i64.wrap (((mapGet (.cons (.int .i64) (.cons (.int .i64) .nil)) y5.2.1 (v6.1, v6.2.1, ())).getD (0 : Int)) + (IntKind.i64.wrap (x.2.2.2.1 * v6.2.2.1))))) (v6.1, v6.2.1, ())), ()))) (some (Sum.inl ((IntKind.i64.wrap (y5.1 + (1 : Int))), (mapSet (.cons (.int .i64) (.cons (.int .i64) .nil)) (mapEnt (.cons (.int .i64) (.cons (.int .i64) .nil)) y5.2.1 (v6.1, v6.2.1, ()) (0 : Int)) (v6.1, v6.2.1, ()) (IntKind.i64.wrap (((mapGet (.cons (.int .i64) (.cons (.int .i64) .nil)) y5.2.1 (v6.1, v6.2.1, ())).getD (0 : Int)) + (IntKind.i64.wrap (x.2.2.2.1 * v6.2.2.1))))), ()))))) (some (Sum.inr (Sum.inl (y5.2.1, ())))))
noncomputable def bags_mixed : ((List (Int × (Int × (Int × Unit)))) × (List (Int × (Int × (Int × Unit)))) × Int × Int × Unit) → Option ((List (Int × (Int × (Int × Unit)))) × Int × Unit) := fun x =>
  ((bags_Large ([x.1, x.2.1], ())).bind fun r1 => (cond r1.1 (some (([] : (List (Int × (Int × (Int × Unit))))), (1 : Int), ())) ((loopM (bags_mixed_l1 x) ((0 : Int), ([] : List ((Int × (Int × Unit)) × Int)), ())).bind (Sum.elim (fun z4 => ((loopM (bags_mixed_l2 x) ((0 : Int), z4.1, ())).bind (Sum.elim (fun z7 => (cond (decide ((z7.1.length : Int) > (128 : Int))) (some (([] : (List (Int × (Int × (Int × Unit))))), (1 : Int), ())) ((bags_Bag_Rows z7).bind fun r8 => (some (r8.1, (0 : Int), ()))))) Empty.elim))) Empty.elim))))
def an97 : Ann := (.seq .leaf (.seq (.seq .leaf (.br (.seq .leaf .leaf) .leaf)) (.seq .leaf (.seq .leaf (.seq .leaf (.seq .leaf .leaf))))))
noncomputable def sp97 : Abs.Spec := { args := [(false, (.list (.cons (.int .i64) (.cons (.int .i64) (.cons (.int .i64) .nil))))), (false, (.list (.cons (.int .i64) (.cons (.int .i64) (.cons (.int .i64) .nil))))), (false, (.int .i64)), (false, (.int .i64))], res := [.own 110 (.cons (.int .i64) (.cons (.int .i64) (.cons (.int .i64) .nil))), .val false (.int .i64)], f := bags_mixed }
theorem ok97 : FunOK' prog (Abs.look gls) 97 sp97 :=
  evalFn_ok (C := mkCtx tis [(117, sp117), (120, sp120)] [(104, (5120, (f104, (.seq .leaf (.seq (.seq .leaf (.br (.seq .leaf .leaf) .leaf)) (.seq .leaf .leaf)))))),
    (150, (1024, (f150, (.seq .leaf (.blk (.loop [7, 10, 11, 12, 13, 14, 15, 16, 17, 18, 19, 20, 21, 22, 23, 24, 25] [1031, 1048, 1536, 1543, 1548, 1549, 2052, 2059] [] [15] [.tmp 10 (.int .i64), .mapS 15 true false (.cons (.int .i64) (.cons (.int .i64) .nil)) (.int .i64)] [((.ex 0), [.mapS 15 true false (.cons (.int .i64) (.cons (.int .i64) .nil)) (.int .i64)])] (.seq .leaf (.seq (.br .leaf .leaf) (.seq (.blk (.seq .leaf .leaf)) .leaf))))))))),
    (150, (3072, (f150, (.seq .leaf (.blk (.loop [7, 10, 11, 12, 13, 14, 15, 16, 17, 18, 19, 20, 21, 22, 23, 24, 25] [3079, 3096, 3584, 3591, 3596, 3597, 4100, 4107] [] [15] [.tmp 10 (.int .i64), .mapS 15 true false (.cons (.int .i64) (.cons (.int .i64) .nil)) (.int .i64)] [((.ex 0), [.mapS 15 true false (.cons (.int .i64) (.cons (.int .i64) .nil)) (.int .i64)])] (.seq .leaf (.seq (.br .leaf .leaf) (.seq (.blk (.seq .leaf .leaf)) .leaf))))))))),
    (160, (2048, (f160, (.seq .leaf (.seq .leaf (.seq .leaf (.br .leaf .leaf))))))),
    (160, (4096, (f160, (.seq .leaf (.seq .leaf (.seq .leaf (.br .leaf .leaf)))))))] [] gls pus [(38, 1024), (46, 3072), (50, 5120), (2096, 2048), (6192, 4096)]) (mkCtx_ok mixed tis_ok (specs_cons ok117 (specs_cons ok120 specs_nil)) (bodies_cons ⟨func104, by kernel_rfl, by kernel_rfl⟩ (bodies_cons ⟨func150, by kernel_rfl, by kernel_rfl⟩ (bodies_cons ⟨func150, by kernel_rfl, by kernel_rfl⟩ (bodies_cons ⟨func160, by kernel_rfl, by kernel_rfl⟩ (bodies_cons ⟨func160, by kernel_rfl, by kernel_rfl⟩ bodies_nil))))) ) mixed func97 (by kernel_rfl) (an := an97) (by kernel_rfl) (fun x => by kernel_rfl)

/-- watershed/bags.Tidy -/
noncomputable def bags_Tidy : ((List (Int × (Int × (Int × Unit)))) × Unit) → Option ((List (Int × (Int × (Int × Unit)))) × Int × Unit) := fun x =>
  ((bags_mixed (x.1, ([] : (List (Int × (Int × (Int × Unit))))), (1 : Int), (0 : Int), ())).bind fun r1 => (some r1))
def an34 : Ann := (.seq .leaf (.seq .leaf .leaf))
noncomputable def sp34 : Abs.Spec := { args := [(false, (.list (.cons (.int .i64) (.cons (.int .i64) (.cons (.int .i64) .nil)))))], res := [.own 110 (.cons (.int .i64) (.cons (.int .i64) (.cons (.int .i64) .nil))), .val false (.int .i64)], f := bags_Tidy }
theorem ok34 : FunOK' prog (Abs.look gls) 34 sp34 :=
  evalFn_ok (C := mkCtx tis [(97, sp97)] [] [] gls pus []) (mkCtx_ok mixed tis_ok (specs_cons ok97 specs_nil) bodies_nil ) mixed func34 (by kernel_rfl) (an := an34) (by kernel_rfl) (fun x => by kernel_rfl)

/-- watershed/bags.Plus -/
noncomputable def bags_Plus : ((List (Int × (Int × (Int × Unit)))) × (List (Int × (Int × (Int × Unit)))) × Unit) → Option ((List (Int × (Int × (Int × Unit)))) × Int × Unit) := fun x =>
  ((bags_mixed (x.1, x.2.1, (1 : Int), (1 : Int), ())).bind fun r1 => (some r1))
def an35 : Ann := (.seq .leaf (.seq .leaf .leaf))
noncomputable def sp35 : Abs.Spec := { args := [(false, (.list (.cons (.int .i64) (.cons (.int .i64) (.cons (.int .i64) .nil))))), (false, (.list (.cons (.int .i64) (.cons (.int .i64) (.cons (.int .i64) .nil)))))], res := [.own 110 (.cons (.int .i64) (.cons (.int .i64) (.cons (.int .i64) .nil))), .val false (.int .i64)], f := bags_Plus }
theorem ok35 : FunOK' prog (Abs.look gls) 35 sp35 :=
  evalFn_ok (C := mkCtx tis [(97, sp97)] [] [] gls pus []) (mkCtx_ok mixed tis_ok (specs_cons ok97 specs_nil) bodies_nil ) mixed func35 (by kernel_rfl) (an := an35) (by kernel_rfl) (fun x => by kernel_rfl)

/-- watershed/bags.Minus -/
noncomputable def bags_Minus : ((List (Int × (Int × (Int × Unit)))) × (List (Int × (Int × (Int × Unit)))) × Unit) → Option ((List (Int × (Int × (Int × Unit)))) × Int × Unit) := fun x =>
  ((bags_mixed (x.1, x.2.1, (1 : Int), (-1 : Int), ())).bind fun r1 => (some r1))
def an36 : Ann := (.seq .leaf (.seq .leaf .leaf))
noncomputable def sp36 : Abs.Spec := { args := [(false, (.list (.cons (.int .i64) (.cons (.int .i64) (.cons (.int .i64) .nil))))), (false, (.list (.cons (.int .i64) (.cons (.int .i64) (.cons (.int .i64) .nil)))))], res := [.own 110 (.cons (.int .i64) (.cons (.int .i64) (.cons (.int .i64) .nil))), .val false (.int .i64)], f := bags_Minus }
theorem ok36 : FunOK' prog (Abs.look gls) 36 sp36 :=
  evalFn_ok (C := mkCtx tis [(97, sp97)] [] [] gls pus []) (mkCtx_ok mixed tis_ok (specs_cons ok97 specs_nil) bodies_nil ) mixed func36 (by kernel_rfl) (an := an36) (by kernel_rfl) (fun x => by kernel_rfl)

/-- watershed/bags.Scale -/
noncomputable def bags_Scale : (Int × (List (Int × (Int × (Int × Unit)))) × Unit) → Option ((List (Int × (Int × (Int × Unit)))) × Int × Unit) := fun x =>
  ((bags_mixed (x.2.1, ([] : (List (Int × (Int × (Int × Unit))))), x.1, (0 : Int), ())).bind fun r1 => (some r1))
def an37 : Ann := (.seq .leaf (.seq .leaf .leaf))
noncomputable def sp37 : Abs.Spec := { args := [(false, (.int .i64)), (false, (.list (.cons (.int .i64) (.cons (.int .i64) (.cons (.int .i64) .nil)))))], res := [.own 110 (.cons (.int .i64) (.cons (.int .i64) (.cons (.int .i64) .nil))), .val false (.int .i64)], f := bags_Scale }
theorem ok37 : FunOK' prog (Abs.look gls) 37 sp37 :=
  evalFn_ok (C := mkCtx tis [(97, sp97)] [] [] gls pus []) (mkCtx_ok mixed tis_ok (specs_cons ok97 specs_nil) bodies_nil ) mixed func37 (by kernel_rfl) (an := an37) (by kernel_rfl) (fun x => by kernel_rfl)

/-- watershed/watershedref.Large -/
noncomputable def ref_Large : ((List (Int × (Int × (Int × Unit)))) × Unit) → Option (Bool × Unit) := fun x =>
  (some ((decide ((x.1.length : Int) > (128 : Int))), ()))
def an38 : Ann := (.seq .leaf (.seq .leaf .leaf))
noncomputable def sp38 : Abs.Spec := { args := [(false, (.list (.cons (.int .i64) (.cons (.int .i64) (.cons (.int .i64) .nil)))))], res := [.val false .bool], f := ref_Large }
theorem ok38 : FunOK' prog (Abs.look gls) 38 sp38 :=
  evalFn_ok (C := mkCtx tis [] [] [] gls pus []) (mkCtx_ok mixed tis_ok specs_nil bodies_nil ) mixed func38 (by kernel_rfl) (an := an38) (by kernel_rfl) (fun x => by kernel_rfl)

/-- watershed/watershedref.Poured -/
noncomputable def ref_Poured_l1 (x : ((List (Int × (Int × (Int × Unit)))) × Int × (List (Int × (Int × (Int × Unit)))) × Unit)) : ((List (Int × (Int × (Int × Unit)))) × Int × Unit) → Option (((List (Int × (Int × (Int × Unit)))) × Int × Unit) ⊕ (((List (Int × (Int × (Int × Unit)))) × Unit) ⊕ Empty)) := fun y1 =>
  (cond (decide (y1.2.1 < (x.1.length : Int))) ((getI x.1 y1.2.1).bind fun v2 => (cond (true && roomOk (y1.1.length + ([v2]).length) 24 && true && true) (some (Sum.inl ((y1.1 ++ [v2]), (IntKind.i64.wrap (y1.2.1 + (1 : Int))), ()))) none)) (some (Sum.inr (Sum.inl (y1.1, ())))))
noncomputable def ref_Poured_l2 (x : ((List (Int × (Int × (Int × Unit)))) × Int × (List (Int × (Int × (Int × Unit)))) × Unit)) : ((List (Int × (Int × (Int × Unit)))) × Int × Unit) → Option (((List (Int × (Int × (Int × Unit)))) × Int × Unit) ⊕ (((List (Int × (Int × (Int × Unit)))) × Unit) ⊕ Empty)) := fun y4 =>
  (cond (decide (y4.2.1 < (x.2.2.1.length : Int))) ((getI x.2.2.1 y4.2.1).bind fun v5 => (cond (true && roomOk (y4.1.length + ([(v5.1, v5.2.1, (IntKind.i64.wrap (x.2.1 * v5.2.2.1)), ())]).length) 24 && true && true) (some (Sum.inl ((y4.1 ++ [(v5.1, v5.2.1, (IntKind.i64.wrap (x.2.1 * v5.2.2.1)), ())]), (IntKind.i64.wrap (y4.2.1 + (1 : Int))), ()))) none)) (some (Sum.inr (Sum.inl (y4.1, ())))))
noncomputable def ref_Poured : ((List (Int × (Int × (Int × Unit)))) × Int × (List (Int × (Int × (Int × Unit)))) × Unit) → Option ((List (Int × (Int × (Int × Unit)))) × Unit) := fun x =>
  ((loopM (ref_Poured_l1 x) (([] : (List (Int × (Int × (Int × Unit))))), (0 : Int), ())).bind (Sum.elim (fun z3 => ((loopM (ref_Poured_l2 x) (z3.1, (0 : Int), ())).bind (Sum.elim (fun z6 => (some z6)) Empty.elim))) Empty.elim))
def an41 : Ann := (.seq .leaf (.seq .leaf (.seq (.seq .leaf (.blk (.loop [7, 9, 14, 15, 16, 17, 18, 19, 20, 21, 22] [9, 20, 21, 512, 521, 528, 529, 1024] [] [] [.arr 1024 110 (.cons (.int .i64) (.cons (.int .i64) (.cons (.int .i64) .nil))) (.t 7), .own 7 1024, .tmp 14 (.int .i64)] [((.ex 0), [.arr 1024 110 (.cons (.int .i64) (.cons (.int .i64) (.cons (.int .i64) .nil))) (.t 7), .own 7 1024])] (.seq .leaf (.seq (.br .leaf .leaf) (.seq (.blk (.seq .leaf .leaf)) .leaf)))))) (.seq (.seq .leaf (.blk (.loop [7, 11, 25, 26, 27, 28, 29, 30, 31, 32, 33, 34, 35, 36, 37, 38, 39, 40, 41] [11, 39, 40, 512, 523, 539, 540, 1025] [1024] [] [.arr 1025 110 (.cons (.int .i64) (.cons (.int .i64) (.cons (.int .i64) .nil))) (.t 7), .own 7 1025, .tmp 25 (.int .i64)] [((.ex 2), [.arr 1025 110 (.cons (.int .i64) (.cons (.int .i64) (.cons (.int .i64) .nil))) (.t 7), .own 7 1025])] (.seq .leaf (.seq (.br .leaf .leaf) (.seq (.blk (.seq .leaf .leaf)) .leaf)))))) (.seq .leaf .leaf)))))
noncomputable def sp41 : Abs.Spec := { args := [(false, (.list (.cons (.int .i64) (.cons (.int .i64) (.cons (.int .i64) .nil))))), (false, (.int .i64)), (false, (.list (.cons (.int .i64) (.cons (.int .i64) (.cons (.int .i64) .nil)))))], res := [.own 110 (.cons (.int .i64) (.cons (.int .i64) (.cons (.int .i64) .nil)))], f := ref_Poured }
theorem ok41 : FunOK' prog (Abs.look gls) 41 sp41 :=
  evalFn_ok (C := mkCtx tis [] [] [] gls pus []) (mkCtx_ok mixed tis_ok specs_nil bodies_nil ) mixed func41 (by kernel_rfl) (an := an41) (by kernel_rfl) (fun x => by kernel_rfl)

/-- watershed/watershedref.rowsAhead -/
noncomputable def ref_rowsAhead : ((Int × (Int × (Int × Unit))) × (Int × (Int × (Int × Unit))) × Unit) → Option (Bool × Unit) := fun x =>
  (cond (x.1.1 != x.2.1.1) (some ((decide (x.1.1 < x.2.1.1)), ())) (some ((decide (x.1.2.1 < x.2.1.2.1)), ())))
def an98 : Ann := (.seq .leaf (.seq (.seq .leaf (.br (.seq .leaf .leaf) .leaf)) (.seq .leaf .leaf)))
noncomputable def sp98 : Abs.Spec := { args := [(true, (.cons (.int .i64) (.cons (.int .i64) (.cons (.int .i64) .nil)))), (true, (.cons (.int .i64) (.cons (.int .i64) (.cons (.int .i64) .nil))))], res := [.val false .bool], f := ref_rowsAhead }
theorem ok98 : FunOK' prog (Abs.look gls) 98 sp98 :=
  evalFn_ok (C := mkCtx tis [] [] [] gls pus []) (mkCtx_ok mixed tis_ok specs_nil bodies_nil ) mixed func98 (by kernel_rfl) (an := an98) (by kernel_rfl) (fun x => by kernel_rfl)

/-- watershed/watershedref.Bag -/
noncomputable def ref_Bag_l1 (y1 : ((List (Int × (Int × (Int × Unit)))) × Int × Unit)) (v2 : (Int × (Int × (Int × Unit)))) : (Int × Unit) → Option ((Int × Unit) ⊕ ((Int × Unit) ⊕ Empty)) := fun y3 =>
  (cond (decide (y3.1 < (y1.1.length : Int))) (cond (inB y3.1 y1.1.length) ((y1.1[y3.1.toNat]?).bind fun v4 => ((ref_rowsAhead (v4, v2, ())).bind fun r5 => (cond r5.1 (some (Sum.inl ((IntKind.i64.wrap (y3.1 + (1 : Int))), ()))) (some (Sum.inr (Sum.inl y3)))))) none) (some (Sum.inr (Sum.inl y3))))
noncomputable def ref_Bag_l2 (z6 : (Int × Unit)) : (Int × (List (Int × (Int × (Int × Unit)))) × Unit) → Option ((Int × (List (Int × (Int × (Int × Unit)))) × Unit) ⊕ (((List (Int × (Int × (Int × Unit)))) × Unit) ⊕ Empty)) := fun y11 =>
  (cond (decide (y11.1 > z6.1)) (cond (inB (IntKind.i64.wrap (y11.1 - (1 : Int))) y11.2.1.length) ((y11.2.1[(IntKind.i64.wrap (y11.1 - (1 : Int))).toNat]?).bind fun v12 => (cond (inB y11.1 y11.2.1.length) ((y11.2.1[y11.1.toNat]?).bind fun v13 => (some (Sum.inl ((IntKind.i64.wrap (y11.1 - (1 : Int))), (y11.2.1.set (y11.1.toNat) v12), ())))) none)) none) (some (Sum.inr (Sum.inl (y11.2.1, ())))))
noncomputable def ref_Bag_l3 (z6 : (Int × Unit)) : (Int × (List (Int × (Int × (Int × Unit)))) × Unit) → Option ((Int × (List (Int × (Int × (Int × Unit)))) × Unit) ⊕ (((List (Int × (Int × (Int × Unit)))) × Unit) ⊕ Empty)) := fun y16 =>
  (cond (decide (y16.1 > z6.1)) (cond (inB (IntKind.i64.wrap (y16.1 - (1 : Int))) y16.2.1.length) ((y16.2.1[(IntKind.i64.wrap (y16.1 - (1 : Int))).toNat]?).bind fun v17 => (cond (inB y16.1 y16.2.1.length) ((y16.2.1[y16.1.toNat]?).bind fun v18 => (some (Sum.inl ((IntKind.i64.wrap (y16.1 - (1 : Int))), (y16.2.1.set (y16.1.toNat) v17), ())))) none)) none) (some (Sum.inr (Sum.inl (y16.2.1, ())))))
noncomputable def ref_Bag_l4 (z6 : (Int × Unit)) : (Int × (List (Int × (Int × (Int × Unit)))) × Unit) → Option ((Int × (List (Int × (Int × (Int × Unit)))) × Unit) ⊕ (((List (Int × (Int × (Int × Unit)))) × Unit) ⊕ Empty)) := fun y21 =>
  (cond (decide (y21.1 > z6.1)) (cond (inB (IntKind.i64.wrap (y21.1 - (1 : Int))) y21.2.1.length) ((y21.2.1[(IntKind.i64.wrap (y21.1 - (1 : Int))).toNat]?).bind fun v22 => (cond (inB y21.1 y21.2.1.length) ((y21.2.1[y21.1.toNat]?).bind fun v23 => (some (Sum.inl ((IntKind.i64.wrap (y21.1 - (1 : Int))), (y21.2.1.set (y21.1.toNat) v22), ())))) none)) none) (some (Sum.inr (Sum.inl (y21.2.1, ())))))
noncomputable def ref_Bag_l5 (x : ((List (Int × (Int × (Int × Unit)))) × Unit)) : ((List (Int × (Int × (Int × Unit)))) × Int × Unit) → Option (((List (Int × (Int × (Int × Unit)))) × Int × Unit) ⊕ (((List (Int × (Int × (Int × Unit)))) × Unit) ⊕ Empty)) := fun y1 =>
  (cond (decide (y1.2.1 < (x.1.length : Int))) ((getI x.1 y1.2.1).bind fun v2 => ((loopM (ref_Bag_l1 y1 v2) ((0 : Int), ())).bind (Sum.elim (fun z6 => (cond (decide (z6.1 < (y1.1.length : Int))) (cond (inB z6.1 y1.1.length) ((y1.1[z6.1.toNat]?).bind fun v7 => (cond (v7.1 == v2.1) (cond (inB z6.1 y1.1.length) ((y1.1[z6.1.toNat]?).bind fun v8 => (cond (v8.2.1 == v2.2.1) (cond (inB z6.1 y1.1.length) ((y1.1[z6.1.toNat]?).bind fun v9 => (cond (inB z6.1 y1.1.length) ((y1.1[z6.1.toNat]?).bind fun v10 => (some (Sum.inl ((y1.1.set (z6.1.toNat) (v10.1, v10.2.1, (IntKind.i64.wrap (v9.2.2.1 + v2.2.2.1)), ())), (IntKind.i64.wrap (y1.2.1 + (1 : Int))), ())))) none)) none) (cond (true && roomOk (y1.1.length + ([v2]).length) 24 && true && true) ((loopM (ref_Bag_l2 z6) ((IntKind.i64.wrap (((y1.1 ++ [v2]).length : Int) - (1 : Int))), (y1.1 ++ [v2]), ())).bind (Sum.elim (fun z14 => (cond (inB z6.1 z14.1.length) ((z14.1[z6.1.toNat]?).bind fun v15 => (some (Sum.inl ((z14.1.set (z6.1.toNat) v2), (IntKind.i64.wrap (y1.2.1 + (1 : Int))), ())))) none)) Empty.elim)) none))) none) (cond (true && roomOk (y1.1.length + ([v2]).length) 24 && true && true) ((loopM (ref_Bag_l3 z6) ((IntKind.i64.wrap (((y1.1 ++ [v2]).length : Int) - (1 : Int))), (y1.1 ++ [v2]), ())).bind (Sum.elim (fun z19 => (cond (inB z6.1 z19.1.length) ((z19.1[z6.1.toNat]?).bind fun v20 => (some (Sum.inl ((z19.1.set (z6.1.toNat) v2), (IntKind.i64.wrap (y1.2.1 + (1 : Int))), ())))) none)) Empty.elim)) none))) none) (cond (true && roomOk (y1.1.length + ([v2]).length) 24 && true && true) ((loopM (ref_Bag_l4 z6) ((IntKind.i64.wrap (((y1.1 ++ [v2]).length : Int) - (1 : Int))), (y1.1 ++ [v2]), ())).bind (Sum.elim (fun z24 => (cond (inB z6.1 z24.1.length) ((z24.1[z6.1.toNat]?).bind fun v25 => (some (Sum.inl ((z24.1.set (z6.1.toNat) v2), (IntKind.i64.wrap (y1.2.1 + (1 : Int))), ())))) none)) Empty.elim)) none))) Empty.elim))) (some (Sum.inr (Sum.inl (y1.1, ())))))
noncomputable def ref_Bag_l6 (z26 : ((List (Int × (Int × (Int × Unit)))) × Unit)) : ((List (Int × (Int × (Int × Unit)))) × Int × Unit) → Option (((List (Int × (Int × (Int × Unit)))) × Int × Unit) ⊕ (((List (Int × (Int × (Int × Unit)))) × Unit) ⊕ Empty)) := fun y27 =>
  (cond (decide (y27.2.1 < (z26.1.length : Int))) (cond (inB y27.2.1 z26.1.length) ((z26.1[y27.2.1.toNat]?).bind fun v28 => (cond (v28.2.2.1 != (0 : Int)) (cond (true && roomOk (y27.1.length + ([v28]).length) 24 && true && true) (some (Sum.inl ((y27.1 ++ [v28]), (IntKind.i64.wrap (y27.2.1 + (1 : Int))), ()))) none) (some (Sum.inl (y27.1, (IntKind.i64.wrap (y27.2.1 + (1 : Int))), ()))))) none) (some (Sum.inr (Sum.inl (y27.1, ())))))
noncomputable def ref_Bag : ((List (Int × (Int × (Int × Unit)))) × Unit) → Option ((List (Int × (Int × (Int × Unit)))) × Unit) := fun x =>
  ((loopM (ref_Bag_l5 x) (([] : (List (Int × (Int × (Int × Unit))))), (0 : Int), ())).bind (Sum.elim (fun z26 => ((loopM (ref_Bag_l6 z26) (([] : (List (Int × (Int × (Int × Unit))))), (0 : Int), ())).bind (Sum.elim (fun z29 => (some z29)) Empty.elim))) Empty.elim))
def an40 : Ann := (.seq .leaf (.seq .leaf (.seq (.seq .leaf (.blk (.loop [3, 5, 6, 7, 13, 14, 15, 16, 17, 18, 19, 20, 21, 22, 23, 24, 25, 26, 27, 28, 29, 30, 31, 32, 33, 34, 35, 36, 37, 38, 39, 40, 41, 42, 43, 44, 45, 46, 47, 48, 49, 50, 51, 52, 53, 54, 55, 56, 57, 58, 59, 60, 61, 62, 63, 64, 65, 66, 67, 68, 69, 70, 71, 72, 73, 74, 75, 76, 77, 78, 79, 80, 81, 82, 83, 84, 85, 86, 87, 88, 89, 90, 91] [5, 27, 69, 70, 512, 517, 527, 528, 1024] [] [] [.arr 1024 110 (.cons (.int .i64) (.cons (.int .i64) (.cons (.int .i64) .nil))) (.t 3), .own 3 1024, .tmp 13 (.int .i64)] [((.ex 0), [.arr 1024 110 (.cons (.int .i64) (.cons (.int .i64) (.cons (.int .i64) .nil))) (.t 3), .own 3 1024])] (.seq .leaf (.seq (.br .leaf .leaf) (.seq (.blk (.seq .leaf (.seq .leaf (.seq (.blk (.loop [6, 17, 18, 19, 20, 21, 22, 23, 24, 25, 26, 27, 28, 29, 30] [27] [] [] [.tmp 6 (.int .i64)] [((.ex 2), [.tmp 6 (.int .i64)])] (.seq (.seq .leaf (.br .leaf .leaf)) (.blk .leaf)))) (.seq (.seq .leaf (.br (.seq .leaf .leaf) .leaf)) (.seq .leaf (.seq (.seq .leaf (.blk (.loop [7, 74, 75, 76, 77, 78, 79, 80, 81, 82, 83, 84, 85, 86] [] [] [70] [.tmp 7 (.int .i64), .arrS 70 110 (.cons (.int .i64) (.cons (.int .i64) (.cons (.int .i64) .nil)))] [((.ex 4), [.arrS 70 110 (.cons (.int .i64) (.cons (.int .i64) (.cons (.int .i64) .nil)))])] (.seq (.seq .leaf (.br .leaf .leaf)) (.seq (.blk .leaf) .leaf))))) .leaf))))))) .leaf)))))) (.seq .leaf (.seq (.seq .leaf (.blk (.loop [8, 10, 94, 95, 96, 97, 98, 99, 100, 101, 102, 103, 104, 105] [10, 103, 104, 512, 522, 608, 609, 1026] [] [] [.arr 1026 110 (.cons (.int .i64) (.cons (.int .i64) (.cons (.int .i64) .nil))) (.t 8), .own 8 1026, .tmp 94 (.int .i64)] [((.ex 6), [.arr 1026 110 (.cons (.int .i64) (.cons (.int .i64) (.cons (.int .i64) .nil))) (.t 8), .own 8 1026])] (.seq .leaf (.seq (.br .leaf .leaf) (.seq (.blk (.seq .leaf (.seq .leaf (.br .leaf .leaf)))) .leaf)))))) (.seq .leaf .leaf))))))
noncomputable def sp40 : Abs.Spec := { args := [(false, (.list (.cons (.int .i64) (.cons (.int .i64) (.cons (.int .i64) .nil)))))], res := [.own 110 (.cons (.int .i64) (.cons (.int .i64) (.cons (.int .i64) .nil)))], f := ref_Bag }
theorem ok40 : FunOK' prog (Abs.look gls) 40 sp40 :=
  evalFn_ok (C := mkCtx tis [(98, sp98)] [] [] gls pus []) (mkCtx_ok mixed tis_ok (specs_cons ok98 specs_nil) bodies_nil ) mixed func40 (by kernel_rfl) (an := an40) (by kernel_rfl) (fun x => by kernel_rfl)

/-- watershed/watershedref.BagsSame -/
noncomputable def ref_BagsSame_l1 (x : ((List (Int × (Int × (Int × Unit)))) × (List (Int × (Int × (Int × Unit)))) × Unit)) : (Int × Unit) → Option ((Int × Unit) ⊕ ((Bool × Unit) ⊕ (Unit) ⊕ Empty)) := fun y1 =>
  (cond (decide (y1.1 < (x.1.length : Int))) ((getI x.1 y1.1).bind fun v2 => ((getI x.2.1 y1.1).bind fun v3 => (cond (!(v2.1 == v3.1 && (v2.2.1 == v3.2.1 && (v2.2.2.1 == v3.2.2.1 && true)))) (some (Sum.inr (Sum.inl (false, ())))) (some (Sum.inl ((IntKind.i64.wrap (y1.1 + (1 : Int))), ())))))) (some (Sum.inr (Sum.inr (Sum.inl ())))))
noncomputable def ref_BagsSame : ((List (Int × (Int × (Int × Unit)))) × (List (Int × (Int × (Int × Unit)))) × Unit) → Option (Bool × Unit) := fun x =>
  (cond ((x.1.length : Int) != (x.2.1.length : Int)) (some (false, ())) ((loopM (ref_BagsSame_l1 x) ((0 : Int), ())).bind (Sum.elim (fun z4 => (some z4)) (Sum.elim (fun z5 => (some (true, ()))) Empty.elim))))
def an48 : Ann := (.seq .leaf (.seq (.seq .leaf (.br (.seq .leaf .leaf) .leaf)) (.seq (.seq .leaf (.blk (.loop [4, 5, 11, 12, 13, 14, 15, 16, 17, 18, 19, 20, 21, 22, 23, 24, 25] [] [] [] [.tmp 5 (.int .i64)] [(.ret, [.tmp 4 .bool]), ((.ex 0), [])] (.seq (.seq .leaf (.br .leaf .leaf)) (.seq (.blk (.seq .leaf (.br (.seq .leaf .leaf) .leaf))) .leaf))))) (.seq .leaf .leaf))))
noncomputable def sp48 : Abs.Spec := { args := [(false, (.list (.cons (.int .i64) (.cons (.int .i64) (.cons (.int .i64) .nil))))), (false, (.list (.cons (.int .i64) (.cons (.int .i64) (.cons (.int .i64) .nil)))))], res := [.val false .bool], f := ref_BagsSame }
theorem ok48 : FunOK' prog (Abs.look gls) 48 sp48 :=
  evalFn_ok (C := mkCtx tis [] [] [] gls pus []) (mkCtx_ok mixed tis_ok specs_nil bodies_nil ) mixed func48 (by kernel_rfl) (an := an48) (by kernel_rfl) (fun x => by kernel_rfl)

/-- watershed/watershedlaw.told -/
noncomputable def law_told : ((List (Int × (Int × (Int × Unit)))) × Int × Bool × (List (Int × (Int × (Int × Unit)))) × Unit) → Option (Bool × Unit) := fun x =>
  (cond x.2.2.1 (cond (x.2.1 == (1 : Int)) (some (((x.1.length : Int) == (0 : Int)), ())) (some (false, ()))) ((ref_Large (x.2.2.2.1, ())).bind fun r1 => (cond r1.1 (cond (x.2.1 == (1 : Int)) (some (((x.1.length : Int) == (0 : Int)), ())) (some (false, ()))) (cond (x.2.1 == (0 : Int)) ((ref_BagsSame (x.1, x.2.2.2.1, ())).bind fun r2 => (some r2)) (some (false, ()))))))
def an39 : Ann := (.seq .leaf (.seq (.seq .leaf (.br (.seq .leaf .leaf) .leaf)) (.seq .leaf .leaf)))
noncomputable def sp39 : Abs.Spec := { args := [(false, (.list (.cons (.int .i64) (.cons (.int .i64) (.cons (.int .i64) .nil))))), (false, (.int .i64)), (false, .bool), (false, (.list (.cons (.int .i64) (.cons (.int .i64) (.cons (.int .i64) .nil)))))], res := [.val false .bool], f := law_told }
theorem ok39 : FunOK' prog (Abs.look gls) 39 sp39 :=
  evalFn_ok (C := mkCtx tis [(38, sp38), (48, sp48)] [] [] gls pus []) (mkCtx_ok mixed tis_ok (specs_cons ok38 (specs_cons ok48 specs_nil)) bodies_nil ) mixed func39 (by kernel_rfl) (an := an39) (by kernel_rfl) (fun x => by kernel_rfl)

/-- watershed/watershedlaw.BagsTells -/
noncomputable def law_BagsTells : ((List (Int × (Int × (Int × Unit)))) × (List (Int × (Int × (Int × Unit)))) × Int × Unit) → Option (Bool × Unit) := fun x =>
  ((bags_Tidy (x.1, ())).bind fun r1 => ((bags_Plus (x.1, x.2.1, ())).bind fun r2 => ((bags_Minus (x.1, x.2.1, ())).bind fun r3 => ((bags_Scale (x.2.2.1, x.1, ())).bind fun r4 => ((ref_Large (x.1, ())).bind fun r5 => (cond r5.1 ((ref_Poured (([] : (List (Int × (Int × (Int × Unit))))), x.2.2.1, x.1, ())).bind fun r6 => ((ref_Bag r6).bind fun r7 => ((law_told (r4.1, r4.2.1, r5.1, r7.1, ())).bind fun r8 => (cond (!r8.1) (some (false, ())) ((ref_Bag (x.1, ())).bind fun r9 => ((law_told (r1.1, r1.2.1, r5.1, r9.1, ())).bind fun r10 => (cond r10.1 ((ref_Poured (x.1, (1 : Int), x.2.1, ())).bind fun r11 => ((ref_Bag r11).bind fun r12 => ((law_told (r2.1, r2.2.1, true, r12.1, ())).bind fun r13 => (cond r13.1 ((ref_Poured (x.1, (-1 : Int), x.2.1, ())).bind fun r14 => ((ref_Bag r14).bind fun r15 => ((law_told (r3.1, r3.2.1, true, r15.1, ())).bind fun r16 => (some r16)))) (some (false, ())))))) (some (false, ()))))))))) ((ref_Large (x.2.1, ())).bind fun r17 => ((ref_Poured (([] : (List (Int × (Int × (Int × Unit))))), x.2.2.1, x.1, ())).bind fun r18 => ((ref_Bag r18).bind fun r19 => ((law_told (r4.1, r4.2.1, r5.1, r19.1, ())).bind fun r20 => (cond (!r20.1) (some (false, ())) ((ref_Bag (x.1, ())).bind fun r21 => ((law_told (r1.1, r1.2.1, r5.1, r21.1, ())).bind fun r22 => (cond r22.1 ((ref_Poured (x.1, (1 : Int), x.2.1, ())).bind fun r23 => ((ref_Bag r23).bind fun r24 => ((law_told (r2.1, r2.2.1, r17.1, r24.1, ())).bind fun r25 => (cond r25.1 ((ref_Poured (x.1, (-1 : Int), x.2.1, ())).bind fun r26 => ((ref_Bag r26).bind fun r27 => ((law_told (r3.1, r3.2.1, r17.1, r27.1, ())).bind fun r28 => (some r28)))) (some (false, ())))))) (some (false, ()))))))))))))))))
def an6 : Ann := (.seq .leaf (.seq .leaf (.seq .leaf (.seq .leaf (.seq .leaf (.seq .leaf (.seq .leaf (.seq (.seq .leaf (.br (.seq .leaf .leaf) .leaf)) (.seq .leaf .leaf)))))))))
noncomputable def sp6 : Abs.Spec := { args := [(false, (.list (.cons (.int .i64) (.cons (.int .i64) (.cons (.int .i64) .nil))))), (false, (.list (.cons (.int .i64) (.cons (.int .i64) (.cons (.int .i64) .nil))))), (false, (.int .i64))], res := [.val false .bool], f := law_BagsTells }
theorem ok6 : FunOK' prog (Abs.look gls) 6 sp6 :=
  evalFn_ok (C := mkCtx tis [(34, sp34), (35, sp35), (36, sp36), (37, sp37), (38, sp38), (39, sp39), (40, sp40), (41, sp41)] [] [] gls pus []) (mkCtx_ok mixed tis_ok (specs_cons ok34 (specs_cons ok35 (specs_cons ok36 (specs_cons ok37 (specs_cons ok38 (specs_cons ok39 (specs_cons ok40 (specs_cons ok41 specs_nil)))))))) bodies_nil ) mixed func6 (by kernel_rfl) (an := an6) (by kernel_rfl) (fun x => by kernel_rfl)

end Go.Proofs.Try
