/- Plain functions, printed by gen.py over the program that YtammjpalmmhokaaProg loads; each keeps its contract by the engine. -/
import Derived.Test.YtammjpalmmhokaaAbsLoops
import Derived.Test.YtammjpalmmhokaaProg
namespace Go.Proofs.Try
open Go Go.Abs
set_option maxRecDepth 100000


def tis : List (Nat × TInfo) := [(2, { agg := false, str := false, size := 1, bytes := 8, zeros := [.sc (.int .i64) (0 : Int)], flds := [], elem := none, arr := none, ty := (.int .i64) }),
  (3, { agg := false, str := false, size := 1, bytes := 8, zeros := [.sc (.int .i64) (0 : Int)], flds := [], elem := none, arr := none, ty := (.int .i64) }),
  (4, { agg := false, str := false, size := 1, bytes := 1, zeros := [.sc .bool (false)], flds := [], elem := none, arr := none, ty := .bool }),
  (22, { agg := false, str := false, size := 1, bytes := 24, zeros := [.nils], flds := [], elem := some 30, arr := none, ty := (.list (.cons (.list (.int .i64)) (.cons (.int .i64) .nil))) }),
  (23, { agg := false, str := false, size := 1, bytes := 24, zeros := [.nils], flds := [], elem := some 3, arr := none, ty := (.list (.int .i64)) }),
  (24, { agg := false, str := false, size := 1, bytes := 8, zeros := [.sc (.int .i64) (0 : Int)], flds := [], elem := none, arr := none, ty := (.int .i64) }),
  (30, { agg := true, str := true, size := 2, bytes := 32, zeros := [.nils, .sc (.int .i64) (0 : Int)], flds := [{ off := 0, size := 1, agg := false }, { off := 1, size := 1, agg := false }], elem := none, arr := none, ty := (.cons (.list (.int .i64)) (.cons (.int .i64) .nil)) }),
  (57, { agg := false, str := false, size := 1, bytes := 24, zeros := [.nils], flds := [], elem := some 23, arr := none, ty := (.list (.list (.int .i64))) }),
  (66, { agg := false, str := false, size := 1, bytes := 24, zeros := [.nils], flds := [], elem := some 30, arr := none, ty := (.list (.cons (.list (.int .i64)) (.cons (.int .i64) .nil))) }),
  (94, { agg := true, str := false, size := 2, bytes := 48, zeros := [.nils, .nils], flds := [{ off := 0, size := 1, agg := false }, { off := 1, size := 1, agg := false }], elem := none, arr := some (2, 22), ty := (.cons (.list (.cons (.list (.int .i64)) (.cons (.int .i64) .nil))) (.cons (.list (.cons (.list (.int .i64)) (.cons (.int .i64) .nil))) .nil)) })]

theorem tis_ok : tiTable prog (tis.map (·.1)) = tis.map fun p => (p.1, some p.2) := by kernel_rfl
def pus : List Nat := []
theorem mixed : prog.follows .mixedOrders = true := by kernel_rfl

noncomputable def gls : List (Nat × (IntKind × Nat × List Int)) := []

/-- (watershed/counts.tally).list -/
noncomputable def counts_tally_list_l1 (x : ((List ((List Int) × (Int × Unit))) × Unit)) : ((List (List Int)) × Int × Unit) → Option (((List (List Int)) × Int × Unit) ⊕ (((List (List Int)) × Unit) ⊕ Empty)) := fun y1 =>
  (cond (decide (y1.2.1 < (x.1.length : Int))) ((getI x.1 y1.2.1).bind fun v2 => (cond (true && roomOk (y1.1.length + ([v2.1]).length) 24 && true && true) (some (Sum.inl ((y1.1 ++ [v2.1]), (IntKind.i64.wrap (y1.2.1 + (1 : Int))), ()))) none)) (some (Sum.inr (Sum.inl (y1.1, ())))))
noncomputable def counts_tally_list : ((List ((List Int) × (Int × Unit))) × Unit) → Option ((List (List Int)) × Unit) := fun x =>
  ((loopM (counts_tally_list_l1 x) (([] : (List (List Int))), (0 : Int), ())).bind (Sum.elim (fun z3 => (some z3)) Empty.elim))
def an36 : Ann := (.seq .leaf (.seq .leaf (.seq (.seq .leaf (.blk (.loop [3, 5, 8, 9, 10, 11, 12, 13, 14, 15, 16, 17] [5, 15, 16, 512, 517, 522, 523, 1024] [] [] [.arr 1024 23 (.list (.int .i64)) (.t 3), .own 3 1024, .tmp 8 (.int .i64)] [((.ex 0), [.arr 1024 23 (.list (.int .i64)) (.t 3), .own 3 1024])] (.seq .leaf (.seq (.br .leaf .leaf) (.seq (.blk (.seq .leaf .leaf)) .leaf)))))) (.seq .leaf .leaf))))
noncomputable def sp36 : Abs.Spec := { args := [(false, (.list (.cons (.list (.int .i64)) (.cons (.int .i64) .nil))))], res := [.own 23 (.list (.int .i64))], f := counts_tally_list }
theorem ok36 : FunOK' prog (Abs.look gls) 36 sp36 :=
  evalFn_ok (C := mkCtx tis [] [] [] gls pus []) (mkCtx_ok mixed tis_ok specs_nil bodies_nil) mixed func36 (by kernel_rfl) (an := an36) (by kernel_rfl) (fun x => by kernel_rfl)

/-- watershed/times.Check -/
noncomputable def times_Check_l1 (x : ((List Int) × Unit)) : (Int × Unit) → Option ((Int × Unit) ⊕ ((Int × Unit) ⊕ (Unit) ⊕ Empty)) := fun y1 =>
  (cond (decide (y1.1 < (x.1.length : Int))) ((getI x.1 y1.1).bind fun v2 => (cond (decide (v2 < (0 : Int))) (some (Sum.inr (Sum.inl ((2 : Int), ())))) (cond (decide (v2 > (1048576 : Int))) (some (Sum.inr (Sum.inl ((2 : Int), ())))) (some (Sum.inl ((IntKind.i64.wrap (y1.1 + (1 : Int))), ())))))) (some (Sum.inr (Sum.inr (Sum.inl ())))))
noncomputable def times_Check : ((List Int) × Unit) → Option (Int × Unit) := fun x =>
  (cond ((x.1.length : Int) == (0 : Int)) (some ((1 : Int), ())) (cond (decide ((x.1.length : Int) > (4 : Int))) (some ((1 : Int), ())) ((loopM (times_Check_l1 x) ((0 : Int), ())).bind (Sum.elim (fun z3 => (some z3)) (Sum.elim (fun z4 => (some ((0 : Int), ()))) Empty.elim)))))
def an30 : Ann := (.seq .leaf (.seq (.seq .leaf (.br (.seq .leaf .leaf) .leaf)) (.seq (.seq .leaf (.blk (.loop [2, 4, 15, 16, 17, 18, 19, 20, 21, 22, 23, 24, 25] [] [] [] [.tmp 15 (.int .i64)] [(.ret, [.tmp 2 (.int .i64)]), ((.ex 0), [])] (.seq .leaf (.seq (.br .leaf .leaf) (.seq (.blk (.seq .leaf (.seq .leaf (.br (.seq .leaf .leaf) .leaf)))) .leaf)))))) (.seq .leaf .leaf))))
noncomputable def sp30 : Abs.Spec := { args := [(false, (.list (.int .i64)))], res := [.val false (.int .i64)], f := times_Check }
theorem ok30 : FunOK' prog (Abs.look gls) 30 sp30 :=
  evalFn_ok (C := mkCtx tis [] [] [] gls pus []) (mkCtx_ok mixed tis_ok specs_nil bodies_nil) mixed func30 (by kernel_rfl) (an := an30) (by kernel_rfl) (fun x => by kernel_rfl)

/-- watershed/times.List -/
noncomputable def times_List_l1 (x : ((List (List Int)) × Unit)) : (Int × Unit) → Option ((Int × Unit) ⊕ ((Int × Unit) ⊕ (Unit) ⊕ Empty)) := fun y1 =>
  (cond (decide (y1.1 < (x.1.length : Int))) ((getI x.1 y1.1).bind fun v2 => ((times_Check (v2, ())).bind fun r3 => (cond (r3.1 != (0 : Int)) (some (Sum.inr (Sum.inl r3))) (some (Sum.inl ((IntKind.i64.wrap (y1.1 + (1 : Int))), ())))))) (some (Sum.inr (Sum.inr (Sum.inl ())))))
noncomputable def times_List_l2 (x : ((List (List Int)) × Unit)) : (Int × Unit) → Option ((Int × Unit) ⊕ ((Int × Unit) ⊕ (Unit) ⊕ Empty)) := fun y6 =>
  (cond (decide (y6.1 < (x.1.length : Int))) ((getI x.1 y6.1).bind fun v7 => ((getI x.1 (0 : Int)).bind fun v8 => (cond ((v7.length : Int) != (v8.length : Int)) (some (Sum.inr (Sum.inl ((3 : Int), ())))) (some (Sum.inl ((IntKind.i64.wrap (y6.1 + (1 : Int))), ())))))) (some (Sum.inr (Sum.inr (Sum.inl ())))))
noncomputable def times_List : ((List (List Int)) × Unit) → Option (Int × Unit) := fun x =>
  (cond (decide ((x.1.length : Int) > (64 : Int))) (some ((1 : Int), ())) ((loopM (times_List_l1 x) ((0 : Int), ())).bind (Sum.elim (fun z4 => (some z4)) (Sum.elim (fun z5 => ((loopM (times_List_l2 x) ((0 : Int), ())).bind (Sum.elim (fun z9 => (some z9)) (Sum.elim (fun z10 => (some ((0 : Int), ()))) Empty.elim)))) Empty.elim))))
def an37 : Ann := (.seq .leaf (.seq (.seq .leaf (.br (.seq .leaf .leaf) .leaf)) (.seq (.seq .leaf (.blk (.loop [2, 4, 5, 13, 14, 15, 16, 17, 18, 19, 20, 21, 22] [18] [] [] [.tmp 13 (.int .i64)] [(.ret, [.tmp 2 (.int .i64)]), ((.ex 0), [])] (.seq .leaf (.seq (.br .leaf .leaf) (.seq (.blk (.seq .leaf (.seq .leaf (.seq .leaf (.br (.seq .leaf .leaf) .leaf))))) .leaf)))))) (.seq (.seq .leaf (.blk (.loop [2, 7, 25, 26, 27, 28, 29, 30, 31, 32, 33, 34, 35, 36] [] [] [] [.tmp 25 (.int .i64)] [(.ret, [.tmp 2 (.int .i64)]), ((.ex 2), [])] (.seq .leaf (.seq (.br .leaf .leaf) (.seq (.blk (.seq .leaf (.seq .leaf (.br (.seq .leaf .leaf) .leaf)))) .leaf)))))) (.seq .leaf .leaf)))))
noncomputable def sp37 : Abs.Spec := { args := [(false, (.list (.list (.int .i64))))], res := [.val false (.int .i64)], f := times_List }
theorem ok37 : FunOK' prog (Abs.look gls) 37 sp37 :=
  evalFn_ok (C := mkCtx tis [(30, sp30)] [] [] gls pus []) (mkCtx_ok mixed tis_ok (specs_cons ok30 specs_nil) bodies_nil) mixed func37 (by kernel_rfl) (an := an37) (by kernel_rfl) (fun x => by kernel_rfl)

/-- watershed/times.alike -/
noncomputable def times_alike : ((List Int) × (List Int) × Unit) → Option (Bool × Unit) := fun x =>
  (cond ((x.1.length : Int) == (x.2.1.length : Int)) ((times_Check (x.1, ())).bind fun r1 => (cond (r1.1 == (0 : Int)) ((times_Check (x.2.1, ())).bind fun r2 => (some ((r2.1 == (0 : Int)), ()))) (some (false, ())))) (some (false, ())))
def an60 : Ann := (.seq .leaf (.seq .leaf .leaf))
noncomputable def sp60 : Abs.Spec := { args := [(false, (.list (.int .i64))), (false, (.list (.int .i64)))], res := [.val false .bool], f := times_alike }
theorem ok60 : FunOK' prog (Abs.look gls) 60 sp60 :=
  evalFn_ok (C := mkCtx tis [(30, sp30)] [] [] gls pus []) (mkCtx_ok mixed tis_ok (specs_cons ok30 specs_nil) bodies_nil) mixed func60 (by kernel_rfl) (an := an60) (by kernel_rfl) (fun x => by kernel_rfl)

/-- cmp.isNaN[int] -/
noncomputable def cmp_isNaN_int : (Int × Unit) → Option (Bool × Unit) := fun x =>
  (some ((x.1 != x.1), ()))
def an73 : Ann := (.seq .leaf (.seq .leaf .leaf))
noncomputable def sp73 : Abs.Spec := { args := [(false, (.int .i64))], res := [.val false .bool], f := cmp_isNaN_int }
theorem ok73 : FunOK' prog (Abs.look gls) 73 sp73 :=
  evalFn_ok (C := mkCtx tis [] [] [] gls pus []) (mkCtx_ok mixed tis_ok specs_nil bodies_nil) mixed func73 (by kernel_rfl) (an := an73) (by kernel_rfl) (fun x => by kernel_rfl)

/-- cmp.Compare[int] -/
noncomputable def cmp_Compare_int : (Int × Int × Unit) → Option (Int × Unit) := fun x =>
  ((cmp_isNaN_int (x.1, ())).bind fun r1 => ((cmp_isNaN_int (x.2.1, ())).bind fun r2 => (cond r1.1 (cond r2.1 (some ((0 : Int), ())) (some ((-1 : Int), ()))) (cond r2.1 (some ((1 : Int), ())) (cond (decide (x.1 < x.2.1)) (some ((-1 : Int), ())) (cond (decide (x.1 > x.2.1)) (some ((1 : Int), ())) (some ((0 : Int), ()))))))))
def an69 : Ann := (.seq .leaf (.seq .leaf (.seq .leaf (.seq (.seq .leaf (.br (.seq (.seq .leaf (.br (.seq .leaf .leaf) .leaf)) (.seq .leaf .leaf)) .leaf)) (.seq (.seq .leaf (.br (.seq .leaf .leaf) .leaf)) (.seq (.seq .leaf (.br (.seq .leaf .leaf) .leaf)) (.seq (.seq .leaf (.br (.seq .leaf .leaf) .leaf)) (.seq .leaf .leaf))))))))
noncomputable def sp69 : Abs.Spec := { args := [(false, (.int .i64)), (false, (.int .i64))], res := [.val false (.int .i64)], f := cmp_Compare_int }
theorem ok69 : FunOK' prog (Abs.look gls) 69 sp69 :=
  evalFn_ok (C := mkCtx tis [(73, sp73)] [] [] gls pus []) (mkCtx_ok mixed tis_ok (specs_cons ok73 specs_nil) bodies_nil) mixed func69 (by kernel_rfl) (an := an69) (by kernel_rfl) (fun x => by kernel_rfl)

/-- slices.Compare[[]int,int] -/
noncomputable def slices_Compare_s_int_int_l1 (x : ((List Int) × (List Int) × Unit)) : (Int × Unit) → Option ((Int × Unit) ⊕ ((Int × Unit) ⊕ (Unit) ⊕ Empty)) := fun y1 =>
  (cond (decide (y1.1 < (x.1.length : Int))) ((getI x.1 y1.1).bind fun v2 => (cond (decide (y1.1 ≥ (x.2.1.length : Int))) (some (Sum.inr (Sum.inl ((1 : Int), ())))) ((getI x.2.1 y1.1).bind fun v3 => ((cmp_Compare_int (v2, v3, ())).bind fun r4 => (cond (r4.1 != (0 : Int)) (some (Sum.inr (Sum.inl r4))) (some (Sum.inl ((IntKind.i64.wrap (y1.1 + (1 : Int))), ())))))))) (some (Sum.inr (Sum.inr (Sum.inl ())))))
noncomputable def slices_Compare_s_int_int : ((List Int) × (List Int) × Unit) → Option (Int × Unit) := fun x =>
  ((loopM (slices_Compare_s_int_int_l1 x) ((0 : Int), ())).bind (Sum.elim (fun z5 => (some z5)) (Sum.elim (fun z6 => (cond (decide ((x.1.length : Int) < (x.2.1.length : Int))) (some ((-1 : Int), ())) (some ((0 : Int), ())))) Empty.elim)))
def an58 : Ann := (.seq .leaf (.seq (.seq .leaf (.blk (.loop [4, 5, 6, 7, 8, 11, 12, 13, 14, 15, 16, 17, 18, 19, 20, 21, 22, 23, 24, 25, 26, 27, 28, 29, 30] [26] [] [] [.tmp 11 (.int .i64)] [(.ret, [.tmp 4 (.int .i64)]), ((.ex 0), [])] (.seq .leaf (.seq (.br .leaf .leaf) (.seq (.blk (.seq .leaf (.seq (.seq .leaf (.br (.seq .leaf .leaf) .leaf)) (.seq .leaf (.seq .leaf (.seq .leaf (.br (.seq .leaf .leaf) .leaf))))))) .leaf)))))) (.seq (.seq .leaf (.br (.seq .leaf .leaf) .leaf)) (.seq .leaf .leaf))))
noncomputable def sp58 : Abs.Spec := { args := [(false, (.list (.int .i64))), (false, (.list (.int .i64)))], res := [.val false (.int .i64)], f := slices_Compare_s_int_int }
theorem ok58 : FunOK' prog (Abs.look gls) 58 sp58 :=
  evalFn_ok (C := mkCtx tis [(69, sp69)] [] [] gls pus []) (mkCtx_ok mixed tis_ok (specs_cons ok69 specs_nil) bodies_nil) mixed func58 (by kernel_rfl) (an := an58) (by kernel_rfl) (fun x => by kernel_rfl)

/-- watershed/times.Less -/
noncomputable def times_Less : ((List Int) × (List Int) × Unit) → Option (Bool × Unit) := fun x =>
  ((times_alike x).bind fun r1 => (cond r1.1 ((slices_Compare_s_int_int x).bind fun r2 => (some ((decide (r2.1 < (0 : Int))), ()))) (some (false, ()))))
def an38 : Ann := (.seq .leaf (.seq .leaf .leaf))
noncomputable def sp38 : Abs.Spec := { args := [(false, (.list (.int .i64))), (false, (.list (.int .i64)))], res := [.val false .bool], f := times_Less }
theorem ok38 : FunOK' prog (Abs.look gls) 38 sp38 :=
  evalFn_ok (C := mkCtx tis [(58, sp58), (60, sp60)] [] [] gls pus []) (mkCtx_ok mixed tis_ok (specs_cons ok58 (specs_cons ok60 specs_nil)) bodies_nil) mixed func38 (by kernel_rfl) (an := an38) (by kernel_rfl) (fun x => by kernel_rfl)

/-- watershed/counts.over -/
noncomputable def counts_over : (Int × Unit) → Option (Bool × Unit) := fun x =>
  (cond (decide (x.1 < (-1099511627776 : Int))) (some (true, ())) (some ((decide (x.1 > (1099511627776 : Int))), ())))
def an32 : Ann := (.seq .leaf (.seq .leaf .leaf))
noncomputable def sp32 : Abs.Spec := { args := [(false, (.int .i64))], res := [.val false .bool], f := counts_over }
theorem ok32 : FunOK' prog (Abs.look gls) 32 sp32 :=
  evalFn_ok (C := mkCtx tis [] [] [] gls pus []) (mkCtx_ok mixed tis_ok specs_nil bodies_nil) mixed func32 (by kernel_rfl) (an := an32) (by kernel_rfl) (fun x => by kernel_rfl)

/-- watershed/counts.Check$1 -/
noncomputable def counts_Check_c1 : (((List Int) × (Int × Unit)) × Unit) → Option (Bool × Unit) := fun x =>
  (cond (x.1.2.1 == (0 : Int)) (some (true, ())) ((counts_over (x.1.2.1, ())).bind fun r1 => (some r1)))
def an40 : Ann := (.seq .leaf (.seq .leaf .leaf))
noncomputable def sp40 : Abs.Spec := { args := [(true, (.cons (.list (.int .i64)) (.cons (.int .i64) .nil)))], res := [.val false .bool], f := counts_Check_c1 }
theorem ok40 : FunOK' prog (Abs.look gls) 40 sp40 :=
  evalFn_ok (C := mkCtx tis [(32, sp32)] [] [] gls pus []) (mkCtx_ok mixed tis_ok (specs_cons ok32 specs_nil) bodies_nil) mixed func40 (by kernel_rfl) (an := an40) (by kernel_rfl) (fun x => by kernel_rfl)

/-- watershed/counts.Check -/
noncomputable def counts_Check_l1 (r1 : ((List (List Int)) × Unit)) : (Int × Unit) → Option ((Int × Unit) ⊕ ((Int × Unit) ⊕ (Unit) ⊕ Empty)) := fun y3 =>
  (cond (decide (y3.1 < (r1.1.length : Int))) (cond (inB (IntKind.i64.wrap (y3.1 - (1 : Int))) r1.1.length) ((r1.1[(IntKind.i64.wrap (y3.1 - (1 : Int))).toNat]?).bind fun v4 => (cond (inB y3.1 r1.1.length) ((r1.1[y3.1.toNat]?).bind fun v5 => ((times_Less (v4, v5, ())).bind fun r6 => (cond (!r6.1) (some (Sum.inr (Sum.inl ((3 : Int), ())))) (some (Sum.inl ((IntKind.i64.wrap (y3.1 + (1 : Int))), ())))))) none)) none) (some (Sum.inr (Sum.inr (Sum.inl ())))))
noncomputable def counts_Check_l2 (x : ((List ((List Int) × (Int × Unit))) × Unit)) : (Int × Unit) → Option ((Int × Unit) ⊕ ((Int × Unit) ⊕ (Unit) ⊕ Empty)) := fun y9 =>
  (cond (decide (y9.1 < (x.1.length : Int))) ((getI x.1 y9.1).bind fun v10 => ((counts_Check_c1 (v10, ())).bind fun r11 => (cond r11.1 (some (Sum.inr (Sum.inl y9))) (some (Sum.inl ((IntKind.i64.wrap (y9.1 + (1 : Int))), ())))))) (some (Sum.inr (Sum.inr (Sum.inl ())))))
noncomputable def counts_Check : ((List ((List Int) × (Int × Unit))) × Unit) → Option (Int × Unit) := fun x =>
  ((counts_tally_list x).bind fun r1 => ((times_List r1).bind fun r2 => (cond (r2.1 != (0 : Int)) (some r2) ((loopM (counts_Check_l1 r1) ((1 : Int), ())).bind (Sum.elim (fun z7 => (some z7)) (Sum.elim (fun z8 => ((((loopM (counts_Check_l2 x) ((0 : Int), ())).bind (Sum.elim (fun z12 => (some (Sum.inl z12))) (Sum.elim (fun z13 => (some (Sum.inl ((-1 : Int), ())))) Empty.elim))) : Option ((Int × Unit) ⊕ Empty)).bind (Sum.elim (fun z14 => (cond (decide (z14.1 ≥ (0 : Int))) (some ((2 : Int), ())) (some ((0 : Int), ())))) Empty.elim))) Empty.elim))))))
def an10 : Ann := (.seq .leaf (.seq .leaf (.seq (.seq .leaf (.seq .leaf (.br (.seq .leaf .leaf) .leaf))) (.seq (.seq .leaf (.blk (.loop [2, 5, 13, 14, 15, 16, 17, 18, 19, 20, 21, 22, 23, 24, 25, 26, 27, 28, 29] [28] [] [] [.tmp 5 (.int .i64)] [(.ret, [.tmp 2 (.int .i64)]), ((.ex 0), [])] (.seq (.seq .leaf (.br .leaf .leaf)) (.seq (.blk (.seq .leaf (.br (.seq .leaf .leaf) .leaf))) .leaf))))) (.seq (.seq .leaf (.br (.seq .leaf .leaf) .leaf)) (.seq .leaf .leaf))))))
noncomputable def sp10 : Abs.Spec := { args := [(false, (.list (.cons (.list (.int .i64)) (.cons (.int .i64) .nil))))], res := [.val false (.int .i64)], f := counts_Check }
theorem ok10 : FunOK' prog (Abs.look gls) 10 sp10 :=
  evalFn_ok (C := mkCtx tis [(36, sp36), (37, sp37), (38, sp38), (40, sp40)] [(39, (1024, (f39, (.seq .leaf (.seq .leaf .leaf))))),
    (61, (2048, (f61, (.join [4, 5, 6, 7, 8, 9, 10, 11, 12, 13, 14, 15, 16, 17, 18] [2064] [] [] [(.ret, [.tmp 4 (.int .i64)])] (.seq .leaf (.seq (.seq .leaf (.blk (.loop [4, 5, 8, 9, 10, 11, 12, 13, 14, 15, 16, 17, 18] [2064] [] [] [.tmp 8 (.int .i64)] [(.ret, [.tmp 4 (.int .i64)]), ((.ex 0), [])] (.seq .leaf (.seq (.br .leaf .leaf) (.seq (.blk (.seq .leaf (.seq .leaf (.br (.seq .leaf .leaf) .leaf)))) .leaf)))))) (.seq .leaf .leaf)))))))] [] gls pus [(62, 1024), (2062, 2048)]) (mkCtx_ok mixed tis_ok (specs_cons ok36 (specs_cons ok37 (specs_cons ok38 (specs_cons ok40 specs_nil)))) (bodies_cons ⟨func39, by kernel_rfl, by kernel_rfl⟩ (bodies_cons ⟨func61, by kernel_rfl, by kernel_rfl⟩ bodies_nil))) mixed func10 (by kernel_rfl) (an := an10) (by kernel_rfl) (fun x => by kernel_rfl)

/-- watershed/counts.apart -/
noncomputable def counts_apart : ((List ((List Int) × (Int × Unit))) × (List ((List Int) × (Int × Unit))) × Unit) → Option (Bool × Unit) := fun x =>
  (cond (decide ((x.1.length : Int) > (0 : Int))) (cond (decide ((x.2.1.length : Int) > (0 : Int))) ((getI x.1 (0 : Int)).bind fun v1 => ((getI x.2.1 (0 : Int)).bind fun v2 => (some (((v1.1.length : Int) != (v2.1.length : Int)), ())))) (some (false, ()))) (some (false, ())))
def an31 : Ann := (.seq .leaf (.seq .leaf .leaf))
noncomputable def sp31 : Abs.Spec := { args := [(false, (.list (.cons (.list (.int .i64)) (.cons (.int .i64) .nil)))), (false, (.list (.cons (.list (.int .i64)) (.cons (.int .i64) .nil))))], res := [.val false .bool], f := counts_apart }
theorem ok31 : FunOK' prog (Abs.look gls) 31 sp31 :=
  evalFn_ok (C := mkCtx tis [] [] [] gls pus []) (mkCtx_ok mixed tis_ok specs_nil bodies_nil) mixed func31 (by kernel_rfl) (an := an31) (by kernel_rfl) (fun x => by kernel_rfl)

/-- slices.Clone[[]int,int] -/
noncomputable def slices_Clone_s_int_int : ((List Int) × Unit) → Option ((List Int) × Unit) := fun x =>
  (cond (true && roomOk (([] : (List Int)).length + x.1.length) 8 && true && true) (some ((([] : (List Int)) ++ x.1), ())) none)
def an59 : Ann := (.seq .leaf (.seq (.seq .leaf (.br (.seq .leaf .leaf) .leaf)) (.seq .leaf .leaf)))
noncomputable def sp59 : Abs.Spec := { args := [(false, (.list (.int .i64)))], res := [.own 3 (.int .i64)], f := slices_Clone_s_int_int }
theorem ok59 : FunOK' prog (Abs.look gls) 59 sp59 :=
  evalNil_ok (C := mkCtx tis [] [] [] gls pus []) (mkCtx_ok mixed tis_ok specs_nil bodies_nil) mixed func59 (by kernel_rfl) (an := an59) (by kernel_rfl) (Nat.le_of_ble_eq_true (by kernel_rfl)) (by kernel_rfl) (fun l => by kernel_rfl)

/-- watershed/counts.merge -/
noncomputable def counts_merge_l1 : ((List ((List Int) × (Int × Unit))) × (List ((List Int) × (Int × Unit))) × (List ((List Int) × (Int × Unit))) × Unit) → Option (((List ((List Int) × (Int × Unit))) × (List ((List Int) × (Int × Unit))) × (List ((List Int) × (Int × Unit))) × Unit) ⊕ (((List ((List Int) × (Int × Unit))) × Int × Unit) ⊕ ((List ((List Int) × (Int × Unit))) × Unit) ⊕ Empty)) := fun y1 =>
  (cond (decide ((y1.1.length : Int) > (0 : Int))) (((cond ((y1.1.length : Int) == (0 : Int)) (some (Sum.inl ((1 : Int), ()))) (cond ((y1.2.1.length : Int) == (0 : Int)) (some (Sum.inl ((-1 : Int), ()))) ((getI y1.1 (0 : Int)).bind fun v2 => ((getI y1.2.1 (0 : Int)).bind fun v3 => ((slices_Compare_s_int_int (v2.1, v3.1, ())).bind fun r4 => (some (Sum.inl r4))))))) : Option ((Int × Unit) ⊕ Empty)).bind (Sum.elim (fun z5 => (((cond (decide (z5.1 ≤ (0 : Int))) ((getI y1.1 (0 : Int)).bind fun v6 => (cond (decide (0 ≤ (1 : Int)) && decide ((1 : Int) ≤ (y1.1.length : Int)) && decide ((y1.1.length : Int) ≤ y1.1.length)) (some (Sum.inl (((y1.1.drop (1 : Int).toNat).take ((y1.1.length : Int).toNat - (1 : Int).toNat)), v6, ()))) none)) (some (Sum.inl (y1.1, (([] : (List Int)), (0 : Int), ()), ())))) : Option (((List ((List Int) × (Int × Unit))) × ((List Int) × Int × Unit) × Unit) ⊕ Empty)).bind (Sum.elim (fun z7 => (((cond (decide (z5.1 ≥ (0 : Int))) ((getI y1.2.1 (0 : Int)).bind fun v8 => ((getI y1.2.1 (0 : Int)).bind fun v9 => (cond (decide (0 ≤ (1 : Int)) && decide ((1 : Int) ≤ (y1.2.1.length : Int)) && decide ((y1.2.1.length : Int) ≤ y1.2.1.length)) (some (Sum.inl (((y1.2.1.drop (1 : Int).toNat).take ((y1.2.1.length : Int).toNat - (1 : Int).toNat)), (v8.1, (IntKind.i64.wrap (z7.2.1.2.1 + v9.2.1)), ()), ()))) none))) (some (Sum.inl (y1.2.1, z7.2.1, ())))) : Option (((List ((List Int) × (Int × Unit))) × ((List Int) × Int × Unit) × Unit) ⊕ Empty)).bind (Sum.elim (fun z10 => ((counts_over (z10.2.1.2.1, ())).bind fun r11 => (cond r11.1 (some (Sum.inr (Sum.inl (([] : (List ((List Int) × (Int × Unit)))), (6 : Int), ())))) (cond (z10.2.1.2.1 != (0 : Int)) ((slices_Clone_s_int_int (z10.2.1.1, ())).bind fun r12 => (cond (true && roomOk (y1.2.2.1.length + ([(r12.1, z10.2.1.2.1, ())]).length) 32 && true && true) (some (Sum.inl (z7.1, z10.1, (y1.2.2.1 ++ [(r12.1, z10.2.1.2.1, ())]), ()))) none)) (some (Sum.inl (z7.1, z10.1, y1.2.2.1, ()))))))) Empty.elim))) Empty.elim))) Empty.elim)) (cond (decide ((y1.2.1.length : Int) > (0 : Int))) (((cond ((y1.1.length : Int) == (0 : Int)) (some (Sum.inl ((1 : Int), ()))) (cond ((y1.2.1.length : Int) == (0 : Int)) (some (Sum.inl ((-1 : Int), ()))) ((getI y1.1 (0 : Int)).bind fun v13 => ((getI y1.2.1 (0 : Int)).bind fun v14 => ((slices_Compare_s_int_int (v13.1, v14.1, ())).bind fun r15 => (some (Sum.inl r15))))))) : Option ((Int × Unit) ⊕ Empty)).bind (Sum.elim (fun z16 => (((cond (decide (z16.1 ≤ (0 : Int))) ((getI y1.1 (0 : Int)).bind fun v17 => (cond (decide (0 ≤ (1 : Int)) && decide ((1 : Int) ≤ (y1.1.length : Int)) && decide ((y1.1.length : Int) ≤ y1.1.length)) (some (Sum.inl (((y1.1.drop (1 : Int).toNat).take ((y1.1.length : Int).toNat - (1 : Int).toNat)), v17, ()))) none)) (some (Sum.inl (y1.1, (([] : (List Int)), (0 : Int), ()), ())))) : Option (((List ((List Int) × (Int × Unit))) × ((List Int) × Int × Unit) × Unit) ⊕ Empty)).bind (Sum.elim (fun z18 => (((cond (decide (z16.1 ≥ (0 : Int))) ((getI y1.2.1 (0 : Int)).bind fun v19 => ((getI y1.2.1 (0 : Int)).bind fun v20 => (cond (decide (0 ≤ (1 : Int)) && decide ((1 : Int) ≤ (y1.2.1.length : Int)) && decide ((y1.2.1.length : Int) ≤ y1.2.1.length)) (some (Sum.inl (((y1.2.1.drop (1 : Int).toNat).take ((y1.2.1.length : Int).toNat - (1 : Int).toNat)), (v19.1, (IntKind.i64.wrap (z18.2.1.2.1 + v20.2.1)), ()), ()))) none))) (some (Sum.inl (y1.2.1, z18.2.1, ())))) : Option (((List ((List Int) × (Int × Unit))) × ((List Int) × Int × Unit) × Unit) ⊕ Empty)).bind (Sum.elim (fun z21 => ((counts_over (z21.2.1.2.1, ())).bind fun r22 => (cond r22.1 (some (Sum.inr (Sum.inl (([] : (List ((List Int) × (Int × Unit)))), (6 : Int), ())))) (cond (z21.2.1.2.1 != (0 : Int)) ((slices_Clone_s_int_int (z21.2.1.1, ())).bind fun r23 => (cond (true && roomOk (y1.2.2.1.length + ([(r23.1, z21.2.1.2.1, ())]).length) 32 && true && true) (some (Sum.inl (z18.1, z21.1, (y1.2.2.1 ++ [(r23.1, z21.2.1.2.1, ())]), ()))) none)) (some (Sum.inl (z18.1, z21.1, y1.2.2.1, ()))))))) Empty.elim))) Empty.elim))) Empty.elim)) (some (Sum.inr (Sum.inr (Sum.inl (y1.2.2.1, ())))))))
noncomputable def counts_merge : ((List ((List Int) × (Int × Unit))) × (List ((List Int) × (Int × Unit))) × Unit) → Option ((List ((List Int) × (Int × Unit))) × Int × Unit) := fun x =>
  ((loopM (counts_merge_l1) (x.1, x.2.1, ([] : (List ((List Int) × (Int × Unit)))), ())).bind (Sum.elim (fun z24 => (some z24)) (Sum.elim (fun z25 => (cond (decide ((z25.1.length : Int) > (64 : Int))) (some (([] : (List ((List Int) × (Int × Unit)))), (1 : Int), ())) (some (z25.1, (0 : Int), ())))) Empty.elim)))
def an33 : Ann := (.seq .leaf (.seq .leaf (.seq (.blk (.loop [0, 1, 4, 5, 6, 7, 8, 9, 10, 11, 12, 13, 14, 15, 16, 17, 18, 19, 20, 21, 22, 23, 24, 25, 26, 27, 28, 29, 30, 31, 32, 33, 34, 35, 36, 37, 38, 39, 40, 41, 42, 43, 44, 45, 46, 47, 48, 49, 50, 51, 52, 53, 54, 55, 56, 57, 58, 59, 60, 61, 62, 63, 64, 65, 66, 67, 68, 69, 70, 71] [8, 25, 59, 66, 70, 71, 520, 1024] [] [] [.tmp 0 (.list (.cons (.list (.int .i64)) (.cons (.int .i64) .nil))), .tmp 1 (.list (.cons (.list (.int .i64)) (.cons (.int .i64) .nil))), .arr 1024 30 (.cons (.list (.int .i64)) (.cons (.int .i64) .nil)) (.t 6), .own 6 1024] [(.ret, [.tmp 4 (.list (.cons (.list (.int .i64)) (.cons (.int .i64) .nil))), .tmp 5 (.int .i64)]), ((.ex 0), [.arr 1024 30 (.cons (.list (.int .i64)) (.cons (.int .i64) .nil)) (.t 6), .own 6 1024])] (.seq (.seq .leaf (.br .leaf .leaf)) (.blk (.seq .leaf (.seq (.join [7, 17, 18, 19, 20, 21, 22, 23, 24, 25, 26, 27, 28, 29, 30, 31, 32, 33] [25] [] [] [(.nrm, [.tmp 7 (.int .i64)])] (.blk (.seq .leaf (.br .leaf (.seq .leaf (.br .leaf .leaf)))))) (.seq .leaf (.seq (.seq .leaf (.join [0, 36, 37, 38, 39, 40] [] [] [8] [(.nrm, [.tmp 0 (.list (.cons (.list (.int .i64)) (.cons (.int .i64) .nil))), .cel 8 [.v (.list (.int .i64)), .v (.int .i64)]])] (.br .leaf .leaf))) (.seq (.seq .leaf (.join [1, 43, 44, 45, 46, 47, 48, 49, 50, 51, 52, 53, 54, 55, 56] [] [] [8] [(.nrm, [.tmp 1 (.list (.cons (.list (.int .i64)) (.cons (.int .i64) .nil))), .cel 8 [.v (.list (.int .i64)), .v (.int .i64)]])] (.br (.seq .leaf .leaf) .leaf))) (.seq (.seq .leaf (.br (.seq .leaf .leaf) .leaf)) (.seq .leaf (.br .leaf .leaf)))))))))))) (.seq (.seq .leaf (.br (.seq .leaf .leaf) .leaf)) (.seq .leaf .leaf)))))
noncomputable def sp33 : Abs.Spec := { args := [(false, (.list (.cons (.list (.int .i64)) (.cons (.int .i64) .nil)))), (false, (.list (.cons (.list (.int .i64)) (.cons (.int .i64) .nil))))], res := [.val false (.list (.cons (.list (.int .i64)) (.cons (.int .i64) .nil))), .val false (.int .i64)], f := counts_merge }
theorem ok33 : FunOK' prog (Abs.look gls) 33 sp33 :=
  evalFn_ok (C := mkCtx tis [(32, sp32), (58, sp58), (59, sp59)] [] [] gls pus []) (mkCtx_ok mixed tis_ok (specs_cons ok32 (specs_cons ok58 (specs_cons ok59 specs_nil))) bodies_nil) mixed func33 (by kernel_rfl) (an := an33) (by kernel_rfl) (fun x => by kernel_rfl)

/-- watershed/counts.Add -/
noncomputable def counts_Add : ((List ((List Int) × (Int × Unit))) × (List Int) × Int × Unit) → Option ((List ((List Int) × (Int × Unit))) × Int × Unit) := fun x =>
  ((counts_Check (x.1, ())).bind fun r1 => (cond (r1.1 != (0 : Int)) (some (([] : (List ((List Int) × (Int × Unit)))), r1.1, ())) ((times_Check (x.2.1, ())).bind fun r2 => (cond (r2.1 != (0 : Int)) (some (([] : (List ((List Int) × (Int × Unit)))), r2.1, ())) ((counts_apart (x.1, [(x.2.1, x.2.2.1, ())], ())).bind fun r3 => (cond r3.1 (some (([] : (List ((List Int) × (Int × Unit)))), (3 : Int), ())) ((counts_over (x.2.2.1, ())).bind fun r4 => (cond r4.1 (some (([] : (List ((List Int) × (Int × Unit)))), (2 : Int), ())) ((counts_merge (x.1, [(x.2.1, x.2.2.1, ())], ())).bind fun r5 => (some r5))))))))))
def an8 : Ann := (.seq .leaf (.seq (.seq .leaf (.seq .leaf (.br (.seq .leaf .leaf) .leaf))) (.seq (.seq .leaf (.seq .leaf (.br (.seq .leaf .leaf) .leaf))) (.seq .leaf (.seq (.seq .leaf (.br (.seq .leaf .leaf) .leaf)) (.seq (.seq .leaf (.br (.seq .leaf .leaf) .leaf)) (.seq .leaf .leaf)))))))
noncomputable def sp8 : Abs.Spec := { args := [(false, (.list (.cons (.list (.int .i64)) (.cons (.int .i64) .nil)))), (false, (.list (.int .i64))), (false, (.int .i64))], res := [.val false (.list (.cons (.list (.int .i64)) (.cons (.int .i64) .nil))), .val false (.int .i64)], f := counts_Add }
theorem ok8 : FunOK' prog (Abs.look gls) 8 sp8 :=
  evalFn_ok (C := mkCtx tis [(10, sp10), (30, sp30), (31, sp31), (32, sp32), (33, sp33)] [] [] gls pus []) (mkCtx_ok mixed tis_ok (specs_cons ok10 (specs_cons ok30 (specs_cons ok31 (specs_cons ok32 (specs_cons ok33 specs_nil))))) bodies_nil) mixed func8 (by kernel_rfl) (an := an8) (by kernel_rfl) (fun x => by kernel_rfl)

/-- watershed/watershedref.CountsTimes -/
noncomputable def ref_CountsTimes_l1 (x : ((List ((List Int) × (Int × Unit))) × Unit)) : ((List (List Int)) × Int × Unit) → Option (((List (List Int)) × Int × Unit) ⊕ (((List (List Int)) × Unit) ⊕ Empty)) := fun y1 =>
  (cond (decide (y1.2.1 < (x.1.length : Int))) ((getI x.1 y1.2.1).bind fun v2 => (cond (true && roomOk (y1.1.length + ([v2.1]).length) 24 && true && true) (some (Sum.inl ((y1.1 ++ [v2.1]), (IntKind.i64.wrap (y1.2.1 + (1 : Int))), ()))) none)) (some (Sum.inr (Sum.inl (y1.1, ())))))
noncomputable def ref_CountsTimes : ((List ((List Int) × (Int × Unit))) × Unit) → Option ((List (List Int)) × Unit) := fun x =>
  ((loopM (ref_CountsTimes_l1 x) (([] : (List (List Int))), (0 : Int), ())).bind (Sum.elim (fun z3 => (some z3)) Empty.elim))
def an34 : Ann := (.seq .leaf (.seq .leaf (.seq (.seq .leaf (.blk (.loop [3, 5, 8, 9, 10, 11, 12, 13, 14, 15, 16, 17] [5, 15, 16, 512, 517, 522, 523, 1024] [] [] [.arr 1024 23 (.list (.int .i64)) (.t 3), .own 3 1024, .tmp 8 (.int .i64)] [((.ex 0), [.arr 1024 23 (.list (.int .i64)) (.t 3), .own 3 1024])] (.seq .leaf (.seq (.br .leaf .leaf) (.seq (.blk (.seq .leaf .leaf)) .leaf)))))) (.seq .leaf .leaf))))
noncomputable def sp34 : Abs.Spec := { args := [(false, (.list (.cons (.list (.int .i64)) (.cons (.int .i64) .nil))))], res := [.own 23 (.list (.int .i64))], f := ref_CountsTimes }
theorem ok34 : FunOK' prog (Abs.look gls) 34 sp34 :=
  evalFn_ok (C := mkCtx tis [] [] [] gls pus []) (mkCtx_ok mixed tis_ok specs_nil bodies_nil) mixed func34 (by kernel_rfl) (an := an34) (by kernel_rfl) (fun x => by kernel_rfl)

/-- watershed/watershedref.TimesCheck -/
noncomputable def ref_TimesCheck_l1 (x : ((List Int) × Unit)) : (Int × Unit) → Option ((Int × Unit) ⊕ ((Int × Unit) ⊕ (Unit) ⊕ Empty)) := fun y1 =>
  (cond (decide (y1.1 < (x.1.length : Int))) ((getI x.1 y1.1).bind fun v2 => (cond (decide (v2 < (0 : Int))) (some (Sum.inr (Sum.inl ((2 : Int), ())))) (cond (decide (v2 > (1048576 : Int))) (some (Sum.inr (Sum.inl ((2 : Int), ())))) (some (Sum.inl ((IntKind.i64.wrap (y1.1 + (1 : Int))), ())))))) (some (Sum.inr (Sum.inr (Sum.inl ())))))
noncomputable def ref_TimesCheck : ((List Int) × Unit) → Option (Int × Unit) := fun x =>
  (cond (decide ((x.1.length : Int) < (1 : Int))) (some ((1 : Int), ())) (cond (decide ((x.1.length : Int) > (4 : Int))) (some ((1 : Int), ())) ((loopM (ref_TimesCheck_l1 x) ((0 : Int), ())).bind (Sum.elim (fun z3 => (some z3)) (Sum.elim (fun z4 => (some ((0 : Int), ()))) Empty.elim)))))
def an11 : Ann := (.seq .leaf (.seq (.seq .leaf (.br (.seq .leaf .leaf) .leaf)) (.seq (.seq .leaf (.blk (.loop [2, 4, 15, 16, 17, 18, 19, 20, 21, 22, 23, 24, 25] [] [] [] [.tmp 15 (.int .i64)] [(.ret, [.tmp 2 (.int .i64)]), ((.ex 0), [])] (.seq .leaf (.seq (.br .leaf .leaf) (.seq (.blk (.seq .leaf (.seq .leaf (.br (.seq .leaf .leaf) .leaf)))) .leaf)))))) (.seq .leaf .leaf))))
noncomputable def sp11 : Abs.Spec := { args := [(false, (.list (.int .i64)))], res := [.val false (.int .i64)], f := ref_TimesCheck }
theorem ok11 : FunOK' prog (Abs.look gls) 11 sp11 :=
  evalFn_ok (C := mkCtx tis [] [] [] gls pus []) (mkCtx_ok mixed tis_ok specs_nil bodies_nil) mixed func11 (by kernel_rfl) (an := an11) (by kernel_rfl) (fun x => by kernel_rfl)

/-- watershed/watershedref.TimesList -/
noncomputable def ref_TimesList_l1 (x : ((List (List Int)) × Unit)) : (Int × Unit) → Option ((Int × Unit) ⊕ ((Int × Unit) ⊕ (Unit) ⊕ Empty)) := fun y1 =>
  (cond (decide (y1.1 < (x.1.length : Int))) ((getI x.1 y1.1).bind fun v2 => ((ref_TimesCheck (v2, ())).bind fun r3 => (cond (r3.1 != (0 : Int)) ((ref_TimesCheck (v2, ())).bind fun r4 => (some (Sum.inr (Sum.inl r4)))) (some (Sum.inl ((IntKind.i64.wrap (y1.1 + (1 : Int))), ())))))) (some (Sum.inr (Sum.inr (Sum.inl ())))))
noncomputable def ref_TimesList_l2 (x : ((List (List Int)) × Unit)) : (Int × Unit) → Option ((Int × Unit) ⊕ ((Int × Unit) ⊕ (Unit) ⊕ Empty)) := fun y7 =>
  (cond (decide (y7.1 < (x.1.length : Int))) ((getI x.1 y7.1).bind fun v8 => ((getI x.1 (0 : Int)).bind fun v9 => (cond ((v8.length : Int) != (v9.length : Int)) (some (Sum.inr (Sum.inl ((3 : Int), ())))) (some (Sum.inl ((IntKind.i64.wrap (y7.1 + (1 : Int))), ())))))) (some (Sum.inr (Sum.inr (Sum.inl ())))))
noncomputable def ref_TimesList : ((List (List Int)) × Unit) → Option (Int × Unit) := fun x =>
  (cond (decide ((x.1.length : Int) > (64 : Int))) (some ((1 : Int), ())) ((loopM (ref_TimesList_l1 x) ((0 : Int), ())).bind (Sum.elim (fun z5 => (some z5)) (Sum.elim (fun z6 => ((loopM (ref_TimesList_l2 x) ((0 : Int), ())).bind (Sum.elim (fun z10 => (some z10)) (Sum.elim (fun z11 => (some ((0 : Int), ()))) Empty.elim)))) Empty.elim))))
def an25 : Ann := (.seq .leaf (.seq (.seq .leaf (.br (.seq .leaf .leaf) .leaf)) (.seq (.seq .leaf (.blk (.loop [2, 4, 12, 13, 14, 15, 16, 17, 18, 19, 20, 21] [17, 20] [] [] [.tmp 12 (.int .i64)] [(.ret, [.tmp 2 (.int .i64)]), ((.ex 0), [])] (.seq .leaf (.seq (.br .leaf .leaf) (.seq (.blk (.seq .leaf (.seq .leaf (.br (.seq .leaf .leaf) .leaf)))) .leaf)))))) (.seq (.seq .leaf (.blk (.loop [2, 6, 24, 25, 26, 27, 28, 29, 30, 31, 32, 33, 34, 35] [] [] [] [.tmp 24 (.int .i64)] [(.ret, [.tmp 2 (.int .i64)]), ((.ex 2), [])] (.seq .leaf (.seq (.br .leaf .leaf) (.seq (.blk (.seq .leaf (.seq .leaf (.br (.seq .leaf .leaf) .leaf)))) .leaf)))))) (.seq .leaf .leaf)))))
noncomputable def sp25 : Abs.Spec := { args := [(false, (.list (.list (.int .i64))))], res := [.val false (.int .i64)], f := ref_TimesList }
theorem ok25 : FunOK' prog (Abs.look gls) 25 sp25 :=
  evalFn_ok (C := mkCtx tis [(11, sp11)] [] [] gls pus []) (mkCtx_ok mixed tis_ok (specs_cons ok11 specs_nil) bodies_nil) mixed func25 (by kernel_rfl) (an := an25) (by kernel_rfl) (fun x => by kernel_rfl)

/-- watershed/watershedref.TimesLess -/
noncomputable def ref_TimesLess_l1 (x : ((List Int) × (List Int) × Unit)) : (Int × Unit) → Option ((Int × Unit) ⊕ ((Bool × Unit) ⊕ (Unit) ⊕ Empty)) := fun y3 =>
  (cond (decide (y3.1 < (x.1.length : Int))) ((getI x.1 y3.1).bind fun v4 => ((getI x.2.1 y3.1).bind fun v5 => (cond (v4 != v5) ((getI x.1 y3.1).bind fun v6 => ((getI x.2.1 y3.1).bind fun v7 => (some (Sum.inr (Sum.inl ((decide (v6 < v7)), ())))))) (some (Sum.inl ((IntKind.i64.wrap (y3.1 + (1 : Int))), ())))))) (some (Sum.inr (Sum.inr (Sum.inl ())))))
noncomputable def ref_TimesLess : ((List Int) × (List Int) × Unit) → Option (Bool × Unit) := fun x =>
  (cond ((x.1.length : Int) != (x.2.1.length : Int)) (some (false, ())) ((ref_TimesCheck (x.1, ())).bind fun r1 => (cond (r1.1 != (0 : Int)) (some (false, ())) ((ref_TimesCheck (x.2.1, ())).bind fun r2 => (cond (r2.1 != (0 : Int)) (some (false, ())) ((loopM (ref_TimesLess_l1 x) ((0 : Int), ())).bind (Sum.elim (fun z8 => (some z8)) (Sum.elim (fun z9 => (some (false, ()))) Empty.elim))))))))
def an35 : Ann := (.seq .leaf (.seq (.seq .leaf (.br (.seq .leaf .leaf) .leaf)) (.seq (.seq .leaf (.blk (.loop [4, 5, 21, 22, 23, 24, 25, 26, 27, 28, 29, 30, 31, 32, 33, 34, 35, 36, 37, 38, 39, 40, 41, 42, 43, 44] [] [] [] [.tmp 5 (.int .i64)] [(.ret, [.tmp 4 .bool]), ((.ex 0), [])] (.seq (.seq .leaf (.br .leaf .leaf)) (.seq (.blk (.seq .leaf (.br (.seq .leaf .leaf) .leaf))) .leaf))))) (.seq .leaf .leaf))))
noncomputable def sp35 : Abs.Spec := { args := [(false, (.list (.int .i64))), (false, (.list (.int .i64)))], res := [.val false .bool], f := ref_TimesLess }
theorem ok35 : FunOK' prog (Abs.look gls) 35 sp35 :=
  evalFn_ok (C := mkCtx tis [(11, sp11)] [] [] gls pus []) (mkCtx_ok mixed tis_ok (specs_cons ok11 specs_nil) bodies_nil) mixed func35 (by kernel_rfl) (an := an35) (by kernel_rfl) (fun x => by kernel_rfl)

/-- watershed/watershedref.CountsOver -/
noncomputable def ref_CountsOver : (Int × Unit) → Option (Bool × Unit) := fun x =>
  (cond (decide (x.1 < (-1099511627776 : Int))) (some (true, ())) (some ((decide (x.1 > (1099511627776 : Int))), ())))
def an12 : Ann := (.seq .leaf (.seq .leaf .leaf))
noncomputable def sp12 : Abs.Spec := { args := [(false, (.int .i64))], res := [.val false .bool], f := ref_CountsOver }
theorem ok12 : FunOK' prog (Abs.look gls) 12 sp12 :=
  evalFn_ok (C := mkCtx tis [] [] [] gls pus []) (mkCtx_ok mixed tis_ok specs_nil bodies_nil) mixed func12 (by kernel_rfl) (an := an12) (by kernel_rfl) (fun x => by kernel_rfl)

/-- watershed/watershedref.CountsCheck -/
noncomputable def ref_CountsCheck_l1 (x : ((List ((List Int) × (Int × Unit))) × Unit)) : (Int × Unit) → Option ((Int × Unit) ⊕ ((Int × Unit) ⊕ (Unit) ⊕ Empty)) := fun y3 =>
  (cond (decide (y3.1 < (x.1.length : Int))) ((getI x.1 (IntKind.i64.wrap (y3.1 - (1 : Int)))).bind fun v4 => ((getI x.1 y3.1).bind fun v5 => ((ref_TimesLess (v4.1, v5.1, ())).bind fun r6 => (cond (!r6.1) (some (Sum.inr (Sum.inl ((3 : Int), ())))) (some (Sum.inl ((IntKind.i64.wrap (y3.1 + (1 : Int))), ()))))))) (some (Sum.inr (Sum.inr (Sum.inl ())))))
noncomputable def ref_CountsCheck_l2 (x : ((List ((List Int) × (Int × Unit))) × Unit)) : (Int × Unit) → Option ((Int × Unit) ⊕ ((Int × Unit) ⊕ (Unit) ⊕ Empty)) := fun y9 =>
  (cond (decide (y9.1 < (x.1.length : Int))) ((getI x.1 y9.1).bind fun v10 => (cond (v10.2.1 == (0 : Int)) (some (Sum.inr (Sum.inl ((2 : Int), ())))) ((ref_CountsOver (v10.2.1, ())).bind fun r11 => (cond r11.1 (some (Sum.inr (Sum.inl ((2 : Int), ())))) (some (Sum.inl ((IntKind.i64.wrap (y9.1 + (1 : Int))), ()))))))) (some (Sum.inr (Sum.inr (Sum.inl ())))))
noncomputable def ref_CountsCheck : ((List ((List Int) × (Int × Unit))) × Unit) → Option (Int × Unit) := fun x =>
  ((ref_CountsTimes x).bind fun r1 => ((ref_TimesList r1).bind fun r2 => (cond (r2.1 != (0 : Int)) (some r2) ((loopM (ref_CountsCheck_l1 x) ((1 : Int), ())).bind (Sum.elim (fun z7 => (some z7)) (Sum.elim (fun z8 => ((loopM (ref_CountsCheck_l2 x) ((0 : Int), ())).bind (Sum.elim (fun z12 => (some z12)) (Sum.elim (fun z13 => (some ((0 : Int), ()))) Empty.elim)))) Empty.elim))))))
def an9 : Ann := (.seq .leaf (.seq .leaf (.seq (.seq .leaf (.br (.seq .leaf .leaf) .leaf)) (.seq (.seq .leaf (.blk (.loop [2, 4, 13, 14, 15, 16, 17, 18, 19, 20, 21, 22, 23, 24, 25, 26, 27, 28, 29, 30, 31] [30] [] [] [.tmp 4 (.int .i64)] [(.ret, [.tmp 2 (.int .i64)]), ((.ex 0), [])] (.seq (.seq .leaf (.br .leaf .leaf)) (.seq (.blk (.seq .leaf (.br (.seq .leaf .leaf) .leaf))) .leaf))))) (.seq (.seq .leaf (.blk (.loop [2, 6, 34, 35, 36, 37, 38, 39, 40, 41, 42, 43, 44, 45, 46] [6, 44, 512, 518, 548, 549] [] [] [.tmp 34 (.int .i64)] [(.ret, [.tmp 2 (.int .i64)]), ((.ex 2), [])] (.seq .leaf (.seq (.br .leaf .leaf) (.seq (.blk (.seq .leaf (.seq .leaf (.br (.seq .leaf .leaf) .leaf)))) .leaf)))))) (.seq .leaf .leaf))))))
noncomputable def sp9 : Abs.Spec := { args := [(false, (.list (.cons (.list (.int .i64)) (.cons (.int .i64) .nil))))], res := [.val false (.int .i64)], f := ref_CountsCheck }
theorem ok9 : FunOK' prog (Abs.look gls) 9 sp9 :=
  evalFn_ok (C := mkCtx tis [(12, sp12), (25, sp25), (34, sp34), (35, sp35)] [] [] gls pus []) (mkCtx_ok mixed tis_ok (specs_cons ok12 (specs_cons ok25 (specs_cons ok34 (specs_cons ok35 specs_nil)))) bodies_nil) mixed func9 (by kernel_rfl) (an := an9) (by kernel_rfl) (fun x => by kernel_rfl)

/-- watershed/watershedref.TimesAll -/
noncomputable def ref_TimesAll_l1 (x : ((List (List Int)) × (List (List Int)) × Unit)) : ((List (List Int)) × Int × Unit) → Option (((List (List Int)) × Int × Unit) ⊕ (((List (List Int)) × Unit) ⊕ Empty)) := fun y1 =>
  (cond (decide (y1.2.1 < (x.1.length : Int))) ((getI x.1 y1.2.1).bind fun v2 => (cond (true && roomOk (y1.1.length + ([v2]).length) 24 && true && true) (some (Sum.inl ((y1.1 ++ [v2]), (IntKind.i64.wrap (y1.2.1 + (1 : Int))), ()))) none)) (some (Sum.inr (Sum.inl (y1.1, ())))))
noncomputable def ref_TimesAll_l2 (x : ((List (List Int)) × (List (List Int)) × Unit)) : ((List (List Int)) × Int × Unit) → Option (((List (List Int)) × Int × Unit) ⊕ (((List (List Int)) × Unit) ⊕ Empty)) := fun y4 =>
  (cond (decide (y4.2.1 < (x.2.1.length : Int))) ((getI x.2.1 y4.2.1).bind fun v5 => (cond (true && roomOk (y4.1.length + ([v5]).length) 24 && true && true) (some (Sum.inl ((y4.1 ++ [v5]), (IntKind.i64.wrap (y4.2.1 + (1 : Int))), ()))) none)) (some (Sum.inr (Sum.inl (y4.1, ())))))
noncomputable def ref_TimesAll : ((List (List Int)) × (List (List Int)) × Unit) → Option ((List (List Int)) × Unit) := fun x =>
  ((loopM (ref_TimesAll_l1 x) (([] : (List (List Int))), (0 : Int), ())).bind (Sum.elim (fun z3 => ((loopM (ref_TimesAll_l2 x) (z3.1, (0 : Int), ())).bind (Sum.elim (fun z6 => (some z6)) Empty.elim))) Empty.elim))
def an42 : Ann := (.seq .leaf (.seq .leaf (.seq (.seq .leaf (.blk (.loop [5, 7, 12, 13, 14, 15, 16, 17, 18, 19, 20] [18, 19, 1024] [] [] [.arr 1024 23 (.list (.int .i64)) (.t 5), .own 5 1024, .tmp 12 (.int .i64)] [((.ex 0), [.arr 1024 23 (.list (.int .i64)) (.t 5), .own 5 1024])] (.seq .leaf (.seq (.br .leaf .leaf) (.seq (.blk (.seq .leaf .leaf)) .leaf)))))) (.seq (.seq .leaf (.blk (.loop [5, 9, 23, 24, 25, 26, 27, 28, 29, 30, 31] [29, 30, 1025] [1024] [] [.arr 1025 23 (.list (.int .i64)) (.t 5), .own 5 1025, .tmp 23 (.int .i64)] [((.ex 2), [.arr 1025 23 (.list (.int .i64)) (.t 5), .own 5 1025])] (.seq .leaf (.seq (.br .leaf .leaf) (.seq (.blk (.seq .leaf .leaf)) .leaf)))))) (.seq .leaf .leaf)))))
noncomputable def sp42 : Abs.Spec := { args := [(false, (.list (.list (.int .i64)))), (false, (.list (.list (.int .i64))))], res := [.own 23 (.list (.int .i64))], f := ref_TimesAll }
theorem ok42 : FunOK' prog (Abs.look gls) 42 sp42 :=
  evalFn_ok (C := mkCtx tis [] [] [] gls pus []) (mkCtx_ok mixed tis_ok specs_nil bodies_nil) mixed func42 (by kernel_rfl) (an := an42) (by kernel_rfl) (fun x => by kernel_rfl)

/-- watershed/watershedref.TimesSame -/
noncomputable def ref_TimesSame_l1 (x : ((List Int) × (List Int) × Unit)) : (Int × Unit) → Option ((Int × Unit) ⊕ ((Bool × Unit) ⊕ (Unit) ⊕ Empty)) := fun y1 =>
  (cond (decide (y1.1 < (x.1.length : Int))) ((getI x.1 y1.1).bind fun v2 => ((getI x.2.1 y1.1).bind fun v3 => (cond (v2 != v3) (some (Sum.inr (Sum.inl (false, ())))) (some (Sum.inl ((IntKind.i64.wrap (y1.1 + (1 : Int))), ())))))) (some (Sum.inr (Sum.inr (Sum.inl ())))))
noncomputable def ref_TimesSame : ((List Int) × (List Int) × Unit) → Option (Bool × Unit) := fun x =>
  (cond ((x.1.length : Int) != (x.2.1.length : Int)) (some (false, ())) ((loopM (ref_TimesSame_l1 x) ((0 : Int), ())).bind (Sum.elim (fun z4 => (some z4)) (Sum.elim (fun z5 => (some (true, ()))) Empty.elim))))
def an44 : Ann := (.seq .leaf (.seq (.seq .leaf (.br (.seq .leaf .leaf) .leaf)) (.seq (.seq .leaf (.blk (.loop [4, 5, 11, 12, 13, 14, 15, 16, 17, 18, 19, 20, 21, 22, 23, 24, 25] [] [] [] [.tmp 5 (.int .i64)] [(.ret, [.tmp 4 .bool]), ((.ex 0), [])] (.seq (.seq .leaf (.br .leaf .leaf)) (.seq (.blk (.seq .leaf (.br (.seq .leaf .leaf) .leaf))) .leaf))))) (.seq .leaf .leaf))))
noncomputable def sp44 : Abs.Spec := { args := [(false, (.list (.int .i64))), (false, (.list (.int .i64)))], res := [.val false .bool], f := ref_TimesSame }
theorem ok44 : FunOK' prog (Abs.look gls) 44 sp44 :=
  evalFn_ok (C := mkCtx tis [] [] [] gls pus []) (mkCtx_ok mixed tis_ok specs_nil bodies_nil) mixed func44 (by kernel_rfl) (an := an44) (by kernel_rfl) (fun x => by kernel_rfl)

/-- watershed/watershedref.TimesSorted -/
noncomputable def ref_TimesSorted_l1 (y1 : ((List (List Int)) × Int × Unit)) (v2 : (List Int)) : (Int × Unit) → Option ((Int × Unit) ⊕ ((Int × Unit) ⊕ Empty)) := fun y3 =>
  (cond (decide (y3.1 < (y1.1.length : Int))) ((getI y1.1 y3.1).bind fun v4 => ((ref_TimesLess (v4, v2, ())).bind fun r5 => (cond r5.1 (some (Sum.inl ((IntKind.i64.wrap (y3.1 + (1 : Int))), ()))) (some (Sum.inr (Sum.inl y3)))))) (some (Sum.inr (Sum.inl y3))))
noncomputable def ref_TimesSorted_l2 (z6 : (Int × Unit)) (y1 : ((List (List Int)) × Int × Unit)) : ((List (List Int)) × Int × Unit) → Option (((List (List Int)) × Int × Unit) ⊕ (((List (List Int)) × Unit) ⊕ Empty)) := fun y9 =>
  (cond (decide (y9.2.1 < z6.1)) ((getI y1.1 y9.2.1).bind fun v10 => (cond (true && roomOk (y9.1.length + ([v10]).length) 24 && true && true) (some (Sum.inl ((y9.1 ++ [v10]), (IntKind.i64.wrap (y9.2.1 + (1 : Int))), ()))) none)) (some (Sum.inr (Sum.inl (y9.1, ())))))
noncomputable def ref_TimesSorted_l3 (y1 : ((List (List Int)) × Int × Unit)) : ((List (List Int)) × Int × Unit) → Option (((List (List Int)) × Int × Unit) ⊕ (((List (List Int)) × Unit) ⊕ Empty)) := fun y12 =>
  (cond (decide (y12.2.1 < (y1.1.length : Int))) ((getI y1.1 y12.2.1).bind fun v13 => (cond (true && roomOk (y12.1.length + ([v13]).length) 24 && true && true) (some (Sum.inl ((y12.1 ++ [v13]), (IntKind.i64.wrap (y12.2.1 + (1 : Int))), ()))) none)) (some (Sum.inr (Sum.inl (y12.1, ())))))
noncomputable def ref_TimesSorted_l4 (z6 : (Int × Unit)) (y1 : ((List (List Int)) × Int × Unit)) : ((List (List Int)) × Int × Unit) → Option (((List (List Int)) × Int × Unit) ⊕ (((List (List Int)) × Unit) ⊕ Empty)) := fun y15 =>
  (cond (decide (y15.2.1 < z6.1)) ((getI y1.1 y15.2.1).bind fun v16 => (cond (true && roomOk (y15.1.length + ([v16]).length) 24 && true && true) (some (Sum.inl ((y15.1 ++ [v16]), (IntKind.i64.wrap (y15.2.1 + (1 : Int))), ()))) none)) (some (Sum.inr (Sum.inl (y15.1, ())))))
noncomputable def ref_TimesSorted_l5 (y1 : ((List (List Int)) × Int × Unit)) : ((List (List Int)) × Int × Unit) → Option (((List (List Int)) × Int × Unit) ⊕ (((List (List Int)) × Unit) ⊕ Empty)) := fun y18 =>
  (cond (decide (y18.2.1 < (y1.1.length : Int))) ((getI y1.1 y18.2.1).bind fun v19 => (cond (true && roomOk (y18.1.length + ([v19]).length) 24 && true && true) (some (Sum.inl ((y18.1 ++ [v19]), (IntKind.i64.wrap (y18.2.1 + (1 : Int))), ()))) none)) (some (Sum.inr (Sum.inl (y18.1, ())))))
noncomputable def ref_TimesSorted_l6 (x : ((List (List Int)) × Unit)) : ((List (List Int)) × Int × Unit) → Option (((List (List Int)) × Int × Unit) ⊕ (((List (List Int)) × Unit) ⊕ Empty)) := fun y1 =>
  (cond (decide (y1.2.1 < (x.1.length : Int))) ((getI x.1 y1.2.1).bind fun v2 => ((loopM (ref_TimesSorted_l1 y1 v2) ((0 : Int), ())).bind (Sum.elim (fun z6 => (cond (decide (z6.1 < (y1.1.length : Int))) ((getI y1.1 z6.1).bind fun v7 => ((ref_TimesSame (v7, v2, ())).bind fun r8 => (cond r8.1 (some (Sum.inl (y1.1, (IntKind.i64.wrap (y1.2.1 + (1 : Int))), ()))) ((loopM (ref_TimesSorted_l2 z6 y1) (([] : (List (List Int))), (0 : Int), ())).bind (Sum.elim (fun z11 => (cond (true && roomOk (z11.1.length + ([v2]).length) 24 && true && true) ((loopM (ref_TimesSorted_l3 y1) ((z11.1 ++ [v2]), z6.1, ())).bind (Sum.elim (fun z14 => (some (Sum.inl (z14.1, (IntKind.i64.wrap (y1.2.1 + (1 : Int))), ())))) Empty.elim)) none)) Empty.elim))))) ((loopM (ref_TimesSorted_l4 z6 y1) (([] : (List (List Int))), (0 : Int), ())).bind (Sum.elim (fun z17 => (cond (true && roomOk (z17.1.length + ([v2]).length) 24 && true && true) ((loopM (ref_TimesSorted_l5 y1) ((z17.1 ++ [v2]), z6.1, ())).bind (Sum.elim (fun z20 => (some (Sum.inl (z20.1, (IntKind.i64.wrap (y1.2.1 + (1 : Int))), ())))) Empty.elim)) none)) Empty.elim)))) Empty.elim))) (some (Sum.inr (Sum.inl (y1.1, ())))))
noncomputable def ref_TimesSorted : ((List (List Int)) × Unit) → Option ((List (List Int)) × Unit) := fun x =>
  ((loopM (ref_TimesSorted_l6 x) (([] : (List (List Int))), (0 : Int), ())).bind (Sum.elim (fun z21 => (some z21)) Empty.elim))
def an41 : Ann := (.seq .leaf (.seq .leaf (.seq (.seq .leaf (.blk (.loop [3, 5, 6, 7, 8, 9, 12, 13, 14, 15, 16, 17, 18, 19, 20, 21, 22, 23, 24, 25, 26, 27, 28, 29, 30, 31, 32, 33, 34, 35, 36, 37, 38, 39, 40, 41, 42, 43, 44, 45, 46, 47, 48, 49, 50, 51, 52, 53, 54, 55, 56, 57, 58, 59, 60, 61, 62, 63, 64, 65, 66, 67, 68, 69, 70, 71, 72, 73] [26, 40, 52, 53, 56, 57, 70, 71, 1024, 1025] [] [] [.tmp 3 (.list (.list (.int .i64))), .tmp 12 (.int .i64)] [((.ex 0), [.tmp 3 (.list (.list (.int .i64)))])] (.seq .leaf (.seq (.br .leaf .leaf) (.seq (.blk (.seq .leaf (.seq .leaf (.seq (.blk (.loop [6, 16, 17, 18, 19, 20, 21, 22, 23, 24, 25, 26, 27, 28, 29] [26] [] [] [.tmp 6 (.int .i64)] [((.ex 2), [.tmp 6 (.int .i64)])] (.seq (.seq .leaf (.br .leaf .leaf)) (.blk .leaf)))) (.seq (.seq .leaf (.br .leaf .leaf)) (.seq .leaf (.seq (.seq .leaf (.blk (.loop [7, 8, 42, 43, 44, 45, 46, 47, 48, 49, 50, 51, 52, 53] [52, 53, 1024] [] [] [.arr 1024 23 (.list (.int .i64)) (.t 7), .own 7 1024, .tmp 8 (.int .i64)] [((.ex 4), [.arr 1024 23 (.list (.int .i64)) (.t 7), .own 7 1024])] (.seq (.seq .leaf (.br .leaf .leaf)) (.seq (.blk .leaf) .leaf))))) (.seq .leaf (.seq (.seq .leaf (.blk (.loop [7, 9, 59, 60, 61, 62, 63, 64, 65, 66, 67, 68, 69, 70, 71] [70, 71, 1025] [57] [] [.arr 1025 23 (.list (.int .i64)) (.t 7), .own 7 1025, .tmp 9 (.int .i64)] [((.ex 6), [.arr 1025 23 (.list (.int .i64)) (.t 7), .own 7 1025])] (.seq (.seq .leaf (.br .leaf .leaf)) (.seq (.blk .leaf) .leaf))))) .leaf))))))))) .leaf)))))) (.seq .leaf .leaf))))
noncomputable def sp41 : Abs.Spec := { args := [(false, (.list (.list (.int .i64))))], res := [.val false (.list (.list (.int .i64)))], f := ref_TimesSorted }
theorem ok41 : FunOK' prog (Abs.look gls) 41 sp41 :=
  evalFn_ok (C := mkCtx tis [(35, sp35), (44, sp44)] [] [] gls pus []) (mkCtx_ok mixed tis_ok (specs_cons ok35 (specs_cons ok44 specs_nil)) bodies_nil) mixed func41 (by kernel_rfl) (an := an41) (by kernel_rfl) (fun x => by kernel_rfl)

/-- watershed/watershedref.CountsOf -/
noncomputable def ref_CountsOf_l1 (x : ((List ((List Int) × (Int × Unit))) × (List Int) × Unit)) : (Int × Int × Unit) → Option ((Int × Int × Unit) ⊕ ((Int × Unit) ⊕ Empty)) := fun y1 =>
  (cond (decide (y1.2.1 < (x.1.length : Int))) ((getI x.1 y1.2.1).bind fun v2 => ((ref_TimesSame (v2.1, x.2.1, ())).bind fun r3 => (cond r3.1 (some (Sum.inl ((IntKind.i64.wrap (y1.1 + v2.2.1)), (IntKind.i64.wrap (y1.2.1 + (1 : Int))), ()))) (some (Sum.inl (y1.1, (IntKind.i64.wrap (y1.2.1 + (1 : Int))), ())))))) (some (Sum.inr (Sum.inl (y1.1, ())))))
noncomputable def ref_CountsOf : ((List ((List Int) × (Int × Unit))) × (List Int) × Unit) → Option (Int × Unit) := fun x =>
  ((loopM (ref_CountsOf_l1 x) ((0 : Int), (0 : Int), ())).bind (Sum.elim (fun z4 => (some z4)) Empty.elim))
def an43 : Ann := (.seq .leaf (.seq .leaf (.seq (.seq .leaf (.blk (.loop [5, 7, 10, 11, 12, 13, 14, 15, 16, 17, 18, 19, 20, 21, 22] [7, 17, 512, 519, 524, 525] [] [] [.tmp 5 (.int .i64), .tmp 10 (.int .i64)] [((.ex 0), [.tmp 5 (.int .i64)])] (.seq .leaf (.seq (.br .leaf .leaf) (.seq (.blk (.seq .leaf (.seq .leaf (.br .leaf .leaf)))) .leaf)))))) (.seq .leaf .leaf))))
noncomputable def sp43 : Abs.Spec := { args := [(false, (.list (.cons (.list (.int .i64)) (.cons (.int .i64) .nil)))), (false, (.list (.int .i64)))], res := [.val false (.int .i64)], f := ref_CountsOf }
theorem ok43 : FunOK' prog (Abs.look gls) 43 sp43 :=
  evalFn_ok (C := mkCtx tis [(44, sp44)] [] [] gls pus []) (mkCtx_ok mixed tis_ok (specs_cons ok44 specs_nil) bodies_nil) mixed func43 (by kernel_rfl) (an := an43) (by kernel_rfl) (fun x => by kernel_rfl)

/-- watershed/watershedref.CountsBoth -/
noncomputable def ref_CountsBoth_l1 (x : ((List ((List Int) × (Int × Unit))) × (List ((List Int) × (Int × Unit))) × Unit)) (r4 : ((List (List Int)) × Unit)) : ((List ((List Int) × (Int × Unit))) × Int × Unit) → Option (((List ((List Int) × (Int × Unit))) × Int × Unit) ⊕ (((List ((List Int) × (Int × Unit))) × Int × Unit) ⊕ ((List ((List Int) × (Int × Unit))) × Unit) ⊕ Empty)) := fun y5 =>
  (cond (decide (y5.2.1 < (r4.1.length : Int))) ((getI r4.1 y5.2.1).bind fun v6 => ((ref_CountsOf (x.1, v6, ())).bind fun r7 => ((ref_CountsOf (x.2.1, v6, ())).bind fun r8 => ((ref_CountsOver ((IntKind.i64.wrap (r7.1 + r8.1)), ())).bind fun r9 => (cond r9.1 (some (Sum.inr (Sum.inl (([] : (List ((List Int) × (Int × Unit)))), (6 : Int), ())))) (cond ((IntKind.i64.wrap (r7.1 + r8.1)) != (0 : Int)) (cond (true && roomOk (y5.1.length + ([(v6, (IntKind.i64.wrap (r7.1 + r8.1)), ())]).length) 32 && true && true) (some (Sum.inl ((y5.1 ++ [(v6, (IntKind.i64.wrap (r7.1 + r8.1)), ())]), (IntKind.i64.wrap (y5.2.1 + (1 : Int))), ()))) none) (some (Sum.inl (y5.1, (IntKind.i64.wrap (y5.2.1 + (1 : Int))), ()))))))))) (some (Sum.inr (Sum.inr (Sum.inl (y5.1, ()))))))
noncomputable def ref_CountsBoth : ((List ((List Int) × (Int × Unit))) × (List ((List Int) × (Int × Unit))) × Unit) → Option ((List ((List Int) × (Int × Unit))) × Int × Unit) := fun x =>
  ((ref_CountsTimes (x.1, ())).bind fun r1 => ((ref_CountsTimes (x.2.1, ())).bind fun r2 => ((ref_TimesAll (r1.1, r2.1, ())).bind fun r3 => ((ref_TimesSorted r3).bind fun r4 => ((loopM (ref_CountsBoth_l1 x r4) (([] : (List ((List Int) × (Int × Unit)))), (0 : Int), ())).bind (Sum.elim (fun z10 => (some z10)) (Sum.elim (fun z11 => (cond (decide ((z11.1.length : Int) > (64 : Int))) (some (([] : (List ((List Int) × (Int × Unit)))), (1 : Int), ())) (some (z11.1, (0 : Int), ())))) Empty.elim)))))))
def an13 : Ann := (.seq .leaf (.seq .leaf (.seq (.seq .leaf (.blk (.loop [4, 5, 6, 8, 9, 17, 18, 19, 20, 21, 22, 23, 24, 25, 26, 27, 28, 29, 30, 31, 32, 33, 34, 35, 36, 37, 38] [23, 26, 29, 36, 37, 1024] [] [] [.arr 1024 30 (.cons (.list (.int .i64)) (.cons (.int .i64) .nil)) (.t 6), .own 6 1024, .tmp 17 (.int .i64)] [(.ret, [.tmp 4 (.list (.cons (.list (.int .i64)) (.cons (.int .i64) .nil))), .tmp 5 (.int .i64)]), ((.ex 0), [.arr 1024 30 (.cons (.list (.int .i64)) (.cons (.int .i64) .nil)) (.t 6), .own 6 1024])] (.seq .leaf (.seq (.br .leaf .leaf) (.seq (.blk (.seq .leaf (.seq .leaf (.seq (.seq .leaf (.br (.seq .leaf .leaf) .leaf)) (.seq .leaf (.br .leaf .leaf)))))) .leaf)))))) (.seq (.seq .leaf (.br (.seq .leaf .leaf) .leaf)) (.seq .leaf .leaf)))))
noncomputable def sp13 : Abs.Spec := { args := [(false, (.list (.cons (.list (.int .i64)) (.cons (.int .i64) .nil)))), (false, (.list (.cons (.list (.int .i64)) (.cons (.int .i64) .nil))))], res := [.val false (.list (.cons (.list (.int .i64)) (.cons (.int .i64) .nil))), .val false (.int .i64)], f := ref_CountsBoth }
theorem ok13 : FunOK' prog (Abs.look gls) 13 sp13 :=
  evalFn_ok (C := mkCtx tis [(12, sp12), (34, sp34), (41, sp41), (42, sp42), (43, sp43)] [] [] gls pus []) (mkCtx_ok mixed tis_ok (specs_cons ok12 (specs_cons ok34 (specs_cons ok41 (specs_cons ok42 (specs_cons ok43 specs_nil))))) bodies_nil) mixed func13 (by kernel_rfl) (an := an13) (by kernel_rfl) (fun x => by kernel_rfl)

/-- watershed/watershedref.Counts -/
noncomputable def ref_Counts_l1 (x : ((List ((List Int) × (Int × Unit))) × (List ((List Int) × (Int × Unit))) × Unit)) : (Int × Unit) → Option ((Int × Unit) ⊕ ((Bool × Unit) ⊕ (Unit) ⊕ Empty)) := fun y1 =>
  (cond (decide (y1.1 < (x.1.length : Int))) ((getI x.1 y1.1).bind fun v2 => ((getI x.2.1 y1.1).bind fun v3 => (cond (v2.2.1 != v3.2.1) (some (Sum.inr (Sum.inl (false, ())))) ((getI x.1 y1.1).bind fun v4 => ((getI x.2.1 y1.1).bind fun v5 => ((ref_TimesSame (v4.1, v5.1, ())).bind fun r6 => (cond (!r6.1) (some (Sum.inr (Sum.inl (false, ())))) (some (Sum.inl ((IntKind.i64.wrap (y1.1 + (1 : Int))), ())))))))))) (some (Sum.inr (Sum.inr (Sum.inl ())))))
noncomputable def ref_Counts : ((List ((List Int) × (Int × Unit))) × (List ((List Int) × (Int × Unit))) × Unit) → Option (Bool × Unit) := fun x =>
  (cond ((x.1.length : Int) != (x.2.1.length : Int)) (some (false, ())) ((loopM (ref_Counts_l1 x) ((0 : Int), ())).bind (Sum.elim (fun z7 => (some z7)) (Sum.elim (fun z8 => (some (true, ()))) Empty.elim))))
def an14 : Ann := (.seq .leaf (.seq (.seq .leaf (.br (.seq .leaf .leaf) .leaf)) (.seq (.seq .leaf (.blk (.loop [4, 5, 11, 12, 13, 14, 15, 16, 17, 18, 19, 20, 21, 22, 23, 24, 25, 26, 27, 28, 29, 30, 31, 32, 33, 34, 35, 36, 37, 38, 39, 40, 41] [39] [] [] [.tmp 5 (.int .i64)] [(.ret, [.tmp 4 .bool]), ((.ex 0), [])] (.seq (.seq .leaf (.br .leaf .leaf)) (.seq (.blk (.seq .leaf (.br (.seq .leaf .leaf) .leaf))) .leaf))))) (.seq .leaf .leaf))))
noncomputable def sp14 : Abs.Spec := { args := [(false, (.list (.cons (.list (.int .i64)) (.cons (.int .i64) .nil)))), (false, (.list (.cons (.list (.int .i64)) (.cons (.int .i64) .nil))))], res := [.val false .bool], f := ref_Counts }
theorem ok14 : FunOK' prog (Abs.look gls) 14 sp14 :=
  evalFn_ok (C := mkCtx tis [(44, sp44)] [] [] gls pus []) (mkCtx_ok mixed tis_ok (specs_cons ok44 specs_nil) bodies_nil) mixed func14 (by kernel_rfl) (an := an14) (by kernel_rfl) (fun x => by kernel_rfl)

/-- watershed/watershedlaw.CountsAdds -/
noncomputable def law_CountsAdds : ((List ((List Int) × (Int × Unit))) × (List Int) × Int × Unit) → Option (Bool × Unit) := fun x =>
  ((counts_Add x).bind fun r1 => ((ref_CountsCheck (x.1, ())).bind fun r2 => ((counts_Check (x.1, ())).bind fun r3 => (cond (r3.1 != r2.1) (some (false, ())) (((cond (r2.1 == (0 : Int)) ((ref_TimesCheck (x.2.1, ())).bind fun r4 => (some (Sum.inl r4))) (some (Sum.inl r2))) : Option ((Int × Unit) ⊕ Empty)).bind (Sum.elim (fun z5 => (cond (z5.1 == (0 : Int)) (cond (decide ((x.1.length : Int) > (0 : Int))) ((getI x.1 (0 : Int)).bind fun v6 => (((cond ((v6.1.length : Int) != (x.2.1.length : Int)) (some (Sum.inl ((3 : Int), ()))) (some (Sum.inl z5))) : Option ((Int × Unit) ⊕ Empty)).bind (Sum.elim (fun z7 => (cond (z7.1 == (0 : Int)) ((ref_CountsOver (x.2.2.1, ())).bind fun r8 => (((cond r8.1 (some (Sum.inl ((2 : Int), ()))) (some (Sum.inl z7))) : Option ((Int × Unit) ⊕ Empty)).bind (Sum.elim (fun z9 => (cond (z9.1 != (0 : Int)) (cond (r1.2.1 == z9.1) (some (((r1.1.length : Int) == (0 : Int)), ())) (some (false, ()))) ((ref_CountsBoth (x.1, [(x.2.1, x.2.2.1, ())], ())).bind fun r10 => (cond (r1.2.1 == r10.2.1) ((ref_Counts (r1.1, r10.1, ())).bind fun r11 => (some r11)) (some (false, ())))))) Empty.elim))) (((some (Sum.inl z7)) : Option ((Int × Unit) ⊕ Empty)).bind (Sum.elim (fun z12 => (cond (z12.1 != (0 : Int)) (cond (r1.2.1 == z12.1) (some (((r1.1.length : Int) == (0 : Int)), ())) (some (false, ()))) ((ref_CountsBoth (x.1, [(x.2.1, x.2.2.1, ())], ())).bind fun r13 => (cond (r1.2.1 == r13.2.1) ((ref_Counts (r1.1, r13.1, ())).bind fun r14 => (some r14)) (some (false, ())))))) Empty.elim)))) Empty.elim))) (((some (Sum.inl z5)) : Option ((Int × Unit) ⊕ Empty)).bind (Sum.elim (fun z15 => (cond (z15.1 == (0 : Int)) ((ref_CountsOver (x.2.2.1, ())).bind fun r16 => (((cond r16.1 (some (Sum.inl ((2 : Int), ()))) (some (Sum.inl z15))) : Option ((Int × Unit) ⊕ Empty)).bind (Sum.elim (fun z17 => (cond (z17.1 != (0 : Int)) (cond (r1.2.1 == z17.1) (some (((r1.1.length : Int) == (0 : Int)), ())) (some (false, ()))) ((ref_CountsBoth (x.1, [(x.2.1, x.2.2.1, ())], ())).bind fun r18 => (cond (r1.2.1 == r18.2.1) ((ref_Counts (r1.1, r18.1, ())).bind fun r19 => (some r19)) (some (false, ())))))) Empty.elim))) (((some (Sum.inl z15)) : Option ((Int × Unit) ⊕ Empty)).bind (Sum.elim (fun z20 => (cond (z20.1 != (0 : Int)) (cond (r1.2.1 == z20.1) (some (((r1.1.length : Int) == (0 : Int)), ())) (some (false, ()))) ((ref_CountsBoth (x.1, [(x.2.1, x.2.2.1, ())], ())).bind fun r21 => (cond (r1.2.1 == r21.2.1) ((ref_Counts (r1.1, r21.1, ())).bind fun r22 => (some r22)) (some (false, ())))))) Empty.elim)))) Empty.elim))) (((some (Sum.inl z5)) : Option ((Int × Unit) ⊕ Empty)).bind (Sum.elim (fun z23 => (cond (z23.1 == (0 : Int)) ((ref_CountsOver (x.2.2.1, ())).bind fun r24 => (((cond r24.1 (some (Sum.inl ((2 : Int), ()))) (some (Sum.inl z23))) : Option ((Int × Unit) ⊕ Empty)).bind (Sum.elim (fun z25 => (cond (z25.1 != (0 : Int)) (cond (r1.2.1 == z25.1) (some (((r1.1.length : Int) == (0 : Int)), ())) (some (false, ()))) ((ref_CountsBoth (x.1, [(x.2.1, x.2.2.1, ())], ())).bind fun r26 => (cond (r1.2.1 == r26.2.1) ((ref_Counts (r1.1, r26.1, ())).bind fun r27 => (some r27)) (some (false, ())))))) Empty.elim))) (((some (Sum.inl z23)) : Option ((Int × Unit) ⊕ Empty)).bind (Sum.elim (fun z28 => (cond (z28.1 != (0 : Int)) (cond (r1.2.1 == z28.1) (some (((r1.1.length : Int) == (0 : Int)), ())) (some (false, ()))) ((ref_CountsBoth (x.1, [(x.2.1, x.2.2.1, ())], ())).bind fun r29 => (cond (r1.2.1 == r29.2.1) ((ref_Counts (r1.1, r29.1, ())).bind fun r30 => (some r30)) (some (false, ())))))) Empty.elim)))) Empty.elim)))) Empty.elim))))))
def an3 : Ann := (.seq .leaf (.seq .leaf (.seq .leaf (.seq (.seq .leaf (.br (.seq .leaf .leaf) .leaf)) (.seq (.seq .leaf (.join [9, 27, 28] [28] [] [] [(.nrm, [.tmp 9 (.int .i64)])] (.br .leaf .leaf))) (.seq (.seq .leaf (.join [9] [] [] [] [(.nrm, [.tmp 9 (.int .i64)])] (.br .leaf .leaf))) (.seq (.seq .leaf (.join [9] [] [] [] [(.nrm, [.tmp 9 (.int .i64)])] (.br .leaf .leaf))) (.seq (.seq .leaf (.br (.seq .leaf .leaf) .leaf)) (.seq .leaf (.seq .leaf .leaf))))))))))
noncomputable def sp3 : Abs.Spec := { args := [(false, (.list (.cons (.list (.int .i64)) (.cons (.int .i64) .nil)))), (false, (.list (.int .i64))), (false, (.int .i64))], res := [.val false .bool], f := law_CountsAdds }
theorem ok3 : FunOK' prog (Abs.look gls) 3 sp3 :=
  evalFn_ok (C := mkCtx tis [(8, sp8), (9, sp9), (10, sp10), (11, sp11), (12, sp12), (13, sp13), (14, sp14)] [] [] gls pus []) (mkCtx_ok mixed tis_ok (specs_cons ok8 (specs_cons ok9 (specs_cons ok10 (specs_cons ok11 (specs_cons ok12 (specs_cons ok13 (specs_cons ok14 specs_nil))))))) bodies_nil) mixed func3 (by kernel_rfl) (an := an3) (by kernel_rfl) (fun x => by kernel_rfl)

/-- watershed/counts.pair -/
noncomputable def counts_pair_l1 (x : ((List ((List Int) × (Int × Unit))) × (List ((List Int) × (Int × Unit))) × Unit)) : (Int × Unit) → Option ((Int × Unit) ⊕ ((Int × Unit) ⊕ (Unit) ⊕ Empty)) := fun y1 =>
  (cond (decide (y1.1 < (2 : Int))) ((getI [x.1, x.2.1] y1.1).bind fun v2 => ((counts_Check (v2, ())).bind fun r3 => (cond (r3.1 != (0 : Int)) (some (Sum.inr (Sum.inl r3))) (some (Sum.inl ((IntKind.i64.wrap (y1.1 + (1 : Int))), ())))))) (some (Sum.inr (Sum.inr (Sum.inl ())))))
noncomputable def counts_pair : ((List ((List Int) × (Int × Unit))) × (List ((List Int) × (Int × Unit))) × Unit) → Option (Int × Unit) := fun x =>
  ((loopM (counts_pair_l1 x) ((0 : Int), ())).bind (Sum.elim (fun z4 => (some z4)) (Sum.elim (fun z5 => ((counts_apart x).bind fun r6 => (cond r6.1 (some ((3 : Int), ())) (some ((0 : Int), ()))))) Empty.elim)))
def an45 : Ann := (.seq .leaf (.seq (.seq .leaf (.blk (.loop [4, 6, 7, 11, 12, 13, 14, 15, 16, 17, 18, 19] [15] [] [] [.tmp 11 (.int .i64)] [(.ret, [.tmp 4 (.int .i64)]), ((.ex 0), [])] (.seq .leaf (.seq (.br .leaf .leaf) (.seq (.blk (.seq .leaf (.seq .leaf (.seq .leaf (.br (.seq .leaf .leaf) .leaf))))) .leaf)))))) (.seq (.seq .leaf (.br (.seq .leaf .leaf) .leaf)) (.seq .leaf .leaf))))
noncomputable def sp45 : Abs.Spec := { args := [(false, (.list (.cons (.list (.int .i64)) (.cons (.int .i64) .nil)))), (false, (.list (.cons (.list (.int .i64)) (.cons (.int .i64) .nil))))], res := [.val false (.int .i64)], f := counts_pair }
theorem ok45 : FunOK' prog (Abs.look gls) 45 sp45 :=
  evalFn_ok (C := mkCtx tis [(10, sp10), (31, sp31)] [] [] gls pus []) (mkCtx_ok mixed tis_ok (specs_cons ok10 (specs_cons ok31 specs_nil)) bodies_nil) mixed func45 (by kernel_rfl) (an := an45) (by kernel_rfl) (fun x => by kernel_rfl)

/-- watershed/counts.Sum -/
noncomputable def counts_Sum : ((List ((List Int) × (Int × Unit))) × (List ((List Int) × (Int × Unit))) × Unit) → Option ((List ((List Int) × (Int × Unit))) × Int × Unit) := fun x =>
  ((counts_pair x).bind fun r1 => (cond (r1.1 != (0 : Int)) (some (([] : (List ((List Int) × (Int × Unit)))), r1.1, ())) ((counts_merge x).bind fun r2 => (some r2))))
def an15 : Ann := (.seq .leaf (.seq (.seq .leaf (.seq .leaf (.br (.seq .leaf .leaf) .leaf))) (.seq .leaf .leaf)))
noncomputable def sp15 : Abs.Spec := { args := [(false, (.list (.cons (.list (.int .i64)) (.cons (.int .i64) .nil)))), (false, (.list (.cons (.list (.int .i64)) (.cons (.int .i64) .nil))))], res := [.val false (.list (.cons (.list (.int .i64)) (.cons (.int .i64) .nil))), .val false (.int .i64)], f := counts_Sum }
theorem ok15 : FunOK' prog (Abs.look gls) 15 sp15 :=
  evalFn_ok (C := mkCtx tis [(33, sp33), (45, sp45)] [] [] gls pus []) (mkCtx_ok mixed tis_ok (specs_cons ok33 (specs_cons ok45 specs_nil)) bodies_nil) mixed func15 (by kernel_rfl) (an := an15) (by kernel_rfl) (fun x => by kernel_rfl)

/-- watershed/watershedref.CountsPair -/
noncomputable def ref_CountsPair : ((List ((List Int) × (Int × Unit))) × (List ((List Int) × (Int × Unit))) × Unit) → Option (Int × Unit) := fun x =>
  ((ref_CountsCheck (x.1, ())).bind fun r1 => (cond (r1.1 != (0 : Int)) ((ref_CountsCheck (x.1, ())).bind fun r2 => (some r2)) ((ref_CountsCheck (x.2.1, ())).bind fun r3 => (cond (r3.1 != (0 : Int)) ((ref_CountsCheck (x.2.1, ())).bind fun r4 => (some r4)) (cond (decide ((x.1.length : Int) > (0 : Int))) (cond (decide ((x.2.1.length : Int) > (0 : Int))) ((getI x.1 (0 : Int)).bind fun v5 => ((getI x.2.1 (0 : Int)).bind fun v6 => (cond ((v5.1.length : Int) != (v6.1.length : Int)) (some ((3 : Int), ())) (some ((0 : Int), ()))))) (some ((0 : Int), ()))) (some ((0 : Int), ())))))))
def an16 : Ann := (.seq .leaf (.seq (.seq .leaf (.br (.seq .leaf .leaf) .leaf)) (.seq (.seq .leaf (.br (.seq .leaf .leaf) .leaf)) (.seq (.seq .leaf (.br (.seq .leaf .leaf) .leaf)) (.seq .leaf .leaf)))))
noncomputable def sp16 : Abs.Spec := { args := [(false, (.list (.cons (.list (.int .i64)) (.cons (.int .i64) .nil)))), (false, (.list (.cons (.list (.int .i64)) (.cons (.int .i64) .nil))))], res := [.val false (.int .i64)], f := ref_CountsPair }
theorem ok16 : FunOK' prog (Abs.look gls) 16 sp16 :=
  evalFn_ok (C := mkCtx tis [(9, sp9)] [] [] gls pus []) (mkCtx_ok mixed tis_ok (specs_cons ok9 specs_nil) bodies_nil) mixed func16 (by kernel_rfl) (an := an16) (by kernel_rfl) (fun x => by kernel_rfl)

/-- watershed/watershedlaw.CountsSums -/
noncomputable def law_CountsSums : ((List ((List Int) × (Int × Unit))) × (List ((List Int) × (Int × Unit))) × Unit) → Option (Bool × Unit) := fun x =>
  ((counts_Sum x).bind fun r1 => ((ref_CountsPair x).bind fun r2 => (cond (r2.1 != (0 : Int)) (cond (r1.2.1 == r2.1) (some (((r1.1.length : Int) == (0 : Int)), ())) (some (false, ()))) ((ref_CountsBoth x).bind fun r3 => (cond (r1.2.1 == r3.2.1) ((ref_Counts (r1.1, r3.1, ())).bind fun r4 => (some r4)) (some (false, ())))))))
def an4 : Ann := (.seq .leaf (.seq .leaf (.seq .leaf (.seq (.seq .leaf (.br (.seq .leaf .leaf) .leaf)) (.seq .leaf (.seq .leaf .leaf))))))
noncomputable def sp4 : Abs.Spec := { args := [(false, (.list (.cons (.list (.int .i64)) (.cons (.int .i64) .nil)))), (false, (.list (.cons (.list (.int .i64)) (.cons (.int .i64) .nil))))], res := [.val false .bool], f := law_CountsSums }
theorem ok4 : FunOK' prog (Abs.look gls) 4 sp4 :=
  evalFn_ok (C := mkCtx tis [(13, sp13), (14, sp14), (15, sp15), (16, sp16)] [] [] gls pus []) (mkCtx_ok mixed tis_ok (specs_cons ok13 (specs_cons ok14 (specs_cons ok15 (specs_cons ok16 specs_nil)))) bodies_nil) mixed func4 (by kernel_rfl) (an := an4) (by kernel_rfl) (fun x => by kernel_rfl)

end Go.Proofs.Try
