/- Plain functions, printed by gen.py over the program that YteipihigjkkmjaaProg loads; each keeps its contract by the engine. -/
import Derived.Test.YteipihigjkkmjaaAbsLoops
import Derived.Test.YteipihigjkkmjaaAbsFn3
import Derived.Test.YteipihigjkkmjaaAbsUpto
import Derived.Test.YteipihigjkkmjaaQ6Sort
import Derived.Test.YteipihigjkkmjaaProg
namespace Go.Proofs.Try
open Go Go.Abs
set_option maxRecDepth 100000


def tis : List (Nat × TInfo) := [(3, { agg := false, str := false, size := 1, bytes := 8, zeros := [.sc (.int .i64) (0 : Int)], flds := [], elem := none, arr := none, ty := (.int .i64) }),
  (4, { agg := false, str := false, size := 1, bytes := 1, zeros := [.sc .bool (false)], flds := [], elem := none, arr := none, ty := .bool }),
  (28, { agg := false, str := false, size := 1, bytes := 8, zeros := [.sc (.int .i64) (0 : Int)], flds := [], elem := none, arr := none, ty := (.int .i64) }),
  (34, { agg := false, str := false, size := 1, bytes := 24, zeros := [.nils], flds := [], elem := some 3, arr := none, ty := (.list (.int .i64)) }),
  (70, { agg := false, str := false, size := 1, bytes := 24, zeros := [.nils], flds := [], elem := some 34, arr := none, ty := (.list (.list (.int .i64))) }),
  (197, { agg := false, str := false, size := 1, bytes := 24, zeros := [.nils], flds := [], elem := some 70, arr := none, ty := (.list (.list (.list (.int .i64)))) })]

theorem tis_ok : tiTable prog (tis.map (·.1)) = tis.map fun p => (p.1, some p.2) := by kernel_rfl
def pus : List Nat := []
theorem mixed : prog.follows .mixedOrders = true := by kernel_rfl

def txt0 : ByteArray := ⟨#[99, 97, 110, 110, 111, 116, 32, 98, 101, 32, 110, 101, 103, 97, 116, 105, 118, 101]⟩
def txt1 : ByteArray := ⟨#[108, 101, 110, 32, 111, 117, 116, 32, 111, 102, 32, 114, 97, 110, 103, 101]⟩
noncomputable def gls : List (Nat × (IntKind × Nat × List Int)) := []

/-- watershed/times.Check -/
noncomputable def times_Check_l1 (x : ((List Int) × Unit)) : (Int × Unit) → Option ((Int × Unit) ⊕ ((Int × Unit) ⊕ (Unit) ⊕ Empty)) := fun y1 =>
  (cond (decide (y1.1 < (x.1.length : Int))) ((getI x.1 y1.1).bind fun v2 => (cond (decide (v2 < (0 : Int))) (some (Sum.inr (Sum.inl ((2 : Int), ())))) (cond (decide (v2 > (1048576 : Int))) (some (Sum.inr (Sum.inl ((2 : Int), ())))) (some (Sum.inl ((IntKind.i64.wrap (y1.1 + (1 : Int))), ())))))) (some (Sum.inr (Sum.inr (Sum.inl ())))))
noncomputable def times_Check : ((List Int) × Unit) → Option (Int × Unit) := fun x =>
  (cond ((x.1.length : Int) == (0 : Int)) (some ((1 : Int), ())) (cond (decide ((x.1.length : Int) > (4 : Int))) (some ((1 : Int), ())) ((loopM (times_Check_l1 x) ((0 : Int), ())).bind (Sum.elim (fun z3 => (some z3)) (Sum.elim (fun z4 => (some ((0 : Int), ()))) Empty.elim)))))
def an92 : Ann := (.seq .leaf (.seq (.seq .leaf (.br (.seq .leaf .leaf) .leaf)) (.seq (.seq .leaf (.blk (.loop [2, 4, 15, 16, 17, 18, 19, 20, 21, 22, 23, 24, 25] [] [] [] [.tmp 15 (.int .i64)] [(.ret, [.tmp 2 (.int .i64)]), ((.ex 0), [])] (.seq .leaf (.seq (.br .leaf .leaf) (.seq (.blk (.seq .leaf (.seq .leaf (.br (.seq .leaf .leaf) .leaf)))) .leaf)))))) (.seq .leaf .leaf))))
noncomputable def sp92 : Abs.Spec := { args := [(false, (.list (.int .i64)))], res := [.val false (.int .i64)], f := times_Check }
theorem ok92 : FunOK' prog (Abs.look gls) 92 sp92 :=
  evalFn_ok (C := mkCtx tis [] [] [] gls pus []) (mkCtx_ok mixed tis_ok specs_nil bodies_nil ) mixed func92 (by kernel_rfl) (an := an92) (by kernel_rfl) (fun x => by kernel_rfl)

/-- watershed/times.List -/
noncomputable def times_List_l1 (x : ((List (List Int)) × Unit)) : (Int × Unit) → Option ((Int × Unit) ⊕ ((Int × Unit) ⊕ (Unit) ⊕ Empty)) := fun y1 =>
  (cond (decide (y1.1 < (x.1.length : Int))) ((getI x.1 y1.1).bind fun v2 => ((times_Check (v2, ())).bind fun r3 => (cond (r3.1 != (0 : Int)) (some (Sum.inr (Sum.inl r3))) (some (Sum.inl ((IntKind.i64.wrap (y1.1 + (1 : Int))), ())))))) (some (Sum.inr (Sum.inr (Sum.inl ())))))
noncomputable def times_List_l2 (x : ((List (List Int)) × Unit)) : (Int × Unit) → Option ((Int × Unit) ⊕ ((Int × Unit) ⊕ (Unit) ⊕ Empty)) := fun y6 =>
  (cond (decide (y6.1 < (x.1.length : Int))) ((getI x.1 y6.1).bind fun v7 => ((getI x.1 (0 : Int)).bind fun v8 => (cond ((v7.length : Int) != (v8.length : Int)) (some (Sum.inr (Sum.inl ((3 : Int), ())))) (some (Sum.inl ((IntKind.i64.wrap (y6.1 + (1 : Int))), ())))))) (some (Sum.inr (Sum.inr (Sum.inl ())))))
noncomputable def times_List : ((List (List Int)) × Unit) → Option (Int × Unit) := fun x =>
  (cond (decide ((x.1.length : Int) > (64 : Int))) (some ((1 : Int), ())) ((loopM (times_List_l1 x) ((0 : Int), ())).bind (Sum.elim (fun z4 => (some z4)) (Sum.elim (fun z5 => ((loopM (times_List_l2 x) ((0 : Int), ())).bind (Sum.elim (fun z9 => (some z9)) (Sum.elim (fun z10 => (some ((0 : Int), ()))) Empty.elim)))) Empty.elim))))
def an86 : Ann := (.seq .leaf (.seq (.seq .leaf (.br (.seq .leaf .leaf) .leaf)) (.seq (.seq .leaf (.blk (.loop [2, 4, 5, 13, 14, 15, 16, 17, 18, 19, 20, 21, 22] [18] [] [] [.tmp 13 (.int .i64)] [(.ret, [.tmp 2 (.int .i64)]), ((.ex 0), [])] (.seq .leaf (.seq (.br .leaf .leaf) (.seq (.blk (.seq .leaf (.seq .leaf (.seq .leaf (.br (.seq .leaf .leaf) .leaf))))) .leaf)))))) (.seq (.seq .leaf (.blk (.loop [2, 7, 25, 26, 27, 28, 29, 30, 31, 32, 33, 34, 35, 36] [] [] [] [.tmp 25 (.int .i64)] [(.ret, [.tmp 2 (.int .i64)]), ((.ex 2), [])] (.seq .leaf (.seq (.br .leaf .leaf) (.seq (.blk (.seq .leaf (.seq .leaf (.br (.seq .leaf .leaf) .leaf)))) .leaf)))))) (.seq .leaf .leaf)))))
noncomputable def sp86 : Abs.Spec := { args := [(false, (.list (.list (.int .i64))))], res := [.val false (.int .i64)], f := times_List }
theorem ok86 : FunOK' prog (Abs.look gls) 86 sp86 :=
  evalFn_ok (C := mkCtx tis [(92, sp92)] [] [] gls pus []) (mkCtx_ok mixed tis_ok (specs_cons ok92 specs_nil) bodies_nil ) mixed func86 (by kernel_rfl) (an := an86) (by kernel_rfl) (fun x => by kernel_rfl)

/-- watershed/times.lists -/
noncomputable def times_lists : ((List (List Int)) × (List (List Int)) × Unit) → Option (Int × Unit) := fun x =>
  ((times_List (x.1, ())).bind fun r1 => (cond (r1.1 != (0 : Int)) (some r1) ((times_List (x.2.1, ())).bind fun r2 => (cond (r2.1 != (0 : Int)) (some r2) (cond (decide ((x.1.length : Int) > (0 : Int))) (cond (decide ((x.2.1.length : Int) > (0 : Int))) ((getI x.1 (0 : Int)).bind fun v3 => ((getI x.2.1 (0 : Int)).bind fun v4 => (cond ((v3.length : Int) != (v4.length : Int)) (some ((3 : Int), ())) (some ((0 : Int), ()))))) (some ((0 : Int), ()))) (some ((0 : Int), ())))))))
def an95 : Ann := (.seq .leaf (.seq (.seq .leaf (.seq .leaf (.br (.seq .leaf .leaf) .leaf))) (.seq (.seq .leaf (.seq .leaf (.br (.seq .leaf .leaf) .leaf))) (.seq (.seq .leaf (.br (.seq .leaf .leaf) .leaf)) (.seq .leaf .leaf)))))
noncomputable def sp95 : Abs.Spec := { args := [(false, (.list (.list (.int .i64)))), (false, (.list (.list (.int .i64))))], res := [.val false (.int .i64)], f := times_lists }
theorem ok95 : FunOK' prog (Abs.look gls) 95 sp95 :=
  evalFn_ok (C := mkCtx tis [(86, sp86)] [] [] gls pus []) (mkCtx_ok mixed tis_ok (specs_cons ok86 specs_nil) bodies_nil ) mixed func95 (by kernel_rfl) (an := an95) (by kernel_rfl) (fun x => by kernel_rfl)

/-- watershed/times.alike -/
noncomputable def times_alike : ((List Int) × (List Int) × Unit) → Option (Bool × Unit) := fun x =>
  (cond ((x.1.length : Int) == (x.2.1.length : Int)) ((times_Check (x.1, ())).bind fun r1 => (cond (r1.1 == (0 : Int)) ((times_Check (x.2.1, ())).bind fun r2 => (some ((r2.1 == (0 : Int)), ()))) (some (false, ())))) (some (false, ())))
def an148 : Ann := (.seq .leaf (.seq .leaf .leaf))
noncomputable def sp148 : Abs.Spec := { args := [(false, (.list (.int .i64))), (false, (.list (.int .i64)))], res := [.val false .bool], f := times_alike }
theorem ok148 : FunOK' prog (Abs.look gls) 148 sp148 :=
  evalFn_ok (C := mkCtx tis [(92, sp92)] [] [] gls pus []) (mkCtx_ok mixed tis_ok (specs_cons ok92 specs_nil) bodies_nil ) mixed func148 (by kernel_rfl) (an := an148) (by kernel_rfl) (fun x => by kernel_rfl)

/-- watershed/times.Under -/
noncomputable def times_Under_l1 (x : ((List Int) × (List Int) × Unit)) : (Int × Unit) → Option ((Int × Unit) ⊕ ((Bool × Unit) ⊕ (Unit) ⊕ Empty)) := fun y1 =>
  (cond (decide (y1.1 < (x.1.length : Int))) ((getI x.1 y1.1).bind fun v2 => ((getI x.2.1 y1.1).bind fun v3 => (cond (decide (v2 > v3)) (some (Sum.inr (Sum.inl (false, ())))) (some (Sum.inl ((IntKind.i64.wrap (y1.1 + (1 : Int))), ())))))) (some (Sum.inr (Sum.inr (Sum.inl ())))))
noncomputable def times_Under : ((List Int) × (List Int) × Unit) → Option (Bool × Unit) := fun x =>
  ((loopM (times_Under_l1 x) ((0 : Int), ())).bind (Sum.elim (fun z4 => (some z4)) (Sum.elim (fun z5 => (some (true, ()))) Empty.elim)))
def an119 : Ann := (.seq .leaf (.seq (.seq .leaf (.blk (.loop [4, 5, 8, 9, 10, 11, 12, 13, 14, 15, 16, 17, 18, 19, 20] [] [] [] [.tmp 8 (.int .i64)] [(.ret, [.tmp 4 .bool]), ((.ex 0), [])] (.seq .leaf (.seq (.br .leaf .leaf) (.seq (.blk (.seq .leaf (.seq .leaf (.br (.seq .leaf .leaf) .leaf)))) .leaf)))))) (.seq .leaf .leaf)))
noncomputable def sp119 : Abs.Spec := { args := [(false, (.list (.int .i64))), (false, (.list (.int .i64)))], res := [.val false .bool], f := times_Under }
theorem ok119 : FunOK' prog (Abs.look gls) 119 sp119 :=
  evalFn_ok (C := mkCtx tis [] [] [] gls pus []) (mkCtx_ok mixed tis_ok specs_nil bodies_nil ) mixed func119 (by kernel_rfl) (an := an119) (by kernel_rfl) (fun x => by kernel_rfl)

/-- watershed/times.Leq -/
noncomputable def times_Leq : ((List Int) × (List Int) × Unit) → Option (Bool × Unit) := fun x =>
  ((times_alike x).bind fun r1 => (cond r1.1 ((times_Under x).bind fun r2 => (some r2)) (some (false, ()))))
def an128 : Ann := (.seq .leaf (.seq .leaf .leaf))
noncomputable def sp128 : Abs.Spec := { args := [(false, (.list (.int .i64))), (false, (.list (.int .i64)))], res := [.val false .bool], f := times_Leq }
theorem ok128 : FunOK' prog (Abs.look gls) 128 sp128 :=
  evalFn_ok (C := mkCtx tis [(119, sp119), (148, sp148)] [] [] gls pus []) (mkCtx_ok mixed tis_ok (specs_cons ok119 (specs_cons ok148 specs_nil)) bodies_nil ) mixed func128 (by kernel_rfl) (an := an128) (by kernel_rfl) (fun x => by kernel_rfl)

/-- watershed/times.Open -/
noncomputable def times_Open_l1 (x : ((List (List Int)) × (List Int) × Unit)) : (Int × Unit) → Option ((Int × Unit) ⊕ ((Int × Unit) ⊕ (Unit) ⊕ Empty)) := fun y1 =>
  (cond (decide (y1.1 < (x.1.length : Int))) ((getI x.1 y1.1).bind fun v2 => ((times_Leq (v2, x.2.1, ())).bind fun r3 => (cond r3.1 (some (Sum.inr (Sum.inl y1))) (some (Sum.inl ((IntKind.i64.wrap (y1.1 + (1 : Int))), ())))))) (some (Sum.inr (Sum.inr (Sum.inl ())))))
noncomputable def times_Open : ((List (List Int)) × (List Int) × Unit) → Option (Bool × Unit) := fun x =>
  ((((loopM (times_Open_l1 x) ((0 : Int), ())).bind (Sum.elim (fun z4 => (some (Sum.inl z4))) (Sum.elim (fun z5 => (some (Sum.inl ((-1 : Int), ())))) Empty.elim))) : Option ((Int × Unit) ⊕ Empty)).bind (Sum.elim (fun z6 => (some ((decide (z6.1 ≥ (0 : Int))), ()))) Empty.elim))
def an96 : Ann := (.seq .leaf (.seq .leaf .leaf))
noncomputable def sp96 : Abs.Spec := { args := [(false, (.list (.list (.int .i64)))), (false, (.list (.int .i64)))], res := [.val false .bool], f := times_Open }
theorem ok96 : FunOK' prog (Abs.look gls) 96 sp96 :=
  evalFn_ok (C := mkCtx tis [(128, sp128)] [(126, (1024, (f126, (.seq .leaf (.seq .leaf .leaf))))),
    (127, (3072, (f127, (.seq .leaf (.seq .leaf .leaf))))),
    (147, (2048, (f147, (.join [4, 5, 6, 7, 8, 9, 10, 11, 12, 13, 14, 15, 16, 17, 18] [2064] [] [] [(.ret, [.tmp 4 (.int .i64)])] (.seq .leaf (.seq (.seq .leaf (.blk (.loop [4, 5, 8, 9, 10, 11, 12, 13, 14, 15, 16, 17, 18] [2064] [] [] [.tmp 8 (.int .i64)] [(.ret, [.tmp 4 (.int .i64)]), ((.ex 0), [])] (.seq .leaf (.seq (.br .leaf .leaf) (.seq (.blk (.seq .leaf (.seq .leaf (.br (.seq .leaf .leaf) .leaf)))) .leaf)))))) (.seq .leaf .leaf)))))))] [] gls pus [(14, 1024), (2062, 2048), (4128, 3072)]) (mkCtx_ok mixed tis_ok (specs_cons ok128 specs_nil) (bodies_cons ⟨func126, by kernel_rfl, by kernel_rfl⟩ (bodies_cons ⟨func127, by kernel_rfl, by kernel_rfl⟩ (bodies_cons ⟨func147, by kernel_rfl, by kernel_rfl⟩ bodies_nil))) ) mixed func96 (by kernel_rfl) (an := an96) (by kernel_rfl) (fun x => by kernel_rfl)

/-- watershed/times.Before -/
noncomputable def times_Before_l1 (x : ((List (List Int)) × (List (List Int)) × Unit)) : (Int × Unit) → Option ((Int × Unit) ⊕ ((Bool × Int × Unit) ⊕ (Unit) ⊕ Empty)) := fun y2 =>
  (cond (decide (y2.1 < (x.2.1.length : Int))) ((getI x.2.1 y2.1).bind fun v3 => ((times_Open (x.1, v3, ())).bind fun r4 => (cond (!r4.1) (some (Sum.inr (Sum.inl (false, (0 : Int), ())))) (some (Sum.inl ((IntKind.i64.wrap (y2.1 + (1 : Int))), ())))))) (some (Sum.inr (Sum.inr (Sum.inl ())))))
noncomputable def times_Before : ((List (List Int)) × (List (List Int)) × Unit) → Option (Bool × Int × Unit) := fun x =>
  ((times_lists x).bind fun r1 => (cond (r1.1 != (0 : Int)) (some (false, r1.1, ())) ((loopM (times_Before_l1 x) ((0 : Int), ())).bind (Sum.elim (fun z5 => (some z5)) (Sum.elim (fun z6 => (some (true, (0 : Int), ()))) Empty.elim)))))
def an47 : Ann := (.seq .leaf (.seq (.seq .leaf (.seq .leaf (.br (.seq .leaf .leaf) .leaf))) (.seq (.seq .leaf (.blk (.loop [4, 5, 8, 17, 18, 19, 20, 21, 22, 23, 24, 25] [23] [] [] [.tmp 17 (.int .i64)] [(.ret, [.tmp 4 .bool, .tmp 5 (.int .i64)]), ((.ex 0), [])] (.seq .leaf (.seq (.br .leaf .leaf) (.seq (.blk (.seq .leaf (.seq .leaf (.br (.seq .leaf .leaf) .leaf)))) .leaf)))))) (.seq .leaf .leaf))))
noncomputable def sp47 : Abs.Spec := { args := [(false, (.list (.list (.int .i64)))), (false, (.list (.list (.int .i64))))], res := [.val false .bool, .val false (.int .i64)], f := times_Before }
theorem ok47 : FunOK' prog (Abs.look gls) 47 sp47 :=
  evalFn_ok (C := mkCtx tis [(95, sp95), (96, sp96)] [] [] gls pus []) (mkCtx_ok mixed tis_ok (specs_cons ok95 (specs_cons ok96 specs_nil)) bodies_nil ) mixed func47 (by kernel_rfl) (an := an47) (by kernel_rfl) (fun x => by kernel_rfl)

/-- slices.Concat[[][]int,[]int] -/
noncomputable def slices_Concat_s_s_int_s_int_l1 (x : ((List (List (List Int))) × Unit)) : (Int × Int × Unit) → Option ((Int × Int × Unit) ⊕ ((Int × Unit) ⊕ Empty)) := fun y1 =>
  (cond (decide (y1.2.1 < (x.1.length : Int))) ((getI x.1 y1.2.1).bind fun v2 => (cond (decide ((IntKind.i64.wrap (y1.1 + (v2.length : Int))) < (0 : Int))) none (some (Sum.inl ((IntKind.i64.wrap (y1.1 + (v2.length : Int))), (IntKind.i64.wrap (y1.2.1 + (1 : Int))), ()))))) (some (Sum.inr (Sum.inl (y1.1, ())))))
noncomputable def slices_Concat_s_s_int_s_int_l2 (x : ((List (List (List Int))) × Unit)) : ((List (List Int)) × Int × Unit) → Option (((List (List Int)) × Int × Unit) ⊕ (((List (List Int)) × Unit) ⊕ Empty)) := fun y6 =>
  (cond (decide (y6.2.1 < (x.1.length : Int))) ((getI x.1 y6.2.1).bind fun v7 => (cond (true && roomOk (y6.1.length + v7.length) 24 && true && true) (some (Sum.inl ((y6.1 ++ v7), (IntKind.i64.wrap (y6.2.1 + (1 : Int))), ()))) none)) (some (Sum.inr (Sum.inl (y6.1, ())))))
noncomputable def slices_Concat_s_s_int_s_int : ((List (List (List Int))) × Unit) → Option ((List (List Int)) × Unit) := fun x =>
  ((loopM (slices_Concat_s_s_int_s_int_l1 x) ((0 : Int), (0 : Int), ())).bind (Sum.elim (fun z3 => (((cond (decide (z3.1 < (0 : Int))) none (some (Sum.inl ()))) : Option ((Unit) ⊕ Empty)).bind (Sum.elim (fun z4 => (((cond (decide ((IntKind.i64.wrap (z3.1 - (IntKind.i64.wrap ((0 : Int) - (0 : Int))))) > (0 : Int))) (cond (decide (0 ≤ (0 : Int)) && decide ((0 : Int) ≤ (0 : Int)) && decide ((0 : Int) ≤ 0)) (cond (decide (0 ≤ (IntKind.i64.wrap (z3.1 - (IntKind.i64.wrap ((0 : Int) - (0 : Int)))))) && roomOk (IntKind.i64.wrap (z3.1 - (IntKind.i64.wrap ((0 : Int) - (0 : Int))))).toNat 24 && true && true) (cond (true && decide (0 ≤ (0 : Int)) && decide ((0 : Int) ≤ (List.replicate (IntKind.i64.wrap (z3.1 - (IntKind.i64.wrap ((0 : Int) - (0 : Int))))).toNat ([] : (List Int))).length)) (some (Sum.inl (((List.replicate (IntKind.i64.wrap (z3.1 - (IntKind.i64.wrap ((0 : Int) - (0 : Int))))).toNat ([] : (List Int))).take (0 : Int).toNat), ()))) none) none) none) (some (Sum.inl (([] : (List (List Int))), ())))) : Option (((List (List Int)) × Unit) ⊕ Empty)).bind (Sum.elim (fun z5 => ((loopM (slices_Concat_s_s_int_s_int_l2 x) (z5.1, (0 : Int), ())).bind (Sum.elim (fun z8 => (some z8)) Empty.elim))) Empty.elim))) Empty.elim))) Empty.elim))
def an98 : Ann := (.seq .leaf (.seq .leaf (.seq (.seq .leaf (.blk (.loop [3, 5, 11, 12, 13, 14, 15, 16, 17, 18, 19, 20, 21, 22] [] [] [] [.tmp 3 (.int .i64), .tmp 11 (.int .i64)] [((.ex 0), [.tmp 3 (.int .i64)])] (.seq .leaf (.seq (.br .leaf .leaf) (.seq (.blk (.seq .leaf (.seq .leaf (.seq .leaf (.br .leaf .leaf))))) .leaf)))))) (.seq .leaf (.seq (.seq .leaf (.blk (.loop [6, 8, 27, 28, 29, 30, 31, 32, 33, 34] [33, 3072] [2048] [] [.arr 3072 34 (.list (.int .i64)) (.t 6), .own 6 3072, .tmp 27 (.int .i64)] [((.ex 2), [.arr 3072 34 (.list (.int .i64)) (.t 6), .own 6 3072])] (.seq .leaf (.seq (.br .leaf .leaf) (.seq (.blk (.seq .leaf .leaf)) .leaf)))))) (.seq .leaf .leaf))))))
noncomputable def sp98 : Abs.Spec := { args := [(false, (.list (.list (.list (.int .i64)))))], res := [.own 34 (.list (.int .i64))], f := slices_Concat_s_s_int_s_int }
theorem ok98 : FunOK' prog (Abs.look gls) 98 sp98 :=
  evalFn_ok (C := mkCtx tis [] [(132, (1024, (f132, (.seq .leaf (.seq (.seq .leaf (.join [7] [] [] [] [(.nrm, [])] (.br .leaf .leaf))) (.seq (.seq .leaf (.seq .leaf (.join [0, 17, 18, 19, 20, 21, 22, 23, 24, 25] [1044, 1046, 1049, 2048] [] [] [(.nrm, [.arr 2048 34 (.list (.int .i64)) (.t 0), .own 0 2048])] (.br .leaf .leaf)))) (.seq .leaf .leaf)))))))] [] gls pus [(48, 1024), (2099, 1)]) (mkCtx_ok mixed tis_ok specs_nil (bodies_cons ⟨func132, by kernel_rfl, by kernel_rfl⟩ bodies_nil) ) mixed func98 (by kernel_rfl) (an := an98) (by kernel_rfl) (fun x => by kernel_rfl)

/-- slices.Clone[[][]int,[]int] -/
noncomputable def slices_Clone_s_s_int_s_int : ((List (List Int)) × Unit) → Option ((List (List Int)) × Unit) := fun x =>
  (cond (true && roomOk (([] : (List (List Int))).length + x.1.length) 24 && true && true) (some ((([] : (List (List Int))) ++ x.1), ())) none)
def an129 : Ann := (.seq .leaf (.seq (.seq .leaf (.br (.seq .leaf .leaf) .leaf)) (.seq .leaf .leaf)))
noncomputable def sp129 : Abs.Spec := { args := [(false, (.list (.list (.int .i64))))], res := [.own 34 (.list (.int .i64))], f := slices_Clone_s_s_int_s_int }
theorem ok129 : FunOK' prog (Abs.look gls) 129 sp129 :=
  evalNil_ok (C := mkCtx tis [] [] [] gls pus []) (mkCtx_ok mixed tis_ok specs_nil bodies_nil ) mixed func129 (by kernel_rfl) (an := an129) (by kernel_rfl) (Nat.le_of_ble_eq_true (by kernel_rfl)) (by kernel_rfl) (fun l => by kernel_rfl)

/-- cmp.isNaN[int] -/
noncomputable def cmp_isNaN_int : (Int × Unit) → Option (Bool × Unit) := fun x =>
  (some ((x.1 != x.1), ()))
def an171 : Ann := (.seq .leaf (.seq .leaf .leaf))
noncomputable def sp171 : Abs.Spec := { args := [(false, (.int .i64))], res := [.val false .bool], f := cmp_isNaN_int }
theorem ok171 : FunOK' prog (Abs.look gls) 171 sp171 :=
  evalFn_ok (C := mkCtx tis [] [] [] gls pus []) (mkCtx_ok mixed tis_ok specs_nil bodies_nil ) mixed func171 (by kernel_rfl) (an := an171) (by kernel_rfl) (fun x => by kernel_rfl)

/-- cmp.Compare[int] -/
noncomputable def cmp_Compare_int : (Int × Int × Unit) → Option (Int × Unit) := fun x =>
  ((cmp_isNaN_int (x.1, ())).bind fun r1 => ((cmp_isNaN_int (x.2.1, ())).bind fun r2 => (cond r1.1 (cond r2.1 (some ((0 : Int), ())) (some ((-1 : Int), ()))) (cond r2.1 (some ((1 : Int), ())) (cond (decide (x.1 < x.2.1)) (some ((-1 : Int), ())) (cond (decide (x.1 > x.2.1)) (some ((1 : Int), ())) (some ((0 : Int), ()))))))))
def an146 : Ann := (.seq .leaf (.seq .leaf (.seq .leaf (.seq (.seq .leaf (.br (.seq (.seq .leaf (.br (.seq .leaf .leaf) .leaf)) (.seq .leaf .leaf)) .leaf)) (.seq (.seq .leaf (.br (.seq .leaf .leaf) .leaf)) (.seq (.seq .leaf (.br (.seq .leaf .leaf) .leaf)) (.seq (.seq .leaf (.br (.seq .leaf .leaf) .leaf)) (.seq .leaf .leaf))))))))
noncomputable def sp146 : Abs.Spec := { args := [(false, (.int .i64)), (false, (.int .i64))], res := [.val false (.int .i64)], f := cmp_Compare_int }
theorem ok146 : FunOK' prog (Abs.look gls) 146 sp146 :=
  evalFn_ok (C := mkCtx tis [(171, sp171)] [] [] gls pus []) (mkCtx_ok mixed tis_ok (specs_cons ok171 specs_nil) bodies_nil ) mixed func146 (by kernel_rfl) (an := an146) (by kernel_rfl) (fun x => by kernel_rfl)

/-- slices.Compare[[]int,int] -/
noncomputable def slices_Compare_s_int_int_l1 (x : ((List Int) × (List Int) × Unit)) : (Int × Unit) → Option ((Int × Unit) ⊕ ((Int × Unit) ⊕ (Unit) ⊕ Empty)) := fun y1 =>
  (cond (decide (y1.1 < (x.1.length : Int))) ((getI x.1 y1.1).bind fun v2 => (cond (decide (y1.1 ≥ (x.2.1.length : Int))) (some (Sum.inr (Sum.inl ((1 : Int), ())))) ((getI x.2.1 y1.1).bind fun v3 => ((cmp_Compare_int (v2, v3, ())).bind fun r4 => (cond (r4.1 != (0 : Int)) (some (Sum.inr (Sum.inl r4))) (some (Sum.inl ((IntKind.i64.wrap (y1.1 + (1 : Int))), ())))))))) (some (Sum.inr (Sum.inr (Sum.inl ())))))
noncomputable def slices_Compare_s_int_int : ((List Int) × (List Int) × Unit) → Option (Int × Unit) := fun x =>
  ((loopM (slices_Compare_s_int_int_l1 x) ((0 : Int), ())).bind (Sum.elim (fun z5 => (some z5)) (Sum.elim (fun z6 => (cond (decide ((x.1.length : Int) < (x.2.1.length : Int))) (some ((-1 : Int), ())) (some ((0 : Int), ())))) Empty.elim)))
def an118 : Ann := (.seq .leaf (.seq (.seq .leaf (.blk (.loop [4, 5, 6, 7, 8, 11, 12, 13, 14, 15, 16, 17, 18, 19, 20, 21, 22, 23, 24, 25, 26, 27, 28, 29, 30] [26] [] [] [.tmp 11 (.int .i64)] [(.ret, [.tmp 4 (.int .i64)]), ((.ex 0), [])] (.seq .leaf (.seq (.br .leaf .leaf) (.seq (.blk (.seq .leaf (.seq (.seq .leaf (.br (.seq .leaf .leaf) .leaf)) (.seq .leaf (.seq .leaf (.seq .leaf (.br (.seq .leaf .leaf) .leaf))))))) .leaf)))))) (.seq (.seq .leaf (.br (.seq .leaf .leaf) .leaf)) (.seq .leaf .leaf))))
noncomputable def sp118 : Abs.Spec := { args := [(false, (.list (.int .i64))), (false, (.list (.int .i64)))], res := [.val false (.int .i64)], f := slices_Compare_s_int_int }
theorem ok118 : FunOK' prog (Abs.look gls) 118 sp118 :=
  evalFn_ok (C := mkCtx tis [(146, sp146)] [] [] gls pus []) (mkCtx_ok mixed tis_ok (specs_cons ok146 specs_nil) bodies_nil ) mixed func118 (by kernel_rfl) (an := an118) (by kernel_rfl) (fun x => by kernel_rfl)

/-- slices.Clone[[]int,int] -/
noncomputable def slices_Clone_s_int_int : ((List Int) × Unit) → Option ((List Int) × Unit) := fun x =>
  (cond (true && roomOk (([] : (List Int)).length + x.1.length) 8 && true && true) (some ((([] : (List Int)) ++ x.1), ())) none)
def an104 : Ann := (.seq .leaf (.seq (.seq .leaf (.br (.seq .leaf .leaf) .leaf)) (.seq .leaf .leaf)))
noncomputable def sp104 : Abs.Spec := { args := [(false, (.list (.int .i64)))], res := [.own 3 (.int .i64)], f := slices_Clone_s_int_int }
theorem ok104 : FunOK' prog (Abs.look gls) 104 sp104 :=
  evalNil_ok (C := mkCtx tis [] [] [] gls pus []) (mkCtx_ok mixed tis_ok specs_nil bodies_nil ) mixed func104 (by kernel_rfl) (an := an104) (by kernel_rfl) (Nat.le_of_ble_eq_true (by kernel_rfl)) (by kernel_rfl) (fun l => by kernel_rfl)

/-- watershed/times.Least -/
noncomputable def times_Least_l1 (y3 : ((List (List Int)) × Int × Unit)) (v4 : (List Int)) : (Int × Unit) → Option ((Int × Unit) ⊕ ((Int × Unit) ⊕ (Unit) ⊕ Empty)) := fun y5 =>
  (cond (decide (y5.1 < (y3.1.length : Int))) (cond (inB y5.1 y3.1.length) ((y3.1[y5.1.toNat]?).bind fun v6 => ((times_Under (v6, v4, ())).bind fun r7 => (cond r7.1 (some (Sum.inr (Sum.inl y5))) (some (Sum.inl ((IntKind.i64.wrap (y5.1 + (1 : Int))), ())))))) none) (some (Sum.inr (Sum.inr (Sum.inl ())))))
noncomputable def times_Least_l2 (v2 : (List (List Int))) : ((List (List Int)) × Int × Unit) → Option (((List (List Int)) × Int × Unit) ⊕ (((List (List Int)) × Unit) ⊕ Empty)) := fun y3 =>
  (cond (decide (y3.2.1 < (v2.length : Int))) (cond (inB y3.2.1 v2.length) ((v2[y3.2.1.toNat]?).bind fun v4 => ((((loopM (times_Least_l1 y3 v4) ((0 : Int), ())).bind (Sum.elim (fun z8 => (some (Sum.inl z8))) (Sum.elim (fun z9 => (some (Sum.inl ((-1 : Int), ())))) Empty.elim))) : Option ((Int × Unit) ⊕ Empty)).bind (Sum.elim (fun z10 => (cond (!(decide (z10.1 ≥ (0 : Int)))) ((slices_Clone_s_int_int (v4, ())).bind fun r11 => (cond (true && roomOk (y3.1.length + ([r11.1]).length) 24 && true && true) (some (Sum.inl ((y3.1 ++ [r11.1]), (IntKind.i64.wrap (y3.2.1 + (1 : Int))), ()))) none)) (some (Sum.inl (y3.1, (IntKind.i64.wrap (y3.2.1 + (1 : Int))), ()))))) Empty.elim))) none) (some (Sum.inr (Sum.inl (y3.1, ())))))
noncomputable def times_Least : ((List (List Int)) × Unit) → Option ((List (List Int)) × Unit) := fun x =>
  ((slices_Clone_s_s_int_s_int x).bind fun r1 => (cond (roomOk r1.1.length 1) ((sortP (fun a b => (slices_Compare_s_int_int (a, b, ())).map fun r => r.1) r1.1).bind fun v2 => ((loopM (times_Least_l2 v2) (([] : (List (List Int))), (0 : Int), ())).bind (Sum.elim (fun z12 => (some z12)) Empty.elim))) none))
def an97 : Ann := (.seq .leaf (.seq .leaf (.seq .leaf (.seq .leaf (.seq (.seq .leaf (.blk (.loop [4, 6, 13, 14, 15, 16, 17, 18, 19, 20, 21, 22, 23, 24, 25, 26] [6, 19, 23, 24, 25, 512, 518, 527, 528, 2064, 3072] [] [] [.arr 3072 34 (.list (.int .i64)) (.t 4), .own 4 3072, .tmp 13 (.int .i64)] [((.ex 0), [.arr 3072 34 (.list (.int .i64)) (.t 4), .own 4 3072])] (.seq .leaf (.seq (.br .leaf .leaf) (.seq (.blk (.seq .leaf (.seq .leaf (.br .leaf .leaf)))) .leaf)))))) (.seq .leaf .leaf))))))
noncomputable def sp97 : Abs.Spec := { args := [(false, (.list (.list (.int .i64))))], res := [.own 34 (.list (.int .i64))], f := times_Least }
theorem ok97 : FunOK' prog (Abs.look gls) 97 sp97 :=
  evalFn_ok (C := mkCtx tis [(104, sp104), (118, sp118), (119, sp119), (129, sp129)] [(126, (1024, (f126, (.seq .leaf (.seq .leaf .leaf))))),
    (131, (4096, (f131, (.seq .leaf (.seq .leaf .leaf))))),
    (147, (2048, (f147, (.join [4, 5, 6, 7, 8, 9, 10, 11, 12, 13, 14, 15, 16, 17, 18] [2064] [] [] [(.ret, [.tmp 4 (.int .i64)])] (.seq .leaf (.seq (.seq .leaf (.blk (.loop [4, 5, 8, 9, 10, 11, 12, 13, 14, 15, 16, 17, 18] [2064] [] [] [.tmp 8 (.int .i64)] [(.ret, [.tmp 4 (.int .i64)]), ((.ex 0), [])] (.seq .leaf (.seq (.br .leaf .leaf) (.seq (.blk (.seq .leaf (.seq .leaf (.br (.seq .leaf .leaf) .leaf)))) .leaf)))))) (.seq .leaf .leaf)))))))] [] gls pus [(38, 1024), (2062, 2048), (4128, 4096)] [130]) (mkCtxS_ok mixed tis_ok (specs_cons ok104 (specs_cons ok118 (specs_cons ok119 (specs_cons ok129 specs_nil)))) (bodies_cons ⟨func126, by kernel_rfl, by kernel_rfl⟩ (bodies_cons ⟨func131, by kernel_rfl, by kernel_rfl⟩ (bodies_cons ⟨func147, by kernel_rfl, by kernel_rfl⟩ bodies_nil))) (sorts_cons sort130 sorts_nil)) mixed func97 (by kernel_rfl) (an := an97) (by kernel_rfl) (fun x => by kernel_rfl)

/-- watershed/times.Both -/
noncomputable def times_Both : ((List (List Int)) × (List (List Int)) × Unit) → Option ((List (List Int)) × Int × Unit) := fun x =>
  ((times_lists x).bind fun r1 => (cond (r1.1 == (0 : Int)) (cond (decide ((IntKind.i64.wrap ((x.1.length : Int) + (x.2.1.length : Int))) > (64 : Int))) (cond ((1 : Int) != (0 : Int)) (some (([] : (List (List Int))), (1 : Int), ())) ((slices_Concat_s_s_int_s_int ([x.1, x.2.1], ())).bind fun r2 => ((times_Least r2).bind fun r3 => (some (r3.1, (0 : Int), ()))))) (cond (r1.1 != (0 : Int)) (some (([] : (List (List Int))), r1.1, ())) ((slices_Concat_s_s_int_s_int ([x.1, x.2.1], ())).bind fun r4 => ((times_Least r4).bind fun r5 => (some (r5.1, (0 : Int), ())))))) (cond (r1.1 != (0 : Int)) (some (([] : (List (List Int))), r1.1, ())) ((slices_Concat_s_s_int_s_int ([x.1, x.2.1], ())).bind fun r6 => ((times_Least r6).bind fun r7 => (some (r7.1, (0 : Int), ())))))))
def an48 : Ann := (.seq .leaf (.seq .leaf (.seq (.seq .leaf (.br .leaf .leaf)) (.seq (.seq .leaf (.br (.seq .leaf .leaf) .leaf)) (.seq .leaf .leaf)))))
noncomputable def sp48 : Abs.Spec := { args := [(false, (.list (.list (.int .i64)))), (false, (.list (.list (.int .i64))))], res := [.own 34 (.list (.int .i64)), .val false (.int .i64)], f := times_Both }
theorem ok48 : FunOK' prog (Abs.look gls) 48 sp48 :=
  evalFn_ok (C := mkCtx tis [(95, sp95), (97, sp97), (98, sp98)] [] [] gls pus []) (mkCtx_ok mixed tis_ok (specs_cons ok95 (specs_cons ok97 (specs_cons ok98 specs_nil))) bodies_nil ) mixed func48 (by kernel_rfl) (an := an48) (by kernel_rfl) (fun x => by kernel_rfl)

/-- watershed/times.greater -/
noncomputable def times_greater : (Int × Int × Unit) → Option (Int × Unit) := fun x =>
  (some ((if x.2.1 > x.1 then x.2.1 else x.1), ()))
def an123 : Ann := (.seq .leaf (.seq .leaf .leaf))
noncomputable def sp123 : Abs.Spec := { args := [(false, (.int .i64)), (false, (.int .i64))], res := [.val false (.int .i64)], f := times_greater }
theorem ok123 : FunOK' prog (Abs.look gls) 123 sp123 :=
  evalFn_ok (C := mkCtx tis [] [] [] gls pus []) (mkCtx_ok mixed tis_ok specs_nil bodies_nil ) mixed func123 (by kernel_rfl) (an := an123) (by kernel_rfl) (fun x => by kernel_rfl)

/-- watershed/times.Over -/
noncomputable def times_Over_l1 (x : ((List Int) × (List Int) × Unit)) : (Int × (List Int) × Unit) → Option ((Int × (List Int) × Unit) ⊕ (((List Int) × Unit) ⊕ Empty)) := fun y1 =>
  (cond (decide (y1.1 < (x.1.length : Int))) ((getI x.1 y1.1).bind fun v2 => ((getI x.2.1 y1.1).bind fun v3 => ((times_greater (v2, v3, ())).bind fun r4 => (cond (inB y1.1 y1.2.1.length) ((y1.2.1[y1.1.toNat]?).bind fun v5 => (some (Sum.inl ((IntKind.i64.wrap (y1.1 + (1 : Int))), (y1.2.1.set (y1.1.toNat) r4.1), ())))) none)))) (some (Sum.inr (Sum.inl (y1.2.1, ())))))
noncomputable def times_Over : ((List Int) × (List Int) × Unit) → Option ((List Int) × Unit) := fun x =>
  (cond (decide (0 ≤ (x.1.length : Int)) && decide ((x.1.length : Int) ≤ (x.1.length : Int)) && roomOk (x.1.length : Int).toNat 8 && decide ((x.1.length : Int) ≤ 9223372036854775807) && true && true) ((loopM (times_Over_l1 x) ((0 : Int), (List.replicate (x.1.length : Int).toNat (0 : Int)), ())).bind (Sum.elim (fun z6 => (some z6)) Empty.elim)) none)
def an87 : Ann := (.seq .leaf (.seq .leaf .leaf))
noncomputable def sp87 : Abs.Spec := { args := [(false, (.list (.int .i64))), (false, (.list (.int .i64)))], res := [.own 3 (.int .i64)], f := times_Over }
theorem ok87 : FunOK' prog (Abs.look gls) 87 sp87 :=
  evalFn_ok (C := mkCtx tis [(123, sp123)] [(122, (1024, (f122, (.seq .leaf (.seq .leaf (.seq (.seq .leaf (.blk (.loop [8, 14, 15, 16, 17, 18, 19, 20, 21, 22, 23, 24, 25, 26, 27, 28, 29, 30] [1052] [] [1035] [.tmp 14 (.int .i64), .arrS 1035 3 (.int .i64)] [((.ex 0), [.arrS 1035 3 (.int .i64)])] (.seq .leaf (.seq (.br .leaf .leaf) (.seq (.blk (.seq .leaf .leaf)) .leaf)))))) (.seq .leaf .leaf)))))))] [] gls pus [(14, 1024)]) (mkCtx_ok mixed tis_ok (specs_cons ok123 specs_nil) (bodies_cons ⟨func122, by kernel_rfl, by kernel_rfl⟩ bodies_nil) ) mixed func87 (by kernel_rfl) (an := an87) (by kernel_rfl) (fun x => by kernel_rfl)

/-- watershed/times.Either -/
noncomputable def times_Either_l1 (x : ((List (List Int)) × (List (List Int)) × Unit)) (v4 : (List Int)) : ((List (List Int)) × Int × Unit) → Option (((List (List Int)) × Int × Unit) ⊕ (((List (List Int)) × Unit) ⊕ Empty)) := fun y5 =>
  (cond (decide (y5.2.1 < (x.2.1.length : Int))) ((getI x.2.1 y5.2.1).bind fun v6 => ((times_Over (v4, v6, ())).bind fun r7 => (cond (true && roomOk (y5.1.length + ([r7.1]).length) 24 && true && true) (some (Sum.inl ((y5.1 ++ [r7.1]), (IntKind.i64.wrap (y5.2.1 + (1 : Int))), ()))) none))) (some (Sum.inr (Sum.inl (y5.1, ())))))
noncomputable def times_Either_l2 (x : ((List (List Int)) × (List (List Int)) × Unit)) : ((List (List Int)) × Int × Unit) → Option (((List (List Int)) × Int × Unit) ⊕ (((List (List Int)) × Unit) ⊕ Empty)) := fun y3 =>
  (cond (decide (y3.2.1 < (x.1.length : Int))) ((getI x.1 y3.2.1).bind fun v4 => ((loopM (times_Either_l1 x v4) (y3.1, (0 : Int), ())).bind (Sum.elim (fun z8 => (some (Sum.inl (z8.1, (IntKind.i64.wrap (y3.2.1 + (1 : Int))), ())))) Empty.elim))) (some (Sum.inr (Sum.inl (y3.1, ())))))
noncomputable def times_Either_l3 (x : ((List (List Int)) × (List (List Int)) × Unit)) (v13 : (List Int)) : ((List (List Int)) × Int × Unit) → Option (((List (List Int)) × Int × Unit) ⊕ (((List (List Int)) × Unit) ⊕ Empty)) := fun y14 =>
  (cond (decide (y14.2.1 < (x.2.1.length : Int))) ((getI x.2.1 y14.2.1).bind fun v15 => ((times_Over (v13, v15, ())).bind fun r16 => (cond (true && roomOk (y14.1.length + ([r16.1]).length) 24 && true && true) (some (Sum.inl ((y14.1 ++ [r16.1]), (IntKind.i64.wrap (y14.2.1 + (1 : Int))), ()))) none))) (some (Sum.inr (Sum.inl (y14.1, ())))))
noncomputable def times_Either_l4 (x : ((List (List Int)) × (List (List Int)) × Unit)) : ((List (List Int)) × Int × Unit) → Option (((List (List Int)) × Int × Unit) ⊕ (((List (List Int)) × Unit) ⊕ Empty)) := fun y12 =>
  (cond (decide (y12.2.1 < (x.1.length : Int))) ((getI x.1 y12.2.1).bind fun v13 => ((loopM (times_Either_l3 x v13) (y12.1, (0 : Int), ())).bind (Sum.elim (fun z17 => (some (Sum.inl (z17.1, (IntKind.i64.wrap (y12.2.1 + (1 : Int))), ())))) Empty.elim))) (some (Sum.inr (Sum.inl (y12.1, ())))))
noncomputable def times_Either : ((List (List Int)) × (List (List Int)) × Unit) → Option ((List (List Int)) × Int × Unit) := fun x =>
  ((times_lists x).bind fun r1 => (cond (r1.1 == (0 : Int)) (((cond (decide ((IntKind.i64.wrap ((x.1.length : Int) * (x.2.1.length : Int))) > (64 : Int))) (some (Sum.inl ((1 : Int), ()))) (some (Sum.inl r1))) : Option ((Int × Unit) ⊕ Empty)).bind (Sum.elim (fun z2 => (cond (z2.1 != (0 : Int)) (some (([] : (List (List Int))), z2.1, ())) ((loopM (times_Either_l2 x) (([] : (List (List Int))), (0 : Int), ())).bind (Sum.elim (fun z9 => ((times_Least z9).bind fun r10 => (some (r10.1, (0 : Int), ())))) Empty.elim)))) Empty.elim)) (((some (Sum.inl r1)) : Option ((Int × Unit) ⊕ Empty)).bind (Sum.elim (fun z11 => (cond (z11.1 != (0 : Int)) (some (([] : (List (List Int))), z11.1, ())) ((loopM (times_Either_l4 x) (([] : (List (List Int))), (0 : Int), ())).bind (Sum.elim (fun z18 => ((times_Least z18).bind fun r19 => (some (r19.1, (0 : Int), ())))) Empty.elim)))) Empty.elim))))
def an49 : Ann := (.seq .leaf (.seq .leaf (.seq (.seq .leaf (.join [6] [] [] [] [(.nrm, [.tmp 6 (.int .i64)])] (.br .leaf .leaf))) (.seq (.seq .leaf (.br (.seq .leaf .leaf) .leaf)) (.seq .leaf (.seq (.seq .leaf (.blk (.loop [7, 9, 11, 30, 31, 32, 33, 34, 35, 36, 37, 38, 39, 40, 41, 42, 43, 44, 45, 46, 47] [43, 44, 45, 1024, 1025] [] [] [.arr 1025 34 (.list (.int .i64)) (.t 7), .own 7 1025, .tmp 30 (.int .i64)] [((.ex 0), [.arr 1025 34 (.list (.int .i64)) (.t 7), .own 7 1025])] (.seq .leaf (.seq (.br .leaf .leaf) (.seq (.blk (.seq .leaf (.seq .leaf (.blk (.loop [7, 11, 36, 37, 38, 39, 40, 41, 42, 43, 44, 45, 46] [43, 44, 45, 1024] [1025] [] [.arr 1024 34 (.list (.int .i64)) (.t 7), .own 7 1024, .tmp 36 (.int .i64)] [((.ex 2), [.arr 1024 34 (.list (.int .i64)) (.t 7), .own 7 1024])] (.seq .leaf (.seq (.br .leaf .leaf) (.seq (.blk (.seq .leaf .leaf)) .leaf)))))))) .leaf)))))) (.seq .leaf .leaf)))))))
noncomputable def sp49 : Abs.Spec := { args := [(false, (.list (.list (.int .i64)))), (false, (.list (.list (.int .i64))))], res := [.own 34 (.list (.int .i64)), .val false (.int .i64)], f := times_Either }
theorem ok49 : FunOK' prog (Abs.look gls) 49 sp49 :=
  evalFn_ok (C := mkCtx tis [(87, sp87), (95, sp95), (97, sp97)] [] [] gls pus []) (mkCtx_ok mixed tis_ok (specs_cons ok87 (specs_cons ok95 (specs_cons ok97 specs_nil))) bodies_nil ) mixed func49 (by kernel_rfl) (an := an49) (by kernel_rfl) (fun x => by kernel_rfl)

/-- watershed/watershedref.TimesCheck -/
noncomputable def ref_TimesCheck_l1 (x : ((List Int) × Unit)) : (Int × Unit) → Option ((Int × Unit) ⊕ ((Int × Unit) ⊕ (Unit) ⊕ Empty)) := fun y1 =>
  (cond (decide (y1.1 < (x.1.length : Int))) ((getI x.1 y1.1).bind fun v2 => (cond (decide (v2 < (0 : Int))) (some (Sum.inr (Sum.inl ((2 : Int), ())))) (cond (decide (v2 > (1048576 : Int))) (some (Sum.inr (Sum.inl ((2 : Int), ())))) (some (Sum.inl ((IntKind.i64.wrap (y1.1 + (1 : Int))), ())))))) (some (Sum.inr (Sum.inr (Sum.inl ())))))
noncomputable def ref_TimesCheck : ((List Int) × Unit) → Option (Int × Unit) := fun x =>
  (cond (decide ((x.1.length : Int) < (1 : Int))) (some ((1 : Int), ())) (cond (decide ((x.1.length : Int) > (4 : Int))) (some ((1 : Int), ())) ((loopM (ref_TimesCheck_l1 x) ((0 : Int), ())).bind (Sum.elim (fun z3 => (some z3)) (Sum.elim (fun z4 => (some ((0 : Int), ()))) Empty.elim)))))
def an45 : Ann := (.seq .leaf (.seq (.seq .leaf (.br (.seq .leaf .leaf) .leaf)) (.seq (.seq .leaf (.blk (.loop [2, 4, 15, 16, 17, 18, 19, 20, 21, 22, 23, 24, 25] [] [] [] [.tmp 15 (.int .i64)] [(.ret, [.tmp 2 (.int .i64)]), ((.ex 0), [])] (.seq .leaf (.seq (.br .leaf .leaf) (.seq (.blk (.seq .leaf (.seq .leaf (.br (.seq .leaf .leaf) .leaf)))) .leaf)))))) (.seq .leaf .leaf))))
noncomputable def sp45 : Abs.Spec := { args := [(false, (.list (.int .i64)))], res := [.val false (.int .i64)], f := ref_TimesCheck }
theorem ok45 : FunOK' prog (Abs.look gls) 45 sp45 :=
  evalFn_ok (C := mkCtx tis [] [] [] gls pus []) (mkCtx_ok mixed tis_ok specs_nil bodies_nil ) mixed func45 (by kernel_rfl) (an := an45) (by kernel_rfl) (fun x => by kernel_rfl)

/-- watershed/watershedref.TimesList -/
noncomputable def ref_TimesList_l1 (x : ((List (List Int)) × Unit)) : (Int × Unit) → Option ((Int × Unit) ⊕ ((Int × Unit) ⊕ (Unit) ⊕ Empty)) := fun y1 =>
  (cond (decide (y1.1 < (x.1.length : Int))) ((getI x.1 y1.1).bind fun v2 => ((ref_TimesCheck (v2, ())).bind fun r3 => (cond (r3.1 != (0 : Int)) ((ref_TimesCheck (v2, ())).bind fun r4 => (some (Sum.inr (Sum.inl r4)))) (some (Sum.inl ((IntKind.i64.wrap (y1.1 + (1 : Int))), ())))))) (some (Sum.inr (Sum.inr (Sum.inl ())))))
noncomputable def ref_TimesList_l2 (x : ((List (List Int)) × Unit)) : (Int × Unit) → Option ((Int × Unit) ⊕ ((Int × Unit) ⊕ (Unit) ⊕ Empty)) := fun y7 =>
  (cond (decide (y7.1 < (x.1.length : Int))) ((getI x.1 y7.1).bind fun v8 => ((getI x.1 (0 : Int)).bind fun v9 => (cond ((v8.length : Int) != (v9.length : Int)) (some (Sum.inr (Sum.inl ((3 : Int), ())))) (some (Sum.inl ((IntKind.i64.wrap (y7.1 + (1 : Int))), ())))))) (some (Sum.inr (Sum.inr (Sum.inl ())))))
noncomputable def ref_TimesList : ((List (List Int)) × Unit) → Option (Int × Unit) := fun x =>
  (cond (decide ((x.1.length : Int) > (64 : Int))) (some ((1 : Int), ())) ((loopM (ref_TimesList_l1 x) ((0 : Int), ())).bind (Sum.elim (fun z5 => (some z5)) (Sum.elim (fun z6 => ((loopM (ref_TimesList_l2 x) ((0 : Int), ())).bind (Sum.elim (fun z10 => (some z10)) (Sum.elim (fun z11 => (some ((0 : Int), ()))) Empty.elim)))) Empty.elim))))
def an40 : Ann := (.seq .leaf (.seq (.seq .leaf (.br (.seq .leaf .leaf) .leaf)) (.seq (.seq .leaf (.blk (.loop [2, 4, 12, 13, 14, 15, 16, 17, 18, 19, 20, 21] [17, 20] [] [] [.tmp 12 (.int .i64)] [(.ret, [.tmp 2 (.int .i64)]), ((.ex 0), [])] (.seq .leaf (.seq (.br .leaf .leaf) (.seq (.blk (.seq .leaf (.seq .leaf (.br (.seq .leaf .leaf) .leaf)))) .leaf)))))) (.seq (.seq .leaf (.blk (.loop [2, 6, 24, 25, 26, 27, 28, 29, 30, 31, 32, 33, 34, 35] [] [] [] [.tmp 24 (.int .i64)] [(.ret, [.tmp 2 (.int .i64)]), ((.ex 2), [])] (.seq .leaf (.seq (.br .leaf .leaf) (.seq (.blk (.seq .leaf (.seq .leaf (.br (.seq .leaf .leaf) .leaf)))) .leaf)))))) (.seq .leaf .leaf)))))
noncomputable def sp40 : Abs.Spec := { args := [(false, (.list (.list (.int .i64))))], res := [.val false (.int .i64)], f := ref_TimesList }
theorem ok40 : FunOK' prog (Abs.look gls) 40 sp40 :=
  evalFn_ok (C := mkCtx tis [(45, sp45)] [] [] gls pus []) (mkCtx_ok mixed tis_ok (specs_cons ok45 specs_nil) bodies_nil ) mixed func40 (by kernel_rfl) (an := an40) (by kernel_rfl) (fun x => by kernel_rfl)

/-- watershed/watershedref.TimesLists -/
noncomputable def ref_TimesLists : ((List (List Int)) × (List (List Int)) × Unit) → Option (Int × Unit) := fun x =>
  ((ref_TimesList (x.1, ())).bind fun r1 => (cond (r1.1 != (0 : Int)) ((ref_TimesList (x.1, ())).bind fun r2 => (some r2)) ((ref_TimesList (x.2.1, ())).bind fun r3 => (cond (r3.1 != (0 : Int)) ((ref_TimesList (x.2.1, ())).bind fun r4 => (some r4)) (cond (decide ((x.1.length : Int) > (0 : Int))) (cond (decide ((x.2.1.length : Int) > (0 : Int))) ((getI x.1 (0 : Int)).bind fun v5 => ((getI x.2.1 (0 : Int)).bind fun v6 => (cond ((v5.length : Int) != (v6.length : Int)) (some ((3 : Int), ())) (some ((0 : Int), ()))))) (some ((0 : Int), ()))) (some ((0 : Int), ())))))))
def an50 : Ann := (.seq .leaf (.seq (.seq .leaf (.br (.seq .leaf .leaf) .leaf)) (.seq (.seq .leaf (.br (.seq .leaf .leaf) .leaf)) (.seq (.seq .leaf (.br (.seq .leaf .leaf) .leaf)) (.seq .leaf .leaf)))))
noncomputable def sp50 : Abs.Spec := { args := [(false, (.list (.list (.int .i64)))), (false, (.list (.list (.int .i64))))], res := [.val false (.int .i64)], f := ref_TimesLists }
theorem ok50 : FunOK' prog (Abs.look gls) 50 sp50 :=
  evalFn_ok (C := mkCtx tis [(40, sp40)] [] [] gls pus []) (mkCtx_ok mixed tis_ok (specs_cons ok40 specs_nil) bodies_nil ) mixed func50 (by kernel_rfl) (an := an50) (by kernel_rfl) (fun x => by kernel_rfl)

/-- watershed/watershedref.TimesLeq -/
noncomputable def ref_TimesLeq_l1 (x : ((List Int) × (List Int) × Unit)) : (Int × Unit) → Option ((Int × Unit) ⊕ ((Bool × Unit) ⊕ (Unit) ⊕ Empty)) := fun y3 =>
  (cond (decide (y3.1 < (x.1.length : Int))) ((getI x.1 y3.1).bind fun v4 => ((getI x.2.1 y3.1).bind fun v5 => (cond (decide (v4 > v5)) (some (Sum.inr (Sum.inl (false, ())))) (some (Sum.inl ((IntKind.i64.wrap (y3.1 + (1 : Int))), ())))))) (some (Sum.inr (Sum.inr (Sum.inl ())))))
noncomputable def ref_TimesLeq : ((List Int) × (List Int) × Unit) → Option (Bool × Unit) := fun x =>
  (cond ((x.1.length : Int) != (x.2.1.length : Int)) (some (false, ())) ((ref_TimesCheck (x.1, ())).bind fun r1 => (cond (r1.1 != (0 : Int)) (some (false, ())) ((ref_TimesCheck (x.2.1, ())).bind fun r2 => (cond (r2.1 != (0 : Int)) (some (false, ())) ((loopM (ref_TimesLeq_l1 x) ((0 : Int), ())).bind (Sum.elim (fun z6 => (some z6)) (Sum.elim (fun z7 => (some (true, ()))) Empty.elim))))))))
def an94 : Ann := (.seq .leaf (.seq (.seq .leaf (.br (.seq .leaf .leaf) .leaf)) (.seq (.seq .leaf (.blk (.loop [4, 5, 21, 22, 23, 24, 25, 26, 27, 28, 29, 30, 31, 32, 33, 34, 35] [] [] [] [.tmp 5 (.int .i64)] [(.ret, [.tmp 4 .bool]), ((.ex 0), [])] (.seq (.seq .leaf (.br .leaf .leaf)) (.seq (.blk (.seq .leaf (.br (.seq .leaf .leaf) .leaf))) .leaf))))) (.seq .leaf .leaf))))
noncomputable def sp94 : Abs.Spec := { args := [(false, (.list (.int .i64))), (false, (.list (.int .i64)))], res := [.val false .bool], f := ref_TimesLeq }
theorem ok94 : FunOK' prog (Abs.look gls) 94 sp94 :=
  evalFn_ok (C := mkCtx tis [(45, sp45)] [] [] gls pus []) (mkCtx_ok mixed tis_ok (specs_cons ok45 specs_nil) bodies_nil ) mixed func94 (by kernel_rfl) (an := an94) (by kernel_rfl) (fun x => by kernel_rfl)

/-- watershed/watershedref.TimesOpen -/
noncomputable def ref_TimesOpen_l1 (x : ((List (List Int)) × (List Int) × Unit)) : (Int × Unit) → Option ((Int × Unit) ⊕ ((Bool × Unit) ⊕ (Unit) ⊕ Empty)) := fun y1 =>
  (cond (decide (y1.1 < (x.1.length : Int))) ((getI x.1 y1.1).bind fun v2 => ((ref_TimesLeq (v2, x.2.1, ())).bind fun r3 => (cond r3.1 (some (Sum.inr (Sum.inl (true, ())))) (some (Sum.inl ((IntKind.i64.wrap (y1.1 + (1 : Int))), ())))))) (some (Sum.inr (Sum.inr (Sum.inl ())))))
noncomputable def ref_TimesOpen : ((List (List Int)) × (List Int) × Unit) → Option (Bool × Unit) := fun x =>
  ((loopM (ref_TimesOpen_l1 x) ((0 : Int), ())).bind (Sum.elim (fun z4 => (some z4)) (Sum.elim (fun z5 => (some (false, ()))) Empty.elim)))
def an99 : Ann := (.seq .leaf (.seq (.seq .leaf (.blk (.loop [4, 6, 9, 10, 11, 12, 13, 14, 15, 16] [15] [] [] [.tmp 9 (.int .i64)] [(.ret, [.tmp 4 .bool]), ((.ex 0), [])] (.seq .leaf (.seq (.br .leaf .leaf) (.seq (.blk (.seq .leaf (.seq .leaf (.br (.seq .leaf .leaf) .leaf)))) .leaf)))))) (.seq .leaf .leaf)))
noncomputable def sp99 : Abs.Spec := { args := [(false, (.list (.list (.int .i64)))), (false, (.list (.int .i64)))], res := [.val false .bool], f := ref_TimesOpen }
theorem ok99 : FunOK' prog (Abs.look gls) 99 sp99 :=
  evalFn_ok (C := mkCtx tis [(94, sp94)] [] [] gls pus []) (mkCtx_ok mixed tis_ok (specs_cons ok94 specs_nil) bodies_nil ) mixed func99 (by kernel_rfl) (an := an99) (by kernel_rfl) (fun x => by kernel_rfl)

/-- watershed/watershedref.TimesBefore -/
noncomputable def ref_TimesBefore_l1 (x : ((List (List Int)) × (List (List Int)) × Unit)) : (Int × Unit) → Option ((Int × Unit) ⊕ ((Bool × Unit) ⊕ (Unit) ⊕ Empty)) := fun y1 =>
  (cond (decide (y1.1 < (x.2.1.length : Int))) ((getI x.2.1 y1.1).bind fun v2 => ((ref_TimesOpen (x.1, v2, ())).bind fun r3 => (cond (!r3.1) (some (Sum.inr (Sum.inl (false, ())))) (some (Sum.inl ((IntKind.i64.wrap (y1.1 + (1 : Int))), ())))))) (some (Sum.inr (Sum.inr (Sum.inl ())))))
noncomputable def ref_TimesBefore : ((List (List Int)) × (List (List Int)) × Unit) → Option (Bool × Unit) := fun x =>
  ((loopM (ref_TimesBefore_l1 x) ((0 : Int), ())).bind (Sum.elim (fun z4 => (some z4)) (Sum.elim (fun z5 => (some (true, ()))) Empty.elim)))
def an51 : Ann := (.seq .leaf (.seq (.seq .leaf (.blk (.loop [4, 6, 9, 10, 11, 12, 13, 14, 15, 16, 17] [15] [] [] [.tmp 9 (.int .i64)] [(.ret, [.tmp 4 .bool]), ((.ex 0), [])] (.seq .leaf (.seq (.br .leaf .leaf) (.seq (.blk (.seq .leaf (.seq .leaf (.br (.seq .leaf .leaf) .leaf)))) .leaf)))))) (.seq .leaf .leaf)))
noncomputable def sp51 : Abs.Spec := { args := [(false, (.list (.list (.int .i64)))), (false, (.list (.list (.int .i64))))], res := [.val false .bool], f := ref_TimesBefore }
theorem ok51 : FunOK' prog (Abs.look gls) 51 sp51 :=
  evalFn_ok (C := mkCtx tis [(99, sp99)] [] [] gls pus []) (mkCtx_ok mixed tis_ok (specs_cons ok99 specs_nil) bodies_nil ) mixed func51 (by kernel_rfl) (an := an51) (by kernel_rfl) (fun x => by kernel_rfl)

/-- watershed/watershedref.TimesAll -/
noncomputable def ref_TimesAll_l1 (x : ((List (List Int)) × (List (List Int)) × Unit)) : ((List (List Int)) × Int × Unit) → Option (((List (List Int)) × Int × Unit) ⊕ (((List (List Int)) × Unit) ⊕ Empty)) := fun y1 =>
  (cond (decide (y1.2.1 < (x.1.length : Int))) ((getI x.1 y1.2.1).bind fun v2 => (cond (true && roomOk (y1.1.length + ([v2]).length) 24 && true && true) (some (Sum.inl ((y1.1 ++ [v2]), (IntKind.i64.wrap (y1.2.1 + (1 : Int))), ()))) none)) (some (Sum.inr (Sum.inl (y1.1, ())))))
noncomputable def ref_TimesAll_l2 (x : ((List (List Int)) × (List (List Int)) × Unit)) : ((List (List Int)) × Int × Unit) → Option (((List (List Int)) × Int × Unit) ⊕ (((List (List Int)) × Unit) ⊕ Empty)) := fun y4 =>
  (cond (decide (y4.2.1 < (x.2.1.length : Int))) ((getI x.2.1 y4.2.1).bind fun v5 => (cond (true && roomOk (y4.1.length + ([v5]).length) 24 && true && true) (some (Sum.inl ((y4.1 ++ [v5]), (IntKind.i64.wrap (y4.2.1 + (1 : Int))), ()))) none)) (some (Sum.inr (Sum.inl (y4.1, ())))))
noncomputable def ref_TimesAll : ((List (List Int)) × (List (List Int)) × Unit) → Option ((List (List Int)) × Unit) := fun x =>
  ((loopM (ref_TimesAll_l1 x) (([] : (List (List Int))), (0 : Int), ())).bind (Sum.elim (fun z3 => ((loopM (ref_TimesAll_l2 x) (z3.1, (0 : Int), ())).bind (Sum.elim (fun z6 => (some z6)) Empty.elim))) Empty.elim))
def an54 : Ann := (.seq .leaf (.seq .leaf (.seq (.seq .leaf (.blk (.loop [5, 7, 12, 13, 14, 15, 16, 17, 18, 19, 20] [18, 19, 1024] [] [] [.arr 1024 34 (.list (.int .i64)) (.t 5), .own 5 1024, .tmp 12 (.int .i64)] [((.ex 0), [.arr 1024 34 (.list (.int .i64)) (.t 5), .own 5 1024])] (.seq .leaf (.seq (.br .leaf .leaf) (.seq (.blk (.seq .leaf .leaf)) .leaf)))))) (.seq (.seq .leaf (.blk (.loop [5, 9, 23, 24, 25, 26, 27, 28, 29, 30, 31] [29, 30, 1025] [1024] [] [.arr 1025 34 (.list (.int .i64)) (.t 5), .own 5 1025, .tmp 23 (.int .i64)] [((.ex 2), [.arr 1025 34 (.list (.int .i64)) (.t 5), .own 5 1025])] (.seq .leaf (.seq (.br .leaf .leaf) (.seq (.blk (.seq .leaf .leaf)) .leaf)))))) (.seq .leaf .leaf)))))
noncomputable def sp54 : Abs.Spec := { args := [(false, (.list (.list (.int .i64)))), (false, (.list (.list (.int .i64))))], res := [.own 34 (.list (.int .i64))], f := ref_TimesAll }
theorem ok54 : FunOK' prog (Abs.look gls) 54 sp54 :=
  evalFn_ok (C := mkCtx tis [] [] [] gls pus []) (mkCtx_ok mixed tis_ok specs_nil bodies_nil ) mixed func54 (by kernel_rfl) (an := an54) (by kernel_rfl) (fun x => by kernel_rfl)

/-- watershed/watershedref.TimesLess -/
noncomputable def ref_TimesLess_l1 (x : ((List Int) × (List Int) × Unit)) : (Int × Unit) → Option ((Int × Unit) ⊕ ((Bool × Unit) ⊕ (Unit) ⊕ Empty)) := fun y3 =>
  (cond (decide (y3.1 < (x.1.length : Int))) ((getI x.1 y3.1).bind fun v4 => ((getI x.2.1 y3.1).bind fun v5 => (cond (v4 != v5) ((getI x.1 y3.1).bind fun v6 => ((getI x.2.1 y3.1).bind fun v7 => (some (Sum.inr (Sum.inl ((decide (v6 < v7)), ())))))) (some (Sum.inl ((IntKind.i64.wrap (y3.1 + (1 : Int))), ())))))) (some (Sum.inr (Sum.inr (Sum.inl ())))))
noncomputable def ref_TimesLess : ((List Int) × (List Int) × Unit) → Option (Bool × Unit) := fun x =>
  (cond ((x.1.length : Int) != (x.2.1.length : Int)) (some (false, ())) ((ref_TimesCheck (x.1, ())).bind fun r1 => (cond (r1.1 != (0 : Int)) (some (false, ())) ((ref_TimesCheck (x.2.1, ())).bind fun r2 => (cond (r2.1 != (0 : Int)) (some (false, ())) ((loopM (ref_TimesLess_l1 x) ((0 : Int), ())).bind (Sum.elim (fun z8 => (some z8)) (Sum.elim (fun z9 => (some (false, ()))) Empty.elim))))))))
def an84 : Ann := (.seq .leaf (.seq (.seq .leaf (.br (.seq .leaf .leaf) .leaf)) (.seq (.seq .leaf (.blk (.loop [4, 5, 21, 22, 23, 24, 25, 26, 27, 28, 29, 30, 31, 32, 33, 34, 35, 36, 37, 38, 39, 40, 41, 42, 43, 44] [] [] [] [.tmp 5 (.int .i64)] [(.ret, [.tmp 4 .bool]), ((.ex 0), [])] (.seq (.seq .leaf (.br .leaf .leaf)) (.seq (.blk (.seq .leaf (.br (.seq .leaf .leaf) .leaf))) .leaf))))) (.seq .leaf .leaf))))
noncomputable def sp84 : Abs.Spec := { args := [(false, (.list (.int .i64))), (false, (.list (.int .i64)))], res := [.val false .bool], f := ref_TimesLess }
theorem ok84 : FunOK' prog (Abs.look gls) 84 sp84 :=
  evalFn_ok (C := mkCtx tis [(45, sp45)] [] [] gls pus []) (mkCtx_ok mixed tis_ok (specs_cons ok45 specs_nil) bodies_nil ) mixed func84 (by kernel_rfl) (an := an84) (by kernel_rfl) (fun x => by kernel_rfl)

/-- watershed/watershedref.TimesSame -/
noncomputable def ref_TimesSame_l1 (x : ((List Int) × (List Int) × Unit)) : (Int × Unit) → Option ((Int × Unit) ⊕ ((Bool × Unit) ⊕ (Unit) ⊕ Empty)) := fun y1 =>
  (cond (decide (y1.1 < (x.1.length : Int))) ((getI x.1 y1.1).bind fun v2 => ((getI x.2.1 y1.1).bind fun v3 => (cond (v2 != v3) (some (Sum.inr (Sum.inl (false, ())))) (some (Sum.inl ((IntKind.i64.wrap (y1.1 + (1 : Int))), ())))))) (some (Sum.inr (Sum.inr (Sum.inl ())))))
noncomputable def ref_TimesSame : ((List Int) × (List Int) × Unit) → Option (Bool × Unit) := fun x =>
  (cond ((x.1.length : Int) != (x.2.1.length : Int)) (some (false, ())) ((loopM (ref_TimesSame_l1 x) ((0 : Int), ())).bind (Sum.elim (fun z4 => (some z4)) (Sum.elim (fun z5 => (some (true, ()))) Empty.elim))))
def an85 : Ann := (.seq .leaf (.seq (.seq .leaf (.br (.seq .leaf .leaf) .leaf)) (.seq (.seq .leaf (.blk (.loop [4, 5, 11, 12, 13, 14, 15, 16, 17, 18, 19, 20, 21, 22, 23, 24, 25] [] [] [] [.tmp 5 (.int .i64)] [(.ret, [.tmp 4 .bool]), ((.ex 0), [])] (.seq (.seq .leaf (.br .leaf .leaf)) (.seq (.blk (.seq .leaf (.br (.seq .leaf .leaf) .leaf))) .leaf))))) (.seq .leaf .leaf))))
noncomputable def sp85 : Abs.Spec := { args := [(false, (.list (.int .i64))), (false, (.list (.int .i64)))], res := [.val false .bool], f := ref_TimesSame }
theorem ok85 : FunOK' prog (Abs.look gls) 85 sp85 :=
  evalFn_ok (C := mkCtx tis [] [] [] gls pus []) (mkCtx_ok mixed tis_ok specs_nil bodies_nil ) mixed func85 (by kernel_rfl) (an := an85) (by kernel_rfl) (fun x => by kernel_rfl)

/-- watershed/watershedref.TimesSorted -/
noncomputable def ref_TimesSorted_l1 (y1 : ((List (List Int)) × Int × Unit)) (v2 : (List Int)) : (Int × Unit) → Option ((Int × Unit) ⊕ ((Int × Unit) ⊕ Empty)) := fun y3 =>
  (cond (decide (y3.1 < (y1.1.length : Int))) ((getI y1.1 y3.1).bind fun v4 => ((ref_TimesLess (v4, v2, ())).bind fun r5 => (cond r5.1 (some (Sum.inl ((IntKind.i64.wrap (y3.1 + (1 : Int))), ()))) (some (Sum.inr (Sum.inl y3)))))) (some (Sum.inr (Sum.inl y3))))
noncomputable def ref_TimesSorted_l2 (z6 : (Int × Unit)) (y1 : ((List (List Int)) × Int × Unit)) : ((List (List Int)) × Int × Unit) → Option (((List (List Int)) × Int × Unit) ⊕ (((List (List Int)) × Unit) ⊕ Empty)) := fun y9 =>
  (cond (decide (y9.2.1 < z6.1)) ((getI y1.1 y9.2.1).bind fun v10 => (cond (true && roomOk (y9.1.length + ([v10]).length) 24 && true && true) (some (Sum.inl ((y9.1 ++ [v10]), (IntKind.i64.wrap (y9.2.1 + (1 : Int))), ()))) none)) (some (Sum.inr (Sum.inl (y9.1, ())))))
noncomputable def ref_TimesSorted_l3 (y1 : ((List (List Int)) × Int × Unit)) : ((List (List Int)) × Int × Unit) → Option (((List (List Int)) × Int × Unit) ⊕ (((List (List Int)) × Unit) ⊕ Empty)) := fun y12 =>
  (cond (decide (y12.2.1 < (y1.1.length : Int))) ((getI y1.1 y12.2.1).bind fun v13 => (cond (true && roomOk (y12.1.length + ([v13]).length) 24 && true && true) (some (Sum.inl ((y12.1 ++ [v13]), (IntKind.i64.wrap (y12.2.1 + (1 : Int))), ()))) none)) (some (Sum.inr (Sum.inl (y12.1, ())))))
noncomputable def ref_TimesSorted_l4 (z6 : (Int × Unit)) (y1 : ((List (List Int)) × Int × Unit)) : ((List (List Int)) × Int × Unit) → Option (((List (List Int)) × Int × Unit) ⊕ (((List (List Int)) × Unit) ⊕ Empty)) := fun y15 =>
  (cond (decide (y15.2.1 < z6.1)) ((getI y1.1 y15.2.1).bind fun v16 => (cond (true && roomOk (y15.1.length + ([v16]).length) 24 && true && true) (some (Sum.inl ((y15.1 ++ [v16]), (IntKind.i64.wrap (y15.2.1 + (1 : Int))), ()))) none)) (some (Sum.inr (Sum.inl (y15.1, ())))))
noncomputable def ref_TimesSorted_l5 (y1 : ((List (List Int)) × Int × Unit)) : ((List (List Int)) × Int × Unit) → Option (((List (List Int)) × Int × Unit) ⊕ (((List (List Int)) × Unit) ⊕ Empty)) := fun y18 =>
  (cond (decide (y18.2.1 < (y1.1.length : Int))) ((getI y1.1 y18.2.1).bind fun v19 => (cond (true && roomOk (y18.1.length + ([v19]).length) 24 && true && true) (some (Sum.inl ((y18.1 ++ [v19]), (IntKind.i64.wrap (y18.2.1 + (1 : Int))), ()))) none)) (some (Sum.inr (Sum.inl (y18.1, ())))))
noncomputable def ref_TimesSorted_l6 (x : ((List (List Int)) × Unit)) : ((List (List Int)) × Int × Unit) → Option (((List (List Int)) × Int × Unit) ⊕ (((List (List Int)) × Unit) ⊕ Empty)) := fun y1 =>
  (cond (decide (y1.2.1 < (x.1.length : Int))) ((getI x.1 y1.2.1).bind fun v2 => ((loopM (ref_TimesSorted_l1 y1 v2) ((0 : Int), ())).bind (Sum.elim (fun z6 => (cond (decide (z6.1 < (y1.1.length : Int))) ((getI y1.1 z6.1).bind fun v7 => ((ref_TimesSame (v7, v2, ())).bind fun r8 => (cond r8.1 (some (Sum.inl (y1.1, (IntKind.i64.wrap (y1.2.1 + (1 : Int))), ()))) ((loopM (ref_TimesSorted_l2 z6 y1) (([] : (List (List Int))), (0 : Int), ())).bind (Sum.elim (fun z11 => (cond (true && roomOk (z11.1.length + ([v2]).length) 24 && true && true) ((loopM (ref_TimesSorted_l3 y1) ((z11.1 ++ [v2]), z6.1, ())).bind (Sum.elim (fun z14 => (some (Sum.inl (z14.1, (IntKind.i64.wrap (y1.2.1 + (1 : Int))), ())))) Empty.elim)) none)) Empty.elim))))) ((loopM (ref_TimesSorted_l4 z6 y1) (([] : (List (List Int))), (0 : Int), ())).bind (Sum.elim (fun z17 => (cond (true && roomOk (z17.1.length + ([v2]).length) 24 && true && true) ((loopM (ref_TimesSorted_l5 y1) ((z17.1 ++ [v2]), z6.1, ())).bind (Sum.elim (fun z20 => (some (Sum.inl (z20.1, (IntKind.i64.wrap (y1.2.1 + (1 : Int))), ())))) Empty.elim)) none)) Empty.elim)))) Empty.elim))) (some (Sum.inr (Sum.inl (y1.1, ())))))
noncomputable def ref_TimesSorted : ((List (List Int)) × Unit) → Option ((List (List Int)) × Unit) := fun x =>
  ((loopM (ref_TimesSorted_l6 x) (([] : (List (List Int))), (0 : Int), ())).bind (Sum.elim (fun z21 => (some z21)) Empty.elim))
def an34 : Ann := (.seq .leaf (.seq .leaf (.seq (.seq .leaf (.blk (.loop [3, 5, 6, 7, 8, 9, 12, 13, 14, 15, 16, 17, 18, 19, 20, 21, 22, 23, 24, 25, 26, 27, 28, 29, 30, 31, 32, 33, 34, 35, 36, 37, 38, 39, 40, 41, 42, 43, 44, 45, 46, 47, 48, 49, 50, 51, 52, 53, 54, 55, 56, 57, 58, 59, 60, 61, 62, 63, 64, 65, 66, 67, 68, 69, 70, 71, 72, 73] [26, 40, 52, 53, 56, 57, 70, 71, 1024, 1025] [] [] [.tmp 3 (.list (.list (.int .i64))), .tmp 12 (.int .i64)] [((.ex 0), [.tmp 3 (.list (.list (.int .i64)))])] (.seq .leaf (.seq (.br .leaf .leaf) (.seq (.blk (.seq .leaf (.seq .leaf (.seq (.blk (.loop [6, 16, 17, 18, 19, 20, 21, 22, 23, 24, 25, 26, 27, 28, 29] [26] [] [] [.tmp 6 (.int .i64)] [((.ex 2), [.tmp 6 (.int .i64)])] (.seq (.seq .leaf (.br .leaf .leaf)) (.blk .leaf)))) (.seq (.seq .leaf (.br .leaf .leaf)) (.seq .leaf (.seq (.seq .leaf (.blk (.loop [7, 8, 42, 43, 44, 45, 46, 47, 48, 49, 50, 51, 52, 53] [52, 53, 1024] [] [] [.arr 1024 34 (.list (.int .i64)) (.t 7), .own 7 1024, .tmp 8 (.int .i64)] [((.ex 4), [.arr 1024 34 (.list (.int .i64)) (.t 7), .own 7 1024])] (.seq (.seq .leaf (.br .leaf .leaf)) (.seq (.blk .leaf) .leaf))))) (.seq .leaf (.seq (.seq .leaf (.blk (.loop [7, 9, 59, 60, 61, 62, 63, 64, 65, 66, 67, 68, 69, 70, 71] [70, 71, 1025] [57] [] [.arr 1025 34 (.list (.int .i64)) (.t 7), .own 7 1025, .tmp 9 (.int .i64)] [((.ex 6), [.arr 1025 34 (.list (.int .i64)) (.t 7), .own 7 1025])] (.seq (.seq .leaf (.br .leaf .leaf)) (.seq (.blk .leaf) .leaf))))) .leaf))))))))) .leaf)))))) (.seq .leaf .leaf))))
noncomputable def sp34 : Abs.Spec := { args := [(false, (.list (.list (.int .i64))))], res := [.val false (.list (.list (.int .i64)))], f := ref_TimesSorted }
theorem ok34 : FunOK' prog (Abs.look gls) 34 sp34 :=
  evalFn_ok (C := mkCtx tis [(84, sp84), (85, sp85)] [] [] gls pus []) (mkCtx_ok mixed tis_ok (specs_cons ok84 (specs_cons ok85 specs_nil)) bodies_nil ) mixed func34 (by kernel_rfl) (an := an34) (by kernel_rfl) (fun x => by kernel_rfl)

/-- watershed/watershedref.TimesFront -/
noncomputable def ref_TimesFront_l1 (x : ((List (List Int)) × Unit)) (v3 : (List Int)) : (Bool × Int × Unit) → Option ((Bool × Int × Unit) ⊕ ((Bool × Unit) ⊕ Empty)) := fun y4 =>
  (cond (decide (y4.2.1 < (x.1.length : Int))) ((getI x.1 y4.2.1).bind fun v5 => ((ref_TimesLeq (v5, v3, ())).bind fun r6 => (cond r6.1 ((ref_TimesSame (v5, v3, ())).bind fun r7 => (cond (!r7.1) (some (Sum.inl (false, (IntKind.i64.wrap (y4.2.1 + (1 : Int))), ()))) (some (Sum.inl (y4.1, (IntKind.i64.wrap (y4.2.1 + (1 : Int))), ()))))) (some (Sum.inl (y4.1, (IntKind.i64.wrap (y4.2.1 + (1 : Int))), ())))))) (some (Sum.inr (Sum.inl (y4.1, ())))))
noncomputable def ref_TimesFront_l2 (x : ((List (List Int)) × Unit)) (r1 : ((List (List Int)) × Unit)) : ((List (List Int)) × Int × Unit) → Option (((List (List Int)) × Int × Unit) ⊕ (((List (List Int)) × Unit) ⊕ Empty)) := fun y2 =>
  (cond (decide (y2.2.1 < (r1.1.length : Int))) ((getI r1.1 y2.2.1).bind fun v3 => ((loopM (ref_TimesFront_l1 x v3) (true, (0 : Int), ())).bind (Sum.elim (fun z8 => (cond z8.1 (cond (true && roomOk (y2.1.length + ([v3]).length) 24 && true && true) (some (Sum.inl ((y2.1 ++ [v3]), (IntKind.i64.wrap (y2.2.1 + (1 : Int))), ()))) none) (some (Sum.inl (y2.1, (IntKind.i64.wrap (y2.2.1 + (1 : Int))), ()))))) Empty.elim))) (some (Sum.inr (Sum.inl (y2.1, ())))))
noncomputable def ref_TimesFront : ((List (List Int)) × Unit) → Option ((List (List Int)) × Unit) := fun x =>
  ((ref_TimesSorted x).bind fun r1 => ((loopM (ref_TimesFront_l2 x r1) (([] : (List (List Int))), (0 : Int), ())).bind (Sum.elim (fun z9 => (some z9)) Empty.elim)))
def an53 : Ann := (.seq .leaf (.seq .leaf (.seq (.seq .leaf (.blk (.loop [3, 5, 6, 8, 12, 13, 14, 15, 16, 17, 18, 19, 20, 21, 22, 23, 24, 25, 26, 27, 28, 29, 30, 31, 32, 33, 34, 35, 36, 37] [24, 28, 35, 36, 1024] [] [] [.arr 1024 34 (.list (.int .i64)) (.t 3), .own 3 1024, .tmp 12 (.int .i64)] [((.ex 0), [.arr 1024 34 (.list (.int .i64)) (.t 3), .own 3 1024])] (.seq .leaf (.seq (.br .leaf .leaf) (.seq (.blk (.seq .leaf (.seq .leaf (.seq (.seq .leaf (.blk (.loop [6, 8, 18, 19, 20, 21, 22, 23, 24, 25, 26, 27, 28, 29, 30, 31] [24, 28] [] [] [.tmp 6 .bool, .tmp 18 (.int .i64)] [((.ex 2), [.tmp 6 .bool])] (.seq .leaf (.seq (.br .leaf .leaf) (.seq (.blk (.seq .leaf (.seq .leaf (.br .leaf .leaf)))) .leaf)))))) (.seq .leaf (.br .leaf .leaf)))))) .leaf)))))) (.seq .leaf .leaf))))
noncomputable def sp53 : Abs.Spec := { args := [(false, (.list (.list (.int .i64))))], res := [.own 34 (.list (.int .i64))], f := ref_TimesFront }
theorem ok53 : FunOK' prog (Abs.look gls) 53 sp53 :=
  evalFn_ok (C := mkCtx tis [(34, sp34), (85, sp85), (94, sp94)] [] [] gls pus []) (mkCtx_ok mixed tis_ok (specs_cons ok34 (specs_cons ok85 (specs_cons ok94 specs_nil))) bodies_nil ) mixed func53 (by kernel_rfl) (an := an53) (by kernel_rfl) (fun x => by kernel_rfl)

/-- watershed/watershedref.Lists -/
noncomputable def ref_Lists_l1 (x : ((List (List Int)) × (List (List Int)) × Unit)) : (Int × Unit) → Option ((Int × Unit) ⊕ ((Bool × Unit) ⊕ (Unit) ⊕ Empty)) := fun y1 =>
  (cond (decide (y1.1 < (x.1.length : Int))) ((getI x.1 y1.1).bind fun v2 => ((getI x.2.1 y1.1).bind fun v3 => ((ref_TimesSame (v2, v3, ())).bind fun r4 => (cond (!r4.1) (some (Sum.inr (Sum.inl (false, ())))) (some (Sum.inl ((IntKind.i64.wrap (y1.1 + (1 : Int))), ()))))))) (some (Sum.inr (Sum.inr (Sum.inl ())))))
noncomputable def ref_Lists : ((List (List Int)) × (List (List Int)) × Unit) → Option (Bool × Unit) := fun x =>
  (cond ((x.1.length : Int) != (x.2.1.length : Int)) (some (false, ())) ((loopM (ref_Lists_l1 x) ((0 : Int), ())).bind (Sum.elim (fun z5 => (some z5)) (Sum.elim (fun z6 => (some (true, ()))) Empty.elim))))
def an52 : Ann := (.seq .leaf (.seq (.seq .leaf (.br (.seq .leaf .leaf) .leaf)) (.seq (.seq .leaf (.blk (.loop [4, 5, 11, 12, 13, 14, 15, 16, 17, 18, 19, 20, 21, 22, 23, 24, 25, 26] [25] [] [] [.tmp 5 (.int .i64)] [(.ret, [.tmp 4 .bool]), ((.ex 0), [])] (.seq (.seq .leaf (.br .leaf .leaf)) (.seq (.blk (.seq .leaf (.br (.seq .leaf .leaf) .leaf))) .leaf))))) (.seq .leaf .leaf))))
noncomputable def sp52 : Abs.Spec := { args := [(false, (.list (.list (.int .i64)))), (false, (.list (.list (.int .i64))))], res := [.val false .bool], f := ref_Lists }
theorem ok52 : FunOK' prog (Abs.look gls) 52 sp52 :=
  evalFn_ok (C := mkCtx tis [(85, sp85)] [] [] gls pus []) (mkCtx_ok mixed tis_ok (specs_cons ok85 specs_nil) bodies_nil ) mixed func52 (by kernel_rfl) (an := an52) (by kernel_rfl) (fun x => by kernel_rfl)

/-- watershed/watershedref.TimesJoin -/
noncomputable def ref_TimesJoin_l1 (x : ((List Int) × (List Int) × Bool × Unit)) : ((List Int) × Int × Unit) → Option (((List Int) × Int × Unit) ⊕ (((List Int) × Unit) ⊕ Empty)) := fun y1 =>
  (cond (decide (y1.2.1 < (x.1.length : Int))) ((getI x.1 y1.2.1).bind fun v2 => ((getI x.2.1 y1.2.1).bind fun v3 => (cond ((decide (v3 > v2)) == x.2.2.1) ((getI x.2.1 y1.2.1).bind fun v4 => (cond (true && roomOk (y1.1.length + ([v4]).length) 8 && true && true) (some (Sum.inl ((y1.1 ++ [v4]), (IntKind.i64.wrap (y1.2.1 + (1 : Int))), ()))) none)) (cond (true && roomOk (y1.1.length + ([v2]).length) 8 && true && true) (some (Sum.inl ((y1.1 ++ [v2]), (IntKind.i64.wrap (y1.2.1 + (1 : Int))), ()))) none)))) (some (Sum.inr (Sum.inl (y1.1, ())))))
noncomputable def ref_TimesJoin : ((List Int) × (List Int) × Bool × Unit) → Option ((List Int) × Unit) := fun x =>
  ((loopM (ref_TimesJoin_l1 x) (([] : (List Int)), (0 : Int), ())).bind (Sum.elim (fun z5 => (some z5)) Empty.elim))
def an90 : Ann := (.seq .leaf (.seq .leaf (.seq (.seq .leaf (.blk (.loop [7, 8, 9, 10, 11, 12, 13, 14, 15, 16, 17, 18, 19, 20, 21, 22, 23, 24, 25, 26, 27, 28, 29, 30, 31, 32, 33, 34, 35] [34, 35, 1024] [] [] [.arr 1024 3 (.int .i64) (.t 7), .own 7 1024, .tmp 8 (.int .i64)] [((.ex 0), [.arr 1024 3 (.int .i64) (.t 7), .own 7 1024])] (.seq (.seq .leaf (.br .leaf .leaf)) (.seq (.blk (.seq .leaf (.seq (.seq .leaf (.br .leaf .leaf)) .leaf))) .leaf))))) (.seq .leaf .leaf))))
noncomputable def sp90 : Abs.Spec := { args := [(false, (.list (.int .i64))), (false, (.list (.int .i64))), (false, .bool)], res := [.own 3 (.int .i64)], f := ref_TimesJoin }
theorem ok90 : FunOK' prog (Abs.look gls) 90 sp90 :=
  evalFn_ok (C := mkCtx tis [] [] [] gls pus []) (mkCtx_ok mixed tis_ok specs_nil bodies_nil ) mixed func90 (by kernel_rfl) (an := an90) (by kernel_rfl) (fun x => by kernel_rfl)

/-- watershed/watershedref.TimesJoins -/
noncomputable def ref_TimesJoins_l1 (x : ((List (List Int)) × (List (List Int)) × Unit)) (v2 : (List Int)) : ((List (List Int)) × Int × Unit) → Option (((List (List Int)) × Int × Unit) ⊕ (((List (List Int)) × Unit) ⊕ Empty)) := fun y3 =>
  (cond (decide (y3.2.1 < (x.2.1.length : Int))) ((getI x.2.1 y3.2.1).bind fun v4 => ((ref_TimesJoin (v2, v4, true, ())).bind fun r5 => (cond (true && roomOk (y3.1.length + ([r5.1]).length) 24 && true && true) (some (Sum.inl ((y3.1 ++ [r5.1]), (IntKind.i64.wrap (y3.2.1 + (1 : Int))), ()))) none))) (some (Sum.inr (Sum.inl (y3.1, ())))))
noncomputable def ref_TimesJoins_l2 (x : ((List (List Int)) × (List (List Int)) × Unit)) : ((List (List Int)) × Int × Unit) → Option (((List (List Int)) × Int × Unit) ⊕ (((List (List Int)) × Unit) ⊕ Empty)) := fun y1 =>
  (cond (decide (y1.2.1 < (x.1.length : Int))) ((getI x.1 y1.2.1).bind fun v2 => ((loopM (ref_TimesJoins_l1 x v2) (y1.1, (0 : Int), ())).bind (Sum.elim (fun z6 => (some (Sum.inl (z6.1, (IntKind.i64.wrap (y1.2.1 + (1 : Int))), ())))) Empty.elim))) (some (Sum.inr (Sum.inl (y1.1, ())))))
noncomputable def ref_TimesJoins : ((List (List Int)) × (List (List Int)) × Unit) → Option ((List (List Int)) × Unit) := fun x =>
  ((loopM (ref_TimesJoins_l2 x) (([] : (List (List Int))), (0 : Int), ())).bind (Sum.elim (fun z7 => (some z7)) Empty.elim))
def an55 : Ann := (.seq .leaf (.seq .leaf (.seq (.seq .leaf (.blk (.loop [5, 7, 9, 12, 13, 14, 15, 16, 17, 18, 19, 20, 21, 22, 23, 24, 25, 26, 27, 28, 29] [25, 26, 27, 1024, 1025] [] [] [.arr 1025 34 (.list (.int .i64)) (.t 5), .own 5 1025, .tmp 12 (.int .i64)] [((.ex 0), [.arr 1025 34 (.list (.int .i64)) (.t 5), .own 5 1025])] (.seq .leaf (.seq (.br .leaf .leaf) (.seq (.blk (.seq .leaf (.seq .leaf (.blk (.loop [5, 9, 18, 19, 20, 21, 22, 23, 24, 25, 26, 27, 28] [25, 26, 27, 1024] [1025] [] [.arr 1024 34 (.list (.int .i64)) (.t 5), .own 5 1024, .tmp 18 (.int .i64)] [((.ex 2), [.arr 1024 34 (.list (.int .i64)) (.t 5), .own 5 1024])] (.seq .leaf (.seq (.br .leaf .leaf) (.seq (.blk (.seq .leaf .leaf)) .leaf)))))))) .leaf)))))) (.seq .leaf .leaf))))
noncomputable def sp55 : Abs.Spec := { args := [(false, (.list (.list (.int .i64)))), (false, (.list (.list (.int .i64))))], res := [.own 34 (.list (.int .i64))], f := ref_TimesJoins }
theorem ok55 : FunOK' prog (Abs.look gls) 55 sp55 :=
  evalFn_ok (C := mkCtx tis [(90, sp90)] [] [] gls pus []) (mkCtx_ok mixed tis_ok (specs_cons ok90 specs_nil) bodies_nil ) mixed func55 (by kernel_rfl) (an := an55) (by kernel_rfl) (fun x => by kernel_rfl)

/-- watershed/watershedlaw.TimesBefores -/
noncomputable def law_TimesBefores : ((List (List Int)) × (List (List Int)) × Unit) → Option (Bool × Unit) := fun x =>
  ((times_Before x).bind fun r1 => ((times_Both x).bind fun r2 => ((times_Either x).bind fun r3 => ((ref_TimesLists x).bind fun r4 => (cond (r4.1 != (0 : Int)) (cond (r1.2.1 == r4.1) (cond (r2.2.1 == r4.1) (cond (r3.2.1 == r4.1) (cond (!r1.1) (cond ((r2.1.length : Int) == (0 : Int)) (some (((r3.1.length : Int) == (0 : Int)), ())) (some (false, ()))) (some (false, ()))) (some (false, ()))) (some (false, ()))) (some (false, ()))) (cond (r1.2.1 != (0 : Int)) (some (false, ())) ((ref_TimesBefore x).bind fun r5 => (cond (r1.1 != r5.1) (some (false, ())) (((cond (decide ((IntKind.i64.wrap ((x.1.length : Int) + (x.2.1.length : Int))) > (64 : Int))) (cond (r2.2.1 != (1 : Int)) (some (Sum.inl (false, ()))) (cond ((r2.1.length : Int) != (0 : Int)) (some (Sum.inl (false, ()))) (some (Sum.inr (Sum.inl ()))))) (cond (r2.2.1 != (0 : Int)) (some (Sum.inl (false, ()))) ((ref_TimesAll x).bind fun r6 => ((ref_TimesFront r6).bind fun r7 => ((ref_Lists (r2.1, r7.1, ())).bind fun r8 => (cond (!r8.1) (some (Sum.inl (false, ()))) (some (Sum.inr (Sum.inl ()))))))))) : Option ((Bool × Unit) ⊕ (Unit) ⊕ Empty)).bind (Sum.elim (fun z9 => (some z9)) (Sum.elim (fun z10 => (cond (decide ((IntKind.i64.wrap ((x.1.length : Int) * (x.2.1.length : Int))) > (64 : Int))) (cond (r3.2.1 == (1 : Int)) (some (((r3.1.length : Int) == (0 : Int)), ())) (some (false, ()))) (cond (r3.2.1 == (0 : Int)) ((ref_TimesJoins x).bind fun r11 => ((ref_TimesFront r11).bind fun r12 => ((ref_Lists (r3.1, r12.1, ())).bind fun r13 => (some r13)))) (some (false, ()))))) Empty.elim)))))))))))
def an11 : Ann := (.seq .leaf (.seq .leaf (.seq .leaf (.seq .leaf (.seq .leaf (.seq (.seq .leaf (.br (.seq .leaf .leaf) .leaf)) (.seq (.seq .leaf (.br (.seq .leaf .leaf) .leaf)) (.seq (.seq .leaf (.join [4, 77, 78, 79, 80, 81, 82, 83, 84, 85, 86, 87, 88, 89, 90, 91, 92, 93, 94] [90, 91, 92] [] [] [(.ret, [.tmp 4 .bool]), (.nrm, [])] (.br (.seq .leaf (.br (.seq .leaf .leaf) .leaf)) (.seq .leaf (.br (.seq .leaf .leaf) .leaf))))) (.seq (.seq .leaf (.br (.seq .leaf .leaf) .leaf)) (.seq .leaf .leaf))))))))))
noncomputable def sp11 : Abs.Spec := { args := [(false, (.list (.list (.int .i64)))), (false, (.list (.list (.int .i64))))], res := [.val false .bool], f := law_TimesBefores }
theorem ok11 : FunOK' prog (Abs.look gls) 11 sp11 :=
  evalFn_ok (C := mkCtx tis [(47, sp47), (48, sp48), (49, sp49), (50, sp50), (51, sp51), (52, sp52), (53, sp53), (54, sp54), (55, sp55)] [] [] gls pus []) (mkCtx_ok mixed tis_ok (specs_cons ok47 (specs_cons ok48 (specs_cons ok49 (specs_cons ok50 (specs_cons ok51 (specs_cons ok52 (specs_cons ok53 (specs_cons ok54 (specs_cons ok55 specs_nil))))))))) bodies_nil ) mixed func11 (by kernel_rfl) (an := an11) (by kernel_rfl) (fun x => by kernel_rfl)

end Go.Proofs.Try
