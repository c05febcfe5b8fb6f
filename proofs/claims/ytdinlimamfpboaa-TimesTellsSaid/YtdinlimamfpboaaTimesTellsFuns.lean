/- Plain functions, printed by gen.py over the program that YtdinlimamfpboaaProg loads; each keeps its contract by the engine. -/
import Derived.Test.YtdinlimamfpboaaAbsLoops
import Derived.Test.YtdinlimamfpboaaProg
namespace Go.Proofs.Try
open Go Go.Abs
set_option maxRecDepth 100000


def tis : List (Nat × TInfo) := [(3, { agg := false, str := false, size := 1, bytes := 8, zeros := [.sc (.int .i64) (0 : Int)], flds := [], elem := none, arr := none, ty := (.int .i64) }),
  (4, { agg := false, str := false, size := 1, bytes := 1, zeros := [.sc .bool (false)], flds := [], elem := none, arr := none, ty := .bool }),
  (26, { agg := false, str := false, size := 1, bytes := 24, zeros := [.nils], flds := [], elem := some 3, arr := none, ty := (.list (.int .i64)) }),
  (29, { agg := false, str := false, size := 1, bytes := 8, zeros := [.sc (.int .i64) (0 : Int)], flds := [], elem := none, arr := none, ty := (.int .i64) }),
  (103, { agg := true, str := false, size := 2, bytes := 48, zeros := [.nils, .nils], flds := [{ off := 0, size := 1, agg := false }, { off := 1, size := 1, agg := false }], elem := none, arr := some (2, 26), ty := .nil })]

theorem tis_ok : tiTable prog (tis.map (·.1)) = tis.map fun p => (p.1, some p.2) := by kernel_rfl
theorem mixed : prog.follows .mixedOrders = true := by kernel_rfl

/-- watershed/times.Check -/
noncomputable def sh32 : ((List Int) × Unit) → Option (Int × Unit) := fun x =>
  (cond ((x.1.length : Int) == (0 : Int)) (some ((1 : Int), ())) (cond (decide ((x.1.length : Int) > (4 : Int))) (some ((1 : Int), ())) ((loopM (σ := (Int × Unit)) (β := ((Int × Unit) ⊕ (Unit) ⊕ Empty)) (fun y3 => (cond (decide (y3.1 < (x.1.length : Int))) ((getI x.1 y3.1).bind fun v4 => (cond (decide (v4 < (0 : Int))) (some (Sum.inr (Sum.inl ((2 : Int), ())))) (cond (decide (v4 > (1048576 : Int))) (some (Sum.inr (Sum.inl ((2 : Int), ())))) (some (Sum.inl ((IntKind.i64.wrap (y3.1 + (1 : Int))), ())))))) (some (Sum.inr (Sum.inr (Sum.inl ())))))) ((0 : Int), ())).bind (Sum.elim (fun z5 => (some z5)) (Sum.elim (fun z6 => (some ((0 : Int), ()))) Empty.elim)))))
def an32 : Ann := (.seq .leaf (.seq (.seq .leaf (.br (.seq .leaf .leaf) .leaf)) (.seq (.seq .leaf (.blk (.loop [2, 4, 15, 16, 17, 18, 19, 20, 21, 22, 23, 24, 25] [] [] [] [.tmp 15 (.int .i64)] [(.ret, [.tmp 2 (.int .i64)]), ((.ex 0), [])] (.seq .leaf (.seq (.br .leaf .leaf) (.seq (.blk (.seq .leaf (.seq .leaf (.br (.seq .leaf .leaf) .leaf)))) .leaf)))))) (.seq .leaf .leaf))))
noncomputable def sp32 : Abs.Spec := { args := [(false, (.list (.int .i64)))], res := [.val false (.int .i64)], f := sh32 }
theorem ok32 : FunOK' prog 32 sp32 :=
  evalFn_ok (C := mkCtx tis [] []) (mkCtx_ok mixed tis_ok specs_nil bodies_nil) mixed func32 (by kernel_rfl) (an := an32) (by kernel_rfl) (fun x => by kernel_rfl)

/-- watershed/times.greater -/
noncomputable def sh54 : (Int × Int × Unit) → Option (Int × Unit) := fun x =>
  (some ((if x.2.1 > x.1 then x.2.1 else x.1), ()))
def an54 : Ann := (.seq .leaf (.seq .leaf .leaf))
noncomputable def sp54 : Abs.Spec := { args := [(false, (.int .i64)), (false, (.int .i64))], res := [.val false (.int .i64)], f := sh54 }
theorem ok54 : FunOK' prog 54 sp54 :=
  evalFn_ok (C := mkCtx tis [] []) (mkCtx_ok mixed tis_ok specs_nil bodies_nil) mixed func54 (by kernel_rfl) (an := an54) (by kernel_rfl) (fun x => by kernel_rfl)

/-- watershed/times.Join -/
noncomputable def sh29 : ((List Int) × (List Int) × Unit) → Option ((List Int) × Int × Unit) := fun x =>
  ((loopM (σ := (Int × Unit)) (β := (((List Int) × Int × Unit) ⊕ (Unit) ⊕ Empty)) (fun y4 => (cond (decide (y4.1 < (2 : Int))) ((getI [x.1, x.2.1] y4.1).bind fun v5 => ((sh32 (v5, ())).bind fun r6 => (cond (r6.1 != (0 : Int)) (some (Sum.inr (Sum.inl (([] : (List Int)), r6.1, ())))) (some (Sum.inl ((IntKind.i64.wrap (y4.1 + (1 : Int))), ())))))) (some (Sum.inr (Sum.inr (Sum.inl ())))))) ((0 : Int), ())).bind (Sum.elim (fun z7 => (some z7)) (Sum.elim (fun z8 => (cond ((x.1.length : Int) != (x.2.1.length : Int)) (some (([] : (List Int)), (3 : Int), ())) (cond (decide (0 ≤ (x.1.length : Int)) && decide ((x.1.length : Int) ≤ (x.1.length : Int)) && roomOk (x.1.length : Int).toNat 8 && decide ((x.1.length : Int) ≤ 9223372036854775807) && true && true) ((loopM (σ := (Int × (List Int) × Unit)) (β := (((List Int) × Unit) ⊕ Empty)) (fun y19 => (cond (decide (y19.1 < (x.1.length : Int))) ((getI x.1 y19.1).bind fun v20 => ((getI x.2.1 y19.1).bind fun v21 => ((sh54 (v20, v21, ())).bind fun r22 => (cond (inB y19.1 y19.2.1.length) ((y19.2.1[y19.1.toNat]?).bind fun v23 => (some (Sum.inl ((IntKind.i64.wrap (y19.1 + (1 : Int))), (y19.2.1.set (y19.1.toNat) r22.1), ())))) none)))) (some (Sum.inr (Sum.inl (y19.2.1, ())))))) ((0 : Int), (List.replicate (x.1.length : Int).toNat (0 : Int)), ())).bind (Sum.elim (fun z24 => (some (z24.1, (0 : Int), ()))) Empty.elim)) none))) Empty.elim)))
def an29 : Ann := (.seq .leaf (.seq .leaf .leaf))
noncomputable def sp29 : Abs.Spec := { args := [(false, (.list (.int .i64))), (false, (.list (.int .i64)))], res := [.val false (.list (.int .i64)), .val false (.int .i64)], f := sh29 }
theorem ok29 : FunOK' prog 29 sp29 :=
  evalFn_ok (C := mkCtx tis [(32, sp32), (54, sp54)] [(53, (589824, (f53, (.seq .leaf (.seq (.seq .leaf (.blk (.loop [6, 7, 9, 10, 14, 15, 16, 17, 18, 19, 20, 21, 22] [589842] [] [] [.tmp 14 (.int .i64)] [(.ret, [.tmp 6 (.list (.int .i64)), .tmp 7 (.int .i64)]), ((.ex 0), [])] (.seq .leaf (.seq (.br .leaf .leaf) (.seq (.blk (.seq .leaf (.seq .leaf (.seq .leaf (.br (.seq .leaf .leaf) .leaf))))) .leaf)))))) (.seq (.seq .leaf (.br (.seq .leaf .leaf) .leaf)) (.seq .leaf .leaf))))))),
    (61, (38656802816, (f61, (.seq .leaf (.seq .leaf (.seq (.seq .leaf (.blk (.loop [8, 14, 15, 16, 17, 18, 19, 20, 21, 22, 23, 24, 25, 26, 27, 28, 29, 30] [38656802844] [] [38656802827] [.tmp 14 (.int .i64), .arrS 38656802827 3 (.int .i64)] [((.ex 0), [.arrS 38656802827 3 (.int .i64)])] (.seq .leaf (.seq (.br .leaf .leaf) (.seq (.blk (.seq .leaf .leaf)) .leaf)))))) (.seq .leaf .leaf)))))))]) (mkCtx_ok mixed tis_ok (specs_cons ok32 (specs_cons ok54 specs_nil)) (bodies_cons ⟨func53, by kernel_rfl, by kernel_rfl⟩ (bodies_cons ⟨func61, by kernel_rfl, by kernel_rfl⟩ bodies_nil))) mixed func29 (by kernel_rfl) (an := an29) (by kernel_rfl) (fun x => by kernel_rfl)

/-- watershed/times.lesser -/
noncomputable def sh55 : (Int × Int × Unit) → Option (Int × Unit) := fun x =>
  (some ((if x.2.1 < x.1 then x.2.1 else x.1), ()))
def an55 : Ann := (.seq .leaf (.seq .leaf .leaf))
noncomputable def sp55 : Abs.Spec := { args := [(false, (.int .i64)), (false, (.int .i64))], res := [.val false (.int .i64)], f := sh55 }
theorem ok55 : FunOK' prog 55 sp55 :=
  evalFn_ok (C := mkCtx tis [] []) (mkCtx_ok mixed tis_ok specs_nil bodies_nil) mixed func55 (by kernel_rfl) (an := an55) (by kernel_rfl) (fun x => by kernel_rfl)

/-- watershed/times.Meet -/
noncomputable def sh30 : ((List Int) × (List Int) × Unit) → Option ((List Int) × Int × Unit) := fun x =>
  ((loopM (σ := (Int × Unit)) (β := (((List Int) × Int × Unit) ⊕ (Unit) ⊕ Empty)) (fun y4 => (cond (decide (y4.1 < (2 : Int))) ((getI [x.1, x.2.1] y4.1).bind fun v5 => ((sh32 (v5, ())).bind fun r6 => (cond (r6.1 != (0 : Int)) (some (Sum.inr (Sum.inl (([] : (List Int)), r6.1, ())))) (some (Sum.inl ((IntKind.i64.wrap (y4.1 + (1 : Int))), ())))))) (some (Sum.inr (Sum.inr (Sum.inl ())))))) ((0 : Int), ())).bind (Sum.elim (fun z7 => (some z7)) (Sum.elim (fun z8 => (cond ((x.1.length : Int) != (x.2.1.length : Int)) (some (([] : (List Int)), (3 : Int), ())) (cond (decide (0 ≤ (x.1.length : Int)) && decide ((x.1.length : Int) ≤ (x.1.length : Int)) && roomOk (x.1.length : Int).toNat 8 && decide ((x.1.length : Int) ≤ 9223372036854775807) && true && true) ((loopM (σ := (Int × (List Int) × Unit)) (β := (((List Int) × Unit) ⊕ Empty)) (fun y19 => (cond (decide (y19.1 < (x.1.length : Int))) ((getI x.1 y19.1).bind fun v20 => ((getI x.2.1 y19.1).bind fun v21 => ((sh55 (v20, v21, ())).bind fun r22 => (cond (inB y19.1 y19.2.1.length) ((y19.2.1[y19.1.toNat]?).bind fun v23 => (some (Sum.inl ((IntKind.i64.wrap (y19.1 + (1 : Int))), (y19.2.1.set (y19.1.toNat) r22.1), ())))) none)))) (some (Sum.inr (Sum.inl (y19.2.1, ())))))) ((0 : Int), (List.replicate (x.1.length : Int).toNat (0 : Int)), ())).bind (Sum.elim (fun z24 => (some (z24.1, (0 : Int), ()))) Empty.elim)) none))) Empty.elim)))
def an30 : Ann := (.seq .leaf (.seq .leaf .leaf))
noncomputable def sp30 : Abs.Spec := { args := [(false, (.list (.int .i64))), (false, (.list (.int .i64)))], res := [.val false (.list (.int .i64)), .val false (.int .i64)], f := sh30 }
theorem ok30 : FunOK' prog 30 sp30 :=
  evalFn_ok (C := mkCtx tis [(32, sp32), (55, sp55)] [(53, (589824, (f53, (.seq .leaf (.seq (.seq .leaf (.blk (.loop [6, 7, 9, 10, 14, 15, 16, 17, 18, 19, 20, 21, 22] [589842] [] [] [.tmp 14 (.int .i64)] [(.ret, [.tmp 6 (.list (.int .i64)), .tmp 7 (.int .i64)]), ((.ex 0), [])] (.seq .leaf (.seq (.br .leaf .leaf) (.seq (.blk (.seq .leaf (.seq .leaf (.seq .leaf (.br (.seq .leaf .leaf) .leaf))))) .leaf)))))) (.seq (.seq .leaf (.br (.seq .leaf .leaf) .leaf)) (.seq .leaf .leaf))))))),
    (61, (38656802816, (f61, (.seq .leaf (.seq .leaf (.seq (.seq .leaf (.blk (.loop [8, 14, 15, 16, 17, 18, 19, 20, 21, 22, 23, 24, 25, 26, 27, 28, 29, 30] [38656802844] [] [38656802827] [.tmp 14 (.int .i64), .arrS 38656802827 3 (.int .i64)] [((.ex 0), [.arrS 38656802827 3 (.int .i64)])] (.seq .leaf (.seq (.br .leaf .leaf) (.seq (.blk (.seq .leaf .leaf)) .leaf)))))) (.seq .leaf .leaf)))))))]) (mkCtx_ok mixed tis_ok (specs_cons ok32 (specs_cons ok55 specs_nil)) (bodies_cons ⟨func53, by kernel_rfl, by kernel_rfl⟩ (bodies_cons ⟨func61, by kernel_rfl, by kernel_rfl⟩ bodies_nil))) mixed func30 (by kernel_rfl) (an := an30) (by kernel_rfl) (fun x => by kernel_rfl)

/-- watershed/watershedref.TimesCheck -/
noncomputable def sh33 : ((List Int) × Unit) → Option (Int × Unit) := fun x =>
  (cond (decide ((x.1.length : Int) < (1 : Int))) (some ((1 : Int), ())) (cond (decide ((x.1.length : Int) > (4 : Int))) (some ((1 : Int), ())) ((loopM (σ := (Int × Unit)) (β := ((Int × Unit) ⊕ (Unit) ⊕ Empty)) (fun y3 => (cond (decide (y3.1 < (x.1.length : Int))) ((getI x.1 y3.1).bind fun v4 => (cond (decide (v4 < (0 : Int))) (some (Sum.inr (Sum.inl ((2 : Int), ())))) (cond (decide (v4 > (1048576 : Int))) (some (Sum.inr (Sum.inl ((2 : Int), ())))) (some (Sum.inl ((IntKind.i64.wrap (y3.1 + (1 : Int))), ())))))) (some (Sum.inr (Sum.inr (Sum.inl ())))))) ((0 : Int), ())).bind (Sum.elim (fun z5 => (some z5)) (Sum.elim (fun z6 => (some ((0 : Int), ()))) Empty.elim)))))
def an33 : Ann := (.seq .leaf (.seq (.seq .leaf (.br (.seq .leaf .leaf) .leaf)) (.seq (.seq .leaf (.blk (.loop [2, 4, 15, 16, 17, 18, 19, 20, 21, 22, 23, 24, 25] [] [] [] [.tmp 15 (.int .i64)] [(.ret, [.tmp 2 (.int .i64)]), ((.ex 0), [])] (.seq .leaf (.seq (.br .leaf .leaf) (.seq (.blk (.seq .leaf (.seq .leaf (.br (.seq .leaf .leaf) .leaf)))) .leaf)))))) (.seq .leaf .leaf))))
noncomputable def sp33 : Abs.Spec := { args := [(false, (.list (.int .i64)))], res := [.val false (.int .i64)], f := sh33 }
theorem ok33 : FunOK' prog 33 sp33 :=
  evalFn_ok (C := mkCtx tis [] []) (mkCtx_ok mixed tis_ok specs_nil bodies_nil) mixed func33 (by kernel_rfl) (an := an33) (by kernel_rfl) (fun x => by kernel_rfl)

/-- watershed/watershedref.TimesPair -/
noncomputable def sh31 : ((List Int) × (List Int) × Unit) → Option (Int × Unit) := fun x =>
  ((sh33 (x.1, ())).bind fun r1 => (cond (r1.1 != (0 : Int)) ((sh33 (x.1, ())).bind fun r2 => (some r2)) ((sh33 (x.2.1, ())).bind fun r3 => (cond (r3.1 != (0 : Int)) ((sh33 (x.2.1, ())).bind fun r4 => (some r4)) (cond ((x.1.length : Int) != (x.2.1.length : Int)) (some ((3 : Int), ())) (some ((0 : Int), ())))))))
def an31 : Ann := (.seq .leaf (.seq (.seq .leaf (.br (.seq .leaf .leaf) .leaf)) (.seq (.seq .leaf (.br (.seq .leaf .leaf) .leaf)) (.seq (.seq .leaf (.br (.seq .leaf .leaf) .leaf)) (.seq .leaf .leaf)))))
noncomputable def sp31 : Abs.Spec := { args := [(false, (.list (.int .i64))), (false, (.list (.int .i64)))], res := [.val false (.int .i64)], f := sh31 }
theorem ok31 : FunOK' prog 31 sp31 :=
  evalFn_ok (C := mkCtx tis [(33, sp33)] []) (mkCtx_ok mixed tis_ok (specs_cons ok33 specs_nil) bodies_nil) mixed func31 (by kernel_rfl) (an := an31) (by kernel_rfl) (fun x => by kernel_rfl)

/-- watershed/times.alike -/
noncomputable def sh56 : ((List Int) × (List Int) × Unit) → Option (Bool × Unit) := fun x =>
  (cond ((x.1.length : Int) == (x.2.1.length : Int)) ((sh32 (x.1, ())).bind fun r1 => (cond (r1.1 == (0 : Int)) ((sh32 (x.2.1, ())).bind fun r2 => (some ((r2.1 == (0 : Int)), ()))) (some (false, ())))) (some (false, ())))
def an56 : Ann := (.seq .leaf (.seq .leaf .leaf))
noncomputable def sp56 : Abs.Spec := { args := [(false, (.list (.int .i64))), (false, (.list (.int .i64)))], res := [.val false .bool], f := sh56 }
theorem ok56 : FunOK' prog 56 sp56 :=
  evalFn_ok (C := mkCtx tis [(32, sp32)] []) (mkCtx_ok mixed tis_ok (specs_cons ok32 specs_nil) bodies_nil) mixed func56 (by kernel_rfl) (an := an56) (by kernel_rfl) (fun x => by kernel_rfl)

/-- watershed/times.Under -/
noncomputable def sh57 : ((List Int) × (List Int) × Unit) → Option (Bool × Unit) := fun x =>
  ((loopM (σ := (Int × Unit)) (β := ((Bool × Unit) ⊕ (Unit) ⊕ Empty)) (fun y4 => (cond (decide (y4.1 < (x.1.length : Int))) ((getI x.1 y4.1).bind fun v5 => ((getI x.2.1 y4.1).bind fun v6 => (cond (decide (v5 > v6)) (some (Sum.inr (Sum.inl (false, ())))) (some (Sum.inl ((IntKind.i64.wrap (y4.1 + (1 : Int))), ())))))) (some (Sum.inr (Sum.inr (Sum.inl ())))))) ((0 : Int), ())).bind (Sum.elim (fun z7 => (some z7)) (Sum.elim (fun z8 => (some (true, ()))) Empty.elim)))
def an57 : Ann := (.seq .leaf (.seq (.seq .leaf (.blk (.loop [4, 5, 8, 9, 10, 11, 12, 13, 14, 15, 16, 17, 18, 19, 20] [] [] [] [.tmp 8 (.int .i64)] [(.ret, [.tmp 4 .bool]), ((.ex 0), [])] (.seq .leaf (.seq (.br .leaf .leaf) (.seq (.blk (.seq .leaf (.seq .leaf (.br (.seq .leaf .leaf) .leaf)))) .leaf)))))) (.seq .leaf .leaf)))
noncomputable def sp57 : Abs.Spec := { args := [(false, (.list (.int .i64))), (false, (.list (.int .i64)))], res := [.val false .bool], f := sh57 }
theorem ok57 : FunOK' prog 57 sp57 :=
  evalFn_ok (C := mkCtx tis [] []) (mkCtx_ok mixed tis_ok specs_nil bodies_nil) mixed func57 (by kernel_rfl) (an := an57) (by kernel_rfl) (fun x => by kernel_rfl)

/-- watershed/times.Leq -/
noncomputable def sh34 : ((List Int) × (List Int) × Unit) → Option (Bool × Unit) := fun x =>
  ((sh56 x).bind fun r1 => (cond r1.1 ((sh57 x).bind fun r2 => (some r2)) (some (false, ()))))
def an34 : Ann := (.seq .leaf (.seq .leaf .leaf))
noncomputable def sp34 : Abs.Spec := { args := [(false, (.list (.int .i64))), (false, (.list (.int .i64)))], res := [.val false .bool], f := sh34 }
theorem ok34 : FunOK' prog 34 sp34 :=
  evalFn_ok (C := mkCtx tis [(56, sp56), (57, sp57)] []) (mkCtx_ok mixed tis_ok (specs_cons ok56 (specs_cons ok57 specs_nil)) bodies_nil) mixed func34 (by kernel_rfl) (an := an34) (by kernel_rfl) (fun x => by kernel_rfl)

/-- watershed/watershedref.TimesLeq -/
noncomputable def sh35 : ((List Int) × (List Int) × Unit) → Option (Bool × Unit) := fun x =>
  (cond ((x.1.length : Int) != (x.2.1.length : Int)) (some (false, ())) ((sh33 (x.1, ())).bind fun r1 => (cond (r1.1 != (0 : Int)) (some (false, ())) ((sh33 (x.2.1, ())).bind fun r2 => (cond (r2.1 != (0 : Int)) (some (false, ())) ((loopM (σ := (Int × Unit)) (β := ((Bool × Unit) ⊕ (Unit) ⊕ Empty)) (fun y6 => (cond (decide (y6.1 < (x.1.length : Int))) ((getI x.1 y6.1).bind fun v7 => ((getI x.2.1 y6.1).bind fun v8 => (cond (decide (v7 > v8)) (some (Sum.inr (Sum.inl (false, ())))) (some (Sum.inl ((IntKind.i64.wrap (y6.1 + (1 : Int))), ())))))) (some (Sum.inr (Sum.inr (Sum.inl ())))))) ((0 : Int), ())).bind (Sum.elim (fun z9 => (some z9)) (Sum.elim (fun z10 => (some (true, ()))) Empty.elim))))))))
def an35 : Ann := (.seq .leaf (.seq (.seq .leaf (.br (.seq .leaf .leaf) .leaf)) (.seq (.seq .leaf (.blk (.loop [4, 5, 21, 22, 23, 24, 25, 26, 27, 28, 29, 30, 31, 32, 33, 34, 35] [] [] [] [.tmp 5 (.int .i64)] [(.ret, [.tmp 4 .bool]), ((.ex 0), [])] (.seq (.seq .leaf (.br .leaf .leaf)) (.seq (.blk (.seq .leaf (.br (.seq .leaf .leaf) .leaf))) .leaf))))) (.seq .leaf .leaf))))
noncomputable def sp35 : Abs.Spec := { args := [(false, (.list (.int .i64))), (false, (.list (.int .i64)))], res := [.val false .bool], f := sh35 }
theorem ok35 : FunOK' prog 35 sp35 :=
  evalFn_ok (C := mkCtx tis [(33, sp33)] []) (mkCtx_ok mixed tis_ok (specs_cons ok33 specs_nil) bodies_nil) mixed func35 (by kernel_rfl) (an := an35) (by kernel_rfl) (fun x => by kernel_rfl)

/-- cmp.isNaN[int] -/
noncomputable def sh64 : (Int × Unit) → Option (Bool × Unit) := fun x =>
  (some ((x.1 != x.1), ()))
def an64 : Ann := (.seq .leaf (.seq .leaf .leaf))
noncomputable def sp64 : Abs.Spec := { args := [(false, (.int .i64))], res := [.val false .bool], f := sh64 }
theorem ok64 : FunOK' prog 64 sp64 :=
  evalFn_ok (C := mkCtx tis [] []) (mkCtx_ok mixed tis_ok specs_nil bodies_nil) mixed func64 (by kernel_rfl) (an := an64) (by kernel_rfl) (fun x => by kernel_rfl)

/-- cmp.Compare[int] -/
noncomputable def sh62 : (Int × Int × Unit) → Option (Int × Unit) := fun x =>
  ((sh64 (x.1, ())).bind fun r1 => ((sh64 (x.2.1, ())).bind fun r2 => (cond r1.1 (cond r2.1 (some ((0 : Int), ())) (some ((-1 : Int), ()))) (cond r2.1 (some ((1 : Int), ())) (cond (decide (x.1 < x.2.1)) (some ((-1 : Int), ())) (cond (decide (x.1 > x.2.1)) (some ((1 : Int), ())) (some ((0 : Int), ()))))))))
def an62 : Ann := (.seq .leaf (.seq .leaf (.seq .leaf (.seq (.seq .leaf (.br (.seq (.seq .leaf (.br (.seq .leaf .leaf) .leaf)) (.seq .leaf .leaf)) .leaf)) (.seq (.seq .leaf (.br (.seq .leaf .leaf) .leaf)) (.seq (.seq .leaf (.br (.seq .leaf .leaf) .leaf)) (.seq (.seq .leaf (.br (.seq .leaf .leaf) .leaf)) (.seq .leaf .leaf))))))))
noncomputable def sp62 : Abs.Spec := { args := [(false, (.int .i64)), (false, (.int .i64))], res := [.val false (.int .i64)], f := sh62 }
theorem ok62 : FunOK' prog 62 sp62 :=
  evalFn_ok (C := mkCtx tis [(64, sp64)] []) (mkCtx_ok mixed tis_ok (specs_cons ok64 specs_nil) bodies_nil) mixed func62 (by kernel_rfl) (an := an62) (by kernel_rfl) (fun x => by kernel_rfl)

/-- slices.Compare[[]int,int] -/
noncomputable def sh58 : ((List Int) × (List Int) × Unit) → Option (Int × Unit) := fun x =>
  ((loopM (σ := (Int × Unit)) (β := ((Int × Unit) ⊕ (Unit) ⊕ Empty)) (fun y5 => (cond (decide (y5.1 < (x.1.length : Int))) ((getI x.1 y5.1).bind fun v6 => (cond (decide (y5.1 ≥ (x.2.1.length : Int))) (some (Sum.inr (Sum.inl ((1 : Int), ())))) ((getI x.2.1 y5.1).bind fun v7 => ((sh62 (v6, v7, ())).bind fun r8 => (cond (r8.1 != (0 : Int)) (some (Sum.inr (Sum.inl r8))) (some (Sum.inl ((IntKind.i64.wrap (y5.1 + (1 : Int))), ())))))))) (some (Sum.inr (Sum.inr (Sum.inl ())))))) ((0 : Int), ())).bind (Sum.elim (fun z9 => (some z9)) (Sum.elim (fun z10 => (cond (decide ((x.1.length : Int) < (x.2.1.length : Int))) (some ((-1 : Int), ())) (some ((0 : Int), ())))) Empty.elim)))
def an58 : Ann := (.seq .leaf (.seq (.seq .leaf (.blk (.loop [4, 5, 6, 7, 8, 11, 12, 13, 14, 15, 16, 17, 18, 19, 20, 21, 22, 23, 24, 25, 26, 27, 28, 29, 30] [26] [] [] [.tmp 11 (.int .i64)] [(.ret, [.tmp 4 (.int .i64)]), ((.ex 0), [])] (.seq .leaf (.seq (.br .leaf .leaf) (.seq (.blk (.seq .leaf (.seq (.seq .leaf (.br (.seq .leaf .leaf) .leaf)) (.seq .leaf (.seq .leaf (.seq .leaf (.br (.seq .leaf .leaf) .leaf))))))) .leaf)))))) (.seq (.seq .leaf (.br (.seq .leaf .leaf) .leaf)) (.seq .leaf .leaf))))
noncomputable def sp58 : Abs.Spec := { args := [(false, (.list (.int .i64))), (false, (.list (.int .i64)))], res := [.val false (.int .i64)], f := sh58 }
theorem ok58 : FunOK' prog 58 sp58 :=
  evalFn_ok (C := mkCtx tis [(62, sp62)] []) (mkCtx_ok mixed tis_ok (specs_cons ok62 specs_nil) bodies_nil) mixed func58 (by kernel_rfl) (an := an58) (by kernel_rfl) (fun x => by kernel_rfl)

/-- watershed/times.Less -/
noncomputable def sh36 : ((List Int) × (List Int) × Unit) → Option (Bool × Unit) := fun x =>
  ((sh56 x).bind fun r1 => (cond r1.1 ((sh58 x).bind fun r2 => (some ((decide (r2.1 < (0 : Int))), ()))) (some (false, ()))))
def an36 : Ann := (.seq .leaf (.seq .leaf .leaf))
noncomputable def sp36 : Abs.Spec := { args := [(false, (.list (.int .i64))), (false, (.list (.int .i64)))], res := [.val false .bool], f := sh36 }
theorem ok36 : FunOK' prog 36 sp36 :=
  evalFn_ok (C := mkCtx tis [(56, sp56), (58, sp58)] []) (mkCtx_ok mixed tis_ok (specs_cons ok56 (specs_cons ok58 specs_nil)) bodies_nil) mixed func36 (by kernel_rfl) (an := an36) (by kernel_rfl) (fun x => by kernel_rfl)

/-- watershed/watershedref.TimesLess -/
noncomputable def sh37 : ((List Int) × (List Int) × Unit) → Option (Bool × Unit) := fun x =>
  (cond ((x.1.length : Int) != (x.2.1.length : Int)) (some (false, ())) ((sh33 (x.1, ())).bind fun r1 => (cond (r1.1 != (0 : Int)) (some (false, ())) ((sh33 (x.2.1, ())).bind fun r2 => (cond (r2.1 != (0 : Int)) (some (false, ())) ((loopM (σ := (Int × Unit)) (β := ((Bool × Unit) ⊕ (Unit) ⊕ Empty)) (fun y8 => (cond (decide (y8.1 < (x.1.length : Int))) ((getI x.1 y8.1).bind fun v9 => ((getI x.2.1 y8.1).bind fun v10 => (cond (v9 != v10) ((getI x.1 y8.1).bind fun v11 => ((getI x.2.1 y8.1).bind fun v12 => (some (Sum.inr (Sum.inl ((decide (v11 < v12)), ())))))) (some (Sum.inl ((IntKind.i64.wrap (y8.1 + (1 : Int))), ())))))) (some (Sum.inr (Sum.inr (Sum.inl ())))))) ((0 : Int), ())).bind (Sum.elim (fun z13 => (some z13)) (Sum.elim (fun z14 => (some (false, ()))) Empty.elim))))))))
def an37 : Ann := (.seq .leaf (.seq (.seq .leaf (.br (.seq .leaf .leaf) .leaf)) (.seq (.seq .leaf (.blk (.loop [4, 5, 21, 22, 23, 24, 25, 26, 27, 28, 29, 30, 31, 32, 33, 34, 35, 36, 37, 38, 39, 40, 41, 42, 43, 44] [] [] [] [.tmp 5 (.int .i64)] [(.ret, [.tmp 4 .bool]), ((.ex 0), [])] (.seq (.seq .leaf (.br .leaf .leaf)) (.seq (.blk (.seq .leaf (.br (.seq .leaf .leaf) .leaf))) .leaf))))) (.seq .leaf .leaf))))
noncomputable def sp37 : Abs.Spec := { args := [(false, (.list (.int .i64))), (false, (.list (.int .i64)))], res := [.val false .bool], f := sh37 }
theorem ok37 : FunOK' prog 37 sp37 :=
  evalFn_ok (C := mkCtx tis [(33, sp33)] []) (mkCtx_ok mixed tis_ok (specs_cons ok33 specs_nil) bodies_nil) mixed func37 (by kernel_rfl) (an := an37) (by kernel_rfl) (fun x => by kernel_rfl)

/-- watershed/watershedref.TimesJoin -/
noncomputable def sh38 : ((List Int) × (List Int) × Bool × Unit) → Option ((List Int) × Unit) := fun x =>
  ((loopM (σ := ((List Int) × Int × Unit)) (β := (((List Int) × Unit) ⊕ Empty)) (fun y9 => (cond (decide (y9.2.1 < (x.1.length : Int))) ((getI x.1 y9.2.1).bind fun v10 => ((getI x.2.1 y9.2.1).bind fun v11 => (cond ((decide (v11 > v10)) == x.2.2.1) ((getI x.2.1 y9.2.1).bind fun v12 => (cond (true && roomOk (y9.1.length + ([v12]).length) 8 && true && true) (some (Sum.inl ((y9.1 ++ [v12]), (IntKind.i64.wrap (y9.2.1 + (1 : Int))), ()))) none)) (cond (true && roomOk (y9.1.length + ([v10]).length) 8 && true && true) (some (Sum.inl ((y9.1 ++ [v10]), (IntKind.i64.wrap (y9.2.1 + (1 : Int))), ()))) none)))) (some (Sum.inr (Sum.inl (y9.1, ())))))) (([] : (List Int)), (0 : Int), ())).bind (Sum.elim (fun z13 => (some z13)) Empty.elim))
def an38 : Ann := (.seq .leaf (.seq .leaf (.seq (.seq .leaf (.blk (.loop [7, 8, 9, 10, 11, 12, 13, 14, 15, 16, 17, 18, 19, 20, 21, 22, 23, 24, 25, 26, 27, 28, 29, 30, 31, 32, 33, 34, 35] [34, 35, 500] [] [] [.arr 500 3 (.int .i64) (.t 7), .own 7 500, .tmp 8 (.int .i64)] [((.ex 0), [.arr 500 3 (.int .i64) (.t 7), .own 7 500])] (.seq (.seq .leaf (.br .leaf .leaf)) (.seq (.blk (.seq .leaf (.seq (.seq .leaf (.br .leaf .leaf)) .leaf))) .leaf))))) (.seq .leaf .leaf))))
noncomputable def sp38 : Abs.Spec := { args := [(false, (.list (.int .i64))), (false, (.list (.int .i64))), (false, .bool)], res := [.own 3 (.int .i64)], f := sh38 }
theorem ok38 : FunOK' prog 38 sp38 :=
  evalFn_ok (C := mkCtx tis [] []) (mkCtx_ok mixed tis_ok specs_nil bodies_nil) mixed func38 (by kernel_rfl) (an := an38) (by kernel_rfl) (fun x => by kernel_rfl)

/-- watershed/watershedref.TimesSame -/
noncomputable def sh17 : ((List Int) × (List Int) × Unit) → Option (Bool × Unit) := fun x =>
  (cond ((x.1.length : Int) != (x.2.1.length : Int)) (some (false, ())) ((loopM (σ := (Int × Unit)) (β := ((Bool × Unit) ⊕ (Unit) ⊕ Empty)) (fun y4 => (cond (decide (y4.1 < (x.1.length : Int))) ((getI x.1 y4.1).bind fun v5 => ((getI x.2.1 y4.1).bind fun v6 => (cond (v5 != v6) (some (Sum.inr (Sum.inl (false, ())))) (some (Sum.inl ((IntKind.i64.wrap (y4.1 + (1 : Int))), ())))))) (some (Sum.inr (Sum.inr (Sum.inl ())))))) ((0 : Int), ())).bind (Sum.elim (fun z7 => (some z7)) (Sum.elim (fun z8 => (some (true, ()))) Empty.elim))))
def an17 : Ann := (.seq .leaf (.seq (.seq .leaf (.br (.seq .leaf .leaf) .leaf)) (.seq (.seq .leaf (.blk (.loop [4, 5, 11, 12, 13, 14, 15, 16, 17, 18, 19, 20, 21, 22, 23, 24, 25] [] [] [] [.tmp 5 (.int .i64)] [(.ret, [.tmp 4 .bool]), ((.ex 0), [])] (.seq (.seq .leaf (.br .leaf .leaf)) (.seq (.blk (.seq .leaf (.br (.seq .leaf .leaf) .leaf))) .leaf))))) (.seq .leaf .leaf))))
noncomputable def sp17 : Abs.Spec := { args := [(false, (.list (.int .i64))), (false, (.list (.int .i64)))], res := [.val false .bool], f := sh17 }
theorem ok17 : FunOK' prog 17 sp17 :=
  evalFn_ok (C := mkCtx tis [] []) (mkCtx_ok mixed tis_ok specs_nil bodies_nil) mixed func17 (by kernel_rfl) (an := an17) (by kernel_rfl) (fun x => by kernel_rfl)

/-- watershed/watershedlaw.TimesTells -/
noncomputable def sh8 : ((List Int) × (List Int) × Unit) → Option (Bool × Unit) := fun x =>
  ((sh29 x).bind fun r1 => ((sh30 x).bind fun r2 => ((sh31 x).bind fun r3 => ((sh32 (x.1, ())).bind fun r4 => ((sh33 (x.1, ())).bind fun r5 => (cond (r4.1 != r5.1) (some (false, ())) ((sh34 x).bind fun r6 => ((sh35 x).bind fun r7 => (cond (r6.1 != r7.1) (some (false, ())) ((sh36 x).bind fun r8 => ((sh37 x).bind fun r9 => (cond (r8.1 != r9.1) (some (false, ())) (cond (r1.2.1 != r3.1) (some (false, ())) (cond (r2.2.1 != r3.1) (some (false, ())) (cond (r3.1 != (0 : Int)) (cond ((r1.1.length : Int) == (0 : Int)) (some (((r2.1.length : Int) == (0 : Int)), ())) (some (false, ()))) ((sh38 (x.1, x.2.1, true, ())).bind fun r10 => ((sh17 (r1.1, r10.1, ())).bind fun r11 => (cond r11.1 ((sh38 (x.1, x.2.1, false, ())).bind fun r12 => ((sh17 (r2.1, r12.1, ())).bind fun r13 => (some r13))) (some (false, ()))))))))))))))))))))
def an8 : Ann := (.seq .leaf (.seq .leaf (.seq .leaf (.seq .leaf (.seq (.seq .leaf (.br (.seq .leaf .leaf) .leaf)) (.seq (.seq .leaf (.br (.seq .leaf .leaf) .leaf)) (.seq .leaf .leaf)))))))
noncomputable def sp8 : Abs.Spec := { args := [(false, (.list (.int .i64))), (false, (.list (.int .i64)))], res := [.val false .bool], f := sh8 }
theorem ok8 : FunOK' prog 8 sp8 :=
  evalFn_ok (C := mkCtx tis [(17, sp17), (29, sp29), (30, sp30), (31, sp31), (32, sp32), (33, sp33), (34, sp34), (35, sp35), (36, sp36), (37, sp37), (38, sp38)] []) (mkCtx_ok mixed tis_ok (specs_cons ok17 (specs_cons ok29 (specs_cons ok30 (specs_cons ok31 (specs_cons ok32 (specs_cons ok33 (specs_cons ok34 (specs_cons ok35 (specs_cons ok36 (specs_cons ok37 (specs_cons ok38 specs_nil))))))))))) bodies_nil) mixed func8 (by kernel_rfl) (an := an8) (by kernel_rfl) (fun x => by kernel_rfl)

end Go.Proofs.Try
