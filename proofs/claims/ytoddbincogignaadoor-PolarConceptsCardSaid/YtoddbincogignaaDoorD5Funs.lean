/- Plain functions, printed by gen.py over the program that YtoddbincogignaaDoorProg loads; each keeps its contract by the engine. -/
import Derived.Test.YtoddbincogignaaDoorAbsLoops
import Derived.Test.YtoddbincogignaaDoorP8Sort
import Derived.Test.YtoddbincogignaaDoorProg
namespace Go.Proofs.Tryd
open Go Go.Abs
set_option maxRecDepth 100000


def tis : List (Nat × TInfo) := [(3, { agg := false, str := false, size := 1, bytes := 8, zeros := [.sc (.int .i64) (0 : Int)], flds := [], elem := none, arr := none, ty := (.int .i64) }),
  (4, { agg := false, str := false, size := 1, bytes := 1, zeros := [.sc .bool (false)], flds := [], elem := none, arr := none, ty := .bool }),
  (5, { agg := false, str := false, size := 1, bytes := 1, zeros := [.sc (.int .u8) (0 : Int)], flds := [], elem := none, arr := none, ty := (.int .u8) }),
  (22, { agg := false, str := false, size := 1, bytes := 24, zeros := [.nils], flds := [], elem := some 31, arr := none, ty := (.list (.int .u32)) }),
  (24, { agg := true, str := true, size := 2, bytes := 32, zeros := [.nils, .sc (.int .i64) (0 : Int)], flds := [{ off := 0, size := 1, agg := false }, { off := 1, size := 1, agg := false }], elem := none, arr := none, ty := (.cons (.list (.int .u32)) (.cons (.int .i64) .nil)) }),
  (25, { agg := false, str := false, size := 1, bytes := 24, zeros := [.nils], flds := [], elem := some 33, arr := none, ty := (.list (.cons (.int .u32) (.cons (.int .u32) .nil))) }),
  (26, { agg := false, str := false, size := 1, bytes := 8, zeros := [.sc (.int .i64) (0 : Int)], flds := [], elem := none, arr := none, ty := (.int .i64) }),
  (31, { agg := false, str := false, size := 1, bytes := 4, zeros := [.sc (.int .u32) (0 : Int)], flds := [], elem := none, arr := none, ty := (.int .u32) }),
  (33, { agg := true, str := true, size := 2, bytes := 8, zeros := [.sc (.int .u32) (0 : Int), .sc (.int .u32) (0 : Int)], flds := [{ off := 0, size := 1, agg := false }, { off := 1, size := 1, agg := false }], elem := none, arr := none, ty := (.cons (.int .u32) (.cons (.int .u32) .nil)), eqo := some [(0, false), (1, false)] }),
  (36, { agg := true, str := true, size := 2, bytes := 48, zeros := [.nils, .nils], flds := [{ off := 0, size := 1, agg := false }, { off := 1, size := 1, agg := false }], elem := none, arr := none, ty := (.cons (.list (.int .u32)) (.cons (.list (.int .u32)) .nil)) }),
  (46, { agg := false, str := false, size := 1, bytes := 8, zeros := [.sc (.int .u64) (0 : Int)], flds := [], elem := none, arr := none, ty := (.int .u64) }),
  (57, { agg := false, str := false, size := 1, bytes := 8, zeros := [.sc (.int .u64) (0 : Int)], flds := [], elem := none, arr := none, ty := (.int .u64) }),
  (68, { agg := true, str := false, size := 64, bytes := 64, zeros := [.sc (.int .u8) (0 : Int), .sc (.int .u8) (0 : Int), .sc (.int .u8) (0 : Int), .sc (.int .u8) (0 : Int), .sc (.int .u8) (0 : Int), .sc (.int .u8) (0 : Int), .sc (.int .u8) (0 : Int), .sc (.int .u8) (0 : Int), .sc (.int .u8) (0 : Int), .sc (.int .u8) (0 : Int), .sc (.int .u8) (0 : Int), .sc (.int .u8) (0 : Int), .sc (.int .u8) (0 : Int), .sc (.int .u8) (0 : Int), .sc (.int .u8) (0 : Int), .sc (.int .u8) (0 : Int), .sc (.int .u8) (0 : Int), .sc (.int .u8) (0 : Int), .sc (.int .u8) (0 : Int), .sc (.int .u8) (0 : Int), .sc (.int .u8) (0 : Int), .sc (.int .u8) (0 : Int), .sc (.int .u8) (0 : Int), .sc (.int .u8) (0 : Int), .sc (.int .u8) (0 : Int), .sc (.int .u8) (0 : Int), .sc (.int .u8) (0 : Int), .sc (.int .u8) (0 : Int), .sc (.int .u8) (0 : Int), .sc (.int .u8) (0 : Int), .sc (.int .u8) (0 : Int), .sc (.int .u8) (0 : Int), .sc (.int .u8) (0 : Int), .sc (.int .u8) (0 : Int), .sc (.int .u8) (0 : Int), .sc (.int .u8) (0 : Int), .sc (.int .u8) (0 : Int), .sc (.int .u8) (0 : Int), .sc (.int .u8) (0 : Int), .sc (.int .u8) (0 : Int), .sc (.int .u8) (0 : Int), .sc (.int .u8) (0 : Int), .sc (.int .u8) (0 : Int), .sc (.int .u8) (0 : Int), .sc (.int .u8) (0 : Int), .sc (.int .u8) (0 : Int), .sc (.int .u8) (0 : Int), .sc (.int .u8) (0 : Int), .sc (.int .u8) (0 : Int), .sc (.int .u8) (0 : Int), .sc (.int .u8) (0 : Int), .sc (.int .u8) (0 : Int), .sc (.int .u8) (0 : Int), .sc (.int .u8) (0 : Int), .sc (.int .u8) (0 : Int), .sc (.int .u8) (0 : Int), .sc (.int .u8) (0 : Int), .sc (.int .u8) (0 : Int), .sc (.int .u8) (0 : Int), .sc (.int .u8) (0 : Int), .sc (.int .u8) (0 : Int), .sc (.int .u8) (0 : Int), .sc (.int .u8) (0 : Int), .sc (.int .u8) (0 : Int)], flds := [{ off := 0, size := 1, agg := false }, { off := 1, size := 1, agg := false }, { off := 2, size := 1, agg := false }, { off := 3, size := 1, agg := false }, { off := 4, size := 1, agg := false }, { off := 5, size := 1, agg := false }, { off := 6, size := 1, agg := false }, { off := 7, size := 1, agg := false }, { off := 8, size := 1, agg := false }, { off := 9, size := 1, agg := false }, { off := 10, size := 1, agg := false }, { off := 11, size := 1, agg := false }, { off := 12, size := 1, agg := false }, { off := 13, size := 1, agg := false }, { off := 14, size := 1, agg := false }, { off := 15, size := 1, agg := false }, { off := 16, size := 1, agg := false }, { off := 17, size := 1, agg := false }, { off := 18, size := 1, agg := false }, { off := 19, size := 1, agg := false }, { off := 20, size := 1, agg := false }, { off := 21, size := 1, agg := false }, { off := 22, size := 1, agg := false }, { off := 23, size := 1, agg := false }, { off := 24, size := 1, agg := false }, { off := 25, size := 1, agg := false }, { off := 26, size := 1, agg := false }, { off := 27, size := 1, agg := false }, { off := 28, size := 1, agg := false }, { off := 29, size := 1, agg := false }, { off := 30, size := 1, agg := false }, { off := 31, size := 1, agg := false }, { off := 32, size := 1, agg := false }, { off := 33, size := 1, agg := false }, { off := 34, size := 1, agg := false }, { off := 35, size := 1, agg := false }, { off := 36, size := 1, agg := false }, { off := 37, size := 1, agg := false }, { off := 38, size := 1, agg := false }, { off := 39, size := 1, agg := false }, { off := 40, size := 1, agg := false }, { off := 41, size := 1, agg := false }, { off := 42, size := 1, agg := false }, { off := 43, size := 1, agg := false }, { off := 44, size := 1, agg := false }, { off := 45, size := 1, agg := false }, { off := 46, size := 1, agg := false }, { off := 47, size := 1, agg := false }, { off := 48, size := 1, agg := false }, { off := 49, size := 1, agg := false }, { off := 50, size := 1, agg := false }, { off := 51, size := 1, agg := false }, { off := 52, size := 1, agg := false }, { off := 53, size := 1, agg := false }, { off := 54, size := 1, agg := false }, { off := 55, size := 1, agg := false }, { off := 56, size := 1, agg := false }, { off := 57, size := 1, agg := false }, { off := 58, size := 1, agg := false }, { off := 59, size := 1, agg := false }, { off := 60, size := 1, agg := false }, { off := 61, size := 1, agg := false }, { off := 62, size := 1, agg := false }, { off := 63, size := 1, agg := false }], elem := none, arr := some (64, 5), ty := .nil, eqo := some [(0, false), (1, false), (2, false), (3, false), (4, false), (5, false), (6, false), (7, false), (8, false), (9, false), (10, false), (11, false), (12, false), (13, false), (14, false), (15, false), (16, false), (17, false), (18, false), (19, false), (20, false), (21, false), (22, false), (23, false), (24, false), (25, false), (26, false), (27, false), (28, false), (29, false), (30, false), (31, false), (32, false), (33, false), (34, false), (35, false), (36, false), (37, false), (38, false), (39, false), (40, false), (41, false), (42, false), (43, false), (44, false), (45, false), (46, false), (47, false), (48, false), (49, false), (50, false), (51, false), (52, false), (53, false), (54, false), (55, false), (56, false), (57, false), (58, false), (59, false), (60, false), (61, false), (62, false), (63, false)] })]

theorem tis_ok : tiTable prog (tis.map (·.1)) = tis.map fun p => (p.1, some p.2) := by kernel_rfl
def pus : List Nat := []
theorem mixed : prog.follows .mixedOrders = true := by kernel_rfl

def lit0 : List Int := [0, 1, 56, 2, 57, 49, 28, 3, 61, 58, 42, 50, 38, 29, 17, 4, 62, 47, 59, 36, 45, 43, 51, 22, 53, 39, 33, 30, 24, 18, 12, 5, 63, 55, 48, 27, 60, 41, 37, 16, 46, 35, 44, 21, 52, 32, 23, 11, 54, 26, 40, 15, 34, 20, 31, 10, 25, 14, 19, 9, 13, 8, 7, 6]
theorem tab0_ex : ∃ l, l = lit0 := ⟨_, rfl⟩
/-- The table; shut, so that nothing looks into it by itself. -/
noncomputable def tab0 : List Int := Classical.choose tab0_ex
theorem tab0_eq : tab0 = lit0 := Classical.choose_spec tab0_ex
noncomputable def gls : List (Nat × (IntKind × Nat × List Int)) := [(0, (.u8, 64, tab0))]

/-- watershed/sets.All -/
noncomputable def sets_All : (Int × Unit) → Option (Int × Unit) := fun x =>
  (cond (decide (x.1 < 0)) none (some ((IntKind.u32.wrap ((shlI .u32 (1 : Int) x.1) - (1 : Int))), ())))
def an17 : Ann := (.seq .leaf (.seq .leaf .leaf))
noncomputable def sp17 : Abs.Spec := { args := [(false, (.int .i64))], res := [.val false (.int .u32)], f := sets_All }
theorem ok17 : FunOK' prog (Abs.look gls) 17 sp17 :=
  evalFn_ok (C := mkCtx tis [] [] [] gls pus []) (mkCtx_ok mixed tis_ok specs_nil bodies_nil ) mixed func17 (by kernel_rfl) (an := an17) (by kernel_rfl) (fun x => by kernel_rfl)

/-- math/bits.TrailingZeros64 -/
noncomputable def math_bits_TrailingZeros64 : (Int × Unit) → Option (Int × Unit) := fun x =>
  (cond (x.1 == (0 : Int)) (some ((64 : Int), ())) ((getS tab0 (shrI .u64 (IntKind.u64.wrap ((bitsI .and .u64 x.1 (IntKind.u64.wrap (0 - x.1))) * (285870213051353865 : Int))) (58 : Int))).bind fun v1 => (some ((IntKind.i64.wrap v1), ()))))
def an27 : Ann := (.seq .leaf (.seq (.seq .leaf (.br (.seq .leaf .leaf) .leaf)) (.seq .leaf .leaf)))
noncomputable def sp27 : Abs.Spec := { args := [(false, (.int .u64))], res := [.val false (.int .i64)], f := math_bits_TrailingZeros64 }
theorem ok27 : FunOK' prog (Abs.look gls) 27 sp27 :=
  evalFn_ok (C := mkCtx tis [] [] [] gls pus []) (mkCtx_ok mixed tis_ok specs_nil bodies_nil ) mixed func27 (by kernel_rfl) (an := an27) (by kernel_rfl) (fun x => by kernel_rfl)

/-- watershed/sets.One -/
noncomputable def sets_One : (Int × Unit) → Option (Int × Unit) := fun x =>
  (cond (decide (x.1 < 0)) none (some ((shlI .u32 (1 : Int) x.1), ())))
def an19 : Ann := (.seq .leaf (.seq .leaf .leaf))
noncomputable def sp19 : Abs.Spec := { args := [(false, (.int .i64))], res := [.val false (.int .u32)], f := sets_One }
theorem ok19 : FunOK' prog (Abs.look gls) 19 sp19 :=
  evalFn_ok (C := mkCtx tis [] [] [] gls pus []) (mkCtx_ok mixed tis_ok specs_nil bodies_nil ) mixed func19 (by kernel_rfl) (an := an19) (by kernel_rfl) (fun x => by kernel_rfl)

/-- watershed/polar.open -/
noncomputable def polar_open_l1 (y1 : (Int × Int × ((List Int) × (List Int) × Unit) × (List Int) × Unit)) : (Int × (List Int) × Unit) → Option ((Int × (List Int) × Unit) ⊕ (((List Int) × Unit) ⊕ Empty)) := fun y4 =>
  (cond (y4.1 != (0 : Int)) ((math_bits_TrailingZeros64 (y4.1, ())).bind fun r5 => (cond (inB r5.1 y4.2.1.length) ((y4.2.1[r5.1.toNat]?).bind fun v6 => ((sets_One (y1.2.1, ())).bind fun r7 => (cond (inB r5.1 y4.2.1.length) ((y4.2.1[r5.1.toNat]?).bind fun v8 => (some (Sum.inl ((bitsI .and .u64 y4.1 (IntKind.u64.wrap (y4.1 - (1 : Int)))), (y4.2.1.set (r5.1.toNat) (bitsI .or .u32 v6 r7.1)), ())))) none))) none)) (some (Sum.inr (Sum.inl (y4.2.1, ())))))
noncomputable def polar_open_l2 (x : (((List Int) × (Int × Unit)) × Unit)) : (Int × Int × ((List Int) × (List Int) × Unit) × (List Int) × Unit) → Option ((Int × Int × ((List Int) × (List Int) × Unit) × (List Int) × Unit) ⊕ ((Int × ((List Int) × (List Int) × Unit) × (List Int) × Unit) ⊕ (((List Int) × (List Int) × Unit) × (List Int) × Unit) ⊕ Empty)) := fun y1 =>
  (cond (decide (y1.2.1 < (x.1.1.length : Int))) ((getI x.1.1 y1.2.1).bind fun v2 => ((sets_All (x.1.2.1, ())).bind fun r3 => (cond ((bitsI .andNot .u32 v2 r3.1) != (0 : Int)) (some (Sum.inr (Sum.inl ((2 : Int), (([] : (List Int)), ([] : (List Int)), ()), y1.2.2.2.1, ())))) ((loopM (polar_open_l1 y1) ((IntKind.u64.wrap v2), y1.2.2.2.1, ())).bind (Sum.elim (fun z9 => (some (Sum.inl (y1.1, (IntKind.i64.wrap (y1.2.1 + (1 : Int))), y1.2.2.1, z9.1, ())))) Empty.elim))))) (some (Sum.inr (Sum.inr (Sum.inl (y1.2.2.1, y1.2.2.2.1, ()))))))
noncomputable def polar_open : (((List Int) × (Int × Unit)) × Unit) → Option (((List Int) × ((List Int) × Unit)) × Int × Unit) := fun x =>
  (cond (decide ((x.1.1.length : Int) > (16 : Int))) (some ((([] : (List Int)), ([] : (List Int)), ()), (1 : Int), ())) (cond (decide (x.1.2.1 < (0 : Int))) (some ((([] : (List Int)), ([] : (List Int)), ()), (1 : Int), ())) (cond (decide (x.1.2.1 > (16 : Int))) (some ((([] : (List Int)), ([] : (List Int)), ()), (1 : Int), ())) (cond (decide (0 ≤ x.1.2.1) && decide (x.1.2.1 ≤ x.1.2.1) && roomOk x.1.2.1.toNat 4 && decide (x.1.2.1 ≤ 9223372036854775807) && true && true) ((loopM (polar_open_l2 x) ((0 : Int), (0 : Int), (([] : (List Int)), ([] : (List Int)), ()), (List.replicate x.1.2.1.toNat (0 : Int)), ())).bind (Sum.elim (fun z10 => (some (z10.2.1, z10.1, ()))) (Sum.elim (fun z11 => (some ((x.1.1, z11.2.1, ()), (0 : Int), ()))) Empty.elim))) none))))
def an7 : Ann := (.seq .leaf (.seq (.seq .leaf (.br (.seq .leaf .leaf) .leaf)) (.seq .leaf (.seq (.seq .leaf (.blk (.loop [3, 5, 6, 32, 33, 34, 35, 36, 37, 38, 39, 40, 41, 42, 43, 44, 45, 56] [5, 40, 45, 53, 512, 517, 518, 546, 547, 548, 1025, 2048, 3086, 3087] [] [2, 27] [.tmp 3 (.int .i64), .tmp 32 (.int .i64), .cel 2 [.v (.list (.int .u32)), .v (.list (.int .u32))], .arrS 27 31 (.int .u32)] [(.ret, [.tmp 3 (.int .i64), .cel 2 [.v (.list (.int .u32)), .v (.list (.int .u32))], .arrS 27 31 (.int .u32)]), ((.ex 0), [.cel 2 [.v (.list (.int .u32)), .v (.list (.int .u32))], .arrS 27 31 (.int .u32)])] (.seq .leaf (.seq (.br .leaf .leaf) (.seq (.blk (.seq .leaf (.seq (.seq .leaf (.br (.seq .leaf .leaf) .leaf)) (.seq .leaf (.blk (.rng 2048)))))) .leaf)))))) (.seq .leaf .leaf)))))
noncomputable def sp7 : Abs.Spec := { args := [(true, (.cons (.list (.int .u32)) (.cons (.int .i64) .nil)))], res := [.val true (.cons (.list (.int .u32)) (.cons (.list (.int .u32)) .nil)), .val false (.int .i64)], f := polar_open }
theorem ok7 : FunOK' prog (Abs.look gls) 7 sp7 :=
  evalFn_ok (C := mkCtx tis [(17, sp17), (19, sp19), (27, sp27)] [(18, (1024, (f18, (.seq .leaf (.seq .leaf .leaf))))),
    (26, (3072, (f26, (.seq .leaf (.blk (.loop [3, 6, 7, 8, 9, 10, 11, 12, 13, 14, 15, 16] [3086, 3087] [] [27, 2048] [.tmp 3 (.int .u64), .arrS 27 31 (.int .u32), .rng 2048 .ready] [((.ex 0), [.arrS 27 31 (.int .u32), .rng 2048 .ready])] (.seq (.seq .leaf (.br .leaf .leaf)) (.seq (.blk (.seq .leaf (.br .leaf .leaf))) .leaf))))))))] [(2048, (.leaf, (.blk .leaf)))] gls pus [(90, 1024), (4096, 3072), (4097, 4096)]) (mkCtx_ok mixed tis_ok (specs_cons ok17 (specs_cons ok19 (specs_cons ok27 specs_nil))) (bodies_cons ⟨func18, by kernel_rfl, by kernel_rfl⟩ (bodies_cons ⟨func26, by kernel_rfl, by kernel_rfl⟩ bodies_nil)) ) mixed func7 (by kernel_rfl) (an := an7) (by kernel_rfl) (fun x => by kernel_rfl)

/-- watershed/polar.shared -/
noncomputable def polar_shared_l1 (x : ((List Int) × Int × Int × Unit)) : (Int × (Int × Unit) × Unit) → Option ((Int × (Int × Unit) × Unit) ⊕ (((Int × Unit) × Unit) ⊕ Empty)) := fun y2 =>
  (cond (y2.1 != (0 : Int)) ((math_bits_TrailingZeros64 (y2.1, ())).bind fun r3 => ((getI x.1 r3.1).bind fun v4 => (some (Sum.inl ((bitsI .and .u64 y2.1 (IntKind.u64.wrap (y2.1 - (1 : Int)))), ((bitsI .and .u32 y2.2.1.1 v4), ()), ()))))) (some (Sum.inr (Sum.inl (y2.2.1, ())))))
noncomputable def polar_shared : ((List Int) × Int × Int × Unit) → Option (Int × Unit) := fun x =>
  ((sets_All (x.2.2.1, ())).bind fun r1 => ((loopM (polar_shared_l1 x) ((IntKind.u64.wrap x.2.1), r1, ())).bind (Sum.elim (fun z5 => (some z5.1)) Empty.elim)))
def an20 : Ann := (.seq .leaf (.seq .leaf (.seq (.seq .leaf (.blk (.rng 2048))) (.seq .leaf .leaf))))
noncomputable def sp20 : Abs.Spec := { args := [(false, (.list (.int .u32))), (false, (.int .u32)), (false, (.int .i64))], res := [.val false (.int .u32)], f := polar_shared }
theorem ok20 : FunOK' prog (Abs.look gls) 20 sp20 :=
  evalFn_ok (C := mkCtx tis [(17, sp17), (27, sp27)] [(18, (1024, (f18, (.seq .leaf (.seq .leaf .leaf))))),
    (26, (3072, (f26, (.seq .leaf (.blk (.loop [3, 6, 7, 8, 9, 10, 11, 12, 13, 14, 15, 16] [3086, 3087] [] [7, 2048] [.tmp 3 (.int .u64), .cel 7 [.v (.int .u32)], .rng 2048 .ready] [((.ex 0), [.cel 7 [.v (.int .u32)], .rng 2048 .ready])] (.seq (.seq .leaf (.br .leaf .leaf)) (.seq (.blk (.seq .leaf (.br .leaf .leaf))) .leaf))))))))] [(2048, (.leaf, (.blk .leaf)))] gls pus [(24, 1024), (4096, 3072), (4097, 4096)]) (mkCtx_ok mixed tis_ok (specs_cons ok17 (specs_cons ok27 specs_nil)) (bodies_cons ⟨func18, by kernel_rfl, by kernel_rfl⟩ (bodies_cons ⟨func26, by kernel_rfl, by kernel_rfl⟩ bodies_nil)) ) mixed func20 (by kernel_rfl) (an := an20) (by kernel_rfl) (fun x => by kernel_rfl)

/-- (watershed/polar.sides).up -/
noncomputable def polar_sides_up : (((List Int) × ((List Int) × Unit)) × Int × Unit) → Option (Int × Unit) := fun x =>
  ((polar_shared (x.1.1, x.2.1, (x.1.2.1.length : Int), ())).bind fun r1 => (some r1))
def an9 : Ann := (.seq .leaf (.seq .leaf .leaf))
noncomputable def sp9 : Abs.Spec := { args := [(true, (.cons (.list (.int .u32)) (.cons (.list (.int .u32)) .nil))), (false, (.int .u32))], res := [.val false (.int .u32)], f := polar_sides_up }
theorem ok9 : FunOK' prog (Abs.look gls) 9 sp9 :=
  evalFn_ok (C := mkCtx tis [(20, sp20)] [] [] gls pus []) (mkCtx_ok mixed tis_ok (specs_cons ok20 specs_nil) bodies_nil ) mixed func9 (by kernel_rfl) (an := an9) (by kernel_rfl) (fun x => by kernel_rfl)

/-- (watershed/polar.sides).down -/
noncomputable def polar_sides_down : (((List Int) × ((List Int) × Unit)) × Int × Unit) → Option (Int × Unit) := fun x =>
  ((polar_shared (x.1.2.1, x.2.1, (x.1.1.length : Int), ())).bind fun r1 => (some r1))
def an8 : Ann := (.seq .leaf (.seq .leaf .leaf))
noncomputable def sp8 : Abs.Spec := { args := [(true, (.cons (.list (.int .u32)) (.cons (.list (.int .u32)) .nil))), (false, (.int .u32))], res := [.val false (.int .u32)], f := polar_sides_down }
theorem ok8 : FunOK' prog (Abs.look gls) 8 sp8 :=
  evalFn_ok (C := mkCtx tis [(20, sp20)] [] [] gls pus []) (mkCtx_ok mixed tis_ok (specs_cons ok20 specs_nil) bodies_nil ) mixed func8 (by kernel_rfl) (an := an8) (by kernel_rfl) (fun x => by kernel_rfl)

/-- watershed/sets.Has[uint32] -/
noncomputable def sets_Has_uint32 : (Int × Int × Unit) → Option (Bool × Unit) := fun x =>
  (cond (decide (x.2.1 < 0)) none (some (((bitsI .and .u32 (shrI .u32 x.1 x.2.1) (1 : Int)) == (1 : Int)), ())))
def an21 : Ann := (.seq .leaf (.seq .leaf .leaf))
noncomputable def sp21 : Abs.Spec := { args := [(false, (.int .u32)), (false, (.int .i64))], res := [.val false .bool], f := sets_Has_uint32 }
theorem ok21 : FunOK' prog (Abs.look gls) 21 sp21 :=
  evalFn_ok (C := mkCtx tis [] [] [] gls pus []) (mkCtx_ok mixed tis_ok specs_nil bodies_nil ) mixed func21 (by kernel_rfl) (an := an21) (by kernel_rfl) (fun x => by kernel_rfl)

/-- (watershed/polar.sides).step -/
noncomputable def polar_sides_step_l1 (x : (((List Int) × ((List Int) × Unit)) × Int × Unit)) : (Int × Unit) → Option ((Int × Unit) ⊕ ((Int × Bool × Unit) ⊕ (Unit) ⊕ Empty)) := fun y1 =>
  (cond (decide (y1.1 < (x.1.1.length : Int))) ((sets_Has_uint32 (x.2.1, y1.1, ())).bind fun r2 => (cond r2.1 (some (Sum.inl ((IntKind.i64.wrap (y1.1 + (1 : Int))), ()))) ((sets_All y1).bind fun r3 => ((sets_One y1).bind fun r4 => ((polar_sides_up (x.1, (bitsI .or .u32 (bitsI .andNot .u32 x.2.1 r3.1) r4.1), ())).bind fun r5 => ((polar_sides_down (x.1, r5.1, ())).bind fun r6 => ((sets_All ((IntKind.i64.wrap (y1.1 + (1 : Int))), ())).bind fun r7 => ((sets_All ((IntKind.i64.wrap (y1.1 + (1 : Int))), ())).bind fun r8 => (cond ((bitsI .andNot .u32 r6.1 r7.1) == (bitsI .andNot .u32 x.2.1 r8.1)) (some (Sum.inr (Sum.inl (r6.1, true, ())))) (some (Sum.inl ((IntKind.i64.wrap (y1.1 + (1 : Int))), ())))))))))))) (some (Sum.inr (Sum.inr (Sum.inl ())))))
noncomputable def polar_sides_step : (((List Int) × ((List Int) × Unit)) × Int × Unit) → Option (Int × Bool × Unit) := fun x =>
  ((loopM (polar_sides_step_l1 x) ((0 : Int), ())).bind (Sum.elim (fun z9 => (some z9)) (Sum.elim (fun z10 => (some ((0 : Int), false, ()))) Empty.elim)))
def an10 : Ann := (.seq .leaf (.seq .leaf (.seq (.seq .leaf (.blk (.loop [4, 5, 7, 8, 9, 14, 15, 16, 17, 18, 19, 20, 21, 22, 23, 24, 25, 26, 27, 28, 29, 30, 31, 32, 33, 34, 35, 36, 37, 38, 39, 40, 41, 42, 43, 44] [19, 22, 28, 30, 31, 35, 40] [] [] [.tmp 14 (.int .i64)] [(.ret, [.tmp 4 (.int .u32), .tmp 5 .bool]), ((.ex 0), [])] (.seq .leaf (.seq (.br .leaf .leaf) (.seq (.blk (.seq .leaf (.seq (.seq .leaf (.br .leaf .leaf)) (.seq .leaf (.seq .leaf (.seq .leaf (.br (.seq .leaf .leaf) .leaf))))))) .leaf)))))) (.seq .leaf .leaf))))
noncomputable def sp10 : Abs.Spec := { args := [(true, (.cons (.list (.int .u32)) (.cons (.list (.int .u32)) .nil))), (false, (.int .u32))], res := [.val false (.int .u32), .val false .bool], f := polar_sides_step }
theorem ok10 : FunOK' prog (Abs.look gls) 10 sp10 :=
  evalFn_ok (C := mkCtx tis [(8, sp8), (9, sp9), (17, sp17), (19, sp19), (21, sp21)] [] [] gls pus []) (mkCtx_ok mixed tis_ok (specs_cons ok8 (specs_cons ok9 (specs_cons ok17 (specs_cons ok19 (specs_cons ok21 specs_nil))))) bodies_nil ) mixed func10 (by kernel_rfl) (an := an10) (by kernel_rfl) (fun x => by kernel_rfl)

/-- cmp.isNaN[uint32] -/
noncomputable def cmp_isNaN_uint32 : (Int × Unit) → Option (Bool × Unit) := fun x =>
  (some ((x.1 != x.1), ()))
def an24 : Ann := (.seq .leaf (.seq .leaf .leaf))
noncomputable def sp24 : Abs.Spec := { args := [(false, (.int .u32))], res := [.val false .bool], f := cmp_isNaN_uint32 }
theorem ok24 : FunOK' prog (Abs.look gls) 24 sp24 :=
  evalFn_ok (C := mkCtx tis [] [] [] gls pus []) (mkCtx_ok mixed tis_ok specs_nil bodies_nil ) mixed func24 (by kernel_rfl) (an := an24) (by kernel_rfl) (fun x => by kernel_rfl)

/-- cmp.Compare[uint32] -/
noncomputable def cmp_Compare_uint32 : (Int × Int × Unit) → Option (Int × Unit) := fun x =>
  ((cmp_isNaN_uint32 (x.1, ())).bind fun r1 => ((cmp_isNaN_uint32 (x.2.1, ())).bind fun r2 => (cond r1.1 (cond r2.1 (some ((0 : Int), ())) (some ((-1 : Int), ()))) (cond r2.1 (some ((1 : Int), ())) (cond (decide (x.1 < x.2.1)) (some ((-1 : Int), ())) (cond (decide (x.1 > x.2.1)) (some ((1 : Int), ())) (some ((0 : Int), ()))))))))
def an13 : Ann := (.seq .leaf (.seq .leaf (.seq .leaf (.seq (.seq .leaf (.br (.seq (.seq .leaf (.br (.seq .leaf .leaf) .leaf)) (.seq .leaf .leaf)) .leaf)) (.seq (.seq .leaf (.br (.seq .leaf .leaf) .leaf)) (.seq (.seq .leaf (.br (.seq .leaf .leaf) .leaf)) (.seq (.seq .leaf (.br (.seq .leaf .leaf) .leaf)) (.seq .leaf .leaf))))))))
noncomputable def sp13 : Abs.Spec := { args := [(false, (.int .u32)), (false, (.int .u32))], res := [.val false (.int .i64)], f := cmp_Compare_uint32 }
theorem ok13 : FunOK' prog (Abs.look gls) 13 sp13 :=
  evalFn_ok (C := mkCtx tis [(24, sp24)] [] [] gls pus []) (mkCtx_ok mixed tis_ok (specs_cons ok24 specs_nil) bodies_nil ) mixed func13 (by kernel_rfl) (an := an13) (by kernel_rfl) (fun x => by kernel_rfl)

/-- watershed/polar.Concepts$1 -/
noncomputable def polar_Concepts_c1 : ((Int × (Int × Unit)) × (Int × (Int × Unit)) × Unit) → Option (Int × Unit) := fun x =>
  ((cmp_Compare_uint32 (x.1.1, x.2.1.1, ())).bind fun r1 => (some r1))
def an12 : Ann := (.seq .leaf (.seq .leaf .leaf))
noncomputable def sp12 : Abs.Spec := { args := [(true, (.cons (.int .u32) (.cons (.int .u32) .nil))), (true, (.cons (.int .u32) (.cons (.int .u32) .nil)))], res := [.val false (.int .i64)], f := polar_Concepts_c1 }
theorem ok12 : FunOK' prog (Abs.look gls) 12 sp12 :=
  evalFn_ok (C := mkCtx tis [(13, sp13)] [] [] gls pus []) (mkCtx_ok mixed tis_ok (specs_cons ok13 specs_nil) bodies_nil ) mixed func12 (by kernel_rfl) (an := an12) (by kernel_rfl) (fun x => by kernel_rfl)

/-- watershed/polar.Concepts -/
noncomputable def polar_Concepts_l1 (r1 : (((List Int) × ((List Int) × Unit)) × Int × Unit)) : ((List (Int × (Int × Unit))) × Int × Bool × Unit) → Option (((List (Int × (Int × Unit))) × Int × Bool × Unit) ⊕ (((List (Int × (Int × Unit))) × Int × Unit) ⊕ ((List (Int × (Int × Unit))) × Unit) ⊕ Empty)) := fun y4 =>
  (cond y4.2.2.1 (cond ((y4.1.length : Int) == (256 : Int)) (some (Sum.inr (Sum.inl (([] : (List (Int × (Int × Unit)))), (1 : Int), ())))) ((polar_sides_up (r1.1, y4.2.1, ())).bind fun r5 => (cond (true && roomOk (y4.1.length + ([(y4.2.1, r5.1, ())]).length) 8 && true && true) ((polar_sides_step (r1.1, y4.2.1, ())).bind fun r6 => (some (Sum.inl ((y4.1 ++ [(y4.2.1, r5.1, ())]), r6.1, r6.2.1, ())))) none))) (some (Sum.inr (Sum.inr (Sum.inl (y4.1, ()))))))
noncomputable def polar_Concepts : (((List Int) × (Int × Unit)) × Unit) → Option ((List (Int × (Int × Unit))) × Int × Unit) := fun x =>
  ((polar_open x).bind fun r1 => (cond (r1.2.1 != (0 : Int)) (some (([] : (List (Int × (Int × Unit)))), r1.2.1, ())) ((polar_sides_up (r1.1, (0 : Int), ())).bind fun r2 => ((polar_sides_down (r1.1, r2.1, ())).bind fun r3 => ((loopM (polar_Concepts_l1 r1) (([] : (List (Int × (Int × Unit)))), r3.1, true, ())).bind (Sum.elim (fun z7 => (some z7)) (Sum.elim (fun z8 => (cond (roomOk z8.1.length 1) ((sortP (fun a b => (polar_Concepts_c1 (a, b, ())).map fun r => r.1) z8.1).bind fun v9 => (some (v9, (0 : Int), ()))) none)) Empty.elim)))))))
def an4 : Ann := (.seq .leaf (.seq .leaf (.seq (.seq .leaf (.br (.seq .leaf .leaf) .leaf)) (.seq .leaf (.seq (.seq .leaf (.blk (.loop [2, 3, 6, 7, 8, 21, 22, 23, 24, 25, 26, 27, 28, 29, 30, 31, 32, 33, 34, 35, 36, 37, 38] [25, 35, 37, 38, 1024] [] [] [.arr 1024 33 (.cons (.int .u32) (.cons (.int .u32) .nil)) (.t 6), .own 6 1024, .tmp 7 (.int .u32), .tmp 8 .bool] [(.ret, [.tmp 2 (.list (.cons (.int .u32) (.cons (.int .u32) .nil))), .tmp 3 (.int .i64)]), ((.ex 0), [.arr 1024 33 (.cons (.int .u32) (.cons (.int .u32) .nil)) (.t 6), .own 6 1024])] (.seq (.seq .leaf (.br .leaf .leaf)) (.seq (.blk (.seq (.seq .leaf (.br (.seq .leaf .leaf) .leaf)) .leaf)) .leaf))))) (.seq .leaf (.seq .leaf .leaf)))))))
noncomputable def sp4 : Abs.Spec := { args := [(true, (.cons (.list (.int .u32)) (.cons (.int .i64) .nil)))], res := [.val false (.list (.cons (.int .u32) (.cons (.int .u32) .nil))), .val false (.int .i64)], f := polar_Concepts }
theorem ok4 : FunOK' prog (Abs.look gls) 4 sp4 :=
  evalFn_ok (C := mkCtx tis [(7, sp7), (8, sp8), (9, sp9), (10, sp10), (12, sp12)] [] [] gls pus [] [] [(11, 2)]) (mkCtxN_ok mixed tis_ok (specs_cons ok7 (specs_cons ok8 (specs_cons ok9 (specs_cons ok10 (specs_cons ok12 specs_nil))))) bodies_nil sorts_nil (sortsN_cons sortN11 sortsN_nil)) mixed func4 (by kernel_rfl) (an := an4) (by kernel_rfl) (fun x => by kernel_rfl)

/-- watershed/watershedref.Bit -/
noncomputable def ref_Bit : (Int × Int × Unit) → Option (Bool × Unit) := fun x =>
  (cond (decide ((IntKind.u64.wrap x.2.1) < 0)) none (some (((bitsI .and .u32 x.1 (shlI .u32 (1 : Int) (IntKind.u64.wrap x.2.1))) != (0 : Int)), ())))
def an25 : Ann := (.seq .leaf (.seq .leaf .leaf))
noncomputable def sp25 : Abs.Spec := { args := [(false, (.int .u32)), (false, (.int .i64))], res := [.val false .bool], f := ref_Bit }
theorem ok25 : FunOK' prog (Abs.look gls) 25 sp25 :=
  evalFn_ok (C := mkCtx tis [] [] [] gls pus []) (mkCtx_ok mixed tis_ok specs_nil bodies_nil ) mixed func25 (by kernel_rfl) (an := an25) (by kernel_rfl) (fun x => by kernel_rfl)

/-- watershed/watershedref.Outside -/
noncomputable def ref_Outside_l1 (x : (Int × Int × Unit)) : (Int × Unit) → Option ((Int × Unit) ⊕ ((Bool × Unit) ⊕ (Unit) ⊕ Empty)) := fun y1 =>
  (cond (decide (y1.1 < (32 : Int))) ((ref_Bit (x.1, y1.1, ())).bind fun r2 => (cond r2.1 (some (Sum.inr (Sum.inl (true, ())))) (some (Sum.inl ((IntKind.i64.wrap (y1.1 + (1 : Int))), ()))))) (some (Sum.inr (Sum.inr (Sum.inl ())))))
noncomputable def ref_Outside : (Int × Int × Unit) → Option (Bool × Unit) := fun x =>
  ((loopM (ref_Outside_l1 x) (x.2.1, ())).bind (Sum.elim (fun z3 => (some z3)) (Sum.elim (fun z4 => (some (false, ()))) Empty.elim)))
def an14 : Ann := (.seq .leaf (.seq (.seq .leaf (.blk (.loop [4, 5, 7, 8, 9, 10, 11, 12, 13] [13] [] [] [.tmp 5 (.int .i64)] [(.ret, [.tmp 4 .bool]), ((.ex 0), [])] (.seq (.seq .leaf (.br .leaf .leaf)) (.seq (.blk (.seq .leaf (.br (.seq .leaf .leaf) .leaf))) .leaf))))) (.seq .leaf .leaf)))
noncomputable def sp14 : Abs.Spec := { args := [(false, (.int .u32)), (false, (.int .i64))], res := [.val false .bool], f := ref_Outside }
theorem ok14 : FunOK' prog (Abs.look gls) 14 sp14 :=
  evalFn_ok (C := mkCtx tis [(25, sp25)] [] [] gls pus []) (mkCtx_ok mixed tis_ok (specs_cons ok25 specs_nil) bodies_nil ) mixed func14 (by kernel_rfl) (an := an14) (by kernel_rfl) (fun x => by kernel_rfl)

/-- watershed/watershedref.PolarCheck -/
noncomputable def ref_PolarCheck_l1 (x : (((List Int) × (Int × Unit)) × Unit)) : (Int × Unit) → Option ((Int × Unit) ⊕ ((Int × Unit) ⊕ (Unit) ⊕ Empty)) := fun y1 =>
  (cond (decide (y1.1 < (x.1.1.length : Int))) ((getI x.1.1 y1.1).bind fun v2 => ((ref_Outside (v2, x.1.2.1, ())).bind fun r3 => (cond r3.1 (some (Sum.inr (Sum.inl ((2 : Int), ())))) (some (Sum.inl ((IntKind.i64.wrap (y1.1 + (1 : Int))), ())))))) (some (Sum.inr (Sum.inr (Sum.inl ())))))
noncomputable def ref_PolarCheck : (((List Int) × (Int × Unit)) × Unit) → Option (Int × Unit) := fun x =>
  (cond (decide ((x.1.1.length : Int) > (16 : Int))) (some ((1 : Int), ())) (cond (decide (x.1.2.1 < (0 : Int))) (some ((1 : Int), ())) (cond (decide (x.1.2.1 > (16 : Int))) (some ((1 : Int), ())) ((loopM (ref_PolarCheck_l1 x) ((0 : Int), ())).bind (Sum.elim (fun z4 => (some z4)) (Sum.elim (fun z5 => (some ((0 : Int), ()))) Empty.elim))))))
def an5 : Ann := (.seq .leaf (.seq (.seq .leaf (.br (.seq .leaf .leaf) .leaf)) (.seq (.seq .leaf (.blk (.loop [2, 4, 22, 23, 24, 25, 26, 27, 28, 29, 30] [29] [] [] [.tmp 22 (.int .i64)] [(.ret, [.tmp 2 (.int .i64)]), ((.ex 0), [])] (.seq .leaf (.seq (.br .leaf .leaf) (.seq (.blk (.seq .leaf (.seq .leaf (.br (.seq .leaf .leaf) .leaf)))) .leaf)))))) (.seq .leaf .leaf))))
noncomputable def sp5 : Abs.Spec := { args := [(true, (.cons (.list (.int .u32)) (.cons (.int .i64) .nil)))], res := [.val false (.int .i64)], f := ref_PolarCheck }
theorem ok5 : FunOK' prog (Abs.look gls) 5 sp5 :=
  evalFn_ok (C := mkCtx tis [(14, sp14)] [] [] gls pus []) (mkCtx_ok mixed tis_ok (specs_cons ok14 specs_nil) bodies_nil ) mixed func5 (by kernel_rfl) (an := an5) (by kernel_rfl) (fun x => by kernel_rfl)

/-- watershed/watershedref.PolarUp -/
noncomputable def ref_PolarUp_l1 (x : (((List Int) × (Int × Unit)) × Int × Unit)) (y1 : (Int × Int × Unit)) : (Bool × Int × Unit) → Option ((Bool × Int × Unit) ⊕ ((Bool × Unit) ⊕ Empty)) := fun y2 =>
  (cond (decide (y2.2.1 < (x.1.1.length : Int))) ((ref_Bit (x.2.1, y2.2.1, ())).bind fun r3 => (cond r3.1 ((getI x.1.1 y2.2.1).bind fun v4 => ((ref_Bit (v4, y1.2.1, ())).bind fun r5 => (cond (!r5.1) (some (Sum.inl (false, (IntKind.i64.wrap (y2.2.1 + (1 : Int))), ()))) (some (Sum.inl (y2.1, (IntKind.i64.wrap (y2.2.1 + (1 : Int))), ())))))) (some (Sum.inl (y2.1, (IntKind.i64.wrap (y2.2.1 + (1 : Int))), ()))))) (some (Sum.inr (Sum.inl (y2.1, ())))))
noncomputable def ref_PolarUp_l2 (x : (((List Int) × (Int × Unit)) × Int × Unit)) : (Int × Int × Unit) → Option ((Int × Int × Unit) ⊕ ((Int × Unit) ⊕ Empty)) := fun y1 =>
  (cond (decide (y1.2.1 < x.1.2.1)) ((loopM (ref_PolarUp_l1 x y1) (true, (0 : Int), ())).bind (Sum.elim (fun z6 => (cond z6.1 (cond (decide ((IntKind.u64.wrap y1.2.1) < 0)) none (some (Sum.inl ((bitsI .or .u32 y1.1 (shlI .u32 (1 : Int) (IntKind.u64.wrap y1.2.1))), (IntKind.i64.wrap (y1.2.1 + (1 : Int))), ())))) (some (Sum.inl (y1.1, (IntKind.i64.wrap (y1.2.1 + (1 : Int))), ()))))) Empty.elim)) (some (Sum.inr (Sum.inl (y1.1, ())))))
noncomputable def ref_PolarUp : (((List Int) × (Int × Unit)) × Int × Unit) → Option (Int × Unit) := fun x =>
  ((loopM (ref_PolarUp_l2 x) ((0 : Int), (0 : Int), ())).bind (Sum.elim (fun z7 => (some z7)) Empty.elim))
def an15 : Ann := (.seq .leaf (.seq .leaf (.seq (.seq .leaf (.blk (.loop [5, 6, 7, 8, 9, 10, 11, 12, 13, 14, 15, 16, 17, 18, 19, 20, 21, 22, 23, 24, 25, 26, 27, 28, 29, 30, 31, 32, 33, 34, 35, 36, 37, 38, 39, 40] [24, 32] [] [] [.tmp 5 (.int .u32), .tmp 6 (.int .i64)] [((.ex 0), [.tmp 5 (.int .u32)])] (.seq (.seq .leaf (.br .leaf .leaf)) (.seq (.blk (.seq .leaf (.seq (.seq .leaf (.blk (.loop [7, 8, 15, 16, 17, 18, 19, 20, 21, 22, 23, 24, 25, 26, 27, 28, 29, 30, 31, 32, 33, 34] [24, 32] [] [] [.tmp 7 .bool, .tmp 8 (.int .i64)] [((.ex 2), [.tmp 7 .bool])] (.seq (.seq .leaf (.br .leaf .leaf)) (.seq (.blk (.seq .leaf (.br .leaf .leaf))) .leaf))))) (.seq .leaf (.br .leaf .leaf))))) .leaf))))) (.seq .leaf .leaf))))
noncomputable def sp15 : Abs.Spec := { args := [(true, (.cons (.list (.int .u32)) (.cons (.int .i64) .nil))), (false, (.int .u32))], res := [.val false (.int .u32)], f := ref_PolarUp }
theorem ok15 : FunOK' prog (Abs.look gls) 15 sp15 :=
  evalFn_ok (C := mkCtx tis [(25, sp25)] [] [] gls pus []) (mkCtx_ok mixed tis_ok (specs_cons ok25 specs_nil) bodies_nil ) mixed func15 (by kernel_rfl) (an := an15) (by kernel_rfl) (fun x => by kernel_rfl)

/-- watershed/watershedref.PolarDown -/
noncomputable def ref_PolarDown_l1 (x : (((List Int) × (Int × Unit)) × Int × Unit)) : (Int × Int × Unit) → Option ((Int × Int × Unit) ⊕ ((Int × Unit) ⊕ Empty)) := fun y1 =>
  (cond (decide (y1.2.1 < (x.1.1.length : Int))) ((getI x.1.1 y1.2.1).bind fun v2 => (cond ((bitsI .and .u32 v2 x.2.1) == x.2.1) (cond (decide ((IntKind.u64.wrap y1.2.1) < 0)) none (some (Sum.inl ((bitsI .or .u32 y1.1 (shlI .u32 (1 : Int) (IntKind.u64.wrap y1.2.1))), (IntKind.i64.wrap (y1.2.1 + (1 : Int))), ())))) (some (Sum.inl (y1.1, (IntKind.i64.wrap (y1.2.1 + (1 : Int))), ()))))) (some (Sum.inr (Sum.inl (y1.1, ())))))
noncomputable def ref_PolarDown : (((List Int) × (Int × Unit)) × Int × Unit) → Option (Int × Unit) := fun x =>
  ((loopM (ref_PolarDown_l1 x) ((0 : Int), (0 : Int), ())).bind (Sum.elim (fun z3 => (some z3)) Empty.elim))
def an16 : Ann := (.seq .leaf (.seq .leaf (.seq (.seq .leaf (.blk (.loop [5, 6, 7, 8, 9, 10, 11, 12, 13, 14, 15, 16, 17, 18, 19, 20, 21, 22, 23, 24, 25, 26, 27] [] [] [] [.tmp 5 (.int .u32), .tmp 6 (.int .i64)] [((.ex 0), [.tmp 5 (.int .u32)])] (.seq (.seq .leaf (.br .leaf .leaf)) (.seq (.blk (.seq .leaf (.br .leaf .leaf))) .leaf))))) (.seq .leaf .leaf))))
noncomputable def sp16 : Abs.Spec := { args := [(true, (.cons (.list (.int .u32)) (.cons (.int .i64) .nil))), (false, (.int .u32))], res := [.val false (.int .u32)], f := ref_PolarDown }
theorem ok16 : FunOK' prog (Abs.look gls) 16 sp16 :=
  evalFn_ok (C := mkCtx tis [] [] [] gls pus []) (mkCtx_ok mixed tis_ok specs_nil bodies_nil ) mixed func16 (by kernel_rfl) (an := an16) (by kernel_rfl) (fun x => by kernel_rfl)

/-- watershed/watershedref.PolarConcepts -/
noncomputable def ref_PolarConcepts_l1 (x : (((List Int) × (Int × Unit)) × Int × Unit)) : ((List (Int × (Int × Unit))) × Int × Unit) → Option (((List (Int × (Int × Unit))) × Int × Unit) ⊕ (((List (Int × (Int × Unit))) × Unit) ⊕ Empty)) := fun y1 =>
  (cond (decide ((IntKind.u64.wrap (x.1.1.length : Int)) < 0)) none (cond (decide (y1.2.1 < (shlI .u32 (1 : Int) (IntKind.u64.wrap (x.1.1.length : Int))))) (cond (decide ((y1.1.length : Int) ≤ x.2.1)) ((ref_PolarUp (x.1, y1.2.1, ())).bind fun r2 => ((ref_PolarDown (x.1, r2.1, ())).bind fun r3 => (cond (r3.1 == y1.2.1) (cond (true && roomOk (y1.1.length + ([(y1.2.1, r2.1, ())]).length) 8 && true && true) (some (Sum.inl ((y1.1 ++ [(y1.2.1, r2.1, ())]), (IntKind.u32.wrap (y1.2.1 + (1 : Int))), ()))) none) (some (Sum.inl (y1.1, (IntKind.u32.wrap (y1.2.1 + (1 : Int))), ())))))) (some (Sum.inr (Sum.inl (y1.1, ()))))) (some (Sum.inr (Sum.inl (y1.1, ()))))))
noncomputable def ref_PolarConcepts : (((List Int) × (Int × Unit)) × Int × Unit) → Option ((List (Int × (Int × Unit))) × Unit) := fun x =>
  ((loopM (ref_PolarConcepts_l1 x) (([] : (List (Int × (Int × Unit)))), (0 : Int), ())).bind (Sum.elim (fun z4 => (some z4)) Empty.elim))
def an6 : Ann := (.seq .leaf (.seq .leaf (.seq (.seq .leaf (.blk (.loop [5, 6, 7, 8, 9, 10, 11, 12, 13, 14, 15, 16, 17, 18, 19, 20, 21, 22, 23, 24, 25, 26, 27, 28, 29, 30, 31, 32, 33, 34, 35, 36] [25, 28, 35, 36, 1024] [] [] [.arr 1024 33 (.cons (.int .u32) (.cons (.int .u32) .nil)) (.t 5), .own 5 1024, .tmp 6 (.int .u32)] [((.ex 0), [.arr 1024 33 (.cons (.int .u32) (.cons (.int .u32) .nil)) (.t 5), .own 5 1024])] (.seq (.seq .leaf (.br .leaf .leaf)) (.seq (.blk (.seq .leaf (.seq .leaf (.br .leaf .leaf)))) .leaf))))) (.seq .leaf .leaf))))
noncomputable def sp6 : Abs.Spec := { args := [(true, (.cons (.list (.int .u32)) (.cons (.int .i64) .nil))), (false, (.int .i64))], res := [.own 33 (.cons (.int .u32) (.cons (.int .u32) .nil))], f := ref_PolarConcepts }
theorem ok6 : FunOK' prog (Abs.look gls) 6 sp6 :=
  evalFn_ok (C := mkCtx tis [(15, sp15), (16, sp16)] [] [] gls pus []) (mkCtx_ok mixed tis_ok (specs_cons ok15 (specs_cons ok16 specs_nil)) bodies_nil ) mixed func6 (by kernel_rfl) (an := an6) (by kernel_rfl) (fun x => by kernel_rfl)

/-- watershed/watershedlaw.PolarConcepts -/
noncomputable def law_PolarConcepts_l1 (r1 : ((List (Int × (Int × Unit))) × Int × Unit)) (r3 : ((List (Int × (Int × Unit))) × Unit)) : (Int × Unit) → Option ((Int × Unit) ⊕ ((Bool × Unit) ⊕ (Unit) ⊕ Empty)) := fun y4 =>
  (cond (decide (y4.1 < (r1.1.length : Int))) ((getI r1.1 y4.1).bind fun v5 => (cond (inB y4.1 r3.1.length) ((r3.1[y4.1.toNat]?).bind fun v6 => (cond (!(v5.1 == v6.1 && (v5.2.1 == v6.2.1 && true))) (some (Sum.inr (Sum.inl (false, ())))) (some (Sum.inl ((IntKind.i64.wrap (y4.1 + (1 : Int))), ()))))) none)) (some (Sum.inr (Sum.inr (Sum.inl ())))))
noncomputable def law_PolarConcepts : (((List Int) × (Int × Unit)) × Unit) → Option (Bool × Unit) := fun x =>
  ((polar_Concepts x).bind fun r1 => ((ref_PolarCheck x).bind fun r2 => (cond (r2.1 != (0 : Int)) (cond (r1.2.1 == r2.1) (some (((r1.1.length : Int) == (0 : Int)), ())) (some (false, ()))) ((ref_PolarConcepts (x.1, (256 : Int), ())).bind fun r3 => (cond (decide ((r3.1.length : Int) > (256 : Int))) (cond (r1.2.1 == (1 : Int)) (some (((r1.1.length : Int) == (0 : Int)), ())) (some (false, ()))) (cond (r1.2.1 != (0 : Int)) (some (false, ())) (cond ((r1.1.length : Int) != (r3.1.length : Int)) (some (false, ())) ((loopM (law_PolarConcepts_l1 r1 r3) ((0 : Int), ())).bind (Sum.elim (fun z7 => (some z7)) (Sum.elim (fun z8 => (some (true, ()))) Empty.elim))))))))))
def an3 : Ann := (.seq .leaf (.seq .leaf (.seq .leaf (.seq (.seq .leaf (.br (.seq .leaf .leaf) .leaf)) (.seq .leaf (.seq (.seq .leaf (.br (.seq .leaf .leaf) .leaf)) (.seq (.seq .leaf (.br (.seq .leaf .leaf) .leaf)) (.seq (.seq .leaf (.blk (.loop [2, 7, 46, 47, 48, 49, 50, 51, 52, 53, 54, 55, 56, 57, 58, 59, 60] [] [] [] [.tmp 7 (.int .i64)] [(.ret, [.tmp 2 .bool]), ((.ex 0), [])] (.seq (.seq .leaf (.br .leaf .leaf)) (.seq (.blk (.seq .leaf (.br (.seq .leaf .leaf) .leaf))) .leaf))))) (.seq .leaf .leaf)))))))))
noncomputable def sp3 : Abs.Spec := { args := [(true, (.cons (.list (.int .u32)) (.cons (.int .i64) .nil)))], res := [.val false .bool], f := law_PolarConcepts }
theorem ok3 : FunOK' prog (Abs.look gls) 3 sp3 :=
  evalFn_ok (C := mkCtx tis [(4, sp4), (5, sp5), (6, sp6)] [] [] gls pus []) (mkCtx_ok mixed tis_ok (specs_cons ok4 (specs_cons ok5 (specs_cons ok6 specs_nil))) bodies_nil ) mixed func3 (by kernel_rfl) (an := an3) (by kernel_rfl) (fun x => by kernel_rfl)

end Go.Proofs.Tryd
