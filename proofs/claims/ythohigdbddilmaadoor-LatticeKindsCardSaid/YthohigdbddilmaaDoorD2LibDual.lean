/- Lemmas on functions of the program, by name: dual. -/
import Derived.Test.YthohigdbddilmaaDoorD2Funs
import Derived.Test.YthohigdbddilmaaDoorAbsSums
import Derived.Test.YthohigdbddilmaaDoorD2LibOrder2
namespace Go.Proofs.Tryd
open Go Go.Abs


/-- For each element those below it. -/
def downW (n : Nat) (ws : List Nat) : List Nat := tab n fun j => wordOf n fun i => below ws i j

theorem order_Down_l1_eq {n : Nat} (hn : n ≤ 16) {w i : Nat} (hw : w < 2 ^ 32) (hin : ∀ j, w.testBit j = true → j < n) (hi : i < 32) (y : List Int × Unit) (g : Nat → Nat) (hg : ∀ j, j < n → g j < 2 ^ 32) :
    loopM (order_Down_l1 ((i : Int), y)) ((w : Int), cl (tab n g), ()) = some (.inl (cl (tab n fun j => if w.testBit j = true then g j ||| 2 ^ i else g j), ())) := by
  have hw64 : w < 2 ^ 64 := Nat.lt_of_lt_of_le hw (by decide)
  have hp : 2 ^ i < 2 ^ 32 := Nat.pow_lt_pow_right (by decide) hi
  have hsim := eachM_sim (e := fun s => (.inl (s.1, ()) : (List Int × Unit) ⊕ Empty)) (g := fun r (s : List Int × Unit) => (s.1[r]?).map fun v => (.inl (s.1.set r (bitsI .or .u32 v ((2 ^ i : Nat) : Int)), ()) : (List Int × Unit) ⊕ ((List Int × Unit) ⊕ Empty)))
    (fun g : Nat → Nat => (cl (tab n g), ())) (fun g r => fun j => if j = r then g j ||| 2 ^ i else g j) (fun g => ∀ j, j < n → g j < 2 ^ 32) (bitsL w) g hg (fun r hr g hg => by
      have hr := hin r ((mem_bitsL hw64).1 hr)
      refine ⟨?_, fun j hj => ?_⟩
      · simp only [cl_get, tab_get g hr, Option.map_some]
        rw [or_u32 (hg r hr) hp, cl_set, tab_set]
        have : tab n (fun j => if j = r then g r ||| 2 ^ i else g j) = tab n (fun j => if j = r then g j ||| 2 ^ i else g j) := tab_congr fun j _ => by
          by_cases h : j = r
          · subst h; rfl
          · simp [h]
        rw [this]
      · dsimp only
        split
        · exact Nat.or_lt_two_pow (hg j hj) hp
        · exact hg j hj)
  have hloop := loopM_each (f := order_Down_l1 ((i : Int), y)) hw64 (fun r q s h hb => ?_) (fun s => ?_) _ _ hsim.1
  · rw [hloop]
    have : tab n (List.foldl (fun g r j => if j = r then g j ||| 2 ^ i else g j) g (bitsL w)) = tab n fun j => if w.testBit j = true then g j ||| 2 ^ i else g j := tab_congr fun j _ => by
      rw [foldl_or_at]
      simp only [mem_bitsL hw64]
    rw [← this]
  · have hr := hin r hb
    unfold order_Down_l1
    simp only [nz_eq, cond_true, tz_eq h, Option.bind_some, sets_One_eq hi, inB_nat, clr_eq h, Int.toNat_natCast]
    cases hv : s.1[r]? with
    | none =>
      have : decide (r < s.1.length) = false := by
        rw [List.getElem?_eq_none_iff] at hv; exact decide_eq_false (by omega)
      simp [this]
    | some v =>
      have : decide (r < s.1.length) = true := by
        have := (List.getElem?_eq_some_iff.1 hv).1; exact decide_eq_true this
      simp [this]
  · unfold order_Down_l1
    rfl

theorem order_Down_eq {n : Nat} {ws : List Nat} (hf : Fit ws) (hl : ws.length = n) (hn : n ≤ 16) (hin : Inside n ws) : order_Down (((n : Int), cl ws, ()), ()) = some (cl (downW n ws), ()) := by
  have hloop : loopM (order_Down_l2 (((n : Int), cl ws, ()), ())) (0, (fun k => (cl (tab n fun j => wordOf k fun i => below ws i j), ())) 0) = some (.inl (cl (downW n ws), ())) := by
    refine loopM_up n (fun k => (cl (tab n fun j => wordOf k fun i => below ws i j), ())) _ (fun i hi => ?_) ?_
    · have hi' : i < ws.length := by omega
      have e : ws[i]? = some ws[i] := List.getElem?_eq_getElem hi'
      have hfr := hf _ (List.getElem_mem hi')
      have e0 : decide ((i : Int) < ((cl ws).length : Int)) = true := by rw [cl_length]; exact decide_eq_true (by omega)
      unfold order_Down_l2
      simp only [e0, cond_true, cl_getI, e, Option.map_some, Option.bind_some]
      rw [wrap_u64 (Nat.lt_of_lt_of_le hfr (by decide)), order_Down_l1_eq hn hfr (fun j hj => below_lt hin hi' (by rw [below_eq e]; exact hj)) (by omega) _ _ (fun j _ => wordOf_lt32 _ (by omega)), wrap64 (by omega) (by omega)]
      simp only [Option.bind_some, Sum.elim_inl]
      have : tab n (fun j => if ws[i].testBit j = true then (wordOf i fun i => below ws i j) ||| 2 ^ i else wordOf i fun i => below ws i j) = tab n fun j => wordOf (i + 1) fun i => below ws i j := tab_congr fun j _ => by
        rw [wordOf, below_eq e]
      rw [this]; rfl
    · have e0 : decide ((n : Int) < ((cl ws).length : Int)) = false := by rw [cl_length]; exact decide_eq_false (by omega)
      unfold order_Down_l2
      simp only [e0, cond_false]
      rfl
  unfold order_Down
  have c1 : (decide (0 ≤ (n : Int)) && decide ((n : Int) ≤ (n : Int)) && roomOk n 4 && decide ((n : Int) ≤ 9223372036854775807) && true && true) = true := by
    rw [room4 (by omega)]
    simp; omega
  simp only [Int.toNat_natCast, c1, cond_true]
  have e1 : List.replicate n (0 : Int) = cl (tab n fun j => wordOf 0 fun i => below ws i j) := by
    rw [cl_rep, rep_tab]; rfl
  rw [e1]
  have hloop' : loopM (order_Down_l2 (((n : Int), cl ws, ()), ())) (0, cl (tab n fun j => wordOf 0 fun i => below ws i j), ()) = some (.inl (cl (downW n ws), ())) := hloop
  rw [hloop']
  rfl

/-- Turned round. -/
theorem order_Dual_eq {N : Int} {ws : List Nat} (hf : Fit ws) : order_Dual ((N, cl ws, ()), ()) = some (if ordc N ws = 0 then ((N, cl (downW N.toNat ws), ()), 0, ()) else ((0, [], ()), ordc N ws, ())) := by
  unfold order_Dual
  simp only [order_Check_eq hf, Option.bind_some, cond_bne]
  by_cases h : ordc N ws = 0
  · obtain ⟨h1, h2, h3, h4, h5⟩ := ordc_zero h
    obtain ⟨n, rfl⟩ := Int.eq_ofNat_of_zero_le h1
    rw [if_pos h, if_pos h, order_Down_eq hf (n := n) (by omega) (by omega) h4]
    rfl
  · rw [if_neg h, if_neg h]

theorem ref_OrderDual_eq {n : Nat} {ws : List Nat} (hf : Fit ws) (hl : ws.length = n) (hn : n ≤ 16) : ref_OrderDual (((n : Int), cl ws, ()), ()) = some (((n : Int), cl (downW n ws), ()), ()) := by
  have h1 : ∀ (i : Nat) (y : List Int × (Int × Unit) × Unit), i < n → loopM (ref_OrderDual_l1 (((n : Int), cl ws, ()), ()) ((i : Int), y)) (0, 0, ()) = some (.inl (((wordOf n fun j => below ws j i : Nat) : Int), ())) := by
    intro i y hi
    refine loopM_fold' n (fun k => ((wordOf k fun j => below ws j i : Nat) : Int)) _ (fun j hj => ?_) ?_
    · unfold ref_OrderDual_l1
      have e0 : decide ((j : Int) < (n : Int)) = true := decide_eq_true (by omega)
      have e3 : decide (IntKind.u64.wrap (j : Int) < 0) = false := by rw [wrap_u64 (by omega)]; exact decide_eq_false (by omega)
      simp only [e0, cond_true]
      rw [ref_Below_eq hf (by omega) (by omega), wrap64 (by omega) (by omega)]
      simp only [Option.bind_some, e3, cond_false]
      rw [wrap_u64 (by omega), shl_u32 (by omega), or_u32 (wordOf_lt32 _ (by omega)) (Nat.pow_lt_pow_right (by decide) (by omega)), wordOf]
      cases below ws j i <;> rfl
    · unfold ref_OrderDual_l1
      have e0 : decide ((n : Int) < (n : Int)) = false := decide_eq_false (by omega)
      simp only [e0, cond_false]
  have h2 : loopM (ref_OrderDual_l2 (((n : Int), cl ws, ()), ())) (0, (fun k => (cl (tab k fun i => wordOf n fun j => below ws j i), ((n : Int), ()), ())) 0) = some (.inl (cl (downW n ws), ((n : Int), ()), ())) := by
    refine loopM_up n (fun k => (cl (tab k fun i => wordOf n fun j => below ws j i), ((n : Int), ()), ())) _ (fun i hi => ?_) ?_
    · unfold ref_OrderDual_l2
      have e0 : decide ((i : Int) < (n : Int)) = true := decide_eq_true (by omega)
      simp only [e0, cond_true]
      rw [h1 i _ hi, wrap64 (by omega) (by omega)]
      simp only [Option.bind_some, Sum.elim_inl, cl_length, tab_length, List.length_singleton]
      rw [room4 (by omega), tab_succ, ← cl_app]
      rfl
    · unfold ref_OrderDual_l2
      have e0 : decide ((n : Int) < (n : Int)) = false := decide_eq_false (by omega)
      simp only [e0, cond_false]
      rfl
  unfold ref_OrderDual
  have h3 : loopM (ref_OrderDual_l2 (((n : Int), cl ws, ()), ())) (0, [], ((n : Int), ()), ()) = some (.inl (cl (downW n ws), ((n : Int), ()), ())) := h2
  simp only [h3, Option.bind_some, Sum.elim_inl]

end Go.Proofs.Tryd
