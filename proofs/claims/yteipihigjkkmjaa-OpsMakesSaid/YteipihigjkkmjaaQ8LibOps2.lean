/- Lemmas on functions of the program, by name: ops2. -/
import Derived.Test.YteipihigjkkmjaaQ8Funs
import Derived.Test.YteipihigjkkmjaaAbsSums
import Derived.Test.YteipihigjkkmjaaQ8LibOps1
namespace Go.Proofs.Try
open Go Go.Abs


/-! Operators on one bag: the reference. -/
theorem ref_opRow_eq (op : Op3) (r : Rw) : ref_opRow (op, r, ()) = some (if op.1 = 1 then ((W (r.1 + op.2.1), W (r.2.1 + op.2.2.1), r.2.2.1, ()), true, ()) else if op.1 = 2 then ((r.2.1, r.1, r.2.2.1, ()), true, ()) else if op.1 = 4 then ((r.1, r.2.1, W (0 - r.2.2.1), ()), true, ()) else (r, (bitsI .and .i64 r.1 op.2.1 == op.2.2.1), ())) := by
  unfold ref_opRow W
  simp only [cond_beq]
  split
  · rfl
  · split
    · rfl
    · split <;> rfl

/-- From behind: what the rows of a key come to. -/
def scanL (k : Int) : List Rw → Int × Int × Int × Bool × Unit
  | [] => (0, 0, 0, false, ())
  | x :: l => if x.1 = k then (W ((scanL k l).1 + W (x.2.1 * x.2.2.1)), W ((scanL k l).2.1 + x.2.2.1), if x.2.2.1 > 0 then x.2.1 else (scanL k l).2.2.1, if x.2.2.1 > 0 then true else (scanL k l).2.2.2.1, ()) else scanL k l

theorem scanL_eq (k : Int) : ∀ (l : List Rw), scanL k l = (W (((l.filter fun x => x.1 == k).map fun r => W (r.2.1 * r.2.2.1)).sum), W (((l.filter fun x => x.1 == k).map fun r => r.2.2.1).sum),
    (match (l.filter fun x => x.1 == k).find? fun r => decide (r.2.2.1 > 0) with | some r => r.2.1 | none => 0), ((l.filter fun x => x.1 == k).find? fun r => decide (r.2.2.1 > 0)).isSome, ())
  | [] => by
    show ((0 : Int), (0 : Int), (0 : Int), false, ()) = (W 0, W 0, 0, false, ())
    rw [W_zero]
  | x :: l => by
    have ih := scanL_eq k l
    unfold scanL
    by_cases hx : x.1 = k
    · have hb : (x.1 == k) = true := beqT hx
      rw [if_pos hx, ih, List.filter_cons, hb]
      simp only [if_true, List.map_cons, List.sum_cons, List.find?_cons]
      have e1 : ∀ a b : Int, W (W a + W b) = W (W b + a) := fun a b => by rw [W_add, W_add', W_add, Int.add_comm]
      have e2 : ∀ a b : Int, W (W a + b) = W (b + a) := fun a b => by rw [W_add, Int.add_comm]
      have f1 : W (W ((l.filter fun x => x.1 == k).map fun r => W (r.2.1 * r.2.2.1)).sum + W (x.2.1 * x.2.2.1)) = W (W (x.2.1 * x.2.2.1) + ((l.filter fun x => x.1 == k).map fun r => W (r.2.1 * r.2.2.1)).sum) := e1 _ _
      have f2 : W (W ((l.filter fun x => x.1 == k).map fun r => r.2.2.1).sum + x.2.2.1) = W (x.2.2.1 + ((l.filter fun x => x.1 == k).map fun r => r.2.2.1).sum) := e2 _ _
      by_cases hp : x.2.2.1 > 0
      · rw [if_pos hp, if_pos hp, decide_eq_true hp, f1, f2]; rfl
      · rw [if_neg hp, if_neg hp, decide_eq_false hp, f1, f2]
    · have hb : (x.1 == k) = false := beqF hx
      rw [if_neg hx, ih, List.filter_cons, hb]
      rfl

theorem scan_run {op : Op3} {R : List Rw} {i : Nat} (hi : i < R.length) (hl : R.length ≤ 2900000) (out : List Rw) : ∀ (d q : Nat), q = i + d → q ≤ R.length →
    loopM (ref_OpOne_l1 (op, R, ()) (out, (i : Int), ()) R[i]) ((scanL R[i].1 (R.drop q)).1, (scanL R[i].1 (R.drop q)).2.1, (scanL R[i].1 (R.drop q)).2.2.1, (scanL R[i].1 (R.drop q)).2.2.2.1, (q : Int) - 1, ()) = some (.inl (scanL R[i].1 (R.drop i)))
  | 0, q, hq, hql => by
    have : q = i := by omega
    subst this
    refine loopM_inr ?_
    unfold ref_OpOne_l1
    simp only [dcF (show ¬ (q : Int) - 1 ≥ (q : Int) by omega), cond_false]
  | d + 1, q, hq, hql => by
    have hp : q - 1 < R.length := by omega
    have hgi : getI R ((q : Int) - 1) = some R[q - 1] := by
      rw [show (q : Int) - 1 = ((q - 1 : Nat) : Int) by omega, getI_nat, List.getElem?_eq_getElem hp]
    have hdrop : R.drop (q - 1) = R[q - 1] :: R.drop q := by
      have := List.drop_eq_getElem_cons hp
      rw [show q - 1 + 1 = q from by omega] at this
      exact this
    have hw : IntKind.i64.wrap ((q : Int) - 1 - 1) = ((q - 1 : Nat) : Int) - 1 := by rw [wrap64 (by omega) (by omega)]; omega
    rw [loopM_inl (s' := ((scanL R[i].1 (R.drop (q - 1))).1, (scanL R[i].1 (R.drop (q - 1))).2.1, (scanL R[i].1 (R.drop (q - 1))).2.2.1, (scanL R[i].1 (R.drop (q - 1))).2.2.2.1, ((q - 1 : Nat) : Int) - 1, ())) (by
      unfold ref_OpOne_l1
      simp only [dcT (show (q : Int) - 1 ≥ (i : Int) by omega), cond_true, hgi, Option.bind_some, hw, cond_bne]
      rw [hdrop]
      by_cases hk : R[q - 1].1 = R[i].1
      · rw [if_pos hk]
        show _ = some (Sum.inl ((scanL R[i].1 (R[q - 1] :: R.drop q)).1, (scanL R[i].1 (R[q - 1] :: R.drop q)).2.1, (scanL R[i].1 (R[q - 1] :: R.drop q)).2.2.1, (scanL R[i].1 (R[q - 1] :: R.drop q)).2.2.2.1, ((q - 1 : Nat) : Int) - 1, ()))
        have e : scanL R[i].1 (R[q - 1] :: R.drop q) = (W ((scanL R[i].1 (R.drop q)).1 + W (R[q - 1].2.1 * R[q - 1].2.2.1)), W ((scanL R[i].1 (R.drop q)).2.1 + R[q - 1].2.2.1), if R[q - 1].2.2.1 > 0 then R[q - 1].2.1 else (scanL R[i].1 (R.drop q)).2.2.1, if R[q - 1].2.2.1 > 0 then true else (scanL R[i].1 (R.drop q)).2.2.2.1, ()) := by
          conv => lhs; unfold scanL
          rw [if_pos hk]
        rw [e]
        by_cases h0 : R[q - 1].2.2.1 > 0
        · rw [dcT h0, cond_true, if_pos h0, if_pos h0]; rfl
        · rw [dcF h0, cond_false, if_neg h0, if_neg h0]; rfl
      · rw [if_neg hk]
        have e : scanL R[i].1 (R[q - 1] :: R.drop q) = scanL R[i].1 (R.drop q) := by
          conv => lhs; unfold scanL
          rw [if_neg hk]
        rw [e])]
    exact scan_run hi hl out d (q - 1) (by omega) (by omega)

theorem opG_one (op : Op3) (R : List Rw) (i : Nat) : (opG op R i).length ≤ 1 := by
  unfold opG
  split
  · simp
  · split
    · unfold oprow
      split
      · simp
      · split
        · simp
        · split
          · simp
          · split <;> simp
    · split
      · split <;> simp
      · split
        · simp
        · rw [List.length_map]
          unfold heapL
          split
          · simp
          · split
            · simp
            · split
              · split <;> simp
              · simp
def opO (op : Op3) (R : List Rw) (i : Nat) : List Rw := (List.range i).flatMap (opG op R)
theorem opO_succ (op : Op3) (R : List Rw) (i : Nat) : opO op R (i + 1) = opO op R i ++ opG op R i := by
  unfold opO
  rw [List.range_succ, List.flatMap_append]
  simp
theorem opO_length (op : Op3) (R : List Rw) : ∀ i, (opO op R i).length ≤ i
  | 0 => Nat.le_refl _
  | i + 1 => by
    rw [opO_succ, List.length_append]
    have := opO_length op R i
    have := opG_one op R i
    omega
theorem opL_length (op : Op3) (R : List Rw) : (opL op R).length ≤ R.length := opO_length op R R.length

theorem one_row : ∀ x : Rw, ([x] : List Rw).length = 1 := fun _ => rfl
abbrev LO := Option ((List Rw × Int × Unit) ⊕ ((List Rw × Unit) ⊕ Empty))

theorem ref_OpOne_step {op : Op3} {R : List Rw} (h1 : 1 ≤ op.1) (h8 : op.1 ≤ 8) (hl : R.length ≤ 2900000) {i : Nat} (hi : i < R.length) : ref_OpOne_l3 (op, R, ()) (opO op R i, (i : Int), ()) = some (.inl (opO op R (i + 1), ((i + 1 : Nat) : Int), ())) := by
  have hlen := opO_length op R i
  have hroom : roomOk ((opO op R i).length + 1) 24 = true := room24 (by omega)
  unfold ref_OpOne_l3
  rw [opO_succ]
  simp only [dcT (show (i : Int) < (R.length : Int) by omega), cond_true, getI_nat, List.getElem?_eq_getElem hi, Option.bind_some, wrapS (show i < 9223372036854775807 by omega), one_row, hroom, Bool.and_true, Bool.true_and]
  by_cases h4 : op.1 ≤ 4
  · rw [dcT h4, cond_true, ref_opRow_eq, opG_lin hi h4]
    simp only [Option.bind_some]
    unfold oprow
    by_cases k1 : op.1 = 1
    · rw [if_pos k1, if_pos k1]; rfl
    · rw [if_neg k1, if_neg k1]
      by_cases k2 : op.1 = 2
      · rw [if_pos k2, if_pos k2]; rfl
      · rw [if_neg k2, if_neg k2]
        by_cases k4 : op.1 = 4
        · rw [if_pos k4, if_pos k4]; rfl
        · rw [if_neg k4, if_neg k4]
          by_cases hb : bitsI .and .i64 R[i].1 op.2.1 = op.2.2.1
          · rw [if_pos hb]
            simp only [beqT hb, cond_true]; rfl
          · rw [if_neg hb]
            simp only [beqF hb, cond_false, List.append_nil]; rfl
  · rw [dcF h4, cond_false]
    by_cases h7 : op.1 = 7
    · rw [beqT h7, cond_true]
      have hg : opG op R i = if R[i].2.2.1 > 0 then [(R[i].1, R[i].2.1, 1, ())] else [] := by
        unfold opG
        rw [List.getElem?_eq_getElem hi]
        simp only [if_neg h4, if_pos h7]
      rw [hg]
      by_cases hp : R[i].2.2.1 > 0
      · rw [dcT hp, cond_true, if_pos hp]; rfl
      · rw [dcF hp, cond_false, if_neg hp, List.append_nil]; rfl
    · rw [beqF h7, cond_false]
      have hg : opG op R i = if 0 < i ∧ (R[i - 1]?).map (·.1) = some R[i].1 then [] else (heapL op.1 ((R.drop i).filter fun x => x.1 == R[i].1)).map fun v => (R[i].1, v, 1, ()) := by
        unfold opG
        rw [List.getElem?_eq_getElem hi]
        simp only [if_neg h4, if_neg h7]
      have hscan : ∀ (out : List Rw), loopM (ref_OpOne_l1 (op, R, ()) (out, (i : Int), ()) R[i]) ((0 : Int), (0 : Int), (0 : Int), false, IntKind.i64.wrap ((R.length : Int) - 1), ()) = some (.inl (scanL R[i].1 (R.drop i))) := fun out => by
        have := scan_run (op := op) hi hl out (R.length - i) R.length (by omega) (Nat.le_refl _)
        rw [List.drop_length] at this
        rw [show IntKind.i64.wrap ((R.length : Int) - 1) = (R.length : Int) - 1 from wrap64 (by omega) (by omega)]
        exact this
      have hscan2 : ∀ (out : List Rw), loopM (ref_OpOne_l2 (op, R, ()) (out, (i : Int), ()) R[i]) ((0 : Int), (0 : Int), (0 : Int), false, IntKind.i64.wrap ((R.length : Int) - 1), ()) = some (.inl (scanL R[i].1 (R.drop i))) := hscan
      -- what is put behind
      have tail : ¬ (0 < i ∧ (R[i - 1]?).map (·.1) = some R[i].1) → (((cond (op.1 == (5 : Int)) (some (Sum.inl ((opO op R i ++ [(R[i].1, (scanL R[i].1 (R.drop i)).1, (1 : Int), ())]), ()))) (some (Sum.inl (opO op R i, ())))) : Option ((List Rw × Unit) ⊕ Empty)).bind (Sum.elim (fun z10 => (((cond (op.1 == (6 : Int)) (cond (roomOk (z10.1.length + 1) 24) (some (Sum.inl ((z10.1 ++ [(R[i].1, (scanL R[i].1 (R.drop i)).2.1, (1 : Int), ())]), ()))) none) (some (Sum.inl z10))) : Option ((List Rw × Unit) ⊕ Empty)).bind (Sum.elim (fun z11 => (cond (op.1 == (8 : Int)) (cond (scanL R[i].1 (R.drop i)).2.2.2.1 (cond (roomOk (z11.1.length + 1) 24) (some (Sum.inl ((z11.1 ++ [(R[i].1, (scanL R[i].1 (R.drop i)).2.2.1, (1 : Int), ())]), ((i + 1 : Nat) : Int), ()))) none) (some (Sum.inl (z11.1, ((i + 1 : Nat) : Int), ())))) (some (Sum.inl (z11.1, ((i + 1 : Nat) : Int), ()))) : LO)) Empty.elim))) Empty.elim)) = some (.inl (opO op R i ++ opG op R i, ((i + 1 : Nat) : Int), ())) := by
        intro hn
        rw [hg, if_neg hn, scanL_eq]
        have h568 : op.1 = 5 ∨ op.1 = 6 ∨ op.1 = 8 := by omega
        unfold heapL
        rcases h568 with h | h | h
        · simp only [h, show ((5 : Int) == 5) = true from rfl, show ((5 : Int) == 6) = false from rfl, show ((5 : Int) == 8) = false from rfl, cond_true, cond_false, Option.bind_some, Sum.elim_inl, if_true, List.map_cons, List.map_nil]
        · simp only [h, show ((6 : Int) == 5) = false from rfl, show ((6 : Int) == 6) = true from rfl, show ((6 : Int) == 8) = false from rfl, cond_true, cond_false, Option.bind_some, Sum.elim_inl, hroom, if_neg (show ¬ (6 : Int) = 5 by decide), if_true, List.map_cons, List.map_nil]
        · simp only [h, show ((8 : Int) == 5) = false from rfl, show ((8 : Int) == 6) = false from rfl, show ((8 : Int) == 8) = true from rfl, cond_true, cond_false, Option.bind_some, Sum.elim_inl, hroom, if_neg (show ¬ (8 : Int) = 5 by decide), if_neg (show ¬ (8 : Int) = 6 by decide), if_true]
          cases hf : ((R.drop i).filter fun x => x.1 == R[i].1).find? fun r => decide (r.2.2.1 > 0) with
          | none => simp only [Option.isSome_none, cond_false, List.map_nil, List.append_nil]
          | some r => simp only [Option.isSome_some, cond_true, List.map_cons, List.map_nil]
      by_cases h0 : 0 < i
      · have hp : i - 1 < R.length := by omega
        have hgi : getI R (IntKind.i64.wrap ((i : Int) - 1)) = some R[i - 1] := by
          rw [show IntKind.i64.wrap ((i : Int) - 1) = ((i - 1 : Nat) : Int) by rw [wrap64 (by omega) (by omega)]; omega, getI_nat, List.getElem?_eq_getElem hp]
        simp only [dcT (show (i : Int) > 0 by omega), cond_true, hgi, Option.bind_some]
        by_cases he : R[i - 1].1 = R[i].1
        · rw [beqT he, cond_true, hg, if_pos ⟨h0, by rw [List.getElem?_eq_getElem hp, Option.map_some, he]⟩, List.append_nil]
        · rw [beqF he, cond_false, hscan]
          exact tail fun hh => he (by have := hh.2; rw [List.getElem?_eq_getElem hp, Option.map_some, Option.some.injEq] at this; exact this)
      · simp only [dcF (show ¬ (i : Int) > 0 by omega), cond_false]
        rw [hscan2]
        exact tail fun hh => h0 hh.1

theorem ref_OpOne_eq {op : Op3} {R : List Rw} (h1 : 1 ≤ op.1) (h8 : op.1 ≤ 8) (hl : R.length ≤ 2900000) : ref_OpOne (op, R, ()) = some ((rowsOf (opL op R) []).filter nzB, ()) := by
  have h := loopM_fold' (f := ref_OpOne_l3 (op, R, ())) R.length (opO op R) (.inl (opO op R R.length, ())) (fun i hi => ref_OpOne_step h1 h8 hl hi) (by
    unfold ref_OpOne_l3
    simp only [dcF (show ¬ (R.length : Int) < (R.length : Int) by omega), cond_false])
  have h' : loopM (ref_OpOne_l3 (op, R, ())) (([] : List Rw), (0 : Int), ()) = some (.inl (opL op R, ())) := h
  have := opL_length op R
  unfold ref_OpOne
  rw [h']
  simp only [Option.bind_some, Sum.elim_inl]
  rw [ref_Bag_eq (by omega)]; rfl

end Go.Proofs.Try
