/- Lemmas on functions of the program, by name: ops1. -/
import Derived.Test.YteipihigjkkmjaaQ8Funs
import Derived.Test.YteipihigjkkmjaaAbsSums
import Derived.Test.YteipihigjkkmjaaQ8LibBags3
import Derived.Test.YteipihigjkkmjaaQ8LibFindm
namespace Go.Proofs.Try
open Go Go.Abs


/-! Operators on one bag: plainly, and what the program's functions come to. -/
abbrev Op3 := Int × Int × Int × Unit
def oprow (op : Op3) (r : Rw) : List Rw :=
  if op.1 = 1 then [(W (r.1 + op.2.1), W (r.2.1 + op.2.2.1), r.2.2.1, ())]
  else if op.1 = 2 then [(r.2.1, r.1, r.2.2.1, ())]
  else if op.1 = 4 then [(r.1, r.2.1, W (0 - r.2.2.1), ())]
  else if bitsI .and .i64 r.1 op.2.1 = op.2.2.1 then [r] else []
/-- What a key's rows come to. -/
def heapL (kind : Int) (g : List Rw) : List Int :=
  if kind = 5 then [W ((g.map fun r => W (r.2.1 * r.2.2.1)).sum)]
  else if kind = 6 then [W ((g.map fun r => r.2.2.1).sum)]
  else if kind = 8 then (match g.find? fun r => decide (r.2.2.1 > 0) with
    | some r => [r.2.1]
    | none => [])
  else [0]
/-- What a row's place gives. -/
def opG (op : Op3) (R : List Rw) (i : Nat) : List Rw := match R[i]? with
  | none => []
  | some r =>
    if op.1 ≤ 4 then oprow op r
    else if op.1 = 7 then (if r.2.2.1 > 0 then [(r.1, r.2.1, 1, ())] else [])
    else if 0 < i ∧ (R[i - 1]?).map (·.1) = some r.1 then [] else (heapL op.1 ((R.drop i).filter fun x => x.1 == r.1)).map fun v => (r.1, v, 1, ())
def opL (op : Op3) (R : List Rw) : List Rw := (List.range R.length).flatMap (opG op R)
def opA (op : Op3) (R : List Rw) (i : Nat) : Bg := bagOf ((List.range i).flatMap (opG op R)) []

theorem bagOf_app (l l' : List Rw) (m : Bg) : bagOf (l ++ l') m = bagOf l' (bagOf l m) := List.foldl_append
theorem opA_succ (op : Op3) (R : List Rw) (i : Nat) : opA op R (i + 1) = bagOf (opG op R i) (opA op R i) := by
  unfold opA
  rw [List.range_succ, List.flatMap_append, bagOf_app]
  simp
theorem opA_zero (op : Op3) (R : List Rw) : opA op R 0 = [] := rfl

/-- An entry comes to be there, or goes; and on. -/
theorem pour_join {β : Type} (m : Bg) (k : Ky) (n : Int) (F : Bg → Option β) :
    (((cond (((mapGet KT (mapSet KT (mapEnt KT m k (0 : Int)) k (IntKind.i64.wrap (((mapGet KT m k).getD (0 : Int)) + n))) k).getD (0 : Int)) == (0 : Int)) (some (Sum.inl ((mapDel KT (mapSet KT (mapEnt KT m k (0 : Int)) k (IntKind.i64.wrap (((mapGet KT m k).getD (0 : Int)) + n))) k), ()))) (some (Sum.inl ((mapSet KT (mapEnt KT m k (0 : Int)) k (IntKind.i64.wrap (((mapGet KT m k).getD (0 : Int)) + n))), ())))) : Option ((Bg × Unit) ⊕ Empty)).bind (Sum.elim (fun z => F z.1) Empty.elim)) = F (pour m k n) := by
  unfold pour nOf W
  cases hq : (((mapGet KT (mapSet KT (mapEnt KT m k (0 : Int)) k (IntKind.i64.wrap (((mapGet KT m k).getD (0 : Int)) + n))) k).getD (0 : Int)) == (0 : Int)) with
  | true => rfl
  | false => rfl

abbrev LR := Option ((Int × Bg × Unit) ⊕ ((Bg × Unit) ⊕ Empty))
/-- A loop that pours what each row gives. -/
theorem pour_loop {f : (Int × Bg × Unit) → Option ((Int × Bg × Unit) ⊕ ((Bg × Unit) ⊕ Empty))} {op : Op3} {R : List Rw} (h : ∀ (i : Nat) (hi : i < R.length) (m : Bg), f ((i : Int), m, ()) = some (.inl (((i + 1 : Nat) : Int), bagOf (opG op R i) m, ())))
    (hend : ∀ m, f ((R.length : Int), m, ()) = some (.inr (.inl (m, ())))) : loopM f ((0 : Int), ([] : Bg), ()) = some (.inl (bagOf (opL op R) [], ())) := by
  have := loopM_fold (f := f) R.length (opA op R) (.inl (bagOf (opL op R) [], ())) (fun i hi => by rw [h i hi, opA_succ]) (hend _)
  exact this

theorem of_loop (l : List Rw) (hl : l.length ≤ 3000000) : bags_Of (l, ()) = some (bagOf l [], ()) := by
  have htk : ∀ i (h : i < l.length), bagOf (l.take (i + 1)) [] = pour (bagOf (l.take i) []) (kyOf l[i]) l[i].2.2.1 := fun i h => by
    rw [List.take_succ_eq_append_getElem h, bagOf_app]; rfl
  have h := loopM_fold (f := bags_Of_l1 (l, ())) l.length (fun i => bagOf (l.take i) []) (.inl (bagOf l [], ())) (fun i hi => ?_) ?_
  · have h' : loopM (bags_Of_l1 (l, ())) ((0 : Int), ([] : Bg), ()) = _ := h
    unfold bags_Of
    rw [h']; rfl
  · unfold bags_Of_l1
    simp only [dcT (show (i : Int) < (l.length : Int) by omega), cond_true, getI_nat, List.getElem?_eq_getElem hi, Option.bind_some, wrapS (show i < 9223372036854775807 by omega), htk i hi]
    exact pour_join (bagOf (l.take i) []) (kyOf l[i]) l[i].2.2.1 fun z => (some (Sum.inl (((i + 1 : Nat) : Int), z, ())) : LR)
  · unfold bags_Of_l1
    simp only [dcF (show ¬ (l.length : Int) < (l.length : Int) by omega), cond_false, List.take_length]

theorem opG_lin {op : Op3} {R : List Rw} {i : Nat} (hi : i < R.length) (h : op.1 ≤ 4) : opG op R i = oprow op R[i] := by
  unfold opG
  rw [List.getElem?_eq_getElem hi]
  simp only [if_pos h]

section
variable {op : Op3} {m : Bg} {R : List Rw}
theorem make_l1 (hl : R.length ≤ 3000000) (hk : op.1 = 1) : loopM (ops_Make_l1 (op, m, ()) (R, ())) ((0 : Int), ([] : Bg), ()) = some (.inl (bagOf (opL op R) [], ())) := by
  refine pour_loop (fun i hi m' => ?_) fun m' => ?_
  · unfold ops_Make_l1
    simp only [dcT (show (i : Int) < (R.length : Int) by omega), cond_true, inB_T hi, Int.toNat_natCast, List.getElem?_eq_getElem hi, Option.bind_some, wrapS (show i < 9223372036854775807 by omega), opG_lin hi (show op.1 ≤ 4 by omega), oprow, if_pos hk]
    exact pour_join m' (W (R[i].1 + op.2.1), W (R[i].2.1 + op.2.2.1), ()) R[i].2.2.1 fun z => (some (Sum.inl (((i + 1 : Nat) : Int), z, ())) : LR)
  · unfold ops_Make_l1
    simp only [dcF (show ¬ (R.length : Int) < (R.length : Int) by omega), cond_false]
theorem make_l2 (hl : R.length ≤ 3000000) (hk : op.1 = 2) : loopM (ops_Make_l2 (R, ())) ((0 : Int), ([] : Bg), ()) = some (.inl (bagOf (opL op R) [], ())) := by
  refine pour_loop (fun i hi m' => ?_) fun m' => ?_
  · unfold ops_Make_l2
    simp only [dcT (show (i : Int) < (R.length : Int) by omega), cond_true, inB_T hi, Int.toNat_natCast, List.getElem?_eq_getElem hi, Option.bind_some, wrapS (show i < 9223372036854775807 by omega), opG_lin hi (show op.1 ≤ 4 by omega), oprow, if_neg (show ¬ op.1 = 1 by omega), if_pos hk]
    exact pour_join m' (R[i].2.1, R[i].1, ()) R[i].2.2.1 fun z => (some (Sum.inl (((i + 1 : Nat) : Int), z, ())) : LR)
  · unfold ops_Make_l2
    simp only [dcF (show ¬ (R.length : Int) < (R.length : Int) by omega), cond_false]
theorem make_l3 (hl : R.length ≤ 3000000) (hk : op.1 = 3) : loopM (ops_Make_l3 (op, m, ()) (R, ())) ((0 : Int), ([] : Bg), ()) = some (.inl (bagOf (opL op R) [], ())) := by
  refine pour_loop (fun i hi m' => ?_) fun m' => ?_
  · unfold ops_Make_l3
    simp only [dcT (show (i : Int) < (R.length : Int) by omega), cond_true, inB_T hi, Int.toNat_natCast, List.getElem?_eq_getElem hi, Option.bind_some, wrapS (show i < 9223372036854775807 by omega), opG_lin hi (show op.1 ≤ 4 by omega), oprow, if_neg (show ¬ op.1 = 1 by omega), if_neg (show ¬ op.1 = 2 by omega), if_neg (show ¬ op.1 = 4 by omega)]
    by_cases hb : bitsI .and .i64 R[i].1 op.2.1 = op.2.2.1
    · rw [if_pos hb, beqT hb, cond_true]
      have := pour_join m' (R[i].1, R[i].2.1, ()) R[i].2.2.1 fun z => (some (.inl (z, ())) : Option ((Bg × Unit) ⊕ Empty))
      have h2 := congrArg (fun o : Option ((Bg × Unit) ⊕ Empty) => o.bind (Sum.elim (fun z18 => (some (Sum.inl (((i + 1 : Nat) : Int), z18.1, ())) : Option ((Int × Bg × Unit) ⊕ ((Bg × Unit) ⊕ Empty)))) Empty.elim)) this
      exact h2
    · rw [if_neg hb, beqF hb, cond_false]; rfl
  · unfold ops_Make_l3
    simp only [dcF (show ¬ (R.length : Int) < (R.length : Int) by omega), cond_false]
theorem make_l4 (hl : R.length ≤ 3000000) (hk : op.1 = 4) : loopM (ops_Make_l4 (R, ())) ((0 : Int), ([] : Bg), ()) = some (.inl (bagOf (opL op R) [], ())) := by
  refine pour_loop (fun i hi m' => ?_) fun m' => ?_
  · unfold ops_Make_l4
    simp only [dcT (show (i : Int) < (R.length : Int) by omega), cond_true, inB_T hi, Int.toNat_natCast, List.getElem?_eq_getElem hi, Option.bind_some, wrapS (show i < 9223372036854775807 by omega), opG_lin hi (show op.1 ≤ 4 by omega), oprow, if_neg (show ¬ op.1 = 1 by omega), if_neg (show ¬ op.1 = 2 by omega), if_pos hk]
    exact pour_join m' (R[i].1, R[i].2.1, ()) (W (0 - R[i].2.2.1)) fun z => (some (Sum.inl (((i + 1 : Nat) : Int), z, ())) : LR)
  · unfold ops_Make_l4
    simp only [dcF (show ¬ (R.length : Int) < (R.length : Int) by omega), cond_false]
end

/-! ### Key by key -/
/-- Rows by rising keys. -/
def KeysUp (R : List Rw) : Prop := R.Pairwise fun a b => a.1 ≤ b.1
theorem keysUp_of {m : Bg} (h : Rise KT m) : KeysUp (m.map toR) := by
  unfold KeysUp
  rw [List.pairwise_map]
  refine List.Pairwise.imp (fun {a b} hab => ?_) h
  have hab : (decide (a.1.1 < b.1.1) || ((a.1.1 == b.1.1) && (decide (a.1.2.1 < b.1.2.1) || ((a.1.2.1 == b.1.2.1) && false)))) = true := hab
  show a.1.1 ≤ b.1.1
  rw [Bool.or_eq_true, decide_eq_true_eq] at hab
  rcases hab with hab | hab
  · omega
  · rw [Bool.and_eq_true, beq_iff_eq] at hab; omega

theorem seg_end {R : List Rw} {m : Bg} {i : Nat} (hi : i < R.length) (hl : R.length ≤ 3000000) : ∀ (d q : Nat), q + d = R.length → i ≤ q → (∀ p (hp : p < R.length), i ≤ p → p < q → R[p].1 = R[i].1) →
    ∃ j, q ≤ j ∧ j ≤ R.length ∧ loopM (ops_Make_l5 (R, ()) ((i : Int), m, ())) ((q : Int), ()) = some (.inl ((j : Int), ())) ∧ (∀ p (hp : p < R.length), i ≤ p → p < j → R[p].1 = R[i].1) ∧ ∀ (hj : j < R.length), R[j].1 ≠ R[i].1
  | 0, q, hq, hiq, hall => by
    have : q = R.length := by omega
    subst this
    refine ⟨R.length, Nat.le_refl _, Nat.le_refl _, loopM_inr ?_, hall, fun h => absurd h (by omega)⟩
    unfold ops_Make_l5
    simp only [dcF (show ¬ (R.length : Int) < (R.length : Int) by omega), cond_false]
  | d + 1, q, hq, hiq, hall => by
    have hql : q < R.length := by omega
    have hst : ops_Make_l5 (R, ()) ((i : Int), m, ()) ((q : Int), ()) = if R[q].1 = R[i].1 then some (.inl (((q + 1 : Nat) : Int), ())) else some (.inr (.inl ((q : Int), ()))) := by
      unfold ops_Make_l5
      simp only [dcT (show (q : Int) < (R.length : Int) by omega), cond_true, inB_T hql, inB_T hi, Int.toNat_natCast, List.getElem?_eq_getElem hql, List.getElem?_eq_getElem hi, Option.bind_some, wrapS (show q < 9223372036854775807 by omega), cond_beq]
    by_cases he : R[q].1 = R[i].1
    · rw [if_pos he] at hst
      rw [loopM_inl hst]
      obtain ⟨j, h1, h2, h3, h4, h5⟩ := seg_end (m := m) hi hl d (q + 1) (by omega) (by omega) (fun p hp h1 h2 => by
        by_cases hpq : p = q
        · subst hpq; exact he
        · exact hall p hp h1 (by omega))
      exact ⟨j, by omega, h2, h3, h4, h5⟩
    · rw [if_neg he] at hst
      exact ⟨q, Nat.le_refl _, by omega, loopM_inr hst, hall, fun hj => he⟩

theorem seg_filter {R : List Rw} (hu : KeysUp R) {i j : Nat} (hi : i < R.length) (hij : i ≤ j) (hj : j ≤ R.length) (h1 : ∀ p (hp : p < R.length), i ≤ p → p < j → R[p].1 = R[i].1) (h2 : ∀ (hj : j < R.length), R[j].1 ≠ R[i].1) :
    (R.drop i).filter (fun x => x.1 == R[i].1) = (R.drop i).take (j - i) := by
  have hs : R.drop i = (R.drop i).take (j - i) ++ R.drop j := by
    have := (List.take_append_drop (j - i) (R.drop i)).symm
    rw [List.drop_drop, show i + (j - i) = j from by omega] at this
    exact this
  have ha : ((R.drop i).take (j - i)).filter (fun x => x.1 == R[i].1) = (R.drop i).take (j - i) := by
    rw [List.filter_eq_self]
    intro x hx
    obtain ⟨p, hp⟩ := List.getElem?_of_mem hx
    rw [List.getElem?_take] at hp
    split at hp
    · rename_i hlt
      rw [List.getElem?_drop] at hp
      obtain ⟨hpl, rfl⟩ := List.getElem?_eq_some_iff.1 hp
      simpa using h1 (i + p) hpl (by omega) (by omega)
    · cases hp
  have hb : (R.drop j).filter (fun x => x.1 == R[i].1) = [] := by
    rw [List.filter_eq_nil_iff]
    intro x hx
    obtain ⟨p, hp⟩ := List.getElem?_of_mem hx
    rw [List.getElem?_drop] at hp
    obtain ⟨hpl, rfl⟩ := List.getElem?_eq_some_iff.1 hp
    have hjl : j < R.length := by omega
    have hle : R[j].1 ≤ R[j + p].1 := by
      by_cases h0 : p = 0
      · subst h0; exact Int.le_refl _
      · exact (List.pairwise_iff_getElem.1 hu) j (j + p) hjl hpl (by omega)
    have hle2 : R[i].1 ≤ R[j].1 := by
      by_cases h0 : i = j
      · subst h0; exact Int.le_refl _
      · exact (List.pairwise_iff_getElem.1 hu) i j hi hjl (by omega)
    have hne := h2 hjl
    have : R[j + p].1 ≠ R[i].1 := by omega
    simpa using this
  conv => lhs; rw [hs]
  rw [List.filter_append, ha, hb, List.append_nil]

/-! ### A key's rows -/
theorem W_add (a b : Int) : W (W a + b) = W (a + b) := by unfold W; rw [IntKind.wrap_i64, IntKind.wrap_i64, IntKind.wrap_i64]; omega
theorem W_add' (a b : Int) : W (a + W b) = W (a + b) := by unfold W; rw [IntKind.wrap_i64, IntKind.wrap_i64, IntKind.wrap_i64]; omega
theorem W_zero : W 0 = 0 := by decide

theorem heap_l1 {g : List Rw} (hl : g.length ≤ 3000000) (k : Int) : loopM (ops_heap_l1 (k, g, ())) ((0 : Int), (0 : Int), ()) = some (.inl (W ((g.map fun r => W (r.2.1 * r.2.2.1)).sum), ())) := by
  have h := loopM_fold' (f := ops_heap_l1 (k, g, ())) g.length (fun i => W (((g.take i).map fun r => W (r.2.1 * r.2.2.1)).sum)) (.inl (W ((g.map fun r => W (r.2.1 * r.2.2.1)).sum), ())) (fun i hi => by
    unfold ops_heap_l1
    simp only [dcT (show (i : Int) < (g.length : Int) by omega), cond_true, getI_nat, List.getElem?_eq_getElem hi, Option.bind_some, wrapS (show i < 9223372036854775807 by omega), List.take_succ_eq_append_getElem hi, List.map_append, List.sum_append, List.map_cons, List.map_nil, List.sum_cons, List.sum_nil, Int.add_zero]
    rw [← W_add]; rfl) (by
    unfold ops_heap_l1
    simp only [dcF (show ¬ (g.length : Int) < (g.length : Int) by omega), cond_false, List.take_length])
  simp only [List.take_zero, List.map_nil, List.sum_nil, W_zero] at h
  exact h
theorem heap_l2 {g : List Rw} (hl : g.length ≤ 3000000) (k : Int) : loopM (ops_heap_l2 (k, g, ())) ((0 : Int), (0 : Int), ()) = some (.inl (W ((g.map fun r => r.2.2.1).sum), ())) := by
  have h := loopM_fold' (f := ops_heap_l2 (k, g, ())) g.length (fun i => W (((g.take i).map fun r => r.2.2.1).sum)) (.inl (W ((g.map fun r => r.2.2.1).sum), ())) (fun i hi => by
    unfold ops_heap_l2
    simp only [dcT (show (i : Int) < (g.length : Int) by omega), cond_true, getI_nat, List.getElem?_eq_getElem hi, Option.bind_some, wrapS (show i < 9223372036854775807 by omega), List.take_succ_eq_append_getElem hi, List.map_append, List.sum_append, List.map_cons, List.map_nil, List.sum_cons, List.sum_nil, Int.add_zero]
    rw [← W_add]; rfl) (by
    unfold ops_heap_l2
    simp only [dcF (show ¬ (g.length : Int) < (g.length : Int) by omega), cond_false, List.take_length])
  simp only [List.take_zero, List.map_nil, List.sum_nil, W_zero] at h
  exact h

theorem heap_eq {g : List Rw} (hl : g.length ≤ 3000000) {k : Int} (hk : k = 5 ∨ k = 6 ∨ k = 8) : ops_heap (k, g, ()) = some (match heapL k g with
    | v :: _ => (v, true, ())
    | [] => (0, false, ())) := by
  unfold ops_heap heapL
  rcases hk with rfl | rfl | rfl
  · simp only [heap_l1 hl, Option.bind_some, Sum.elim_inl]
    rfl
  · simp only [heap_l2 hl, Option.bind_some, Sum.elim_inl]
    rfl
  · have k1 := loopM_exit (f := ops_heap_l3 (8, g, ())) g.length (fun i => ((i : Int), ())) (fun i => cond (decide ((g.getD i (0, 0, 0, ())).2.2.1 > 0)) (some ((i : Int), ())) none) (.inl ()) (fun i hi => by
      unfold ops_heap_l3 ops_heap_c1
      simp only [dcT (show (i : Int) < (g.length : Int) by omega), cond_true, getI_D (0, 0, 0, ()) (Int.natCast_nonneg i) (show (i : Int) < (g.length : Int) by omega), Int.toNat_natCast, Option.bind_some]
      rw [wrapS (by omega)]
      cases decide ((g.getD i (0, 0, 0, ())).2.2.1 > 0) <;> rfl) (by
      unfold ops_heap_l3
      simp only [dcF (show ¬ (g.length : Int) < (g.length : Int) by omega), cond_false]) (s0 := ((0 : Int), ())) rfl
    rw [find_map (fun i => decide ((g.getD i (0, 0, 0, ())).2.2.1 > 0)) fun i => ((i : Int), ())] at k1
    have hfind : ∀ (g : List Rw), (match (List.range g.length).find? (fun i => decide ((g.getD i (0, 0, 0, ())).2.2.1 > 0)) with
        | some i => (g.find? fun r => decide (r.2.2.1 > 0)) = some (g.getD i (0, 0, 0, ())) ∧ i < g.length
        | none => (g.find? fun r => decide (r.2.2.1 > 0)) = none) := by
      intro g
      induction g with
      | nil => rfl
      | cons a g ih =>
        rw [List.length_cons, List.range_succ_eq_map, List.find?_cons]
        by_cases ha : a.2.2.1 > 0
        · simp only [List.getD_cons_zero, decide_eq_true ha, List.find?_cons]
          exact ⟨trivial, by simp⟩
        · simp only [List.getD_cons_zero, decide_eq_false ha, List.find?_cons, List.find?_map]
          have e : ((fun i => decide (((a :: g).getD i (0, 0, 0, ())).2.2.1 > 0)) ∘ Nat.succ) = fun i => decide ((g.getD i (0, 0, 0, ())).2.2.1 > 0) := by
            funext i; simp
          rw [e]
          cases hf : (List.range g.length).find? fun i => decide ((g.getD i (0, 0, 0, ())).2.2.1 > 0) with
          | none => rw [hf] at ih; exact ih
          | some i =>
            rw [hf] at ih
            simp only [Option.map_some]
            exact ⟨by simpa using ih.1, by simp; exact ih.2⟩
    have hfg := hfind g
    simp only [show ((8 : Int) == 5) = false from rfl, show ((8 : Int) == 6) = false from rfl, show ((8 : Int) == 8) = true from rfl, cond_true, cond_false, if_neg (show ¬ (8 : Int) = 5 by decide), if_neg (show ¬ (8 : Int) = 6 by decide), if_true]
    rw [k1]
    cases hf : (List.range g.length).find? fun i => decide ((g.getD i (0, 0, 0, ())).2.2.1 > 0) with
    | none =>
      rw [hf] at hfg
      rw [hfg]; rfl
    | some i =>
      rw [hf] at hfg
      obtain ⟨h1, h2⟩ := hfg
      rw [h1]
      simp only [Option.map_some, exitOr_some, Option.bind_some, Sum.elim_inl, dcF (show ¬ (i : Int) < 0 by omega), cond_false, getI_D (0, 0, 0, ()) (Int.natCast_nonneg i) (show (i : Int) < (g.length : Int) by omega), Int.toNat_natCast]

/-! ### All keys -/
section
variable {op : Op3} {m0 : Bg} {R : List Rw}
theorem opA_seg {i j : Nat} (hij : i < j) (hj : j ≤ R.length) (hk : 4 < op.1) (h7 : op.1 ≠ 7) (h1 : ∀ p (hp : p < R.length), i ≤ p → p < j → R[p].1 = (R[i]'(by omega)).1) : opA op R j = bagOf (opG op R i) (opA op R i) := by
  have key : ∀ d, i + 1 + d ≤ j → opA op R (i + 1 + d) = bagOf (opG op R i) (opA op R i) := by
    intro d
    induction d with
    | zero => intro _; exact opA_succ op R i
    | succ d ih =>
      intro hd
      rw [show i + 1 + (d + 1) = (i + 1 + d) + 1 from rfl, opA_succ, ih (by omega)]
      have hq : i + 1 + d < R.length := by omega
      have hq' : i + d < R.length := by omega
      have : opG op R (i + 1 + d) = [] := by
        unfold opG
        rw [List.getElem?_eq_getElem hq]
        have e1 := h1 (i + 1 + d) hq (by omega) (by omega)
        have e2 := h1 (i + d) hq' (by omega) (by omega)
        have hpv : R[i + 1 + d - 1]? = some R[i + d] := by
          rw [show i + 1 + d - 1 = i + d from by omega]; exact List.getElem?_eq_getElem hq'
        simp only [if_neg (show ¬ op.1 ≤ 4 by omega), if_neg h7, hpv, Option.map_some, e1, e2, show 0 < i + 1 + d from by omega, true_and, if_true]
      rw [this]; rfl
  have := key (j - (i + 1)) (by omega)
  rw [show i + 1 + (j - (i + 1)) = j from by omega] at this
  exact this

theorem make_l6 (hl : R.length ≤ 3000000) (h7 : op.1 = 7) {i j : Nat} (hij : i ≤ j) (hj : j ≤ R.length) (m : Bg) : loopM (ops_Make_l6 ((j : Int), ()) ((i : Int), m, ()) (R, ())) ((0 : Int), opA op R i, ()) = some (.inl (opA op R j, ())) := by
  have h := loopM_fold (f := ops_Make_l6 ((j : Int), ()) ((i : Int), m, ()) (R, ())) (j - i) (fun q => opA op R (i + q)) (.inl (opA op R j, ())) (fun q hq => by
    have hlt : i + q < R.length := by omega
    unfold ops_Make_l6
    simp only [Int.toNat_natCast, dcT (show (q : Int) < ((j - i : Nat) : Int) by omega), cond_true, inB_T hq, List.getElem?_eq_getElem hlt, Option.bind_some, wrapS (show q < 9223372036854775807 by omega)]
    rw [show i + (q + 1) = (i + q) + 1 from rfl, opA_succ]
    have hg : opG op R (i + q) = if R[i + q].2.2.1 > 0 then [(R[i + q].1, R[i + q].2.1, 1, ())] else [] := by
      unfold opG
      rw [List.getElem?_eq_getElem hlt]
      simp only [if_neg (show ¬ op.1 ≤ 4 by omega), if_pos h7]
    rw [hg]
    by_cases hp : R[i + q].2.2.1 > 0
    · rw [if_pos hp, dcT hp, cond_true]
      exact pour_join (opA op R (i + q)) (R[i + q].1, R[i + q].2.1, ()) 1 fun z => (some (Sum.inl (((q + 1 : Nat) : Int), z, ())) : LR)
    · rw [if_neg hp, dcF hp, cond_false]; rfl) (by
    unfold ops_Make_l6
    simp only [Int.toNat_natCast, dcF (show ¬ ((j - i : Nat) : Int) < ((j - i : Nat) : Int) by omega), cond_false]
    rw [show i + (j - i) = j from by omega])
  exact h

theorem make_l7 (hl : R.length ≤ 3000000) (hu : KeysUp R) (hk : op.1 = 5 ∨ op.1 = 6 ∨ op.1 = 7 ∨ op.1 = 8) : ∀ (d i : Nat), R.length ≤ i + d → i ≤ R.length → (∀ (hi : i < R.length), 0 < i → (R[i - 1]'(by omega)).1 ≠ R[i].1) →
    loopM (ops_Make_l7 (op, m0, ()) (R, ())) ((i : Int), opA op R i, ()) = some (.inl (bagOf (opL op R) [], ()))
  | d, i, hd, hil, hfirst => by
    by_cases hi : i < R.length
    · obtain ⟨j, j1, j2, j3, j4, j5⟩ := seg_end (m := opA op R i) hi hl (R.length - i) i (by omega) (Nat.le_refl _) (fun p hp h1 h2 => absurd h1 (by omega))
      have hij : i < j := by
        rcases Nat.lt_or_eq_of_le j1 with h | h
        · exact h
        · subst h; exact absurd rfl (j5 hi)
      have hstep : ops_Make_l7 (op, m0, ()) (R, ()) ((i : Int), opA op R i, ()) = some (.inl ((j : Int), opA op R j, ())) := by
        unfold ops_Make_l7
        simp only [dcT (show (i : Int) < (R.length : Int) by omega), cond_true]
        rw [j3]
        simp only [Option.bind_some, Sum.elim_inl, dcT (show (0 : Int) ≤ (i : Int) by omega), dcT (show (i : Int) ≤ (j : Int) by omega), dcT (show (j : Int) ≤ (R.length : Int) by omega), Bool.and_self, cond_true]
        by_cases h7 : op.1 = 7
        · rw [beqT h7, cond_true, make_l6 hl h7 (by omega) j2]
          rfl
        · rw [beqF h7, cond_false]
          have hgl : ((R.drop ((i : Int)).toNat).take (((j : Int)).toNat - ((i : Int)).toNat)).length ≤ 3000000 := by
            rw [List.length_take, List.length_drop]; omega
          rw [heap_eq hgl (by omega)]
          simp only [Int.toNat_natCast, Option.bind_some]
          have hfil := seg_filter hu hi (by omega) j2 j4 j5
          have hG : opG op R i = (heapL op.1 ((R.drop i).take (j - i))).map fun v => (R[i].1, v, 1, ()) := by
            unfold opG
            rw [List.getElem?_eq_getElem hi]
            have hnf : ¬ (0 < i ∧ (R[i - 1]?).map (·.1) = some R[i].1) := by
              rintro ⟨h0, h1⟩
              rw [List.getElem?_eq_getElem (show i - 1 < R.length by omega), Option.map_some, Option.some.injEq] at h1
              exact hfirst hi h0 h1
            simp only [if_neg (show ¬ op.1 ≤ 4 by omega), if_neg h7, if_neg hnf, hfil]
          rw [opA_seg hij j2 (by omega) h7 j4, hG]
          cases hh : heapL op.1 ((R.drop i).take (j - i)) with
          | nil => rfl
          | cons v vs =>
            have hvs : vs = [] := by
              unfold heapL at hh
              split at hh
              · cases hh; rfl
              · split at hh
                · cases hh; rfl
                · split at hh
                  · split at hh
                    · cases hh; rfl
                    · cases hh
                  · cases hh; rfl
            subst hvs
            simp only [cond_true, show (0 : Int).toNat = 0 from rfl, Nat.add_zero, List.getElem?_eq_getElem hi, Option.bind_some]
            have hin : inB (0 : Int) (j - i) = true := inB_T (i := 0) (show 0 < j - i by omega)
            rw [hin, cond_true]
            exact pour_join (opA op R i) (R[i].1, v, ()) 1 fun z => (some (Sum.inl ((j : Int), z, ())) : LR)
      rw [loopM_inl hstep]
      cases d with
      | zero => omega
      | succ d =>
        exact make_l7 hl hu hk d j (by omega) j2 (fun hj h0 => by
          rw [j4 (j - 1) (by omega) (by omega) (by omega)]
          exact fun e => j5 hj e.symm)
    · have : i = R.length := by omega
      subst this
      refine loopM_inr ?_
      unfold ops_Make_l7
      simp only [dcF (show ¬ (R.length : Int) < (R.length : Int) by omega), cond_false]
      rfl
end

theorem make_eq {op : Op3} {m : Bg} (h : Rise KT m) (hl : m.length ≤ 3000000) (h1 : 1 ≤ op.1) (h8 : op.1 ≤ 8) : ops_Make (op, m, ()) = some (bagOf (opL op (m.map toR)) [], ()) := by
  have hR : (m.map toR).length ≤ 3000000 := by rw [List.length_map]; exact hl
  unfold ops_Make
  rw [rows_eq h hl]
  simp only [Option.bind_some, cond_beq]
  by_cases k1 : op.1 = 1
  · rw [if_pos k1, make_l1 hR k1]; rfl
  · rw [if_neg k1]
    by_cases k2 : op.1 = 2
    · rw [if_pos k2, make_l2 hR k2]; rfl
    · rw [if_neg k2]
      by_cases k3 : op.1 = 3
      · rw [if_pos k3, make_l3 hR k3]; rfl
      · rw [if_neg k3]
        by_cases k4 : op.1 = 4
        · rw [if_pos k4, make_l4 hR k4]; rfl
        · rw [if_neg k4]
          have := make_l7 (op := op) (m0 := m) hR (keysUp_of h) (by omega) (m.map toR).length 0 (by omega) (Nat.zero_le _) (fun _ h => absurd h (by omega))
          rw [show ((0 : Nat) : Int) = 0 from rfl, opA_zero] at this
          rw [this]; rfl

end Go.Proofs.Try
