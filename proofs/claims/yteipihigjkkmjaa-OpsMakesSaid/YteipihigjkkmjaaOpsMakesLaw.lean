/- The plain law of OpsMakes. -/
import Derived.Test.YteipihigjkkmjaaQ8Funs
import Derived.Test.YteipihigjkkmjaaAbsSums
import Derived.Test.YteipihigjkkmjaaQ8LibOps2
import Derived.Test.YteipihigjkkmjaaQ8LibBags3
namespace Go.Proofs.Try
open Go Go.Abs


def RowsIn (l : List Rw) : Prop := ∀ r ∈ l, InR r.2.2.1
theorem wf_i64 {x : Int} (h : (Lit.int .i64 x).wf = true) : IntKind.i64.wrap x = x := by
  refine IntWalk.i64_in x ?_
  simp [Lit.wf, IntKind.signed, IntKind.bits, IntKind.min, IntKind.max] at h
  omega
theorem wf_rows {l : List Rw} (h : ∀ y ∈ l, Wf (.cons (.int .i64) (.cons (.int .i64) (.cons (.int .i64) .nil))) y) : RowsIn l := fun r hr => by
  have h1 : (Lit.int .i64 r.2.2.1).wf = true := (h r hr).2.2.1
  unfold InR W
  exact wf_i64 h1

theorem mem_set {k : Ky} {v : Int} {p : Ky × Int} : ∀ {m : Bg}, p ∈ mapSet KT m k v → p.2 = v ∨ p ∈ m
  | [], h => by
    rcases List.mem_singleton.1 h with rfl
    exact .inl rfl
  | q :: r, h => by
    unfold mapSet at h
    cases h1 : KT.eqb k q.1 with
    | true =>
      rw [h1, cond_true] at h
      rcases List.mem_cons.1 h with rfl | h
      · exact .inl rfl
      · exact .inr (List.mem_cons_of_mem _ h)
    | false =>
      rw [h1, cond_false] at h
      cases h2 : KT.lt k q.1 with
      | true =>
        rw [h2, cond_true] at h
        rcases List.mem_cons.1 h with rfl | h
        · exact .inl rfl
        · exact .inr h
      | false =>
        rw [h2, cond_false] at h
        rcases List.mem_cons.1 h with rfl | h
        · exact .inr List.mem_cons_self
        · rcases mem_set h with h | h
          · exact .inl h
          · exact .inr (List.mem_cons_of_mem _ h)
theorem inR_zero : InR 0 := W_zero
theorem get_in {m : Bg} (h : ∀ p ∈ m, InR p.2) (k : Ky) : InR ((mapGet KT m k).getD 0) := by
  unfold mapGet
  cases hf : m.find? fun p => KT.eqb k p.1 with
  | none => exact inR_zero
  | some p => exact h p (List.mem_of_find?_eq_some hf)
theorem set_in {m : Bg} (h : ∀ p ∈ m, InR p.2) (k : Ky) {v : Int} (hv : InR v) : ∀ p ∈ mapSet KT m k v, InR p.2 := fun p hp => by
  rcases mem_set hp with e | hp
  · rw [e]; exact hv
  · exact h p hp
theorem pour_in {m : Bg} (h : ∀ p ∈ m, InR p.2) (k : Ky) (n : Int) : ∀ p ∈ pour m k n, InR p.2 := by
  have h1 := set_in (set_in h k (get_in h k)) k (inR_W (nOf m k + n))
  unfold pour
  cases (nOf (mapSet KT (mapEnt KT m k 0) k (W (nOf m k + n))) k == 0) with
  | true => exact fun p hp => h1 p (List.mem_filter.1 hp).1
  | false => exact h1
theorem bagOf_in : ∀ (l : List Rw) {m : Bg}, (∀ p ∈ m, InR p.2) → ∀ p ∈ bagOf l m, InR p.2
  | [], _, h => h
  | r :: l, _, h => bagOf_in l (pour_in h (kyOf r) r.2.2.1)
theorem rows_in (l : List Rw) : RowsIn ((bagOf l []).map toR) := fun r hr => by
  obtain ⟨p, hp, rfl⟩ := List.mem_map.1 hr
  exact bagOf_in l (fun p hp => by cases hp) p hp
theorem inR_one : InR 1 := by show W 1 = 1; decide
theorem oprow_in {op : Op3} {r : Rw} (h : InR r.2.2.1) : RowsIn (oprow op r) := by
  unfold oprow RowsIn
  intro q hq
  split at hq
  · rcases List.mem_singleton.1 hq with rfl; exact h
  · split at hq
    · rcases List.mem_singleton.1 hq with rfl; exact h
    · split at hq
      · rcases List.mem_singleton.1 hq with rfl; exact inR_W _
      · split at hq
        · rcases List.mem_singleton.1 hq with rfl; exact h
        · cases hq
theorem opG_in {op : Op3} {R : List Rw} (h : RowsIn R) (i : Nat) : RowsIn (opG op R i) := by
  intro q hq
  unfold opG at hq
  cases hr : R[i]? with
  | none => rw [hr] at hq; cases hq
  | some r =>
    rw [hr] at hq
    simp only at hq
    split at hq
    · exact oprow_in (h r (List.mem_of_getElem? hr)) q hq
    · split at hq
      · split at hq
        · rcases List.mem_singleton.1 hq with rfl; exact inR_one
        · cases hq
      · split at hq
        · cases hq
        · obtain ⟨v, -, rfl⟩ := List.mem_map.1 hq
          exact inR_one
theorem opL_in {op : Op3} {R : List Rw} (h : RowsIn R) : RowsIn (opL op R) := fun q hq => by
  obtain ⟨i, -, hi⟩ := List.mem_flatMap.1 hq
  exact opG_in h i q hi

theorem large_one (a : List Rw) : bags_Large ([a], ()) = some (decide (a.length > 128), ()) := by
  have hc : bags_Large_c1 (a, ()) = some (decide (a.length > 128), ()) := by
    unfold bags_Large_c1
    have : decide ((a.length : Int) > 128) = decide (a.length > 128) := decide_eq_decide.2 (by omega)
    rw [this]
  have w0 : IntKind.i64.wrap ((0 : Int) + 1) = 1 := by decide
  have f0 : bags_Large_l1 ([a], ()) ((0 : Int), ()) = cond (decide (a.length > 128)) (some (.inr (.inl ((0 : Int), ())))) (some (.inl ((1 : Int), ()))) := by
    unfold bags_Large_l1
    have g : getI [a] (0 : Int) = some a := rfl
    have d0 : decide ((0 : Int) < (([a] : List (List Rw)).length : Int)) = true := rfl
    simp only [d0, cond_true, g, Option.bind_some, hc, w0]
  have f1 : bags_Large_l1 ([a], ()) ((1 : Int), ()) = some (.inr (.inr (.inl ()))) := rfl
  unfold bags_Large
  cases ha : decide (a.length > 128) with
  | true =>
    rw [ha, cond_true] at f0
    rw [loopM_inr f0]; rfl
  | false =>
    rw [ha, cond_false] at f0
    rw [loopM_inl f0, loopM_inr f1]; rfl

theorem ports_ref (op : Op3) : ref_OpPorts (op, ()) = ops_Ports (op, ()) := rfl
theorem ports_one {op : Op3} (h1 : 1 ≤ op.1) (h8 : op.1 ≤ 8) : ops_Ports (op, ()) = some (1, ()) := by
  unfold ops_Ports
  simp only [dcT (show op.1 ≥ 1 by omega), dcT h8, cond_true]
theorem ports_not {op : Op3} (h : ¬ (1 ≤ op.1 ∧ op.1 ≤ 8)) : ∃ p : Int, ops_Ports (op, ()) = some (p, ()) ∧ p ≠ 1 := by
  unfold ops_Ports
  have tail : ∃ p : Int, (cond (op.1 == (9 : Int)) (some ((2 : Int), ())) (cond (op.1 == (10 : Int)) (some ((2 : Int), ())) (some ((0 : Int), ())))) = some (p, ()) ∧ p ≠ 1 := by
    cases op.1 == (9 : Int) with
    | true => exact ⟨2, rfl, by decide⟩
    | false =>
      cases op.1 == (10 : Int) with
      | true => exact ⟨2, rfl, by decide⟩
      | false => exact ⟨0, rfl, by decide⟩
  by_cases h1 : op.1 ≥ 1
  · simp only [dcT h1, cond_true, dcF (show ¬ op.1 ≤ 8 by omega), cond_false]; exact tail
  · simp only [dcF h1, cond_false]; exact tail
theorem linear_eq (op : Op3) : ops_Linear (op, ()) = some (decide (1 ≤ op.1 ∧ op.1 ≤ 4), ()) := by
  unfold ops_Linear
  by_cases k1 : op.1 = 1
  · rw [beqT k1, cond_true, decide_eq_true (by omega)]
  · rw [beqF k1, cond_false]
    by_cases k2 : op.1 = 2
    · rw [beqT k2, cond_true, decide_eq_true (by omega)]
    · rw [beqF k2, cond_false]
      by_cases k3 : op.1 = 3
      · rw [beqT k3, cond_true, decide_eq_true (by omega)]
      · rw [beqF k3, cond_false]
        by_cases k4 : op.1 = 4
        · rw [beqT k4, cond_true, decide_eq_true (by omega)]
        · rw [beqF k4, cond_false, decide_eq_false (by omega)]

theorem one_not {op : Op3} {a : List Rw} (h : ¬ (1 ≤ op.1 ∧ op.1 ≤ 8)) : ops_One (op, a, ()) = some ([], 17, ()) := by
  obtain ⟨p, hp, hn⟩ := ports_not h
  unfold ops_One ops_check
  simp only [hp, Option.bind_some, bneT hn, cond_true]
  rfl
theorem one_large {op : Op3} {a : List Rw} (h1 : 1 ≤ op.1) (h8 : op.1 ≤ 8) (h : a.length > 128) : ops_One (op, a, ()) = some ([], 1, ()) := by
  unfold ops_One ops_check
  simp only [ports_one h1 h8, large_one, Option.bind_some, bneF rfl, cond_false, decide_eq_true h, cond_true]
  rfl
theorem one_eq {op : Op3} {a : List Rw} (h1 : 1 ≤ op.1) (h8 : op.1 ≤ 8) (h : ¬ a.length > 128) :
    ops_One (op, a, ()) = some (cond (decide (((bagOf (opL op ((bagOf a []).map toR)) []).map toR).length > 128)) ([], 1, ()) ((bagOf (opL op ((bagOf a []).map toR)) []).map toR, 0, ())) := by
  have hb := bag_length a []
  rw [List.length_nil] at hb
  have hm : (bagOf (opL op ((bagOf a []).map toR)) []).length ≤ 3000000 := by
    have e1 := bag_length (opL op ((bagOf a []).map toR)) []
    have e2 := opL_length op ((bagOf a []).map toR)
    rw [List.length_nil] at e1
    rw [List.length_map] at e2
    omega
  unfold ops_One ops_check
  simp only [ports_one h1 h8, large_one, Option.bind_some, bneF rfl, cond_false, decide_eq_false h]
  rw [of_loop a (by omega)]
  simp only [Option.bind_some, make_eq (bag_rise a) (show (bagOf a []).length ≤ 3000000 by omega) h1 h8, rows_eq (bag_rise _) hm, List.length_map]
  by_cases hx : (bagOf (opL op ((bagOf a []).map toR)) []).length > 128
  · rw [dcT (show (((bagOf (opL op ((bagOf a []).map toR)) []).length : Int)) > 128 by omega), dcT hx]; rfl
  · rw [dcF (show ¬ (((bagOf (opL op ((bagOf a []).map toR)) []).length : Int)) > 128 by omega), dcF hx]; rfl

theorem opsMakes (op : Op3) {a : List Rw} (wa : RowsIn a) : law_OpsMakes (op, a, ()) = some (true, ()) := by
  unfold law_OpsMakes
  simp only [linear_eq, ports_ref, Option.bind_some]
  by_cases h : 1 ≤ op.1 ∧ op.1 ≤ 8
  · have hl : (decide (1 ≤ op.1 ∧ op.1 ≤ 4)) = decide (op.1 ≤ 4) := decide_eq_decide.2 (by omega)
    have hx : ∀ b : Bool, (b != b) = false := fun b => by cases b <;> rfl
    simp only [dcT (show op.1 ≥ 1 by omega), cond_true, hl, hx, cond_false, ports_one h.1 h.2, Option.bind_some, bneF rfl]
    by_cases hb : a.length > 128
    · rw [one_large h.1 h.2 hb]
      unfold ref_Large
      simp only [Option.bind_some, dcT (show (a.length : Int) > 128 by omega), cond_true]
      rfl
    · rw [one_eq h.1 h.2 hb]
      have hba := bag_length a []
      rw [List.length_nil] at hba
      have e2 := opL_length op ((bagOf a []).map toR)
      rw [List.length_map] at e2
      have e1 := bag_length (opL op ((bagOf a []).map toR)) []
      rw [List.length_nil] at e1
      have t := told_eq false ((bagOf (opL op ((bagOf a []).map toR)) []).map toR) (by rw [List.length_map]; omega)
      rw [cond_false] at t
      have e : ref_Large (a, ()) = some (false, ()) := by
        unfold ref_Large
        rw [dcF (show ¬ (a.length : Int) > 128 by omega)]
      rw [e]
      simp only [Option.bind_some, cond_false]
      rw [ref_Bag_eq (by omega), rows_bag wa]
      simp only [Option.bind_some]
      rw [ref_OpOne_eq h.1 h.2 (by rw [List.length_map]; omega), rows_bag (opL_in (rows_in a))]
      simp only [Option.bind_some]
      rw [t]; rfl
  · obtain ⟨p, hp, hn⟩ := ports_not h
    rw [one_not h]
    simp only [hp, Option.bind_some, bneT hn, cond_true]
    by_cases h1 : op.1 ≥ 1
    · simp only [dcT h1, cond_true, decide_eq_false (show ¬ (1 ≤ op.1 ∧ op.1 ≤ 4) by omega), dcF (show ¬ op.1 ≤ 4 by omega)]
      rfl
    · simp only [dcF h1, cond_false, decide_eq_false (show ¬ (1 ≤ op.1 ∧ op.1 ≤ 4) by omega)]
      rfl

theorem opsMakes_law (x : ADen sp7.args) (wf : WfA sp7.args x) : law_OpsMakes x = some (true, ()) := by
  obtain ⟨op, a, ⟨⟩⟩ := x
  exact opsMakes op (wf_rows wf.2.1.2)

end Go.Proofs.Try
