/- The plain law of OpsPairs. -/
import Derived.Test.YtgepgleagefmeaaP13Funs
import Derived.Test.YtgepgleagefmeaaAbsSums
import Derived.Test.YtgepgleagefmeaaP13LibPair1
namespace Go.Proofs.Try
open Go Go.Abs


def RowsIn (l : List Rw) : Prop := ∀ r ∈ l, InR r.2.2.1
theorem wf_i64 {x : Int} (h : (Lit.int .i64 x).wf = true) : IntKind.i64.wrap x = x := by
  refine IntWalk.i64_in x ?_
  simp [Lit.wf, IntKind.signed, IntKind.bits, IntKind.min, IntKind.max] at h
  omega
theorem wf_rows {l : List Rw} (h : ∀ y ∈ l, Wf (.cons (.int .i64) (.cons (.int .i64) (.cons (.int .i64) .nil))) y) : RowsIn l := fun r hr => by
  have h1 : (Lit.int .i64 r.2.2.1).wf = true := (h r hr).2.2.1
  unfold InR W
  exact wf_i64 h1
theorem mem_set {k : Ky} {v : Int} {p : Ky × Int} : ∀ {m : Bg}, p ∈ mapSet KT m k v → p.2 = v ∨ p ∈ m
  | [], h => by
    rcases List.mem_singleton.1 h with rfl
    exact .inl rfl
  | q :: r, h => by
    unfold mapSet at h
    cases h1 : KT.eqb k q.1 with
    | true =>
      rw [h1, cond_true] at h
      rcases List.mem_cons.1 h with rfl | h
      · exact .inl rfl
      · exact .inr (List.mem_cons_of_mem _ h)
    | false =>
      rw [h1, cond_false] at h
      cases h2 : KT.lt k q.1 with
      | true =>
        rw [h2, cond_true] at h
        rcases List.mem_cons.1 h with rfl | h
        · exact .inl rfl
        · exact .inr h
      | false =>
        rw [h2, cond_false] at h
        rcases List.mem_cons.1 h with rfl | h
        · exact .inr List.mem_cons_self
        · rcases mem_set h with h | h
          · exact .inl h
          · exact .inr (List.mem_cons_of_mem _ h)
theorem inR_zero : InR 0 := W_zero
theorem get_in {m : Bg} (h : ∀ p ∈ m, InR p.2) (k : Ky) : InR ((mapGet KT m k).getD 0) := by
  unfold mapGet
  cases hf : m.find? fun p => KT.eqb k p.1 with
  | none => exact inR_zero
  | some p => exact h p (List.mem_of_find?_eq_some hf)
theorem set_in {m : Bg} (h : ∀ p ∈ m, InR p.2) (k : Ky) {v : Int} (hv : InR v) : ∀ p ∈ mapSet KT m k v, InR p.2 := fun p hp => by
  rcases mem_set hp with e | hp
  · rw [e]; exact hv
  · exact h p hp
theorem pour_in {m : Bg} (h : ∀ p ∈ m, InR p.2) (k : Ky) (n : Int) : ∀ p ∈ pour m k n, InR p.2 := by
  have h1 := set_in (set_in h k (get_in h k)) k (inR_W (nOf m k + n))
  unfold pour
  cases (nOf (mapSet KT (mapEnt KT m k 0) k (W (nOf m k + n))) k == 0) with
  | true => exact fun p hp => h1 p (List.mem_filter.1 hp).1
  | false => exact h1
theorem bagOf_in : ∀ (l : List Rw) {m : Bg}, (∀ p ∈ m, InR p.2) → ∀ p ∈ bagOf l m, InR p.2
  | [], _, h => h
  | r :: l, _, h => bagOf_in l (pour_in h (kyOf r) r.2.2.1)
theorem rows_in (l : List Rw) : RowsIn ((bagOf l []).map toR) := fun r hr => by
  obtain ⟨p, hp, rfl⟩ := List.mem_map.1 hr
  exact bagOf_in l (fun p hp => by cases hp) p hp
theorem sc_one {l : List Rw} (h : RowsIn l) : l.map (sc 1) = l := by
  have : ∀ r ∈ l, sc 1 r = r := fun r hr => by
    unfold sc
    rw [Int.one_mul, h r hr]
  rw [List.map_congr_left this, List.map_id']
theorem sc_in (l : List Rw) (n : Int) : RowsIn (l.map (sc n)) := fun r hr => by
  obtain ⟨q, -, rfl⟩ := List.mem_map.1 hr
  exact inR_W _
theorem two_in (op : Op3) (R S : List Rw) : RowsIn (twoL op R S) := fun r hr => by
  unfold twoL at hr
  split at hr
  · rcases List.mem_append.1 hr with h | h
    · exact sc_in R 1 r h
    · exact sc_in S 1 r h
  · unfold joinL joinR at hr
    obtain ⟨q, -, hq⟩ := List.mem_flatMap.1 hr
    obtain ⟨s, -, rfl⟩ := List.mem_map.1 hq
    exact inR_W _
theorem two_length (op : Op3) {R S : List Rw} (hR : R.length ≤ 128) (hS : S.length ≤ 128) : (twoL op R S).length ≤ 20000 := by
  unfold twoL
  split
  · rw [List.length_append, List.length_map, List.length_map]; omega
  · have h1 := joinL_length op S R
    have h2 : R.length * S.length ≤ 128 * 128 := Nat.mul_le_mul hR hS
    omega
def telB (l : List Rw) : List Rw := (bagOf l []).map toR
theorem telB_length (l : List Rw) : (telB l).length ≤ l.length := by
  have := bag_length l []
  rw [List.length_nil, Nat.zero_add] at this
  unfold telB
  rw [List.length_map]; exact this
theorem ref_two (op : Op3) {R S : List Rw} (wR : RowsIn R) (hR : R.length ≤ 128) (hS : S.length ≤ 128) : ref_OpTwo (op, R, S, ()) = some (telB (twoL op R S), ()) := by
  have hl := two_length op hR hS
  have hi := two_in op R S
  unfold ref_OpTwo
  unfold twoL at hl hi ⊢
  by_cases h9 : op.1 = 9
  · rw [if_pos h9] at hl hi ⊢
    rw [sc_one wR] at hl hi ⊢
    simp only [beqT h9, cond_true]
    rw [poured_eq R S 1 (by omega) (by omega)]
    simp only [Option.bind_some]
    rw [ref_Bag_eq (by omega), rows_bag hi]; rfl
  · rw [if_neg h9] at hl hi ⊢
    simp only [beqF h9, cond_false]
    rw [opTwo_l2 op R S (by omega) (by omega)]
    simp only [Option.bind_some, Sum.elim_inl]
    rw [ref_Bag_eq (by omega), rows_bag hi]; rfl

theorem ports_ref (op : Op3) : ref_OpPorts (op, ()) = ops_Ports (op, ()) := rfl
theorem ports_some (op : Op3) : ∃ p : Int, ops_Ports (op, ()) = some (p, ()) := by
  unfold ops_Ports
  have tail : ∃ p : Int, (cond (op.1 == (9 : Int)) (some ((2 : Int), ())) (cond (op.1 == (10 : Int)) (some ((2 : Int), ())) (some ((0 : Int), ())))) = some (p, ()) := by
    cases op.1 == (9 : Int) with
    | true => exact ⟨2, rfl⟩
    | false =>
      cases op.1 == (10 : Int) with
      | true => exact ⟨2, rfl⟩
      | false => exact ⟨0, rfl⟩
  cases decide (op.1 ≥ 1) with
  | false => exact tail
  | true =>
    cases decide (op.1 ≤ 8) with
    | true => exact ⟨1, rfl⟩
    | false => exact tail

theorem two_not {op : Op3} {a b : List Rw} {p : Int} (hp : ops_Ports (op, ()) = some (p, ())) (h : p ≠ 2) : ops_Two (op, a, b, ()) = some ([], 17, ()) := by
  unfold ops_Two ops_check
  simp only [hp, Option.bind_some, bneT h, cond_true]
  rfl
theorem two_large {op : Op3} {a b : List Rw} (hp : ops_Ports (op, ()) = some (2, ())) (h : (decide (a.length > 128) || decide (b.length > 128)) = true) : ops_Two (op, a, b, ()) = some ([], 1, ()) := by
  unfold ops_Two ops_check
  simp only [hp, Option.bind_some, bneF rfl, cond_false, large_eq, h, cond_true]
  rfl
theorem two_eq {op : Op3} {a b : List Rw} (hp : ops_Ports (op, ()) = some (2, ())) (ha : ¬ a.length > 128) (hb : ¬ b.length > 128) :
    ops_Two (op, a, b, ()) = some (cond (decide ((telB (twoL op (telB a) (telB b))).length > 128)) ([], 1, ()) (telB (twoL op (telB a) (telB b)), 0, ())) := by
  have la := bag_length a []
  have lb := bag_length b []
  rw [List.length_nil] at la lb
  have hl := two_length op (show (telB a).length ≤ 128 by have := telB_length a; omega) (show (telB b).length ≤ 128 by have := telB_length b; omega)
  have hm := bag_length (twoL op (telB a) (telB b)) []
  rw [List.length_nil] at hm
  unfold ops_Two ops_check
  simp only [hp, Option.bind_some, bneF rfl, cond_false, large_eq, decide_eq_false ha, decide_eq_false hb, Bool.or_self]
  rw [of_loop a (by omega)]
  simp only [Option.bind_some]
  rw [of_loop b (by omega)]
  simp only [Option.bind_some]
  rw [pair_eq op (bag_rise a) (bag_rise b) (by omega) (by omega)]
  change ((cond (decide (((bagOf (twoL op (telB a) (telB b)) []).length : Int) > 128)) _ ((bags_Bag_Rows (bagOf (twoL op (telB a) (telB b)) [], ())).bind _)).bind _) = _
  rw [rows_eq (bag_rise _) (by omega)]
  have hd : decide (((bagOf (twoL op (telB a) (telB b)) []).length : Int) > 128) = decide ((telB (twoL op (telB a) (telB b))).length > 128) := decide_eq_decide.2 (by unfold telB; rw [List.length_map]; omega)
  rw [hd]
  cases decide ((telB (twoL op (telB a) (telB b))).length > 128) with
  | true => rfl
  | false => rfl

theorem opsPairs (op : Op3) {a b : List Rw} (wa : RowsIn a) (wb : RowsIn b) : law_OpsPairs (op, a, b, ()) = some (true, ()) := by
  obtain ⟨p, hp⟩ := ports_some op
  unfold law_OpsPairs
  simp only [ports_ref, hp, Option.bind_some]
  by_cases h : p = 2
  · subst h
    unfold ref_Large
    simp only [bneF rfl, cond_false, Option.bind_some]
    by_cases ha : a.length > 128
    · rw [two_large hp (by rw [decide_eq_true ha]; rfl)]
      simp only [Option.bind_some, dcT (show (a.length : Int) > 128 by omega), cond_true]
      rfl
    · by_cases hb : b.length > 128
      · rw [two_large hp (by rw [decide_eq_true hb, Bool.or_true])]
        simp only [Option.bind_some, dcF (show ¬ (a.length : Int) > 128 by omega), cond_false, dcT (show (b.length : Int) > 128 by omega), cond_true]
        rfl
      · have t1 := telB_length a
        have t2 := telB_length b
        have hl := two_length op (show (telB a).length ≤ 128 by omega) (show (telB b).length ≤ 128 by omega)
        have t3 := telB_length (twoL op (telB a) (telB b))
        rw [two_eq hp ha hb]
        simp only [Option.bind_some, dcF (show ¬ (a.length : Int) > 128 by omega), dcF (show ¬ (b.length : Int) > 128 by omega), cond_false]
        rw [ref_Bag_eq (by omega), rows_bag wa]
        simp only [Option.bind_some]
        rw [ref_Bag_eq (by omega), rows_bag wb]
        simp only [Option.bind_some]
        rw [show ref_OpTwo (op, (bagOf a []).map toR, (bagOf b []).map toR, ()) = _ from ref_two op (R := telB a) (S := telB b) (rows_in a) (by omega) (by omega)]
        simp only [Option.bind_some]
        have t := told_eq false (telB (twoL op (telB a) (telB b))) (by omega)
        rw [cond_false] at t
        rw [t]; rfl
  · rw [two_not hp h]
    simp only [Option.bind_some, bneT h, cond_true]
    rfl

theorem opsPairs_law (x : ADen sp6.args) (wf : WfA sp6.args x) : law_OpsPairs x = some (true, ()) := by
  obtain ⟨op, a, b, ⟨⟩⟩ := x
  exact opsPairs op (wf_rows wf.2.1.2) (wf_rows wf.2.2.1.2)

end Go.Proofs.Try
