/- Lemmas on functions of the program, by name: bags2. -/
import Derived.Test.YtgepgleagefmeaaP13Funs
import Derived.Test.YtgepgleagefmeaaAbsSums
import Derived.Test.YtgepgleagefmeaaP13LibBags
namespace Go.Proofs.Try
open Go Go.Abs


/-! Bags: what the program's functions come to. -/
theorem cmp64 (v w : Int) : cmp_Compare_int64 (v, w, ()) = some (if v < w then -1 else if v > w then 1 else 0, ()) := by
  unfold cmp_Compare_int64 cmp_isNaN_int64
  simp only [bneF rfl, Option.bind_some, cond_false, cond_dec]
  split
  · rfl
  · split <;> rfl
theorem cmp_or (p q : Int) : cmp_Or_int ([p, q], ()) = some (if p ≠ 0 then p else q, ()) := by
  have f0 : cmp_Or_int_l1 ([p, q], ()) ((0 : Int), ()) = if p = 0 then some (.inl ((1 : Int), ())) else some (.inr (.inl (p, ()))) := by
    unfold cmp_Or_int_l1
    have g : getI [p, q] (0 : Int) = some p := rfl
    have d0 : decide ((0 : Int) < (([p, q] : List Int).length : Int)) = true := rfl
    have w0 : IntKind.i64.wrap ((0 : Int) + 1) = 1 := by decide
    simp only [d0, cond_true, g, Option.bind_some, cond_bne, w0]
  have f1 : cmp_Or_int_l1 ([p, q], ()) ((1 : Int), ()) = if q = 0 then some (.inl ((2 : Int), ())) else some (.inr (.inl (q, ()))) := by
    unfold cmp_Or_int_l1
    have g : getI [p, q] (1 : Int) = some q := rfl
    have d0 : decide ((1 : Int) < (([p, q] : List Int).length : Int)) = true := rfl
    have w0 : IntKind.i64.wrap ((1 : Int) + 1) = 2 := by decide
    simp only [d0, cond_true, g, Option.bind_some, cond_bne, w0]
  have f2 : cmp_Or_int_l1 ([p, q], ()) ((2 : Int), ()) = some (.inr (.inr (.inl ()))) := rfl
  unfold cmp_Or_int
  by_cases hp : p = 0
  · rw [if_pos hp] at f0
    rw [loopM_inl f0, if_neg (by simpa using hp)]
    by_cases hq : q = 0
    · rw [if_pos hq] at f1
      rw [loopM_inl f1, loopM_inr f2, hq]; rfl
    · rw [if_neg hq] at f1
      rw [loopM_inr f1]; rfl
  · rw [if_neg hp] at f0
    rw [loopM_inr f0, if_pos hp]; rfl

def cmpK (x y : Rw) : Int := if x.1 < y.1 then -1 else if x.1 > y.1 then 1 else if x.2.1 < y.2.1 then -1 else if x.2.1 > y.2.1 then 1 else 0
theorem rows_cmp (x y : Rw) : bags_Bag_Rows_c1 (x, y, ()) = some (cmpK x y, ()) := by
  unfold bags_Bag_Rows_c1 cmpK
  simp only [cmp64, Option.bind_some, cmp_or]
  by_cases h1 : x.1 < y.1
  · simp [h1]
  · by_cases h2 : x.1 > y.1
    · simp [h1, h2]
    · simp [h1, h2]
theorem cmpK_neg (x y : Rw) : cmpK x y < 0 ↔ KT.lt (kyOf x) (kyOf y) = true := by
  have h : KT.lt (kyOf x) (kyOf y) = (decide (x.1 < y.1) || ((x.1 == y.1) && (decide (x.2.1 < y.2.1) || ((x.2.1 == y.2.1) && false)))) := rfl
  rw [h]
  unfold cmpK
  by_cases h1 : x.1 < y.1
  · simp [h1]
  · by_cases h2 : x.1 > y.1
    · have h3 : ¬ x.1 = y.1 := by omega
      simp [h1, h2, h3]
    · have h3 : x.1 = y.1 := by omega
      by_cases h4 : x.2.1 < y.2.1
      · simp [h3, h4]
      · by_cases h5 : x.2.1 > y.2.1
        · simp [h3, h4, h5]
        · simp [h3, h4, h5]

/-- Whatever order the entries come in, the rest is told of the list. -/
theorem allN_push {E γ : Type} {F : Type} {row : E → F} {b : Nat} {k : ((List F × Unit) ⊕ Empty) → Option γ} {f : List E → E → (List F × Unit) → Option ((List F × Unit) ⊕ ((List F × Unit) ⊕ Empty))} {g : (List F × Unit) → Option ((List F × Unit) ⊕ ((List F × Unit) ⊕ Empty))}
    (hf : ∀ r e (y : List F), y.length + 1 ≤ b → f r e (y, ()) = some (.inl (y ++ [row e], ()))) (hg : ∀ y : List F, g (y, ()) = some (.inr (.inl (y, ())))) {c : γ} :
    ∀ (n : Nat) (l : List E) (y : List F), l.length = n → y.length + n ≤ b → (∀ ord : List E, ord.Perm l → k (.inl (y ++ ord.map row, ())) = some c) → AllN f g k n l (y, ()) c
  | 0, l, y, hl, hb, h => by
    have : l = [] := List.eq_nil_of_length_eq_zero hl
    subst this
    refine ⟨.inl (y, ()), hg y, ?_⟩
    have := h [] (List.Perm.refl _)
    simpa using this
  | n + 1, [], y, hl, _, _ => by simp at hl
  | n + 1, e :: l, y, hl, hb, h => by
    intro p r hp
    refine .inr ⟨_, hf r p y (by omega), allN_push hf hg n r (y ++ [row p]) ?_ ?_ fun ord ho => ?_⟩
    · have := hp.length_eq
      simp only [List.length_cons] at this hl
      omega
    · simp only [List.length_append, List.length_cons, List.length_nil]; omega
    · have := h (p :: ord) ((ho.cons p).trans hp.symm)
      rw [List.map_cons] at this
      rw [List.append_assoc]; exact this

theorem room24 {n : Nat} (h : n ≤ 4000000) : roomOk n 24 = true := by
  unfold roomOk
  rw [Bool.and_eq_true]
  exact ⟨Nat.ble_eq_true_of_le (by omega), Nat.ble_eq_true_of_le (by omega)⟩
theorem room1 {n : Nat} (h : n ≤ 4000000) : roomOk n 1 = true := by
  unfold roomOk
  rw [Bool.and_eq_true]
  exact ⟨Nat.ble_eq_true_of_le (by omega), Nat.ble_eq_true_of_le (by omega)⟩

theorem toR_ky (p : Ky × Int) : kyOf (toR p) = p.1 := rfl

theorem rows_sort {m : Bg} (h : Rise KT m) {z : List Rw} (hz : z.Perm (m.map toR)) : sortP (fun a b => (bags_Bag_Rows_c1 (a, b, ())).map fun r => r.1) z = some (m.map toR) := by
  have hlt : ∀ x y : Rw, ltF (fun a b => (bags_Bag_Rows_c1 (a, b, ())).map fun r => r.1) x y ↔ KT.lt (kyOf x) (kyOf y) = true := fun x y => by
    unfold ltF
    simp only [rows_cmp, Option.map_some]
    rw [← cmpK_neg]
    exact ⟨fun ⟨v, h1, h2⟩ => by cases h1; exact h2, fun h => ⟨_, rfl, h⟩⟩
  have huniq : ∀ x ∈ z, ∀ y ∈ z, kyOf x = kyOf y → x = y := by
    intro x hx y hy e
    obtain ⟨p, hp, rfl⟩ := List.mem_map.1 (hz.mem_iff.1 hx)
    obtain ⟨q, hq, rfl⟩ := List.mem_map.1 (hz.mem_iff.1 hy)
    rw [nodup_uniq (h.ne kt_flat) hp hq e]
  refine sortP_eq ⟨fun x _ y _ => ⟨_, by rw [rows_cmp]; rfl⟩, fun x _ => ?_, fun x _ y _ w _ => ?_, fun x hx y hy h1 h2 => ?_⟩ hz.symm ?_
  · rw [hlt, KT.lt_irr kt_flat]; simp
  · rw [hlt, hlt, hlt]; exact KT.lt_trans kt_flat _ _ _
  · rw [hlt] at h1 h2
    rcases KT.lt_tri kt_flat (kyOf x) (kyOf y) with h3 | h3 | h3
    · exact absurd h3 h1
    · exact huniq x hx y hy h3
    · exact absurd h3 h2
  · unfold Srt
    rw [List.pairwise_map]
    refine List.Pairwise.imp (fun {a b} hab => ?_) h
    rw [hlt]
    intro hba
    have : KT.lt a.1 a.1 = true := KT.lt_trans kt_flat _ _ _ hab hba
    rw [KT.lt_irr kt_flat] at this; cases this

theorem rows_eq {m : Bg} (h : Rise KT m) (hl : m.length ≤ 3000000) : bags_Bag_Rows (m, ()) = some (m.map toR, ()) := by
  unfold bags_Bag_Rows
  refine anyX_some ?_
  refine allN_push (row := toR) (b := 4000000) (fun r e y hb => ?_) (fun y => rfl) _ m [] rfl (by simp; omega) fun ord ho => ?_
  · unfold bags_Bag_Rows_l1
    rw [show ∀ x : Rw, ([x] : List Rw).length = 1 from fun _ => rfl, room24 hb]; rfl
  · have hlen : ([] ++ ord.map toR).length ≤ 4000000 := by
      rw [List.nil_append, List.length_map, ho.length_eq]; omega
    show cond (roomOk ([] ++ ord.map toR).length 1) _ none = _
    rw [room1 hlen, cond_true, List.nil_append, rows_sort h (ho.map toR)]; rfl

theorem large_eq (a b : List Rw) : bags_Large ([a, b], ()) = some (decide (a.length > 128) || decide (b.length > 128), ()) := by
  have hc : ∀ l : List Rw, bags_Large_c1 (l, ()) = some (decide (l.length > 128), ()) := fun l => by
    unfold bags_Large_c1
    have : decide ((l.length : Int) > 128) = decide (l.length > 128) := decide_eq_decide.2 (by omega)
    rw [this]
  have w0 : IntKind.i64.wrap ((0 : Int) + 1) = 1 := by decide
  have w1 : IntKind.i64.wrap ((1 : Int) + 1) = 2 := by decide
  have f0 : bags_Large_l1 ([a, b], ()) ((0 : Int), ()) = cond (decide (a.length > 128)) (some (.inr (.inl ((0 : Int), ())))) (some (.inl ((1 : Int), ()))) := by
    unfold bags_Large_l1
    have g : getI [a, b] (0 : Int) = some a := rfl
    have d0 : decide ((0 : Int) < (([a, b] : List (List Rw)).length : Int)) = true := rfl
    simp only [d0, cond_true, g, Option.bind_some, hc, w0]
  have f1 : bags_Large_l1 ([a, b], ()) ((1 : Int), ()) = cond (decide (b.length > 128)) (some (.inr (.inl ((1 : Int), ())))) (some (.inl ((2 : Int), ()))) := by
    unfold bags_Large_l1
    have g : getI [a, b] (1 : Int) = some b := rfl
    have d0 : decide ((1 : Int) < (([a, b] : List (List Rw)).length : Int)) = true := rfl
    simp only [d0, cond_true, g, Option.bind_some, hc, w1]
  have f2 : bags_Large_l1 ([a, b], ()) ((2 : Int), ()) = some (.inr (.inr (.inl ()))) := rfl
  unfold bags_Large
  cases ha : decide (a.length > 128) with
  | true =>
    rw [ha, cond_true] at f0
    rw [loopM_inr f0]; rfl
  | false =>
    rw [ha, cond_false] at f0
    rw [loopM_inl f0]
    cases hb : decide (b.length > 128) with
    | true =>
      rw [hb, cond_true] at f1
      rw [loopM_inr f1]; rfl
    | false =>
      rw [hb, cond_false] at f1
      rw [loopM_inl f1, loopM_inr f2]; rfl

/-- A row so many times. -/
def sc (n : Int) (r : Rw) : Rw := (r.1, r.2.1, W (n * r.2.2.1), ())
theorem bagOf_append (l l' : List Rw) (m : Bg) : bagOf (l ++ l') m = bagOf l' (bagOf l m) := List.foldl_append
theorem bagOf_take (a : List Rw) (n : Int) (m : Bg) {i : Nat} (h : i < a.length) : bagOf ((a.take (i + 1)).map (sc n)) m = pour (bagOf ((a.take i).map (sc n)) m) (kyOf a[i]) (W (n * a[i].2.2.1)) := by
  rw [List.take_succ_eq_append_getElem h, List.map_append, bagOf_append]; rfl

def mixB (a b : List Rw) (na nb : Int) : Bg := bagOf (a.map (sc na) ++ b.map (sc nb)) []

end Go.Proofs.Try
