/- Lemmas on functions of the program, by name. -/
import Derived.Test.YteipihigjkkmjaaQ7Funs
import Derived.Test.YteipihigjkkmjaaAbsSums
namespace Go.Proofs.Try
section
open Go Go.Abs


theorem find_map {β : Type} (p : Nat → Bool) (g : Nat → β) (l : List Nat) : (l.findSome? fun i => cond (p i) (some (g i)) none) = (l.find? p).map g := by
  induction l with
  | nil => rfl
  | cons a r ih =>
    rw [List.findSome?_cons, List.find?_cons]
    cases p a with
    | true => rfl
    | false => exact ih
theorem find_none_all {p : Nat → Bool} {n : Nat} (h : (List.range n).find? p = none) : ∀ i, i < n → p i = false := fun i hi => by
  have := List.find?_eq_none.1 h i (List.mem_range.2 hi)
  simpa using this
theorem find_const {β : Type} (p : Nat → Bool) (b : β) (l : List Nat) : (l.findSome? fun r => cond (p r) (some b) none) = if l.any p = true then some b else none := by
  induction l with
  | nil => rfl
  | cons a r ih =>
    rw [List.findSome?_cons, List.any_cons]
    cases p a with
    | true => rfl
    | false => rw [cond_false, ih]; simp
theorem getI_D {α : Type} {l : List α} {i : Int} (d : α) (h0 : 0 ≤ i) (h1 : i < l.length) : getI l i = some (l.getD i.toNat d) := by
  obtain ⟨k, rfl⟩ := Int.eq_ofNat_of_zero_le h0
  rw [getI_nat]
  rw [Int.toNat_natCast]
  exact getD_get (by omega)
theorem getI_lt {α : Type} {l : List α} {i : Nat} (h : i < l.length) : getI l (i : Int) = some l[i] := by
  rw [getI_nat, List.getElem?_eq_getElem h]
theorem room_ok {n k : Nat} (h : n ≤ 140737488355328) (h2 : n * k ≤ 140737488355328) : roomOk n k = true := by
  unfold roomOk
  rw [Bool.and_eq_true]
  exact ⟨Nat.ble_eq_true_of_le h, Nat.ble_eq_true_of_le h2⟩
end

section
open Go Go.Abs


/-! Joins of times. -/
def mx (a b : Int) : Int := if b > a then b else a
def joinL (a b : List Int) : List Int := List.zipWith mx a b
theorem joinL_length {a b : List Int} (h : a.length = b.length) : (joinL a b).length = a.length := by
  unfold joinL
  rw [List.length_zipWith, h, Nat.min_self]
theorem joinL_get {a b : List Int} {i : Nat} (ha : i < a.length) (hb : i < b.length) : (joinL a b)[i]? = some (mx a[i] b[i]) := by
  unfold joinL
  rw [List.getElem?_zipWith, List.getElem?_eq_getElem ha, List.getElem?_eq_getElem hb]

theorem set_rep {a : List Int} {n i : Nat} {v : Int} (hi : i < n) (ha : a.length = i) : (a ++ List.replicate (n - i) 0).set i v = a ++ [v] ++ List.replicate (n - (i + 1)) 0 := by
  rw [show n - i = (n - (i + 1)) + 1 from by omega, List.replicate_succ]
  subst ha
  rw [List.set_append_right _ _ (Nat.le_refl _), Nat.sub_self]
  simp

theorem over_eq {a b : List Int} (h : a.length = b.length) (hl : a.length ≤ 1000000) : times_Over (a, b, ()) = some (joinL a b, ()) := by
  have hj := joinL_length h
  have hr : roomOk a.length 8 = true := room8 hl
  have hloop := loopM_fold (f := times_Over_l1 (a, b, ())) a.length (fun i => (joinL a b).take i ++ List.replicate (a.length - i) 0) (.inl (joinL a b, ())) (fun i hi => by
    have htk : ((joinL a b).take i).length = i := by rw [List.length_take, hj]; omega
    have hlen : ((joinL a b).take i ++ List.replicate (a.length - i) 0).length = a.length := by rw [List.length_append, htk, List.length_replicate]; omega
    obtain ⟨w, hw⟩ : ∃ w, ((joinL a b).take i ++ List.replicate (a.length - i) 0)[i]? = some w := ⟨_, List.getElem?_eq_getElem (by omega)⟩
    have hs := set_rep (v := mx a[i] (b[i]'(by omega))) hi htk
    have htk1 : (joinL a b).take (i + 1) = (joinL a b).take i ++ [mx a[i] (b[i]'(by omega))] := by
      rw [List.take_succ_eq_append_getElem (by omega)]
      congr 2
      have := joinL_get (a := a) (b := b) hi (by omega)
      rw [List.getElem?_eq_getElem (by omega)] at this
      exact Option.some.inj this
    unfold times_Over_l1 times_greater
    simp only [dcT (show (i : Int) < (a.length : Int) by omega), cond_true, getI_nat, List.getElem?_eq_getElem hi, List.getElem?_eq_getElem (show i < b.length by omega), Option.bind_some, hlen, inB_T hi, Int.toNat_natCast, hw, wrapS (show i < 9223372036854775807 by omega)]
    rw [htk1, ← hs]; rfl) (by
    unfold times_Over_l1
    simp only [dcF (show ¬ (a.length : Int) < (a.length : Int) by omega), cond_false, Nat.sub_self, List.replicate_zero, List.append_nil]
    rw [List.take_of_length_le (by omega)])
  unfold times_Over
  have hg : (decide (0 ≤ (a.length : Int)) && decide ((a.length : Int) ≤ (a.length : Int)) && roomOk (a.length : Int).toNat 8 && decide ((a.length : Int) ≤ 9223372036854775807) && true && true) = true := by
    rw [Int.toNat_natCast, hr, dcT (show (0 : Int) ≤ (a.length : Int) by omega), dcT (show (a.length : Int) ≤ (a.length : Int) by omega), dcT (show (a.length : Int) ≤ 9223372036854775807 by omega)]; rfl
  have h0 : loopM (times_Over_l1 (a, b, ())) ((0 : Int), List.replicate (a.length : Int).toNat (0 : Int), ()) = some (.inl (joinL a b, ())) := by
    rw [Int.toNat_natCast]; exact hloop
  simp only [hg, cond_true]
  rw [h0]; rfl

theorem join_eq {a b : List Int} (h : a.length = b.length) (hl : a.length ≤ 900000) : ref_TimesJoin (a, b, true, ()) = some (joinL a b, ()) := by
  have hj := joinL_length h
  have hloop := loopM_fold' (f := ref_TimesJoin_l1 (a, b, true, ())) a.length (fun i => (joinL a b).take i) (.inl (joinL a b, ())) (fun i hi => by
    have htk : ((joinL a b).take i).length = i := by rw [List.length_take, hj]; omega
    have htk1 : (joinL a b).take (i + 1) = (joinL a b).take i ++ [mx a[i] (b[i]'(by omega))] := by
      rw [List.take_succ_eq_append_getElem (by omega)]
      congr 2
      have := joinL_get (a := a) (b := b) hi (by omega)
      rw [List.getElem?_eq_getElem (by omega)] at this
      exact Option.some.inj this
    unfold ref_TimesJoin_l1
    rw [htk1]
    simp only [dcT (show (i : Int) < (a.length : Int) by omega), cond_true, getI_nat, List.getElem?_eq_getElem hi, List.getElem?_eq_getElem (show i < b.length by omega), Option.bind_some, wrapS (show i < 9223372036854775807 by omega), show ∀ x : Int, ([x] : List Int).length = 1 from fun _ => rfl, htk, room8 (show i + 1 ≤ 1000000 by omega), Bool.and_true]
    unfold mx
    by_cases hgt : b[i]'(by omega) > a[i]
    · rw [if_pos hgt, dcT hgt]; rfl
    · rw [if_neg hgt, dcF hgt]; rfl) (by
    unfold ref_TimesJoin_l1
    simp only [dcF (show ¬ (a.length : Int) < (a.length : Int) by omega), cond_false]
    rw [List.take_of_length_le (by omega)])
  unfold ref_TimesJoin
  have h0 : loopM (ref_TimesJoin_l1 (a, b, true, ())) (([] : List Int), (0 : Int), ()) = some (.inl (joinL a b, ())) := hloop
  rw [h0]; rfl

/-- The program's key of a time. -/
def keyL (l : List Int) : Int × (Int × Int × Int × Int × Unit) × Unit := ((l.length : Int), ((l[0]?.getD 0), (l[1]?.getD 0), (l[2]?.getD 0), (l[3]?.getD 0), ()), ())
theorem keyL_inj {a b : List Int} (ha : a.length ≤ 4) (hb : b.length ≤ 4) (h : keyL a = keyL b) : a = b := by
  unfold keyL at h
  simp only [Prod.mk.injEq, and_true] at h
  obtain ⟨h0, h1, h2, h3, h4⟩ := h
  have hl : a.length = b.length := by omega
  apply List.ext_getElem?
  intro i
  have hk : ∀ i, i < a.length → (a[i]?.getD 0 = b[i]?.getD 0) → a[i]? = b[i]? := fun i hi e => by
    rw [List.getElem?_eq_getElem hi, List.getElem?_eq_getElem (show i < b.length by omega)] at e ⊢
    exact congrArg some e
  by_cases hi : i < a.length
  · match i, hi with
    | 0, hi => exact hk 0 hi h1
    | 1, hi => exact hk 1 hi h2
    | 2, hi => exact hk 2 hi h3
    | 3, hi => exact hk 3 hi h4
    | n + 4, hi => omega
  · rw [List.getElem?_eq_none (by omega), List.getElem?_eq_none (by omega)]

/-! Joins are commutative, associative, idempotent; at times of one length. -/
theorem mx_comm (a b : Int) : mx a b = mx b a := by unfold mx; split <;> split <;> omega
theorem mx_assoc (a b c : Int) : mx (mx a b) c = mx a (mx b c) := by
  unfold mx
  repeat' split
  all_goals omega
theorem mx_self (a : Int) : mx a a = a := by unfold mx; split <;> omega
theorem joinL_self : ∀ a : List Int, joinL a a = a
  | [] => rfl
  | x :: a => by
    show mx x x :: joinL a a = _
    rw [mx_self, joinL_self a]
theorem joinL_comm : ∀ a b : List Int, joinL a b = joinL b a
  | [], [] => rfl
  | [], _ :: _ => rfl
  | _ :: _, [] => rfl
  | x :: a, y :: b => by
    show mx x y :: joinL a b = mx y x :: joinL b a
    rw [mx_comm, joinL_comm a b]
theorem joinL_assoc : ∀ a b c : List Int, joinL (joinL a b) c = joinL a (joinL b c)
  | [], _, _ => by simp [joinL]
  | _ :: _, [], _ => by simp [joinL]
  | _ :: _, _ :: _, [] => by simp [joinL]
  | x :: a, y :: b, z :: c => by
    show mx (mx x y) z :: joinL (joinL a b) c = mx x (mx y z) :: joinL a (joinL b c)
    rw [mx_assoc, joinL_assoc a b c]
end

section
open Go Go.Abs


/-- Out of the range of whole numbers that a time may hold. -/
def bad (v : Int) : Bool := decide (v < 0) || decide (v > 1048576)

theorem bad_two {β : Type} (v : Int) (b : β) (s : Int × Unit) : (cond (decide (v < (0 : Int))) (some (Sum.inr b)) (cond (decide (v > (1048576 : Int))) (some (Sum.inr b)) (some (Sum.inl s))) : Option ((Int × Unit) ⊕ β)) = some (if bad v = true then .inr b else .inl s) := by
  unfold bad
  by_cases h1 : v < 0
  · simp [h1]
  · by_cases h2 : v > 1048576
    · simp [h1, h2]
    · simp [h1, h2]

theorem bad_ok {v : Int} (h : bad v = false) : 0 ≤ v ∧ v ≤ 1048576 := by
  unfold bad at h
  simp at h
  omega
end

section
open Go Go.Abs


/-! ### times.Check and its like -/
def chk (l : List Int) : Int := if l.length = 0 ∨ l.length > 4 then 1 else if l.any bad = true then 2 else 0

theorem chk_zero {l : List Int} (h : chk l = 0) : 0 < l.length ∧ l.length ≤ 4 ∧ ∀ (i : Nat) (v : Int), l[i]? = some v → 0 ≤ v ∧ v ≤ 1048576 := by
  unfold chk at h
  split at h
  · cases h
  · split at h
    · cases h
    · rename_i h1 h2
      refine ⟨by omega, by omega, fun i v hi => bad_ok ?_⟩
      have hm := List.mem_of_getElem? hi
      cases hb : bad v with
      | false => rfl
      | true => exact absurd (List.any_eq_true.2 ⟨v, hm, hb⟩) h2

theorem times_Check_loop (l : List Int) (hl : l.length ≤ 4) : loopM (times_Check_l1 (l, ())) (0, ()) = some (if l.any bad = true then Sum.inl (2, ()) else Sum.inr (Sum.inl ())) := by
  refine loopM_all l bad (Sum.inl (2, ())) (Sum.inr (Sum.inl ())) (fun i v hi => ?_) ?_
  · have hlt := (List.getElem?_eq_some_iff.1 hi).1
    have hi' : ((i : Int) < (l.length : Int)) := by omega
    unfold times_Check_l1
    simp only [hi', decide_true, cond_true, getI_nat, hi, Option.bind_some]
    rw [wrap64 (by omega) (by omega)]
    exact bad_two v _ _
  · simp [times_Check_l1]

theorem ref_TimesCheck_loop (l : List Int) (hl : l.length ≤ 4) : loopM (ref_TimesCheck_l1 (l, ())) (0, ()) = some (if l.any bad = true then Sum.inl (2, ()) else Sum.inr (Sum.inl ())) := by
  refine loopM_all l bad (Sum.inl (2, ())) (Sum.inr (Sum.inl ())) (fun i v hi => ?_) ?_
  · have hlt := (List.getElem?_eq_some_iff.1 hi).1
    have hi' : ((i : Int) < (l.length : Int)) := by omega
    unfold ref_TimesCheck_l1
    simp only [hi', decide_true, cond_true, getI_nat, hi, Option.bind_some]
    rw [wrap64 (by omega) (by omega)]
    exact bad_two v _ _
  · simp [ref_TimesCheck_l1]

theorem times_Check_eq (l : List Int) : times_Check (l, ()) = some (chk l, ()) := by
  unfold times_Check chk
  by_cases h0 : l.length = 0
  · simp [h0]
  · by_cases h4 : l.length > 4
    · have : ((l.length : Int) > 4) := by omega
      simp [h0, h4, this]
    · have h5 : ¬ ((l.length : Int) > 4) := by omega
      have h6 : ((l.length : Int) == 0) = false := by simp; exact fun h => h0 (by simp [h])
      simp only [h6, cond_false, h5, decide_false]
      have hn : ¬ (l.length = 0 ∨ l.length > 4) := by omega
      rw [times_Check_loop l (by omega), if_neg hn]
      split <;> rfl

theorem ref_TimesCheck_eq (l : List Int) : ref_TimesCheck (l, ()) = some (chk l, ()) := by
  unfold ref_TimesCheck chk
  by_cases h0 : l.length = 0
  · simp [h0]
  · have h6 : ¬ ((l.length : Int) < 1) := by omega
    by_cases h4 : l.length > 4
    · have : ((l.length : Int) > 4) := by omega
      simp [h4, this, h6]
    · have h5 : ¬ ((l.length : Int) > 4) := by omega
      simp only [h6, cond_false, h5, decide_false]
      have hn : ¬ (l.length = 0 ∨ l.length > 4) := by omega
      rw [ref_TimesCheck_loop l (by omega), if_neg hn]
      split <;> rfl
end

section
open Go Go.Abs


/-! Times compared. -/
def cmpL : List Int → List Int → Int
  | [], [] => 0
  | [], _ :: _ => -1
  | _ :: _, [] => 1
  | a :: r, b :: s => if a < b then -1 else if a > b then 1 else cmpL r s
theorem cmpL_eq : ∀ {a b : List Int}, cmpL a b = 0 ↔ a = b
  | [], [] => by simp [cmpL]
  | [], _ :: _ => by simp [cmpL]
  | _ :: _, [] => by simp [cmpL]
  | a :: r, b :: s => by
    have ih := cmpL_eq (a := r) (b := s)
    simp only [cmpL, List.cons.injEq]
    split
    · constructor
      · intro h; omega
      · intro h; omega
    · split
      · constructor
        · intro h; omega
        · intro h; omega
      · rw [ih]; constructor
        · intro h; exact ⟨by omega, h⟩
        · exact fun h => h.2
theorem cmpL_neg : ∀ (a b : List Int), cmpL b a = - cmpL a b
  | [], [] => rfl
  | [], _ :: _ => rfl
  | _ :: _, [] => rfl
  | a :: r, b :: s => by
    have ih := cmpL_neg r s
    simp only [cmpL]
    by_cases h1 : a < b
    · rw [if_pos h1, if_neg (by omega), if_pos (by omega)]; rfl
    · by_cases h2 : a > b
      · rw [if_pos (show b < a from h2), if_neg h1, if_pos h2]
      · rw [if_neg h1, if_neg h2, if_neg (by omega), if_neg (by omega), ih]
theorem cmpL_trans : ∀ {a b c : List Int}, cmpL a b < 0 → cmpL b c < 0 → cmpL a c < 0
  | [], [], c, h, _ => by simp [cmpL] at h
  | [], _ :: _, [], _, h => by simp [cmpL] at h
  | [], _ :: _, _ :: _, _, _ => by simp [cmpL]
  | _ :: _, [], _, h, _ => by simp [cmpL] at h
  | _ :: _, _ :: _, [], _, h => by simp [cmpL] at h
  | a :: r, b :: s, c :: t, h1, h2 => by
    simp only [cmpL] at h1 h2 ⊢
    have ih := cmpL_trans (a := r) (b := s) (c := t)
    by_cases hab : a < b
    · by_cases hbc : b < c
      · rw [if_pos (by omega)]; decide
      · rw [if_neg hbc] at h2
        by_cases hbc2 : b > c
        · rw [if_pos hbc2] at h2; omega
        · rw [if_pos (by omega)]; decide
    · rw [if_neg hab] at h1
      by_cases hab2 : a > b
      · rw [if_pos hab2] at h1; omega
      · rw [if_neg hab2] at h1
        by_cases hbc : b < c
        · rw [if_pos (by omega)]; decide
        · rw [if_neg hbc] at h2
          by_cases hbc2 : b > c
          · rw [if_pos hbc2] at h2; omega
          · rw [if_neg hbc2] at h2
            rw [if_neg (by omega), if_neg (by omega)]
            exact ih h1 h2
theorem cmpL_irr (a : List Int) : ¬ cmpL a a < 0 := by rw [cmpL_eq.2 rfl]; decide

theorem cmp_Compare_eq (v w : Int) : cmp_Compare_int (v, w, ()) = some (if v < w then -1 else if v > w then 1 else 0, ()) := by
  unfold cmp_Compare_int cmp_isNaN_int
  simp only [bneF rfl, Option.bind_some, cond_false, cond_dec]
  split
  · rfl
  · split <;> rfl

theorem slices_Compare_eq {a b : List Int} (ha : a.length ≤ 1000000) : slices_Compare_s_int_int (a, b, ()) = some (cmpL a b, ()) := by
  have key : ∀ k i, i + k = a.length → i ≤ b.length → (loopM (slices_Compare_s_int_int_l1 (a, b, ())) ((i : Int), ())).bind (Sum.elim (fun z5 => (some z5)) (Sum.elim (fun z6 => (cond (decide ((a.length : Int) < (b.length : Int))) (some ((-1 : Int), ())) (some ((0 : Int), ())))) Empty.elim)) = some (cmpL (a.drop i) (b.drop i), ()) := by
    intro k
    induction k with
    | zero =>
      intro i hi hb
      have hi' : i = a.length := by omega
      rw [loopM_inr (b := .inr (.inl ())) (by
        unfold slices_Compare_s_int_int_l1
        simp only [dcF (show ¬ (i : Int) < (a.length : Int) by omega), cond_false])]
      rw [List.drop_of_length_le (by omega)]
      simp only [Option.bind_some, Sum.elim_inl, Sum.elim_inr, cond_dec]
      by_cases hlt : i < b.length
      · rw [List.drop_eq_getElem_cons hlt, if_pos (by omega)]; rfl
      · rw [List.drop_of_length_le (by omega), if_neg (by omega)]; rfl
    | succ k ih =>
      intro i hi hb
      have hia : i < a.length := by omega
      by_cases hib : i < b.length
      · have hst : slices_Compare_s_int_int_l1 (a, b, ()) ((i : Int), ()) = cond (cmpL [a[i]] [b[i]] != 0) (some (.inr (.inl (cmpL [a[i]] [b[i]], ())))) (some (.inl (((i + 1 : Nat) : Int), ()))) := by
          unfold slices_Compare_s_int_int_l1
          simp only [dcT (show (i : Int) < (a.length : Int) by omega), dcF (show ¬ (i : Int) ≥ (b.length : Int) by omega), cond_true, cond_false, getI_lt hia, getI_lt hib, Option.bind_some, cmp_Compare_eq, wrapS (show i < 9223372036854775807 by omega)]
          rfl
        rw [List.drop_eq_getElem_cons hia, List.drop_eq_getElem_cons hib]
        by_cases h1 : a[i] < b[i]
        · have hc : cmpL [a[i]] [b[i]] = -1 := by simp only [cmpL, if_pos h1]
          rw [hc] at hst
          rw [loopM_inr hst]; simp only [cmpL, if_pos h1]; rfl
        · by_cases h2 : a[i] > b[i]
          · have hc : cmpL [a[i]] [b[i]] = 1 := by simp only [cmpL, if_neg h1, if_pos h2]
            rw [hc] at hst
            rw [loopM_inr hst]; simp only [cmpL, if_neg h1, if_pos h2]; rfl
          · have hc : cmpL [a[i]] [b[i]] = 0 := by simp only [cmpL, if_neg h1, if_neg h2]
            rw [hc] at hst
            rw [loopM_inl hst, ih (i + 1) (by omega) (by omega)]
            simp only [cmpL, if_neg h1, if_neg h2]
      · have hst : slices_Compare_s_int_int_l1 (a, b, ()) ((i : Int), ()) = some (.inr (.inl ((1 : Int), ()))) := by
          unfold slices_Compare_s_int_int_l1
          simp only [dcT (show (i : Int) < (a.length : Int) by omega), dcT (show (i : Int) ≥ (b.length : Int) by omega), cond_true, getI_lt hia, Option.bind_some]
        rw [loopM_inr hst, List.drop_eq_getElem_cons hia, List.drop_of_length_le (l := b) (show b.length ≤ i by omega)]
        rfl
  unfold slices_Compare_s_int_int
  exact key a.length 0 (by omega) (by omega)

def lessB (a b : List Int) : Bool := decide (a.length = b.length) && (decide (chk a = 0) && (decide (chk b = 0) && decide (cmpL a b < 0)))
theorem lessB_iff {a b : List Int} : lessB a b = true ↔ a.length = b.length ∧ chk a = 0 ∧ chk b = 0 ∧ cmpL a b < 0 := by
  unfold lessB
  simp only [Bool.and_eq_true, decide_eq_true_eq]
theorem lessB_of {a b : List Int} (h : a.length = b.length) (ha : chk a = 0) (hb : chk b = 0) : lessB a b = decide (cmpL a b < 0) := by
  unfold lessB
  rw [decide_eq_true h, decide_eq_true ha, decide_eq_true hb]; rfl
theorem times_alike_eq (a b : List Int) : times_alike (a, b, ()) = some (decide (a.length = b.length) && (decide (chk a = 0) && decide (chk b = 0)), ()) := by
  unfold times_alike
  simp only [times_Check_eq, Option.bind_some, cond_beq]
  by_cases h : a.length = b.length
  · rw [if_pos (by omega), decide_eq_true h]
    by_cases h2 : chk a = 0
    · rw [if_pos h2, decide_eq_true h2]; simp only [Bool.true_and]; rfl
    · rw [if_neg h2, decide_eq_false h2]; rfl
  · rw [if_neg (by omega), decide_eq_false h]; rfl
theorem ref_TimesLess_eq (a b : List Int) : ref_TimesLess (a, b, ()) = some (lessB a b, ()) := by
  unfold ref_TimesLess lessB
  simp only [ref_TimesCheck_eq, Option.bind_some, cond_bne]
  by_cases h : a.length = b.length
  · rw [if_pos (by omega), decide_eq_true h]
    by_cases h2 : chk a = 0
    · rw [if_pos h2, decide_eq_true h2]
      by_cases h3 : chk b = 0
      · rw [if_pos h3, decide_eq_true h3]
        have h4 := (chk_zero h2).2.1
        have key : ∀ k i, i + k = a.length → (loopM (ref_TimesLess_l1 (a, b, ())) ((i : Int), ())).bind (Sum.elim (fun z8 => (some z8)) (Sum.elim (fun z9 => (some (false, ()))) Empty.elim)) = some (decide (cmpL (a.drop i) (b.drop i) < 0), ()) := by
          intro k
          induction k with
          | zero =>
            intro i hi
            rw [loopM_inr (b := .inr (.inl ())) (by
              unfold ref_TimesLess_l1
              simp only [dcF (show ¬ (i : Int) < (a.length : Int) by omega), cond_false])]
            rw [List.drop_of_length_le (by omega), List.drop_of_length_le (by omega)]; rfl
          | succ k ih =>
            intro i hi
            have hia : i < a.length := by omega
            have hib : i < b.length := by omega
            have hst : ref_TimesLess_l1 (a, b, ()) ((i : Int), ()) = cond (a[i] != b[i]) (some (.inr (.inl (decide (a[i] < b[i]), ())))) (some (.inl (((i + 1 : Nat) : Int), ()))) := by
              unfold ref_TimesLess_l1
              simp only [dcT (show (i : Int) < (a.length : Int) by omega), cond_true, getI_lt hia, getI_lt hib, Option.bind_some, wrapS (show i < 9223372036854775807 by omega)]
            rw [List.drop_eq_getElem_cons hia, List.drop_eq_getElem_cons hib]
            by_cases he : a[i] = b[i]
            · rw [bneF he, cond_false] at hst
              rw [loopM_inl hst, ih (i + 1) (by omega)]
              simp only [cmpL, if_neg (show ¬ a[i] < b[i] by omega), if_neg (show ¬ a[i] > b[i] by omega)]
            · rw [bneT he, cond_true] at hst
              rw [loopM_inr hst]
              by_cases h1 : a[i] < b[i]
              · simp only [cmpL, if_pos h1, decide_eq_true h1]; rfl
              · simp only [cmpL, if_neg h1, if_pos (show a[i] > b[i] by omega), decide_eq_false h1]; rfl
        exact key a.length 0 (by omega)
      · rw [if_neg h3, decide_eq_false h3]; rfl
    · rw [if_neg h2, decide_eq_false h2]; rfl
  · rw [if_neg (by omega), decide_eq_false h]; rfl

theorem ref_TimesSame_eq {a b : List Int} (ha : a.length ≤ 1000000) : ref_TimesSame (a, b, ()) = some (decide (a = b), ()) := by
  unfold ref_TimesSame
  simp only [cond_bne]
  by_cases h : a.length = b.length
  · rw [if_pos (by omega)]
    have key : ∀ k i, i + k = a.length → (loopM (ref_TimesSame_l1 (a, b, ())) ((i : Int), ())).bind (Sum.elim (fun z8 => (some z8)) (Sum.elim (fun z9 => (some (true, ()))) Empty.elim)) = some (decide (a.drop i = b.drop i), ()) := by
      intro k
      induction k with
      | zero =>
        intro i hi
        rw [loopM_inr (b := .inr (.inl ())) (by
          unfold ref_TimesSame_l1
          simp only [dcF (show ¬ (i : Int) < (a.length : Int) by omega), cond_false])]
        rw [List.drop_of_length_le (by omega), List.drop_of_length_le (by omega)]; rfl
      | succ k ih =>
        intro i hi
        have hia : i < a.length := by omega
        have hib : i < b.length := by omega
        have hst : ref_TimesSame_l1 (a, b, ()) ((i : Int), ()) = cond (a[i] != b[i]) (some (.inr (.inl (false, ())))) (some (.inl (((i + 1 : Nat) : Int), ()))) := by
          unfold ref_TimesSame_l1
          simp only [dcT (show (i : Int) < (a.length : Int) by omega), cond_true, getI_lt hia, getI_lt hib, Option.bind_some, wrapS (show i < 9223372036854775807 by omega)]
        rw [List.drop_eq_getElem_cons hia, List.drop_eq_getElem_cons hib]
        by_cases he : a[i] = b[i]
        · rw [bneF he, cond_false] at hst
          rw [loopM_inl hst, ih (i + 1) (by omega)]
          exact congrArg (fun x => some (x, ())) (decide_eq_decide.2 (by rw [List.cons.injEq]; exact ⟨fun h => ⟨he, h⟩, fun h => h.2⟩))
        · rw [bneT he, cond_true] at hst
          rw [loopM_inr hst]
          rw [decide_eq_false (fun h => he (List.cons.inj h).1)]; rfl
    exact key a.length 0 (by omega)
  · rw [if_neg (by omega), decide_eq_false (fun e => h (by rw [e]))]
end

section
open Go Go.Abs


/-! Tallies checked. -/
abbrev Cn := List Int × Int × Unit
def tlist (l : List (List Int)) : Int :=
  if 64 < l.length then 1 else (((List.range l.length).find? fun i => chk (l.getD i []) != 0).map fun i => chk (l.getD i [])).getD (if ((List.range l.length).any fun i => ((l.getD i []).length : Int) != ((l.getD 0 []).length : Int)) = true then 3 else 0)

theorem times_List_eq (l : List (List Int)) : times_List (l, ()) = some (tlist l, ()) := by
  unfold times_List tlist
  by_cases h : 64 < l.length
  · rw [dcT (show (l.length : Int) > 64 by omega), cond_true, if_pos h]
  rw [dcF (show ¬ (l.length : Int) > 64 by omega), cond_false, if_neg h]
  have k1 := loopM_exit (f := times_List_l1 (l, ())) l.length (fun i => ((i : Int), ())) (fun i => cond (chk (l.getD i []) != 0) (some (chk (l.getD i []), ())) none) (.inl ()) (fun i hi => by
    unfold times_List_l1
    simp only [dcT (show (i : Int) < (l.length : Int) by omega), cond_true, getI_D [] (Int.natCast_nonneg i) (show (i : Int) < (l.length : Int) by omega), Int.toNat_natCast, Option.bind_some, times_Check_eq]
    rw [wrapS (by omega)]
    cases chk (l.getD i []) != 0 <;> rfl) (by
    unfold times_List_l1
    simp only [dcF (show ¬ (l.length : Int) < (l.length : Int) by omega), cond_false]) (s0 := ((0 : Int), ())) rfl
  have k2 := loopM_exit (f := times_List_l2 (l, ())) l.length (fun i => ((i : Int), ())) (fun i => cond (((l.getD i []).length : Int) != ((l.getD 0 []).length : Int)) (some ((3 : Int), ())) none) (.inl ()) (fun i hi => by
    unfold times_List_l2
    simp only [dcT (show (i : Int) < (l.length : Int) by omega), cond_true, getI_D [] (Int.natCast_nonneg i) (show (i : Int) < (l.length : Int) by omega), getI_D [] (show (0 : Int) ≤ 0 by omega) (show (0 : Int) < (l.length : Int) by omega), Int.toNat_natCast, Option.bind_some]
    rw [wrapS (by omega)]
    show (cond (((l.getD i []).length : Int) != ((l.getD 0 []).length : Int)) _ _) = _
    cases ((l.getD i []).length : Int) != ((l.getD 0 []).length : Int) <;> rfl) (by
    unfold times_List_l2
    simp only [dcF (show ¬ (l.length : Int) < (l.length : Int) by omega), cond_false]) (s0 := ((0 : Int), ())) rfl
  rw [find_map (fun i => chk (l.getD i []) != 0) fun i => (chk (l.getD i []), ())] at k1
  rw [find_const] at k2
  rw [k1]
  cases (List.range l.length).find? fun i => chk (l.getD i []) != 0 with
  | some i => rfl
  | none =>
    simp only [Option.map_none, exitOr_none, Option.bind_some, Sum.elim_inr, Sum.elim_inl, k2, Option.getD_none]
    split <;> rfl

theorem ref_TimesList_eq (l : List (List Int)) : ref_TimesList (l, ()) = some (tlist l, ()) := by
  unfold ref_TimesList tlist
  by_cases h : 64 < l.length
  · rw [dcT (show (l.length : Int) > 64 by omega), cond_true, if_pos h]
  rw [dcF (show ¬ (l.length : Int) > 64 by omega), cond_false, if_neg h]
  have k1 := loopM_exit (f := ref_TimesList_l1 (l, ())) l.length (fun i => ((i : Int), ())) (fun i => cond (chk (l.getD i []) != 0) (some (chk (l.getD i []), ())) none) (.inl ()) (fun i hi => by
    unfold ref_TimesList_l1
    simp only [dcT (show (i : Int) < (l.length : Int) by omega), cond_true, getI_D [] (Int.natCast_nonneg i) (show (i : Int) < (l.length : Int) by omega), Int.toNat_natCast, Option.bind_some, ref_TimesCheck_eq]
    rw [wrapS (by omega)]
    cases chk (l.getD i []) != 0 <;> rfl) (by
    unfold ref_TimesList_l1
    simp only [dcF (show ¬ (l.length : Int) < (l.length : Int) by omega), cond_false]) (s0 := ((0 : Int), ())) rfl
  have k2 := loopM_exit (f := ref_TimesList_l2 (l, ())) l.length (fun i => ((i : Int), ())) (fun i => cond (((l.getD i []).length : Int) != ((l.getD 0 []).length : Int)) (some ((3 : Int), ())) none) (.inl ()) (fun i hi => by
    unfold ref_TimesList_l2
    simp only [dcT (show (i : Int) < (l.length : Int) by omega), cond_true, getI_D [] (Int.natCast_nonneg i) (show (i : Int) < (l.length : Int) by omega), getI_D [] (show (0 : Int) ≤ 0 by omega) (show (0 : Int) < (l.length : Int) by omega), Int.toNat_natCast, Option.bind_some]
    rw [wrapS (by omega)]
    show (cond (((l.getD i []).length : Int) != ((l.getD 0 []).length : Int)) _ _) = _
    cases ((l.getD i []).length : Int) != ((l.getD 0 []).length : Int) <;> rfl) (by
    unfold ref_TimesList_l2
    simp only [dcF (show ¬ (l.length : Int) < (l.length : Int) by omega), cond_false]) (s0 := ((0 : Int), ())) rfl
  rw [find_map (fun i => chk (l.getD i []) != 0) fun i => (chk (l.getD i []), ())] at k1
  rw [find_const] at k2
  rw [k1]
  cases (List.range l.length).find? fun i => chk (l.getD i []) != 0 with
  | some i => rfl
  | none =>
    simp only [Option.map_none, exitOr_none, Option.bind_some, Sum.elim_inr, Sum.elim_inl, k2, Option.getD_none]
    split <;> rfl

theorem tlist_zero {l : List (List Int)} (h : tlist l = 0) : l.length ≤ 64 ∧ ∀ t ∈ l, chk t = 0 ∧ t.length = (l.getD 0 []).length := by
  unfold tlist at h
  split at h
  · cases h
  rename_i h64
  cases hf : (List.range l.length).find? fun i => chk (l.getD i []) != 0 with
  | some i =>
    rw [hf] at h
    have := List.find?_some hf
    simp only [bne_iff_ne] at this
    exact absurd h this
  | none =>
    rw [hf] at h
    simp only [Option.map_none, Option.getD_none] at h
    split at h
    · cases h
    · rename_i ha
      refine ⟨by omega, fun t ht => ?_⟩
      obtain ⟨i, hi, rfl⟩ := List.mem_iff_getElem.1 ht
      have hg : l.getD i [] = l[i] := by rw [List.getD_eq_getElem?_getD, List.getElem?_eq_getElem hi]; rfl
      have h1 := find_none_all hf i hi
      have h2 := List.any_eq_false.1 (Bool.eq_false_iff.2 ha) i (List.mem_range.2 hi)
      rw [hg] at h1 h2
      refine ⟨by simpa using h1, ?_⟩
      simp only [bne_iff_ne, ne_eq, Decidable.not_not] at h2
      omega

/-! The times of a tally. -/
def overB (n : Int) : Bool := decide (n < -1099511627776) || decide (n > 1099511627776)
theorem over_false {n : Int} : overB n = false ↔ -1099511627776 ≤ n ∧ n ≤ 1099511627776 := by
  unfold overB
  rw [Bool.or_eq_false_iff, decide_eq_false_iff_not, decide_eq_false_iff_not]
  omega
def badC (x : Cn) : Bool := (x.2.1 == 0) || overB x.2.1
def cz : Cn := ([], 0, ())
def ordB (c : List Cn) : Bool := (List.range (c.length - 1)).any fun k => !lessB (c.getD k cz).1 (c.getD (k + 1) cz).1
def cchk (c : List Cn) : Int := if tlist (c.map (·.1)) ≠ 0 then tlist (c.map (·.1)) else if ordB c = true then 3 else if ((List.range c.length).any fun i => badC (c.getD i cz)) = true then 2 else 0

/-- What a tally without faults is. -/
structure Tally (c : List Cn) : Prop where
  len : c.length ≤ 64
  fine : ∀ x ∈ c, chk x.1 = 0 ∧ x.1.length = (c.getD 0 cz).1.length
  num : ∀ x ∈ c, -1099511627776 ≤ x.2.1 ∧ x.2.1 ≤ 1099511627776
  up : (c.map (·.1)).Pairwise fun a b => cmpL a b < 0

theorem pair_adj {l : List (List Int)} (h : ∀ k (hk : k + 1 < l.length), cmpL l[k] l[k + 1] < 0) : l.Pairwise fun a b => cmpL a b < 0 := by
  rw [List.pairwise_iff_getElem]
  intro i j hi hj hij
  obtain ⟨d, rfl⟩ := Nat.exists_eq_add_of_lt hij
  induction d with
  | zero => exact h i hj
  | succ d ih => exact cmpL_trans (ih (by omega) (by omega)) (h (i + d + 1) hj)

theorem cchk_zero {c : List Cn} (h : cchk c = 0) : Tally c := by
  unfold cchk at h
  split at h
  · rename_i h1; exact absurd h h1
  rename_i h1
  split at h
  · cases h
  rename_i h2
  split at h
  · cases h
  rename_i h3
  have ht := tlist_zero (by simpa using h1 : tlist (c.map (·.1)) = 0)
  have h0 : ((c.map (·.1)).getD 0 []).length = (c.getD 0 cz).1.length := by
    cases c <;> rfl
  refine ⟨by simpa using ht.1, fun x hx => ?_, fun x hx => ?_, pair_adj fun k hk => ?_⟩
  · have := ht.2 x.1 (List.mem_map.2 ⟨x, hx, rfl⟩)
    rw [h0] at this
    exact this
  · obtain ⟨i, hi, rfl⟩ := List.mem_iff_getElem.1 hx
    have := List.any_eq_false.1 (Bool.eq_false_iff.2 h3) i (List.mem_range.2 hi)
    rw [List.getD_eq_getElem?_getD, List.getElem?_eq_getElem hi] at this
    simp only [Option.getD_some, badC, Bool.or_eq_true, not_or, Bool.not_eq_true] at this
    exact over_false.1 this.2
  · rw [List.length_map] at hk
    have := List.any_eq_false.1 (Bool.eq_false_iff.2 h2) k (List.mem_range.2 (by omega))
    rw [List.getD_eq_getElem?_getD, List.getElem?_eq_getElem (show k < c.length by omega), List.getD_eq_getElem?_getD, List.getElem?_eq_getElem hk] at this
    simp only [Option.getD_some, Bool.not_eq_true', Bool.not_eq_false] at this
    rw [List.getElem_map, List.getElem_map]
    exact (lessB_iff.1 this).2.2.2
end

section
open Go Go.Abs


/-! Two tallies merged. -/
def mergeM : List Cn → List Cn → List Cn
  | [], d => d
  | x :: c, [] => x :: c
  | x :: c, y :: d => if cmpL x.1 y.1 < 0 then x :: mergeM c (y :: d) else if 0 < cmpL x.1 y.1 then y :: mergeM (x :: c) d else (x.1, x.2.1 + y.2.1, ()) :: mergeM c d
termination_by c d => c.length + d.length

def emit (acc : List Cn) : List Cn → List Cn × Int × Unit
  | [] => if 64 < acc.length then ([], 1, ()) else (acc, 0, ())
  | x :: M => if overB x.2.1 = true then ([], 6, ()) else emit (if x.2.1 = 0 then acc else acc ++ [x]) M

theorem clone_eq {t : List Int} (h : t.length ≤ 1000000) : slices_Clone_s_int_int (t, ()) = some (t, ()) := by
  unfold slices_Clone_s_int_int
  simp only [List.length_nil, Nat.zero_add, room_ok (show t.length ≤ 140737488355328 by omega) (show t.length * 8 ≤ 140737488355328 by omega), Bool.and_true, cond_true, List.nil_append]

theorem take_tail {α : Type} (x : α) (c : List α) : (((x :: c).drop (1 : Int).toNat).take (((x :: c).length : Int).toNat - (1 : Int).toNat)) = c := by
  show (c.take _) = c
  rw [List.take_of_length_le]
  simp
theorem getI_0 {α : Type} (x : α) (c : List α) : getI (x :: c) (0 : Int) = some x := rfl
theorem cut_ok {α : Type} (x : α) (c : List α) : (decide (0 ≤ (1 : Int)) && decide ((1 : Int) ≤ ((x :: c).length : Int)) && decide (((x :: c).length : Int) ≤ (x :: c).length)) = true := by
  simp
  omega

theorem cut_ok2 {α : Type} (x : α) (c : List α) : (true && decide ((1 : Int) ≤ ((x :: c).length : Int)) && decide (((x :: c).length : Int) ≤ (x :: c).length)) = true := by
  simp
  omega
def okC (c : List Cn) : Prop := ∀ x ∈ c, x.1.length ≤ 4 ∧ -1099511627776 ≤ x.2.1 ∧ x.2.1 ≤ 1099511627776
theorem okC_tail {x : Cn} {c : List Cn} (h : okC (x :: c)) : okC c := fun y hy => h y (List.mem_cons_of_mem _ hy)
theorem okC_head {x : Cn} {c : List Cn} (h : okC (x :: c)) : x.1.length ≤ 4 ∧ -1099511627776 ≤ x.2.1 ∧ x.2.1 ≤ 1099511627776 := h x (List.mem_cons_self ..)

/-- What one round does. -/
theorem len_pos {α : Type} (x : α) (c : List α) : decide (((x :: c).length : Int) > 0) = true := decide_eq_true (by rw [List.length_cons]; omega)
theorem len_nz {α : Type} (x : α) (c : List α) : (((x :: c).length : Int) == 0) = false := beq_eq_false_iff_ne.2 (by rw [List.length_cons]; omega)
theorem mergeM_nil (d : List Cn) : mergeM [] d = d := by rw [mergeM]
theorem mergeM_nil2 (c : List Cn) : mergeM c [] = c := by cases c <;> rw [mergeM]
end

section
open Go Go.Abs


/-! The document's times, sorted. -/
def insT (t : List Int) : List (List Int) → List (List Int)
  | [] => [t]
  | u :: l => if cmpL u t < 0 then u :: insT t l else if u = t then u :: l else t :: u :: l
def ltP (t : List Int) (u : List Int) : Bool := decide (cmpL u t < 0)
theorem ins_split (t : List Int) : ∀ out : List (List Int), insT t out = match out.dropWhile (ltP t) with
    | [] => out.takeWhile (ltP t) ++ [t]
    | u :: l => if u = t then out else out.takeWhile (ltP t) ++ t :: u :: l
  | [] => rfl
  | u :: l => by
    have ih := ins_split t l
    rw [insT, List.dropWhile_cons, List.takeWhile_cons]
    by_cases h : cmpL u t < 0
    · have hp : ltP t u = true := decide_eq_true h
      rw [if_pos h, if_pos hp, if_pos hp, ih]
      cases List.dropWhile (ltP t) l with
      | nil => rfl
      | cons v m =>
        simp only
        split
        · rfl
        · rfl
    · have hp : ¬ ltP t u = true := fun e => h (of_decide_eq_true e)
      rw [if_neg h, if_neg hp, if_neg hp]
      rfl
theorem take_while {p : List Int → Bool} : ∀ l : List (List Int), l.take (l.takeWhile p).length = l.takeWhile p
  | [] => rfl
  | u :: l => by
    rw [List.takeWhile_cons]
    split
    · rw [List.length_cons, List.take_succ_cons, take_while l]
    · rfl
theorem drop_while {p : List Int → Bool} : ∀ l : List (List Int), l.drop (l.takeWhile p).length = l.dropWhile p
  | [] => rfl
  | u :: l => by
    rw [List.takeWhile_cons, List.dropWhile_cons]
    split
    · rw [List.length_cons, List.drop_succ_cons, drop_while l]
    · rfl
theorem while_le {p : List Int → Bool} (l : List (List Int)) : (l.takeWhile p).length ≤ l.length := (List.takeWhile_prefix p).length_le

theorem sorted_l1 {out : List (List Int)} {t : List Int} (z : Int × Unit) (hl : out.length ≤ 1000000) (hp : ∀ u ∈ out, lessB u t = ltP t u) :
    loopM (ref_TimesSorted_l1 (out, z) t) ((0 : Int), ()) = some (.inl ((((out.takeWhile (ltP t)).length : Nat) : Int), ())) := by
  have key : ∀ k i, i + k = out.length → loopM (ref_TimesSorted_l1 (out, z) t) ((i : Int), ()) = some (.inl (((i + ((out.drop i).takeWhile (ltP t)).length : Nat) : Int), ())) := by
    intro k
    induction k with
    | zero =>
      intro i hi
      rw [loopM_inr (b := .inl ((i : Int), ())) (by
        unfold ref_TimesSorted_l1
        simp only [dcF (show ¬ (i : Int) < (out.length : Int) by omega), cond_false])]
      rw [List.drop_of_length_le (by omega)]; rfl
    | succ k ih =>
      intro i hi
      have hlt : i < out.length := by omega
      have hst : ref_TimesSorted_l1 (out, z) t ((i : Int), ()) = cond (ltP t out[i]) (some (.inl (((i + 1 : Nat) : Int), ()))) (some (.inr (.inl ((i : Int), ())))) := by
        unfold ref_TimesSorted_l1
        simp only [dcT (show (i : Int) < (out.length : Int) by omega), cond_true, getI_lt hlt, Option.bind_some, ref_TimesLess_eq, hp _ (List.getElem_mem hlt), wrapS (show i < 9223372036854775807 by omega)]
      rw [List.drop_eq_getElem_cons hlt, List.takeWhile_cons]
      cases hb : ltP t out[i] with
      | true =>
        rw [hb, cond_true] at hst
        rw [loopM_inl hst, ih (i + 1) (by omega)]
        simp only [if_true, List.length_cons]
        rw [show i + 1 + ((out.drop (i + 1)).takeWhile (ltP t)).length = i + (((out.drop (i + 1)).takeWhile (ltP t)).length + 1) by omega]
      | false =>
        rw [hb, cond_false] at hst
        rw [loopM_inr hst]; rfl
  have := key out.length 0 (by omega)
  rw [List.drop_zero, Nat.zero_add] at this
  exact this

theorem sorted_l2 {out : List (List Int)} (z : Int × Unit) {m : Nat} (hm : m ≤ out.length) (hl : out.length ≤ 1000000) :
    loopM (ref_TimesSorted_l2 ((m : Int), ()) (out, z)) (([] : List (List Int)), (0 : Int), ()) = some (.inl (out.take m, ())) := by
  refine loopM_sim m (fun i => (out.take i, (i : Int), ())) _ (fun i hi => ?_) ?_ rfl
  · unfold ref_TimesSorted_l2
    have hlt : i < out.length := by omega
    have hlen : (out.take i).length + (0 + 1) = i + 1 := by rw [List.length_take]; omega
    simp only [dcT (show (i : Int) < (m : Int) by omega), cond_true, getI_lt hlt, Option.bind_some, List.length_cons, List.length_nil, hlen, room_ok (show i + 1 ≤ 140737488355328 by omega) (show (i + 1) * 24 ≤ 140737488355328 by omega), wrapS (show i < 9223372036854775807 by omega), Bool.and_true]
    rw [List.take_succ_eq_append_getElem hlt]
  · unfold ref_TimesSorted_l2
    simp only [dcF (show ¬ (m : Int) < (m : Int) by omega), cond_false]
theorem sorted_l3 {out pre : List (List Int)} (z : Int × Unit) {m : Nat} (hm : m ≤ out.length) (hl : out.length ≤ 1000000) (hp : pre.length ≤ 1000000) :
    loopM (ref_TimesSorted_l3 (out, z)) (pre, (m : Int), ()) = some (.inl (pre ++ out.drop m, ())) := by
  have e : pre ++ out.drop m = pre ++ (out.drop m).take (out.length - m) := by rw [List.take_of_length_le (by rw [List.length_drop]; omega)]
  rw [e]
  refine loopM_sim (out.length - m) (fun i => (pre ++ (out.drop m).take i, ((m + i : Nat) : Int), ())) _ (fun i hi => ?_) ?_ (by simp)
  · unfold ref_TimesSorted_l3
    have hlt : m + i < out.length := by omega
    have hlt2 : i < (out.drop m).length := by rw [List.length_drop]; omega
    have hlen : (pre ++ (out.drop m).take i).length + (0 + 1) = pre.length + i + 1 := by rw [List.length_append, List.length_take, List.length_drop]; omega
    simp only [dcT (show ((m + i : Nat) : Int) < (out.length : Int) by omega), cond_true, getI_lt hlt, Option.bind_some, List.length_cons, List.length_nil, hlen, room_ok (show pre.length + i + 1 ≤ 140737488355328 by omega) (show (pre.length + i + 1) * 24 ≤ 140737488355328 by omega), wrapS (show m + i < 9223372036854775807 by omega), Bool.and_true]
    rw [List.take_succ_eq_append_getElem hlt2, List.getElem_drop, List.append_assoc]
    rfl
  · unfold ref_TimesSorted_l3
    simp only [dcF (show ¬ ((m + (out.length - m) : Nat) : Int) < (out.length : Int) by omega), cond_false]
theorem l4_l2 : ref_TimesSorted_l4 = ref_TimesSorted_l2 := rfl
theorem l5_l3 : ref_TimesSorted_l5 = ref_TimesSorted_l3 := rfl

theorem ins_len (t : List Int) : ∀ out : List (List Int), (insT t out).length ≤ out.length + 1
  | [] => Nat.le_refl _
  | u :: l => by
    have := ins_len t l
    simp only [insT]
    split
    · simp only [List.length_cons]; omega
    · split <;> simp only [List.length_cons] <;> omega
theorem ins_mem {t v : List Int} : ∀ {out : List (List Int)}, v ∈ insT t out ↔ v = t ∨ v ∈ out
  | [] => by simp [insT]
  | u :: l => by
    have ih := ins_mem (t := t) (v := v) (out := l)
    simp only [insT]
    split
    · rw [List.mem_cons, ih, List.mem_cons]
      constructor
      · rintro (h | h | h)
        · exact .inr (.inl h)
        · exact .inl h
        · exact .inr (.inr h)
      · rintro (h | h | h)
        · exact .inr (.inl h)
        · exact .inl h
        · exact .inr (.inr h)
    · split
      · rename_i h
        rw [List.mem_cons, ← h]
        constructor
        · exact fun h => .inr h
        · rintro (h | h)
          · exact .inl h
          · exact h
      · rw [List.mem_cons]
theorem ins_up {t : List Int} : ∀ {out : List (List Int)}, out.Pairwise (fun a b => cmpL a b < 0) → (insT t out).Pairwise fun a b => cmpL a b < 0
  | [], _ => by simp [insT]
  | u :: l, h => by
    have h1 := List.pairwise_cons.1 h
    simp only [insT]
    split
    · rename_i hu
      rw [List.pairwise_cons]
      refine ⟨fun v hv => ?_, ins_up h1.2⟩
      rcases ins_mem.1 hv with rfl | hv
      · exact hu
      · exact h1.1 v hv
    · rename_i hu
      split
      · exact h
      · rename_i hne
        have htu : cmpL t u < 0 := by
          have h2 := cmpL_neg u t
          have h3 : cmpL u t ≠ 0 := fun e => hne (cmpL_eq.1 e)
          omega
        rw [List.pairwise_cons]
        refine ⟨fun v hv => ?_, h⟩
        rcases List.mem_cons.1 hv with rfl | hv
        · exact htu
        · exact cmpL_trans htu (h1.1 v hv)

def sortT (l : List (List Int)) : List (List Int) := l.foldl (fun out t => insT t out) []
theorem foldl_snoc (l : List (List Int)) (t : List Int) : sortT (l ++ [t]) = insT t (sortT l) := by
  unfold sortT; rw [List.foldl_append]; rfl
theorem sort_facts (l : List (List Int)) : (sortT l).length ≤ l.length ∧ (∀ v, v ∈ sortT l ↔ v ∈ l) ∧ (sortT l).Pairwise fun a b => cmpL a b < 0 := by
  have key : ∀ k, k ≤ l.length → (sortT (l.take k)).length ≤ k ∧ (∀ v, v ∈ sortT (l.take k) ↔ v ∈ l.take k) ∧ (sortT (l.take k)).Pairwise fun a b => cmpL a b < 0 := by
    intro k
    induction k with
    | zero => intro _; rw [List.take_zero]; exact ⟨Nat.le_refl _, fun v => Iff.rfl, List.Pairwise.nil⟩
    | succ k ih =>
      intro hk
      obtain ⟨h1, h2, h3⟩ := ih (by omega)
      rw [List.take_succ_eq_append_getElem (by omega), foldl_snoc]
      refine ⟨Nat.le_trans (ins_len _ _) (by omega), fun v => ?_, ins_up h3⟩
      rw [ins_mem, h2, List.mem_append, List.mem_singleton]
      exact Or.comm
  have := key l.length (Nat.le_refl _)
  rwa [List.take_length] at this

theorem ref_TimesSorted_eq {l : List (List Int)} (hl : l.length ≤ 100000) (d : Nat) (hf : ∀ t ∈ l, chk t = 0 ∧ t.length = d) : ref_TimesSorted (l, ()) = some (sortT l, ()) := by
  have key : loopM (ref_TimesSorted_l6 (l, ())) (([] : List (List Int)), (0 : Int), ()) = some (.inl (sortT l, ())) := by
    refine loopM_sim l.length (fun i => (sortT (l.take i), (i : Int), ())) _ (fun i hi => ?_) ?_ rfl
    · have hfi := hf l[i] (List.getElem_mem hi)
      obtain ⟨s1, s2, s3⟩ := sort_facts (l.take i)
      have hso : (sortT (l.take i)).length ≤ 100000 := by rw [List.length_take] at s1; omega
      have hok : ∀ u ∈ sortT (l.take i), chk u = 0 ∧ u.length = d := fun u hu => hf u (List.mem_of_mem_take ((s2 u).1 hu))
      have hless : ∀ u ∈ sortT (l.take i), lessB u l[i] = ltP l[i] u := fun u hu => by
        have := hok u hu
        rw [lessB_of (by omega) this.1 hfi.1]; rfl
      rw [List.take_succ_eq_append_getElem hi, foldl_snoc]
      generalize sortT (l.take i) = out at *
      unfold ref_TimesSorted_l6
      have hw := while_le (p := ltP l[i]) out
      have k1 := sorted_l1 (((i : Int), ())) (show out.length ≤ 1000000 by omega) hless
      have hsplit := ins_split l[i] out
      have htw := take_while (p := ltP l[i]) out
      have hdw := drop_while (p := ltP l[i]) out
      simp only [dcT (show (i : Int) < (l.length : Int) by omega), cond_true, getI_lt hi, Option.bind_some, k1, Sum.elim_inl, wrapS (show i < 9223372036854775807 by omega)]
      have hr : ∀ n : Nat, n ≤ 1000000 → roomOk (n + (0 + 1)) 24 = true := fun n hn => room_ok (by omega) (by omega)
      by_cases hat : (out.takeWhile (ltP l[i])).length < out.length
      · rw [List.drop_eq_getElem_cons hat] at hdw
        rw [← hdw] at hsplit
        simp only at hsplit
        have hlen : (out[(out.takeWhile (ltP l[i])).length]).length ≤ 1000000 := by
          have := (hok _ (List.getElem_mem hat)).1
          have := (chk_zero this).2.1
          omega
        simp only [dcT (show (((out.takeWhile (ltP l[i])).length : Nat) : Int) < (out.length : Int) by omega), cond_true, getI_lt hat, Option.bind_some, ref_TimesSame_eq hlen]
        by_cases he : out[(out.takeWhile (ltP l[i])).length] = l[i]
        · rw [if_pos he] at hsplit
          rw [decide_eq_true he, cond_true, hsplit]
        · rw [if_neg he] at hsplit
          rw [decide_eq_false he, cond_false, sorted_l2 _ hw (by omega), Option.bind_some, Sum.elim_inl]
          simp only [List.length_cons, List.length_nil]
          rw [hr _ (by rw [List.length_take]; omega)]
          simp only [Bool.and_true, cond_true]
          rw [sorted_l3 _ hw (by omega) (by rw [List.length_append, List.length_take]; simp only [List.length_cons, List.length_nil]; omega), Option.bind_some, Sum.elim_inl, hsplit, htw]
          rw [List.append_assoc, List.drop_eq_getElem_cons hat]
          rfl
      · have hd0 : out.drop (out.takeWhile (ltP l[i])).length = [] := List.drop_of_length_le (by omega)
        rw [hd0] at hdw
        rw [← hdw] at hsplit
        simp only at hsplit
        simp only [dcF (show ¬ (((out.takeWhile (ltP l[i])).length : Nat) : Int) < (out.length : Int) by omega), cond_false]
        rw [l4_l2, sorted_l2 _ hw (by omega), Option.bind_some, Sum.elim_inl]
        simp only [List.length_cons, List.length_nil]
        rw [hr _ (by rw [List.length_take]; omega)]
        simp only [Bool.and_true, cond_true]
        rw [l5_l3, sorted_l3 _ hw (by omega) (by rw [List.length_append, List.length_take]; simp only [List.length_cons, List.length_nil]; omega), Option.bind_some, Sum.elim_inl, hsplit, htw, hd0, List.append_nil]
    · unfold ref_TimesSorted_l6
      simp only [dcF (show ¬ (l.length : Int) < (l.length : Int) by omega), cond_false, List.take_length]
  unfold ref_TimesSorted
  rw [key]; rfl
end

section
open Go Go.Abs


/-! The document's sum. -/
def ofC (c : List Cn) (t : List Int) : Int := (c.map fun x => if x.1 = t then x.2.1 else 0).sum
theorem ofC_nil (t : List Int) : ofC [] t = 0 := rfl
theorem ofC_cons (x : Cn) (c : List Cn) (t : List Int) : ofC (x :: c) t = (if x.1 = t then x.2.1 else 0) + ofC c t := by
  unfold ofC; rw [List.map_cons, List.sum_cons]
theorem ofC_none {c : List Cn} {t : List Int} (h : ∀ x ∈ c, x.1 ≠ t) : ofC c t = 0 := by
  induction c with
  | nil => rfl
  | cons x c ih =>
    rw [ofC_cons, if_neg (h x (List.mem_cons_self ..)), ih fun y hy => h y (List.mem_cons_of_mem _ hy)]; rfl
theorem ofC_snoc (c : List Cn) (x : Cn) (t : List Int) : ofC (c ++ [x]) t = ofC c t + if x.1 = t then x.2.1 else 0 := by
  induction c with
  | nil => rw [List.nil_append, ofC_cons, ofC_nil]; omega
  | cons y c ih => rw [List.cons_append, ofC_cons, ofC_cons, ih]; omega
theorem ofC_le {c : List Cn} (h : okC c) (t : List Int) : -(c.length * 1099511627776 : Int) ≤ ofC c t ∧ ofC c t ≤ (c.length * 1099511627776 : Int) := by
  induction c with
  | nil => exact ⟨by rw [ofC_nil]; simp, by rw [ofC_nil]; simp⟩
  | cons x c ih =>
    have h1 := ih (okC_tail h)
    have h2 := okC_head h
    rw [ofC_cons, List.length_cons]
    split <;> omega

theorem ref_TimesAll_eq {a b : List (List Int)} (ha : a.length ≤ 1000) (hb : b.length ≤ 1000) : ref_TimesAll (a, b, ()) = some (a ++ b, ()) := by
  have k1 : loopM (ref_TimesAll_l1 (a, b, ())) (([] : List (List Int)), (0 : Int), ()) = some (.inl (a, ())) := by
    refine loopM_sim a.length (fun i => (a.take i, (i : Int), ())) _ (fun i hi => ?_) ?_ rfl
    · unfold ref_TimesAll_l1
      have hlen : (a.take i).length + (0 + 1) = i + 1 := by rw [List.length_take]; omega
      simp only [dcT (show (i : Int) < (a.length : Int) by omega), cond_true, getI_lt hi, Option.bind_some, List.length_cons, List.length_nil, hlen, room_ok (show i + 1 ≤ 140737488355328 by omega) (show (i + 1) * 24 ≤ 140737488355328 by omega), wrapS (show i < 9223372036854775807 by omega), Bool.and_true]
      rw [List.take_succ_eq_append_getElem hi]
    · unfold ref_TimesAll_l1
      simp only [dcF (show ¬ (a.length : Int) < (a.length : Int) by omega), cond_false, List.take_length]
  have k2 : loopM (ref_TimesAll_l2 (a, b, ())) (a, (0 : Int), ()) = some (.inl (a ++ b, ())) := by
    refine loopM_sim b.length (fun i => (a ++ b.take i, (i : Int), ())) _ (fun i hi => ?_) ?_ (by simp)
    · unfold ref_TimesAll_l2
      have hlen : (a ++ b.take i).length + (0 + 1) = a.length + i + 1 := by rw [List.length_append, List.length_take]; omega
      simp only [dcT (show (i : Int) < (b.length : Int) by omega), cond_true, getI_lt hi, Option.bind_some, List.length_cons, List.length_nil, hlen, room_ok (show a.length + i + 1 ≤ 140737488355328 by omega) (show (a.length + i + 1) * 24 ≤ 140737488355328 by omega), wrapS (show i < 9223372036854775807 by omega), Bool.and_true]
      rw [List.take_succ_eq_append_getElem hi, List.append_assoc]
    · unfold ref_TimesAll_l2
      simp only [dcF (show ¬ (b.length : Int) < (b.length : Int) by omega), cond_false, List.take_length]
  unfold ref_TimesAll
  rw [k1, Option.bind_some, Sum.elim_inl, k2]; rfl

/-! The two are one. -/
def up (l : List (List Int)) : Prop := l.Pairwise fun a b => cmpL a b < 0
theorem up_same : ∀ {l m : List (List Int)}, up l → up m → (∀ t, t ∈ l ↔ t ∈ m) → l = m
  | [], [], _, _, _ => rfl
  | [], b :: m, _, _, h => absurd ((h b).2 (List.mem_cons_self ..)) (by simp)
  | a :: l, [], _, _, h => absurd ((h a).1 (List.mem_cons_self ..)) (by simp)
  | a :: l, b :: m, h1, h2, h => by
    have p1 := List.pairwise_cons.1 h1
    have p2 := List.pairwise_cons.1 h2
    have hab : a = b := by
      rcases List.mem_cons.1 ((h a).1 (List.mem_cons_self ..)) with e | ha
      · exact e
      · rcases List.mem_cons.1 ((h b).2 (List.mem_cons_self ..)) with e | hb
        · exact e.symm
        · exact absurd (cmpL_trans (p2.1 a ha) (p1.1 b hb)) (cmpL_irr b)
    subst hab
    rw [up_same p1.2 p2.2 fun t => ?_]
    constructor
    · intro ht
      rcases List.mem_cons.1 ((h t).1 (List.mem_cons_of_mem _ ht)) with e | ht'
      · exact absurd (p1.1 t ht) (e ▸ cmpL_irr _)
      · exact ht'
    · intro ht
      rcases List.mem_cons.1 ((h t).2 (List.mem_cons_of_mem _ ht)) with e | ht'
      · exact absurd (p2.1 t ht) (e ▸ cmpL_irr _)
      · exact ht'

theorem merge_mem : ∀ (c d : List Cn) (t : List Int), t ∈ (mergeM c d).map (·.1) ↔ t ∈ c.map (·.1) ∨ t ∈ d.map (·.1)
  | [], d, t => by rw [mergeM_nil]; simp
  | x :: c, [], t => by rw [mergeM_nil2]; simp
  | x :: c, y :: d, t => by
    rw [mergeM]
    split
    · rw [List.map_cons, List.mem_cons, merge_mem c (y :: d) t]; simp only [List.map_cons, List.mem_cons, or_assoc]
    · split
      · rw [List.map_cons, List.mem_cons, merge_mem (x :: c) d t, List.map_cons (l := d), List.mem_cons]
        exact or_left_comm
      · rename_i h1 h2
        have he : x.1 = y.1 := cmpL_eq.1 (by omega)
        rw [List.map_cons, List.mem_cons, merge_mem c d t, List.map_cons, List.mem_cons, List.map_cons, List.mem_cons, ← he]
        constructor
        · rintro (h | h | h)
          · exact .inl (.inl h)
          · exact .inl (.inr h)
          · exact .inr (.inr h)
        · rintro ((h | h) | h | h)
          · exact .inl h
          · exact .inr (.inl h)
          · exact .inl h
          · exact .inr (.inr h)
termination_by c d => c.length + d.length

theorem up_tail {x : Cn} {c : List Cn} (h : up ((x :: c).map (·.1))) : up (c.map (·.1)) := (List.pairwise_cons.1 (by rw [List.map_cons] at h; exact h)).2
theorem up_head {x : Cn} {c : List Cn} (h : up ((x :: c).map (·.1))) {t : List Int} (ht : t ∈ c.map (·.1)) : cmpL x.1 t < 0 := (List.pairwise_cons.1 (by rw [List.map_cons] at h; exact h)).1 t ht

theorem merge_up : ∀ (c d : List Cn), up (c.map (·.1)) → up (d.map (·.1)) → up ((mergeM c d).map (·.1))
  | [], d, _, h => by rw [mergeM_nil]; exact h
  | x :: c, [], h, _ => by rw [mergeM_nil2]; exact h
  | x :: c, y :: d, h1, h2 => by
    rw [mergeM]
    split
    · rename_i hlt
      rw [List.map_cons]
      refine List.pairwise_cons.2 ⟨fun t ht => ?_, merge_up c (y :: d) (up_tail h1) h2⟩
      rcases (merge_mem c (y :: d) t).1 ht with h | h
      · exact up_head h1 h
      · rw [List.map_cons] at h
        rcases List.mem_cons.1 h with rfl | h
        · exact hlt
        · exact cmpL_trans hlt (up_head h2 h)
    · split
      · rename_i _ hgt
        have hyx : cmpL y.1 x.1 < 0 := by rw [cmpL_neg]; omega
        rw [List.map_cons]
        refine List.pairwise_cons.2 ⟨fun t ht => ?_, merge_up (x :: c) d h1 (up_tail h2)⟩
        rcases (merge_mem (x :: c) d t).1 ht with h | h
        · rw [List.map_cons] at h
          rcases List.mem_cons.1 h with rfl | h
          · exact hyx
          · exact cmpL_trans hyx (up_head h1 h)
        · exact up_head h2 h
      · rename_i n1 n2
        have he : x.1 = y.1 := cmpL_eq.1 (by omega)
        rw [List.map_cons]
        refine List.pairwise_cons.2 ⟨fun t ht => ?_, merge_up c d (up_tail h1) (up_tail h2)⟩
        rcases (merge_mem c d t).1 ht with h | h
        · exact up_head h1 h
        · have := up_head h2 h
          rw [← he] at this
          exact this
termination_by c d => c.length + d.length

theorem not_head {x : Cn} {c : List Cn} (h : up ((x :: c).map (·.1))) : ∀ z ∈ c, z.1 ≠ x.1 := fun z hz e => by
  have := up_head h (List.mem_map.2 ⟨z, hz, rfl⟩)
  rw [e] at this
  exact cmpL_irr _ this
theorem not_below {y : Cn} {d : List Cn} {t : List Int} (h : up ((y :: d).map (·.1))) (ht : cmpL t y.1 < 0) : ∀ z ∈ y :: d, z.1 ≠ t := fun z hz e => by
  rcases List.mem_cons.1 hz with rfl | hz
  · rw [e] at ht; exact cmpL_irr _ ht
  · have := cmpL_trans ht (up_head h (List.mem_map.2 ⟨z, hz, rfl⟩))
    rw [e] at this
    exact cmpL_irr _ this

theorem merge_val : ∀ (c d : List Cn), up (c.map (·.1)) → up (d.map (·.1)) → ∀ z ∈ mergeM c d, z.2.1 = ofC c z.1 + ofC d z.1
  | [], d, _, h => by
    rw [mergeM_nil]
    intro z hz
    rw [ofC_nil, Int.zero_add]
    induction d with
    | nil => cases hz
    | cons y d ih =>
      rw [ofC_cons]
      rcases List.mem_cons.1 hz with rfl | hz
      · rw [if_pos rfl, ofC_none (not_head h), Int.add_zero]
      · rw [if_neg (fun e => not_head h z hz e.symm), Int.zero_add]; exact ih (up_tail h) hz
  | x :: c, [], h, _ => by
    rw [mergeM_nil2]
    intro z hz
    rw [ofC_nil, Int.add_zero]
    generalize x :: c = l at *
    induction l with
    | nil => cases hz
    | cons y d ih =>
      rw [ofC_cons]
      rcases List.mem_cons.1 hz with rfl | hz
      · rw [if_pos rfl, ofC_none (not_head h), Int.add_zero]
      · rw [if_neg (fun e => not_head h z hz e.symm), Int.zero_add]; exact ih (up_tail h) hz
  | x :: c, y :: d, h1, h2 => by
    rw [mergeM]
    split
    · rename_i hlt
      intro z hz
      rcases List.mem_cons.1 hz with rfl | hz
      · rw [ofC_cons, if_pos rfl, ofC_none (not_head h1), ofC_none (not_below h2 hlt)]; omega
      · have hk := (merge_mem c (y :: d) z.1).1 (List.mem_map.2 ⟨z, hz, rfl⟩)
        have hne : x.1 ≠ z.1 := fun e => by
          rcases hk with h | h
          · have := up_head h1 h; rw [e] at this; exact cmpL_irr _ this
          · obtain ⟨w, hw, hwe⟩ := List.mem_map.1 h
            exact not_below h2 hlt w hw (hwe.trans e.symm)
        rw [merge_val c (y :: d) (up_tail h1) h2 z hz, ofC_cons x, if_neg hne]; omega
    · split
      · rename_i _ hgt
        have hyx : cmpL y.1 x.1 < 0 := by rw [cmpL_neg]; omega
        intro z hz
        rcases List.mem_cons.1 hz with rfl | hz
        · rw [ofC_cons z, if_pos rfl, ofC_none (not_head h2), ofC_none (not_below h1 hyx)]; omega
        · have hk := (merge_mem (x :: c) d z.1).1 (List.mem_map.2 ⟨z, hz, rfl⟩)
          have hne : y.1 ≠ z.1 := fun e => by
            rcases hk with h | h
            · obtain ⟨w, hw, hwe⟩ := List.mem_map.1 h
              exact not_below h1 hyx w hw (hwe.trans e.symm)
            · have := up_head h2 h; rw [e] at this; exact cmpL_irr _ this
          rw [merge_val (x :: c) d h1 (up_tail h2) z hz, ofC_cons y, if_neg hne]; omega
      · rename_i n1 n2
        have he : x.1 = y.1 := cmpL_eq.1 (by omega)
        intro z hz
        rcases List.mem_cons.1 hz with rfl | hz
        · simp only
          rw [ofC_cons, if_pos rfl, ofC_cons, if_pos he.symm, ofC_none (not_head h1), he, ofC_none (not_head h2)]; omega
        · have hk := (merge_mem c d z.1).1 (List.mem_map.2 ⟨z, hz, rfl⟩)
          have hne : x.1 ≠ z.1 := fun e => by
            rcases hk with h | h
            · have := up_head h1 h; rw [e] at this; exact cmpL_irr _ this
            · have := up_head h2 h; rw [← he, e] at this; exact cmpL_irr _ this
          rw [merge_val c d (up_tail h1) (up_tail h2) z hz, ofC_cons x, if_neg hne, ofC_cons y, if_neg (he ▸ hne)]; omega
termination_by c d => c.length + d.length

theorem merge_is {c d : List Cn} (h1 : up (c.map (·.1))) (h2 : up (d.map (·.1))) : mergeM c d = (sortT (c.map (·.1) ++ d.map (·.1))).map fun t => (t, ofC c t + ofC d t, ()) := by
  have hk : (mergeM c d).map (·.1) = sortT (c.map (·.1) ++ d.map (·.1)) := by
    obtain ⟨s1, s2, s3⟩ := sort_facts (c.map (·.1) ++ d.map (·.1))
    refine up_same (merge_up c d h1 h2) s3 fun t => ?_
    rw [merge_mem, s2, List.mem_append]
  rw [← hk, List.map_map]
  have := List.map_congr_left (l := mergeM c d) (f := id) (g := (fun t => ((t, ofC c t + ofC d t, ()) : Cn)) ∘ fun x => x.1) fun z hz => by
    have := merge_val c d h1 h2 z hz
    show z = (z.1, ofC c z.1 + ofC d z.1, ())
    rw [← this]
  rw [← this, List.map_id]

theorem emit_len (M : List Cn) : ∀ acc : List Cn, (emit acc M).1.length ≤ 64 := by
  induction M with
  | nil =>
    intro acc
    unfold emit
    split
    · exact Nat.zero_le _
    · show acc.length ≤ 64; omega
  | cons x M ih =>
    intro acc
    unfold emit
    split
    · exact Nat.zero_le _
    · exact ih _
theorem emit_ok {M : List Cn} (hM : ∀ x ∈ M, x.1.length ≤ 4) : ∀ acc : List Cn, (∀ x ∈ acc, x.1.length ≤ 4) → ∀ x ∈ (emit acc M).1, x.1.length ≤ 4 := by
  induction M with
  | nil =>
    intro acc ha
    unfold emit
    split
    · intro x hx; cases hx
    · exact ha
  | cons y M ih =>
    intro acc ha
    unfold emit
    split
    · intro x hx; cases hx
    · refine ih (fun x hx => hM x (List.mem_cons_of_mem _ hx)) _ ?_
      split
      · exact ha
      · intro x hx
        rcases List.mem_append.1 hx with h | h
        · exact ha x h
        · rw [List.mem_singleton] at h; subst h; exact hM x (List.mem_cons_self ..)
end

section
open Go Go.Abs


/-! Fronts of times. -/
def underL : List Int → List Int → Bool
  | a :: r, b :: s => decide (a ≤ b) && underL r s
  | _, _ => true
theorem under_refl : ∀ a : List Int, underL a a = true
  | [] => rfl
  | a :: r => by simp [underL, under_refl r]
theorem under_trans : ∀ {a b c : List Int}, a.length = b.length → b.length = c.length → underL a b = true → underL b c = true → underL a c = true
  | [], _, _, _, _, _, _ => rfl
  | a :: r, [], _, h, _, _, _ => by simp at h
  | a :: r, b :: s, [], _, h, _, _ => by simp at h
  | a :: r, b :: s, c :: t, h1, h2, h3, h4 => by
    simp only [underL, Bool.and_eq_true, decide_eq_true_eq, List.length_cons] at *
    exact ⟨by omega, under_trans (by omega) (by omega) h3.2 h4.2⟩
theorem under_cmp : ∀ {a b : List Int}, a.length = b.length → underL a b = true → a = b ∨ (cmpL a b < 0 ∧ a.sum < b.sum)
  | [], [], _, _ => .inl rfl
  | [], _ :: _, h, _ => by simp at h
  | _ :: _, [], h, _ => by simp at h
  | a :: r, b :: s, h, hu => by
    simp only [underL, Bool.and_eq_true, decide_eq_true_eq, List.length_cons] at *
    simp only [cmpL, List.sum_cons]
    rcases under_cmp (a := r) (b := s) (by omega) hu.2 with e | ⟨h1, h2⟩
    · subst e
      by_cases hab : a = b
      · left; rw [hab]
      · right; rw [if_pos (by omega)]; exact ⟨by decide, by omega⟩
    · right
      by_cases hab : a < b
      · rw [if_pos hab]; exact ⟨by decide, by omega⟩
      · rw [if_neg hab, if_neg (by omega)]; exact ⟨h1, by omega⟩

theorem times_Under_eq {a b : List Int} (hl : a.length = b.length) (ha : a.length ≤ 1000000) : times_Under (a, b, ()) = some (underL a b, ()) := by
  have key : ∀ k i, i + k = a.length → (loopM (times_Under_l1 (a, b, ())) ((i : Int), ())).bind (Sum.elim (fun z4 => (some z4)) (Sum.elim (fun z5 => (some (true, ()))) Empty.elim)) = some (underL (a.drop i) (b.drop i), ()) := by
    intro k
    induction k with
    | zero =>
      intro i hi
      rw [loopM_inr (b := .inr (.inl ())) (by
        unfold times_Under_l1
        simp only [dcF (show ¬ (i : Int) < (a.length : Int) by omega), cond_false])]
      rw [List.drop_of_length_le (by omega), List.drop_of_length_le (by omega)]; rfl
    | succ k ih =>
      intro i hi
      have hia : i < a.length := by omega
      have hib : i < b.length := by omega
      have hst : times_Under_l1 (a, b, ()) ((i : Int), ()) = cond (decide (a[i] > b[i])) (some (.inr (.inl (false, ())))) (some (.inl (((i + 1 : Nat) : Int), ()))) := by
        unfold times_Under_l1
        simp only [dcT (show (i : Int) < (a.length : Int) by omega), cond_true, getI_lt hia, getI_lt hib, Option.bind_some, wrapS (show i < 9223372036854775807 by omega)]
      rw [List.drop_eq_getElem_cons hia, List.drop_eq_getElem_cons hib]
      by_cases he : a[i] ≤ b[i]
      · rw [dcF (show ¬ a[i] > b[i] by omega), cond_false] at hst
        rw [loopM_inl hst, ih (i + 1) (by omega)]
        simp only [underL, decide_eq_true he, Bool.true_and]
      · rw [dcT (show a[i] > b[i] by omega), cond_true] at hst
        rw [loopM_inr hst]
        simp only [underL, decide_eq_false he, Bool.false_and]; rfl
  unfold times_Under
  exact key a.length 0 (by omega)

def leB (a b : List Int) : Bool := decide (a.length = b.length) && (decide (chk a = 0) && (decide (chk b = 0) && underL a b))
theorem leB_of {a b : List Int} (h : a.length = b.length) (ha : chk a = 0) (hb : chk b = 0) : leB a b = underL a b := by
  unfold leB
  rw [decide_eq_true h, decide_eq_true ha, decide_eq_true hb]; rfl
theorem times_Leq_eq (a b : List Int) : times_Leq (a, b, ()) = some (leB a b, ()) := by
  unfold times_Leq leB
  simp only [times_alike_eq, Option.bind_some]
  by_cases h : a.length = b.length
  · by_cases h2 : chk a = 0
    · by_cases h3 : chk b = 0
      · rw [times_Under_eq h (by have := (chk_zero h2).2.1; omega)]
        simp only [h, h2, h3, decide_true, Bool.and_self, cond_true, Option.bind_some, Bool.true_and]
      · simp only [h3, decide_false, Bool.and_false, cond_false, Bool.false_and]
    · simp only [h2, decide_false, Bool.and_false, Bool.false_and, cond_false]
  · simp only [h, decide_false, Bool.false_and, cond_false]
theorem ref_TimesLeq_eq (a b : List Int) : ref_TimesLeq (a, b, ()) = some (leB a b, ()) := by
  unfold ref_TimesLeq leB
  simp only [ref_TimesCheck_eq, Option.bind_some, cond_bne]
  by_cases h : a.length = b.length
  · rw [if_pos (by omega), decide_eq_true h]
    by_cases h2 : chk a = 0
    · rw [if_pos h2, decide_eq_true h2]
      by_cases h3 : chk b = 0
      · rw [if_pos h3, decide_eq_true h3]
        have h4 := (chk_zero h2).2.1
        have key : ∀ k i, i + k = a.length → (loopM (ref_TimesLeq_l1 (a, b, ())) ((i : Int), ())).bind (Sum.elim (fun z6 => (some z6)) (Sum.elim (fun z7 => (some (true, ()))) Empty.elim)) = some (underL (a.drop i) (b.drop i), ()) := by
          intro k
          induction k with
          | zero =>
            intro i hi
            rw [loopM_inr (b := .inr (.inl ())) (by
              unfold ref_TimesLeq_l1
              simp only [dcF (show ¬ (i : Int) < (a.length : Int) by omega), cond_false])]
            rw [List.drop_of_length_le (by omega), List.drop_of_length_le (by omega)]; rfl
          | succ k ih =>
            intro i hi
            have hia : i < a.length := by omega
            have hib : i < b.length := by omega
            have hst : ref_TimesLeq_l1 (a, b, ()) ((i : Int), ()) = cond (decide (a[i] > b[i])) (some (.inr (.inl (false, ())))) (some (.inl (((i + 1 : Nat) : Int), ()))) := by
              unfold ref_TimesLeq_l1
              simp only [dcT (show (i : Int) < (a.length : Int) by omega), cond_true, getI_lt hia, getI_lt hib, Option.bind_some, wrapS (show i < 9223372036854775807 by omega)]
            rw [List.drop_eq_getElem_cons hia, List.drop_eq_getElem_cons hib]
            by_cases he : a[i] ≤ b[i]
            · rw [dcF (show ¬ a[i] > b[i] by omega), cond_false] at hst
              rw [loopM_inl hst, ih (i + 1) (by omega)]
              simp only [underL, decide_eq_true he, Bool.true_and]
            · rw [dcT (show a[i] > b[i] by omega), cond_true] at hst
              rw [loopM_inr hst]
              simp only [underL, decide_eq_false he, Bool.false_and]; rfl
        exact key a.length 0 (by omega)
      · rw [if_neg h3, decide_eq_false h3]; rfl
    · rw [if_neg h2, decide_eq_false h2]; rfl
  · rw [if_neg (by omega), decide_eq_false h]; rfl

theorem times_Open_eq {l : List (List Int)} (t : List Int) (hl : l.length ≤ 9223372036854775806) : times_Open (l, t, ()) = some (l.any fun u => leB u t, ()) := by
  have k := loopM_exit (f := times_Open_l1 (l, t, ())) l.length (fun i => ((i : Int), ())) (fun i => cond (leB (l.getD i []) t) (some ((i : Int), ())) none) (.inl ()) (fun i hi => by
    unfold times_Open_l1
    simp only [dcT (show (i : Int) < (l.length : Int) by omega), cond_true, getI_D [] (Int.natCast_nonneg i) (show (i : Int) < (l.length : Int) by omega), Int.toNat_natCast, Option.bind_some, times_Leq_eq]
    rw [wrapS (by omega)]
    cases leB (l.getD i []) t <;> rfl) (by
    unfold times_Open_l1
    simp only [dcF (show ¬ (l.length : Int) < (l.length : Int) by omega), cond_false]) (s0 := ((0 : Int), ())) rfl
  rw [find_map (fun i => leB (l.getD i []) t) fun i => ((i : Int), ())] at k
  have hany : (l.any fun u => leB u t) = ((List.range l.length).find? fun i => leB (l.getD i []) t).isSome := by
    rw [Bool.eq_iff_iff, List.any_eq_true, List.find?_isSome]
    constructor
    · rintro ⟨u, hu, h⟩
      obtain ⟨i, hi, rfl⟩ := List.mem_iff_getElem.1 hu
      exact ⟨i, List.mem_range.2 hi, by rw [List.getD_eq_getElem?_getD, List.getElem?_eq_getElem hi]; exact h⟩
    · rintro ⟨i, hi, h⟩
      have hi := List.mem_range.1 hi
      rw [List.getD_eq_getElem?_getD, List.getElem?_eq_getElem hi] at h
      exact ⟨l[i], List.getElem_mem hi, h⟩
  unfold times_Open
  rw [k, hany]
  cases (List.range l.length).find? fun i => leB (l.getD i []) t with
  | none => rfl
  | some i => simp only [Option.map_some, exitOr_some, Option.bind_some, Sum.elim_inl, dcT (show (i : Int) ≥ 0 by omega)]; rfl
theorem ref_TimesOpen_eq {l : List (List Int)} (t : List Int) (hl : l.length ≤ 9223372036854775806) : ref_TimesOpen (l, t, ()) = some (l.any fun u => leB u t, ()) := by
  have k := loopM_exit (f := ref_TimesOpen_l1 (l, t, ())) l.length (fun i => ((i : Int), ())) (fun i => cond (leB (l.getD i []) t) (some (true, ())) none) (.inl ()) (fun i hi => by
    unfold ref_TimesOpen_l1
    simp only [dcT (show (i : Int) < (l.length : Int) by omega), cond_true, getI_D [] (Int.natCast_nonneg i) (show (i : Int) < (l.length : Int) by omega), Int.toNat_natCast, Option.bind_some, ref_TimesLeq_eq]
    rw [wrapS (by omega)]
    cases leB (l.getD i []) t <;> rfl) (by
    unfold ref_TimesOpen_l1
    simp only [dcF (show ¬ (l.length : Int) < (l.length : Int) by omega), cond_false]) (s0 := ((0 : Int), ())) rfl
  rw [find_const] at k
  have hany : (l.any fun u => leB u t) = (List.range l.length).any fun i => leB (l.getD i []) t := by
    rw [Bool.eq_iff_iff, List.any_eq_true, List.any_eq_true]
    constructor
    · rintro ⟨u, hu, h⟩
      obtain ⟨i, hi, rfl⟩ := List.mem_iff_getElem.1 hu
      exact ⟨i, List.mem_range.2 hi, by rw [List.getD_eq_getElem?_getD, List.getElem?_eq_getElem hi]; exact h⟩
    · rintro ⟨i, hi, h⟩
      have hi := List.mem_range.1 hi
      rw [List.getD_eq_getElem?_getD, List.getElem?_eq_getElem hi] at h
      exact ⟨l[i], List.getElem_mem hi, h⟩
  unfold ref_TimesOpen
  rw [k, hany]
  cases (List.range l.length).any fun i => leB (l.getD i []) t <;> rfl
end

end Go.Proofs.Try
