/- Lemmas on functions of the program, by name: minv. -/
import Derived.Test.YthohigdbddilmaaDoorD2Funs
import Derived.Test.YthohigdbddilmaaDoorAbsSums
import Derived.Test.YthohigdbddilmaaDoorD2LibMtable
import Derived.Test.YthohigdbddilmaaDoorD2LibSortf
namespace Go.Proofs.Tryd
open Go Go.Abs


/-! The inverse of a table, by rows and by columns, in whole numbers. -/
/-- By rows: what stands above first; 'm': as many steps. -/
def rowI (n : Nat) (ws : List Nat) (f : List Int) : Nat → Nat → Nat → Int
  | 0, a, b => if a = b then ent n f a a else 0
  | m + 1, a, b => if a = b then ent n f a a else - (ent n f a a * sumI n fun k => if under ws a k = true then ent n f a k * rowI n ws f m k b else 0)
def colI (n : Nat) (ws : List Nat) (f : List Int) : Nat → Nat → Nat → Int
  | 0, a, b => if a = b then ent n f a a else 0
  | m + 1, a, b => if a = b then ent n f a a else - (sumI n fun k => if under ws k b = true then colI n ws f m a k * ent n f k b else 0) * ent n f b b
def G1 (n : Nat) (ws : List Nat) (f : List Int) (a b : Nat) : Int := rowI n ws f n a b
def G2 (n : Nat) (ws : List Nat) (f : List Int) (a b : Nat) : Int := colI n ws f n a b

theorem under_not {n : Nat} {ws : List Nat} (o : IsOrder n ws) {a k b : Nat} (ha : a < n) (hk : k < n) (hb : b < n) (h : under ws a k = true) (hn : below ws a b = false) : below ws k b = false := by
  cases hkb : below ws k b
  · rfl
  · have := o.trans a k b ha hk hb (under_iff.1 h).2 hkb
    rw [hn] at this; cases this
theorem not_under {n : Nat} {ws : List Nat} (o : IsOrder n ws) {a k b : Nat} (ha : a < n) (hk : k < n) (hb : b < n) (h : under ws k b = true) (hn : below ws a b = false) : below ws a k = false := by
  cases hak : below ws a k
  · rfl
  · have := o.trans a k b ha hk hb hak (under_iff.1 h).2
    rw [hn] at this; cases this
theorem sumI_none {n : Nat} {f : Nat → Int} (h : ∀ i, i < n → f i = 0) : sumI n f = 0 := (sumI_congr h).trans (sumI_zero n)

theorem rowI_off {n : Nat} {ws : List Nat} (o : IsOrder n ws) (f : List Int) : ∀ m a b, a < n → b < n → below ws a b = false → rowI n ws f m a b = 0
  | m, a, b, ha, hb, h => by
    have hne : a ≠ b := fun e => by subst e; rw [o.refl a ha] at h; cases h
    cases m with
    | zero => rw [rowI, if_neg hne]
    | succ m =>
      rw [rowI, if_neg hne, sumI_none fun k hk => ?_]
      · simp
      · split
        · rename_i hu
          rw [rowI_off o f m k b hk hb (under_not o ha hk hb hu h), Int.mul_zero]
        · rfl
theorem colI_off {n : Nat} {ws : List Nat} (o : IsOrder n ws) (f : List Int) : ∀ m a b, a < n → b < n → below ws a b = false → colI n ws f m a b = 0
  | m, a, b, ha, hb, h => by
    have hne : a ≠ b := fun e => by subst e; rw [o.refl a ha] at h; cases h
    cases m with
    | zero => rw [colI, if_neg hne]
    | succ m =>
      rw [colI, if_neg hne, sumI_none fun k hk => ?_]
      · simp
      · split
        · rename_i hu
          rw [colI_off o f m a k ha hk (not_under o ha hk hb hu h), Int.zero_mul]
        · rfl
theorem cnt_lt' {n : Nat} {ws : List Nat} (o : IsOrder n ws) {k b : Nat} (hk : k < n) (hb : b < n) (h : under ws k b = true) : cntB n (fun i => under ws i k) < cntB n (fun i => under ws i b) :=
  cntB_lt (fun i hi hik => under_trans o hi hk hb hik h) ⟨k, hk, h, by unfold under; simp⟩
theorem rowI_stop {n : Nat} {ws : List Nat} (o : IsOrder n ws) (f : List Int) : ∀ m a b, a < n → cntB n (under ws a) ≤ m → rowI n ws f m a b = rowI n ws f (m + 1) a b
  | 0, a, b, ha, h => by
    by_cases e : a = b
    · rw [rowI, rowI, if_pos e, if_pos e]
    · rw [rowI, rowI, if_neg e, if_neg e, sumI_none fun k hk => ?_]
      · simp
      · split
        · rename_i hu
          have := cnt_lt o ha hk hu
          omega
        · rfl
  | m + 1, a, b, ha, h => by
    by_cases e : a = b
    · rw [rowI, rowI, if_pos e, if_pos e]
    · rw [rowI, rowI, if_neg e, if_neg e]
      congr 2
      refine sumI_congr fun k hk => ?_
      split
      · rename_i hu
        have := cnt_lt o ha hk hu
        rw [rowI_stop o f m k b hk (by omega)]
      · rfl
theorem colI_stop {n : Nat} {ws : List Nat} (o : IsOrder n ws) (f : List Int) : ∀ m a b, b < n → cntB n (fun i => under ws i b) ≤ m → colI n ws f m a b = colI n ws f (m + 1) a b
  | 0, a, b, hb, h => by
    by_cases e : a = b
    · rw [colI, colI, if_pos e, if_pos e]
    · rw [colI, colI, if_neg e, if_neg e, sumI_none fun k hk => ?_]
      · simp
      · split
        · rename_i hu
          have := cnt_lt' o hk hb hu
          omega
        · rfl
  | m + 1, a, b, hb, h => by
    by_cases e : a = b
    · rw [colI, colI, if_pos e, if_pos e]
    · rw [colI, colI, if_neg e, if_neg e]
      congr 2
      refine sumI_congr fun k hk => ?_
      split
      · rename_i hu
        have := cnt_lt' o hk hb hu
        rw [colI_stop o f m a k hk (by omega)]
      · rfl
theorem G1_fix {n : Nat} {ws : List Nat} (o : IsOrder n ws) (f : List Int) {a b : Nat} (ha : a < n) : G1 n ws f a b = if a = b then ent n f a a else - (ent n f a a * sumI n fun k => if under ws a k = true then ent n f a k * G1 n ws f k b else 0) := by
  have := rowI_stop o f n a b ha (cntB_le _ n)
  rw [rowI] at this
  exact this
theorem G2_fix {n : Nat} {ws : List Nat} (o : IsOrder n ws) (f : List Int) {a b : Nat} (hb : b < n) : G2 n ws f a b = if a = b then ent n f a a else - (sumI n fun k => if under ws k b = true then G2 n ws f a k * ent n f k b else 0) * ent n f b b := by
  have := colI_stop o f n a b hb (cntB_le _ n)
  rw [colI] at this
  exact this
theorem G1_off {n : Nat} {ws : List Nat} (o : IsOrder n ws) (f : List Int) {a b : Nat} (ha : a < n) (hb : b < n) (h : below ws a b = false) : G1 n ws f a b = 0 := rowI_off o f n a b ha hb h
theorem G2_off {n : Nat} {ws : List Nat} (o : IsOrder n ws) (f : List Int) {a b : Nat} (ha : a < n) (hb : b < n) (h : below ws a b = false) : G2 n ws f a b = 0 := colI_off o f n a b ha hb h
/-- A table's own entries stand at or above the diagonal. -/
theorem ent_cases {n : Nat} {ws : List Nat} {f : List Int} (t : IsTab n ws f) {a k : Nat} (ha : a < n) (hk : k < n) : ent n f a k = if a = k then ent n f a a else if under ws a k = true then ent n f a k else 0 := by
  by_cases e : a = k
  · subst e; rw [if_pos rfl]
  · rw [if_neg e]
    cases hu : under ws a k
    · rw [if_neg (by decide)]
      refine t.2 a k ha hk ?_
      cases hb : below ws a k
      · rfl
      · rw [under_iff.2 ⟨e, hb⟩] at hu; cases hu
    · rw [if_pos rfl]
def unit1 (v : Int) : Bool := decide (v = 1) || decide (v = -1)
theorem unit_sq {v : Int} (h : unit1 v = true) : v * v = 1 := by
  unfold unit1 at h
  rw [Bool.or_eq_true, decide_eq_true_eq, decide_eq_true_eq] at h
  rcases h with rfl | rfl <;> rfl
theorem sum_pick {n a : Nat} (ha : a < n) (x : Int) (g : Nat → Int) (hg : g a = 0) : sumI n (fun k => (if k = a then x else g k)) = x + sumI n g := by
  have e : ∀ k, (if k = a then x else g k) = (if k = a then x else 0) + g k := fun k => by
    by_cases h : k = a
    · subst h; rw [if_pos rfl, if_pos rfl, hg, Int.add_zero]
    · rw [if_neg h, if_neg h, Int.zero_add]
  rw [sumI_congr fun k _ => e k, sumI_add, sumI_one (fun _ => x), if_pos ha]
theorem row_inv {n : Nat} {ws : List Nat} (o : IsOrder n ws) {f : List Int} (t : IsTab n ws f) (hd : ∀ a, a < n → unit1 (ent n f a a) = true) {a b : Nat} (ha : a < n) (hb : b < n) :
    sumI n (fun k => ent n f a k * G1 n ws f k b) = if a = b then 1 else 0 := by
  have e : ∀ k, k < n → ent n f a k * G1 n ws f k b = if k = a then ent n f a a * G1 n ws f a b else (if under ws a k = true then ent n f a k * G1 n ws f k b else 0) := fun k hk => by
    by_cases h : k = a
    · subst h; rw [if_pos rfl]
    · rw [if_neg h]
      have h2 := ent_cases t ha hk
      rw [if_neg (Ne.symm h)] at h2
      split
      · rfl
      · rename_i hu
        rw [if_neg hu] at h2
        rw [h2, Int.zero_mul]
  rw [sumI_congr e, sum_pick ha _ (fun k => if under ws a k = true then ent n f a k * G1 n ws f k b else 0) (if_neg (by unfold under; simp))]
  have hu := unit_sq (hd a ha)
  by_cases h : a = b
  · subst h
    rw [if_pos rfl, G1_fix o f ha, if_pos rfl, hu, sumI_none fun k hk => ?_]
    · rfl
    · split
      · rename_i hak
        have : below ws k a = false := o.anti a k ha hk (under_iff.1 hak).1 (under_iff.1 hak).2
        rw [G1_off o f hk ha this, Int.mul_zero]
      · rfl
  · rw [if_neg h, G1_fix o f ha (b := b), if_neg h]
    generalize (sumI n fun k => if under ws a k = true then ent n f a k * G1 n ws f k b else 0) = S
    rw [Int.mul_neg, ← Int.mul_assoc, hu, Int.one_mul]; omega
theorem col_inv {n : Nat} {ws : List Nat} (o : IsOrder n ws) {f : List Int} (t : IsTab n ws f) (hd : ∀ a, a < n → unit1 (ent n f a a) = true) {a b : Nat} (ha : a < n) (hb : b < n) :
    sumI n (fun k => G2 n ws f a k * ent n f k b) = if a = b then 1 else 0 := by
  have e : ∀ k, k < n → G2 n ws f a k * ent n f k b = if k = b then G2 n ws f a b * ent n f b b else (if under ws k b = true then G2 n ws f a k * ent n f k b else 0) := fun k hk => by
    by_cases h : k = b
    · subst h; rw [if_pos rfl]
    · rw [if_neg h]
      have h2 := ent_cases t hk hb
      rw [if_neg h] at h2
      split
      · rfl
      · rename_i hu
        rw [if_neg hu] at h2
        rw [h2, Int.mul_zero]
  rw [sumI_congr e, sum_pick hb _ (fun k => if under ws k b = true then G2 n ws f a k * ent n f k b else 0) (if_neg (by unfold under; simp))]
  have hu := unit_sq (hd b hb)
  by_cases h : a = b
  · subst h
    rw [if_pos rfl, G2_fix o f ha, if_pos rfl, hu, sumI_none fun k hk => ?_]
    · rfl
    · split
      · rename_i hka
        have : below ws a k = false := by
          cases hak : below ws a k
          · rfl
          · have := o.anti a k ha hk (Ne.symm (under_iff.1 hka).1) hak
            rw [(under_iff.1 hka).2] at this; cases this
        rw [G2_off o f ha hk this, Int.zero_mul]
      · rfl
  · rw [if_neg h, G2_fix o f hb (a := a), if_neg h]
    generalize (sumI n fun k => if under ws k b = true then G2 n ws f a k * ent n f k b else 0) = S
    rw [Int.mul_assoc, hu, Int.mul_one]; omega
/-- By rows and by columns it is the same. -/
theorem inv_same {n : Nat} {ws : List Nat} (o : IsOrder n ws) {f : List Int} (t : IsTab n ws f) (hd : ∀ a, a < n → unit1 (ent n f a a) = true) {a b : Nat} (ha : a < n) (hb : b < n) : G1 n ws f a b = G2 n ws f a b := by
  have h1 : sumI n (fun k => sumI n (fun j => G2 n ws f a j * ent n f j k) * G1 n ws f k b) = G1 n ws f a b := by
    rw [sumI_congr (g := fun k => if k = a then G1 n ws f k b else 0) fun k hk => by
      rw [col_inv o t hd ha hk]
      by_cases e : a = k
      · subst e; rw [if_pos rfl, if_pos rfl, Int.one_mul]
      · rw [if_neg e, if_neg (Ne.symm e), Int.zero_mul], sumI_one, if_pos ha]
  have h2 : sumI n (fun j => G2 n ws f a j * sumI n (fun k => ent n f j k * G1 n ws f k b)) = G2 n ws f a b := by
    rw [sumI_congr (g := fun j => if j = b then G2 n ws f a j else 0) fun j hj => by
      rw [row_inv o t hd hj hb]
      by_cases e : j = b
      · rw [if_pos e, if_pos e, Int.mul_one]
      · rw [if_neg e, if_neg e, Int.mul_zero], sumI_one, if_pos hb]
  rw [← h1, ← h2, sumI_congr (f := fun k => sumI n (fun j => G2 n ws f a j * ent n f j k) * G1 n ws f k b) (g := fun k => sumI n fun j => G2 n ws f a j * ent n f j k * G1 n ws f k b) fun k _ => (sumI_mul' _ _ n).symm,
    sumI_congr (f := fun j => G2 n ws f a j * sumI n (fun k => ent n f j k * G1 n ws f k b)) (g := fun j => sumI n fun k => G2 n ws f a j * ent n f j k * G1 n ws f k b) fun j _ => by
      rw [← sumI_mul]; exact sumI_congr fun k _ => (Int.mul_assoc ..).symm, sumI_swap]

end Go.Proofs.Tryd
