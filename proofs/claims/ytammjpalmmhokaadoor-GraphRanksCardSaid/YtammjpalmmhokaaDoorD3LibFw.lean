/- Lemmas on functions of the program, by name: fw. -/
import Derived.Test.YtammjpalmmhokaaDoorD3Funs
import Derived.Test.YtammjpalmmhokaaDoorAbsSums
namespace Go.Proofs.Tryd
open Go Go.Abs


/-! Closure by rounds (Floyd and Warshall), on truth values. -/
/-- By at least one step. -/
inductive Way (A : Nat → Nat → Bool) : Nat → Nat → Prop
  | one {i j : Nat} (h : A i j = true) : Way A i j
  | more {i k j : Nat} (h : Way A i k) (h2 : A k j = true) : Way A i j

theorem Way.trans {A : Nat → Nat → Bool} {i j k : Nat} (h : Way A i j) (h2 : Way A j k) : Way A i k := by
  induction h2 with
  | one h2 => exact .more h h2
  | more _ h3 ih => exact .more ih h3

def fwR (w : Nat → Nat → Bool) (k : Nat) : Nat → Nat → Bool := fun i j => w i j || (w i k && w k j)
def fwN (A : Nat → Nat → Bool) : Nat → Nat → Nat → Bool
  | 0 => A
  | k + 1 => fwR (fwN A k) k

theorem fwN_sound (A : Nat → Nat → Bool) : ∀ k i j, fwN A k i j = true → Way A i j
  | 0, i, j, h => .one h
  | k + 1, i, j, h => by
    simp only [fwN, fwR, Bool.or_eq_true, Bool.and_eq_true] at h
    rcases h with h | ⟨h, h2⟩
    · exact fwN_sound A k i j h
    · exact (fwN_sound A k i k h).trans (fwN_sound A k k j h2)

theorem fwN_keep (A : Nat → Nat → Bool) (k : Nat) : ∀ m i j, fwN A k i j = true → fwN A (k + m) i j = true
  | 0, _, _, h => h
  | m + 1, i, j, h => by
    show fwR (fwN A (k + m)) (k + m) i j = true
    simp only [fwR, Bool.or_eq_true]
    exact .inl (fwN_keep A k m i j h)

/-- What goes by way of a number that had its round. -/
theorem fwN_via (A : Nat → Nat → Bool) : ∀ k m, m < k → ∀ i j, fwN A k i m = true → fwN A k m j = true → fwN A k i j = true
  | 0, _, h, _, _, _, _ => by omega
  | k + 1, m, hm, i, j, h1, h2 => by
    simp only [fwN, fwR, Bool.or_eq_true, Bool.and_eq_true] at h1 h2 ⊢
    by_cases hmk : m = k
    · subst hmk
      have h1' : fwN A m i m = true := by
        rcases h1 with h | ⟨h, _⟩ <;> exact h
      have h2' : fwN A m m j = true := by
        rcases h2 with h | ⟨_, h⟩ <;> exact h
      exact .inr ⟨h1', h2'⟩
    · have hlt : m < k := by omega
      have ih := fwN_via A k m hlt
      rcases h1 with h1 | ⟨h1, h1'⟩ <;> rcases h2 with h2 | ⟨h2, h2'⟩
      · exact .inl (ih i j h1 h2)
      · exact .inr ⟨ih i k h1 h2, h2'⟩
      · exact .inr ⟨h1, ih k j h1' h2⟩
      · exact .inr ⟨h1, h2'⟩

theorem fwN_all {A : Nat → Nat → Bool} {n : Nat} (hA : ∀ i j, A i j = true → i < n ∧ j < n) (i j : Nat) : fwN A n i j = true ↔ Way A i j := by
  constructor
  · exact fwN_sound A n i j
  · intro h
    induction h with
    | one h => have := fwN_keep A 0 n _ _ h; rwa [Nat.zero_add] at this
    | more _ h2 ih =>
      have h3 := fwN_keep A 0 n _ _ h2
      rw [Nat.zero_add] at h3
      exact fwN_via A n _ (hA _ _ h2).1 _ _ ih h3

/-- In place: what was done stands in the new round, the rest in the old one; the row and the column of the round do not turn. -/
def fwAt (w : Nat → Nat → Bool) (n k x : Nat) : Nat → Bool := fun y => if y < x then fwR w k (y / n) (y % n) else w (y / n) (y % n)

theorem fwAt_col {w : Nat → Nat → Bool} {n k x i : Nat} (hk : k < n) : fwAt w n k x (i * n + k) = w i k := by
  have h1 : (i * n + k) / n = i := by rw [Nat.mul_comm, Nat.mul_add_div (by omega), Nat.div_eq_of_lt hk]; rfl
  have h2 : (i * n + k) % n = k := by rw [Nat.mul_comm, Nat.mul_add_mod, Nat.mod_eq_of_lt hk]
  unfold fwAt
  rw [h1, h2]
  split
  · unfold fwR; cases w i k <;> simp
  · rfl
theorem fwAt_row {w : Nat → Nat → Bool} {n k x j : Nat} (hj : j < n) : fwAt w n k x (k * n + j) = w k j := by
  have h1 : (k * n + j) / n = k := by rw [Nat.mul_comm, Nat.mul_add_div (by omega), Nat.div_eq_of_lt hj]; rfl
  have h2 : (k * n + j) % n = j := by rw [Nat.mul_comm, Nat.mul_add_mod, Nat.mod_eq_of_lt hj]
  unfold fwAt
  rw [h1, h2]
  split
  · unfold fwR; cases w k j <;> simp
  · rfl
theorem fwAt_here {w : Nat → Nat → Bool} {n k i j : Nat} (hj : j < n) : fwAt w n k (i * n + j) (i * n + j) = w i j := by
  have h1 : (i * n + j) / n = i := by rw [Nat.mul_comm, Nat.mul_add_div (by omega), Nat.div_eq_of_lt hj]; rfl
  have h2 : (i * n + j) % n = j := by rw [Nat.mul_comm, Nat.mul_add_mod, Nat.mod_eq_of_lt hj]
  unfold fwAt
  rw [if_neg (by omega), h1, h2]
theorem fwAt_step {w : Nat → Nat → Bool} {n k i j : Nat} (hj : j < n) (y : Nat) : fwAt w n k (i * n + (j + 1)) y = if y = i * n + j then fwR w k i j else fwAt w n k (i * n + j) y := by
  have h1 : (i * n + j) / n = i := by rw [Nat.mul_comm, Nat.mul_add_div (by omega), Nat.div_eq_of_lt hj]; rfl
  have h2 : (i * n + j) % n = j := by rw [Nat.mul_comm, Nat.mul_add_mod, Nat.mod_eq_of_lt hj]
  by_cases hy : y = i * n + j
  · subst hy
    rw [if_pos rfl]
    unfold fwAt
    rw [if_pos (by omega), h1, h2]
  · rw [if_neg hy]
    unfold fwAt
    by_cases hlt : y < i * n + j
    · rw [if_pos hlt, if_pos (by omega)]
    · rw [if_neg hlt, if_neg (by omega)]

theorem sq_lt {n i j : Nat} (hi : i < n) (hj : j < n) : i * n + j < n * n := by
  have : (i + 1) * n ≤ n * n := Nat.mul_le_mul_right n hi
  rw [Nat.add_mul, Nat.one_mul] at this
  omega
theorem sq_wrap {n i j : Nat} (hn : n ≤ 64) (hi : i < n) (hj : j < n) : IntKind.i64.wrap ((IntKind.i64.wrap ((i : Int) * (n : Int))) + (j : Int)) = ((i * n + j : Nat) : Int) := by
  have h1 := sq_lt hi hj
  have h2 : n * n ≤ 64 * 64 := Nat.mul_le_mul hn hn
  have h3 : (i : Int) * (n : Int) = ((i * n : Nat) : Int) := (Int.natCast_mul i n).symm
  have e1 : IntKind.i64.wrap ((i * n : Nat) : Int) = ((i * n : Nat) : Int) := wrap64 (by omega) (by omega)
  rw [h3, e1]
  rw [wrap64 (by omega) (by omega)]
  simp

end Go.Proofs.Tryd
