/- Lemmas on functions of the program, by name: square. -/
import Derived.Test.YthohigdbddilmaaDoorD2Funs
import Derived.Test.YthohigdbddilmaaDoorAbsSums
import Derived.Test.YthohigdbddilmaaDoorD2LibStep
namespace Go.Proofs.Tryd
open Go Go.Abs


/-- A square table, row by row. -/
def sq {α : Type} (n : Nat) (G : Nat → Nat → α) : List α := tab (n * n) fun p => G (p / n) (p % n)
theorem sq_length {α : Type} (n : Nat) (G : Nat → Nat → α) : (sq n G).length = n * n := tab_length ..
theorem idx_lt {a b n : Nat} (ha : a < n) (hb : b < n) : a * n + b < n * n := by
  have : (a + 1) * n ≤ n * n := Nat.mul_le_mul_right n ha
  rw [Nat.succ_mul] at this; omega
theorem idx_div {a b n : Nat} (hb : b < n) : (a * n + b) / n = a := by
  rw [Nat.mul_comm, Nat.mul_add_div (by omega), Nat.div_eq_of_lt hb]; rfl
theorem idx_mod {a b n : Nat} (hb : b < n) : (a * n + b) % n = b := by
  rw [Nat.mul_comm, Nat.mul_add_mod, Nat.mod_eq_of_lt hb]
theorem idx_of {p n : Nat} (hp : p < n * n) : p / n < n ∧ p % n < n ∧ p / n * n + p % n = p := by
  have hn : 0 < n := Nat.pos_of_ne_zero fun h => by rw [h] at hp; simp at hp
  exact ⟨Nat.div_lt_of_lt_mul hp, Nat.mod_lt _ hn, Nat.div_add_mod' p n⟩
theorem sq_le {n : Nat} (hn : n ≤ 16) : n * n ≤ 256 := Nat.mul_le_mul hn hn
theorem idx_wrap {a b n : Nat} (ha : a < n) (hb : b < n) (hn : n ≤ 16) : IntKind.i64.wrap (IntKind.i64.wrap ((a : Int) * (n : Int)) + (b : Int)) = ((a * n + b : Nat) : Int) := by
  have h1 := idx_lt ha hb
  have h2 := sq_le hn
  have e : (a : Int) * (n : Int) = ((a * n : Nat) : Int) := by simp
  rw [e, wrap64 (x := ((a * n : Nat) : Int)) (by omega) (by omega), wrap64 (by omega) (by omega)]; rfl
theorem sq_wrap {n : Nat} (hn : n ≤ 16) : IntKind.i64.wrap ((n : Int) * (n : Int)) = ((n * n : Nat) : Int) := by
  have h2 := sq_le hn
  have e : (n : Int) * (n : Int) = ((n * n : Nat) : Int) := by simp
  rw [e, wrap64 (by omega) (by omega)]
theorem sq_get {α : Type} {n a b : Nat} (G : Nat → Nat → α) (ha : a < n) (hb : b < n) : (sq n G)[a * n + b]? = some (G a b) := by
  unfold sq; rw [tab_get _ (idx_lt ha hb), idx_div hb, idx_mod hb]
theorem sq_getI {α : Type} {n a b : Nat} (G : Nat → Nat → α) (ha : a < n) (hb : b < n) : getI (sq n G) ((a * n + b : Nat) : Int) = some (G a b) := by rw [getI_nat, sq_get G ha hb]
theorem sq_congr {α : Type} {n : Nat} {G G' : Nat → Nat → α} (h : ∀ a b, a < n → b < n → G a b = G' a b) : sq n G = sq n G' :=
  tab_congr fun p hp => h _ _ (idx_of hp).1 (idx_of hp).2.1
theorem sq_set {α : Type} {n a b : Nat} (G : Nat → Nat → α) (ha : a < n) (hb : b < n) (v : α) : (sq n G).set (a * n + b) v = sq n fun a' b' => if a' = a ∧ b' = b then v else G a' b' := by
  unfold sq
  rw [tab_set]
  refine tab_congr fun p hp => ?_
  have h := idx_of hp
  by_cases e : p = a * n + b
  · subst e; rw [if_pos rfl, idx_div hb, idx_mod hb]; exact (if_pos ⟨rfl, rfl⟩).symm
  · rw [if_neg e]; refine (if_neg ?_).symm
    rintro ⟨h1, h2⟩
    rw [h1, h2] at h; exact e h.2.2.symm
theorem rep_sq {α : Type} (n : Nat) (v : α) : List.replicate (n * n) v = sq n fun _ _ => v := rep_tab ..
theorem idx_inB {a b n : Nat} (ha : a < n) (hb : b < n) : inB ((a * n + b : Nat) : Int) (n * n) = true := inB_T (idx_lt ha hb)
/-- A square table that is built entry by entry. -/
def sqTo {α : Type} (n : Nat) (G : Nat → Nat → α) (k : Nat) : List α := tab k fun p => G (p / n) (p % n)
theorem sqTo_length {α : Type} (n k : Nat) (G : Nat → Nat → α) : (sqTo n G k).length = k := tab_length ..
theorem sqTo_succ {α : Type} {n a b : Nat} (G : Nat → Nat → α) (hb : b < n) : sqTo n G (a * n + b) ++ [G a b] = sqTo n G (a * n + (b + 1)) := by
  unfold sqTo
  rw [← Nat.add_assoc, tab_succ, idx_div hb, idx_mod hb]
theorem sqTo_row {α : Type} {n a : Nat} (G : Nat → Nat → α) : sqTo n G (a * n + n) = sqTo n G ((a + 1) * n + 0) := by
  rw [Nat.succ_mul]; rfl
/-- A list of n times n, as a square. -/
theorem list_sq {n : Nat} {f : List Int} (h : f.length = n * n) : f = sq n fun a b => f.getD (a * n + b) 0 := by
  apply List.ext_getElem?
  intro p
  by_cases hp : p < n * n
  · unfold sq
    rw [tab_get _ hp]
    dsimp only
    rw [(idx_of hp).2.2, getD_get (by omega)]
  · rw [List.getElem?_eq_none (by omega), List.getElem?_eq_none (by rw [sq_length]; omega)]
theorem word_lt {n : Nat} {ws : List Nat} (hin : Inside n ws) (i : Nat) : ws.getD i 0 < 2 ^ n :=
  Nat.lt_pow_two_of_testBit _ fun j hj => by
    cases h : (ws.getD i 0).testBit j
    · rfl
    · have := insideD hin h; omega
/-- A word's bits: each place of a row that they name is turned. -/
theorem into_row {α : Type} {f : Int × List α × Unit → Option ((Int × List α × Unit) ⊕ ((List α × Unit) ⊕ Empty))} {n w a : Nat} (hw : w < 2 ^ 32) (hin : ∀ j, w.testBit j = true → j < n) (ha : a < n) (H : Nat → α → α) (G : Nat → Nat → α)
    (h : ∀ r q (G' : Nat → Nat → α), 2 ^ r * (2 * q + 1) < 2 ^ 64 → w.testBit r = true → r < n → G' a r = G a r → (∀ a' b', a' ≠ a → G' a' b' = G a' b') → f (((2 ^ r * (2 * q + 1) : Nat) : Int), sq n G', ()) = some (.inl (((2 ^ r * (2 * q) : Nat) : Int), (sq n G').set (a * n + r) (H r (G a r)), ())))
    (hend : ∀ l, f (0, l, ()) = some (.inr (.inl (l, ())))) :
    loopM f ((w : Int), sq n G, ()) = some (.inl (sq n fun a' b' => if a' = a ∧ w.testBit b' = true then H b' (G a' b') else G a' b', ())) := by
  have step : ∀ k a' b', (if a' = a ∧ (decide (b' < k + 1) && w.testBit b') = true then H b' (G a' b') else G a' b') = if a' = a ∧ b' = k then (if w.testBit k = true then H k (G a k) else G a k) else if a' = a ∧ (decide (b' < k) && w.testBit b') = true then H b' (G a' b') else G a' b' := fun k a' b' => by
    by_cases h1 : a' = a
    · subst h1
      by_cases h : b' = k
      · subst h; simp
      · have : decide (b' < k + 1) = decide (b' < k) := by simp; omega
        rw [this, if_neg (show ¬ (a' = a' ∧ b' = k) from fun x => h x.2)]
    · simp [h1]
  have key := loopM_bits (f := f) (v := w) 32 (fun k => (sq n fun a' b' => if a' = a ∧ (decide (b' < k) && w.testBit b') = true then H b' (G a' b') else G a' b', ())) (.inl (sq n fun a' b' => if a' = a ∧ w.testBit b' = true then H b' (G a' b') else G a' b', ())) hw (by decide) (fun r q h1 h2 h3 => ?_) (fun r _ h2 => ?_) ?_
  · simpa using key
  · have hr := hin r h2
    rw [h r q _ h1 h2 hr (by simp) (fun a' b' hne => by simp [hne]), sq_set _ ha hr]
    refine congrArg (fun x => some (Sum.inl (_, x, ()))) (sq_congr fun a' b' _ _ => ?_)
    rw [step, h2, if_pos rfl]
  · refine congrArg (fun x => (x, ())) (sq_congr fun a' b' _ _ => ?_)
    rw [step, h2]
    by_cases h1 : a' = a ∧ b' = r
    · rw [if_pos h1, h1.1, h1.2, h2]; simp
    · rw [if_neg h1]
  · rw [hend]
    refine congrArg (fun x => some (Sum.inr (Sum.inl (x, ())))) (sq_congr fun a' b' _ _ => ?_)
    cases h : w.testBit b'
    · simp
    · have := bit_lt hw h; simp [this]

end Go.Proofs.Tryd
