/- The engine, part 29: sums of whole numbers, wrapped and not; a table into which a word's bits are put. -/
import Derived.Test.YtgepgleagefmeaaAbsStd
namespace Go.Abs
open Go

/-- The sum of the first n. -/
def sumI : Nat → (Nat → Int) → Int
  | 0, _ => 0
  | n + 1, f => sumI n f + f n
theorem sumI_congr {f g : Nat → Int} : ∀ {n : Nat}, (∀ i, i < n → f i = g i) → sumI n f = sumI n g
  | 0, _ => rfl
  | n + 1, h => by rw [sumI, sumI, sumI_congr (n := n) (fun i hi => h i (by omega)), h n (by omega)]
theorem sumI_zero : ∀ (n : Nat), sumI n (fun _ => 0) = 0
  | 0 => rfl
  | n + 1 => by rw [sumI, sumI_zero n]; rfl
theorem sumI_add (f g : Nat → Int) : ∀ (n : Nat), sumI n (fun i => f i + g i) = sumI n f + sumI n g
  | 0 => rfl
  | n + 1 => by rw [sumI, sumI, sumI, sumI_add f g n]; omega
theorem sumI_mul (c : Int) (f : Nat → Int) : ∀ (n : Nat), sumI n (fun i => c * f i) = c * sumI n f
  | 0 => by simp [sumI]
  | n + 1 => by rw [sumI, sumI, sumI_mul c f n, Int.mul_add]
theorem sumI_mul' (c : Int) (f : Nat → Int) (n : Nat) : sumI n (fun i => f i * c) = sumI n f * c := by
  rw [Int.mul_comm, ← sumI_mul]; exact sumI_congr fun i _ => Int.mul_comm ..
theorem sumI_neg (f : Nat → Int) : ∀ (n : Nat), sumI n (fun i => - f i) = - sumI n f
  | 0 => rfl
  | n + 1 => by rw [sumI, sumI, sumI_neg f n]; omega
theorem sumI_swap (f : Nat → Nat → Int) (m : Nat) : ∀ (n : Nat), sumI n (fun i => sumI m (f i)) = sumI m (fun j => sumI n fun i => f i j)
  | 0 => (sumI_zero m).symm
  | n + 1 => by
    rw [sumI, sumI_swap f m n, ← sumI_add]; rfl
theorem sumI_one {a : Nat} (f : Nat → Int) : ∀ {n : Nat}, sumI n (fun i => if i = a then f i else 0) = if a < n then f a else 0
  | 0 => by simp [sumI]
  | n + 1 => by
    rw [sumI, sumI_one f (n := n)]
    by_cases h1 : a < n
    · have h2 : ¬ n = a := by omega
      have h3 : a < n + 1 := by omega
      simp [h1, h2, h3]
    · by_cases h2 : n = a
      · subst h2; simp
      · have h3 : ¬ a < n + 1 := by omega
        simp [h1, h2, h3]

theorem wrap_mod {k : IntKind} {x y : Int} (h : x % (2 ^ k.bits : Int) = y % (2 ^ k.bits : Int)) : k.wrap x = k.wrap y := by
  unfold IntKind.wrap; rw [h]
theorem mod_wrap (k : IntKind) (x : Int) : k.wrap x % (2 ^ k.bits : Int) = x % (2 ^ k.bits : Int) := by
  unfold IntKind.wrap
  dsimp only
  split
  · rw [Int.sub_emod, Int.emod_self, Int.emod_emod, Int.sub_zero, Int.emod_emod]
  · rw [Int.emod_emod]
theorem wrap_addL (k : IntKind) (x y : Int) : k.wrap (k.wrap x + y) = k.wrap (x + y) := wrap_mod (by rw [Int.add_emod, mod_wrap, ← Int.add_emod])
theorem wrap_addR (k : IntKind) (x y : Int) : k.wrap (x + k.wrap y) = k.wrap (x + y) := wrap_mod (by rw [Int.add_emod, mod_wrap, ← Int.add_emod])
theorem wrap_subL (k : IntKind) (x y : Int) : k.wrap (k.wrap x - y) = k.wrap (x - y) := wrap_mod (by rw [Int.sub_emod, mod_wrap, ← Int.sub_emod])
theorem wrap_subR (k : IntKind) (x y : Int) : k.wrap (x - k.wrap y) = k.wrap (x - y) := wrap_mod (by rw [Int.sub_emod, mod_wrap, ← Int.sub_emod])
theorem wrap_mulL (k : IntKind) (x y : Int) : k.wrap (k.wrap x * y) = k.wrap (x * y) := wrap_mod (by rw [Int.mul_emod, mod_wrap, ← Int.mul_emod])
theorem wrap_mulR (k : IntKind) (x y : Int) : k.wrap (x * k.wrap y) = k.wrap (x * y) := wrap_mod (by rw [Int.mul_emod, mod_wrap, ← Int.mul_emod])
theorem wrap_wrap (k : IntKind) (x : Int) : k.wrap (k.wrap x) = k.wrap x := wrap_mod (mod_wrap k x)
theorem wrap_sum (k : IntKind) (f g : Nat → Int) : ∀ (n : Nat), (∀ i, i < n → k.wrap (f i) = k.wrap (g i)) → k.wrap (sumI n f) = k.wrap (sumI n g)
  | 0, _ => rfl
  | n + 1, h => by
    rw [sumI, sumI, ← wrap_addL, ← wrap_addR, wrap_sum k f g n (fun i hi => h i (by omega)), h n (by omega), wrap_addR, wrap_addL]
theorem wrap_neg (k : IntKind) (x : Int) : k.wrap (- k.wrap x) = k.wrap (- x) := by
  have := wrap_subR k 0 x; simpa using this

/-- Left with a value, or not. -/
def exitOr {U β : Type} (o : Option U) (e : β) : U ⊕ β := o.elim (.inr e) .inl
def stepOr {σ U β : Type} (o : Option U) (s : σ) : σ ⊕ (U ⊕ β) := o.elim (.inl s) fun u => .inr (.inl u)
theorem exitOr_none {U β : Type} (e : β) : exitOr (none : Option U) e = .inr e := rfl
theorem exitOr_some {U β : Type} (u : U) (e : β) : exitOr (some u) e = .inl u := rfl
/-- A counted loop that may be left, in one of two ways; nested. -/
theorem loopM_exit {σ U β : Type} {f : σ → Option (σ ⊕ (U ⊕ β))} (n : Nat) (s : Nat → σ) (g : Nat → Option U) (e : β)
    (h : ∀ i : Nat, i < n → f (s i) = some (stepOr (g i) (s (i + 1)))) (hend : f (s n) = some (.inr (.inr e))) {s0 : σ} (h0 : s 0 = s0) :
    loopM f s0 = some (exitOr ((List.range n).findSome? g) e) := by
  subst h0
  rw [loopM_stop (f := f) n s (fun i => (g i).map .inl) (.inr e) (fun i hi => by rw [h i hi]; cases g i <;> rfl) hend]
  have : (List.range n).findSome? (fun i => (g i).map (Sum.inl (β := β))) = ((List.range n).findSome? g).map .inl := by
    generalize List.range n = l
    induction l with
    | nil => rfl
    | cons a l ih => rw [List.findSome?_cons, List.findSome?_cons, ih]; cases g a <;> rfl
  rw [this]
  cases (List.range n).findSome? g <;> rfl

theorem findSome_any {β : Type} (p : Nat → Bool) (b e : β) : ∀ (l : List Nat), ((l.findSome? fun r => cond (p r) (some b) none).getD e) = if l.any p = true then b else e
  | [] => rfl
  | a :: l => by
    have := findSome_any p b e l
    rw [List.findSome?_cons, List.any_cons]
    cases p a
    · simpa using this
    · rfl
/-- A loop over a word's bits that only looks for a bad one. -/
theorem loopM_bitsAny {S β : Type} {f : Int × S → Option ((Int × S) ⊕ β)} {v : Nat} (m : Nat) (s : S) (bad : Nat → Bool) (b e : β) (hv : v < 2 ^ m) (hm : m ≤ 64)
    (h : ∀ r q, 2 ^ r * (2 * q + 1) < 2 ^ 64 → v.testBit r = true → r < m → f (((2 ^ r * (2 * q + 1) : Nat) : Int), s) = some (cond (bad r) (.inr b) (.inl (((2 ^ r * (2 * q) : Nat) : Int), s))))
    (hend : f (0, s) = some (.inr e)) : loopM f ((v : Int), s) = some (if (List.range m).any (fun r => v.testBit r && bad r) = true then b else e) := by
  rw [loopM_bitsStop m (fun _ => s) (fun r => cond (bad r) (some b) none) e hv hm (fun r q h1 h2 h3 => by rw [h r q h1 h2 h3]; cases bad r <;> rfl) (fun _ _ _ => rfl) hend, ← findSome_any (fun r => v.testBit r && bad r) b e]
  exact congrArg (fun f => some ((List.findSome? f (List.range m)).getD e)) (funext fun r => by cases v.testBit r <;> rfl)

/-- How many of the first n. -/
def cntB : Nat → (Nat → Bool) → Nat
  | 0, _ => 0
  | n + 1, p => cntB n p + cond (p n) 1 0
theorem cntB_congr {p q : Nat → Bool} : ∀ {n : Nat}, (∀ i, i < n → p i = q i) → cntB n p = cntB n q
  | 0, _ => rfl
  | n + 1, h => by rw [cntB, cntB, cntB_congr (n := n) (fun i hi => h i (by omega)), h n (by omega)]
theorem cntB_add (p : Nat → Bool) (a : Nat) : ∀ (b : Nat), cntB (a + b) p = cntB a p + cntB b fun i => p (a + i)
  | 0 => rfl
  | b + 1 => by rw [← Nat.add_assoc, cntB, cntB, cntB_add p a b, Nat.add_assoc]
theorem cntB_le (p : Nat → Bool) : ∀ (n : Nat), cntB n p ≤ n
  | 0 => Nat.le_refl 0
  | n + 1 => by
    have := cntB_le p n
    rw [cntB]; cases p n <;> simp <;> omega
theorem cntB_zero : ∀ (n : Nat), cntB n (fun _ => false) = 0
  | 0 => rfl
  | n + 1 => by rw [cntB, cntB_zero n]; rfl
theorem cntB_cut {p : Nat → Bool} {n m : Nat} (hnm : n ≤ m) (h : ∀ i, n ≤ i → p i = false) : cntB m p = cntB n p := by
  obtain ⟨k, rfl⟩ := Nat.exists_eq_add_of_le hnm
  rw [cntB_add, cntB_congr (q := fun _ => false) fun i _ => h (n + i) (by omega), cntB_zero]; rfl

/-- A word's bits: each place of the table that they name is turned. -/
theorem into_tab {α : Type} {f : Int × List α × Unit → Option ((Int × List α × Unit) ⊕ ((List α × Unit) ⊕ Empty))} {n : Nat} {w : Nat} (hw : w < 2 ^ 32) (hin : ∀ j, w.testBit j = true → j < n) (G : Nat → α → α) (g : Nat → α)
    (h : ∀ r q (g' : Nat → α), 2 ^ r * (2 * q + 1) < 2 ^ 64 → w.testBit r = true → r < n → g' r = g r → f (((2 ^ r * (2 * q + 1) : Nat) : Int), tab n g', ()) = some (.inl (((2 ^ r * (2 * q) : Nat) : Int), (tab n g').set r (G r (g r)), ())))
    (hend : ∀ l, f (0, l, ()) = some (.inr (.inl (l, ())))) :
    loopM f ((w : Int), tab n g, ()) = some (.inl (tab n fun j => if w.testBit j = true then G j (g j) else g j, ())) := by
  have step : ∀ k j, (if (decide (j < k + 1) && w.testBit j) = true then G j (g j) else g j) = if j = k then (if w.testBit j = true then G j (g j) else g j) else if (decide (j < k) && w.testBit j) = true then G j (g j) else g j := fun k j => by
    by_cases h : j = k
    · subst h; simp
    · have : decide (j < k + 1) = decide (j < k) := by simp; omega
      rw [this, if_neg h]
  have key := loopM_bits (f := f) (v := w) 32 (fun k => (tab n fun j => if (decide (j < k) && w.testBit j) = true then G j (g j) else g j, ())) (.inl (tab n fun j => if w.testBit j = true then G j (g j) else g j, ())) hw (by decide) (fun r q h1 h2 h3 => ?_) (fun r _ h2 => ?_) ?_
  · simpa using key
  · have hr := hin r h2
    rw [h r q _ h1 h2 hr (by simp), tab_set]
    refine congrArg (fun x => some (Sum.inl (_, x, ()))) (tab_congr fun j _ => ?_)
    rw [step]
    by_cases e : j = r
    · subst e; simp [h2]
    · simp [e]
  · refine congrArg (fun x => (x, ())) (tab_congr fun j _ => ?_)
    rw [step]
    by_cases e : j = r
    · subst e; simp [h2]
    · simp [e]
  · rw [hend]
    refine congrArg (fun x => some (Sum.inr (Sum.inl (x, ())))) (tab_congr fun j _ => ?_)
    cases h : w.testBit j
    · simp
    · have := bit_lt hw h; simp [this]

end Go.Abs
