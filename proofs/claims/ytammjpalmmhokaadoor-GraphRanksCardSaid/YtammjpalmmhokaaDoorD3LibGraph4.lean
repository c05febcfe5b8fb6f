/- Lemmas on functions of the program, by name: graph4. -/
import Derived.Test.YtammjpalmmhokaaDoorD3Funs
import Derived.Test.YtammjpalmmhokaaDoorAbsSums
import Derived.Test.YtammjpalmmhokaaDoorD3LibGraph3
namespace Go.Proofs.Tryd
open Go Go.Abs


theorem find_const {β : Type} (p : Nat → Bool) (b : β) (l : List Nat) : (l.findSome? fun r => cond (p r) (some b) none) = if l.any p = true then some b else none := by
  induction l with
  | nil => rfl
  | cons a r ih =>
    rw [List.findSome?_cons, List.any_cons]
    cases p a with
    | true => rfl
    | false => rw [cond_false, ih]; simp

theorem ports_cases (v : Node) : portsB v = 0 ∨ portsB v = 1 ∨ portsB v = 2 := by
  unfold portsB
  by_cases h1 : v.1 = 1
  · exact .inl (if_pos h1)
  · rw [if_neg h1]
    by_cases h3 : v.1 = 3
    · exact .inr (.inr (if_pos h3))
    · exact .inr (.inl (if_neg h3))
theorem ports_le (v : Node) : 0 ≤ portsB v ∧ portsB v ≤ 2 := by rcases ports_cases v with h | h | h <;> omega

/-- Is a port of a node without an edge? -/
def hasB (E : List Edge) (t p : Int) : Bool := (List.range E.length).any fun j => toE E j == t && poE E j == p
def missB (N : List Node) (E : List Edge) (i : Nat) : Bool := (List.range (portsB (N.getD i v0)).toNat).any fun p => !hasB E i p

theorem check_l3 (N : List Node) (E : List Edge) (a : List Int) (b : Int × Int × Unit) (i : Nat) (y : Int × Int × Unit) :
    loopM (graph_Check_l3 (portsB (N.getD i v0), ()) (a, b, takenM E E.length, ()) ((i : Int), y, ())) ((0 : Int), ((0 : Int), (0 : Int), ()), ()) = some (if missB N E i = true then .inl (((5 : Int), (i : Int), ()), ()) else .inr (.inl (((0 : Int), (0 : Int), ()), ()))) := by
  have hp : 0 ≤ portsB (N.getD i v0) ∧ portsB (N.getD i v0) ≤ 2 := ports_le _
  have h := loopM_exit (f := graph_Check_l3 (portsB (N.getD i v0), ()) (a, b, takenM E E.length, ()) ((i : Int), y, ())) (portsB (N.getD i v0)).toNat (fun p => ((p : Int), ((0 : Int), (0 : Int), ()), ())) (fun p => cond (!hasB E i p) (some (((5 : Int), (i : Int), ()), ())) none) (.inl (((0 : Int), (0 : Int), ()), ())) (fun p hpl => by
    unfold graph_Check_l3
    simp only [dcT (show (p : Int) < portsB (N.getD i v0) by omega), cond_true]
    rw [wrapS (by omega)]
    have ht : (mapGet tkT (takenM E E.length) ((i : Int), (p : Int), ())).isSome = hasB E i p := taken_has E _ _ _
    show (cond (!(mapGet tkT (takenM E E.length) ((i : Int), (p : Int), ())).isSome) _ _) = _
    rw [ht]
    cases hasB E i p <;> rfl) (by
    unfold graph_Check_l3
    simp only [dcF (show ¬ ((portsB (N.getD i v0)).toNat : Int) < portsB (N.getD i v0) by omega), cond_false]) rfl
  refine Eq.trans h ?_
  rw [find_const]
  show some (exitOr (if missB N E i = true then _ else _) _) = _
  split <;> rfl

theorem check_l4 {N : List Node} (E : List Edge) (hn : N.length ≤ 12) (a : List Int) (b : Int × Int × Unit) :
    loopM (graph_Check_l4 ((N, E, ()), ()) (a, b, takenM E E.length, ())) ((0 : Int), ((0 : Int), (0 : Int), ()), ()) = some (exitOr ((List.range N.length).findSome? fun i => cond (missB N E i) (some (((5 : Int), (i : Int), ()), ())) none) (.inl (((0 : Int), (0 : Int), ()), ()))) := by
  refine loopM_exit (f := graph_Check_l4 ((N, E, ()), ()) (a, b, takenM E E.length, ())) N.length (fun i => ((i : Int), ((0 : Int), (0 : Int), ()), ())) (fun i => cond (missB N E i) (some (((5 : Int), (i : Int), ()), ())) none) _ (fun i hi => ?_) ?_ rfl
  · unfold graph_Check_l4
    simp only [dcT (show (i : Int) < (N.length : Int) by omega), cond_true, getI_D v0 (Int.natCast_nonneg i) (show (i : Int) < (N.length : Int) by omega), Int.toNat_natCast, Option.bind_some, graph_Ports_eq, check_l3]
    rw [wrapS (by omega)]
    cases missB N E i <;> rfl
  · unfold graph_Check_l4
    simp only [dcF (show ¬ (N.length : Int) < (N.length : Int) by omega), cond_false]

/-! The document counts. -/
theorem cntB_one {p : Nat → Bool} : ∀ (m : Nat), (∀ j k, j < m → k < m → p j = true → p k = true → j = k) → cntB m p = if (List.range m).any p = true then 1 else 0
  | 0, _ => rfl
  | m + 1, h => by
    have ih := cntB_one m (fun j k hj hk => h j k (by omega) (by omega))
    rw [List.range_succ, List.any_append]
    simp only [cntB, ih, List.any_cons, List.any_nil, Bool.or_false]
    cases hpm : p m with
    | false => simp
    | true =>
      have hno : (List.range m).any p = false := by
        rw [List.any_eq_false]
        intro j hj hpj
        have := h j m (by have := List.mem_range.1 hj; omega) (by omega) hpj hpm
        have := List.mem_range.1 hj
        omega
      rw [hno]; simp

theorem cntB_split {p q r : Nat → Bool} : ∀ (m : Nat), (∀ j, j < m → p j = (q j || r j) ∧ (q j && r j) = false) → cntB m p = cntB m q + cntB m r
  | 0, _ => rfl
  | m + 1, h => by
    have ih := cntB_split m (fun j hj => h j (by omega))
    obtain ⟨h1, h2⟩ := h m (by omega)
    simp only [cntB, ih, h1]
    cases hq : q m <;> cases hr : r m <;> rw [hq, hr] at h2 <;> simp at h2 ⊢ <;> omega

theorem miss_count {N : List Node} {E : List Edge} (hok : ∀ j, j < E.length → edgeC N E j = 0) (i : Nat) :
    decide (((cntB E.length fun j => toE E j == (i : Int) : Nat) : Int) < portsB (N.getD i v0)) = missB N E i := by
  have hval : ∀ j, j < E.length → toE E j = i → 0 ≤ poE E j ∧ poE E j < portsB (N.getD i v0) := fun j hj ht => by
    have h := edge_ok (hok j hj)
    rw [ht, Int.toNat_natCast] at h
    exact ⟨h.2.2.2.2.1, h.2.2.2.2.2.1⟩
  have huniq : ∀ t p : Int, ∀ j k, j < E.length → k < E.length → (toE E j == t && poE E j == p) = true → (toE E k == t && poE E k == p) = true → j = k := fun t p j k hj hk h1 h2 => by
    simp only [Bool.and_eq_true, beq_iff_eq] at h1 h2
    have key : ∀ j k, j < k → k < E.length → toE E j = toE E k → poE E j = poE E k → False := fun j k hjk hk ht hp => by
      have h := (edge_ok (hok k hk)).2.2.2.2.2.2.1
      unfold twiceB at h
      have := List.any_eq_false.1 h j (List.mem_range.2 hjk)
      simp [ht, hp] at this
    rcases Nat.lt_trichotomy j k with h | h | h
    · exact (key j k h hk (h1.1.trans h2.1.symm) (h1.2.trans h2.2.symm)).elim
    · exact h
    · exact (key k j h hj (h2.1.trans h1.1.symm) (h2.2.trans h1.2.symm)).elim
  have hc : ∀ p : Int, cntB E.length (fun j => toE E j == (i : Int) && poE E j == p) = if hasB E i p = true then 1 else 0 := fun p => cntB_one _ (huniq i p)
  have hp : portsB (N.getD i v0) = 0 ∨ portsB (N.getD i v0) = 1 ∨ portsB (N.getD i v0) = 2 := ports_cases _
  unfold missB
  rcases hp with hp | hp | hp
  · rw [hp]
    simp
  · rw [hp] at hval ⊢
    have : cntB E.length (fun j => toE E j == (i : Int)) = cntB E.length fun j => toE E j == (i : Int) && poE E j == 0 := by
      refine cntB_congr fun j hj => ?_
      by_cases ht : toE E j = i
      · have := hval j hj ht
        have : poE E j = 0 := by omega
        simp [ht, this]
      · simp [ht]
    rw [this, hc 0]
    have e1 : (List.range (1 : Int).toNat).any (fun p : Nat => !hasB E i p) = !hasB E i 0 := by
      show (List.range 1).any _ = _
      simp [List.range_succ]
    rw [e1]
    cases hasB E i 0 <;> simp
  · rw [hp] at hval ⊢
    have : cntB E.length (fun j => toE E j == (i : Int)) = cntB E.length (fun j => toE E j == (i : Int) && poE E j == 0) + cntB E.length fun j => toE E j == (i : Int) && poE E j == 1 := by
      refine cntB_split _ fun j hj => ?_
      by_cases ht : toE E j = i
      · have := hval j hj ht
        have : poE E j = 0 ∨ poE E j = 1 := by omega
        rcases this with h | h <;> simp [ht, h]
      · have : (toE E j == (i : Int)) = false := by simpa using ht
        simp [this]
    rw [this, hc 0, hc 1]
    have e2 : (List.range (2 : Int).toNat).any (fun p : Nat => !hasB E i p) = (!hasB E i 0 || !hasB E i 1) := by
      show (List.range 2).any _ = _
      simp [List.range_succ]
    rw [e2]
    cases hasB E i 0 <;> cases hasB E i 1 <;> simp

end Go.Proofs.Tryd
