/- Lemmas on functions of the program, by name: graph2. -/
import Derived.Test.YtammjpalmmhokaaDoorD3Funs
import Derived.Test.YtammjpalmmhokaaDoorAbsSums
import Derived.Test.YtammjpalmmhokaaDoorD3LibGraph
namespace Go.Proofs.Tryd
open Go Go.Abs


theorem loopM_exitI {σ U β : Type} {f : σ → Option (σ ⊕ (U ⊕ β))} (n : Nat) (s : Nat → σ) (g : Nat → Option U) (e : β)
    (h : ∀ i, i < n → (∀ j, j < i → g j = none) → f (s i) = some (stepOr (g i) (s (i + 1)))) (hend : (∀ j, j < n → g j = none) → f (s n) = some (.inr (.inr e))) :
    loopM f (s 0) = some (exitOr ((List.range n).findSome? g) e) := by
  have key : ∀ k i, i + k = n → (∀ j, j < i → g j = none) → loopM f (s i) = some (exitOr ((List.range' i k).findSome? g) e) := by
    intro k
    induction k with
    | zero => intro i hi hn; have : i = n := by omega
              subst this; rw [loopM_inr (hend hn)]; rfl
    | succ k ih =>
      intro i hi hn
      have hs := h i (by omega) hn
      rw [List.range'_succ, List.findSome?_cons]
      cases hg : g i with
      | some b => rw [hg] at hs; rw [loopM_inr hs]; rfl
      | none =>
        rw [hg] at hs
        rw [loopM_inl hs]
        refine ih (i + 1) (by omega) fun j hj => ?_
        by_cases hji : j = i
        · rw [hji]; exact hg
        · exact hn j (by omega)
  have := key n 0 (by omega) (fun j hj => by omega)
  rw [List.range_eq_range']; exact this

def e0 : Edge := (0, 0, 0, ())
def v0 : Node := (0, 0, (0, 0, 0, ()), ())
def frE (E : List Edge) (i : Nat) : Int := (E.getD i e0).1
def toE (E : List Edge) (i : Nat) : Int := (E.getD i e0).2.1
def poE (E : List Edge) (i : Nat) : Int := (E.getD i e0).2.2.1
/-- Goes an earlier edge to the same port? -/
def twiceB (E : List Edge) (i : Nat) : Bool := (List.range i).any fun j => toE E j == toE E i && poE E j == poE E i
/-- What is wrong with an edge. -/
def edgeC (N : List Node) (E : List Edge) (i : Nat) : Int :=
  if frE E i < 0 ∨ (N.length : Int) ≤ frE E i ∨ toE E i < 0 ∨ (N.length : Int) ≤ toE E i then 8
  else if poE E i < 0 ∨ portsB (N.getD (toE E i).toNat v0) ≤ poE E i then 8
  else if twiceB E i = true then 8
  else if outB (N.getD (frE E i).toNat v0) = (N.getD (toE E i).toNat v0).2.1 then 0 else 7

theorem getI_D {α : Type} {l : List α} {i : Int} (d : α) (h0 : 0 ≤ i) (h1 : i < l.length) : getI l i = some (l.getD i.toNat d) := by
  obtain ⟨k, rfl⟩ := Int.eq_ofNat_of_zero_le h0
  rw [getI_nat]
  rw [Int.toNat_natCast]
  exact getD_get (by omega)
theorem may_at {N : List Node} (hN : N.all mayB = true) {i : Int} (h0 : 0 ≤ i) (h1 : i < N.length) : mayB (N.getD i.toNat v0) = true := by
  have hlt : i.toNat < N.length := by omega
  rw [List.getD_eq_getElem?_getD, List.getElem?_eq_getElem hlt]
  exact List.all_eq_true.1 hN _ (List.getElem_mem hlt)

theorem edge_same (N : List Node) {E : List Edge} (hE : E.length ≤ 20) {i : Nat} (hi : i < E.length) :
    loopM (ref_edge_l1 ((N, E, ()), (i : Int), ()) (E.getD i e0)) ((0 : Int), ()) = some (if twiceB E i = true then .inl (8, ()) else .inr (.inl ())) := by
  have h := loopM_exit (f := ref_edge_l1 ((N, E, ()), (i : Int), ()) (E.getD i e0)) i (fun j => ((j : Int), ())) (fun j => cond (toE E j == toE E i && poE E j == poE E i) (some (8, ())) none) (.inl ()) (fun j hj => by
    unfold ref_edge_l1
    simp only [dcT (show (j : Int) < (i : Int) by omega), cond_true, getI_D e0 (Int.natCast_nonneg j) (show (j : Int) < (E.length : Int) by omega), Int.toNat_natCast, Option.bind_some]
    rw [wrapS (by omega)]
    show (cond (toE E j == toE E i) _ _) = _
    cases h1 : toE E j == toE E i with
    | false => rfl
    | true =>
      show (cond (poE E j == poE E i) _ _) = _
      cases h2 : poE E j == poE E i <;> rfl) (by
    unfold ref_edge_l1
    simp only [dcF (show ¬ (i : Int) < (i : Int) by omega), cond_false]) rfl
  refine Eq.trans h ?_
  have : ((List.range i).findSome? fun j => cond (toE E j == toE E i && poE E j == poE E i) (some ((8 : Int), ())) none) = if twiceB E i = true then some (8, ()) else none := by
    unfold twiceB
    cases ha : (List.range i).any (fun j => toE E j == toE E i && poE E j == poE E i) with
    | true =>
      rw [if_pos rfl]
      obtain ⟨j, hj, hb⟩ := List.any_eq_true.1 ha
      cases hf : (List.range i).findSome? fun j => cond (toE E j == toE E i && poE E j == poE E i) (some ((8 : Int), ())) none with
      | none =>
        have := List.findSome?_eq_none_iff.1 hf j hj
        rw [hb] at this; cases this
      | some z =>
        obtain ⟨l1, a, l2, _, h3, _⟩ := List.findSome?_eq_some_iff.1 hf
        cases hq : (toE E a == toE E i && poE E a == poE E i) with
        | true => rw [hq] at h3; exact h3.symm
        | false => rw [hq] at h3; cases h3
    | false =>
      rw [if_neg (by simp)]
      refine List.findSome?_eq_none_iff.2 fun j hj => ?_
      have := List.any_eq_false.1 ha j hj
      cases hq : (toE E j == toE E i && poE E j == poE E i) with
      | true => exact absurd hq this
      | false => rfl
  rw [this]
  split <;> rfl

theorem ref_edge_eq {N : List Node} {E : List Edge} (hN : N.all mayB = true) (hE : E.length ≤ 20) {i : Nat} (hi : i < E.length) : ref_edge ((N, E, ()), (i : Int), ()) = some (edgeC N E i, ()) := by
  unfold ref_edge edgeC
  simp only [getI_D e0 (Int.natCast_nonneg i) (show (i : Int) < (E.length : Int) by omega), Int.toNat_natCast, Option.bind_some]
  show (cond (decide (frE E i < 0)) _ (cond (decide (frE E i ≥ (N.length : Int))) _ (cond (decide (toE E i < 0)) _ (cond (decide (toE E i ≥ (N.length : Int))) _ (cond (decide (poE E i < 0)) _ ((getI N (toE E i)).bind _)))))) = _
  by_cases h1 : frE E i < 0
  · simp [h1]
  by_cases h2 : frE E i ≥ (N.length : Int)
  · simp [h1, h2]
  by_cases h3 : toE E i < 0
  · simp [h1, h2, h3]
  by_cases h4 : toE E i ≥ (N.length : Int)
  · simp [h1, h2, h3, h4]
  have hno : ¬ (frE E i < 0 ∨ (N.length : Int) ≤ frE E i ∨ toE E i < 0 ∨ (N.length : Int) ≤ toE E i) := by omega
  simp only [dcF h1, dcF h2, dcF h3, dcF h4, cond_false, if_neg hno]
  by_cases h5 : poE E i < 0
  · simp [h5]
  have hto := getI_D (l := N) v0 (Int.not_lt.1 h3) (Int.not_le.1 h4)
  simp only [dcF h5, cond_false, hto, Option.bind_some, ref_Ports_eq]
  show (cond (decide (poE E i ≥ portsB (N.getD (toE E i).toNat v0))) _ _) = _
  by_cases h6 : poE E i ≥ portsB (N.getD (toE E i).toNat v0)
  · rw [dcT h6, cond_true, if_pos (.inr (by omega))]
  have hno2 : ¬ (poE E i < 0 ∨ portsB (N.getD (toE E i).toNat v0) ≤ poE E i) := by omega
  simp only [dcF h6, cond_false, if_neg hno2]
  rw [edge_same N hE hi]
  by_cases h7 : twiceB E i = true
  · simp [h7]
  simp only [h7, Option.bind_some]
  have hfr := getI_D (l := N) v0 (Int.not_lt.1 h1) (Int.not_le.1 h2)
  show ((getI N (frE E i)).bind _) = _
  rw [hfr, Option.bind_some]
  have hout := ref_Out_eq (may_at hN (Int.not_lt.1 h1) (Int.not_le.1 h2))
  obtain ⟨r, hr, hr2⟩ := Option.bind_eq_some_iff.1 hout
  rw [hr, Option.bind_some, hr2, Option.bind_some]
  show ((getI N (toE E i)).bind _) = _
  rw [hto, Option.bind_some]
  show (cond (outB (N.getD (frE E i).toNat v0) != (N.getD (toE E i).toNat v0).2.1) _ _) = _
  rw [cond_bne]
  split <;> rfl

/-- What is taken, behind so many edges. -/
abbrev tkT : Ty := .cons (.int .i64) (.cons (.int .i64) .nil)
def takenM (E : List Edge) : Nat → List ((Int × (Int × Unit)) × Int)
  | 0 => []
  | i + 1 => mapSet tkT (takenM E i) (toE E i, poE E i, ()) (i : Int)
theorem taken_has (E : List Edge) (t p : Int) : ∀ i, (mapGet tkT (takenM E i) (t, p, ())).isSome = (List.range i).any fun j => toE E j == t && poE E j == p
  | 0 => rfl
  | i + 1 => by
    rw [List.range_succ, List.any_append, ← taken_has E t p i]
    simp only [takenM, List.any_cons, List.any_nil, Bool.or_false]
    by_cases h : ((t, p, ()) : tkT.den) = (toE E i, poE E i, ())
    · have h1 : toE E i = t := by have := congrArg (·.1) h; exact this.symm
      have h2 : poE E i = p := by have := congrArg (·.2.1) h; exact this.symm
      rw [h, mapGet_self rfl]
      simp [h1, h2]
    · rw [mapGet_other rfl _ _ _ _ h]
      have : (toE E i == t && poE E i == p) = false := by
        rw [Bool.and_eq_false_iff, beq_eq_false_iff_ne, beq_eq_false_iff_ne]
        by_cases h1 : toE E i = t
        · right; intro h2; exact h (by rw [h1, h2])
        · exact .inl h1
      rw [this, Bool.or_false]

/-- Where edges go from each node, behind so many. -/
def toW (E : List Edge) : Nat → Nat → Nat
  | 0, _ => 0
  | i + 1, a => if (a : Int) = frE E i then toW E i a ||| 2 ^ (toE E i).toNat else toW E i a
theorem toW_bit (E : List Edge) (a b : Nat) : ∀ i, (∀ j, j < i → 0 ≤ toE E j) → ((toW E i a).testBit b = true ↔ ∃ j, j < i ∧ frE E j = a ∧ toE E j = b)
  | 0, _ => by simp [toW]
  | i + 1, h => by
    have ih := toW_bit E a b i (fun j hj => h j (by omega))
    have hto := h i (by omega)
    simp only [toW]
    constructor
    · intro hb
      split at hb
      · rename_i hf
        rw [Nat.testBit_or, Bool.or_eq_true] at hb
        rcases hb with hb | hb
        · obtain ⟨j, h1, h2⟩ := ih.1 hb; exact ⟨j, by omega, h2⟩
        · rw [Nat.testBit_two_pow, decide_eq_true_eq] at hb
          exact ⟨i, by omega, hf.symm, by omega⟩
      · obtain ⟨j, h1, h2⟩ := ih.1 hb; exact ⟨j, by omega, h2⟩
    · rintro ⟨j, h1, h2, h3⟩
      by_cases hj : j = i
      · subst hj
        rw [if_pos h2.symm, Nat.testBit_or, Nat.testBit_two_pow, decide_eq_true (by omega : (toE E j).toNat = b), Bool.or_true]
      · have := ih.2 ⟨j, by omega, h2, h3⟩
        split
        · rw [Nat.testBit_or, this, Bool.true_or]
        · exact this
theorem toW_lt {E : List Edge} {n : Nat} (a : Nat) : ∀ i, (∀ j, j < i → 0 ≤ toE E j ∧ toE E j < n) → toW E i a < 2 ^ n
  | 0, _ => Nat.two_pow_pos n
  | i + 1, h => by
    have ih := toW_lt a i (fun j hj => h j (by omega))
    have hto := h i (by omega)
    simp only [toW]
    split
    · exact Nat.or_lt_two_pow ih (Nat.pow_lt_pow_right (by decide) (by omega))
    · exact ih

end Go.Proofs.Tryd
