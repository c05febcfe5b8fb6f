/- Lemmas on functions of the program, by name: graph9. -/
import Derived.Test.YtammjpalmmhokaaDoorD3Funs
import Derived.Test.YtammjpalmmhokaaDoorAbsSums
import Derived.Test.YtammjpalmmhokaaDoorD3LibGraph8
namespace Go.Proofs.Tryd
open Go Go.Abs


/-! A graph without faults: no node waits for itself; so among those that are not done one is ready. -/
section
variable {N : List Node} {E : List Edge}
theorem gval_zero {N : List Node} {E : List Edge} (h : (gval N E).1 = 0) : gval N E = (0, 0, ()) ∧ N.length ≤ 12 ∧ E.length ≤ 20 ∧ N.all mayB = true ∧ (∀ j, j < E.length → edgeC N E j = 0) ∧ ∀ j, j < N.length → ringR N E j = false := by
  unfold gval at h ⊢
  by_cases h1 : 12 < N.length ∨ 20 < E.length
  · rw [if_pos h1] at h; cases h
  rw [if_neg h1] at h ⊢
  cases hf1 : (List.range N.length).find? fun i => !mayB (N.getD i v0) with
  | some i => rw [hf1] at h; cases h
  | none =>
    rw [hf1] at h
    simp only at h ⊢
    cases hf2 : (List.range E.length).find? fun i => edgeC N E i != 0 with
    | some i =>
      rw [hf2] at h
      have := List.find?_some hf2
      simp only [bne_iff_ne] at this
      exact absurd h this
    | none =>
      rw [hf2] at h
      simp only at h ⊢
      cases hf3 : (List.range N.length).find? fun i => missB N E i with
      | some i => rw [hf3] at h; cases h
      | none =>
        rw [hf3] at h
        simp only at h ⊢
        cases hf4 : (List.range N.length).find? fun j => ringR N E j with
        | some j => rw [hf4] at h; cases h
        | none => exact ⟨rfl, by omega, by omega, all_may hf1, fun j hj => by simpa using find_none_all hf2 j hj, find_none_all hf4⟩

/-- b waits for a. -/
def waitB (N : List Node) (E : List Edge) (m : Nat) (a b : Nat) : Bool := kindAt N a != 6 && (List.range m).any fun j => frE E j == (a : Int) && toE E j == (b : Int)
theorem wait_iff {a b : Nat} : waitB N E E.length a b = true ↔ kindAt N a ≠ 6 ∧ ∃ j, j < E.length ∧ frE E j = a ∧ toE E j = b := by
  unfold waitB
  rw [Bool.and_eq_true, List.any_eq_true, bne_iff_ne]
  constructor
  · rintro ⟨h1, j, h3, h4⟩
    rw [Bool.and_eq_true, beq_iff_eq, beq_iff_eq] at h4
    exact ⟨h1, j, List.mem_range.1 h3, h4⟩
  · rintro ⟨h1, j, h3, h4, h5⟩
    exact ⟨h1, j, List.mem_range.2 h3, by rw [h4, h5]; simp⟩
theorem wait_lt (hok : ∀ j, j < E.length → edgeC N E j = 0) {a b : Nat} (h : waitB N E E.length a b = true) : a < N.length ∧ b < N.length := by
  obtain ⟨_, j, hj, h1, h2⟩ := wait_iff.1 h
  have he := edge_ok (hok j hj)
  rw [h1, h2] at he
  exact ⟨by have := he.2.1; omega, by have := he.2.2.2.1; omega⟩
theorem way_first {A : Nat → Nat → Bool} {i j : Nat} (h : Way A i j) : ∃ k, A i k = true := by
  induction h with
  | one h => exact ⟨_, h⟩
  | more _ _ ih => exact ih

theorem least_of {n : Nat} {p : Nat → Prop} (f : Nat → Nat) (h : ∃ i, p i) (hb : ∀ i, p i → f i ≤ n) : ∃ i, p i ∧ ∀ j, p j → f i ≤ f j := by
  have key : ∀ m i, p i → f i ≤ m → ∃ i, p i ∧ ∀ j, p j → f i ≤ f j := by
    intro m
    induction m with
    | zero => intro i hi h0; exact ⟨i, hi, fun j _ => by omega⟩
    | succ m ih =>
      intro i hi hm
      by_cases hx : ∃ j, p j ∧ f j ≤ m
      · obtain ⟨j, h1, h2⟩ := hx; exact ih j h1 h2
      · refine ⟨i, hi, fun j hj => ?_⟩
        by_cases hjm : f j ≤ m
        · exact absurd ⟨j, hj, hjm⟩ hx
        · omega
  obtain ⟨i, hi⟩ := h
  exact key n i hi (hb i hi)

theorem no_wait (hN : N.all mayB = true) (hok : ∀ j, j < E.length → edgeC N E j = 0) (hr : ∀ j, j < N.length → ringR N E j = false) (i : Nat) : ¬ Way (waitB N E E.length) i i := by
  intro hw
  have hcyc : ∀ j, (Way (waitB N E E.length) i j ∧ Way (waitB N E E.length) j i) → j < N.length ∧ kindAt N j ≠ 6 := fun j h => by
    obtain ⟨k, hk⟩ := way_first h.2
    exact ⟨(wait_lt hok hk).1, (wait_iff.1 hk).1⟩
  have hdeep : ∀ j, j < N.length → 1 ≤ deepAt N j ∧ deepAt N j ≤ 4 := fun j hj => may_deep (may_at hN (Int.natCast_nonneg j) (by omega))
  obtain ⟨j, hj, hmin⟩ := least_of (n := 4) (p := fun j => Way (waitB N E E.length) i j ∧ Way (waitB N E E.length) j i) (fun j => (deepAt N j).toNat) ⟨i, hw, hw⟩ fun j h => by have := hdeep j (hcyc j h).1; omega
  have hjn := (hcyc j hj).1
  have hjd := hdeep j hjn
  have hin : ∀ k, Way (waitB N E E.length) j k → Way (waitB N E E.length) k j → insB N (deepAt N j).toNat k = true := fun k h1 h2 => by
    have hk : Way (waitB N E E.length) i k ∧ Way (waitB N E E.length) k i := ⟨hj.1.trans h1, h2.trans hj.2⟩
    have hkd := hdeep k (hcyc k hk).1
    have hle : (deepAt N j).toNat ≤ (deepAt N k).toNat := hmin k hk
    unfold insB
    rw [Bool.or_eq_true, Bool.and_eq_true, decide_eq_true_eq, beq_iff_eq, bne_iff_ne]
    by_cases he : deepAt N k = ((deepAt N j).toNat : Int)
    · exact .inr ⟨he, (hcyc k hk).2⟩
    · exact .inl (by omega)
  have hall : ∀ k, Way (waitB N E E.length) j k → Way (waitB N E E.length) k j → Way (edM N E (deepAt N j).toNat E.length) j k := fun k h1 => by
    have hjj : Way (waitB N E E.length) j j := hj.2.trans hj.1
    induction h1 with
    | one h => exact fun h2 => .one (edM_iff.2 ⟨hin j hjj hjj, hin _ (.one h) h2, (wait_iff.1 h).2⟩)
    | more h1 h ih =>
      rename_i a b
      exact fun h2 => by
        have hb : Way (waitB N E E.length) a j := (Way.one h).trans h2
        exact .more (ih hb) (edM_iff.2 ⟨hin _ h1 hb, hin _ (.more h1 h) h2, (wait_iff.1 h).2⟩)
  have hjj : Way (waitB N E E.length) j j := hj.2.trans hj.1
  have h1 := (fwN_all (fun a b h => edM_lt hok h) j j).2 (hall j hjj hjj)
  have : ringR N E j = true := by
    unfold ringR
    rw [List.any_eq_true]
    exact ⟨j, List.mem_range.2 hjn, by rw [h1]; rfl⟩
  rw [hr j hjn] at this
  cases this

/-- Ready: not done, and all it waits for is done. -/
def readyB (N : List Node) (E : List Edge) (out : List Nat) (i : Nat) : Bool := !out.contains i && (List.range N.length).all fun a => !waitB N E E.length a i || out.contains a

theorem ready_ex (hN : N.all mayB = true) (hok : ∀ j, j < E.length → edgeC N E j = 0) (hr : ∀ j, j < N.length → ringR N E j = false) {out : List Nat} (h : ∃ i, i < N.length ∧ out.contains i = false) : ∃ i, i < N.length ∧ readyB N E out i = true := by
  have hclass : ∀ a b : Nat, Decidable (Way (waitB N E E.length) a b) := fun a b => Classical.propDecidable _
  obtain ⟨i, ⟨hi, hout⟩, hmin⟩ := least_of (n := N.length) (p := fun i => i < N.length ∧ out.contains i = false) (fun i => cntB N.length fun a => @decide (Way (waitB N E E.length) a i) (hclass a i)) h fun i _ => cntB_le _ _
  refine ⟨i, hi, ?_⟩
  unfold readyB
  rw [hout, Bool.not_false, Bool.true_and, List.all_eq_true]
  intro a ha
  have han := List.mem_range.1 ha
  cases hw : waitB N E E.length a i with
  | false => rfl
  | true =>
    cases ho : out.contains a with
    | true => rfl
    | false =>
      exfalso
      have hle := hmin a ⟨han, ho⟩
      have := cntB_more (p := fun b => @decide (Way (waitB N E E.length) b a) (hclass b a)) (q := fun b => @decide (Way (waitB N E E.length) b i) (hclass b i)) N.length (fun b _ hb => decide_eq_true (.more (of_decide_eq_true hb) hw)) ⟨a, han, decide_eq_false (no_wait hN hok hr a), decide_eq_true (.one hw)⟩
      omega
end

end Go.Proofs.Tryd
