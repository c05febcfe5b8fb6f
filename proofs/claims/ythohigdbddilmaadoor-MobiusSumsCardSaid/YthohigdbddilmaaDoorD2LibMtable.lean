/- Lemmas on functions of the program, by name: mtable. -/
import Derived.Test.YthohigdbddilmaaDoorD2Funs
import Derived.Test.YthohigdbddilmaaDoorAbsSums
import Derived.Test.YthohigdbddilmaaDoorD2LibSquare
namespace Go.Proofs.Tryd
open Go Go.Abs


abbrev V64 : Int → Int := IntKind.i64.wrap
/-- A table's entry. -/
def ent (n : Nat) (f : List Int) (a b : Nat) : Int := f.getD (a * n + b) 0
/-- Is a list a table over an order? -/
def IsTab (n : Nat) (ws : List Nat) (f : List Int) : Prop := f.length = n * n ∧ ∀ a b, a < n → b < n → below ws a b = false → ent n f a b = 0
theorem ent_getI {n : Nat} {f : List Int} (h : f.length = n * n) {a b : Nat} (ha : a < n) (hb : b < n) : getI f ((a * n + b : Nat) : Int) = some (ent n f a b) :=
  getI_int (by rw [h]; exact idx_lt ha hb)

open Classical in
theorem mobius_table_eq {n : Nat} {ws : List Nat} (hf : Fit ws) (hl : ws.length = n) (hn : n ≤ 16) (f : List Int) :
    mobius_table (((n : Int), cl ws, ()), f, ()) = some (if IsTab n ws f then (((n : Int), f, ()), true, ()) else ((0, [], ()), false, ())) := by
  unfold mobius_table
  by_cases hlen : f.length = n * n
  · have e0 : ((f.length : Int) != IntKind.i64.wrap ((n : Int) * (n : Int))) = false := bneF (by rw [sq_wrap hn, hlen])
    have hloop := loopM_stop (f := mobius_table_l1 (((n : Int), cl ws, ()), f, ())) (n * n) (fun k => ((k : Int), ((0 : Int), ([] : List Int), ()), ())) (fun p => cond (decide (ent n f (p / n) (p % n) ≠ 0) && !below ws (p / n) (p % n)) (some (.inl (false, (0, [], ()), ()))) none) (.inr (.inl ((0, [], ()), ()))) (fun p hp => by
      have hi := idx_of hp
      have h2 := sq_le hn
      have hn0 : (((n : Int)) == 0) = false := beqF (by omega)
      have e1 : IntKind.i64.wrap ((p : Int).tdiv (n : Int)) = ((p / n : Nat) : Int) := by rw [← Int.ofNat_tdiv]; exact wrapN (Nat.lt_of_lt_of_le hi.1 (by omega))
      have e2 : (p : Int).tmod (n : Int) = ((p % n : Nat) : Int) := (Int.ofNat_tmod p n).symm
      have e3 : f.getD p 0 = ent n f (p / n) (p % n) := by unfold ent; rw [hi.2.2]
      unfold mobius_table_l1
      simp (disch := first | assumption | omega) only [cond_true, cond_false, Option.bind_some, dcT, getI_cl, wrapS, getI_int, e1, e2, e3, hn0, has_D hf]
      by_cases hz : ent n f (p / n) (p % n) = 0
      · simp (disch := first | assumption | omega) only [cond_false, dcF, bneF, hz, Bool.false_and]
      · simp (disch := first | assumption | omega) only [cond_true, dcT, Bool.true_and, bneT]
        cases below ws (p / n) (p % n) <;> rfl) (by
      unfold mobius_table_l1
      simp (disch := first | assumption | omega) only [cond_false, dcF, hlen])
    rw [show (((0 : Nat) : Int), ((0 : Int), ([] : List Int), ()), ()) = ((0 : Int), ((0 : Int), ([] : List Int), ()), ()) from rfl] at hloop
    simp (disch := first | assumption | omega) only [cond_false, Option.bind_some, e0, hloop]
    rcases first_cases (n * n) (fun p => decide (ent n f (p / n) (p % n) ≠ 0) && !below ws (p / n) (p % n)) with ⟨p, hp, hb, -, he⟩ | ⟨hb, he⟩
    · have : ¬ IsTab n ws f := fun h => by
        have h1 := idx_of hp
        have h2 := h.2 (p / n) (p % n) h1.1 h1.2.1
        simp only [Bool.and_eq_true, decide_eq_true_eq, Bool.not_eq_true'] at hb
        exact hb.1 (h2 hb.2)
      simp (disch := first | assumption | omega) only [Sum.elim_inl, if_false, he, this]
    · have : IsTab n ws f := ⟨hlen, fun a b ha hb' hbel => by
        have h := hb _ (idx_lt ha hb')
        rw [idx_div hb', idx_mod hb', hbel] at h
        simpa using h⟩
      simp (disch := first | assumption | omega) only [Sum.elim_inl, Sum.elim_inr, if_true, he, this]
  · have : ¬ IsTab n ws f := fun h => hlen h.1
    simp (disch := first | assumption | omega) only [cond_true, if_false, bneT, sq_wrap hn, this]

open Classical in
theorem ref_Table_eq {n : Nat} {ws : List Nat} (hf : Fit ws) (hl : ws.length = n) (hn : n ≤ 16) (f : List Int) :
    ref_Table (((n : Int), cl ws, ()), f, ()) = some (decide (IsTab n ws f), ()) := by
  unfold ref_Table
  by_cases hlen : f.length = n * n
  · have e0 : ((f.length : Int) != IntKind.i64.wrap ((n : Int) * (n : Int))) = false := bneF (by rw [sq_wrap hn, hlen])
    have h1 : ∀ a, a < n → loopM (ref_Table_l1 (((n : Int), cl ws, ()), f, ()) ((a : Int), ())) (0, ()) = some (if (List.range n).any (fun b => !below ws a b && decide (ent n f a b ≠ 0)) = true then .inl (false, ()) else .inr (.inl ())) := fun a ha => by
      refine loopM_any0 n () _ _ _ (fun b hb => ?_) ?_
      · unfold ref_Table_l1
        simp (disch := first | assumption | omega) only [cond_true, Option.bind_some, dcT, wrapS, ref_Below_eq hf (show a < ws.length by omega) (show b < 2 ^ 64 by omega), idx_wrap ha hb hn, ent_getI hlen ha hb]
        cases below ws a b
        · by_cases hz : ent n f a b = 0
          · simp (disch := first | assumption | omega) only [cond_true, cond_false, dcF, Bool.true_and, Bool.not_false, Bool.false_eq_true, if_false, bneF, hz] <;> rfl
          · simp (disch := first | assumption | omega) only [cond_true, dcT, Bool.and_self, Bool.not_false, if_true, bneT] <;> rfl
        · rfl
      · unfold ref_Table_l1
        simp (disch := first | assumption | omega) only [cond_false, dcF, wrapS]
    have h2 : loopM (ref_Table_l2 (((n : Int), cl ws, ()), f, ())) (0, ()) = some (if (List.range n).any (fun a => (List.range n).any (fun b => !below ws a b && decide (ent n f a b ≠ 0))) = true then .inl (false, ()) else .inr (.inl ())) := by
      refine loopM_any0 n () _ _ _ (fun a ha => ?_) ?_
      · unfold ref_Table_l2
        simp (disch := first | assumption | omega) only [cond_true, Option.bind_some, dcT, wrapS, h1 a ha]
        cases (List.range n).any (fun b => !below ws a b && decide (ent n f a b ≠ 0)) <;> rfl
      · unfold ref_Table_l2
        simp (disch := first | assumption | omega) only [cond_false, dcF, wrapS]
    simp (disch := first | assumption | omega) only [cond_false, Option.bind_some, e0, h2]
    by_cases ht : IsTab n ws f
    · have : (List.range n).any (fun a => (List.range n).any (fun b => !below ws a b && decide (ent n f a b ≠ 0))) = false := by
        rw [List.any_eq_false]
        intro a ha
        rw [Bool.not_eq_true, List.any_eq_false]
        intro b hb
        have := ht.2 a b (List.mem_range.1 ha) (List.mem_range.1 hb)
        cases h : below ws a b
        · simp [this h]
        · simp
      simp (disch := first | assumption | omega) only [decide_true, Sum.elim_inl, Sum.elim_inr, Bool.false_eq_true, if_false, this, ht]
    · have : (List.range n).any (fun a => (List.range n).any (fun b => !below ws a b && decide (ent n f a b ≠ 0))) = true := by
        cases h : (List.range n).any (fun a => (List.range n).any (fun b => !below ws a b && decide (ent n f a b ≠ 0)))
        · refine absurd ⟨hlen, fun a b ha hb hbel => ?_⟩ ht
          have h1 := List.any_eq_false.1 h a (List.mem_range.2 ha)
          rw [Bool.not_eq_true] at h1
          have h2 := List.any_eq_false.1 h1 b (List.mem_range.2 hb)
          rw [hbel] at h2
          simpa using h2
        · rfl
      simp (disch := first | assumption | omega) only [decide_false, Sum.elim_inl, if_true, this, ht]
  · have : ¬ IsTab n ws f := fun h => hlen h.1
    simp (disch := first | assumption | omega) only [decide_false, cond_true, bneT, sq_wrap hn, this]

end Go.Proofs.Tryd
