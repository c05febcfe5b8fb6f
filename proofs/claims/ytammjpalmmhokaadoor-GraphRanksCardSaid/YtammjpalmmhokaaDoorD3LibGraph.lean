/- Lemmas on functions of the program, by name: graph. -/
import Derived.Test.YtammjpalmmhokaaDoorD3Funs
import Derived.Test.YtammjpalmmhokaaDoorAbsSums
import Derived.Test.YtammjpalmmhokaaDoorD3LibFw
import Derived.Test.YtammjpalmmhokaaDoorD3LibSets
namespace Go.Proofs.Tryd
open Go Go.Abs


abbrev Node := Int × (Int × ((Int × (Int × (Int × Unit))) × Unit))
abbrev Edge := Int × (Int × (Int × Unit))
/-- May a node be? -/
def mayB (v : Node) : Bool := decide (1 ≤ v.2.1 ∧ v.2.1 ≤ 4 ∧ 1 ≤ v.1 ∧ v.1 ≤ 6 ∧ (v.1 = 1 → v.2.1 = 1) ∧ (v.1 = 4 → v.2.1 ≠ 4) ∧ (5 ≤ v.1 → 2 ≤ v.2.1))
def portsB (v : Node) : Int := if v.1 = 1 then 0 else if v.1 = 3 then 2 else 1
def outB (v : Node) : Int := if v.1 = 4 then v.2.1 + 1 else if v.1 = 5 then v.2.1 - 1 else v.2.1

theorem ite_some {α : Type} (c : Prop) [Decidable c] (a b : α) : (if c then some a else some b) = some (if c then a else b) := by split <;> rfl

theorem ref_NodeMay_eq (v : Node) : ref_NodeMay (v, ()) = some (mayB v, ()) := by
  obtain ⟨k, d, op, _⟩ := v
  unfold ref_NodeMay mayB
  simp only [cond_beq, cond_bne, cond_dec]
  repeat' split
  all_goals first
    | (congr 2; symm; apply decide_eq_false; intro h; obtain ⟨h1, h2, h3, h4, h5, h6, h7⟩ := h; omega)
    | (congr 2; symm; apply decide_eq_true; omega)
    | (congr 2; apply decide_eq_decide.2; omega)

theorem graph_may_eq (v : Node) : graph_may (v, ()) = some (mayB v, ()) := by
  obtain ⟨k, d, op, _⟩ := v
  have w1 : IntKind.i64.wrap ((4 : Int) - 1) = 3 := by decide
  have w2 : IntKind.i64.wrap ((1 : Int) + 1) = 2 := by decide
  unfold graph_may mayB
  simp only [w1, w2, cond_beq, cond_dec]
  have fin : ∀ {p q : Bool}, (p = true ↔ q = true) → some (p, ()) = some (q, ()) := fun h => by rw [Bool.eq_iff_iff.2 h]
  have hk : k = 1 ∨ k = 4 ∨ k = 5 ∨ k = 6 ∨ k = 2 ∨ k = 3 ∨ (k ≠ 1 ∧ k ≠ 4 ∧ k ≠ 5 ∧ k ≠ 6 ∧ k ≠ 2 ∧ k ≠ 3) := by omega
  rcases hk with rfl | rfl | rfl | rfl | rfl | rfl | ⟨h1, h4, h5, h6, h2, h3⟩
  case inr.inr.inr.inr.inr.inr =>
    simp only [h1, h4, h5, h2, h3, if_false, beq_eq_false_iff_ne.2 h6, Option.bind_some, Sum.elim_inl, cond_false]
    refine fin ?_
    simp
    omega
  all_goals
    simp
    split
    · refine fin ?_; simp; omega
    · refine fin ?_; simp; omega

theorem graph_Check_c1_eq (v : Node) : graph_Check_c1 (v, ()) = some (!mayB v, ()) := by
  unfold graph_Check_c1; rw [graph_may_eq]; rfl

theorem graph_Ports_eq (v : Node) : graph_Ports (v, ()) = some (portsB v, ()) := by
  unfold graph_Ports portsB
  simp only [cond_beq]
  split
  · rfl
  · split <;> rfl
theorem ref_Ports_eq (v : Node) : ref_Ports (v, ()) = some (portsB v, ()) := by
  unfold ref_Ports portsB
  simp only [cond_beq]
  split
  · rfl
  · split <;> rfl
theorem may_deep {v : Node} (h : mayB v = true) : 1 ≤ v.2.1 ∧ v.2.1 ≤ 4 := by
  have := of_decide_eq_true h
  exact ⟨this.1, this.2.1⟩
theorem graph_Out_eq {v : Node} (h : mayB v = true) : graph_Out (v, ()) = some (outB v, ()) := by
  have hd := may_deep h
  unfold graph_Out outB
  simp only [cond_beq]
  rw [wrap64 (by omega) (by omega), wrap64 (by omega) (by omega)]
  split
  · rfl
  · split <;> rfl
theorem ref_Out_eq {v : Node} (h : mayB v = true) : ((ref_NodeSum (v, ())).bind fun r => ref_SummaryOut r) = some (outB v, ()) := by
  have hd := may_deep h
  obtain ⟨k, d, op, u⟩ := v
  simp only at hd
  unfold ref_NodeSum ref_SummaryOut outB
  simp only [cond_beq]
  have w : ∀ z : Int, -100 ≤ z → z ≤ 100 → IntKind.i64.wrap z = z := fun z h1 h2 => wrap64 (by omega) (by omega)
  by_cases h4 : k = 4
  · simp only [h4, if_true, Option.bind_some, List.length_cons, List.length_nil]
    rw [w _ (by omega) (by omega)]; rfl
  · by_cases h5 : k = 5
    · subst h5
      simp only [h4, if_false, if_true, Option.bind_some, List.length_nil]
      rw [w (d - 1) (by omega) (by omega), w _ (by omega) (by omega)]
      simp
    · by_cases h6 : k = 6
      · subst h6
        simp only [h4, h5, if_false, if_true, Option.bind_some, List.length_nil]
        rw [w _ (by omega) (by omega)]
        simp
      · simp only [h4, h5, h6, if_false, Option.bind_some, List.length_nil]
        rw [w _ (by omega) (by omega)]
        simp

end Go.Proofs.Tryd
