/- Lemmas on functions of the program, by name: graphc. -/
import Derived.Test.YtammjpalmmhokaaDoorD3Funs
import Derived.Test.YtammjpalmmhokaaDoorAbsSums
import Derived.Test.YtammjpalmmhokaaDoorD3LibGraph8
namespace Go.Proofs.Tryd
open Go Go.Abs


/-! The program's check. -/
theorem graph_fault_eq (a b : Int) : graph_fault (a, b, ()) = some ((a, b, ()), ()) := rfl
theorem replic_cl (n : Nat) : List.replicate n (0 : Int) = cl (tab n fun _ => 0) := by
  unfold cl
  rw [show (tab n fun _ => 0) = List.replicate n 0 from (rep_tab ..).symm, List.map_replicate]
  rfl

section
variable {N : List Node} {E : List Edge}
theorem check_l1 (hn : N.length ≤ 12) : loopM (graph_Check_l1 ((N, E, ()), ())) ((0 : Int), ()) = some (exitOr (((List.range N.length).find? fun i => !mayB (N.getD i v0)).map fun i : Nat => ((i : Int), ())) (.inl ())) := by
  rw [← find_map]
  refine loopM_exit (f := graph_Check_l1 ((N, E, ()), ())) N.length (fun i => ((i : Int), ())) _ _ (fun i hi => ?_) ?_ rfl
  · unfold graph_Check_l1
    simp only [dcT (show (i : Int) < (N.length : Int) by omega), cond_true, getI_D v0 (Int.natCast_nonneg i) (show (i : Int) < (N.length : Int) by omega), Int.toNat_natCast, Option.bind_some, graph_Check_c1_eq]
    rw [wrapS (by omega)]
    cases mayB (N.getD i v0) <;> rfl
  · unfold graph_Check_l1
    simp only [dcF (show ¬ (N.length : Int) < (N.length : Int) by omega), cond_false]

theorem edge_find : (List.range E.length).findSome? (edgeG N E) = ((List.range E.length).find? fun i => edgeC N E i != 0).map fun i => (cl (tab N.length (toW E i)), (edgeC N E i, (i : Int), ()), takenM E i, ()) := by
  rw [← find_map]
  refine congrArg (fun f => (List.range E.length).findSome? f) (funext fun i => ?_)
  unfold edgeG
  rw [cond_bne]

theorem bits_find {n v : Nat} (hv : v < 2 ^ n) : ((List.range n).findSome? fun j => if v.testBit j = true then some (Sum.inl (((j : Int), ()), ()) : (((Int × Unit) × Unit) ⊕ ((Int × Unit) × Unit) ⊕ Empty)) else none) = ((List.range n).find? fun j => v.testBit j).map fun j : Nat => Sum.inl (((j : Int), ()), ()) := by
  rw [← find_map]
  refine congrArg (fun f => (List.range n).findSome? f) (funext fun i => ?_)
  cases v.testBit i <;> rfl

theorem graph_Check_eq (N : List Node) (E : List Edge) : graph_Check ((N, E, ()), ()) = some (gval N E, ()) := by
  unfold graph_Check gval
  by_cases h1 : 12 < N.length
  · simp only [dcT (show (N.length : Int) > 12 by omega), cond_true, if_pos (Or.inl h1 : 12 < N.length ∨ 20 < E.length), graph_fault_eq, Option.bind_some]
  by_cases h2 : 20 < E.length
  · simp only [dcF (show ¬ (N.length : Int) > 12 by omega), dcT (show (E.length : Int) > 20 by omega), cond_true, cond_false, if_pos (Or.inr h2 : 12 < N.length ∨ 20 < E.length), graph_fault_eq, Option.bind_some]
  have hn : N.length ≤ 12 := by omega
  have hE : E.length ≤ 20 := by omega
  simp only [dcF (show ¬ (N.length : Int) > 12 by omega), dcF (show ¬ (E.length : Int) > 20 by omega), cond_false, if_neg (show ¬ (12 < N.length ∨ 20 < E.length) by omega), check_l1 hn, Option.bind_some]
  cases hf1 : (List.range N.length).find? fun i => !mayB (N.getD i v0) with
  | some i =>
    simp only [Option.map_some, exitOr_some, Sum.elim_inl, Option.bind_some, dcT (show (i : Int) ≥ 0 by omega), cond_true, graph_fault_eq]
  | none =>
    have hN := all_may hf1
    have hr4 : roomOk N.length 4 = true := by
      unfold roomOk
      rw [Bool.and_eq_true]
      exact ⟨Nat.ble_eq_true_of_le (by omega), Nat.ble_eq_true_of_le (by omega)⟩
    have d1 : decide ((-1 : Int) ≥ 0) = false := by decide
    simp only [Option.map_none, exitOr_none, Sum.elim_inr, Sum.elim_inl, Option.bind_some, d1, cond_false, dcT (show (0 : Int) ≤ (N.length : Int) by omega), dcT (show (N.length : Int) ≤ (N.length : Int) by omega), Int.toNat_natCast, hr4, dcT (show (N.length : Int) ≤ 9223372036854775807 by omega), Bool.and_self, cond_true, replic_cl, check_l2 hn hN hE, edge_find]
    cases hf2 : (List.range E.length).find? fun i => edgeC N E i != 0 with
    | some i =>
      have hne : (edgeC N E i != 0) = true := by have := List.find?_some hf2; exact this
      simp only [Option.map_some, exitOr_some, Sum.elim_inl, Option.bind_some, hne, cond_true]
    | none =>
      have hok : ∀ j, j < E.length → edgeC N E j = 0 := fun j hj => by simpa using find_none_all hf2 j hj
      have hT : ∀ a, toW E E.length a < 2 ^ N.length := fun a => toW_lt a E.length fun j hj => ⟨(edge_ok (hok j hj)).2.2.1, (edge_ok (hok j hj)).2.2.2.1⟩
      simp only [Option.map_none, exitOr_none, Sum.elim_inr, Sum.elim_inl, Option.bind_some, check_l4 E hn, find_map]
      cases hf3 : (List.range N.length).find? fun i => missB N E i with
      | some i => rfl
      | none =>
        have hb := badN_lt N (toW E E.length) 4
        have h0 : ((0 : Int) != 0) = false := rfl
        have hs : (List.range N.length).find? (fun j => (badN N (toW E E.length) 4).testBit j) = (List.range N.length).find? fun j => ringR N E j := find_congr fun j _ => ring_same hN hok j
        simp only [Option.map_none, exitOr_none, Sum.elim_inr, Sum.elim_inl, Option.bind_some, h0, cond_false, check_l12 E hn hT, wrap_u64 (lt_64 (lt32 hn hb)), check_l13 hn hb, bits_find hb, hs]
        cases hf4 : (List.range N.length).find? fun j => ringR N E j with
        | some j =>
          simp only [Option.map_some, Option.getD_some, Sum.elim_inl, Option.bind_some, dcT (show (j : Int) ≥ 0 by omega), cond_true, graph_fault_eq]
        | none =>
          simp only [Option.map_none, Option.getD_none, Sum.elim_inr, Sum.elim_inl, Option.bind_some, d1, cond_false]
end

end Go.Proofs.Tryd
