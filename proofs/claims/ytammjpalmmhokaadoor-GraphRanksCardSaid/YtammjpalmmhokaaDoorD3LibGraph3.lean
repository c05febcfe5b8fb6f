/- Lemmas on functions of the program, by name: graph3. -/
import Derived.Test.YtammjpalmmhokaaDoorD3Funs
import Derived.Test.YtammjpalmmhokaaDoorAbsSums
import Derived.Test.YtammjpalmmhokaaDoorD3LibGraph2
namespace Go.Proofs.Tryd
open Go Go.Abs


theorem edge_ok {N : List Node} {E : List Edge} {i : Nat} (h : edgeC N E i = 0) : 0 ≤ frE E i ∧ frE E i < N.length ∧ 0 ≤ toE E i ∧ toE E i < N.length ∧ 0 ≤ poE E i ∧ poE E i < portsB (N.getD (toE E i).toNat v0) ∧ twiceB E i = false ∧
    outB (N.getD (frE E i).toNat v0) = (N.getD (toE E i).toNat v0).2.1 := by
  unfold edgeC at h
  split at h
  · cases h
  · rename_i h1
    split at h
    · cases h
    · rename_i h2
      split at h
      · cases h
      · rename_i h3
        split at h
        · rename_i h4
          exact ⟨by omega, by omega, by omega, by omega, by omega, by omega, by simpa using h3, h4⟩
        · cases h

abbrev XG := (((List (Int × (Int × ((Int × (Int × (Int × Unit))) × Unit)))) × ((List (Int × (Int × (Int × Unit)))) × Unit)) × Unit)

def edgeG (N : List Node) (E : List Edge) (i : Nat) : Option (List Int × (Int × Int × Unit) × List ((Int × (Int × Unit)) × Int) × Unit) :=
  if edgeC N E i = 0 then none else some (cl (tab N.length (toW E i)), (edgeC N E i, (i : Int), ()), takenM E i, ())

theorem check_l2 {N : List Node} {E : List Edge} (hn : N.length ≤ 12) (hN : N.all mayB = true) (hE : E.length ≤ 20) :
    loopM (graph_Check_l2 ((N, E, ()), ())) ((0 : Int), cl (tab N.length fun _ => 0), ((0 : Int), (0 : Int), ()), ([] : List ((Int × (Int × Unit)) × Int)), ()) =
      some (exitOr ((List.range E.length).findSome? (edgeG N E)) (.inl (cl (tab N.length (toW E E.length)), ((0 : Int), (0 : Int), ()), takenM E E.length, ()))) := by
  refine loopM_exitI (f := graph_Check_l2 ((N, E, ()), ())) E.length (fun i => ((i : Int), cl (tab N.length (toW E i)), ((0 : Int), (0 : Int), ()), takenM E i, ())) (edgeG N E) _ (fun i hi hprev => ?_) (fun _ => ?_)
  · have hok : ∀ j, j < i → edgeC N E j = 0 := fun j hj => by
      have := hprev j hj
      unfold edgeG at this
      split at this
      · assumption
      · cases this
    have hw : ∀ a, toW E i a < 2 ^ 32 := fun a => Nat.lt_of_lt_of_le (toW_lt a i fun j hj => ⟨(edge_ok (hok j hj)).2.2.1, (edge_ok (hok j hj)).2.2.2.1⟩) (Nat.pow_le_pow_right (by decide) (by omega))
    unfold graph_Check_l2 edgeG edgeC
    simp only [dcT (show (i : Int) < (E.length : Int) by omega), cond_true, getI_D e0 (Int.natCast_nonneg i) (show (i : Int) < (E.length : Int) by omega), Int.toNat_natCast, Option.bind_some]
    show (cond (decide ((if toE E i < frE E i then toE E i else frE E i) < 0)) _ (cond (decide ((if toE E i > frE E i then toE E i else frE E i) ≥ (N.length : Int))) _ (cond (decide (poE E i < 0)) _ ((getI N (toE E i)).bind _)))) = _
    by_cases h1 : (if toE E i < frE E i then toE E i else frE E i) < 0
    · have hy : frE E i < 0 ∨ (N.length : Int) ≤ frE E i ∨ toE E i < 0 ∨ (N.length : Int) ≤ toE E i := by split at h1 <;> omega
      rw [dcT h1, cond_true, if_pos hy]
      rfl
    by_cases h2 : (if toE E i > frE E i then toE E i else frE E i) ≥ (N.length : Int)
    · have hy : frE E i < 0 ∨ (N.length : Int) ≤ frE E i ∨ toE E i < 0 ∨ (N.length : Int) ≤ toE E i := by split at h2 <;> omega
      rw [dcF h1, cond_false, dcT h2, cond_true, if_pos hy]
      rfl
    have hno : ¬ (frE E i < 0 ∨ (N.length : Int) ≤ frE E i ∨ toE E i < 0 ∨ (N.length : Int) ≤ toE E i) := by
      split at h1 <;> split at h2 <;> omega
    have f0 : 0 ≤ frE E i := by omega
    have f1 : frE E i < N.length := by omega
    have t0 : 0 ≤ toE E i := by omega
    have t1 : toE E i < N.length := by omega
    rw [dcF h1, cond_false, dcF h2, cond_false]
    simp only [if_neg hno]
    by_cases h5 : poE E i < 0
    · have hy : poE E i < 0 ∨ portsB (N.getD (toE E i).toNat v0) ≤ poE E i := .inl h5
      rw [dcT h5, cond_true]; simp only [if_pos hy]; rfl
    have hto := getI_D (l := N) v0 t0 t1
    rw [dcF h5, cond_false, hto, Option.bind_some, graph_Ports_eq, Option.bind_some]
    show (cond (decide (poE E i ≥ portsB (N.getD (toE E i).toNat v0))) _ _) = _
    by_cases h6 : poE E i ≥ portsB (N.getD (toE E i).toNat v0)
    · have hy : poE E i < 0 ∨ portsB (N.getD (toE E i).toNat v0) ≤ poE E i := .inr h6
      rw [dcT h6, cond_true]; simp only [if_pos hy]; rfl
    have hno2 : ¬ (poE E i < 0 ∨ portsB (N.getD (toE E i).toNat v0) ≤ poE E i) := by omega
    rw [dcF h6, cond_false]
    simp only [if_neg hno2]
    have htk : (mapGet tkT (takenM E i) (toE E i, poE E i, ())).isSome = twiceB E i := taken_has E _ _ i
    show (cond (mapGet tkT (takenM E i) (toE E i, poE E i, ())).isSome _ _) = _
    rw [htk]
    cases h7 : twiceB E i with
    | true => rfl
    | false =>
      rw [cond_false]
      simp only [if_neg (show ¬ (false = true) by simp)]
      have hfr := getI_D (l := N) v0 f0 f1
      show ((getI N (frE E i)).bind _) = _
      rw [hfr, Option.bind_some, graph_Out_eq (may_at hN f0 f1), Option.bind_some]
      show ((getI N (toE E i)).bind _) = _
      rw [hto, Option.bind_some]
      show (cond (outB (N.getD (frE E i).toNat v0) != (N.getD (toE E i).toNat v0).2.1) _ _) = _
      rw [cond_bne]
      by_cases h8 : outB (N.getD (frE E i).toNat v0) = (N.getD (toE E i).toNat v0).2.1
      · rw [if_pos h8]
        simp only [if_pos h8]
        obtain ⟨a, ha⟩ := Int.eq_ofNat_of_zero_le f0
        obtain ⟨b, hb⟩ := Int.eq_ofNat_of_zero_le t0
        have han : a < N.length := by omega
        have hbn : b < N.length := by omega
        have ha' : (E.getD i e0).1 = (a : Int) := ha
        have hb' : (E.getD i e0).2.1 = (b : Int) := hb
        have hg : (cl (tab N.length (toW E i)))[a]? = some ((toW E i a : Nat) : Int) := by
          rw [get_cl (by rw [length_tab]; exact han), getD_tab han]
        simp only [ha', hb', length_cl, length_tab, inB_T han, cond_true, Int.toNat_natCast, hg, Option.bind_some, sets_One_eq (show b < 32 by omega), or_u32 (hw a) (two_pow_32 (show b < 32 by omega)), cl_set, tab_set, wrapS (show i < 9223372036854775807 by omega)]
        have ht : (tab N.length fun j => if j = a then toW E i a ||| 2 ^ b else toW E i j) = tab N.length (toW E (i + 1)) := tab_congr fun j hj => ?_
        · rw [ht]
          show some (Sum.inl (((i + 1 : Nat) : Int), cl (tab N.length (toW E (i + 1))), ((0 : Int), (0 : Int), ()), mapSet tkT (takenM E i) ((b : Int), poE E i, ()) (i : Int), ())) = some (Sum.inl (((i + 1 : Nat) : Int), cl (tab N.length (toW E (i + 1))), ((0 : Int), (0 : Int), ()), mapSet tkT (takenM E i) (toE E i, poE E i, ()) (i : Int), ()))
          rw [hb]
        simp only [toW]
        by_cases hja : j = a
        · subst hja; rw [if_pos rfl, if_pos ha.symm, hb]; rfl
        · rw [if_neg hja, if_neg (by omega)]
      · rw [if_neg h8]
        simp only [if_neg h8]
        rfl
  · unfold graph_Check_l2
    simp only [dcF (show ¬ (E.length : Int) < (E.length : Int) by omega), cond_false]

end Go.Proofs.Tryd
