/- Lemmas on functions of the program, by name: graph8. -/
import Derived.Test.YtammjpalmmhokaaDoorD3Funs
import Derived.Test.YtammjpalmmhokaaDoorAbsSums
import Derived.Test.YtammjpalmmhokaaDoorD3LibGraph7
namespace Go.Proofs.Tryd
open Go Go.Abs


/-! Rings, in both. -/
theorem find_map {β : Type} (p : Nat → Bool) (g : Nat → β) (l : List Nat) : (l.findSome? fun i => cond (p i) (some (g i)) none) = (l.find? p).map g := by
  induction l with
  | nil => rfl
  | cons a r ih =>
    rw [List.findSome?_cons, List.find?_cons]
    cases p a with
    | true => rfl
    | false => exact ih
theorem find_congr {p q : Nat → Bool} {n : Nat} (h : ∀ i, i < n → p i = q i) : (List.range n).find? p = (List.range n).find? q := by
  have key : ∀ l : List Nat, (∀ i, i ∈ l → p i = q i) → l.find? p = l.find? q := by
    intro l
    induction l with
    | nil => intro _; rfl
    | cons a r ih =>
      intro hl
      rw [List.find?_cons, List.find?_cons, hl a (by simp), ih fun i hi => hl i (by simp [hi])]
  exact key _ fun i hi => h i (List.mem_range.1 hi)
theorem find_none_all {p : Nat → Bool} {n : Nat} (h : (List.range n).find? p = none) : ∀ i, i < n → p i = false := fun i hi => by
  have := List.find?_eq_none.1 h i (List.mem_range.2 hi)
  simpa using this

def ringR (N : List Node) (E : List Edge) (j : Nat) : Bool := (List.range N.length).any fun i => fwN (edM N E (deepAt N i).toNat E.length) N.length j i && fwN (edM N E (deepAt N i).toNat E.length) N.length i j

section
variable {N : List Node} {E : List Edge}
theorem edM_iff {f a b : Nat} : edM N E f E.length a b = true ↔ insB N f a = true ∧ insB N f b = true ∧ ∃ j, j < E.length ∧ frE E j = a ∧ toE E j = b := by
  unfold edM
  rw [Bool.and_eq_true, Bool.and_eq_true, List.any_eq_true]
  constructor
  · rintro ⟨⟨h1, h2⟩, j, h3, h4⟩
    rw [Bool.and_eq_true, beq_iff_eq, beq_iff_eq] at h4
    exact ⟨h1, h2, j, List.mem_range.1 h3, h4⟩
  · rintro ⟨h1, h2, j, h3, h4, h5⟩
    exact ⟨⟨h1, h2⟩, j, List.mem_range.2 h3, by rw [h4, h5]; simp⟩
theorem ins_bit (f a : Nat) : (insW N f).testBit a = true ↔ a < N.length ∧ insB N f a = true := by
  unfold insW
  rw [wordOf_bit, Bool.and_eq_true, decide_eq_true_eq]
theorem edM_lt (hok : ∀ j, j < E.length → edgeC N E j = 0) {f a b : Nat} (h : edM N E f E.length a b = true) : a < N.length ∧ b < N.length := by
  obtain ⟨_, _, j, hj, h1, h2⟩ := edM_iff.1 h
  have he := edge_ok (hok j hj)
  rw [h1, h2] at he
  exact ⟨by have := he.2.1; omega, by have := he.2.2.2.1; omega⟩
theorem step_iff (hok : ∀ j, j < E.length → edgeC N E j = 0) {f a b : Nat} : stepA (toW E E.length) (insW N f) a b = true ↔ (∃ j, j < E.length ∧ frE E j = a ∧ toE E j = b) ∧ (insW N f).testBit b = true := by
  unfold stepA
  rw [Bool.and_eq_true, toW_bit E a b E.length fun j hj => (edge_ok (hok j hj)).2.2.1]
theorem way_ed (hok : ∀ j, j < E.length → edgeC N E j = 0) {f i j : Nat} (h : Way (stepA (toW E E.length) (insW N f)) i j) : (insW N f).testBit i = true → Way (edM N E f E.length) i j ∧ (insW N f).testBit j = true := by
  intro hi
  induction h with
  | one h =>
    obtain ⟨h1, h2⟩ := (step_iff hok).1 h
    exact ⟨.one (edM_iff.2 ⟨((ins_bit _ _).1 hi).2, ((ins_bit _ _).1 h2).2, h1⟩), h2⟩
  | more _ h2 ih =>
    obtain ⟨h1, h2⟩ := (step_iff hok).1 h2
    exact ⟨.more ih.1 (edM_iff.2 ⟨((ins_bit _ _).1 ih.2).2, ((ins_bit _ _).1 h2).2, h1⟩), h2⟩
theorem ed_way (hok : ∀ j, j < E.length → edgeC N E j = 0) {f i j : Nat} (h : Way (edM N E f E.length) i j) : Way (stepA (toW E E.length) (insW N f)) i j ∧ (insW N f).testBit i = true := by
  have key : ∀ {a b}, edM N E f E.length a b = true → stepA (toW E E.length) (insW N f) a b = true ∧ (insW N f).testBit a = true := fun {a b} h => by
    have hl := edM_lt hok h
    obtain ⟨h1, h2, h3⟩ := edM_iff.1 h
    exact ⟨(step_iff hok).2 ⟨h3, (ins_bit _ _).2 ⟨hl.2, h2⟩⟩, (ins_bit _ _).2 ⟨hl.1, h1⟩⟩
  induction h with
  | one h => exact ⟨.one (key h).1, (key h).2⟩
  | more _ h2 ih => exact ⟨.more ih.1 (key h2).1, ih.2⟩

theorem ring_same (hN : N.all mayB = true) (hok : ∀ j, j < E.length → edgeC N E j = 0) (j : Nat) : (badN N (toW E E.length) 4).testBit j = ringR N E j := by
  rw [Bool.eq_iff_iff, badN_bit]
  unfold ringR
  rw [List.any_eq_true]
  constructor
  · rintro ⟨f, i, h1, h2, h3, h4, h5, h6, h7⟩
    have hf : (deepAt N i).toNat = f := by omega
    have e1 := way_ed hok h6 h4
    have e2 := way_ed hok h7 e1.2
    refine ⟨i, List.mem_range.2 h3, ?_⟩
    rw [hf, Bool.and_eq_true]
    exact ⟨(fwN_all (fun a b h => edM_lt hok h) _ _).2 e2.1, (fwN_all (fun a b h => edM_lt hok h) _ _).2 e1.1⟩
  · rintro ⟨i, hi, h⟩
    have hi := List.mem_range.1 hi
    rw [Bool.and_eq_true] at h
    have hm := may_deep (may_at hN (Int.natCast_nonneg i) (by omega))
    have hm' : 1 ≤ deepAt N i ∧ deepAt N i ≤ 4 := hm
    have w1 := ed_way hok ((fwN_all (fun a b h => edM_lt hok h) _ _).1 h.1)
    have w2 := ed_way hok ((fwN_all (fun a b h => edM_lt hok h) _ _).1 h.2)
    exact ⟨(deepAt N i).toNat, i, by omega, by omega, hi, w2.2, by omega, w2.1, w1.1⟩

/-! The document's loops. -/
def waysR (N : List Node) (E : List Edge) : List (List Bool) := tab 4 fun f => sqT N.length (fwN (edM N E (f + 1) E.length) N.length)

theorem refc_l1 (hn : N.length ≤ 12) (z : Int × Int × Unit) : loopM (ref_GraphCheck_l1 ((N, E, ()), ())) ((0 : Int), z, ()) = some (exitOr (((List.range N.length).find? fun i => !mayB (N.getD i v0)).map fun i : Nat => (((2 : Int), (i : Int), ()), ())) (.inl (z, ()))) := by
  rw [← find_map]
  refine loopM_exit (f := ref_GraphCheck_l1 ((N, E, ()), ())) N.length (fun i => ((i : Int), z, ())) _ _ (fun i hi => ?_) ?_ rfl
  · unfold ref_GraphCheck_l1
    simp only [dcT (show (i : Int) < (N.length : Int) by omega), cond_true, getI_D v0 (Int.natCast_nonneg i) (show (i : Int) < (N.length : Int) by omega), Int.toNat_natCast, Option.bind_some, ref_NodeMay_eq]
    rw [wrapS (by omega)]
    cases mayB (N.getD i v0) <;> rfl
  · unfold ref_GraphCheck_l1
    simp only [dcF (show ¬ (N.length : Int) < (N.length : Int) by omega), cond_false]

theorem refc_l2 (hN : N.all mayB = true) (hE : E.length ≤ 20) (z : Int × Int × Unit) : loopM (ref_GraphCheck_l2 ((N, E, ()), ())) ((0 : Int), z, ()) = some (exitOr (((List.range E.length).find? fun i => edgeC N E i != 0).map fun i : Nat => ((edgeC N E i, (i : Int), ()), ())) (.inl (z, ()))) := by
  rw [← find_map]
  refine loopM_exit (f := ref_GraphCheck_l2 ((N, E, ()), ())) E.length (fun i => ((i : Int), z, ())) _ _ (fun i hi => ?_) ?_ rfl
  · unfold ref_GraphCheck_l2
    simp only [dcT (show (i : Int) < (E.length : Int) by omega), cond_true, ref_edge_eq hN hE hi, Option.bind_some]
    rw [wrapS (by omega)]
    cases edgeC N E i != 0 <;> rfl
  · unfold ref_GraphCheck_l2
    simp only [dcF (show ¬ (E.length : Int) < (E.length : Int) by omega), cond_false]

theorem refc_l3 (hE : E.length ≤ 20) (i : Nat) (z : (Int × Int × Unit) × Unit) : loopM (ref_GraphCheck_l3 ((N, E, ()), ()) ((i : Int), z)) ((0 : Int), (0 : Int), ()) = some (.inl (((cntB E.length fun j => toE E j == (i : Int) : Nat) : Int), ())) := by
  refine loopM_sim E.length (fun j => (((cntB j fun j => toE E j == (i : Int) : Nat) : Int), (j : Int), ())) _ (fun j hj => ?_) ?_ rfl
  · unfold ref_GraphCheck_l3
    have hc := cntB_le (fun j => toE E j == (i : Int)) j
    simp only [dcT (show (j : Int) < (E.length : Int) by omega), cond_true, getI_D e0 (Int.natCast_nonneg j) (show (j : Int) < (E.length : Int) by omega), Int.toNat_natCast, Option.bind_some]
    rw [wrapS (show j < 9223372036854775807 by omega), wrapS (show cntB j _ < 9223372036854775807 by omega)]
    show (cond (toE E j == (i : Int)) _ _) = some (Sum.inl (((cntB j _ + cond (toE E j == (i : Int)) 1 0 : Nat) : Int), _))
    cases toE E j == (i : Int) <;> rfl
  · unfold ref_GraphCheck_l3
    simp only [dcF (show ¬ (E.length : Int) < (E.length : Int) by omega), cond_false]

theorem refc_l4 (hn : N.length ≤ 12) (hE : E.length ≤ 20) (hok : ∀ j, j < E.length → edgeC N E j = 0) (z : Int × Int × Unit) : loopM (ref_GraphCheck_l4 ((N, E, ()), ())) ((0 : Int), z, ()) = some (exitOr (((List.range N.length).find? fun i => missB N E i).map fun i : Nat => (((5 : Int), (i : Int), ()), ())) (.inl (z, ()))) := by
  rw [← find_map]
  refine loopM_exit (f := ref_GraphCheck_l4 ((N, E, ()), ())) N.length (fun i => ((i : Int), z, ())) _ _ (fun i hi => ?_) ?_ rfl
  · unfold ref_GraphCheck_l4
    simp only [dcT (show (i : Int) < (N.length : Int) by omega), cond_true, refc_l3 hE i (z, ()), Sum.elim_inl, getI_D v0 (Int.natCast_nonneg i) (show (i : Int) < (N.length : Int) by omega), Int.toNat_natCast, Option.bind_some, ref_Ports_eq]
    rw [wrapS (by omega), miss_count hok]
    cases missB N E i <;> rfl
  · unfold ref_GraphCheck_l4
    simp only [dcF (show ¬ (N.length : Int) < (N.length : Int) by omega), cond_false]

theorem refc_l5 (hn : N.length ≤ 12) (hE : E.length ≤ 20) (hok : ∀ j, j < E.length → edgeC N E j = 0) : loopM (ref_GraphCheck_l5 ((N, E, ()), ())) (([] : List (List Bool)), (1 : Int), ()) = some (.inl (waysR N E, ())) := by
  refine loopM_sim 4 (fun f => (tab f fun f => sqT N.length (fwN (edM N E (f + 1) E.length) N.length), ((f + 1 : Nat) : Int), ())) _ (fun f hf => ?_) ?_ rfl
  · unfold ref_GraphCheck_l5
    simp only [dcT (show ((f + 1 : Nat) : Int) ≤ 4 by omega), cond_true, ref_comes_eq hn hE hok (f + 1), Option.bind_some, length_tab, List.length_cons, List.length_nil]
    have hr : roomOk (f + (0 + 1)) 24 = true := by
      unfold roomOk
      rw [Bool.and_eq_true]
      exact ⟨Nat.ble_eq_true_of_le (by omega), Nat.ble_eq_true_of_le (by omega)⟩
    rw [hr, wrapS (by omega), ← tab_succ]
    rfl
  · unfold ref_GraphCheck_l5
    rfl

theorem refc_l6 (hn : N.length ≤ 12) (hN : N.all mayB = true) {j : Nat} (hj : j < N.length) (z w : Int × Int × Unit) :
    loopM (ref_GraphCheck_l6 ((N, E, ()), ()) (waysR N E, ()) ((j : Int), z, ())) ((0 : Int), w, ()) = some (if ringR N E j = true then .inl (((9 : Int), (j : Int), ()), ()) else .inr (.inl (w, ()))) := by
  have h := loopM_exit (f := ref_GraphCheck_l6 ((N, E, ()), ()) (waysR N E, ()) ((j : Int), z, ())) N.length (fun i => ((i : Int), w, ())) (fun i => cond (fwN (edM N E (deepAt N i).toNat E.length) N.length j i && fwN (edM N E (deepAt N i).toNat E.length) N.length i j) (some (((9 : Int), (j : Int), ()), ())) none) (.inl (w, ())) (fun i hi => by
    have hm := may_deep (may_at hN (Int.natCast_nonneg i) (show (i : Int) < (N.length : Int) by omega))
    have hm' : 1 ≤ deepAt N i ∧ deepAt N i ≤ 4 := hm
    obtain ⟨f, hf⟩ := Int.eq_ofNat_of_zero_le (show 0 ≤ deepAt N i - 1 by omega)
    have hd : deepAt N i = ((f + 1 : Nat) : Int) := by omega
    have hd' : (N.getD i v0).2.1 = ((f + 1 : Nat) : Int) := hd
    have hw : IntKind.i64.wrap (((f + 1 : Nat) : Int) - 1) = (f : Int) := by rw [wrap64 (by omega) (by omega)]; omega
    have hf4 : f < 4 := by omega
    have hg : (waysR N E)[f]? = some (sqT N.length (fwN (edM N E (f + 1) E.length) N.length)) := tab_get _ hf4
    have hl : (waysR N E).length = 4 := length_tab
    have hn64 : N.length ≤ 64 := by omega
    unfold ref_GraphCheck_l6
    simp only [dcT (show (i : Int) < (N.length : Int) by omega), cond_true, getI_D v0 (Int.natCast_nonneg i) (show (i : Int) < (N.length : Int) by omega), Int.toNat_natCast, Option.bind_some, hd', hw, hl, inB_T hf4, hg, sq_wrap hn64 hj hi, sq_wrap hn64 hi hj, getI_nat, sqT_get hj hi, sqT_get hi hj, wrapS (show i < 9223372036854775807 by omega), hd]
    cases fwN (edM N E (f + 1) E.length) N.length j i <;> cases fwN (edM N E (f + 1) E.length) N.length i j <;> rfl) (by
    unfold ref_GraphCheck_l6
    simp only [dcF (show ¬ (N.length : Int) < (N.length : Int) by omega), cond_false]) rfl
  refine Eq.trans h ?_
  rw [find_const]
  show some (exitOr (if ringR N E j = true then _ else _) _) = _
  split <;> rfl

theorem refc_l7 (hn : N.length ≤ 12) (hN : N.all mayB = true) (z : Int × Int × Unit) : loopM (ref_GraphCheck_l7 ((N, E, ()), ()) (waysR N E, ())) ((0 : Int), z, ()) = some (exitOr (((List.range N.length).find? fun j => ringR N E j).map fun j : Nat => (((9 : Int), (j : Int), ()), ())) (.inl (z, ()))) := by
  rw [← find_map]
  refine loopM_exit (f := ref_GraphCheck_l7 ((N, E, ()), ()) (waysR N E, ())) N.length (fun i => ((i : Int), z, ())) _ _ (fun j hj => ?_) ?_ rfl
  · unfold ref_GraphCheck_l7
    simp only [dcT (show (j : Int) < (N.length : Int) by omega), cond_true, refc_l6 hn hN hj z z, Option.bind_some]
    rw [wrapS (by omega)]
    cases ringR N E j <;> rfl
  · unfold ref_GraphCheck_l7
    simp only [dcF (show ¬ (N.length : Int) < (N.length : Int) by omega), cond_false]
end

/-! One value. -/
def gval (N : List Node) (E : List Edge) : Int × Int × Unit :=
  if 12 < N.length ∨ 20 < E.length then (1, 0, ())
  else match (List.range N.length).find? fun i => !mayB (N.getD i v0) with
  | some i => (2, (i : Int), ())
  | none => match (List.range E.length).find? fun i => edgeC N E i != 0 with
    | some i => (edgeC N E i, (i : Int), ())
    | none => match (List.range N.length).find? fun i => missB N E i with
      | some i => (5, (i : Int), ())
      | none => match (List.range N.length).find? fun j => ringR N E j with
        | some j => (9, (j : Int), ())
        | none => (0, 0, ())

theorem all_may {N : List Node} (h : (List.range N.length).find? (fun i => !mayB (N.getD i v0)) = none) : N.all mayB = true := by
  rw [List.all_eq_true]
  intro v hv
  obtain ⟨i, hi, rfl⟩ := List.mem_iff_getElem.1 hv
  have := find_none_all h i hi
  rw [List.getD_eq_getElem?_getD, List.getElem?_eq_getElem hi] at this
  simpa using this

theorem ref_GraphCheck_eq (N : List Node) (E : List Edge) : ref_GraphCheck ((N, E, ()), ()) = some (gval N E, ()) := by
  unfold ref_GraphCheck gval
  by_cases h1 : 12 < N.length
  · simp only [dcT (show (N.length : Int) > 12 by omega), cond_true, if_pos (Or.inl h1 : 12 < N.length ∨ 20 < E.length)]
  by_cases h2 : 20 < E.length
  · simp only [dcF (show ¬ (N.length : Int) > 12 by omega), dcT (show (E.length : Int) > 20 by omega), cond_true, cond_false, if_pos (Or.inr h2 : 12 < N.length ∨ 20 < E.length)]
  have hn : N.length ≤ 12 := by omega
  have hE : E.length ≤ 20 := by omega
  simp only [dcF (show ¬ (N.length : Int) > 12 by omega), dcF (show ¬ (E.length : Int) > 20 by omega), cond_false, if_neg (show ¬ (12 < N.length ∨ 20 < E.length) by omega), refc_l1 hn, Option.bind_some]
  cases hf1 : (List.range N.length).find? fun i => !mayB (N.getD i v0) with
  | some i => rfl
  | none =>
    have hN := all_may hf1
    simp only [Option.map_none, exitOr_none, Sum.elim_inr, Sum.elim_inl, refc_l2 hN hE, Option.bind_some]
    cases hf2 : (List.range E.length).find? fun i => edgeC N E i != 0 with
    | some i => rfl
    | none =>
      have hok : ∀ j, j < E.length → edgeC N E j = 0 := fun j hj => by simpa using find_none_all hf2 j hj
      simp only [Option.map_none, exitOr_none, Sum.elim_inr, Sum.elim_inl, refc_l4 hn hE hok, Option.bind_some]
      cases hf3 : (List.range N.length).find? fun i => missB N E i with
      | some i => rfl
      | none =>
        simp only [Option.map_none, exitOr_none, Sum.elim_inr, Sum.elim_inl, refc_l5 hn hE hok, refc_l7 hn hN, Option.bind_some]
        cases hf4 : (List.range N.length).find? fun j => ringR N E j <;> rfl

end Go.Proofs.Tryd
