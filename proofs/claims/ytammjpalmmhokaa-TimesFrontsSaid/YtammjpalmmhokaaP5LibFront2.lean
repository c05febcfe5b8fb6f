/- Lemmas on functions of the program, by name: front2. -/
import Derived.Test.YtammjpalmmhokaaP5Funs
import Derived.Test.YtammjpalmmhokaaAbsSums
import Derived.Test.YtammjpalmmhokaaP5LibFront1
namespace Go.Proofs.Try
open Go Go.Abs


/-! The program's sort of times. -/
noncomputable def cmpS (a b : List Int) : Option Int := (slices_Compare_s_int_int (a, b, ())).map fun r => r.1
theorem cmpS_eq {a b : List Int} (ha : a.length ≤ 1000000) : cmpS a b = some (cmpL a b) := by
  unfold cmpS; rw [slices_Compare_eq ha]; rfl
theorem ltS_iff {a b : List Int} (ha : a.length ≤ 1000000) : ltF cmpS a b ↔ cmpL a b < 0 := by
  unfold ltF
  rw [cmpS_eq ha]
  constructor
  · rintro ⟨v, h1, h2⟩; cases h1; exact h2
  · exact fun h => ⟨_, rfl, h⟩
/-- Sorted with all. -/
def insD (t : List Int) : List (List Int) → List (List Int)
  | [] => [t]
  | u :: l => if cmpL u t < 0 then u :: insD t l else t :: u :: l
def sortD : List (List Int) → List (List Int)
  | [] => []
  | t :: l => insD t (sortD l)
theorem insD_perm (t : List Int) : ∀ l, (insD t l).Perm (t :: l)
  | [] => List.Perm.refl _
  | u :: l => by
    simp only [insD]
    split
    · exact ((insD_perm t l).cons u).trans (List.Perm.swap t u l)
    · exact List.Perm.refl _
theorem sortD_perm : ∀ l, (sortD l).Perm l
  | [] => List.Perm.refl _
  | t :: l => (insD_perm t (sortD l)).trans ((sortD_perm l).cons t)
theorem insD_srt {t : List Int} : ∀ {l : List (List Int)}, l.Pairwise (fun a b => ¬ cmpL b a < 0) → (insD t l).Pairwise fun a b => ¬ cmpL b a < 0
  | [], _ => by simp [insD]
  | u :: l, h => by
    have h1 := List.pairwise_cons.1 h
    simp only [insD]
    split
    · rename_i hu
      refine List.pairwise_cons.2 ⟨fun v hv => ?_, insD_srt h1.2⟩
      rcases List.mem_cons.1 ((insD_perm t l).mem_iff.1 hv) with rfl | hv
      · intro h; rw [cmpL_neg] at h; omega
      · exact h1.1 v hv
    · rename_i hu
      refine List.pairwise_cons.2 ⟨fun v hv => ?_, h⟩
      rcases List.mem_cons.1 hv with rfl | hv
      · exact hu
      · intro hvt
        rw [cmpL_neg] at hu
        have h2 := h1.1 v hv
        rw [cmpL_neg] at h2
        by_cases e : cmpL t u = 0
        · rw [cmpL_eq.1 e] at hvt; rw [cmpL_neg] at hvt; omega
        · exact absurd (cmpL_trans hvt (show cmpL t u < 0 by omega)) (by rw [cmpL_neg]; omega)
theorem sortD_srt : ∀ l : List (List Int), (sortD l).Pairwise fun a b => ¬ cmpL b a < 0
  | [] => List.Pairwise.nil
  | t :: l => insD_srt (sortD_srt l)

theorem sort_is {l : List (List Int)} (h : ∀ t ∈ l, t.length ≤ 1000000) : sortP cmpS l = some (sortD l) := by
  refine sortP_eq ⟨fun x hx y _ => ⟨_, cmpS_eq (h x hx)⟩, fun x hx hlt => cmpL_irr x ((ltS_iff (h x hx)).1 hlt), fun x hx y hy z _ h1 h2 => (ltS_iff (h x hx)).2 (cmpL_trans ((ltS_iff (h x hx)).1 h1) ((ltS_iff (h y hy)).1 h2)), fun x hx y hy h1 h2 => ?_⟩ (sortD_perm l) ?_
  · have a1 : ¬ cmpL x y < 0 := fun e => h1 ((ltS_iff (h x hx)).2 e)
    have a2 : ¬ cmpL y x < 0 := fun e => h2 ((ltS_iff (h y hy)).2 e)
    rw [cmpL_neg] at a2
    exact cmpL_eq.1 (by omega)
  · unfold Srt
    have hm : ∀ t ∈ sortD l, t.length ≤ 1000000 := fun t ht => h t ((sortD_perm l).mem_iff.1 ht)
    refine (List.Pairwise.and_mem.1 (sortD_srt l)).imp fun {a b} hab hlt => hab.2.2 ((ltS_iff (hm b hab.2.1)).1 hlt)

/-! What is kept. -/
def keepS (K : List (List Int)) (t : List Int) : List (List Int) := if (K.any fun u => underL u t) = true then K else K ++ [t]
def keepF (S : List (List Int)) : List (List Int) := S.foldl keepS []
theorem keepF_snoc (S : List (List Int)) (t : List Int) : keepF (S ++ [t]) = keepS (keepF S) t := by unfold keepF; rw [List.foldl_append]; rfl
theorem keepF_mem : ∀ (S : List (List Int)) (k : Nat), k ≤ S.length → (keepF (S.take k)).length ≤ k ∧ ∀ u ∈ keepF (S.take k), u ∈ S.take k := by
  intro S k
  induction k with
  | zero => intro _; rw [List.take_zero]; exact ⟨Nat.le_refl _, fun u hu => by cases hu⟩
  | succ k ih =>
    intro hk
    obtain ⟨h1, h2⟩ := ih (by omega)
    rw [List.take_succ_eq_append_getElem (by omega), keepF_snoc]
    unfold keepS
    split
    · exact ⟨by omega, fun u hu => List.mem_append_left _ (h2 u hu)⟩
    · refine ⟨by rw [List.length_append, List.length_cons, List.length_nil]; omega, fun u hu => ?_⟩
      rcases List.mem_append.1 hu with hu | hu
      · exact List.mem_append_left _ (h2 u hu)
      · exact List.mem_append_right _ hu

theorem clone_one {t : List Int} (h : t.length ≤ 1000000) : slices_Clone_s_int_int (t, ()) = some (t, ()) := by
  unfold slices_Clone_s_int_int
  simp only [List.length_nil, Nat.zero_add, room_ok (show t.length ≤ 140737488355328 by omega) (show t.length * 8 ≤ 140737488355328 by omega), Bool.and_true, cond_true, List.nil_append]

theorem least_l1 {K : List (List Int)} (z : Int × Unit) {t : List Int} {d : Nat} (hK : ∀ u ∈ K, u.length = d) (ht : t.length = d) (hd : d ≤ 4) (hl : K.length ≤ 1000000) :
    (((loopM (times_Least_l1 (K, z) t) ((0 : Int), ())).bind (Sum.elim (fun z8 => (some (Sum.inl z8))) (Sum.elim (fun z9 => (some (Sum.inl ((-1 : Int), ())))) Empty.elim))) : Option ((Int × Unit) ⊕ Empty)) = some (.inl (((((List.range K.length).find? fun i => underL (K.getD i []) t).map fun i : Nat => (i : Int)).getD (-1)), ())) := by
  have k := loopM_exit (f := times_Least_l1 (K, z) t) K.length (fun i => ((i : Int), ())) (fun i => cond (underL (K.getD i []) t) (some ((i : Int), ())) none) (.inl ()) (fun i hi => by
    have hlen : (K.getD i []).length = d := by rw [List.getD_eq_getElem?_getD, List.getElem?_eq_getElem hi]; exact hK _ (List.getElem_mem hi)
    unfold times_Least_l1
    simp only [dcT (show (i : Int) < (K.length : Int) by omega), cond_true, inB_T hi, Int.toNat_natCast, getD_get (d := []) hi, Option.bind_some, times_Under_eq (show (K.getD i []).length = t.length by omega) (show (K.getD i []).length ≤ 1000000 by omega)]
    rw [wrapS (by omega)]
    cases underL (K.getD i []) t <;> rfl) (by
    unfold times_Least_l1
    simp only [dcF (show ¬ (K.length : Int) < (K.length : Int) by omega), cond_false]) (s0 := ((0 : Int), ())) rfl
  rw [find_map (fun i => underL (K.getD i []) t) fun i => ((i : Int), ())] at k
  rw [k]
  cases (List.range K.length).find? fun i => underL (K.getD i []) t <;> rfl
theorem any_find (K : List (List Int)) (t : List Int) : (K.any fun u => underL u t) = ((List.range K.length).find? fun i => underL (K.getD i []) t).isSome := by
  rw [Bool.eq_iff_iff, List.any_eq_true, List.find?_isSome]
  constructor
  · rintro ⟨u, hu, h⟩
    obtain ⟨i, hi, rfl⟩ := List.mem_iff_getElem.1 hu
    exact ⟨i, List.mem_range.2 hi, by rw [List.getD_eq_getElem?_getD, List.getElem?_eq_getElem hi]; exact h⟩
  · rintro ⟨i, hi, h⟩
    have hi := List.mem_range.1 hi
    rw [List.getD_eq_getElem?_getD, List.getElem?_eq_getElem hi] at h
    exact ⟨K[i], List.getElem_mem hi, h⟩

theorem times_Least_eq {l : List (List Int)} {d : Nat} (hl : l.length ≤ 64) (hd : d ≤ 4) (h : ∀ t ∈ l, t.length = d) : times_Least (l, ()) = some (keepF (sortD l), ()) := by
  have hc : slices_Clone_s_s_int_s_int (l, ()) = some (l, ()) := by
    unfold slices_Clone_s_s_int_s_int
    simp only [List.length_nil, Nat.zero_add, room_ok (show l.length ≤ 140737488355328 by omega) (show l.length * 24 ≤ 140737488355328 by omega), Bool.and_true, cond_true, List.nil_append]
  have hs := sort_is (l := l) fun t ht => by rw [h t ht]; omega
  have hs' : sortP (fun a b => (slices_Compare_s_int_int (a, b, ())).map fun r => r.1) l = some (sortD l) := hs
  have hSl : (sortD l).length = l.length := (sortD_perm l).length_eq
  have hSd : ∀ t ∈ sortD l, t.length = d := fun t ht => h t ((sortD_perm l).mem_iff.1 ht)
  have key : loopM (times_Least_l2 (sortD l)) (([] : List (List Int)), (0 : Int), ()) = some (.inl (keepF (sortD l), ())) := by
    refine loopM_sim (sortD l).length (fun i => (keepF ((sortD l).take i), (i : Int), ())) _ (fun i hi => ?_) ?_ rfl
    · obtain ⟨m1, m2⟩ := keepF_mem (sortD l) i (by omega)
      have hK : ∀ u ∈ keepF ((sortD l).take i), u.length = d := fun u hu => hSd u (List.mem_of_mem_take (m2 u hu))
      have ht : ((sortD l)[i]).length = d := hSd _ (List.getElem_mem hi)
      rw [List.take_succ_eq_append_getElem hi, keepF_snoc]
      generalize keepF ((sortD l).take i) = K at *
      unfold times_Least_l2
      simp only [dcT (show (i : Int) < ((sortD l).length : Int) by omega), cond_true, inB_T hi, Int.toNat_natCast, List.getElem?_eq_getElem hi, Option.bind_some]
      rw [least_l1 _ hK ht hd (by omega), Option.bind_some, Sum.elim_inl]
      unfold keepS
      rw [any_find]
      cases (List.range K.length).find? fun j => underL (K.getD j []) (sortD l)[i] with
      | some j =>
        simp only [Option.map_some, Option.getD_some, dcT (show (j : Int) ≥ 0 by omega), Bool.not_true, cond_false, Option.isSome_some, if_true]
        rw [wrapS (by omega)]
      | none =>
        have d1 : decide ((-1 : Int) ≥ 0) = false := by decide
        simp only [Option.map_none, Option.getD_none, d1, Bool.not_false, cond_true, clone_one (show ((sortD l)[i]).length ≤ 1000000 by omega), Option.bind_some, List.length_cons, List.length_nil, room_ok (show K.length + (0 + 1) ≤ 140737488355328 by omega) (show (K.length + (0 + 1)) * 24 ≤ 140737488355328 by omega), Bool.and_true, Option.isSome_none, Bool.false_eq_true, if_false]
        rw [wrapS (by omega)]
    · unfold times_Least_l2
      simp only [dcF (show ¬ ((sortD l).length : Int) < ((sortD l).length : Int) by omega), cond_false, List.take_length]
  unfold times_Least
  simp only [hc, Option.bind_some, room_ok (show l.length ≤ 140737488355328 by omega) (show l.length * 1 ≤ 140737488355328 by omega), cond_true, hs', key, Sum.elim_inl]

end Go.Proofs.Try
