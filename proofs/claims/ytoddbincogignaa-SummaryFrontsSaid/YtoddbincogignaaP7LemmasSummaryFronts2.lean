/- Lemmas on functions of the program, by name. -/
import Derived.Test.YtoddbincogignaaP7Funs
import Derived.Test.YtoddbincogignaaAbsSums
import Derived.Test.YtoddbincogignaaP7LemmasSummaryFronts1
namespace Go.Proofs.Try
section
open Go Go.Abs


/-! Fronts of times. -/
def underL : List Int → List Int → Bool
  | a :: r, b :: s => decide (a ≤ b) && underL r s
  | _, _ => true
theorem under_refl : ∀ a : List Int, underL a a = true
  | [] => rfl
  | a :: r => by simp [underL, under_refl r]
theorem under_trans : ∀ {a b c : List Int}, a.length = b.length → b.length = c.length → underL a b = true → underL b c = true → underL a c = true
  | [], _, _, _, _, _, _ => rfl
  | a :: r, [], _, h, _, _, _ => by simp at h
  | a :: r, b :: s, [], _, h, _, _ => by simp at h
  | a :: r, b :: s, c :: t, h1, h2, h3, h4 => by
    simp only [underL, Bool.and_eq_true, decide_eq_true_eq, List.length_cons] at *
    exact ⟨by omega, under_trans (by omega) (by omega) h3.2 h4.2⟩
theorem under_cmp : ∀ {a b : List Int}, a.length = b.length → underL a b = true → a = b ∨ (cmpL a b < 0 ∧ a.sum < b.sum)
  | [], [], _, _ => .inl rfl
  | [], _ :: _, h, _ => by simp at h
  | _ :: _, [], h, _ => by simp at h
  | a :: r, b :: s, h, hu => by
    simp only [underL, Bool.and_eq_true, decide_eq_true_eq, List.length_cons] at *
    simp only [cmpL, List.sum_cons]
    rcases under_cmp (a := r) (b := s) (by omega) hu.2 with e | ⟨h1, h2⟩
    · subst e
      by_cases hab : a = b
      · left; rw [hab]
      · right; rw [if_pos (by omega)]; exact ⟨by decide, by omega⟩
    · right
      by_cases hab : a < b
      · rw [if_pos hab]; exact ⟨by decide, by omega⟩
      · rw [if_neg hab, if_neg (by omega)]; exact ⟨h1, by omega⟩

theorem times_Under_eq {a b : List Int} (hl : a.length = b.length) (ha : a.length ≤ 1000000) : times_Under (a, b, ()) = some (underL a b, ()) := by
  have key : ∀ k i, i + k = a.length → (loopM (times_Under_l1 (a, b, ())) ((i : Int), ())).bind (Sum.elim (fun z4 => (some z4)) (Sum.elim (fun z5 => (some (true, ()))) Empty.elim)) = some (underL (a.drop i) (b.drop i), ()) := by
    intro k
    induction k with
    | zero =>
      intro i hi
      rw [loopM_inr (b := .inr (.inl ())) (by
        unfold times_Under_l1
        simp only [dcF (show ¬ (i : Int) < (a.length : Int) by omega), cond_false])]
      rw [List.drop_of_length_le (by omega), List.drop_of_length_le (by omega)]; rfl
    | succ k ih =>
      intro i hi
      have hia : i < a.length := by omega
      have hib : i < b.length := by omega
      have hst : times_Under_l1 (a, b, ()) ((i : Int), ()) = cond (decide (a[i] > b[i])) (some (.inr (.inl (false, ())))) (some (.inl (((i + 1 : Nat) : Int), ()))) := by
        unfold times_Under_l1
        simp only [dcT (show (i : Int) < (a.length : Int) by omega), cond_true, getI_lt hia, getI_lt hib, Option.bind_some, wrapS (show i < 9223372036854775807 by omega)]
      rw [List.drop_eq_getElem_cons hia, List.drop_eq_getElem_cons hib]
      by_cases he : a[i] ≤ b[i]
      · rw [dcF (show ¬ a[i] > b[i] by omega), cond_false] at hst
        rw [loopM_inl hst, ih (i + 1) (by omega)]
        simp only [underL, decide_eq_true he, Bool.true_and]
      · rw [dcT (show a[i] > b[i] by omega), cond_true] at hst
        rw [loopM_inr hst]
        simp only [underL, decide_eq_false he, Bool.false_and]; rfl
  unfold times_Under
  exact key a.length 0 (by omega)

def leB (a b : List Int) : Bool := decide (a.length = b.length) && (decide (chk a = 0) && (decide (chk b = 0) && underL a b))
theorem leB_of {a b : List Int} (h : a.length = b.length) (ha : chk a = 0) (hb : chk b = 0) : leB a b = underL a b := by
  unfold leB
  rw [decide_eq_true h, decide_eq_true ha, decide_eq_true hb]; rfl
theorem ref_TimesLeq_eq (a b : List Int) : ref_TimesLeq (a, b, ()) = some (leB a b, ()) := by
  unfold ref_TimesLeq leB
  simp only [ref_TimesCheck_eq, Option.bind_some, cond_bne]
  by_cases h : a.length = b.length
  · rw [if_pos (by omega), decide_eq_true h]
    by_cases h2 : chk a = 0
    · rw [if_pos h2, decide_eq_true h2]
      by_cases h3 : chk b = 0
      · rw [if_pos h3, decide_eq_true h3]
        have h4 := (chk_zero h2).2.1
        have key : ∀ k i, i + k = a.length → (loopM (ref_TimesLeq_l1 (a, b, ())) ((i : Int), ())).bind (Sum.elim (fun z6 => (some z6)) (Sum.elim (fun z7 => (some (true, ()))) Empty.elim)) = some (underL (a.drop i) (b.drop i), ()) := by
          intro k
          induction k with
          | zero =>
            intro i hi
            rw [loopM_inr (b := .inr (.inl ())) (by
              unfold ref_TimesLeq_l1
              simp only [dcF (show ¬ (i : Int) < (a.length : Int) by omega), cond_false])]
            rw [List.drop_of_length_le (by omega), List.drop_of_length_le (by omega)]; rfl
          | succ k ih =>
            intro i hi
            have hia : i < a.length := by omega
            have hib : i < b.length := by omega
            have hst : ref_TimesLeq_l1 (a, b, ()) ((i : Int), ()) = cond (decide (a[i] > b[i])) (some (.inr (.inl (false, ())))) (some (.inl (((i + 1 : Nat) : Int), ()))) := by
              unfold ref_TimesLeq_l1
              simp only [dcT (show (i : Int) < (a.length : Int) by omega), cond_true, getI_lt hia, getI_lt hib, Option.bind_some, wrapS (show i < 9223372036854775807 by omega)]
            rw [List.drop_eq_getElem_cons hia, List.drop_eq_getElem_cons hib]
            by_cases he : a[i] ≤ b[i]
            · rw [dcF (show ¬ a[i] > b[i] by omega), cond_false] at hst
              rw [loopM_inl hst, ih (i + 1) (by omega)]
              simp only [underL, decide_eq_true he, Bool.true_and]
            · rw [dcT (show a[i] > b[i] by omega), cond_true] at hst
              rw [loopM_inr hst]
              simp only [underL, decide_eq_false he, Bool.false_and]; rfl
        exact key a.length 0 (by omega)
      · rw [if_neg h3, decide_eq_false h3]; rfl
    · rw [if_neg h2, decide_eq_false h2]; rfl
  · rw [if_neg (by omega), decide_eq_false h]; rfl
end

section
open Go Go.Abs


/-! The program's sort of times. -/
noncomputable def cmpS (a b : List Int) : Option Int := (slices_Compare_s_int_int (a, b, ())).map fun r => r.1
theorem cmpS_eq {a b : List Int} (ha : a.length ≤ 1000000) : cmpS a b = some (cmpL a b) := by
  unfold cmpS; rw [slices_Compare_eq ha]; rfl
theorem ltS_iff {a b : List Int} (ha : a.length ≤ 1000000) : ltF cmpS a b ↔ cmpL a b < 0 := by
  unfold ltF
  rw [cmpS_eq ha]
  constructor
  · rintro ⟨v, h1, h2⟩; cases h1; exact h2
  · exact fun h => ⟨_, rfl, h⟩
/-- Sorted with all. -/
def insD (t : List Int) : List (List Int) → List (List Int)
  | [] => [t]
  | u :: l => if cmpL u t < 0 then u :: insD t l else t :: u :: l
def sortD : List (List Int) → List (List Int)
  | [] => []
  | t :: l => insD t (sortD l)
theorem insD_perm (t : List Int) : ∀ l, (insD t l).Perm (t :: l)
  | [] => List.Perm.refl _
  | u :: l => by
    simp only [insD]
    split
    · exact ((insD_perm t l).cons u).trans (List.Perm.swap t u l)
    · exact List.Perm.refl _
theorem sortD_perm : ∀ l, (sortD l).Perm l
  | [] => List.Perm.refl _
  | t :: l => (insD_perm t (sortD l)).trans ((sortD_perm l).cons t)
theorem insD_srt {t : List Int} : ∀ {l : List (List Int)}, l.Pairwise (fun a b => ¬ cmpL b a < 0) → (insD t l).Pairwise fun a b => ¬ cmpL b a < 0
  | [], _ => by simp [insD]
  | u :: l, h => by
    have h1 := List.pairwise_cons.1 h
    simp only [insD]
    split
    · rename_i hu
      refine List.pairwise_cons.2 ⟨fun v hv => ?_, insD_srt h1.2⟩
      rcases List.mem_cons.1 ((insD_perm t l).mem_iff.1 hv) with rfl | hv
      · intro h; rw [cmpL_neg] at h; omega
      · exact h1.1 v hv
    · rename_i hu
      refine List.pairwise_cons.2 ⟨fun v hv => ?_, h⟩
      rcases List.mem_cons.1 hv with rfl | hv
      · exact hu
      · intro hvt
        rw [cmpL_neg] at hu
        have h2 := h1.1 v hv
        rw [cmpL_neg] at h2
        by_cases e : cmpL t u = 0
        · rw [cmpL_eq.1 e] at hvt; rw [cmpL_neg] at hvt; omega
        · exact absurd (cmpL_trans hvt (show cmpL t u < 0 by omega)) (by rw [cmpL_neg]; omega)
theorem sortD_srt : ∀ l : List (List Int), (sortD l).Pairwise fun a b => ¬ cmpL b a < 0
  | [] => List.Pairwise.nil
  | t :: l => insD_srt (sortD_srt l)

theorem sort_is {l : List (List Int)} (h : ∀ t ∈ l, t.length ≤ 1000000) : sortP cmpS l = some (sortD l) := by
  refine sortP_eq ⟨fun x hx y _ => ⟨_, cmpS_eq (h x hx)⟩, fun x hx hlt => cmpL_irr x ((ltS_iff (h x hx)).1 hlt), fun x hx y hy z _ h1 h2 => (ltS_iff (h x hx)).2 (cmpL_trans ((ltS_iff (h x hx)).1 h1) ((ltS_iff (h y hy)).1 h2)), fun x hx y hy h1 h2 => ?_⟩ (sortD_perm l) ?_
  · have a1 : ¬ cmpL x y < 0 := fun e => h1 ((ltS_iff (h x hx)).2 e)
    have a2 : ¬ cmpL y x < 0 := fun e => h2 ((ltS_iff (h y hy)).2 e)
    rw [cmpL_neg] at a2
    exact cmpL_eq.1 (by omega)
  · unfold Srt
    have hm : ∀ t ∈ sortD l, t.length ≤ 1000000 := fun t ht => h t ((sortD_perm l).mem_iff.1 ht)
    refine (List.Pairwise.and_mem.1 (sortD_srt l)).imp fun {a b} hab hlt => hab.2.2 ((ltS_iff (hm b hab.2.1)).1 hlt)

/-! What is kept. -/
def keepS (K : List (List Int)) (t : List Int) : List (List Int) := if (K.any fun u => underL u t) = true then K else K ++ [t]
def keepF (S : List (List Int)) : List (List Int) := S.foldl keepS []
theorem keepF_snoc (S : List (List Int)) (t : List Int) : keepF (S ++ [t]) = keepS (keepF S) t := by unfold keepF; rw [List.foldl_append]; rfl
theorem keepF_mem : ∀ (S : List (List Int)) (k : Nat), k ≤ S.length → (keepF (S.take k)).length ≤ k ∧ ∀ u ∈ keepF (S.take k), u ∈ S.take k := by
  intro S k
  induction k with
  | zero => intro _; rw [List.take_zero]; exact ⟨Nat.le_refl _, fun u hu => by cases hu⟩
  | succ k ih =>
    intro hk
    obtain ⟨h1, h2⟩ := ih (by omega)
    rw [List.take_succ_eq_append_getElem (by omega), keepF_snoc]
    unfold keepS
    split
    · exact ⟨by omega, fun u hu => List.mem_append_left _ (h2 u hu)⟩
    · refine ⟨by rw [List.length_append, List.length_cons, List.length_nil]; omega, fun u hu => ?_⟩
      rcases List.mem_append.1 hu with hu | hu
      · exact List.mem_append_left _ (h2 u hu)
      · exact List.mem_append_right _ hu

theorem clone_one {t : List Int} (h : t.length ≤ 1000000) : slices_Clone_s_int_int (t, ()) = some (t, ()) := by
  unfold slices_Clone_s_int_int
  simp only [List.length_nil, Nat.zero_add, room_ok (show t.length ≤ 140737488355328 by omega) (show t.length * 8 ≤ 140737488355328 by omega), Bool.and_true, cond_true, List.nil_append]

theorem least_l1 {K : List (List Int)} (z : Int × Unit) {t : List Int} {d : Nat} (hK : ∀ u ∈ K, u.length = d) (ht : t.length = d) (hd : d ≤ 4) (hl : K.length ≤ 1000000) :
    (((loopM (times_Least_l1 (K, z) t) ((0 : Int), ())).bind (Sum.elim (fun z8 => (some (Sum.inl z8))) (Sum.elim (fun z9 => (some (Sum.inl ((-1 : Int), ())))) Empty.elim))) : Option ((Int × Unit) ⊕ Empty)) = some (.inl (((((List.range K.length).find? fun i => underL (K.getD i []) t).map fun i : Nat => (i : Int)).getD (-1)), ())) := by
  have k := loopM_exit (f := times_Least_l1 (K, z) t) K.length (fun i => ((i : Int), ())) (fun i => cond (underL (K.getD i []) t) (some ((i : Int), ())) none) (.inl ()) (fun i hi => by
    have hlen : (K.getD i []).length = d := by rw [List.getD_eq_getElem?_getD, List.getElem?_eq_getElem hi]; exact hK _ (List.getElem_mem hi)
    unfold times_Least_l1
    simp only [dcT (show (i : Int) < (K.length : Int) by omega), cond_true, inB_T hi, Int.toNat_natCast, getD_get (d := []) hi, Option.bind_some, times_Under_eq (show (K.getD i []).length = t.length by omega) (show (K.getD i []).length ≤ 1000000 by omega)]
    rw [wrapS (by omega)]
    cases underL (K.getD i []) t <;> rfl) (by
    unfold times_Least_l1
    simp only [dcF (show ¬ (K.length : Int) < (K.length : Int) by omega), cond_false]) (s0 := ((0 : Int), ())) rfl
  rw [find_map (fun i => underL (K.getD i []) t) fun i => ((i : Int), ())] at k
  rw [k]
  cases (List.range K.length).find? fun i => underL (K.getD i []) t <;> rfl
theorem any_find (K : List (List Int)) (t : List Int) : (K.any fun u => underL u t) = ((List.range K.length).find? fun i => underL (K.getD i []) t).isSome := by
  rw [Bool.eq_iff_iff, List.any_eq_true, List.find?_isSome]
  constructor
  · rintro ⟨u, hu, h⟩
    obtain ⟨i, hi, rfl⟩ := List.mem_iff_getElem.1 hu
    exact ⟨i, List.mem_range.2 hi, by rw [List.getD_eq_getElem?_getD, List.getElem?_eq_getElem hi]; exact h⟩
  · rintro ⟨i, hi, h⟩
    have hi := List.mem_range.1 hi
    rw [List.getD_eq_getElem?_getD, List.getElem?_eq_getElem hi] at h
    exact ⟨K[i], List.getElem_mem hi, h⟩

theorem times_Least_eq {l : List (List Int)} {d : Nat} (hl : l.length ≤ 64) (hd : d ≤ 4) (h : ∀ t ∈ l, t.length = d) : times_Least (l, ()) = some (keepF (sortD l), ()) := by
  have hc : slices_Clone_s_s_int_s_int (l, ()) = some (l, ()) := by
    unfold slices_Clone_s_s_int_s_int
    simp only [List.length_nil, Nat.zero_add, room_ok (show l.length ≤ 140737488355328 by omega) (show l.length * 24 ≤ 140737488355328 by omega), Bool.and_true, cond_true, List.nil_append]
  have hs := sort_is (l := l) fun t ht => by rw [h t ht]; omega
  have hs' : sortP (fun a b => (slices_Compare_s_int_int (a, b, ())).map fun r => r.1) l = some (sortD l) := hs
  have hSl : (sortD l).length = l.length := (sortD_perm l).length_eq
  have hSd : ∀ t ∈ sortD l, t.length = d := fun t ht => h t ((sortD_perm l).mem_iff.1 ht)
  have key : loopM (times_Least_l2 (sortD l)) (([] : List (List Int)), (0 : Int), ()) = some (.inl (keepF (sortD l), ())) := by
    refine loopM_sim (sortD l).length (fun i => (keepF ((sortD l).take i), (i : Int), ())) _ (fun i hi => ?_) ?_ rfl
    · obtain ⟨m1, m2⟩ := keepF_mem (sortD l) i (by omega)
      have hK : ∀ u ∈ keepF ((sortD l).take i), u.length = d := fun u hu => hSd u (List.mem_of_mem_take (m2 u hu))
      have ht : ((sortD l)[i]).length = d := hSd _ (List.getElem_mem hi)
      rw [List.take_succ_eq_append_getElem hi, keepF_snoc]
      generalize keepF ((sortD l).take i) = K at *
      unfold times_Least_l2
      simp only [dcT (show (i : Int) < ((sortD l).length : Int) by omega), cond_true, inB_T hi, Int.toNat_natCast, List.getElem?_eq_getElem hi, Option.bind_some]
      rw [least_l1 _ hK ht hd (by omega), Option.bind_some, Sum.elim_inl]
      unfold keepS
      rw [any_find]
      cases (List.range K.length).find? fun j => underL (K.getD j []) (sortD l)[i] with
      | some j =>
        simp only [Option.map_some, Option.getD_some, dcT (show (j : Int) ≥ 0 by omega), Bool.not_true, cond_false, Option.isSome_some, if_true]
        rw [wrapS (by omega)]
      | none =>
        have d1 : decide ((-1 : Int) ≥ 0) = false := by decide
        simp only [Option.map_none, Option.getD_none, d1, Bool.not_false, cond_true, clone_one (show ((sortD l)[i]).length ≤ 1000000 by omega), Option.bind_some, List.length_cons, List.length_nil, room_ok (show K.length + (0 + 1) ≤ 140737488355328 by omega) (show (K.length + (0 + 1)) * 24 ≤ 140737488355328 by omega), Bool.and_true, Option.isSome_none, Bool.false_eq_true, if_false]
        rw [wrapS (by omega)]
    · unfold times_Least_l2
      simp only [dcF (show ¬ ((sortD l).length : Int) < ((sortD l).length : Int) by omega), cond_false, List.take_length]
  unfold times_Least
  simp only [hc, Option.bind_some, room_ok (show l.length ≤ 140737488355328 by omega) (show l.length * 1 ≤ 140737488355328 by omega), cond_true, hs', key, Sum.elim_inl]
end

section
open Go Go.Abs


/-! The document's front. -/
def minB (l : List (List Int)) (t : List Int) : Bool := l.all fun u => !(underL u t && decide (u ≠ t))
theorem min_iff {l : List (List Int)} {t : List Int} : minB l t = true ↔ ∀ u ∈ l, underL u t = true → u = t := by
  unfold minB
  rw [List.all_eq_true]
  constructor
  · intro h u hu hut
    have := h u hu
    rw [hut] at this
    simpa using this
  · intro h u hu
    cases hq : underL u t with
    | false => rfl
    | true => simp [h u hu hq]

theorem rfront_l1 {l : List (List Int)} {t : List Int} {d : Nat} (hl : l.length ≤ 64) (hf : ∀ u ∈ l, chk u = 0 ∧ u.length = d) (ht : chk t = 0 ∧ t.length = d) : loopM (ref_TimesFront_l1 (l, ()) t) (true, (0 : Int), ()) = some (.inl (minB l t, ())) := by
  refine loopM_sim l.length (fun i => (minB (l.take i) t, (i : Int), ())) _ (fun i hi => ?_) ?_ rfl
  · have hu := hf _ (List.getElem_mem hi)
    have h4 := (chk_zero hu.1).2.1
    unfold ref_TimesFront_l1
    simp only [dcT (show (i : Int) < (l.length : Int) by omega), cond_true, getI_lt hi, Option.bind_some, ref_TimesLeq_eq, leB_of (show l[i].length = t.length by omega) hu.1 ht.1, ref_TimesSame_eq (show l[i].length ≤ 1000000 by omega), wrapS (show i < 9223372036854775807 by omega)]
    have hs : minB (l.take (i + 1)) t = (minB (l.take i) t && !(underL l[i] t && decide (l[i] ≠ t))) := by
      unfold minB
      rw [List.take_succ_eq_append_getElem hi, List.all_append, List.all_cons, List.all_nil, Bool.and_true]
    rw [hs]
    cases underL l[i] t with
    | false => rw [cond_false, Bool.false_and, Bool.not_false, Bool.and_true]
    | true =>
      rw [cond_true, Bool.true_and]
      by_cases he : l[i] = t
      · rw [decide_eq_true he, decide_eq_false (not_not_intro he)]; simp
      · rw [decide_eq_false he, decide_eq_true he]; simp
  · unfold ref_TimesFront_l1
    simp only [dcF (show ¬ (l.length : Int) < (l.length : Int) by omega), cond_false, List.take_length]

theorem ref_TimesFront_eq {l : List (List Int)} {d : Nat} (hl : l.length ≤ 64) (hf : ∀ u ∈ l, chk u = 0 ∧ u.length = d) : ref_TimesFront (l, ()) = some ((sortT l).filter (minB l), ()) := by
  obtain ⟨s1, s2, s3⟩ := sort_facts l
  have key : loopM (ref_TimesFront_l2 (l, ()) (sortT l, ())) (([] : List (List Int)), (0 : Int), ()) = some (.inl ((sortT l).filter (minB l), ())) := by
    refine loopM_sim (sortT l).length (fun i => (((sortT l).take i).filter (minB l), (i : Int), ())) _ (fun i hi => ?_) ?_ rfl
    · have hfl : (((sortT l).take i).filter (minB l)).length ≤ i := Nat.le_trans (List.length_filter_le _ _) (by rw [List.length_take]; omega)
      unfold ref_TimesFront_l2
      simp only [dcT (show (i : Int) < ((sortT l).length : Int) by omega), cond_true, getI_lt hi, Option.bind_some, rfront_l1 hl hf (hf _ ((s2 _).1 (List.getElem_mem hi))), Sum.elim_inl, List.length_cons, List.length_nil, wrapS (show i < 9223372036854775807 by omega), room_ok (show (((sortT l).take i).filter (minB l)).length + (0 + 1) ≤ 140737488355328 by omega) (show ((((sortT l).take i).filter (minB l)).length + (0 + 1)) * 24 ≤ 140737488355328 by omega), Bool.and_true]
      rw [List.take_succ_eq_append_getElem hi, List.filter_append, List.filter_cons, List.filter_nil]
      cases minB l (sortT l)[i] with
      | true => rfl
      | false => simp
    · unfold ref_TimesFront_l2
      simp only [dcF (show ¬ ((sortT l).length : Int) < ((sortT l).length : Int) by omega), cond_false, List.take_length]
  unfold ref_TimesFront
  rw [ref_TimesSorted_eq (show l.length ≤ 1000 by omega) d hf, Option.bind_some, key]; rfl

/-! The two are one. -/
theorem least_at {p : List Int → Prop} (f : List Int → Nat) (h : ∃ i, p i) : ∃ i, p i ∧ ∀ j, p j → f i ≤ f j := by
  have key : ∀ m i, p i → f i ≤ m → ∃ i, p i ∧ ∀ j, p j → f i ≤ f j := by
    intro m
    induction m with
    | zero => intro i hi h0; exact ⟨i, hi, fun j _ => by omega⟩
    | succ m ih =>
      intro i hi hm
      by_cases hx : ∃ j, p j ∧ f j ≤ m
      · obtain ⟨j, h1, h2⟩ := hx; exact ih j h1 h2
      · refine ⟨i, hi, fun j hj => ?_⟩
        by_cases hjm : f j ≤ m
        · exact absurd ⟨j, hj, hjm⟩ hx
        · omega
  obtain ⟨i, hi⟩ := h
  exact key (f i) i hi (Nat.le_refl _)
theorem sum_pos : ∀ {a : List Int}, (∀ v ∈ a, 0 ≤ v) → 0 ≤ a.sum
  | [], _ => by simp
  | v :: a, h => by
    rw [List.sum_cons]
    have h1 := h v (List.mem_cons_self ..)
    have h2 := sum_pos fun w hw => h w (List.mem_cons_of_mem _ hw)
    omega
theorem chk_sum {a : List Int} (h : chk a = 0) : 0 ≤ a.sum := sum_pos fun v hv => by
  obtain ⟨i, hi, rfl⟩ := List.mem_iff_getElem.1 hv
  exact ((chk_zero h).2.2 i _ (List.getElem?_eq_getElem hi)).1

section
variable {l : List (List Int)} {d : Nat}
theorem min_below (hf : ∀ u ∈ l, chk u = 0 ∧ u.length = d) {t : List Int} (ht : t ∈ l) : ∃ u, u ∈ l ∧ underL u t = true ∧ minB l u = true := by
  obtain ⟨u, ⟨hu, hut⟩, hmin⟩ := least_at (p := fun u => u ∈ l ∧ underL u t = true) (fun u => u.sum.toNat) ⟨t, ht, under_refl t⟩
  refine ⟨u, hu, hut, min_iff.2 fun v hv hvu => ?_⟩
  have lv := hf v hv
  have lu := hf u hu
  have lt := hf t ht
  rcases under_cmp (by omega) hvu with e | ⟨_, hs⟩
  · exact e
  · have := hmin v ⟨hv, under_trans (by omega) (by omega) hvu hut⟩
    have := chk_sum lv.1
    have := chk_sum lu.1
    omega

theorem keep_inv (hf : ∀ u ∈ l, chk u = 0 ∧ u.length = d) : ∀ k, k ≤ (sortD l).length → (∀ t, t ∈ keepF ((sortD l).take k) ↔ t ∈ (sortD l).take k ∧ minB l t = true) ∧ up (keepF ((sortD l).take k)) := by
  intro k
  induction k with
  | zero => intro _; rw [List.take_zero]; exact ⟨fun t => ⟨fun h => (by cases h), fun h => (by cases h.1)⟩, List.Pairwise.nil⟩
  | succ k ih =>
    intro hk
    have hk' : k < (sortD l).length := by omega
    obtain ⟨h1, h2⟩ := ih (by omega)
    have hin : ∀ u, u ∈ sortD l ↔ u ∈ l := fun u => (sortD_perm l).mem_iff
    have hsrt := List.pairwise_iff_getElem.1 (sortD_srt l)
    have hlow : ∀ u ∈ l, cmpL u (sortD l)[k] < 0 → u ∈ (sortD l).take k := fun u hu hc => by
      obtain ⟨j, hj, rfl⟩ := List.mem_iff_getElem.1 ((hin u).2 hu)
      rcases Nat.lt_trichotomy j k with h | h | h
      · exact List.mem_iff_getElem.2 ⟨j, by rw [List.length_take]; omega, by rw [List.getElem_take]⟩
      · subst h; exact absurd hc (cmpL_irr _)
      · exact absurd hc (hsrt k j hk' hj h)
    have htl : (sortD l)[k] ∈ l := (hin _).1 (List.getElem_mem hk')
    have hft := hf _ htl
    rw [List.take_succ_eq_append_getElem hk', keepF_snoc]
    unfold keepS
    by_cases hany : ((keepF ((sortD l).take k)).any fun u => underL u (sortD l)[k]) = true
    · rw [if_pos hany]
      refine ⟨fun t => ?_, h2⟩
      rw [h1, List.mem_append, List.mem_singleton]
      constructor
      · exact fun h => ⟨.inl h.1, h.2⟩
      · rintro ⟨h | h, hm⟩
        · exact ⟨h, hm⟩
        · subst h
          obtain ⟨u, hu, hut⟩ := List.any_eq_true.1 hany
          have hu' := (h1 u).1 hu
          have := min_iff.1 hm u ((hin u).1 (List.mem_of_mem_take hu'.1)) hut
          rw [this] at hu'
          exact hu'
    · rw [if_neg hany]
      have hno : ∀ u ∈ keepF ((sortD l).take k), underL u (sortD l)[k] = false := fun u hu => by
        cases hq : underL u (sortD l)[k] with
        | false => rfl
        | true => exact absurd (List.any_eq_true.2 ⟨u, hu, hq⟩) hany
      have hmin : minB l (sortD l)[k] = true := by
        obtain ⟨u, hu, hut, hum⟩ := min_below hf htl
        have hfu := hf u hu
        rcases under_cmp (by omega) hut with e | ⟨hc, _⟩
        · rw [← e]; exact hum
        · have := hno u ((h1 u).2 ⟨hlow u hu hc, hum⟩)
          rw [hut] at this; cases this
      refine ⟨fun t => ?_, ?_⟩
      · rw [List.mem_append, List.mem_singleton, List.mem_append, List.mem_singleton, h1]
        constructor
        · rintro (h | h)
          · exact ⟨.inl h.1, h.2⟩
          · exact ⟨.inr h, h ▸ hmin⟩
        · rintro ⟨h | h, hm⟩
          · exact .inl ⟨h, hm⟩
          · exact .inr h
      · unfold up
        rw [List.pairwise_append]
        refine ⟨h2, List.pairwise_singleton _ _, fun u hu t ht => ?_⟩
        rw [List.mem_singleton] at ht
        subst ht
        have hu' := (h1 u).1 hu
        obtain ⟨j, hj, hje⟩ := List.mem_iff_getElem.1 hu'.1
        rw [List.length_take] at hj
        rw [List.getElem_take] at hje
        have hs := hsrt j k (by omega) hk' (by omega)
        rw [hje] at hs
        rw [cmpL_neg] at hs
        by_cases e : cmpL u (sortD l)[k] = 0
        · have := hno u hu
          rw [cmpL_eq.1 e, under_refl] at this
          cases this
        · omega

theorem front_same (hf : ∀ u ∈ l, chk u = 0 ∧ u.length = d) : keepF (sortD l) = (sortT l).filter (minB l) := by
  obtain ⟨s1, s2, s3⟩ := sort_facts l
  have h := keep_inv hf (sortD l).length (Nat.le_refl _)
  rw [List.take_length] at h
  refine up_same h.2 (s3.filter _) fun t => ?_
  rw [h.1, List.mem_filter, s2, (sortD_perm l).mem_iff]
end

theorem ref_Lists_same {l : List (List Int)} (hl : l.length ≤ 1000) (h : ∀ x ∈ l, x.length ≤ 1000000) : ref_Lists (l, l, ()) = some (true, ()) := by
  unfold ref_Lists
  simp only [bneF rfl, cond_false]
  have key := loopM_exit (f := ref_Lists_l1 (l, l, ())) l.length (fun i => ((i : Int), ())) (fun _ => (none : Option (Bool × Unit))) (.inl ()) (fun i hi => by
    unfold ref_Lists_l1
    simp only [dcT (show (i : Int) < (l.length : Int) by omega), cond_true, getI_lt hi, Option.bind_some, ref_TimesSame_eq (h _ (List.getElem_mem hi)), decide_true, Bool.not_true, cond_false, wrapS (show i < 9223372036854775807 by omega)]
    rfl) (by
    unfold ref_Lists_l1
    simp only [dcF (show ¬ (l.length : Int) < (l.length : Int) by omega), cond_false]) (s0 := ((0 : Int), ())) rfl
  rw [key, show (List.range l.length).findSome? (fun _ => (none : Option (Bool × Unit))) = none by simp]
  rfl
end

section
open Go Go.Abs


/-! What a compaction in place leaves: 'Part p s i j l': of the list s the first j are done, i of them are kept. -/
structure Part {α : Type} (p : α → Bool) (s : List α) (i j : Nat) (l : List α) : Prop where
  ij : i ≤ j
  js : j ≤ s.length
  len : l.length = s.length
  head : l.take i = (s.take j).filter p
  tail : l.drop j = s.drop j
theorem Part.get {α : Type} {p : α → Bool} {s l : List α} {i j : Nat} (h : Part p s i j l) (hj : j < s.length) : l[j]? = some s[j] := by
  have := h.tail
  have h1 : (l.drop j)[0]? = (s.drop j)[0]? := by rw [this]
  rw [List.getElem?_drop, List.getElem?_drop, Nat.add_zero] at h1
  rw [h1, List.getElem?_eq_getElem hj]
theorem Part.skip {α : Type} {p : α → Bool} {s l : List α} {i j : Nat} (h : Part p s i j l) (hj : j < s.length) (hp : p s[j] = false) : Part p s i (j + 1) l := by
  refine ⟨by have := h.ij; omega, hj, h.len, ?_, ?_⟩
  · rw [List.take_succ_eq_append_getElem hj, List.filter_append, h.head]
    simp [hp]
  · have h1 := congrArg (List.drop 1) h.tail
    rw [List.drop_drop, List.drop_drop] at h1
    exact h1
theorem Part.keep {α : Type} {p : α → Bool} {s l : List α} {i j : Nat} (h : Part p s i j l) (hj : j < s.length) (hp : p s[j] = true) : Part p s (i + 1) (j + 1) (l.set i s[j]) := by
  have h0 := h.ij
  have h9 := h.len
  refine ⟨by omega, hj, by rw [List.length_set]; exact h.len, ?_, ?_⟩
  · rw [List.take_succ_eq_append_getElem hj, List.filter_append, ← h.head]
    have hi : i < (l.set i s[j]).length := by rw [List.length_set]; omega
    rw [List.take_succ_eq_append_getElem hi, List.getElem_set_self, List.take_set_of_le (Nat.le_refl i)]
    simp [hp]
  · rw [List.drop_set_of_lt (by omega)]
    have h1 := congrArg (List.drop 1) h.tail
    rw [List.drop_drop, List.drop_drop] at h1
    exact h1
theorem Part.count {α : Type} {p : α → Bool} {s l : List α} {i j : Nat} (h : Part p s i j l) : i = ((s.take j).filter p).length := by
  rw [← h.head, List.length_take]
  have := h.ij; have := h.js; have := h.len
  omega
theorem Part.done {α : Type} {p : α → Bool} {s l : List α} {i : Nat} (h : Part p s i s.length l) : l.take i = s.filter p := by
  have := h.head; rw [List.take_length] at this; exact this
/-- The first that goes: all ahead of it are kept. -/
theorem part_start {α : Type} {p : α → Bool} {s : List α} {i : Nat} (hi : i < s.length) (h : ∀ k (hk : k < i), p (s[k]'(by omega)) = true) (hp : p s[i] = false) : Part p s i (i + 1) s := by
  refine ⟨by omega, hi, rfl, ?_, rfl⟩
  rw [List.take_succ_eq_append_getElem hi, List.filter_append]
  have : (s.take i).filter p = s.take i := by
    rw [List.filter_eq_self]
    intro a ha
    obtain ⟨k, hk, rfl⟩ := List.mem_iff_getElem.1 ha
    rw [List.getElem_take]
    rw [List.length_take] at hk
    exact h k (by omega)
  rw [this]
  simp [hp]
theorem take_junk {α : Type} (l z : List α) (i : Nat) (hi : i ≤ l.length) : (((l.take i ++ z).drop (0 : Int).toNat).take (((i : Nat) : Int).toNat - (0 : Int).toNat)) = l.take i := by
  simp only [Int.toNat_natCast, Int.toNat_zero, Nat.sub_zero, List.drop_zero]
  rw [List.take_append_of_le_length (by rw [List.length_take]; omega), List.take_take, Nat.min_self]
end

section
open Go Go.Abs


/-! Summaries held against each other. -/
abbrev Sm := Int × Int × List Int × Unit
def okS (s : Sm) : Prop := sck s.1 s.2.1 s.2.2.1 4 = 0
def leS (a b : Sm) : Bool := decide (a.1.toNat + a.2.2.1.length = b.1.toNat + b.2.2.1.length) && !(List.range (a.1.toNat + a.2.2.1.length)).any (lessBad a.1.toNat a.2.1 a.2.2.1 b.1.toNat b.2.1 b.2.2.1)
theorem okS_nat {s : Sm} (h : okS s) : ∃ (n : Nat) (d : Int) (p : List Int), s = ((n : Int), d, p, ()) ∧ 1 ≤ n ∧ n + p.length ≤ 4 := by
  obtain ⟨n, d, p, ⟨⟩⟩ := s
  obtain ⟨h1, h2, h3, h4, h5, h6⟩ := sck_zero (show sck n d p 4 = 0 from h)
  obtain ⟨k, rfl⟩ := Int.eq_ofNat_of_zero_le (show 0 ≤ n by omega)
  exact ⟨k, d, p, rfl, by omega, by omega⟩
theorem summary_Leq_s {a b : Sm} (ha : okS a) (hb : okS b) : summary_Leq (a, b, ()) = some (leS a b, ()) := by
  obtain ⟨n, d, p, rfl, -⟩ := okS_nat ha
  obtain ⟨m, e, q, rfl, -⟩ := okS_nat hb
  exact summary_Leq_eq ha hb
theorem ref_SummaryLeq_s {a b : Sm} (ha : okS a) (hb : okS b) : ref_SummaryLeq (a, b, ()) = some (leS a b, ()) := by
  obtain ⟨n, d, p, rfl, -⟩ := okS_nat ha
  obtain ⟨m, e, q, rfl, -⟩ := okS_nat hb
  exact ref_SummaryLeq_eq ha hb
def outS (s : Sm) : Int := s.1 + (s.2.2.1.length : Int)
theorem summary_Out_s {s : Sm} (h : okS s) : summary_Out (s, ()) = some (outS s, ()) := by
  obtain ⟨n, d, p, rfl, h1, h2⟩ := okS_nat h
  rw [summary_Out_eq h2]; rfl
theorem ref_SummaryOut_s {s : Sm} (h : okS s) : ref_SummaryOut (s, ()) = some (outS s, ()) := by
  obtain ⟨n, d, p, rfl, h1, h2⟩ := okS_nat h
  rw [ref_SummaryOut_eq h2]; rfl
/-- All numbers of a summary, one behind the other. -/
def keyS (s : Sm) : List Int := s.1 :: s.2.1 :: s.2.2.1
def unkey : List Int → Sm
  | n :: d :: p => (n, d, p, ())
  | _ => (0, 0, [], ())
theorem unkey_key (s : Sm) : unkey (keyS s) = s := rfl
theorem keyS_inj {a b : Sm} (h : keyS a = keyS b) : a = b := by rw [← unkey_key a, h, unkey_key]
theorem cmp_Or_3 (a b c : Int) : cmp_Or_int ([a, b, c], ()) = some (if a ≠ 0 then a else if b ≠ 0 then b else c, ()) := by
  have st : ∀ (i : Nat) (v : Int), [a, b, c][i]? = some v → cmp_Or_int_l1 ([a, b, c], ()) ((i : Int), ()) = some (if v ≠ 0 then .inr (.inl (v, ())) else .inl (((i + 1 : Nat) : Int), ())) := fun i v hi => by
    have hlt := (List.getElem?_eq_some_iff.1 hi).1
    unfold cmp_Or_int_l1
    simp only [dcT (show (i : Int) < (([a, b, c] : List Int).length : Int) by omega), cond_true, getI_nat, hi, Option.bind_some, cond_bne, wrapS (show i < 9223372036854775807 by simp at hlt; omega)]
    by_cases hv : v = 0 <;> simp [hv]
  have s0 : cmp_Or_int_l1 ([a, b, c], ()) ((0 : Int), ()) = some (if a ≠ 0 then .inr (.inl (a, ())) else .inl ((1 : Int), ())) := st 0 a rfl
  have s1 : cmp_Or_int_l1 ([a, b, c], ()) ((1 : Int), ()) = some (if b ≠ 0 then .inr (.inl (b, ())) else .inl ((2 : Int), ())) := st 1 b rfl
  have s2 : cmp_Or_int_l1 ([a, b, c], ()) ((2 : Int), ()) = some (if c ≠ 0 then .inr (.inl (c, ())) else .inl ((3 : Int), ())) := st 2 c rfl
  have s3 : cmp_Or_int_l1 ([a, b, c], ()) ((3 : Int), ()) = some (.inr (.inr (.inl ()))) := rfl
  unfold cmp_Or_int
  by_cases ha : a = 0
  · rw [if_neg (by simpa using ha)] at s0
    rw [loopM_inl s0]
    by_cases hb : b = 0
    · rw [if_neg (by simpa using hb)] at s1
      rw [loopM_inl s1]
      by_cases hc : c = 0
      · rw [if_neg (by simpa using hc)] at s2
        rw [loopM_inl s2, loopM_inr s3]; simp [ha, hb, hc]
      · rw [if_pos hc] at s2
        rw [loopM_inr s2]; simp [ha, hb]
    · rw [if_pos hb] at s1
      rw [loopM_inr s1]; simp [ha, hb]
  · rw [if_pos ha] at s0
    rw [loopM_inr s0]; simp [ha]
theorem summary_Compare_eq (a b : Sm) (ha : a.2.2.1.length ≤ 1000000) : summary_Compare (a, b, ()) = some (cmpL (keyS a) (keyS b), ()) := by
  unfold summary_Compare
  simp only [cmp_Compare_eq, slices_Compare_eq ha, Option.bind_some, cmp_Or_3]
  congr 2
  unfold keyS
  simp only [cmpL]
  by_cases h1 : a.1 < b.1
  · simp [h1]
  · by_cases h2 : a.1 > b.1
    · simp [h1, h2]
    · by_cases h3 : a.2.1 < b.2.1
      · simp [h1, h2, h3]
      · by_cases h4 : a.2.1 > b.2.1 <;> simp [h1, h2, h3, h4]
theorem c1_eq (a b : Sm) (ha : a.2.2.1.length ≤ 1000000) : summary_Least_c1 (a, b, ()) = some (decide (a = b), ()) := by
  unfold summary_Least_c1
  rw [summary_Compare_eq a b ha]
  simp only [Option.bind_some]
  by_cases h : a = b
  · subst h
    rw [cmpL_eq.2 rfl]; simp
  · have : ¬ cmpL (keyS a) (keyS b) = 0 := fun e => h (keyS_inj (cmpL_eq.1 e))
    simp [h, this]
/-! The program's sort. -/
noncomputable def cmpQ (a b : Sm) : Option Int := (summary_Compare (a, b, ())).map fun r => r.1
theorem cmpQ_eq {a b : Sm} (ha : a.2.2.1.length ≤ 1000000) : cmpQ a b = some (cmpL (keyS a) (keyS b)) := by
  unfold cmpQ; rw [summary_Compare_eq a b ha]; rfl
theorem ltQ_iff {a b : Sm} (ha : a.2.2.1.length ≤ 1000000) : ltF cmpQ a b ↔ cmpL (keyS a) (keyS b) < 0 := by
  unfold ltF
  rw [cmpQ_eq ha]
  constructor
  · rintro ⟨v, h1, h2⟩; cases h1; exact h2
  · exact fun h => ⟨_, rfl, h⟩
def sortQ (l : List Sm) : List Sm := (sortD (l.map keyS)).map unkey
theorem sortQ_perm (l : List Sm) : (sortQ l).Perm l := by
  have h := (sortD_perm (l.map keyS)).map unkey
  rw [List.map_map] at h
  have e : l.map (unkey ∘ keyS) = l := (List.map_congr_left fun a _ => unkey_key a).trans (List.map_id _)
  rw [e] at h
  exact h
theorem sortQ_keys (l : List Sm) : (sortQ l).map keyS = sortD (l.map keyS) := by
  unfold sortQ
  rw [List.map_map]
  refine (List.map_congr_left fun k hk => ?_).trans (List.map_id _)
  obtain ⟨s, -, rfl⟩ := List.mem_map.1 ((sortD_perm _).mem_iff.1 hk)
  rfl
theorem sortQ_is {l : List Sm} (h : ∀ s ∈ l, s.2.2.1.length ≤ 1000000) : sortP cmpQ l = some (sortQ l) := by
  refine sortP_eq ⟨fun x hx y _ => ⟨_, cmpQ_eq (h x hx)⟩, fun x hx hlt => cmpL_irr _ ((ltQ_iff (h x hx)).1 hlt), fun x hx y hy z _ h1 h2 => (ltQ_iff (h x hx)).2 (cmpL_trans ((ltQ_iff (h x hx)).1 h1) ((ltQ_iff (h y hy)).1 h2)), fun x hx y hy h1 h2 => ?_⟩ (sortQ_perm l) ?_
  · have a1 : ¬ cmpL (keyS x) (keyS y) < 0 := fun e => h1 ((ltQ_iff (h x hx)).2 e)
    have a2 : ¬ cmpL (keyS y) (keyS x) < 0 := fun e => h2 ((ltQ_iff (h y hy)).2 e)
    rw [cmpL_neg] at a2
    exact keyS_inj (cmpL_eq.1 (by omega))
  · have := sortD_srt (l.map keyS)
    rw [← sortQ_keys] at this
    rw [List.pairwise_map] at this
    exact this.imp_of_mem fun {a b} ha hb hab hlt => hab ((ltQ_iff (h b ((sortQ_perm l).mem_iff.1 hb))).1 hlt)
/-! Equal neighbours go. -/
def firstAt (s : List Sm) (k : Nat) : Bool := decide (k = 0) || !decide (s.getD k (0, 0, [], ()) = s.getD (k - 1) (0, 0, [], ()))
/-- 'PartI': of s the first j are done, i of them are kept: those at places where q holds. -/
structure PartI (q : Nat → Bool) (s : List Sm) (i j : Nat) (l : List Sm) : Prop where
  ij : i < j
  js : j ≤ s.length
  len : l.length = s.length
  head : l.take i = ((List.range j).filter q).map fun k => s.getD k (0, 0, [], ())
  tail : l.drop i = s.drop i
theorem PartI.get {q : Nat → Bool} {s l : List Sm} {i j k : Nat} (h : PartI q s i j l) (hk : i ≤ k) (hk2 : k < s.length) : l[k]? = some (s.getD k (0, 0, [], ())) := by
  have h1 : (l.drop i)[k - i]? = (s.drop i)[k - i]? := by rw [h.tail]
  rw [List.getElem?_drop, List.getElem?_drop, show i + (k - i) = k from by omega] at h1
  rw [h1]; exact getD_get hk2
theorem PartI.skip {q : Nat → Bool} {s l : List Sm} {i j : Nat} (h : PartI q s i j l) (hj : j < s.length) (hp : q j = false) : PartI q s i (j + 1) l := by
  refine ⟨by have := h.ij; omega, hj, h.len, ?_, h.tail⟩
  rw [List.range_succ, List.filter_append, h.head]
  simp [hp]
theorem PartI.keep {q : Nat → Bool} {s l : List Sm} {i j : Nat} (h : PartI q s i j l) (hj : j < s.length) (hp : q j = true) : PartI q s (i + 1) (j + 1) (l.set i (s.getD j (0, 0, [], ()))) := by
  have h0 := h.ij
  have h9 := h.len
  refine ⟨by omega, hj, by rw [List.length_set]; exact h.len, ?_, ?_⟩
  · rw [List.range_succ, List.filter_append, List.map_append, ← h.head]
    have hi : i < (l.set i (s.getD j (0, 0, [], ()))).length := by rw [List.length_set]; omega
    rw [List.take_succ_eq_append_getElem hi, List.getElem_set_self, List.take_set_of_le (Nat.le_refl i)]
    simp [hp]
  · rw [List.drop_set_of_lt (by omega)]
    have h1 := congrArg (List.drop 1) h.tail
    rw [List.drop_drop, List.drop_drop] at h1
    exact h1
theorem partI_start {q : Nat → Bool} {s : List Sm} {i : Nat} (hi : i < s.length) (h : ∀ k, k < i → q k = true) (hp : q i = false) : PartI q s i (i + 1) s := by
  refine ⟨by omega, hi, rfl, ?_, rfl⟩
  rw [List.range_succ, List.filter_append, List.map_append]
  have : (List.range i).filter q = List.range i := by
    rw [List.filter_eq_self]
    intro a ha
    exact h a (List.mem_range.1 ha)
  rw [this]
  simp only [List.filter_cons, hp, List.filter_nil, Bool.false_eq_true, if_false, List.map_nil, List.append_nil]
  refine List.ext_getElem (by simp; omega) fun k h1 h2 => ?_
  simp only [List.length_take] at h1
  rw [List.getElem_take, List.getElem_map, List.getElem_range, List.getD_eq_getElem?_getD, List.getElem?_eq_getElem (by omega)]
  rfl
/-- The list, each once. -/
def onceQ (s : List Sm) : List Sm := ((List.range s.length).filter (firstAt s)).map fun k => s.getD k (0, 0, [], ())
theorem inner_loop {s : List Sm} (hs : s.length ≤ 1000) (hp : ∀ x ∈ s, x.2.2.1.length ≤ 1000000) {k0 : Nat} (z : List Sm × Unit) (hz : z.1.length = s.length) (hk0 : k0 < s.length) :
    ∀ (n i j : Nat) (l : List Sm), k0 + j + n = s.length → 0 < j → k0 ≤ i → PartI (firstAt s) s i (k0 + j) l →
      ∃ (i' : Nat) (l' : List Sm), loopM (summary_Least_l1 ((k0 : Int), z)) ((i : Int), (j : Int), l, ()) = some (.inl ((i' : Int), l', ())) ∧ PartI (firstAt s) s i' s.length l'
  | 0, i, j, l, hn, hj, hki, h => by
    obtain rfl : j = s.length - k0 := by omega
    have e : k0 + (s.length - k0) = s.length := by omega
    rw [e] at h
    refine ⟨i, l, loopM_inr ?_, h⟩
    unfold summary_Least_l1
    have d1 : decide (((s.length - k0 : Nat) : Int) < ((z.1.length - k0 : Nat) : Int)) = false := dcF (by rw [hz]; omega)
    simp only [Int.toNat_natCast, d1, cond_false]
  | n + 1, i, j, l, hn, hj, hki, h => by
    have hl := h.len
    have hij := h.ij
    have hlt : k0 + j < s.length := by omega
    have m1 : s.getD (k0 + j) (0, 0, [], ()) ∈ s := by
      rw [List.getD_eq_getElem?_getD, List.getElem?_eq_getElem hlt]; exact List.getElem_mem hlt
    have w1 : IntKind.i64.wrap ((j : Int) - 1) = ((j - 1 : Nat) : Int) := by rw [wrap64 (by omega) (by omega)]; omega
    have b1 : inB (j : Int) (z.1.length - k0) = true := inB_T (by rw [hz]; omega)
    have b2 : inB ((j - 1 : Nat) : Int) (z.1.length - k0) = true := inB_T (by rw [hz]; omega)
    have d1 : decide ((j : Int) < ((z.1.length - k0 : Nat) : Int)) = true := dcT (by rw [hz]; omega)
    have g1 : l[k0 + j]? = some (s.getD (k0 + j) (0, 0, [], ())) := h.get (by omega) hlt
    have g2 : l[k0 + (j - 1)]? = some (s.getD (k0 + j - 1) (0, 0, [], ())) := by
      rw [show k0 + (j - 1) = k0 + j - 1 from by omega]; exact h.get (by omega) (by omega)
    have hq : firstAt s (k0 + j) = !decide (s.getD (k0 + j) (0, 0, [], ()) = s.getD (k0 + j - 1) (0, 0, [], ())) := by
      unfold firstAt
      rw [decide_eq_false (show ¬ k0 + j = 0 by omega), Bool.false_or]
    have key : summary_Least_l1 ((k0 : Int), z) ((i : Int), (j : Int), l, ()) = some (.inl (if firstAt s (k0 + j) = true then (((i + 1 : Nat) : Int), ((j + 1 : Nat) : Int), l.set i (s.getD (k0 + j) (0, 0, [], ())), ()) else ((i : Int), ((j + 1 : Nat) : Int), l, ()))) := by
      unfold summary_Least_l1
      simp only [Int.toNat_natCast, d1, cond_true, b1, w1, b2, g1, g2, Option.bind_some, c1_eq _ _ (hp _ m1), ← hq, wrapS (show j < 9223372036854775807 by omega)]
      cases firstAt s (k0 + j) with
      | true => simp only [cond_true, inB_T (show i < l.length by omega), List.getElem?_eq_getElem (show i < l.length by omega), Option.bind_some, wrapS (show i < 9223372036854775807 by omega), if_true]
      | false => simp only [cond_false, Bool.false_eq_true, if_false]
    rw [loopM_inl key]
    cases hq' : firstAt s (k0 + j) with
    | true => simp only [if_true]; exact inner_loop hs hp z hz hk0 n (i + 1) (j + 1) _ (by omega) (by omega) (by omega) (h.keep hlt hq')
    | false => simp only [Bool.false_eq_true, if_false]; exact inner_loop hs hp z hz hk0 n i (j + 1) _ (by omega) (by omega) hki (h.skip hlt hq')
/-- The piece that takes equal neighbours away. -/
theorem compact_eq {s : List Sm} (hs : s.length ≤ 1000) (hp : ∀ x ∈ s, x.2.2.1.length ≤ 1000000) :
    (((cond (decide ((s.length : Int) < (2 : Int))) (some (Sum.inl (s, ()))) ((loopM (summary_Least_l2) ((1 : Int), s, ())).bind (Sum.elim (fun z14 => (some (Sum.inl (((z14.2.2.1.drop z14.1).take z14.2.1), ())))) (Sum.elim (fun z15 => (some (Sum.inl z15))) Empty.elim)))) : Option ((List Sm × Unit) ⊕ Empty))) = some (.inl (onceQ s, ())) := by
  by_cases h2 : s.length < 2
  · simp only [dcT (show (s.length : Int) < 2 by omega), cond_true]
    congr 3
    match s, h2 with
    | [], _ => rfl
    | [a], _ => rfl
  · simp only [dcF (show ¬ (s.length : Int) < 2 by omega), cond_false]
    have hstep : ∀ k : Nat, 1 ≤ k → k < s.length → firstAt s k = true → summary_Least_l2 ((k : Int), s, ()) = some (.inl (((k + 1 : Nat) : Int), s, ())) := fun k hk1 hk hq => by
      have w1 : IntKind.i64.wrap ((k : Int) - 1) = ((k - 1 : Nat) : Int) := by rw [wrap64 (by omega) (by omega)]; omega
      have m1 : s.getD k (0, 0, [], ()) ∈ s := by
        rw [List.getD_eq_getElem?_getD, List.getElem?_eq_getElem hk]; exact List.getElem_mem hk
      unfold firstAt at hq
      rw [decide_eq_false (show ¬ k = 0 by omega), Bool.false_or, Bool.not_eq_true'] at hq
      unfold summary_Least_l2
      simp only [dcT (show (k : Int) < (s.length : Int) by omega), cond_true, inB_T hk, w1, inB_T (show k - 1 < s.length by omega), Int.toNat_natCast, getD_get (d := ((0, 0, [], ()) : Sm)) hk, getD_get (d := ((0, 0, [], ()) : Sm)) (show k - 1 < s.length by omega), Option.bind_some, c1_eq _ _ (hp _ m1), hq, cond_false, wrapS (show k < 9223372036854775807 by omega)]
    have hend : summary_Least_l2 ((s.length : Int), s, ()) = some (.inr (.inr (.inl (s, ())))) := by
      unfold summary_Least_l2
      simp only [dcF (show ¬ (s.length : Int) < (s.length : Int) by omega), cond_false]
    have hdup : ∀ k : Nat, 1 ≤ k → k < s.length → (∀ m, m < k → firstAt s m = true) → firstAt s k = false → ∃ (i' : Nat) (l' : List Sm), i' ≤ l'.length ∧ l'.take i' = onceQ s ∧ ∃ z : List Sm, summary_Least_l2 ((k : Int), s, ()) = some (.inr (.inl (0, i', l'.take i' ++ z, ()))) := fun k hk1 hk hall hq => by
      have w1 : IntKind.i64.wrap ((k : Int) - 1) = ((k - 1 : Nat) : Int) := by rw [wrap64 (by omega) (by omega)]; omega
      have m1 : s.getD k (0, 0, [], ()) ∈ s := by
        rw [List.getD_eq_getElem?_getD, List.getElem?_eq_getElem hk]; exact List.getElem_mem hk
      obtain ⟨i', l', hrun, hpi⟩ := inner_loop hs hp (k0 := k) (s, ()) rfl hk (s.length - (k + 1)) k 1 s (by omega) (by omega) (Nat.le_refl _) (partI_start hk hall hq)
      have h1 := hpi.ij
      have h3 := hpi.len
      refine ⟨i', l', by omega, hpi.head, ?_⟩
      unfold firstAt at hq
      rw [decide_eq_false (show ¬ k = 0 by omega), Bool.false_or, Bool.not_eq_false'] at hq
      have g0 : (decide (0 ≤ (k : Int)) && decide ((k : Int) ≤ (s.length : Int)) && decide ((s.length : Int) ≤ s.length)) = true := by
        rw [dcT (show (0 : Int) ≤ k by omega), dcT (show (k : Int) ≤ s.length by omega), dcT (show (s.length : Int) ≤ s.length by omega)]; rfl
      have g1 : (decide (0 ≤ (i' : Int)) && decide ((i' : Int) ≤ (l'.length : Int)) && decide ((l'.length : Int) ≤ l'.length)) = true := by
        rw [dcT (show (0 : Int) ≤ i' by omega), dcT (show (i' : Int) ≤ l'.length by omega), dcT (show (l'.length : Int) ≤ l'.length by omega)]; rfl
      have g2 : ∀ z : List Sm, (decide (0 ≤ (0 : Int)) && decide ((0 : Int) ≤ (i' : Int)) && decide ((i' : Int) ≤ (l'.take i' ++ z).length)) = true := fun z => by
        rw [dcT (show (0 : Int) ≤ 0 by omega), dcT (show (0 : Int) ≤ i' by omega), dcT (show (i' : Int) ≤ ((l'.take i' ++ z).length : Nat) by rw [List.length_append, List.length_take]; omega)]; rfl
      have e1 : ((1 : Nat) : Int) = 1 := rfl
      rw [e1] at hrun
      unfold summary_Least_l2
      simp only [dcT (show (k : Int) < (s.length : Int) by omega), cond_true, inB_T hk, w1, inB_T (show k - 1 < s.length by omega), Int.toNat_natCast, getD_get (d := ((0, 0, [], ()) : Sm)) hk, getD_get (d := ((0, 0, [], ()) : Sm)) (show k - 1 < s.length by omega), Option.bind_some, c1_eq _ _ (hp _ m1), hq, g0, hrun, Sum.elim_inl, g1]
      simp only [List.append_assoc, g2, cond_true, Int.toNat_zero, Nat.sub_zero]
      exact ⟨_, rfl⟩
    have hrun : ∀ (n k : Nat), k + n = s.length → 1 ≤ k → (∀ m, m < k → firstAt s m = true) → ((loopM (summary_Least_l2) ((k : Int), s, ())).bind (Sum.elim (fun z14 => (some (Sum.inl (((z14.2.2.1.drop z14.1).take z14.2.1), ())))) (Sum.elim (fun z15 => (some (Sum.inl z15))) Empty.elim)) : Option ((List Sm × Unit) ⊕ Empty)) = some (.inl (onceQ s, ())) := by
      intro n
      induction n with
      | zero =>
        intro k hk hk1 hall
        obtain rfl : k = s.length := by omega
        rw [loopM_inr hend]
        simp only [Option.bind_some, Sum.elim_inr, Sum.elim_inl]
        congr 3
        unfold onceQ
        have : (List.range s.length).filter (firstAt s) = List.range s.length := by
          rw [List.filter_eq_self]
          intro a ha
          exact hall a (List.mem_range.1 ha)
        rw [this]
        refine List.ext_getElem (by simp) fun k h1 h2 => ?_
        rw [List.getElem_map, List.getElem_range, List.getD_eq_getElem?_getD, List.getElem?_eq_getElem h1]
        rfl
      | succ n ih =>
        intro k hk hk1 hall
        cases hq : firstAt s k with
        | true =>
          rw [loopM_inl (hstep k hk1 (by omega) hq)]
          exact ih (k + 1) (by omega) (by omega) fun m hm => by
            rcases Nat.lt_succ_iff_lt_or_eq.1 hm with h | rfl
            · exact hall m h
            · exact hq
        | false =>
          obtain ⟨i', l', hi', ht, z, hz⟩ := hdup k hk1 (by omega) hall hq
          rw [loopM_inr hz]
          simp only [Option.bind_some, Sum.elim_inl, List.drop_zero]
          rw [List.take_append_of_le_length (by rw [List.length_take]; omega), List.take_take, Nat.min_self, ht]
    exact hrun (s.length - 1) 1 (by omega) (Nat.le_refl _) fun m hm => by
      obtain rfl : m = 0 := by omega
      rfl
end

section
open Go Go.Abs


/-! The front of summaries. -/
theorem once_facts {l : List Sm} : up ((onceQ (sortQ l)).map keyS) ∧ (∀ s, s ∈ onceQ (sortQ l) ↔ s ∈ l) := by
  have hsrt : ((sortQ l).map keyS).Pairwise fun a b => ¬ cmpL b a < 0 := by rw [sortQ_keys]; exact sortD_srt _
  have hmem : ∀ s, s ∈ sortQ l ↔ s ∈ l := fun s => (sortQ_perm l).mem_iff
  generalize sortQ l = S at hsrt hmem
  rw [List.pairwise_map, List.pairwise_iff_getElem] at hsrt
  have gd : ∀ k (hk : k < S.length), S.getD k (0, 0, [], ()) = S[k] := fun k hk => by
    rw [List.getD_eq_getElem?_getD, List.getElem?_eq_getElem hk]; rfl
  have le : ∀ i j (hi : i < S.length) (hj : j < S.length), i ≤ j → ¬ cmpL (keyS S[j]) (keyS S[i]) < 0 := fun i j hi hj hij => by
    rcases Nat.lt_or_ge i j with h | h
    · exact hsrt i j hi hj h
    · obtain rfl : i = j := by omega
      exact cmpL_irr _
  constructor
  · show (((onceQ S).map keyS)).Pairwise _
    unfold onceQ
    rw [List.map_map, List.pairwise_map]
    refine ((List.pairwise_lt_range (n := S.length)).filter _).imp_of_mem fun {a b} ha hb hab => ?_
    have hb' := List.mem_filter.1 hb
    have ha' := List.mem_filter.1 ha
    have hbn := List.mem_range.1 hb'.1
    have han := List.mem_range.1 ha'.1
    show cmpL (keyS (S.getD a _)) (keyS (S.getD b _)) < 0
    rw [gd a han, gd b hbn]
    have hf := hb'.2
    unfold firstAt at hf
    rw [decide_eq_false (show ¬ b = 0 by omega), Bool.false_or, Bool.not_eq_true', decide_eq_false_iff_not, gd b hbn, gd (b - 1) (by omega)] at hf
    have h1 := le a (b - 1) han (by omega) (by omega)
    have h2 := le (b - 1) b (by omega) hbn (by omega)
    have h3 : ¬ cmpL (keyS S[b - 1]) (keyS S[b]) = 0 := fun e => hf (keyS_inj (cmpL_eq.1 e)).symm
    rw [cmpL_neg] at h2
    have h4 : cmpL (keyS S[b - 1]) (keyS S[b]) < 0 := by omega
    by_cases h5 : cmpL (keyS S[a]) (keyS S[b - 1]) < 0
    · exact cmpL_trans h5 h4
    · rw [cmpL_neg] at h1
      rw [cmpL_eq.1 (show cmpL (keyS S[a]) (keyS S[b - 1]) = 0 by omega)]
      exact h4
  · intro s
    rw [← hmem]
    unfold onceQ
    rw [List.mem_map]
    constructor
    · rintro ⟨k, hk, rfl⟩
      have := List.mem_range.1 (List.mem_filter.1 hk).1
      rw [gd k this]; exact List.getElem_mem this
    · intro hs
      obtain ⟨i, hi, rfl⟩ := List.mem_iff_getElem.1 hs
      -- the first place with the same
      have : ∃ k, k < S.length ∧ S.getD k (0, 0, [], ()) = S[i] ∧ ∀ m, m < k → S.getD m (0, 0, [], ()) ≠ S[i] := by
        cases hf : (List.range S.length).find? fun k => decide (S.getD k (0, 0, [], ()) = S[i]) with
        | none =>
          have := find_none_all hf i hi
          rw [gd i hi] at this
          simp at this
        | some k =>
          have h1 := List.find?_range_eq_some.1 hf
          refine ⟨k, List.mem_range.1 h1.2.1, of_decide_eq_true h1.1, fun m hm e => ?_⟩
          have := h1.2.2 m hm
          rw [decide_eq_true e] at this
          cases this
      obtain ⟨k, hk, e, hmin⟩ := this
      refine ⟨k, List.mem_filter.2 ⟨List.mem_range.2 hk, ?_⟩, e⟩
      unfold firstAt
      by_cases h0 : k = 0
      · simp [h0]
      · have := hmin (k - 1) (by omega)
        rw [e, decide_eq_false h0, decide_eq_false (Ne.symm this)]; rfl
/-- No other one is Leq to it. -/
def minS (D : List Sm) (s : Sm) : Bool := D.all fun r => decide (r = s) || !leS r s
theorem minS_congr {D E : List Sm} (h : ∀ r, r ∈ D ↔ r ∈ E) (s : Sm) : minS D s = minS E s := by
  rw [Bool.eq_iff_iff]
  unfold minS
  rw [List.all_eq_true, List.all_eq_true]
  exact ⟨fun g r hr => g r ((h r).2 hr), fun g r hr => g r ((h r).1 hr)⟩
theorem nodup_at {D : List Sm} (h : D.Nodup) {i j : Nat} (hi : i < D.length) (hj : j < D.length) (e : D[j] = D[i]) : j = i := by
  have h := List.pairwise_iff_getElem.1 h
  rcases Nat.lt_trichotomy i j with g | g | g
  · exact absurd e.symm (h i j hi hj g)
  · exact g.symm
  · exact absurd e (h j i hj hi g)
theorem least_inner {D : List Sm} (hD : D.length ≤ 1000) (hok : ∀ s ∈ D, okS s) (hnd : D.Nodup) (zu : Unit) {K : List Sm} {i : Nat} (hi : i < D.length) :
    loopM (summary_Least_l3 (D, zu) (K, (i : Int), ()) D[i]) (true, (0 : Int), ()) = some (.inl (minS D D[i], ())) := by
  have hmin : minS D D[i] = (List.range D.length).all fun j => decide (j = i) || !leS (D.getD j (0, 0, [], ())) D[i] := by
    rw [Bool.eq_iff_iff]
    unfold minS
    rw [List.all_eq_true, List.all_eq_true]
    constructor
    · intro h j hj
      have hj := List.mem_range.1 hj
      have := h D[j] (List.getElem_mem hj)
      rw [List.getD_eq_getElem?_getD, List.getElem?_eq_getElem hj, Option.getD_some]
      simp only [Bool.or_eq_true, decide_eq_true_eq] at this ⊢
      rcases this with e | e
      · exact .inl (nodup_at hnd hi hj e)
      · exact .inr e
    · intro h r hr
      obtain ⟨j, hj, rfl⟩ := List.mem_iff_getElem.1 hr
      have := h j (List.mem_range.2 hj)
      rw [List.getD_eq_getElem?_getD, List.getElem?_eq_getElem hj, Option.getD_some] at this
      simp only [Bool.or_eq_true, decide_eq_true_eq] at this ⊢
      rcases this with rfl | e
      · exact .inl rfl
      · exact .inr e
  rw [hmin]
  refine loopM_sim D.length (fun k => ((List.range k).all fun j => decide (j = i) || !leS (D.getD j (0, 0, [], ())) D[i], (k : Int), ())) _ (fun k hk => ?_) ?_ rfl
  · rw [List.range_succ, List.all_append]
    generalize ((List.range k).all fun j => decide (j = i) || !leS (D.getD j (0, 0, [], ())) D[i]) = b
    unfold summary_Least_l3
    simp only [dcT (show (k : Int) < (D.length : Int) by omega), cond_true, getI_lt hk, Option.bind_some, wrapS (show k < 9223372036854775807 by omega), List.all_cons, List.all_nil, Bool.and_true]
    rw [List.getD_eq_getElem?_getD, List.getElem?_eq_getElem hk, Option.getD_some]
    cases b with
    | false => rfl
    | true =>
      by_cases h : k = i
      · subst h
        simp
      · have e : ((i : Int) == (k : Int)) = false := beqF (by omega)
        simp only [e, cond_true, cond_false, summary_Leq_s (hok _ (List.getElem_mem hk)) (hok _ (List.getElem_mem hi)), Option.bind_some, Bool.true_and, decide_eq_false h, Bool.false_or]
  · unfold summary_Least_l3
    simp only [dcF (show ¬ (D.length : Int) < (D.length : Int) by omega), cond_false]
def frontQ (l : List Sm) : List Sm := (onceQ (sortQ l)).filter (minS l)
theorem once_len (s : List Sm) : (onceQ s).length ≤ s.length := by
  unfold onceQ
  rw [List.length_map]
  exact Nat.le_trans (List.length_filter_le ..) (by rw [List.length_range]; exact Nat.le_refl _)
theorem nodup_of_up {D : List Sm} (h : up (D.map keyS)) : D.Nodup := by
  unfold up at h
  rw [List.pairwise_map] at h
  exact h.imp fun {a b} hab e => by subst e; exact cmpL_irr _ hab
theorem ok_push {s : Sm} (h : okS s) : s.2.2.1.length ≤ 4 := by
  obtain ⟨n, d, p, rfl, h1, h2⟩ := okS_nat h
  show p.length ≤ 4
  omega
theorem summary_Least_eq {l : List Sm} (hl : l.length ≤ 64) (hok : ∀ s ∈ l, okS s) : summary_Least (l, ()) = some (frontQ l, ()) := by
  obtain ⟨hup, hmem⟩ := once_facts (l := l)
  have hSl : (sortQ l).length = l.length := (sortQ_perm l).length_eq
  have hlen := once_len (sortQ l)
  have hokD : ∀ s ∈ onceQ (sortQ l), okS s := fun s hs => hok s ((hmem s).1 hs)
  have hc : slices_Clone_s_api_Summary_api_Summary (l, ()) = some (l, ()) := by
    unfold slices_Clone_s_api_Summary_api_Summary
    simp only [List.length_nil, Nat.zero_add, room_ok (show l.length ≤ 140737488355328 by omega) (show l.length * 40 ≤ 140737488355328 by omega), Bool.and_true, cond_true, List.nil_append]
  have hs : sortP (fun a b => (summary_Compare (a, b, ())).map fun r => r.1) l = some (sortQ l) := sortQ_is fun s hs => by have := ok_push (hok s hs); omega
  have hcmp := compact_eq (s := sortQ l) (by omega) fun x hx => by have := ok_push (hok x ((sortQ_perm l).mem_iff.1 hx)); omega
  have hmin : ∀ s, minS (onceQ (sortQ l)) s = minS l s := minS_congr hmem
  have hnd := nodup_of_up hup
  unfold frontQ
  generalize onceQ (sortQ l) = D at *
  have key : loopM (summary_Least_l4 (D, ())) (([] : List Sm), (0 : Int), ()) = some (.inl (D.filter (minS l), ())) := by
    refine loopM_sim D.length (fun i => ((D.take i).filter (minS l), (i : Int), ())) _ (fun i hi => ?_) ?_ rfl
    · have hK : ((D.take i).filter (minS l)).length ≤ i := Nat.le_trans (List.length_filter_le ..) (by rw [List.length_take]; omega)
      rw [List.take_succ_eq_append_getElem hi, List.filter_append]
      generalize (D.take i).filter (minS l) = K at *
      unfold summary_Least_l4
      simp only [dcT (show (i : Int) < (D.length : Int) by omega), cond_true, getI_lt hi, Option.bind_some]
      rw [least_inner (by omega) hokD hnd () hi, hmin]
      have hp := ok_push (hokD _ (List.getElem_mem hi))
      simp only [Option.bind_some, Sum.elim_inl]
      cases hm : minS l D[i] with
      | true =>
        simp only [cond_true, clone_one (show (D[i]).2.2.1.length ≤ 1000000 by omega), Option.bind_some, List.length_cons, List.length_nil, room_ok (show K.length + (0 + 1) ≤ 140737488355328 by omega) (show (K.length + (0 + 1)) * 40 ≤ 140737488355328 by omega), Bool.and_true, wrapS (show i < 9223372036854775807 by omega)]
        simp [hm]
      | false =>
        simp only [cond_false, wrapS (show i < 9223372036854775807 by omega)]
        simp [hm]
    · unfold summary_Least_l4
      simp only [dcF (show ¬ (D.length : Int) < (D.length : Int) by omega), cond_false, List.take_length]
  unfold summary_Least
  simp only [hc, Option.bind_some, room_ok (show l.length ≤ 140737488355328 by omega) (show l.length * 1 ≤ 140737488355328 by omega), cond_true, hs, hcmp, Sum.elim_inl, key]
/-! The document's front. -/
theorem ref_SummarySame_eq {a b : Sm} (ha : a.2.2.1.length ≤ 1000000) : ref_SummarySame (a, b, ()) = some (decide (a = b), ()) := by
  unfold ref_SummarySame
  obtain ⟨n, d, p, ⟨⟩⟩ := a
  obtain ⟨m, e, q, ⟨⟩⟩ := b
  simp only [ref_TimesSame_eq ha, Option.bind_some]
  by_cases h1 : n = m
  · by_cases h2 : d = e
    · rw [beqT h1, beqT h2]; simp [h1, h2]
    · rw [beqT h1, beqF h2]; simp [h2]
  · rw [beqF h1]; simp [h1]
theorem cmp_cons (a b : Int) (r s : List Int) : cmpL (a :: r) (b :: s) < 0 ↔ a < b ∨ a = b ∧ cmpL r s < 0 := by
  simp only [cmpL]
  by_cases h1 : a < b
  · simp [h1]
  · rw [if_neg h1]
    by_cases h2 : a > b
    · rw [if_pos h2]
      constructor
      · intro h; omega
      · rintro (h | ⟨h, -⟩) <;> omega
    · rw [if_neg h2]
      exact ⟨fun h => .inr ⟨by omega, h⟩, fun h => (h.resolve_left h1).2⟩
theorem some_dec {p q : Prop} [Decidable p] [Decidable q] (h : p ↔ q) : some (decide p, ()) = some (decide q, ()) := by rw [decide_eq_decide.2 h]
def aheadB (a b : Sm) : Bool := decide (cmpL (keyS a) (keyS b) < 0)
theorem ahead_loop {p q : List Int} (hp : p.length ≤ 1000) (hq : q.length = p.length) (a b : Sm) (ha : a.2.2.1 = p) (hb : b.2.2.1 = q) : ∀ (n i : Nat), i + n = p.length → p.take i = q.take i →
    (loopM (ref_ahead_l1 (a, b, ())) ((i : Int), ())).bind (Sum.elim (fun z6 => (some z6)) (Sum.elim (fun z7 => (some (false, ()))) Empty.elim)) = some (decide (cmpL (p.drop i) (q.drop i) < 0), ())
  | 0, i, hn, _ => by
    obtain rfl : i = p.length := by omega
    have : ref_ahead_l1 (a, b, ()) ((p.length : Int), ()) = some (.inr (.inr (.inl ()))) := by
      unfold ref_ahead_l1
      simp only [ha, hb, dcF (show ¬ (p.length : Int) < (p.length : Int) by omega), cond_false]
    rw [loopM_inr this, List.drop_length, ← hq, List.drop_length]
    rfl
  | n + 1, i, hn, he => by
    have hi : i < p.length := by omega
    have hi2 : i < q.length := by omega
    have key : ref_ahead_l1 (a, b, ()) ((i : Int), ()) = some (if p[i] = q[i] then .inl (((i + 1 : Nat) : Int), ()) else .inr (.inl (decide (p[i] < q[i]), ()))) := by
      unfold ref_ahead_l1
      simp only [ha, hb, dcT (show (i : Int) < (p.length : Int) by omega), dcT (show (i : Int) < (q.length : Int) by omega), cond_true, getI_lt hi, getI_lt hi2, Option.bind_some, cond_bne, wrapS (show i < 9223372036854775807 by omega)]
      split <;> rfl
    rw [List.drop_eq_getElem_cons hi, List.drop_eq_getElem_cons hi2, decide_eq_decide.2 (cmp_cons p[i] q[i] _ _)]
    by_cases h : p[i] = q[i]
    · rw [if_pos h] at key
      rw [loopM_inl key, ahead_loop hp hq a b ha hb n (i + 1) (by omega) (by rw [List.take_succ_eq_append_getElem hi, List.take_succ_eq_append_getElem hi2, he, h])]
      refine some_dec ⟨fun g => .inr ⟨h, g⟩, fun g => ?_⟩
      rcases g with g | g
      · omega
      · exact g.2
    · rw [if_neg h] at key
      rw [loopM_inr key]
      simp only [Option.bind_some, Sum.elim_inl]
      exact some_dec ⟨.inl, fun g => g.resolve_right fun g => h g.1⟩
theorem ref_ahead_eq {a b : Sm} (ha : okS a) (hb : okS b) (ho : outS a = outS b) : ref_ahead (a, b, ()) = some (aheadB a b, ()) := by
  have h4 := ok_push ha
  have hab : aheadB a b = decide (a.1 < b.1 ∨ a.1 = b.1 ∧ (a.2.1 < b.2.1 ∨ a.2.1 = b.2.1 ∧ cmpL a.2.2.1 b.2.2.1 < 0)) := decide_eq_decide.2 ((cmp_cons a.1 b.1 _ _).trans (or_congr_right (and_congr_right fun _ => cmp_cons a.2.1 b.2.1 a.2.2.1 b.2.2.1)))
  rw [hab]
  unfold ref_ahead
  simp only [cond_bne]
  by_cases h1 : a.1 = b.1
  · rw [if_pos h1]
    by_cases h2 : a.2.1 = b.2.1
    · rw [if_pos h2]
      have hlen : b.2.2.1.length = a.2.2.1.length := by unfold outS at ho; omega
      have := ahead_loop (p := a.2.2.1) (q := b.2.2.1) (by omega) hlen a b rfl rfl a.2.2.1.length 0 (by omega) rfl
      simp only [List.drop_zero] at this
      refine this.trans ?_
      refine some_dec ⟨fun g => .inr ⟨h1, .inr ⟨h2, g⟩⟩, fun g => ?_⟩
      rcases g with g | ⟨-, g | g⟩
      · omega
      · omega
      · exact g.2
    · rw [if_neg h2]
      refine some_dec ⟨fun g => .inr ⟨h1, .inl g⟩, fun g => ?_⟩
      rcases g with g | ⟨-, g | g⟩
      · omega
      · exact g
      · exact absurd g.1 h2
  · rw [if_neg h1]
    exact some_dec ⟨.inl, fun g => g.resolve_right fun g => h1 g.1⟩
def insA (s : Sm) : List Sm → List Sm
  | [] => [s]
  | r :: o => if aheadB s r = true then s :: r :: o else r :: insA s o
theorem insA_more {s r : Sm} : ∀ {m : List Sm}, m.any (aheadB s) = true → insA s (m ++ [r]) = insA s m ++ [r]
  | [], h => by simp at h
  | x :: m, h => by
    rw [List.any_cons, Bool.or_eq_true] at h
    simp only [List.cons_append, insA]
    cases hx : aheadB s x with
    | true => simp
    | false =>
      rw [hx] at h
      simp only [Bool.false_eq_true, if_false, List.cons_append]
      rw [insA_more (h.resolve_left (by simp))]
theorem insA_none {s : Sm} : ∀ {m t : List Sm}, m.any (aheadB s) = false → insA s (m ++ t) = m ++ insA s t
  | [], t, _ => rfl
  | x :: m, t, h => by
    rw [List.any_cons, Bool.or_eq_false_iff] at h
    simp only [List.cons_append, insA, h.1, Bool.false_eq_true, if_false]
    rw [insA_none h.2]
theorem insA_mem {s x : Sm} : ∀ {m : List Sm}, x ∈ insA s m ↔ x = s ∨ x ∈ m
  | [] => by simp [insA]
  | r :: m => by
    simp only [insA]
    split
    · simp
    · rw [List.mem_cons, insA_mem, List.mem_cons]
      constructor
      · rintro (h | h | h)
        · exact .inr (.inl h)
        · exact .inl h
        · exact .inr (.inr h)
      · rintro (h | h | h)
        · exact .inr (.inl h)
        · exact .inl h
        · exact .inr (.inr h)
theorem insA_len (s : Sm) : ∀ m : List Sm, (insA s m).length = m.length + 1
  | [] => rfl
  | r :: m => by
    simp only [insA]
    split
    · rfl
    · rw [List.length_cons, insA_len, List.length_cons]
theorem insA_up {s : Sm} : ∀ {m : List Sm}, up (m.map keyS) → s ∉ m → up ((insA s m).map keyS)
  | [], _, _ => by simp [insA, up]
  | r :: m, h, hn => by
    unfold up at h ⊢
    rw [List.map_cons, List.pairwise_cons] at h
    have hne : ¬ cmpL (keyS s) (keyS r) = 0 := fun e => hn (by rw [keyS_inj (cmpL_eq.1 e)]; exact List.mem_cons_self)
    simp only [insA]
    split
    · rename_i hs
      unfold aheadB at hs
      have hs := of_decide_eq_true hs
      rw [List.map_cons, List.pairwise_cons]
      refine ⟨fun t ht => ?_, by rw [List.map_cons, List.pairwise_cons]; exact h⟩
      rw [List.map_cons] at ht
      rcases List.mem_cons.1 ht with rfl | ht
      · exact hs
      · exact cmpL_trans hs (h.1 t ht)
    · rename_i hs
      unfold aheadB at hs
      have hs : ¬ cmpL (keyS s) (keyS r) < 0 := fun e => hs (decide_eq_true e)
      have hr : cmpL (keyS r) (keyS s) < 0 := by rw [cmpL_neg]; omega
      rw [List.map_cons, List.pairwise_cons]
      refine ⟨fun t ht => ?_, insA_up h.2 fun hm => hn (List.mem_cons_of_mem _ hm)⟩
      obtain ⟨x, hx, rfl⟩ := List.mem_map.1 ht
      rcases insA_mem.1 hx with rfl | hx
      · exact hr
      · exact h.1 _ (List.mem_map.2 ⟨x, hx, rfl⟩)
theorem ins_loop {s : Sm} {out : List Sm} (hs : okS s) (ho : ∀ r ∈ out, okS r ∧ outS r = outS s) (hl : out.length ≤ 1000) (i : Int) (z : Unit) :
    ∃ (next : List Sm) (put : Bool), loopM (ref_SummaryFront_l2 (out, i, z) s) (([] : List Sm), false, (0 : Int), ()) = some (.inl (next, put, ())) ∧ next.length ≤ out.length + 1 ∧ (if put = true then next else next ++ [s]) = insA s out := by
  refine ⟨if out.any (aheadB s) = true then insA s out else out, out.any (aheadB s), ?_, ?_, ?_⟩
  · have key : loopM (ref_SummaryFront_l2 (out, i, z) s) (([] : List Sm), false, (0 : Int), ()) = some (.inl (if (out.take out.length).any (aheadB s) = true then insA s (out.take out.length) else out.take out.length, (out.take out.length).any (aheadB s), ())) := by
      refine loopM_sim out.length (fun k => (if (out.take k).any (aheadB s) = true then insA s (out.take k) else out.take k, (out.take k).any (aheadB s), (k : Int), ())) _ (fun k hk => ?_) ?_ rfl
      · have hmr := ho _ (List.getElem_mem hk)
        rw [List.take_succ_eq_append_getElem hk, List.any_append]
        have hlk : (out.take k).length = k := by rw [List.length_take]; omega
        generalize out.take k = m at *
        have hlI := insA_len s m
        unfold ref_SummaryFront_l2
        simp only [dcT (show (k : Int) < (out.length : Int) by omega), cond_true, getI_lt hk, Option.bind_some, wrapS (show k < 9223372036854775807 by omega), List.any_cons, List.any_nil, Bool.or_false]
        cases hb : m.any (aheadB s) with
        | true =>
          simp only [if_true, Bool.not_true, cond_false, Bool.true_or, insA_more hb, List.length_cons, List.length_nil, room_ok (show (insA s m).length + (0 + 1) ≤ 140737488355328 by omega) (show ((insA s m).length + (0 + 1)) * 40 ≤ 140737488355328 by omega), Bool.and_true, cond_true]
        | false =>
          simp only [Bool.false_eq_true, if_false, Bool.not_false, cond_true, ref_ahead_eq hs hmr.1 hmr.2.symm, Option.bind_some, Bool.false_or]
          cases hx : aheadB s out[k] with
          | true =>
            rw [insA_none hb]
            simp only [cond_true, List.length_append, List.length_cons, List.length_nil, room_ok (show m.length + (0 + 1) ≤ 140737488355328 by omega) (show (m.length + (0 + 1)) * 40 ≤ 140737488355328 by omega), room_ok (show m.length + (0 + 1) + (0 + 1) ≤ 140737488355328 by omega) (show (m.length + (0 + 1) + (0 + 1)) * 40 ≤ 140737488355328 by omega), Bool.and_true, if_true, insA, hx]
            simp
          | false =>
            simp only [cond_false, List.length_cons, List.length_nil, room_ok (show m.length + (0 + 1) ≤ 140737488355328 by omega) (show (m.length + (0 + 1)) * 40 ≤ 140737488355328 by omega), Bool.and_true, cond_true, Bool.false_eq_true, if_false]
      · unfold ref_SummaryFront_l2
        simp only [dcF (show ¬ (out.length : Int) < (out.length : Int) by omega), cond_false]
    rw [List.take_length] at key
    exact key
  · split
    · rw [insA_len]; exact Nat.le_refl _
    · omega
  · cases hb : out.any (aheadB s) with
    | true => rfl
    | false =>
      simp only [Bool.false_eq_true, if_false]
      have := insA_none (t := []) hb
      rw [List.append_nil] at this
      rw [this]; rfl
/-- The first place of each, and none below. -/
def goodAt (l : List Sm) (i : Nat) : Bool := ((List.range l.length).all fun j => !decide (l.getD j (0, 0, [], ()) = l.getD i (0, 0, [], ())) || decide (i ≤ j)) && minS l (l.getD i (0, 0, [], ()))
theorem good_loop {l : List Sm} (hl : l.length ≤ 1000) (hok : ∀ s ∈ l, okS s) (z : Unit) (K : List Sm) {i : Nat} (hi : i < l.length) :
    loopM (ref_SummaryFront_l1 (l, z) l[i] (K, (i : Int), ())) (true, (0 : Int), ()) = some (.inl (goodAt l i, ())) := by
  have hg : goodAt l i = (List.range l.length).all fun j => if l.getD j (0, 0, [], ()) = l[i] then decide (i ≤ j) else !leS (l.getD j (0, 0, [], ())) l[i] := by
    have gi : l.getD i (0, 0, [], ()) = l[i] := by rw [List.getD_eq_getElem?_getD, List.getElem?_eq_getElem hi]; rfl
    rw [Bool.eq_iff_iff]
    unfold goodAt minS
    rw [Bool.and_eq_true, List.all_eq_true, List.all_eq_true, List.all_eq_true, gi]
    constructor
    · rintro ⟨h1, h2⟩ j hj
      have hj' := List.mem_range.1 hj
      have gj : l.getD j (0, 0, [], ()) = l[j] := by rw [List.getD_eq_getElem?_getD, List.getElem?_eq_getElem hj']; rfl
      have a1 := h1 j hj
      have a2 := h2 l[j] (List.getElem_mem hj')
      rw [gj] at a1 ⊢
      by_cases e : l[j] = l[i]
      · simpa [e] using a1
      · simpa [e] using a2
    · intro h
      refine ⟨fun j hj => ?_, fun r hr => ?_⟩
      · have := h j hj
        split at this
        · rename_i e; simp [of_decide_eq_true this]
        · rename_i e
          rw [decide_eq_false e]; rfl
      · obtain ⟨j, hj, rfl⟩ := List.mem_iff_getElem.1 hr
        have gj : l.getD j (0, 0, [], ()) = l[j] := by rw [List.getD_eq_getElem?_getD, List.getElem?_eq_getElem hj]; rfl
        have := h j (List.mem_range.2 hj)
        rw [gj] at this
        split at this
        · rename_i e; simp [e]
        · rename_i e; simp [e]; simpa using this
  rw [hg]
  refine loopM_sim l.length (fun k => ((List.range k).all fun j => if l.getD j (0, 0, [], ()) = l[i] then decide (i ≤ j) else !leS (l.getD j (0, 0, [], ())) l[i], (k : Int), ())) _ (fun k hk => ?_) ?_ rfl
  · rw [List.range_succ, List.all_append]
    generalize ((List.range k).all fun j => if l.getD j (0, 0, [], ()) = l[i] then decide (i ≤ j) else !leS (l.getD j (0, 0, [], ())) l[i]) = b
    have gk : l.getD k (0, 0, [], ()) = l[k] := by rw [List.getD_eq_getElem?_getD, List.getElem?_eq_getElem hk]; rfl
    have h4 := ok_push (hok _ (List.getElem_mem hi))
    unfold ref_SummaryFront_l1
    simp only [dcT (show (k : Int) < (l.length : Int) by omega), cond_true, getI_lt hk, Option.bind_some, wrapS (show k < 9223372036854775807 by omega), List.all_cons, List.all_nil, Bool.and_true, gk, ref_SummarySame_eq (show (l[i]).2.2.1.length ≤ 1000000 by omega), ref_SummaryLeq_s (hok _ (List.getElem_mem hk)) (hok _ (List.getElem_mem hi))]
    by_cases e : l[i] = l[k]
    · rw [decide_eq_true e, if_pos e.symm]
      simp only [cond_true]
      cases b with
      | true =>
        simp only [cond_true, Bool.true_and]
        rw [show decide ((i : Int) ≤ (k : Int)) = decide (i ≤ k) from decide_eq_decide.2 (by omega)]
      | false => rfl
    · rw [decide_eq_false e, if_neg fun h => e h.symm]
      simp only [cond_false]
      cases leS l[k] l[i] with
      | true => simp
      | false => simp
  · unfold ref_SummaryFront_l1
    simp only [dcF (show ¬ (l.length : Int) < (l.length : Int) by omega), cond_false]
theorem ref_SummaryFront_eq {l : List Sm} (hl : l.length ≤ 64) (hok : ∀ s ∈ l, okS s) (ho : ∀ s ∈ l, ∀ r ∈ l, outS s = outS r) : ref_SummaryFront (l, ()) = some (frontQ l, ()) := by
  have main : ∀ n i (out : List Sm), i + n = l.length → out.length ≤ i → (∀ s, s ∈ out ↔ s ∈ l.take i ∧ minS l s = true) → up (out.map keyS) →
      ∃ out2 : List Sm, loopM (ref_SummaryFront_l3 (l, ())) (out, (i : Int), ()) = some (.inl (out2, ())) ∧ (∀ s, s ∈ out2 ↔ s ∈ l ∧ minS l s = true) ∧ up (out2.map keyS) := by
    intro n
    induction n with
    | zero =>
      intro i out hn _ hm hu
      obtain rfl : i = l.length := by omega
      refine ⟨out, loopM_inr ?_, by rw [List.take_length] at hm; exact hm, hu⟩
      unfold ref_SummaryFront_l3
      simp only [dcF (show ¬ (l.length : Int) < (l.length : Int) by omega), cond_false]
    | succ n ih =>
      intro i out hn hlo hm hu
      have hi : i < l.length := by omega
      have gi : l.getD i (0, 0, [], ()) = l[i] := by rw [List.getD_eq_getElem?_getD, List.getElem?_eq_getElem hi]; rfl
      have hmi := List.getElem_mem hi
      obtain ⟨next, put, h1, h2, h3⟩ := ins_loop (out := out) (hok _ hmi) (fun r hr => by
        have := List.mem_of_mem_take ((hm r).1 hr).1
        exact ⟨hok r this, ho r this _ hmi⟩) (by omega) (i : Int) ()
      have key : ref_SummaryFront_l3 (l, ()) (out, (i : Int), ()) = some (.inl (if goodAt l i = true then insA l[i] out else out, ((i + 1 : Nat) : Int), ())) := by
        unfold ref_SummaryFront_l3
        simp only [dcT (show (i : Int) < (l.length : Int) by omega), cond_true, getI_lt hi, Option.bind_some]
        rw [good_loop (by omega) hok () out hi]
        simp only [Option.bind_some, Sum.elim_inl, wrapS (show i < 9223372036854775807 by omega)]
        cases goodAt l i with
        | false => rfl
        | true =>
          simp only [Bool.not_true, cond_false, h1, Option.bind_some, Sum.elim_inl, if_true]
          cases put with
          | true =>
            simp only [if_true] at h3
            simp only [Bool.not_true, cond_false, h3]
          | false =>
            simp only [Bool.false_eq_true, if_false] at h3
            simp only [Bool.not_false, cond_true, List.length_cons, List.length_nil, room_ok (show next.length + (0 + 1) ≤ 140737488355328 by omega) (show (next.length + (0 + 1)) * 40 ≤ 140737488355328 by omega), Bool.and_true, h3]
      rw [loopM_inl key]
      have hfirst : goodAt l i = true ↔ l[i] ∉ l.take i ∧ minS l l[i] = true := by
        unfold goodAt
        rw [Bool.and_eq_true, List.all_eq_true, gi]
        constructor
        · rintro ⟨a1, a2⟩
          refine ⟨fun hmem => ?_, a2⟩
          obtain ⟨j, hj, e⟩ := List.mem_iff_getElem.1 hmem
          rw [List.length_take] at hj
          rw [List.getElem_take] at e
          have := a1 j (List.mem_range.2 (by omega))
          rw [List.getD_eq_getElem?_getD, List.getElem?_eq_getElem (show j < l.length by omega), Option.getD_some, e] at this
          simp at this
          omega
        · rintro ⟨a1, a2⟩
          refine ⟨fun j hj => ?_, a2⟩
          have hj := List.mem_range.1 hj
          rw [List.getD_eq_getElem?_getD, List.getElem?_eq_getElem hj, Option.getD_some]
          by_cases e : l[j] = l[i]
          · have : i ≤ j := Classical.byContradiction fun h => a1 (List.mem_iff_getElem.2 ⟨j, by rw [List.length_take]; omega, by rw [List.getElem_take]; exact e⟩)
            simp [this]
          · simp [e]
      refine ih (i + 1) _ (by omega) ?_ (fun s => ?_) ?_
      · split
        · rw [insA_len]; omega
        · omega
      · rw [List.take_succ_eq_append_getElem hi, List.mem_append, List.mem_singleton]
        split
        · rename_i hg
          have hg := hfirst.1 hg
          rw [insA_mem, hm]
          constructor
          · rintro (rfl | ⟨b1, b2⟩)
            · exact ⟨.inr rfl, hg.2⟩
            · exact ⟨.inl b1, b2⟩
          · rintro ⟨b1 | rfl, b2⟩
            · exact .inr ⟨b1, b2⟩
            · exact .inl rfl
        · rename_i hg
          rw [hm]
          constructor
          · rintro ⟨b1, b2⟩; exact ⟨.inl b1, b2⟩
          · rintro ⟨b1 | rfl, b2⟩
            · exact ⟨b1, b2⟩
            · exact ⟨Classical.byContradiction fun h => hg (hfirst.2 ⟨h, b2⟩), b2⟩
      · split
        · rename_i hg
          have hg := hfirst.1 hg
          exact insA_up hu fun hmem => hg.1 ((hm _).1 hmem).1
        · exact hu
  obtain ⟨out, h1, h2, h3⟩ := main l.length 0 [] (by omega) (Nat.le_refl _) (fun s => by simp) (by simp [up])
  have e0 : ((0 : Nat) : Int) = 0 := rfl
  rw [e0] at h1
  unfold ref_SummaryFront
  rw [h1]
  simp only [Option.bind_some, Sum.elim_inl]
  congr 2
  obtain ⟨hup, hmem⟩ := once_facts (l := l)
  have hk : out.map keyS = (frontQ l).map keyS := by
    refine up_same h3 ?_ fun t => ?_
    · unfold frontQ up
      unfold up at hup
      rw [List.pairwise_map] at hup ⊢
      exact hup.filter _
    · rw [List.mem_map, List.mem_map]
      constructor
      · rintro ⟨s, hs, rfl⟩
        have := (h2 s).1 hs
        exact ⟨s, List.mem_filter.2 ⟨(hmem s).2 this.1, this.2⟩, rfl⟩
      · rintro ⟨s, hs, rfl⟩
        have := List.mem_filter.1 hs
        exact ⟨s, (h2 s).2 ⟨(hmem s).1 this.1, this.2⟩, rfl⟩
  have := congrArg (List.map unkey) hk
  rw [List.map_map, List.map_map] at this
  have e : ∀ m : List Sm, m.map (unkey ∘ keyS) = m := fun m => (List.map_congr_left fun a _ => unkey_key a).trans (List.map_id _)
  rw [e, e] at this
  exact this
end

end Go.Proofs.Try
