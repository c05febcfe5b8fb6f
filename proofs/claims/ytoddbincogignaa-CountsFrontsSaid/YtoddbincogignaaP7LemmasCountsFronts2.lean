/- Lemmas on functions of the program, by name. -/
import Derived.Test.YtoddbincogignaaP7Funs
import Derived.Test.YtoddbincogignaaAbsSums
import Derived.Test.YtoddbincogignaaP7LemmasCountsFronts1
namespace Go.Proofs.Try
section
open Go Go.Abs


/-! The program's sort of times. -/
noncomputable def cmpS (a b : List Int) : Option Int := (slices_Compare_s_int_int (a, b, ())).map fun r => r.1
theorem cmpS_eq {a b : List Int} (ha : a.length ≤ 1000000) : cmpS a b = some (cmpL a b) := by
  unfold cmpS; rw [slices_Compare_eq ha]; rfl
theorem ltS_iff {a b : List Int} (ha : a.length ≤ 1000000) : ltF cmpS a b ↔ cmpL a b < 0 := by
  unfold ltF
  rw [cmpS_eq ha]
  constructor
  · rintro ⟨v, h1, h2⟩; cases h1; exact h2
  · exact fun h => ⟨_, rfl, h⟩
/-- Sorted with all. -/
def insD (t : List Int) : List (List Int) → List (List Int)
  | [] => [t]
  | u :: l => if cmpL u t < 0 then u :: insD t l else t :: u :: l
def sortD : List (List Int) → List (List Int)
  | [] => []
  | t :: l => insD t (sortD l)
theorem insD_perm (t : List Int) : ∀ l, (insD t l).Perm (t :: l)
  | [] => List.Perm.refl _
  | u :: l => by
    simp only [insD]
    split
    · exact ((insD_perm t l).cons u).trans (List.Perm.swap t u l)
    · exact List.Perm.refl _
theorem sortD_perm : ∀ l, (sortD l).Perm l
  | [] => List.Perm.refl _
  | t :: l => (insD_perm t (sortD l)).trans ((sortD_perm l).cons t)
theorem insD_srt {t : List Int} : ∀ {l : List (List Int)}, l.Pairwise (fun a b => ¬ cmpL b a < 0) → (insD t l).Pairwise fun a b => ¬ cmpL b a < 0
  | [], _ => by simp [insD]
  | u :: l, h => by
    have h1 := List.pairwise_cons.1 h
    simp only [insD]
    split
    · rename_i hu
      refine List.pairwise_cons.2 ⟨fun v hv => ?_, insD_srt h1.2⟩
      rcases List.mem_cons.1 ((insD_perm t l).mem_iff.1 hv) with rfl | hv
      · intro h; rw [cmpL_neg] at h; omega
      · exact h1.1 v hv
    · rename_i hu
      refine List.pairwise_cons.2 ⟨fun v hv => ?_, h⟩
      rcases List.mem_cons.1 hv with rfl | hv
      · exact hu
      · intro hvt
        rw [cmpL_neg] at hu
        have h2 := h1.1 v hv
        rw [cmpL_neg] at h2
        by_cases e : cmpL t u = 0
        · rw [cmpL_eq.1 e] at hvt; rw [cmpL_neg] at hvt; omega
        · exact absurd (cmpL_trans hvt (show cmpL t u < 0 by omega)) (by rw [cmpL_neg]; omega)
theorem sortD_srt : ∀ l : List (List Int), (sortD l).Pairwise fun a b => ¬ cmpL b a < 0
  | [] => List.Pairwise.nil
  | t :: l => insD_srt (sortD_srt l)

theorem sort_is {l : List (List Int)} (h : ∀ t ∈ l, t.length ≤ 1000000) : sortP cmpS l = some (sortD l) := by
  refine sortP_eq ⟨fun x hx y _ => ⟨_, cmpS_eq (h x hx)⟩, fun x hx hlt => cmpL_irr x ((ltS_iff (h x hx)).1 hlt), fun x hx y hy z _ h1 h2 => (ltS_iff (h x hx)).2 (cmpL_trans ((ltS_iff (h x hx)).1 h1) ((ltS_iff (h y hy)).1 h2)), fun x hx y hy h1 h2 => ?_⟩ (sortD_perm l) ?_
  · have a1 : ¬ cmpL x y < 0 := fun e => h1 ((ltS_iff (h x hx)).2 e)
    have a2 : ¬ cmpL y x < 0 := fun e => h2 ((ltS_iff (h y hy)).2 e)
    rw [cmpL_neg] at a2
    exact cmpL_eq.1 (by omega)
  · unfold Srt
    have hm : ∀ t ∈ sortD l, t.length ≤ 1000000 := fun t ht => h t ((sortD_perm l).mem_iff.1 ht)
    refine (List.Pairwise.and_mem.1 (sortD_srt l)).imp fun {a b} hab hlt => hab.2.2 ((ltS_iff (hm b hab.2.1)).1 hlt)

/-! What is kept. -/
def keepS (K : List (List Int)) (t : List Int) : List (List Int) := if (K.any fun u => underL u t) = true then K else K ++ [t]
def keepF (S : List (List Int)) : List (List Int) := S.foldl keepS []
theorem keepF_snoc (S : List (List Int)) (t : List Int) : keepF (S ++ [t]) = keepS (keepF S) t := by unfold keepF; rw [List.foldl_append]; rfl
theorem keepF_mem : ∀ (S : List (List Int)) (k : Nat), k ≤ S.length → (keepF (S.take k)).length ≤ k ∧ ∀ u ∈ keepF (S.take k), u ∈ S.take k := by
  intro S k
  induction k with
  | zero => intro _; rw [List.take_zero]; exact ⟨Nat.le_refl _, fun u hu => by cases hu⟩
  | succ k ih =>
    intro hk
    obtain ⟨h1, h2⟩ := ih (by omega)
    rw [List.take_succ_eq_append_getElem (by omega), keepF_snoc]
    unfold keepS
    split
    · exact ⟨by omega, fun u hu => List.mem_append_left _ (h2 u hu)⟩
    · refine ⟨by rw [List.length_append, List.length_cons, List.length_nil]; omega, fun u hu => ?_⟩
      rcases List.mem_append.1 hu with hu | hu
      · exact List.mem_append_left _ (h2 u hu)
      · exact List.mem_append_right _ hu

theorem clone_one {t : List Int} (h : t.length ≤ 1000000) : slices_Clone_s_int_int (t, ()) = some (t, ()) := by
  unfold slices_Clone_s_int_int
  simp only [List.length_nil, Nat.zero_add, room_ok (show t.length ≤ 140737488355328 by omega) (show t.length * 8 ≤ 140737488355328 by omega), Bool.and_true, cond_true, List.nil_append]

theorem least_l1 {K : List (List Int)} (z : Int × Unit) {t : List Int} {d : Nat} (hK : ∀ u ∈ K, u.length = d) (ht : t.length = d) (hd : d ≤ 4) (hl : K.length ≤ 1000000) :
    (((loopM (times_Least_l1 (K, z) t) ((0 : Int), ())).bind (Sum.elim (fun z8 => (some (Sum.inl z8))) (Sum.elim (fun z9 => (some (Sum.inl ((-1 : Int), ())))) Empty.elim))) : Option ((Int × Unit) ⊕ Empty)) = some (.inl (((((List.range K.length).find? fun i => underL (K.getD i []) t).map fun i : Nat => (i : Int)).getD (-1)), ())) := by
  have k := loopM_exit (f := times_Least_l1 (K, z) t) K.length (fun i => ((i : Int), ())) (fun i => cond (underL (K.getD i []) t) (some ((i : Int), ())) none) (.inl ()) (fun i hi => by
    have hlen : (K.getD i []).length = d := by rw [List.getD_eq_getElem?_getD, List.getElem?_eq_getElem hi]; exact hK _ (List.getElem_mem hi)
    unfold times_Least_l1
    simp only [dcT (show (i : Int) < (K.length : Int) by omega), cond_true, inB_T hi, Int.toNat_natCast, getD_get (d := []) hi, Option.bind_some, times_Under_eq (show (K.getD i []).length = t.length by omega) (show (K.getD i []).length ≤ 1000000 by omega)]
    rw [wrapS (by omega)]
    cases underL (K.getD i []) t <;> rfl) (by
    unfold times_Least_l1
    simp only [dcF (show ¬ (K.length : Int) < (K.length : Int) by omega), cond_false]) (s0 := ((0 : Int), ())) rfl
  rw [find_map (fun i => underL (K.getD i []) t) fun i => ((i : Int), ())] at k
  rw [k]
  cases (List.range K.length).find? fun i => underL (K.getD i []) t <;> rfl
theorem any_find (K : List (List Int)) (t : List Int) : (K.any fun u => underL u t) = ((List.range K.length).find? fun i => underL (K.getD i []) t).isSome := by
  rw [Bool.eq_iff_iff, List.any_eq_true, List.find?_isSome]
  constructor
  · rintro ⟨u, hu, h⟩
    obtain ⟨i, hi, rfl⟩ := List.mem_iff_getElem.1 hu
    exact ⟨i, List.mem_range.2 hi, by rw [List.getD_eq_getElem?_getD, List.getElem?_eq_getElem hi]; exact h⟩
  · rintro ⟨i, hi, h⟩
    have hi := List.mem_range.1 hi
    rw [List.getD_eq_getElem?_getD, List.getElem?_eq_getElem hi] at h
    exact ⟨K[i], List.getElem_mem hi, h⟩

theorem times_Least_eq {l : List (List Int)} {d : Nat} (hl : l.length ≤ 64) (hd : d ≤ 4) (h : ∀ t ∈ l, t.length = d) : times_Least (l, ()) = some (keepF (sortD l), ()) := by
  have hc : slices_Clone_s_s_int_s_int (l, ()) = some (l, ()) := by
    unfold slices_Clone_s_s_int_s_int
    simp only [List.length_nil, Nat.zero_add, room_ok (show l.length ≤ 140737488355328 by omega) (show l.length * 24 ≤ 140737488355328 by omega), Bool.and_true, cond_true, List.nil_append]
  have hs := sort_is (l := l) fun t ht => by rw [h t ht]; omega
  have hs' : sortP (fun a b => (slices_Compare_s_int_int (a, b, ())).map fun r => r.1) l = some (sortD l) := hs
  have hSl : (sortD l).length = l.length := (sortD_perm l).length_eq
  have hSd : ∀ t ∈ sortD l, t.length = d := fun t ht => h t ((sortD_perm l).mem_iff.1 ht)
  have key : loopM (times_Least_l2 (sortD l)) (([] : List (List Int)), (0 : Int), ()) = some (.inl (keepF (sortD l), ())) := by
    refine loopM_sim (sortD l).length (fun i => (keepF ((sortD l).take i), (i : Int), ())) _ (fun i hi => ?_) ?_ rfl
    · obtain ⟨m1, m2⟩ := keepF_mem (sortD l) i (by omega)
      have hK : ∀ u ∈ keepF ((sortD l).take i), u.length = d := fun u hu => hSd u (List.mem_of_mem_take (m2 u hu))
      have ht : ((sortD l)[i]).length = d := hSd _ (List.getElem_mem hi)
      rw [List.take_succ_eq_append_getElem hi, keepF_snoc]
      generalize keepF ((sortD l).take i) = K at *
      unfold times_Least_l2
      simp only [dcT (show (i : Int) < ((sortD l).length : Int) by omega), cond_true, inB_T hi, Int.toNat_natCast, List.getElem?_eq_getElem hi, Option.bind_some]
      rw [least_l1 _ hK ht hd (by omega), Option.bind_some, Sum.elim_inl]
      unfold keepS
      rw [any_find]
      cases (List.range K.length).find? fun j => underL (K.getD j []) (sortD l)[i] with
      | some j =>
        simp only [Option.map_some, Option.getD_some, dcT (show (j : Int) ≥ 0 by omega), Bool.not_true, cond_false, Option.isSome_some, if_true]
        rw [wrapS (by omega)]
      | none =>
        have d1 : decide ((-1 : Int) ≥ 0) = false := by decide
        simp only [Option.map_none, Option.getD_none, d1, Bool.not_false, cond_true, clone_one (show ((sortD l)[i]).length ≤ 1000000 by omega), Option.bind_some, List.length_cons, List.length_nil, room_ok (show K.length + (0 + 1) ≤ 140737488355328 by omega) (show (K.length + (0 + 1)) * 24 ≤ 140737488355328 by omega), Bool.and_true, Option.isSome_none, Bool.false_eq_true, if_false]
        rw [wrapS (by omega)]
    · unfold times_Least_l2
      simp only [dcF (show ¬ ((sortD l).length : Int) < ((sortD l).length : Int) by omega), cond_false, List.take_length]
  unfold times_Least
  simp only [hc, Option.bind_some, room_ok (show l.length ≤ 140737488355328 by omega) (show l.length * 1 ≤ 140737488355328 by omega), cond_true, hs', key, Sum.elim_inl]
end

section
open Go Go.Abs


/-! The document's front. -/
def minB (l : List (List Int)) (t : List Int) : Bool := l.all fun u => !(underL u t && decide (u ≠ t))
theorem min_iff {l : List (List Int)} {t : List Int} : minB l t = true ↔ ∀ u ∈ l, underL u t = true → u = t := by
  unfold minB
  rw [List.all_eq_true]
  constructor
  · intro h u hu hut
    have := h u hu
    rw [hut] at this
    simpa using this
  · intro h u hu
    cases hq : underL u t with
    | false => rfl
    | true => simp [h u hu hq]

theorem rfront_l1 {l : List (List Int)} {t : List Int} {d : Nat} (hl : l.length ≤ 64) (hf : ∀ u ∈ l, chk u = 0 ∧ u.length = d) (ht : chk t = 0 ∧ t.length = d) : loopM (ref_TimesFront_l1 (l, ()) t) (true, (0 : Int), ()) = some (.inl (minB l t, ())) := by
  refine loopM_sim l.length (fun i => (minB (l.take i) t, (i : Int), ())) _ (fun i hi => ?_) ?_ rfl
  · have hu := hf _ (List.getElem_mem hi)
    have h4 := (chk_zero hu.1).2.1
    unfold ref_TimesFront_l1
    simp only [dcT (show (i : Int) < (l.length : Int) by omega), cond_true, getI_lt hi, Option.bind_some, ref_TimesLeq_eq, leB_of (show l[i].length = t.length by omega) hu.1 ht.1, ref_TimesSame_eq (show l[i].length ≤ 1000000 by omega), wrapS (show i < 9223372036854775807 by omega)]
    have hs : minB (l.take (i + 1)) t = (minB (l.take i) t && !(underL l[i] t && decide (l[i] ≠ t))) := by
      unfold minB
      rw [List.take_succ_eq_append_getElem hi, List.all_append, List.all_cons, List.all_nil, Bool.and_true]
    rw [hs]
    cases underL l[i] t with
    | false => rw [cond_false, Bool.false_and, Bool.not_false, Bool.and_true]
    | true =>
      rw [cond_true, Bool.true_and]
      by_cases he : l[i] = t
      · rw [decide_eq_true he, decide_eq_false (not_not_intro he)]; simp
      · rw [decide_eq_false he, decide_eq_true he]; simp
  · unfold ref_TimesFront_l1
    simp only [dcF (show ¬ (l.length : Int) < (l.length : Int) by omega), cond_false, List.take_length]

theorem ref_TimesFront_eq {l : List (List Int)} {d : Nat} (hl : l.length ≤ 64) (hf : ∀ u ∈ l, chk u = 0 ∧ u.length = d) : ref_TimesFront (l, ()) = some ((sortT l).filter (minB l), ()) := by
  obtain ⟨s1, s2, s3⟩ := sort_facts l
  have key : loopM (ref_TimesFront_l2 (l, ()) (sortT l, ())) (([] : List (List Int)), (0 : Int), ()) = some (.inl ((sortT l).filter (minB l), ())) := by
    refine loopM_sim (sortT l).length (fun i => (((sortT l).take i).filter (minB l), (i : Int), ())) _ (fun i hi => ?_) ?_ rfl
    · have hfl : (((sortT l).take i).filter (minB l)).length ≤ i := Nat.le_trans (List.length_filter_le _ _) (by rw [List.length_take]; omega)
      unfold ref_TimesFront_l2
      simp only [dcT (show (i : Int) < ((sortT l).length : Int) by omega), cond_true, getI_lt hi, Option.bind_some, rfront_l1 hl hf (hf _ ((s2 _).1 (List.getElem_mem hi))), Sum.elim_inl, List.length_cons, List.length_nil, wrapS (show i < 9223372036854775807 by omega), room_ok (show (((sortT l).take i).filter (minB l)).length + (0 + 1) ≤ 140737488355328 by omega) (show ((((sortT l).take i).filter (minB l)).length + (0 + 1)) * 24 ≤ 140737488355328 by omega), Bool.and_true]
      rw [List.take_succ_eq_append_getElem hi, List.filter_append, List.filter_cons, List.filter_nil]
      cases minB l (sortT l)[i] with
      | true => rfl
      | false => simp
    · unfold ref_TimesFront_l2
      simp only [dcF (show ¬ ((sortT l).length : Int) < ((sortT l).length : Int) by omega), cond_false, List.take_length]
  unfold ref_TimesFront
  rw [ref_TimesSorted_eq (show l.length ≤ 1000 by omega) d hf, Option.bind_some, key]; rfl

/-! The two are one. -/
theorem least_at {p : List Int → Prop} (f : List Int → Nat) (h : ∃ i, p i) : ∃ i, p i ∧ ∀ j, p j → f i ≤ f j := by
  have key : ∀ m i, p i → f i ≤ m → ∃ i, p i ∧ ∀ j, p j → f i ≤ f j := by
    intro m
    induction m with
    | zero => intro i hi h0; exact ⟨i, hi, fun j _ => by omega⟩
    | succ m ih =>
      intro i hi hm
      by_cases hx : ∃ j, p j ∧ f j ≤ m
      · obtain ⟨j, h1, h2⟩ := hx; exact ih j h1 h2
      · refine ⟨i, hi, fun j hj => ?_⟩
        by_cases hjm : f j ≤ m
        · exact absurd ⟨j, hj, hjm⟩ hx
        · omega
  obtain ⟨i, hi⟩ := h
  exact key (f i) i hi (Nat.le_refl _)
theorem sum_pos : ∀ {a : List Int}, (∀ v ∈ a, 0 ≤ v) → 0 ≤ a.sum
  | [], _ => by simp
  | v :: a, h => by
    rw [List.sum_cons]
    have h1 := h v (List.mem_cons_self ..)
    have h2 := sum_pos fun w hw => h w (List.mem_cons_of_mem _ hw)
    omega
theorem chk_sum {a : List Int} (h : chk a = 0) : 0 ≤ a.sum := sum_pos fun v hv => by
  obtain ⟨i, hi, rfl⟩ := List.mem_iff_getElem.1 hv
  exact ((chk_zero h).2.2 i _ (List.getElem?_eq_getElem hi)).1

section
variable {l : List (List Int)} {d : Nat}
theorem min_below (hf : ∀ u ∈ l, chk u = 0 ∧ u.length = d) {t : List Int} (ht : t ∈ l) : ∃ u, u ∈ l ∧ underL u t = true ∧ minB l u = true := by
  obtain ⟨u, ⟨hu, hut⟩, hmin⟩ := least_at (p := fun u => u ∈ l ∧ underL u t = true) (fun u => u.sum.toNat) ⟨t, ht, under_refl t⟩
  refine ⟨u, hu, hut, min_iff.2 fun v hv hvu => ?_⟩
  have lv := hf v hv
  have lu := hf u hu
  have lt := hf t ht
  rcases under_cmp (by omega) hvu with e | ⟨_, hs⟩
  · exact e
  · have := hmin v ⟨hv, under_trans (by omega) (by omega) hvu hut⟩
    have := chk_sum lv.1
    have := chk_sum lu.1
    omega

theorem keep_inv (hf : ∀ u ∈ l, chk u = 0 ∧ u.length = d) : ∀ k, k ≤ (sortD l).length → (∀ t, t ∈ keepF ((sortD l).take k) ↔ t ∈ (sortD l).take k ∧ minB l t = true) ∧ up (keepF ((sortD l).take k)) := by
  intro k
  induction k with
  | zero => intro _; rw [List.take_zero]; exact ⟨fun t => ⟨fun h => (by cases h), fun h => (by cases h.1)⟩, List.Pairwise.nil⟩
  | succ k ih =>
    intro hk
    have hk' : k < (sortD l).length := by omega
    obtain ⟨h1, h2⟩ := ih (by omega)
    have hin : ∀ u, u ∈ sortD l ↔ u ∈ l := fun u => (sortD_perm l).mem_iff
    have hsrt := List.pairwise_iff_getElem.1 (sortD_srt l)
    have hlow : ∀ u ∈ l, cmpL u (sortD l)[k] < 0 → u ∈ (sortD l).take k := fun u hu hc => by
      obtain ⟨j, hj, rfl⟩ := List.mem_iff_getElem.1 ((hin u).2 hu)
      rcases Nat.lt_trichotomy j k with h | h | h
      · exact List.mem_iff_getElem.2 ⟨j, by rw [List.length_take]; omega, by rw [List.getElem_take]⟩
      · subst h; exact absurd hc (cmpL_irr _)
      · exact absurd hc (hsrt k j hk' hj h)
    have htl : (sortD l)[k] ∈ l := (hin _).1 (List.getElem_mem hk')
    have hft := hf _ htl
    rw [List.take_succ_eq_append_getElem hk', keepF_snoc]
    unfold keepS
    by_cases hany : ((keepF ((sortD l).take k)).any fun u => underL u (sortD l)[k]) = true
    · rw [if_pos hany]
      refine ⟨fun t => ?_, h2⟩
      rw [h1, List.mem_append, List.mem_singleton]
      constructor
      · exact fun h => ⟨.inl h.1, h.2⟩
      · rintro ⟨h | h, hm⟩
        · exact ⟨h, hm⟩
        · subst h
          obtain ⟨u, hu, hut⟩ := List.any_eq_true.1 hany
          have hu' := (h1 u).1 hu
          have := min_iff.1 hm u ((hin u).1 (List.mem_of_mem_take hu'.1)) hut
          rw [this] at hu'
          exact hu'
    · rw [if_neg hany]
      have hno : ∀ u ∈ keepF ((sortD l).take k), underL u (sortD l)[k] = false := fun u hu => by
        cases hq : underL u (sortD l)[k] with
        | false => rfl
        | true => exact absurd (List.any_eq_true.2 ⟨u, hu, hq⟩) hany
      have hmin : minB l (sortD l)[k] = true := by
        obtain ⟨u, hu, hut, hum⟩ := min_below hf htl
        have hfu := hf u hu
        rcases under_cmp (by omega) hut with e | ⟨hc, _⟩
        · rw [← e]; exact hum
        · have := hno u ((h1 u).2 ⟨hlow u hu hc, hum⟩)
          rw [hut] at this; cases this
      refine ⟨fun t => ?_, ?_⟩
      · rw [List.mem_append, List.mem_singleton, List.mem_append, List.mem_singleton, h1]
        constructor
        · rintro (h | h)
          · exact ⟨.inl h.1, h.2⟩
          · exact ⟨.inr h, h ▸ hmin⟩
        · rintro ⟨h | h, hm⟩
          · exact .inl ⟨h, hm⟩
          · exact .inr h
      · unfold up
        rw [List.pairwise_append]
        refine ⟨h2, List.pairwise_singleton _ _, fun u hu t ht => ?_⟩
        rw [List.mem_singleton] at ht
        subst ht
        have hu' := (h1 u).1 hu
        obtain ⟨j, hj, hje⟩ := List.mem_iff_getElem.1 hu'.1
        rw [List.length_take] at hj
        rw [List.getElem_take] at hje
        have hs := hsrt j k (by omega) hk' (by omega)
        rw [hje] at hs
        rw [cmpL_neg] at hs
        by_cases e : cmpL u (sortD l)[k] = 0
        · have := hno u hu
          rw [cmpL_eq.1 e, under_refl] at this
          cases this
        · omega

theorem front_same (hf : ∀ u ∈ l, chk u = 0 ∧ u.length = d) : keepF (sortD l) = (sortT l).filter (minB l) := by
  obtain ⟨s1, s2, s3⟩ := sort_facts l
  have h := keep_inv hf (sortD l).length (Nat.le_refl _)
  rw [List.take_length] at h
  refine up_same h.2 (s3.filter _) fun t => ?_
  rw [h.1, List.mem_filter, s2, (sortD_perm l).mem_iff]
end

theorem ref_Lists_same {l : List (List Int)} (hl : l.length ≤ 1000) (h : ∀ x ∈ l, x.length ≤ 1000000) : ref_Lists (l, l, ()) = some (true, ()) := by
  unfold ref_Lists
  simp only [bneF rfl, cond_false]
  have key := loopM_exit (f := ref_Lists_l1 (l, l, ())) l.length (fun i => ((i : Int), ())) (fun _ => (none : Option (Bool × Unit))) (.inl ()) (fun i hi => by
    unfold ref_Lists_l1
    simp only [dcT (show (i : Int) < (l.length : Int) by omega), cond_true, getI_lt hi, Option.bind_some, ref_TimesSame_eq (h _ (List.getElem_mem hi)), decide_true, Bool.not_true, cond_false, wrapS (show i < 9223372036854775807 by omega)]
    rfl) (by
    unfold ref_Lists_l1
    simp only [dcF (show ¬ (l.length : Int) < (l.length : Int) by omega), cond_false]) (s0 := ((0 : Int), ())) rfl
  rw [key, show (List.range l.length).findSome? (fun _ => (none : Option (Bool × Unit))) = none by simp]
  rfl
end

section
open Go Go.Abs


/-! What a compaction in place leaves: 'Part p s i j l': of the list s the first j are done, i of them are kept. -/
structure Part {α : Type} (p : α → Bool) (s : List α) (i j : Nat) (l : List α) : Prop where
  ij : i ≤ j
  js : j ≤ s.length
  len : l.length = s.length
  head : l.take i = (s.take j).filter p
  tail : l.drop j = s.drop j
theorem Part.get {α : Type} {p : α → Bool} {s l : List α} {i j : Nat} (h : Part p s i j l) (hj : j < s.length) : l[j]? = some s[j] := by
  have := h.tail
  have h1 : (l.drop j)[0]? = (s.drop j)[0]? := by rw [this]
  rw [List.getElem?_drop, List.getElem?_drop, Nat.add_zero] at h1
  rw [h1, List.getElem?_eq_getElem hj]
theorem Part.skip {α : Type} {p : α → Bool} {s l : List α} {i j : Nat} (h : Part p s i j l) (hj : j < s.length) (hp : p s[j] = false) : Part p s i (j + 1) l := by
  refine ⟨by have := h.ij; omega, hj, h.len, ?_, ?_⟩
  · rw [List.take_succ_eq_append_getElem hj, List.filter_append, h.head]
    simp [hp]
  · have h1 := congrArg (List.drop 1) h.tail
    rw [List.drop_drop, List.drop_drop] at h1
    exact h1
theorem Part.keep {α : Type} {p : α → Bool} {s l : List α} {i j : Nat} (h : Part p s i j l) (hj : j < s.length) (hp : p s[j] = true) : Part p s (i + 1) (j + 1) (l.set i s[j]) := by
  have h0 := h.ij
  have h9 := h.len
  refine ⟨by omega, hj, by rw [List.length_set]; exact h.len, ?_, ?_⟩
  · rw [List.take_succ_eq_append_getElem hj, List.filter_append, ← h.head]
    have hi : i < (l.set i s[j]).length := by rw [List.length_set]; omega
    rw [List.take_succ_eq_append_getElem hi, List.getElem_set_self, List.take_set_of_le (Nat.le_refl i)]
    simp [hp]
  · rw [List.drop_set_of_lt (by omega)]
    have h1 := congrArg (List.drop 1) h.tail
    rw [List.drop_drop, List.drop_drop] at h1
    exact h1
theorem Part.count {α : Type} {p : α → Bool} {s l : List α} {i j : Nat} (h : Part p s i j l) : i = ((s.take j).filter p).length := by
  rw [← h.head, List.length_take]
  have := h.ij; have := h.js; have := h.len
  omega
theorem Part.done {α : Type} {p : α → Bool} {s l : List α} {i : Nat} (h : Part p s i s.length l) : l.take i = s.filter p := by
  have := h.head; rw [List.take_length] at this; exact this
/-- The first that goes: all ahead of it are kept. -/
theorem part_start {α : Type} {p : α → Bool} {s : List α} {i : Nat} (hi : i < s.length) (h : ∀ k (hk : k < i), p (s[k]'(by omega)) = true) (hp : p s[i] = false) : Part p s i (i + 1) s := by
  refine ⟨by omega, hi, rfl, ?_, rfl⟩
  rw [List.take_succ_eq_append_getElem hi, List.filter_append]
  have : (s.take i).filter p = s.take i := by
    rw [List.filter_eq_self]
    intro a ha
    obtain ⟨k, hk, rfl⟩ := List.mem_iff_getElem.1 ha
    rw [List.getElem_take]
    rw [List.length_take] at hk
    exact h k (by omega)
  rw [this]
  simp [hp]
theorem take_junk {α : Type} (l z : List α) (i : Nat) (hi : i ≤ l.length) : (((l.take i ++ z).drop (0 : Int).toNat).take (((i : Nat) : Int).toNat - (0 : Int).toNat)) = l.take i := by
  simp only [Int.toNat_natCast, Int.toNat_zero, Nat.sub_zero, List.drop_zero]
  rw [List.take_append_of_le_length (by rw [List.length_take]; omega), List.take_take, Nat.min_self]
end

section
open Go Go.Abs


/-! The front of a tally. -/
def posC (x : Cn) : Bool := decide (0 < x.2.1)
theorem ahead_c1_eq (x : Cn) : counts_tally_ahead_c1 (x, ()) = some (!posC x, ()) := by
  unfold counts_tally_ahead_c1 posC
  congr 2
  by_cases h : 0 < x.2.1
  · rw [dcT h, dcF (show ¬ x.2.1 ≤ 0 by omega)]; rfl
  · rw [dcF h, dcT (show x.2.1 ≤ 0 by omega)]; rfl
theorem del_loop {s : List Cn} (hs : s.length ≤ 1000) : ∀ (k i j : Nat) (l : List Cn), j + k = s.length → Part posC s i j l → ∃ (i' : Nat) (l' : List Cn), loopM counts_front_l2 ((i : Int), (j : Int), l, ()) = some (.inl ((i' : Int), l', ())) ∧ Part posC s i' s.length l'
  | 0, i, j, l, hk, h => by
    obtain rfl : j = s.length := by omega
    refine ⟨i, l, loopM_inr ?_, h⟩
    unfold counts_front_l2
    have hl := h.len
    simp only [dcF (show ¬ (s.length : Int) < (l.length : Int) by omega), cond_false]
  | k + 1, i, j, l, hk, h => by
    have hj : j < s.length := by omega
    have hl := h.len
    have hij := h.ij
    have key : counts_front_l2 ((i : Int), (j : Int), l, ()) = some (.inl (if posC s[j] = true then (((i + 1 : Nat) : Int), ((j + 1 : Nat) : Int), l.set i s[j], ()) else ((i : Int), ((j + 1 : Nat) : Int), l, ()))) := by
      unfold counts_front_l2
      simp only [dcT (show (j : Int) < (l.length : Int) by omega), cond_true, inB_T (show j < l.length by omega), Int.toNat_natCast, h.get hj, Option.bind_some, ahead_c1_eq, Bool.not_not]
      cases posC s[j] with
      | true =>
        simp only [cond_true, inB_T (show i < l.length by omega), List.getElem?_eq_getElem (show i < l.length by omega), Option.bind_some, wrapS (show i < 9223372036854775807 by omega), wrapS (show j < 9223372036854775807 by omega), if_true]
      | false => simp only [cond_false, wrapS (show j < 9223372036854775807 by omega), Bool.false_eq_true, if_false]
    rw [loopM_inl key]
    cases hp : posC s[j] with
    | true => simp only [if_true]; exact del_loop hs k (i + 1) (j + 1) _ (by omega) (h.keep hj hp)
    | false => simp only [Bool.false_eq_true, if_false]; exact del_loop hs k i (j + 1) _ (by omega) (h.skip hj hp)
theorem first_del {s : List Cn} (z : Unit) (hs : s.length ≤ 1000) :
    loopM (counts_front_l1 (s, z)) ((0 : Int), ()) = some (match (List.range s.length).find? fun i => !posC (s.getD i cz) with
      | some i => .inl ((i : Int), ())
      | none => .inr (.inl ())) := by
  have k := loopM_exit (f := counts_front_l1 (s, z)) s.length (fun i => ((i : Int), ())) (fun i => cond (!posC (s.getD i cz)) (some ((i : Int), ())) none) (.inl ()) (fun i hi => by
    unfold counts_front_l1
    simp only [dcT (show (i : Int) < (s.length : Int) by omega), cond_true, inB_T hi, Int.toNat_natCast, getD_get (d := cz) hi, Option.bind_some, ahead_c1_eq]
    rw [wrapS (by omega)]
    cases posC (s.getD i cz) <;> rfl) (by
    unfold counts_front_l1
    simp only [dcF (show ¬ (s.length : Int) < (s.length : Int) by omega), cond_false]) (s0 := ((0 : Int), ())) rfl
  rw [find_map (fun i => !posC (s.getD i cz)) fun i => ((i : Int), ())] at k
  rw [k]
  cases (List.range s.length).find? fun i => !posC (s.getD i cz) <;> rfl
theorem filter_short {c : List Cn} (hc : Tally c) : ((c.filter posC).map (·.1)).length ≤ 64 ∧ ∀ t ∈ (c.filter posC).map (·.1), chk t = 0 ∧ t.length = (c.getD 0 cz).1.length := by
  refine ⟨by rw [List.length_map]; exact Nat.le_trans (List.length_filter_le ..) hc.len, fun t ht => ?_⟩
  obtain ⟨x, hx, rfl⟩ := List.mem_map.1 ht
  exact hc.fine x (List.mem_filter.1 hx).1
/-- The front, as the program and as the document have it. -/
def frontC (c : List Cn) : List (List Int) := (sortT ((c.filter posC).map (·.1))).filter (minB ((c.filter posC).map (·.1)))
theorem dim_le {c : List Cn} (hc : Tally c) : (c.getD 0 cz).1.length ≤ 4 := by
  cases c with
  | nil => exact Nat.zero_le _
  | cons x r => exact (chk_zero (hc.fine x List.mem_cons_self).1).2.1
theorem least_front {c : List Cn} (hc : Tally c) : times_Least ((c.filter posC).map (·.1), ()) = some (frontC c, ()) := by
  obtain ⟨h1, h2⟩ := filter_short hc
  rw [times_Least_eq h1 (dim_le hc) (fun t ht => (h2 t ht).2), front_same h2]; rfl
theorem cloneC {c : List Cn} (h : c.length ≤ 1000) : slices_Clone_s_api_Count_api_Count (c, ()) = some (c, ()) := by
  unfold slices_Clone_s_api_Count_api_Count
  simp only [List.length_nil, Nat.zero_add, room_ok (show c.length ≤ 140737488355328 by omega) (show c.length * 32 ≤ 140737488355328 by omega), Bool.and_true, cond_true, List.nil_append]
theorem counts_front_eq {c : List Cn} (hc : Tally c) : counts_front (c, ()) = some (frontC c, ()) := by
  have hl := hc.len
  have hlist : counts_tally_list (c.filter posC, ()) = some ((c.filter posC).map (·.1), ()) := tally_list_eq (by have := List.length_filter_le posC c; omega)
  unfold counts_front
  simp only [cloneC (show c.length ≤ 1000 by omega), Option.bind_some, first_del () (show c.length ≤ 1000 by omega)]
  cases hf : (List.range c.length).find? fun i => !posC (c.getD i cz) with
  | none =>
    have hall : c.filter posC = c := by
      rw [List.filter_eq_self]
      intro a ha
      obtain ⟨i, hi, rfl⟩ := List.mem_iff_getElem.1 ha
      have := find_none_all hf i hi
      rw [List.getD_eq_getElem?_getD, List.getElem?_eq_getElem hi] at this
      simpa using this
    have d1 : ((-1 : Int) == -1) = true := by decide
    have key := least_front hc
    rw [hall] at key hlist
    simp only [Option.bind_some, Sum.elim_inr, Sum.elim_inl, d1, cond_true, hlist, key]
  | some i =>
    have hi := List.mem_range.1 (List.mem_of_find?_eq_some hf)
    have hdel : posC c[i] = false := by
      have := List.find?_some hf
      rw [List.getD_eq_getElem?_getD, List.getElem?_eq_getElem hi] at this
      simpa using this
    have hbefore : ∀ k (hk : k < i), posC (c[k]'(by omega)) = true := fun k hk => by
      have := List.find?_range_eq_some.1 hf
      have := this.2.2 k hk
      rw [List.getD_eq_getElem?_getD, List.getElem?_eq_getElem (show k < c.length by omega)] at this
      simpa using this
    obtain ⟨i', l', hrun, hp⟩ := del_loop (s := c) (by omega) (c.length - (i + 1)) i (i + 1) c (by omega) (part_start hi hbefore hdel)
    have d1 : ((i : Int) == -1) = false := beqF (by omega)
    have h1 := hp.ij
    have h2 := hp.len
    simp only [Option.bind_some, Sum.elim_inl, d1, cond_false, wrapS (show i < 9223372036854775807 by omega)]
    rw [hrun]
    simp only [Option.bind_some, Sum.elim_inl]
    have g1 : (decide (0 ≤ (i' : Int)) && decide ((i' : Int) ≤ (l'.length : Int)) && decide ((l'.length : Int) ≤ l'.length)) = true := by
      rw [dcT (show (0 : Int) ≤ i' by omega), dcT (show (i' : Int) ≤ l'.length by omega), dcT (show (l'.length : Int) ≤ l'.length by omega)]; rfl
    simp only [g1, cond_true]
    rw [List.append_assoc]
    have g2 : ∀ z : List Cn, (decide (0 ≤ (0 : Int)) && decide ((0 : Int) ≤ (i' : Int)) && decide ((i' : Int) ≤ (l'.take (i' : Int).toNat ++ z).length)) = true := fun z => by
      rw [dcT (show (0 : Int) ≤ 0 by omega), dcT (show (0 : Int) ≤ i' by omega), dcT (show (i' : Int) ≤ ((l'.take (i' : Int).toNat ++ z).length : Nat) by rw [List.length_append, List.length_take, Int.toNat_natCast]; omega)]; rfl
    simp only [g2, cond_true, Option.bind_some, Sum.elim_inl]
    have ht : ∀ z : List Cn, (((l'.take (i' : Int).toNat ++ z).drop (0 : Int).toNat).take ((i' : Int).toNat - (0 : Int).toNat)) = c.filter posC := fun z => by
      rw [Int.toNat_natCast]
      have := take_junk l' z i' (by omega)
      rw [Int.toNat_natCast] at this
      rw [this]; exact hp.done
    rw [ht, hlist]
    simp only [Option.bind_some, least_front hc]
theorem ref_CountsFront_eq {c : List Cn} (hc : Tally c) : ref_CountsFront (c, ()) = some (frontC c, ()) := by
  have hl := hc.len
  have key : loopM (ref_CountsFront_l1 (c, ())) (([] : List (List Int)), (0 : Int), ()) = some (.inl ((c.filter posC).map (·.1), ())) := by
    refine loopM_sim c.length (fun i => (((c.take i).filter posC).map (·.1), (i : Int), ())) _ (fun i hi => ?_) ?_ rfl
    · have hk : (((c.take i).filter posC).map (·.1)).length ≤ i := by
        rw [List.length_map]
        exact Nat.le_trans (List.length_filter_le ..) (by rw [List.length_take]; omega)
      rw [List.take_succ_eq_append_getElem hi, List.filter_append, List.map_append]
      generalize ((c.take i).filter posC).map (·.1) = K at *
      unfold ref_CountsFront_l1
      simp only [dcT (show (i : Int) < (c.length : Int) by omega), cond_true, getI_lt hi, Option.bind_some]
      by_cases hp : 0 < c[i].2.1
      · simp only [dcT (show c[i].2.1 > 0 from hp), cond_true, List.length_cons, List.length_nil, room_ok (show K.length + (0 + 1) ≤ 140737488355328 by omega) (show (K.length + (0 + 1)) * 24 ≤ 140737488355328 by omega), Bool.and_true, wrapS (show i < 9223372036854775807 by omega)]
        simp [posC, hp]
      · simp only [dcF (show ¬ c[i].2.1 > 0 from hp), cond_false, wrapS (show i < 9223372036854775807 by omega)]
        simp [posC, hp]
    · unfold ref_CountsFront_l1
      simp only [dcF (show ¬ (c.length : Int) < (c.length : Int) by omega), cond_false, List.take_length]
  obtain ⟨h1, h2⟩ := filter_short hc
  unfold ref_CountsFront
  rw [key]
  simp only [Option.bind_some, Sum.elim_inl, ref_TimesFront_eq h1 h2]
  rfl
theorem front_facts {c : List Cn} (hc : Tally c) : (frontC c).length ≤ 64 ∧ (∀ t ∈ frontC c, chk t = 0 ∧ t.length = (c.getD 0 cz).1.length) ∧ up (frontC c) := by
  obtain ⟨h1, h2⟩ := filter_short hc
  obtain ⟨s1, s2, s3⟩ := sort_facts ((c.filter posC).map (·.1))
  refine ⟨Nat.le_trans (List.length_filter_le _ _) (by omega), fun t ht => h2 t ((s2 t).1 (List.mem_filter.1 ht).1), s3.filter _⟩
/-- A front, each time so often. -/
def markC (l : List (List Int)) (n : Int) : List Cn := l.map fun t => (t, n, ())
theorem mark_loop {f : List Cn × Int × Unit → Option ((List Cn × Int × Unit) ⊕ ((List Cn × Unit) ⊕ Empty))} {l : List (List Int)} {n : Int} (hl : l.length ≤ 1000)
    (h1 : ∀ (i : Nat) (acc : List Cn) (hi : i < l.length), acc.length ≤ 1000 → f (acc, (i : Int), ()) = some (.inl (acc ++ [(l[i], n, ())], ((i + 1 : Nat) : Int), ()))) (h2 : ∀ acc, f (acc, (l.length : Int), ()) = some (.inr (.inl (acc, ())))) :
    loopM f (([] : List Cn), (0 : Int), ()) = some (.inl (markC l n, ())) := by
  refine loopM_sim l.length (fun i => (markC (l.take i) n, (i : Int), ())) _ (fun i hi => ?_) ?_ rfl
  · rw [h1 i _ hi (by unfold markC; rw [List.length_map, List.length_take]; omega), List.take_succ_eq_append_getElem hi]
    unfold markC
    rw [List.map_append]; rfl
  · rw [List.take_length]; exact h2 _
theorem Moves_c1_eq {l : List (List Int)} (hl : l.length ≤ 1000) (n : Int) : counts_Moves_c1 (l, n, ()) = some (markC l n, ()) := by
  unfold counts_Moves_c1
  rw [mark_loop (n := n) hl (fun i acc hi ha => by
    unfold counts_Moves_c1_l1
    simp only [dcT (show (i : Int) < (l.length : Int) by omega), cond_true, getI_lt hi, Option.bind_some, List.length_cons, List.length_nil, room_ok (show acc.length + (0 + 1) ≤ 140737488355328 by omega) (show (acc.length + (0 + 1)) * 32 ≤ 140737488355328 by omega), Bool.and_true, wrapS (show i < 9223372036854775807 by omega)]) (fun acc => by
    unfold counts_Moves_c1_l1
    simp only [dcF (show ¬ (l.length : Int) < (l.length : Int) by omega), cond_false])]
  rfl
theorem ref_Moves_l1 {l : List (List Int)} (hl : l.length ≤ 1000) (z : Unit) : loopM (ref_CountsMoves_l1 (l, z)) (([] : List Cn), (0 : Int), ()) = some (.inl (markC l (-1), ())) :=
  mark_loop hl (fun i acc hi ha => by
    unfold ref_CountsMoves_l1
    simp only [dcT (show (i : Int) < (l.length : Int) by omega), cond_true, inB_T hi, Int.toNat_natCast, List.getElem?_eq_getElem hi, Option.bind_some, List.length_cons, List.length_nil, room_ok (show acc.length + (0 + 1) ≤ 140737488355328 by omega) (show (acc.length + (0 + 1)) * 32 ≤ 140737488355328 by omega), Bool.and_true, wrapS (show i < 9223372036854775807 by omega)]) (fun acc => by
    unfold ref_CountsMoves_l1
    simp only [dcF (show ¬ (l.length : Int) < (l.length : Int) by omega), cond_false])
theorem ref_Moves_l2 {l : List (List Int)} (hl : l.length ≤ 1000) (z : Unit) : loopM (ref_CountsMoves_l2 (l, z)) (([] : List Cn), (0 : Int), ()) = some (.inl (markC l 1, ())) :=
  mark_loop hl (fun i acc hi ha => by
    unfold ref_CountsMoves_l2
    simp only [dcT (show (i : Int) < (l.length : Int) by omega), cond_true, inB_T hi, Int.toNat_natCast, List.getElem?_eq_getElem hi, Option.bind_some, List.length_cons, List.length_nil, room_ok (show acc.length + (0 + 1) ≤ 140737488355328 by omega) (show (acc.length + (0 + 1)) * 32 ≤ 140737488355328 by omega), Bool.and_true, wrapS (show i < 9223372036854775807 by omega)]) (fun acc => by
    unfold ref_CountsMoves_l2
    simp only [dcF (show ¬ (l.length : Int) < (l.length : Int) by omega), cond_false])
theorem mark_fst (l : List (List Int)) (n : Int) : (markC l n).map (·.1) = l := by
  unfold markC
  rw [List.map_map]
  exact List.map_id _
theorem mark_zero {l : List (List Int)} {n : Int} (d : Nat) (h : ∀ t ∈ l, t.length = d) (hl : l ≠ []) : ((markC l n).getD 0 cz).1.length = d := by
  cases l with
  | nil => exact absurd rfl hl
  | cons t r => exact h t List.mem_cons_self
/-- A front so often is a tally. -/
theorem mark_tally {l : List (List Int)} {n : Int} {d : Nat} (hl : l.length ≤ 64) (hf : ∀ t ∈ l, chk t = 0 ∧ t.length = d) (hup : up l) (hn : n = 1 ∨ n = -1) : Tally (markC l n) := by
  refine ⟨by unfold markC; rw [List.length_map]; exact hl, fun x hx => ?_, fun x hx => ?_, by rw [mark_fst]; exact hup⟩
  · obtain ⟨t, ht, rfl⟩ := List.mem_map.1 hx
    refine ⟨(hf t ht).1, ?_⟩
    rw [mark_zero d (fun t ht => (hf t ht).2) (List.ne_nil_of_mem ht)]
    exact (hf t ht).2
  · obtain ⟨t, ht, rfl⟩ := List.mem_map.1 hx
    show -1099511627776 ≤ n ∧ n ≤ 1099511627776
    omega
end

end Go.Proofs.Try
