/- Lemmas on functions of the program, by name: front3. -/
import Derived.Test.YtammjpalmmhokaaP5Funs
import Derived.Test.YtammjpalmmhokaaAbsSums
import Derived.Test.YtammjpalmmhokaaP5LibFront2
namespace Go.Proofs.Try
open Go Go.Abs


/-! The document's front. -/
def minB (l : List (List Int)) (t : List Int) : Bool := l.all fun u => !(underL u t && decide (u ≠ t))
theorem min_iff {l : List (List Int)} {t : List Int} : minB l t = true ↔ ∀ u ∈ l, underL u t = true → u = t := by
  unfold minB
  rw [List.all_eq_true]
  constructor
  · intro h u hu hut
    have := h u hu
    rw [hut] at this
    simpa using this
  · intro h u hu
    cases hq : underL u t with
    | false => rfl
    | true => simp [h u hu hq]

theorem rfront_l1 {l : List (List Int)} {t : List Int} {d : Nat} (hl : l.length ≤ 64) (hf : ∀ u ∈ l, chk u = 0 ∧ u.length = d) (ht : chk t = 0 ∧ t.length = d) : loopM (ref_TimesFront_l1 (l, ()) t) (true, (0 : Int), ()) = some (.inl (minB l t, ())) := by
  refine loopM_sim l.length (fun i => (minB (l.take i) t, (i : Int), ())) _ (fun i hi => ?_) ?_ rfl
  · have hu := hf _ (List.getElem_mem hi)
    have h4 := (chk_zero hu.1).2.1
    unfold ref_TimesFront_l1
    simp only [dcT (show (i : Int) < (l.length : Int) by omega), cond_true, getI_lt hi, Option.bind_some, ref_TimesLeq_eq, leB_of (show l[i].length = t.length by omega) hu.1 ht.1, ref_TimesSame_eq (show l[i].length ≤ 1000000 by omega), wrapS (show i < 9223372036854775807 by omega)]
    have hs : minB (l.take (i + 1)) t = (minB (l.take i) t && !(underL l[i] t && decide (l[i] ≠ t))) := by
      unfold minB
      rw [List.take_succ_eq_append_getElem hi, List.all_append, List.all_cons, List.all_nil, Bool.and_true]
    rw [hs]
    cases underL l[i] t with
    | false => rw [cond_false, Bool.false_and, Bool.not_false, Bool.and_true]
    | true =>
      rw [cond_true, Bool.true_and]
      by_cases he : l[i] = t
      · rw [decide_eq_true he, decide_eq_false (not_not_intro he)]; simp
      · rw [decide_eq_false he, decide_eq_true he]; simp
  · unfold ref_TimesFront_l1
    simp only [dcF (show ¬ (l.length : Int) < (l.length : Int) by omega), cond_false, List.take_length]

theorem ref_TimesFront_eq {l : List (List Int)} {d : Nat} (hl : l.length ≤ 64) (hf : ∀ u ∈ l, chk u = 0 ∧ u.length = d) : ref_TimesFront (l, ()) = some ((sortT l).filter (minB l), ()) := by
  obtain ⟨s1, s2, s3⟩ := sort_facts l
  have key : loopM (ref_TimesFront_l2 (l, ()) (sortT l, ())) (([] : List (List Int)), (0 : Int), ()) = some (.inl ((sortT l).filter (minB l), ())) := by
    refine loopM_sim (sortT l).length (fun i => (((sortT l).take i).filter (minB l), (i : Int), ())) _ (fun i hi => ?_) ?_ rfl
    · have hfl : (((sortT l).take i).filter (minB l)).length ≤ i := Nat.le_trans (List.length_filter_le _ _) (by rw [List.length_take]; omega)
      unfold ref_TimesFront_l2
      simp only [dcT (show (i : Int) < ((sortT l).length : Int) by omega), cond_true, getI_lt hi, Option.bind_some, rfront_l1 hl hf (hf _ ((s2 _).1 (List.getElem_mem hi))), Sum.elim_inl, List.length_cons, List.length_nil, wrapS (show i < 9223372036854775807 by omega), room_ok (show (((sortT l).take i).filter (minB l)).length + (0 + 1) ≤ 140737488355328 by omega) (show ((((sortT l).take i).filter (minB l)).length + (0 + 1)) * 24 ≤ 140737488355328 by omega), Bool.and_true]
      rw [List.take_succ_eq_append_getElem hi, List.filter_append, List.filter_cons, List.filter_nil]
      cases minB l (sortT l)[i] with
      | true => rfl
      | false => simp
    · unfold ref_TimesFront_l2
      simp only [dcF (show ¬ ((sortT l).length : Int) < ((sortT l).length : Int) by omega), cond_false, List.take_length]
  unfold ref_TimesFront
  rw [ref_TimesSorted_eq (show l.length ≤ 1000 by omega) d hf, Option.bind_some, key]; rfl

/-! The two are one. -/
theorem least_at {p : List Int → Prop} (f : List Int → Nat) (h : ∃ i, p i) : ∃ i, p i ∧ ∀ j, p j → f i ≤ f j := by
  have key : ∀ m i, p i → f i ≤ m → ∃ i, p i ∧ ∀ j, p j → f i ≤ f j := by
    intro m
    induction m with
    | zero => intro i hi h0; exact ⟨i, hi, fun j _ => by omega⟩
    | succ m ih =>
      intro i hi hm
      by_cases hx : ∃ j, p j ∧ f j ≤ m
      · obtain ⟨j, h1, h2⟩ := hx; exact ih j h1 h2
      · refine ⟨i, hi, fun j hj => ?_⟩
        by_cases hjm : f j ≤ m
        · exact absurd ⟨j, hj, hjm⟩ hx
        · omega
  obtain ⟨i, hi⟩ := h
  exact key (f i) i hi (Nat.le_refl _)
theorem sum_pos : ∀ {a : List Int}, (∀ v ∈ a, 0 ≤ v) → 0 ≤ a.sum
  | [], _ => by simp
  | v :: a, h => by
    rw [List.sum_cons]
    have h1 := h v (List.mem_cons_self ..)
    have h2 := sum_pos fun w hw => h w (List.mem_cons_of_mem _ hw)
    omega
theorem chk_sum {a : List Int} (h : chk a = 0) : 0 ≤ a.sum := sum_pos fun v hv => by
  obtain ⟨i, hi, rfl⟩ := List.mem_iff_getElem.1 hv
  exact ((chk_zero h).2.2 i _ (List.getElem?_eq_getElem hi)).1

section
variable {l : List (List Int)} {d : Nat}
theorem min_below (hf : ∀ u ∈ l, chk u = 0 ∧ u.length = d) {t : List Int} (ht : t ∈ l) : ∃ u, u ∈ l ∧ underL u t = true ∧ minB l u = true := by
  obtain ⟨u, ⟨hu, hut⟩, hmin⟩ := least_at (p := fun u => u ∈ l ∧ underL u t = true) (fun u => u.sum.toNat) ⟨t, ht, under_refl t⟩
  refine ⟨u, hu, hut, min_iff.2 fun v hv hvu => ?_⟩
  have lv := hf v hv
  have lu := hf u hu
  have lt := hf t ht
  rcases under_cmp (by omega) hvu with e | ⟨_, hs⟩
  · exact e
  · have := hmin v ⟨hv, under_trans (by omega) (by omega) hvu hut⟩
    have := chk_sum lv.1
    have := chk_sum lu.1
    omega

theorem keep_inv (hf : ∀ u ∈ l, chk u = 0 ∧ u.length = d) : ∀ k, k ≤ (sortD l).length → (∀ t, t ∈ keepF ((sortD l).take k) ↔ t ∈ (sortD l).take k ∧ minB l t = true) ∧ up (keepF ((sortD l).take k)) := by
  intro k
  induction k with
  | zero => intro _; rw [List.take_zero]; exact ⟨fun t => ⟨fun h => (by cases h), fun h => (by cases h.1)⟩, List.Pairwise.nil⟩
  | succ k ih =>
    intro hk
    have hk' : k < (sortD l).length := by omega
    obtain ⟨h1, h2⟩ := ih (by omega)
    have hin : ∀ u, u ∈ sortD l ↔ u ∈ l := fun u => (sortD_perm l).mem_iff
    have hsrt := List.pairwise_iff_getElem.1 (sortD_srt l)
    have hlow : ∀ u ∈ l, cmpL u (sortD l)[k] < 0 → u ∈ (sortD l).take k := fun u hu hc => by
      obtain ⟨j, hj, rfl⟩ := List.mem_iff_getElem.1 ((hin u).2 hu)
      rcases Nat.lt_trichotomy j k with h | h | h
      · exact List.mem_iff_getElem.2 ⟨j, by rw [List.length_take]; omega, by rw [List.getElem_take]⟩
      · subst h; exact absurd hc (cmpL_irr _)
      · exact absurd hc (hsrt k j hk' hj h)
    have htl : (sortD l)[k] ∈ l := (hin _).1 (List.getElem_mem hk')
    have hft := hf _ htl
    rw [List.take_succ_eq_append_getElem hk', keepF_snoc]
    unfold keepS
    by_cases hany : ((keepF ((sortD l).take k)).any fun u => underL u (sortD l)[k]) = true
    · rw [if_pos hany]
      refine ⟨fun t => ?_, h2⟩
      rw [h1, List.mem_append, List.mem_singleton]
      constructor
      · exact fun h => ⟨.inl h.1, h.2⟩
      · rintro ⟨h | h, hm⟩
        · exact ⟨h, hm⟩
        · subst h
          obtain ⟨u, hu, hut⟩ := List.any_eq_true.1 hany
          have hu' := (h1 u).1 hu
          have := min_iff.1 hm u ((hin u).1 (List.mem_of_mem_take hu'.1)) hut
          rw [this] at hu'
          exact hu'
    · rw [if_neg hany]
      have hno : ∀ u ∈ keepF ((sortD l).take k), underL u (sortD l)[k] = false := fun u hu => by
        cases hq : underL u (sortD l)[k] with
        | false => rfl
        | true => exact absurd (List.any_eq_true.2 ⟨u, hu, hq⟩) hany
      have hmin : minB l (sortD l)[k] = true := by
        obtain ⟨u, hu, hut, hum⟩ := min_below hf htl
        have hfu := hf u hu
        rcases under_cmp (by omega) hut with e | ⟨hc, _⟩
        · rw [← e]; exact hum
        · have := hno u ((h1 u).2 ⟨hlow u hu hc, hum⟩)
          rw [hut] at this; cases this
      refine ⟨fun t => ?_, ?_⟩
      · rw [List.mem_append, List.mem_singleton, List.mem_append, List.mem_singleton, h1]
        constructor
        · rintro (h | h)
          · exact ⟨.inl h.1, h.2⟩
          · exact ⟨.inr h, h ▸ hmin⟩
        · rintro ⟨h | h, hm⟩
          · exact .inl ⟨h, hm⟩
          · exact .inr h
      · unfold up
        rw [List.pairwise_append]
        refine ⟨h2, List.pairwise_singleton _ _, fun u hu t ht => ?_⟩
        rw [List.mem_singleton] at ht
        subst ht
        have hu' := (h1 u).1 hu
        obtain ⟨j, hj, hje⟩ := List.mem_iff_getElem.1 hu'.1
        rw [List.length_take] at hj
        rw [List.getElem_take] at hje
        have hs := hsrt j k (by omega) hk' (by omega)
        rw [hje] at hs
        rw [cmpL_neg] at hs
        by_cases e : cmpL u (sortD l)[k] = 0
        · have := hno u hu
          rw [cmpL_eq.1 e, under_refl] at this
          cases this
        · omega

theorem front_same (hf : ∀ u ∈ l, chk u = 0 ∧ u.length = d) : keepF (sortD l) = (sortT l).filter (minB l) := by
  obtain ⟨s1, s2, s3⟩ := sort_facts l
  have h := keep_inv hf (sortD l).length (Nat.le_refl _)
  rw [List.take_length] at h
  refine up_same h.2 (s3.filter _) fun t => ?_
  rw [h.1, List.mem_filter, s2, (sortD_perm l).mem_iff]
end

theorem ref_Lists_same {l : List (List Int)} (hl : l.length ≤ 1000) (h : ∀ x ∈ l, x.length ≤ 1000000) : ref_Lists (l, l, ()) = some (true, ()) := by
  unfold ref_Lists
  simp only [bneF rfl, cond_false]
  have key := loopM_exit (f := ref_Lists_l1 (l, l, ())) l.length (fun i => ((i : Int), ())) (fun _ => (none : Option (Bool × Unit))) (.inl ()) (fun i hi => by
    unfold ref_Lists_l1
    simp only [dcT (show (i : Int) < (l.length : Int) by omega), cond_true, getI_lt hi, Option.bind_some, ref_TimesSame_eq (h _ (List.getElem_mem hi)), decide_true, Bool.not_true, cond_false, wrapS (show i < 9223372036854775807 by omega)]
    rfl) (by
    unfold ref_Lists_l1
    simp only [dcF (show ¬ (l.length : Int) < (l.length : Int) by omega), cond_false]) (s0 := ((0 : Int), ())) rfl
  rw [key, show (List.range l.length).findSome? (fun _ => (none : Option (Bool × Unit))) = none by simp]
  rfl

end Go.Proofs.Try
