/- Lemmas on functions of the program, by name. -/
import Derived.Test.YteipihigjkkmjaaQ7Funs
import Derived.Test.YteipihigjkkmjaaAbsSums
import Derived.Test.YteipihigjkkmjaaQ7LemmasTimesBefores1
namespace Go.Proofs.Try
section
open Go Go.Abs


/-! The program's sort of times. -/
noncomputable def cmpS (a b : List Int) : Option Int := (slices_Compare_s_int_int (a, b, ())).map fun r => r.1
theorem cmpS_eq {a b : List Int} (ha : a.length ≤ 1000000) : cmpS a b = some (cmpL a b) := by
  unfold cmpS; rw [slices_Compare_eq ha]; rfl
theorem ltS_iff {a b : List Int} (ha : a.length ≤ 1000000) : ltF cmpS a b ↔ cmpL a b < 0 := by
  unfold ltF
  rw [cmpS_eq ha]
  constructor
  · rintro ⟨v, h1, h2⟩; cases h1; exact h2
  · exact fun h => ⟨_, rfl, h⟩
/-- Sorted with all. -/
def insD (t : List Int) : List (List Int) → List (List Int)
  | [] => [t]
  | u :: l => if cmpL u t < 0 then u :: insD t l else t :: u :: l
def sortD : List (List Int) → List (List Int)
  | [] => []
  | t :: l => insD t (sortD l)
theorem insD_perm (t : List Int) : ∀ l, (insD t l).Perm (t :: l)
  | [] => List.Perm.refl _
  | u :: l => by
    simp only [insD]
    split
    · exact ((insD_perm t l).cons u).trans (List.Perm.swap t u l)
    · exact List.Perm.refl _
theorem sortD_perm : ∀ l, (sortD l).Perm l
  | [] => List.Perm.refl _
  | t :: l => (insD_perm t (sortD l)).trans ((sortD_perm l).cons t)
theorem insD_srt {t : List Int} : ∀ {l : List (List Int)}, l.Pairwise (fun a b => ¬ cmpL b a < 0) → (insD t l).Pairwise fun a b => ¬ cmpL b a < 0
  | [], _ => by simp [insD]
  | u :: l, h => by
    have h1 := List.pairwise_cons.1 h
    simp only [insD]
    split
    · rename_i hu
      refine List.pairwise_cons.2 ⟨fun v hv => ?_, insD_srt h1.2⟩
      rcases List.mem_cons.1 ((insD_perm t l).mem_iff.1 hv) with rfl | hv
      · intro h; rw [cmpL_neg] at h; omega
      · exact h1.1 v hv
    · rename_i hu
      refine List.pairwise_cons.2 ⟨fun v hv => ?_, h⟩
      rcases List.mem_cons.1 hv with rfl | hv
      · exact hu
      · intro hvt
        rw [cmpL_neg] at hu
        have h2 := h1.1 v hv
        rw [cmpL_neg] at h2
        by_cases e : cmpL t u = 0
        · rw [cmpL_eq.1 e] at hvt; rw [cmpL_neg] at hvt; omega
        · exact absurd (cmpL_trans hvt (show cmpL t u < 0 by omega)) (by rw [cmpL_neg]; omega)
theorem sortD_srt : ∀ l : List (List Int), (sortD l).Pairwise fun a b => ¬ cmpL b a < 0
  | [] => List.Pairwise.nil
  | t :: l => insD_srt (sortD_srt l)

theorem sort_is {l : List (List Int)} (h : ∀ t ∈ l, t.length ≤ 1000000) : sortP cmpS l = some (sortD l) := by
  refine sortP_eq ⟨fun x hx y _ => ⟨_, cmpS_eq (h x hx)⟩, fun x hx hlt => cmpL_irr x ((ltS_iff (h x hx)).1 hlt), fun x hx y hy z _ h1 h2 => (ltS_iff (h x hx)).2 (cmpL_trans ((ltS_iff (h x hx)).1 h1) ((ltS_iff (h y hy)).1 h2)), fun x hx y hy h1 h2 => ?_⟩ (sortD_perm l) ?_
  · have a1 : ¬ cmpL x y < 0 := fun e => h1 ((ltS_iff (h x hx)).2 e)
    have a2 : ¬ cmpL y x < 0 := fun e => h2 ((ltS_iff (h y hy)).2 e)
    rw [cmpL_neg] at a2
    exact cmpL_eq.1 (by omega)
  · unfold Srt
    have hm : ∀ t ∈ sortD l, t.length ≤ 1000000 := fun t ht => h t ((sortD_perm l).mem_iff.1 ht)
    refine (List.Pairwise.and_mem.1 (sortD_srt l)).imp fun {a b} hab hlt => hab.2.2 ((ltS_iff (hm b hab.2.1)).1 hlt)

/-! What is kept. -/
def keepS (K : List (List Int)) (t : List Int) : List (List Int) := if (K.any fun u => underL u t) = true then K else K ++ [t]
def keepF (S : List (List Int)) : List (List Int) := S.foldl keepS []
theorem keepF_snoc (S : List (List Int)) (t : List Int) : keepF (S ++ [t]) = keepS (keepF S) t := by unfold keepF; rw [List.foldl_append]; rfl
theorem keepF_mem : ∀ (S : List (List Int)) (k : Nat), k ≤ S.length → (keepF (S.take k)).length ≤ k ∧ ∀ u ∈ keepF (S.take k), u ∈ S.take k := by
  intro S k
  induction k with
  | zero => intro _; rw [List.take_zero]; exact ⟨Nat.le_refl _, fun u hu => by cases hu⟩
  | succ k ih =>
    intro hk
    obtain ⟨h1, h2⟩ := ih (by omega)
    rw [List.take_succ_eq_append_getElem (by omega), keepF_snoc]
    unfold keepS
    split
    · exact ⟨by omega, fun u hu => List.mem_append_left _ (h2 u hu)⟩
    · refine ⟨by rw [List.length_append, List.length_cons, List.length_nil]; omega, fun u hu => ?_⟩
      rcases List.mem_append.1 hu with hu | hu
      · exact List.mem_append_left _ (h2 u hu)
      · exact List.mem_append_right _ hu

theorem clone_one {t : List Int} (h : t.length ≤ 1000000) : slices_Clone_s_int_int (t, ()) = some (t, ()) := by
  unfold slices_Clone_s_int_int
  simp only [List.length_nil, Nat.zero_add, room_ok (show t.length ≤ 140737488355328 by omega) (show t.length * 8 ≤ 140737488355328 by omega), Bool.and_true, cond_true, List.nil_append]

theorem least_l1 {K : List (List Int)} (z : Int × Unit) {t : List Int} {d : Nat} (hK : ∀ u ∈ K, u.length = d) (ht : t.length = d) (hd : d ≤ 4) (hl : K.length ≤ 1000000) :
    (((loopM (times_Least_l1 (K, z) t) ((0 : Int), ())).bind (Sum.elim (fun z8 => (some (Sum.inl z8))) (Sum.elim (fun z9 => (some (Sum.inl ((-1 : Int), ())))) Empty.elim))) : Option ((Int × Unit) ⊕ Empty)) = some (.inl (((((List.range K.length).find? fun i => underL (K.getD i []) t).map fun i : Nat => (i : Int)).getD (-1)), ())) := by
  have k := loopM_exit (f := times_Least_l1 (K, z) t) K.length (fun i => ((i : Int), ())) (fun i => cond (underL (K.getD i []) t) (some ((i : Int), ())) none) (.inl ()) (fun i hi => by
    have hlen : (K.getD i []).length = d := by rw [List.getD_eq_getElem?_getD, List.getElem?_eq_getElem hi]; exact hK _ (List.getElem_mem hi)
    unfold times_Least_l1
    simp only [dcT (show (i : Int) < (K.length : Int) by omega), cond_true, inB_T hi, Int.toNat_natCast, getD_get (d := []) hi, Option.bind_some, times_Under_eq (show (K.getD i []).length = t.length by omega) (show (K.getD i []).length ≤ 1000000 by omega)]
    rw [wrapS (by omega)]
    cases underL (K.getD i []) t <;> rfl) (by
    unfold times_Least_l1
    simp only [dcF (show ¬ (K.length : Int) < (K.length : Int) by omega), cond_false]) (s0 := ((0 : Int), ())) rfl
  rw [find_map (fun i => underL (K.getD i []) t) fun i => ((i : Int), ())] at k
  rw [k]
  cases (List.range K.length).find? fun i => underL (K.getD i []) t <;> rfl
theorem any_find (K : List (List Int)) (t : List Int) : (K.any fun u => underL u t) = ((List.range K.length).find? fun i => underL (K.getD i []) t).isSome := by
  rw [Bool.eq_iff_iff, List.any_eq_true, List.find?_isSome]
  constructor
  · rintro ⟨u, hu, h⟩
    obtain ⟨i, hi, rfl⟩ := List.mem_iff_getElem.1 hu
    exact ⟨i, List.mem_range.2 hi, by rw [List.getD_eq_getElem?_getD, List.getElem?_eq_getElem hi]; exact h⟩
  · rintro ⟨i, hi, h⟩
    have hi := List.mem_range.1 hi
    rw [List.getD_eq_getElem?_getD, List.getElem?_eq_getElem hi] at h
    exact ⟨K[i], List.getElem_mem hi, h⟩

theorem times_Least_eq {l : List (List Int)} {d : Nat} (hl : l.length ≤ 64) (hd : d ≤ 4) (h : ∀ t ∈ l, t.length = d) : times_Least (l, ()) = some (keepF (sortD l), ()) := by
  have hc : slices_Clone_s_s_int_s_int (l, ()) = some (l, ()) := by
    unfold slices_Clone_s_s_int_s_int
    simp only [List.length_nil, Nat.zero_add, room_ok (show l.length ≤ 140737488355328 by omega) (show l.length * 24 ≤ 140737488355328 by omega), Bool.and_true, cond_true, List.nil_append]
  have hs := sort_is (l := l) fun t ht => by rw [h t ht]; omega
  have hs' : sortP (fun a b => (slices_Compare_s_int_int (a, b, ())).map fun r => r.1) l = some (sortD l) := hs
  have hSl : (sortD l).length = l.length := (sortD_perm l).length_eq
  have hSd : ∀ t ∈ sortD l, t.length = d := fun t ht => h t ((sortD_perm l).mem_iff.1 ht)
  have key : loopM (times_Least_l2 (sortD l)) (([] : List (List Int)), (0 : Int), ()) = some (.inl (keepF (sortD l), ())) := by
    refine loopM_sim (sortD l).length (fun i => (keepF ((sortD l).take i), (i : Int), ())) _ (fun i hi => ?_) ?_ rfl
    · obtain ⟨m1, m2⟩ := keepF_mem (sortD l) i (by omega)
      have hK : ∀ u ∈ keepF ((sortD l).take i), u.length = d := fun u hu => hSd u (List.mem_of_mem_take (m2 u hu))
      have ht : ((sortD l)[i]).length = d := hSd _ (List.getElem_mem hi)
      rw [List.take_succ_eq_append_getElem hi, keepF_snoc]
      generalize keepF ((sortD l).take i) = K at *
      unfold times_Least_l2
      simp only [dcT (show (i : Int) < ((sortD l).length : Int) by omega), cond_true, inB_T hi, Int.toNat_natCast, List.getElem?_eq_getElem hi, Option.bind_some]
      rw [least_l1 _ hK ht hd (by omega), Option.bind_some, Sum.elim_inl]
      unfold keepS
      rw [any_find]
      cases (List.range K.length).find? fun j => underL (K.getD j []) (sortD l)[i] with
      | some j =>
        simp only [Option.map_some, Option.getD_some, dcT (show (j : Int) ≥ 0 by omega), Bool.not_true, cond_false, Option.isSome_some, if_true]
        rw [wrapS (by omega)]
      | none =>
        have d1 : decide ((-1 : Int) ≥ 0) = false := by decide
        simp only [Option.map_none, Option.getD_none, d1, Bool.not_false, cond_true, clone_one (show ((sortD l)[i]).length ≤ 1000000 by omega), Option.bind_some, List.length_cons, List.length_nil, room_ok (show K.length + (0 + 1) ≤ 140737488355328 by omega) (show (K.length + (0 + 1)) * 24 ≤ 140737488355328 by omega), Bool.and_true, Option.isSome_none, Bool.false_eq_true, if_false]
        rw [wrapS (by omega)]
    · unfold times_Least_l2
      simp only [dcF (show ¬ ((sortD l).length : Int) < ((sortD l).length : Int) by omega), cond_false, List.take_length]
  unfold times_Least
  simp only [hc, Option.bind_some, room_ok (show l.length ≤ 140737488355328 by omega) (show l.length * 1 ≤ 140737488355328 by omega), cond_true, hs', key, Sum.elim_inl]
end

section
open Go Go.Abs


/-! The program's closure: one time more. -/
abbrev KK : Ty := .cons (.int .i64) (.cons (.cons (.int .i64) (.cons (.int .i64) (.cons (.int .i64) (.cons (.int .i64) .nil)))) .nil)
theorem kk_flat : KK.flat = true := rfl
abbrev Sn := List (KK.den × Int)
def Keys (seen : Sn) (l : List (List Int)) : Prop := ∀ u : List Int, u.length ≤ 4 → ((mapGet KK seen (keyL u)).isSome = true ↔ u ∈ l)
theorem keys_set {seen : Sn} {l : List (List Int)} (h : Keys seen l) (hl : ∀ x ∈ l, x.length ≤ 4) {u : List Int} (hu : u.length ≤ 4) (n : Int) : Keys (mapSet KK seen (keyL u) n) (l ++ [u]) := by
  intro v hv
  by_cases e : keyL v = keyL u
  · have := keyL_inj hv hu e
    subst this
    rw [mapGet_self kk_flat]
    simp
  · rw [mapGet_other kk_flat _ _ _ _ e, h v hv]
    have hne : v ≠ u := fun e' => e (by rw [e'])
    simp [hne]

/-- What comes with one time more. -/
def Jn (S : List Int → Prop) (t : List Int) (x : List Int) : Prop := S x ∨ x = t ∨ ∃ y, S y ∧ x = joinL t y
theorem jn_join {S : List Int → Prop} {t x : List Int} (h : Jn S t x) : Jn S t (joinL t x) := by
  rcases h with h | rfl | ⟨y, hy, rfl⟩
  · exact .inr (.inr ⟨x, h, rfl⟩)
  · exact .inr (.inl (joinL_self _))
  · refine .inr (.inr ⟨y, hy, ?_⟩)
    rw [← joinL_assoc, joinL_self]

structure Inn (S : List Int → Prop) (t : List Int) (d : Nat) (l : List (List Int)) (i : Int) (seen : Sn) : Prop where
  len : l.length ≤ 64
  nd : l.Nodup
  dim : ∀ x ∈ l, x.length = d
  keys : Keys seen l
  sub : ∀ x ∈ l, Jn S t x
  lo : -1 ≤ i
  hi : i ≤ l.length
  first : 0 ≤ i → t ∈ l
  done : ∀ (k : Nat) (x : List Int), (k : Int) < i → l[k]? = some x → joinL t x ∈ l
end

section
open Go Go.Abs


/-! The document's front. -/
def minB (l : List (List Int)) (t : List Int) : Bool := l.all fun u => !(underL u t && decide (u ≠ t))
theorem min_iff {l : List (List Int)} {t : List Int} : minB l t = true ↔ ∀ u ∈ l, underL u t = true → u = t := by
  unfold minB
  rw [List.all_eq_true]
  constructor
  · intro h u hu hut
    have := h u hu
    rw [hut] at this
    simpa using this
  · intro h u hu
    cases hq : underL u t with
    | false => rfl
    | true => simp [h u hu hq]

theorem rfront_l1 {l : List (List Int)} {t : List Int} {d : Nat} (hl : l.length ≤ 64) (hf : ∀ u ∈ l, chk u = 0 ∧ u.length = d) (ht : chk t = 0 ∧ t.length = d) : loopM (ref_TimesFront_l1 (l, ()) t) (true, (0 : Int), ()) = some (.inl (minB l t, ())) := by
  refine loopM_sim l.length (fun i => (minB (l.take i) t, (i : Int), ())) _ (fun i hi => ?_) ?_ rfl
  · have hu := hf _ (List.getElem_mem hi)
    have h4 := (chk_zero hu.1).2.1
    unfold ref_TimesFront_l1
    simp only [dcT (show (i : Int) < (l.length : Int) by omega), cond_true, getI_lt hi, Option.bind_some, ref_TimesLeq_eq, leB_of (show l[i].length = t.length by omega) hu.1 ht.1, ref_TimesSame_eq (show l[i].length ≤ 1000000 by omega), wrapS (show i < 9223372036854775807 by omega)]
    have hs : minB (l.take (i + 1)) t = (minB (l.take i) t && !(underL l[i] t && decide (l[i] ≠ t))) := by
      unfold minB
      rw [List.take_succ_eq_append_getElem hi, List.all_append, List.all_cons, List.all_nil, Bool.and_true]
    rw [hs]
    cases underL l[i] t with
    | false => rw [cond_false, Bool.false_and, Bool.not_false, Bool.and_true]
    | true =>
      rw [cond_true, Bool.true_and]
      by_cases he : l[i] = t
      · rw [decide_eq_true he, decide_eq_false (not_not_intro he)]; simp
      · rw [decide_eq_false he, decide_eq_true he]; simp
  · unfold ref_TimesFront_l1
    simp only [dcF (show ¬ (l.length : Int) < (l.length : Int) by omega), cond_false, List.take_length]

theorem ref_TimesFront_eq {l : List (List Int)} {d : Nat} (hl : l.length ≤ 64) (hf : ∀ u ∈ l, chk u = 0 ∧ u.length = d) : ref_TimesFront (l, ()) = some ((sortT l).filter (minB l), ()) := by
  obtain ⟨s1, s2, s3⟩ := sort_facts l
  have key : loopM (ref_TimesFront_l2 (l, ()) (sortT l, ())) (([] : List (List Int)), (0 : Int), ()) = some (.inl ((sortT l).filter (minB l), ())) := by
    refine loopM_sim (sortT l).length (fun i => (((sortT l).take i).filter (minB l), (i : Int), ())) _ (fun i hi => ?_) ?_ rfl
    · have hfl : (((sortT l).take i).filter (minB l)).length ≤ i := Nat.le_trans (List.length_filter_le _ _) (by rw [List.length_take]; omega)
      unfold ref_TimesFront_l2
      simp only [dcT (show (i : Int) < ((sortT l).length : Int) by omega), cond_true, getI_lt hi, Option.bind_some, rfront_l1 hl hf (hf _ ((s2 _).1 (List.getElem_mem hi))), Sum.elim_inl, List.length_cons, List.length_nil, wrapS (show i < 9223372036854775807 by omega), room_ok (show (((sortT l).take i).filter (minB l)).length + (0 + 1) ≤ 140737488355328 by omega) (show ((((sortT l).take i).filter (minB l)).length + (0 + 1)) * 24 ≤ 140737488355328 by omega), Bool.and_true]
      rw [List.take_succ_eq_append_getElem hi, List.filter_append, List.filter_cons, List.filter_nil]
      cases minB l (sortT l)[i] with
      | true => rfl
      | false => simp
    · unfold ref_TimesFront_l2
      simp only [dcF (show ¬ ((sortT l).length : Int) < ((sortT l).length : Int) by omega), cond_false, List.take_length]
  unfold ref_TimesFront
  rw [ref_TimesSorted_eq (show l.length ≤ 100000 by omega) d hf, Option.bind_some, key]; rfl

/-! The two are one. -/
theorem least_at {p : List Int → Prop} (f : List Int → Nat) (h : ∃ i, p i) : ∃ i, p i ∧ ∀ j, p j → f i ≤ f j := by
  have key : ∀ m i, p i → f i ≤ m → ∃ i, p i ∧ ∀ j, p j → f i ≤ f j := by
    intro m
    induction m with
    | zero => intro i hi h0; exact ⟨i, hi, fun j _ => by omega⟩
    | succ m ih =>
      intro i hi hm
      by_cases hx : ∃ j, p j ∧ f j ≤ m
      · obtain ⟨j, h1, h2⟩ := hx; exact ih j h1 h2
      · refine ⟨i, hi, fun j hj => ?_⟩
        by_cases hjm : f j ≤ m
        · exact absurd ⟨j, hj, hjm⟩ hx
        · omega
  obtain ⟨i, hi⟩ := h
  exact key (f i) i hi (Nat.le_refl _)
theorem sum_pos : ∀ {a : List Int}, (∀ v ∈ a, 0 ≤ v) → 0 ≤ a.sum
  | [], _ => by simp
  | v :: a, h => by
    rw [List.sum_cons]
    have h1 := h v (List.mem_cons_self ..)
    have h2 := sum_pos fun w hw => h w (List.mem_cons_of_mem _ hw)
    omega
theorem chk_sum {a : List Int} (h : chk a = 0) : 0 ≤ a.sum := sum_pos fun v hv => by
  obtain ⟨i, hi, rfl⟩ := List.mem_iff_getElem.1 hv
  exact ((chk_zero h).2.2 i _ (List.getElem?_eq_getElem hi)).1

section
variable {l : List (List Int)} {d : Nat}
theorem min_below (hf : ∀ u ∈ l, chk u = 0 ∧ u.length = d) {t : List Int} (ht : t ∈ l) : ∃ u, u ∈ l ∧ underL u t = true ∧ minB l u = true := by
  obtain ⟨u, ⟨hu, hut⟩, hmin⟩ := least_at (p := fun u => u ∈ l ∧ underL u t = true) (fun u => u.sum.toNat) ⟨t, ht, under_refl t⟩
  refine ⟨u, hu, hut, min_iff.2 fun v hv hvu => ?_⟩
  have lv := hf v hv
  have lu := hf u hu
  have lt := hf t ht
  rcases under_cmp (by omega) hvu with e | ⟨_, hs⟩
  · exact e
  · have := hmin v ⟨hv, under_trans (by omega) (by omega) hvu hut⟩
    have := chk_sum lv.1
    have := chk_sum lu.1
    omega

theorem keep_inv (hf : ∀ u ∈ l, chk u = 0 ∧ u.length = d) : ∀ k, k ≤ (sortD l).length → (∀ t, t ∈ keepF ((sortD l).take k) ↔ t ∈ (sortD l).take k ∧ minB l t = true) ∧ up (keepF ((sortD l).take k)) := by
  intro k
  induction k with
  | zero => intro _; rw [List.take_zero]; exact ⟨fun t => ⟨fun h => (by cases h), fun h => (by cases h.1)⟩, List.Pairwise.nil⟩
  | succ k ih =>
    intro hk
    have hk' : k < (sortD l).length := by omega
    obtain ⟨h1, h2⟩ := ih (by omega)
    have hin : ∀ u, u ∈ sortD l ↔ u ∈ l := fun u => (sortD_perm l).mem_iff
    have hsrt := List.pairwise_iff_getElem.1 (sortD_srt l)
    have hlow : ∀ u ∈ l, cmpL u (sortD l)[k] < 0 → u ∈ (sortD l).take k := fun u hu hc => by
      obtain ⟨j, hj, rfl⟩ := List.mem_iff_getElem.1 ((hin u).2 hu)
      rcases Nat.lt_trichotomy j k with h | h | h
      · exact List.mem_iff_getElem.2 ⟨j, by rw [List.length_take]; omega, by rw [List.getElem_take]⟩
      · subst h; exact absurd hc (cmpL_irr _)
      · exact absurd hc (hsrt k j hk' hj h)
    have htl : (sortD l)[k] ∈ l := (hin _).1 (List.getElem_mem hk')
    have hft := hf _ htl
    rw [List.take_succ_eq_append_getElem hk', keepF_snoc]
    unfold keepS
    by_cases hany : ((keepF ((sortD l).take k)).any fun u => underL u (sortD l)[k]) = true
    · rw [if_pos hany]
      refine ⟨fun t => ?_, h2⟩
      rw [h1, List.mem_append, List.mem_singleton]
      constructor
      · exact fun h => ⟨.inl h.1, h.2⟩
      · rintro ⟨h | h, hm⟩
        · exact ⟨h, hm⟩
        · subst h
          obtain ⟨u, hu, hut⟩ := List.any_eq_true.1 hany
          have hu' := (h1 u).1 hu
          have := min_iff.1 hm u ((hin u).1 (List.mem_of_mem_take hu'.1)) hut
          rw [this] at hu'
          exact hu'
    · rw [if_neg hany]
      have hno : ∀ u ∈ keepF ((sortD l).take k), underL u (sortD l)[k] = false := fun u hu => by
        cases hq : underL u (sortD l)[k] with
        | false => rfl
        | true => exact absurd (List.any_eq_true.2 ⟨u, hu, hq⟩) hany
      have hmin : minB l (sortD l)[k] = true := by
        obtain ⟨u, hu, hut, hum⟩ := min_below hf htl
        have hfu := hf u hu
        rcases under_cmp (by omega) hut with e | ⟨hc, _⟩
        · rw [← e]; exact hum
        · have := hno u ((h1 u).2 ⟨hlow u hu hc, hum⟩)
          rw [hut] at this; cases this
      refine ⟨fun t => ?_, ?_⟩
      · rw [List.mem_append, List.mem_singleton, List.mem_append, List.mem_singleton, h1]
        constructor
        · rintro (h | h)
          · exact ⟨.inl h.1, h.2⟩
          · exact ⟨.inr h, h ▸ hmin⟩
        · rintro ⟨h | h, hm⟩
          · exact .inl ⟨h, hm⟩
          · exact .inr h
      · unfold up
        rw [List.pairwise_append]
        refine ⟨h2, List.pairwise_singleton _ _, fun u hu t ht => ?_⟩
        rw [List.mem_singleton] at ht
        subst ht
        have hu' := (h1 u).1 hu
        obtain ⟨j, hj, hje⟩ := List.mem_iff_getElem.1 hu'.1
        rw [List.length_take] at hj
        rw [List.getElem_take] at hje
        have hs := hsrt j k (by omega) hk' (by omega)
        rw [hje] at hs
        rw [cmpL_neg] at hs
        by_cases e : cmpL u (sortD l)[k] = 0
        · have := hno u hu
          rw [cmpL_eq.1 e, under_refl] at this
          cases this
        · omega

theorem front_same (hf : ∀ u ∈ l, chk u = 0 ∧ u.length = d) : keepF (sortD l) = (sortT l).filter (minB l) := by
  obtain ⟨s1, s2, s3⟩ := sort_facts l
  have h := keep_inv hf (sortD l).length (Nat.le_refl _)
  rw [List.take_length] at h
  refine up_same h.2 (s3.filter _) fun t => ?_
  rw [h.1, List.mem_filter, s2, (sortD_perm l).mem_iff]
end

theorem ref_Lists_same {l : List (List Int)} (hl : l.length ≤ 1000) (h : ∀ x ∈ l, x.length ≤ 1000000) : ref_Lists (l, l, ()) = some (true, ()) := by
  unfold ref_Lists
  simp only [bneF rfl, cond_false]
  have key := loopM_exit (f := ref_Lists_l1 (l, l, ())) l.length (fun i => ((i : Int), ())) (fun _ => (none : Option (Bool × Unit))) (.inl ()) (fun i hi => by
    unfold ref_Lists_l1
    simp only [dcT (show (i : Int) < (l.length : Int) by omega), cond_true, getI_lt hi, Option.bind_some, ref_TimesSame_eq (h _ (List.getElem_mem hi)), decide_true, Bool.not_true, cond_false, wrapS (show i < 9223372036854775807 by omega)]
    rfl) (by
    unfold ref_Lists_l1
    simp only [dcF (show ¬ (l.length : Int) < (l.length : Int) by omega), cond_false]) (s0 := ((0 : Int), ())) rfl
  rw [key, show (List.range l.length).findSome? (fun _ => (none : Option (Bool × Unit))) = none by simp]
  rfl
end

section
open Go Go.Abs


/-! All joins of some. -/
def Jall (ts : List (List Int)) : List Int → Prop := ts.foldl Jn (fun _ => False)
theorem jall_snoc (ts : List (List Int)) (t : List Int) : Jall (ts ++ [t]) = Jn (Jall ts) t := by unfold Jall; rw [List.foldl_append]; rfl
theorem jall_mono {x : List Int} : ∀ (r : List (List Int)) {S : List Int → Prop}, S x → r.foldl Jn S x
  | [], _, h => h
  | t :: r, S, h => jall_mono r (S := Jn S t) (.inl h)
theorem jall_take {ts : List (List Int)} {x : List Int} (k : Nat) (h : Jall (ts.take k) x) : Jall ts x := by
  have := jall_mono (ts.drop k) h
  unfold Jall at this ⊢
  rw [← List.foldl_append, List.take_append_drop] at this
  exact this
structure Clos (S : List Int → Prop) (T : List (List Int)) : Prop where
  mem : ∀ t ∈ T, S t
  join : ∀ t ∈ T, ∀ y, S y → S (joinL t y)
theorem clos_step {S : List Int → Prop} {T : List (List Int)} (h : Clos S T) (t : List Int) : Clos (Jn S t) (T ++ [t]) where
  mem s hs := by
    rcases List.mem_append.1 hs with hs | hs
    · exact .inl (h.mem s hs)
    · simp at hs; exact .inr (.inl hs)
  join s hs y hy := by
    rcases List.mem_append.1 hs with hs1 | hs1
    · rcases hy with hy | rfl | ⟨z, hz, rfl⟩
      · exact .inl (h.join s hs1 y hy)
      · exact .inr (.inr ⟨s, h.mem s hs1, joinL_comm _ _⟩)
      · refine .inr (.inr ⟨joinL s z, h.join s hs1 z hz, ?_⟩)
        rw [← joinL_assoc, joinL_comm s t, joinL_assoc]
    · simp at hs1; subst hs1; exact jn_join hy
theorem clos_fold : ∀ (r : List (List Int)) {S : List Int → Prop} {T : List (List Int)}, Clos S T → Clos (r.foldl Jn S) (T ++ r)
  | [], _, T, h => by rw [List.append_nil]; exact h
  | t :: r, _, T, h => by
    have := clos_fold r (clos_step h t)
    rw [List.append_assoc] at this
    exact this
theorem jall_clos (ts : List (List Int)) : Clos (Jall ts) ts := clos_fold ts (T := []) ⟨fun t ht => (nomatch ht), fun t ht => (nomatch ht)⟩
theorem jall_all {Q : List Int → Prop} (hj : ∀ a b, Q a → Q b → Q (joinL a b)) : ∀ (r : List (List Int)) {S : List Int → Prop}, (∀ x, S x → Q x) → (∀ t ∈ r, Q t) → ∀ x, r.foldl Jn S x → Q x
  | [], _, h, _, x, hx => h x hx
  | t :: r, S, h, ht, x, hx => jall_all hj r (S := Jn S t) (fun y hy => by
      rcases hy with hy | rfl | ⟨z, hz, rfl⟩
      · exact h y hy
      · exact ht _ List.mem_cons_self
      · exact hj _ _ (ht t List.mem_cons_self) (h z hz)) (fun s hs => ht s (List.mem_cons_of_mem _ hs)) x hx
theorem mx_bad {a b : Int} (ha : bad a = false) (hb : bad b = false) : bad (mx a b) = false := by
  unfold mx; split
  · exact hb
  · exact ha
theorem join_bad : ∀ {a b : List Int}, a.any bad = false → b.any bad = false → (joinL a b).any bad = false
  | [], _, _, _ => rfl
  | _ :: _, [], _, _ => rfl
  | x :: a, y :: b, h1, h2 => by
    rw [List.any_cons, Bool.or_eq_false_iff] at h1 h2
    show (mx x y :: joinL a b).any bad = false
    rw [List.any_cons, mx_bad h1.1 h2.1, join_bad h1.2 h2.2]; rfl
theorem chk_any {a : List Int} (h : chk a = 0) : ¬ (a.length = 0 ∨ a.length > 4) ∧ a.any bad = false := by
  unfold chk at h
  split at h
  · cases h
  · rename_i h1
    split at h
    · cases h
    · rename_i h2; exact ⟨h1, by simpa using h2⟩
theorem chk_join {a b : List Int} (hl : a.length = b.length) (ha : chk a = 0) (hb : chk b = 0) : chk (joinL a b) = 0 := by
  obtain ⟨h1, h2⟩ := chk_any ha
  obtain ⟨-, h3⟩ := chk_any hb
  unfold chk
  rw [joinL_length hl, if_neg h1, join_bad h2 h3]; rfl

structure Out (S : List Int → Prop) (d : Nat) (l : List (List Int)) (seen : Sn) : Prop where
  len : l.length ≤ 64
  nd : l.Nodup
  dim : ∀ x ∈ l, x.length = d
  keys : Keys seen l
  mem : ∀ x, x ∈ l ↔ S x

/-! ### The reference -/
def joins (ts out : List (List Int)) : List (List Int) := ts.flatMap fun t => out.map (joinL t)
theorem joins_take {ts out : List (List Int)} {i : Nat} (h : i < ts.length) : joins (ts.take (i + 1)) out = joins (ts.take i) out ++ out.map (joinL ts[i]) := by
  unfold joins
  rw [List.take_succ_eq_append_getElem h, List.flatMap_append]
  simp
theorem joins_length (ts out : List (List Int)) : (joins ts out).length = ts.length * out.length := by
  unfold joins
  induction ts with
  | nil => simp
  | cons t ts ih => rw [List.flatMap_cons, List.length_append, List.length_map, ih, List.length_cons, Nat.add_one_mul]; omega
theorem room24' {n : Nat} (h : n ≤ 4000000) : roomOk n 24 = true := by
  unfold roomOk
  rw [Bool.and_eq_true]
  exact ⟨Nat.ble_eq_true_of_le (by omega), Nat.ble_eq_true_of_le (by omega)⟩
theorem ref_joins_l1 {ts out : List (List Int)} {t : List Int} {y : List (List Int)} {d : Nat} (hd : d ≤ 4) (ht : t.length = d) (ho : ∀ x ∈ out, x.length = d) (hl : out.length ≤ 64) (hy : y.length ≤ 100000) : loopM (ref_TimesJoins_l1 (ts, out, ()) t) (y, (0 : Int), ()) = some (.inl (y ++ out.map (joinL t), ())) := by
  have h := loopM_fold' (f := ref_TimesJoins_l1 (ts, out, ()) t) out.length (fun j => y ++ (out.take j).map (joinL t)) (.inl (y ++ out.map (joinL t), ())) (fun j hj => by
    have hx := ho _ (List.getElem_mem hj)
    have hlen : (y ++ (out.take j).map (joinL t)).length = y.length + j := by rw [List.length_append, List.length_map, List.length_take]; omega
    unfold ref_TimesJoins_l1
    rw [List.take_succ_eq_append_getElem hj, List.map_append, ← List.append_assoc]
    simp only [dcT (show (j : Int) < (out.length : Int) by omega), cond_true, getI_nat, List.getElem?_eq_getElem hj, Option.bind_some, wrapS (show j < 9223372036854775807 by omega), join_eq (show t.length = out[j].length by omega) (by omega), show ∀ x : List Int, ([x] : List (List Int)).length = 1 from fun _ => rfl, hlen, room24' (show y.length + j + 1 ≤ 4000000 by omega), Bool.and_true]
    rfl) (by
    unfold ref_TimesJoins_l1
    simp only [dcF (show ¬ (out.length : Int) < (out.length : Int) by omega), cond_false, List.take_length])
  have h0 : y ++ (out.take 0).map (joinL t) = y := by simp
  simp only [h0] at h
  exact h
theorem ref_joins_eq {ts out : List (List Int)} {d : Nat} (hd : d ≤ 4) (ht : ∀ t ∈ ts, t.length = d) (ho : ∀ x ∈ out, x.length = d) (hn : ts.length ≤ 64) (hl : out.length ≤ 64) : ref_TimesJoins (ts, out, ()) = some (joins ts out, ()) := by
  have h := loopM_fold' (f := ref_TimesJoins_l2 (ts, out, ())) ts.length (fun i => joins (ts.take i) out) (.inl (joins ts out, ())) (fun i hi => by
    have hlen := joins_length (ts.take i) out
    rw [List.length_take] at hlen
    have hm : min i ts.length * out.length ≤ 64 * 64 := Nat.mul_le_mul (by omega) hl
    unfold ref_TimesJoins_l2
    rw [joins_take hi]
    simp only [dcT (show (i : Int) < (ts.length : Int) by omega), cond_true, getI_nat, List.getElem?_eq_getElem hi, Option.bind_some, wrapS (show i < 9223372036854775807 by omega)]
    rw [ref_joins_l1 hd (ht _ (List.getElem_mem hi)) ho hl (by omega)]
    simp only [Option.bind_some, Sum.elim_inl]) (by
    unfold ref_TimesJoins_l2
    simp only [dcF (show ¬ (ts.length : Int) < (ts.length : Int) by omega), cond_false, List.take_length])
  have h' : loopM (ref_TimesJoins_l2 (ts, out, ())) (([] : List (List Int)), (0 : Int), ()) = _ := h
  unfold ref_TimesJoins
  rw [h']; rfl
theorem ref_all_eq {a b : List (List Int)} (ha : a.length ≤ 100000) (hb : b.length ≤ 100000) : ref_TimesAll (a, b, ()) = some (a ++ b, ()) := by
  have h1 := loopM_fold' (f := ref_TimesAll_l1 (a, b, ())) a.length (fun i => a.take i) (.inl (a, ())) (fun i hi => by
    have hlen : (a.take i).length = i := by rw [List.length_take]; omega
    unfold ref_TimesAll_l1
    rw [List.take_succ_eq_append_getElem hi]
    simp only [dcT (show (i : Int) < (a.length : Int) by omega), cond_true, getI_nat, List.getElem?_eq_getElem hi, Option.bind_some, wrapS (show i < 9223372036854775807 by omega), show ∀ x : List Int, ([x] : List (List Int)).length = 1 from fun _ => rfl, hlen, room24' (show i + 1 ≤ 4000000 by omega), Bool.and_true]) (by
    unfold ref_TimesAll_l1
    simp only [dcF (show ¬ (a.length : Int) < (a.length : Int) by omega), cond_false, List.take_length])
  have h2 := loopM_fold' (f := ref_TimesAll_l2 (a, b, ())) b.length (fun i => a ++ b.take i) (.inl (a ++ b, ())) (fun i hi => by
    have hlen : (a ++ b.take i).length = a.length + i := by rw [List.length_append, List.length_take]; omega
    unfold ref_TimesAll_l2
    rw [List.take_succ_eq_append_getElem hi, ← List.append_assoc]
    simp only [dcT (show (i : Int) < (b.length : Int) by omega), cond_true, getI_nat, List.getElem?_eq_getElem hi, Option.bind_some, wrapS (show i < 9223372036854775807 by omega), show ∀ x : List Int, ([x] : List (List Int)).length = 1 from fun _ => rfl, hlen, room24' (show a.length + i + 1 ≤ 4000000 by omega), Bool.and_true]) (by
    unfold ref_TimesAll_l2
    simp only [dcF (show ¬ (b.length : Int) < (b.length : Int) by omega), cond_false, List.take_length])
  have h1' : loopM (ref_TimesAll_l1 (a, b, ())) (([] : List (List Int)), (0 : Int), ()) = _ := h1
  have h2' : loopM (ref_TimesAll_l2 (a, b, ())) (a, (0 : Int), ()) = some (.inl (a ++ b, ())) := by
    have := h2
    simp only [List.take_zero, List.append_nil] at this
    exact this
  unfold ref_TimesAll
  rw [h1']
  simp only [Option.bind_some, Sum.elim_inl]
  rw [h2']; rfl
end

end Go.Proofs.Try
