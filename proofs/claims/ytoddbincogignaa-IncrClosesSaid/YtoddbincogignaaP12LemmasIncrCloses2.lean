/- Lemmas on functions of the program, by name. -/
import Derived.Test.YtoddbincogignaaP12Funs
import Derived.Test.YtoddbincogignaaAbsSums
import Derived.Test.YtoddbincogignaaP12LemmasIncrCloses1
namespace Go.Proofs.Try
section
open Go Go.Abs


/-! The program's sort of times. -/
noncomputable def cmpS (a b : List Int) : Option Int := (slices_Compare_s_int_int (a, b, ())).map fun r => r.1
theorem cmpS_eq {a b : List Int} (ha : a.length ≤ 1000000) : cmpS a b = some (cmpL a b) := by
  unfold cmpS; rw [slices_Compare_eq ha]; rfl
theorem ltS_iff {a b : List Int} (ha : a.length ≤ 1000000) : ltF cmpS a b ↔ cmpL a b < 0 := by
  unfold ltF
  rw [cmpS_eq ha]
  constructor
  · rintro ⟨v, h1, h2⟩; cases h1; exact h2
  · exact fun h => ⟨_, rfl, h⟩
/-- Sorted with all. -/
def insD (t : List Int) : List (List Int) → List (List Int)
  | [] => [t]
  | u :: l => if cmpL u t < 0 then u :: insD t l else t :: u :: l
def sortD : List (List Int) → List (List Int)
  | [] => []
  | t :: l => insD t (sortD l)
theorem insD_perm (t : List Int) : ∀ l, (insD t l).Perm (t :: l)
  | [] => List.Perm.refl _
  | u :: l => by
    simp only [insD]
    split
    · exact ((insD_perm t l).cons u).trans (List.Perm.swap t u l)
    · exact List.Perm.refl _
theorem sortD_perm : ∀ l, (sortD l).Perm l
  | [] => List.Perm.refl _
  | t :: l => (insD_perm t (sortD l)).trans ((sortD_perm l).cons t)
theorem insD_srt {t : List Int} : ∀ {l : List (List Int)}, l.Pairwise (fun a b => ¬ cmpL b a < 0) → (insD t l).Pairwise fun a b => ¬ cmpL b a < 0
  | [], _ => by simp [insD]
  | u :: l, h => by
    have h1 := List.pairwise_cons.1 h
    simp only [insD]
    split
    · rename_i hu
      refine List.pairwise_cons.2 ⟨fun v hv => ?_, insD_srt h1.2⟩
      rcases List.mem_cons.1 ((insD_perm t l).mem_iff.1 hv) with rfl | hv
      · intro h; rw [cmpL_neg] at h; omega
      · exact h1.1 v hv
    · rename_i hu
      refine List.pairwise_cons.2 ⟨fun v hv => ?_, h⟩
      rcases List.mem_cons.1 hv with rfl | hv
      · exact hu
      · intro hvt
        rw [cmpL_neg] at hu
        have h2 := h1.1 v hv
        rw [cmpL_neg] at h2
        by_cases e : cmpL t u = 0
        · rw [cmpL_eq.1 e] at hvt; rw [cmpL_neg] at hvt; omega
        · exact absurd (cmpL_trans hvt (show cmpL t u < 0 by omega)) (by rw [cmpL_neg]; omega)
theorem sortD_srt : ∀ l : List (List Int), (sortD l).Pairwise fun a b => ¬ cmpL b a < 0
  | [] => List.Pairwise.nil
  | t :: l => insD_srt (sortD_srt l)

theorem sort_is {l : List (List Int)} (h : ∀ t ∈ l, t.length ≤ 1000000) : sortP cmpS l = some (sortD l) := by
  refine sortP_eq ⟨fun x hx y _ => ⟨_, cmpS_eq (h x hx)⟩, fun x hx hlt => cmpL_irr x ((ltS_iff (h x hx)).1 hlt), fun x hx y hy z _ h1 h2 => (ltS_iff (h x hx)).2 (cmpL_trans ((ltS_iff (h x hx)).1 h1) ((ltS_iff (h y hy)).1 h2)), fun x hx y hy h1 h2 => ?_⟩ (sortD_perm l) ?_
  · have a1 : ¬ cmpL x y < 0 := fun e => h1 ((ltS_iff (h x hx)).2 e)
    have a2 : ¬ cmpL y x < 0 := fun e => h2 ((ltS_iff (h y hy)).2 e)
    rw [cmpL_neg] at a2
    exact cmpL_eq.1 (by omega)
  · unfold Srt
    have hm : ∀ t ∈ sortD l, t.length ≤ 1000000 := fun t ht => h t ((sortD_perm l).mem_iff.1 ht)
    refine (List.Pairwise.and_mem.1 (sortD_srt l)).imp fun {a b} hab hlt => hab.2.2 ((ltS_iff (hm b hab.2.1)).1 hlt)

/-! What is kept. -/
def keepS (K : List (List Int)) (t : List Int) : List (List Int) := if (K.any fun u => underL u t) = true then K else K ++ [t]
def keepF (S : List (List Int)) : List (List Int) := S.foldl keepS []
theorem keepF_snoc (S : List (List Int)) (t : List Int) : keepF (S ++ [t]) = keepS (keepF S) t := by unfold keepF; rw [List.foldl_append]; rfl
theorem keepF_mem : ∀ (S : List (List Int)) (k : Nat), k ≤ S.length → (keepF (S.take k)).length ≤ k ∧ ∀ u ∈ keepF (S.take k), u ∈ S.take k := by
  intro S k
  induction k with
  | zero => intro _; rw [List.take_zero]; exact ⟨Nat.le_refl _, fun u hu => by cases hu⟩
  | succ k ih =>
    intro hk
    obtain ⟨h1, h2⟩ := ih (by omega)
    rw [List.take_succ_eq_append_getElem (by omega), keepF_snoc]
    unfold keepS
    split
    · exact ⟨by omega, fun u hu => List.mem_append_left _ (h2 u hu)⟩
    · refine ⟨by rw [List.length_append, List.length_cons, List.length_nil]; omega, fun u hu => ?_⟩
      rcases List.mem_append.1 hu with hu | hu
      · exact List.mem_append_left _ (h2 u hu)
      · exact List.mem_append_right _ hu

theorem clone_one {t : List Int} (h : t.length ≤ 1000000) : slices_Clone_s_int_int (t, ()) = some (t, ()) := by
  unfold slices_Clone_s_int_int
  simp only [List.length_nil, Nat.zero_add, room_ok (show t.length ≤ 140737488355328 by omega) (show t.length * 8 ≤ 140737488355328 by omega), Bool.and_true, cond_true, List.nil_append]

theorem any_find (K : List (List Int)) (t : List Int) : (K.any fun u => underL u t) = ((List.range K.length).find? fun i => underL (K.getD i []) t).isSome := by
  rw [Bool.eq_iff_iff, List.any_eq_true, List.find?_isSome]
  constructor
  · rintro ⟨u, hu, h⟩
    obtain ⟨i, hi, rfl⟩ := List.mem_iff_getElem.1 hu
    exact ⟨i, List.mem_range.2 hi, by rw [List.getD_eq_getElem?_getD, List.getElem?_eq_getElem hi]; exact h⟩
  · rintro ⟨i, hi, h⟩
    have hi := List.mem_range.1 hi
    rw [List.getD_eq_getElem?_getD, List.getElem?_eq_getElem hi] at h
    exact ⟨K[i], List.getElem_mem hi, h⟩
end

section
open Go Go.Abs


/-! The program's closure: one time more. -/
abbrev KK : Ty := .cons (.int .i64) (.cons (.cons (.int .i64) (.cons (.int .i64) (.cons (.int .i64) (.cons (.int .i64) .nil)))) .nil)
theorem kk_flat : KK.flat = true := rfl
abbrev Sn := List (KK.den × Int)
def Keys (seen : Sn) (l : List (List Int)) : Prop := ∀ u : List Int, u.length ≤ 4 → ((mapGet KK seen (keyL u)).isSome = true ↔ u ∈ l)
theorem keys_set {seen : Sn} {l : List (List Int)} (h : Keys seen l) (hl : ∀ x ∈ l, x.length ≤ 4) {u : List Int} (hu : u.length ≤ 4) (n : Int) : Keys (mapSet KK seen (keyL u) n) (l ++ [u]) := by
  intro v hv
  by_cases e : keyL v = keyL u
  · have := keyL_inj hv hu e
    subst this
    rw [mapGet_self kk_flat]
    simp
  · rw [mapGet_other kk_flat _ _ _ _ e, h v hv]
    have hne : v ≠ u := fun e' => e (by rw [e'])
    simp [hne]

/-- What comes with one time more. -/
def Jn (S : List Int → Prop) (t : List Int) (x : List Int) : Prop := S x ∨ x = t ∨ ∃ y, S y ∧ x = joinL t y
theorem jn_join {S : List Int → Prop} {t x : List Int} (h : Jn S t x) : Jn S t (joinL t x) := by
  rcases h with h | rfl | ⟨y, hy, rfl⟩
  · exact .inr (.inr ⟨x, h, rfl⟩)
  · exact .inr (.inl (joinL_self _))
  · refine .inr (.inr ⟨y, hy, ?_⟩)
    rw [← joinL_assoc, joinL_self]

theorem step_l1 {t : List Int} {l : List (List Int)} {seen : Sn} {u : List Int} {i i' : Int} (hl : l.length ≤ 64) (hu4 : u.length ≤ 4) (hK : Keys seen l)
    (hi : i < (l.length : Int)) (hw : IntKind.i64.wrap (i + 1) = i')
    (hu : (((cond (decide (i ≥ (0 : Int))) (cond (inB i l.length) ((l[i.toNat]?).bind fun v4 => ((times_Over (t, v4, ())).bind fun r5 => (some (Sum.inl r5)))) none) (some (Sum.inl (t, ())))) : Option (((List Int) × Unit) ⊕ Empty))) = some (.inl (u, ()))) :
    incr_closed_l1 t (l, i, seen, ()) = if u ∈ l then some (.inl (l, i', seen, ())) else if l.length = 64 then some (.inr (.inl (([] : List (List Int)), false, mapSet KK seen (keyL u) (l.length : Int), ()))) else some (.inl (l ++ [u], i', mapSet KK seen (keyL u) (l.length : Int), ())) := by
  have hc := clone_one (t := u) (by omega)
  have hlen : (l ++ [u]).length = l.length + 1 := by simp
  have hroom : roomOk (l.length + ([u] : List (List Int)).length) 24 = true := by
    rw [show ([u] : List (List Int)).length = 1 from rfl]
    unfold roomOk
    rw [Bool.and_eq_true]
    exact ⟨Nat.ble_eq_true_of_le (by omega), Nat.ble_eq_true_of_le (by omega)⟩
  unfold incr_closed_l1
  simp only [dcT hi, cond_true]
  rw [hu]
  simp only [Option.bind_some, Sum.elim_inl, keyOf_eq, hc, hroom, hlen, hw, Bool.and_true, Bool.true_and, cond_true]
  have hk := hK u hu4
  cases hs : (mapGet KK seen (keyL u)).isSome with
  | true =>
    rw [if_pos (hk.1 hs)]; rfl
  | false =>
    rw [if_neg (fun h => by rw [hk.2 h] at hs; cases hs)]
    simp only [cond_false]
    by_cases h64 : l.length = 64
    · rw [if_pos h64, dcT (show ((l.length + 1 : Nat) : Int) > 64 by omega)]; rfl
    · rw [if_neg h64, dcF (show ¬ ((l.length + 1 : Nat) : Int) > 64 by omega)]; rfl

structure Inn (S : List Int → Prop) (t : List Int) (d : Nat) (l : List (List Int)) (i : Int) (seen : Sn) : Prop where
  len : l.length ≤ 64
  nd : l.Nodup
  dim : ∀ x ∈ l, x.length = d
  keys : Keys seen l
  sub : ∀ x ∈ l, Jn S t x
  lo : -1 ≤ i
  hi : i ≤ l.length
  first : 0 ≤ i → t ∈ l
  done : ∀ (k : Nat) (x : List Int), (k : Int) < i → l[k]? = some x → joinL t x ∈ l

/-- The result of the inner loop: too many, or the list with the time among it. -/
theorem inner_run {S : List Int → Prop} {t : List Int} {d : Nat} (hd : d ≤ 4) (ht : t.length = d) : ∀ (μ : Nat) (l : List (List Int)) (i : Int) (seen : Sn), Inn S t d l i seen → 2 * (64 - (l.length : Int)) + (l.length - i) ≤ μ →
    (∃ seen', loopM (incr_closed_l1 t) (l, i, seen, ()) = some (.inl ([], false, seen', ())) ∧ ∃ big : List (List Int), big.length = 65 ∧ big.Nodup ∧ ∀ x ∈ big, Jn S t x) ∨
    ∃ l' seen', loopM (incr_closed_l1 t) (l, i, seen, ()) = some (.inr (.inl (l', seen', ()))) ∧ Inn S t d l' l'.length seen' ∧ (∀ x ∈ l, x ∈ l')
  | 0, l, i, seen, h, hμ => by
    have h1 := h.len
    have h2 := h.hi
    have he : i = l.length := by omega
    subst he
    right
    refine ⟨l, seen, loopM_inr ?_, h, fun x hx => hx⟩
    unfold incr_closed_l1
    simp only [dcF (show ¬ (l.length : Int) < (l.length : Int) by omega), cond_false]
  | μ + 1, l, i, seen, h, hμ => by
    have h1 := h.len
    have h2 := h.hi
    have h3 := h.lo
    by_cases he : i = l.length
    · subst he
      right
      refine ⟨l, seen, loopM_inr ?_, h, fun x hx => hx⟩
      unfold incr_closed_l1
      simp only [dcF (show ¬ (l.length : Int) < (l.length : Int) by omega), cond_false]
    have hlt : i < (l.length : Int) := by omega
    have hw : IntKind.i64.wrap (i + 1) = i + 1 := wrap64 (by omega) (by omega)
    -- what is looked at
    obtain ⟨u, hu, hud, hJ, hdone⟩ : ∃ u : List Int, (((cond (decide (i ≥ (0 : Int))) (cond (inB i l.length) ((l[i.toNat]?).bind fun v4 => ((times_Over (t, v4, ())).bind fun r5 => (some (Sum.inl r5)))) none) (some (Sum.inl (t, ())))) : Option (((List Int) × Unit) ⊕ Empty))) = some (.inl (u, ())) ∧ u.length = d ∧ Jn S t u ∧
        ((i = -1 ∧ u = t) ∨ ∃ (n : Nat) (x : List Int), i = n ∧ l[n]? = some x ∧ u = joinL t x) := by
      by_cases hneg : i = -1
      · subst hneg
        exact ⟨t, rfl, ht, .inr (.inl rfl), .inl ⟨rfl, rfl⟩⟩
      · obtain ⟨n, rfl⟩ : ∃ n : Nat, i = (n : Int) := ⟨i.toNat, by omega⟩
        have hn : n < l.length := by omega
        have hx := h.dim _ (List.getElem_mem hn)
        refine ⟨joinL t l[n], ?_, by rw [joinL_length (by omega)]; exact ht, jn_join (h.sub _ (List.getElem_mem hn)), .inr ⟨n, l[n], rfl, List.getElem?_eq_getElem hn, rfl⟩⟩
        simp only [dcT (show (n : Int) ≥ 0 by omega), cond_true, inB_T hn, Int.toNat_natCast, List.getElem?_eq_getElem hn, Option.bind_some, over_eq (show t.length = l[n].length by omega) (by omega)]
    have hst := step_l1 (t := t) (i' := i + 1) h1 (by omega) h.keys hlt hw hu
    have hgo : ∀ (l' : List (List Int)), (∀ x ∈ l, x ∈ l') → (∃ r, l' = l ++ r) → u ∈ l' → (∀ (k : Nat) (x : List Int), (k : Int) < i + 1 → l'[k]? = some x → joinL t x ∈ l') ∧ (0 ≤ i + 1 → t ∈ l') := by
      rintro l' hs ⟨r, rfl⟩ hul
      constructor
      · intro k x hk hx
        have hkl : k < l.length := by omega
        rw [List.getElem?_append_left hkl] at hx
        by_cases hki : (k : Int) < i
        · exact hs _ (h.done k x hki hx)
        · rcases hdone with ⟨h4, -⟩ | ⟨n, x', h4, h5, h6⟩
          · omega
          · have : k = n := by omega
            subst this
            rw [hx] at h5; cases h5
            rw [← h6]; exact hul
      · intro _
        rcases hdone with ⟨-, h5⟩ | ⟨n, x', h4, -, -⟩
        · rw [← h5]; exact hul
        · exact hs _ (h.first (by omega))
    by_cases hm : u ∈ l
    · rw [if_pos hm] at hst
      rw [loopM_inl hst]
      obtain ⟨g1, g2⟩ := hgo l (fun x hx => hx) ⟨[], by simp⟩ hm
      exact inner_run hd ht μ l (i + 1) seen ⟨h1, h.nd, h.dim, h.keys, h.sub, by omega, by omega, g2, g1⟩ (by omega)
    · rw [if_neg hm] at hst
      have hnd : (l ++ [u]).Nodup := by
        rw [List.nodup_append]
        exact ⟨h.nd, by simp, fun a ha b hb e => by simp at hb; subst hb; subst e; exact hm ha⟩
      have hsub : ∀ x ∈ l ++ [u], Jn S t x := fun x hx => by
        rcases List.mem_append.1 hx with hx | hx
        · exact h.sub x hx
        · simp at hx; subst hx; exact hJ
      by_cases h64 : l.length = 64
      · rw [if_pos h64] at hst
        left
        exact ⟨_, loopM_inr hst, l ++ [u], by simp [h64], hnd, hsub⟩
      · rw [if_neg h64] at hst
        rw [loopM_inl hst]
        obtain ⟨g1, g2⟩ := hgo (l ++ [u]) (fun x hx => List.mem_append_left _ hx) ⟨[u], rfl⟩ (by simp)
        have hlen : (l ++ [u]).length = l.length + 1 := by simp
        rcases inner_run hd ht μ (l ++ [u]) (i + 1) (mapSet KK seen (keyL u) (l.length : Int)) ⟨by omega, hnd, fun x hx => by
            rcases List.mem_append.1 hx with hx | hx
            · exact h.dim x hx
            · simp at hx; subst hx; exact hud, keys_set h.keys (fun x hx => by rw [h.dim x hx]; exact hd) (by omega) _, hsub, by omega, by omega, g2, g1⟩ (by omega) with hr | ⟨l', seen', r1, r2, r3⟩
        · exact .inl hr
        · exact .inr ⟨l', seen', r1, r2, fun x hx => r3 x (List.mem_append_left _ hx)⟩
end

section
open Go Go.Abs


/-! The document's front. -/
def minB (l : List (List Int)) (t : List Int) : Bool := l.all fun u => !(underL u t && decide (u ≠ t))
theorem min_iff {l : List (List Int)} {t : List Int} : minB l t = true ↔ ∀ u ∈ l, underL u t = true → u = t := by
  unfold minB
  rw [List.all_eq_true]
  constructor
  · intro h u hu hut
    have := h u hu
    rw [hut] at this
    simpa using this
  · intro h u hu
    cases hq : underL u t with
    | false => rfl
    | true => simp [h u hu hq]

/-! The two are one. -/
theorem least_at {p : List Int → Prop} (f : List Int → Nat) (h : ∃ i, p i) : ∃ i, p i ∧ ∀ j, p j → f i ≤ f j := by
  have key : ∀ m i, p i → f i ≤ m → ∃ i, p i ∧ ∀ j, p j → f i ≤ f j := by
    intro m
    induction m with
    | zero => intro i hi h0; exact ⟨i, hi, fun j _ => by omega⟩
    | succ m ih =>
      intro i hi hm
      by_cases hx : ∃ j, p j ∧ f j ≤ m
      · obtain ⟨j, h1, h2⟩ := hx; exact ih j h1 h2
      · refine ⟨i, hi, fun j hj => ?_⟩
        by_cases hjm : f j ≤ m
        · exact absurd ⟨j, hj, hjm⟩ hx
        · omega
  obtain ⟨i, hi⟩ := h
  exact key (f i) i hi (Nat.le_refl _)
theorem sum_pos : ∀ {a : List Int}, (∀ v ∈ a, 0 ≤ v) → 0 ≤ a.sum
  | [], _ => by simp
  | v :: a, h => by
    rw [List.sum_cons]
    have h1 := h v (List.mem_cons_self ..)
    have h2 := sum_pos fun w hw => h w (List.mem_cons_of_mem _ hw)
    omega
theorem chk_sum {a : List Int} (h : chk a = 0) : 0 ≤ a.sum := sum_pos fun v hv => by
  obtain ⟨i, hi, rfl⟩ := List.mem_iff_getElem.1 hv
  exact ((chk_zero h).2.2 i _ (List.getElem?_eq_getElem hi)).1

section
variable {l : List (List Int)} {d : Nat}
theorem min_below (hf : ∀ u ∈ l, chk u = 0 ∧ u.length = d) {t : List Int} (ht : t ∈ l) : ∃ u, u ∈ l ∧ underL u t = true ∧ minB l u = true := by
  obtain ⟨u, ⟨hu, hut⟩, hmin⟩ := least_at (p := fun u => u ∈ l ∧ underL u t = true) (fun u => u.sum.toNat) ⟨t, ht, under_refl t⟩
  refine ⟨u, hu, hut, min_iff.2 fun v hv hvu => ?_⟩
  have lv := hf v hv
  have lu := hf u hu
  have lt := hf t ht
  rcases under_cmp (by omega) hvu with e | ⟨_, hs⟩
  · exact e
  · have := hmin v ⟨hv, under_trans (by omega) (by omega) hvu hut⟩
    have := chk_sum lv.1
    have := chk_sum lu.1
    omega

theorem keep_inv (hf : ∀ u ∈ l, chk u = 0 ∧ u.length = d) : ∀ k, k ≤ (sortD l).length → (∀ t, t ∈ keepF ((sortD l).take k) ↔ t ∈ (sortD l).take k ∧ minB l t = true) ∧ up (keepF ((sortD l).take k)) := by
  intro k
  induction k with
  | zero => intro _; rw [List.take_zero]; exact ⟨fun t => ⟨fun h => (by cases h), fun h => (by cases h.1)⟩, List.Pairwise.nil⟩
  | succ k ih =>
    intro hk
    have hk' : k < (sortD l).length := by omega
    obtain ⟨h1, h2⟩ := ih (by omega)
    have hin : ∀ u, u ∈ sortD l ↔ u ∈ l := fun u => (sortD_perm l).mem_iff
    have hsrt := List.pairwise_iff_getElem.1 (sortD_srt l)
    have hlow : ∀ u ∈ l, cmpL u (sortD l)[k] < 0 → u ∈ (sortD l).take k := fun u hu hc => by
      obtain ⟨j, hj, rfl⟩ := List.mem_iff_getElem.1 ((hin u).2 hu)
      rcases Nat.lt_trichotomy j k with h | h | h
      · exact List.mem_iff_getElem.2 ⟨j, by rw [List.length_take]; omega, by rw [List.getElem_take]⟩
      · subst h; exact absurd hc (cmpL_irr _)
      · exact absurd hc (hsrt k j hk' hj h)
    have htl : (sortD l)[k] ∈ l := (hin _).1 (List.getElem_mem hk')
    have hft := hf _ htl
    rw [List.take_succ_eq_append_getElem hk', keepF_snoc]
    unfold keepS
    by_cases hany : ((keepF ((sortD l).take k)).any fun u => underL u (sortD l)[k]) = true
    · rw [if_pos hany]
      refine ⟨fun t => ?_, h2⟩
      rw [h1, List.mem_append, List.mem_singleton]
      constructor
      · exact fun h => ⟨.inl h.1, h.2⟩
      · rintro ⟨h | h, hm⟩
        · exact ⟨h, hm⟩
        · subst h
          obtain ⟨u, hu, hut⟩ := List.any_eq_true.1 hany
          have hu' := (h1 u).1 hu
          have := min_iff.1 hm u ((hin u).1 (List.mem_of_mem_take hu'.1)) hut
          rw [this] at hu'
          exact hu'
    · rw [if_neg hany]
      have hno : ∀ u ∈ keepF ((sortD l).take k), underL u (sortD l)[k] = false := fun u hu => by
        cases hq : underL u (sortD l)[k] with
        | false => rfl
        | true => exact absurd (List.any_eq_true.2 ⟨u, hu, hq⟩) hany
      have hmin : minB l (sortD l)[k] = true := by
        obtain ⟨u, hu, hut, hum⟩ := min_below hf htl
        have hfu := hf u hu
        rcases under_cmp (by omega) hut with e | ⟨hc, _⟩
        · rw [← e]; exact hum
        · have := hno u ((h1 u).2 ⟨hlow u hu hc, hum⟩)
          rw [hut] at this; cases this
      refine ⟨fun t => ?_, ?_⟩
      · rw [List.mem_append, List.mem_singleton, List.mem_append, List.mem_singleton, h1]
        constructor
        · rintro (h | h)
          · exact ⟨.inl h.1, h.2⟩
          · exact ⟨.inr h, h ▸ hmin⟩
        · rintro ⟨h | h, hm⟩
          · exact .inl ⟨h, hm⟩
          · exact .inr h
      · unfold up
        rw [List.pairwise_append]
        refine ⟨h2, List.pairwise_singleton _ _, fun u hu t ht => ?_⟩
        rw [List.mem_singleton] at ht
        subst ht
        have hu' := (h1 u).1 hu
        obtain ⟨j, hj, hje⟩ := List.mem_iff_getElem.1 hu'.1
        rw [List.length_take] at hj
        rw [List.getElem_take] at hje
        have hs := hsrt j k (by omega) hk' (by omega)
        rw [hje] at hs
        rw [cmpL_neg] at hs
        by_cases e : cmpL u (sortD l)[k] = 0
        · have := hno u hu
          rw [cmpL_eq.1 e, under_refl] at this
          cases this
        · omega

theorem front_same (hf : ∀ u ∈ l, chk u = 0 ∧ u.length = d) : keepF (sortD l) = (sortT l).filter (minB l) := by
  obtain ⟨s1, s2, s3⟩ := sort_facts l
  have h := keep_inv hf (sortD l).length (Nat.le_refl _)
  rw [List.take_length] at h
  refine up_same h.2 (s3.filter _) fun t => ?_
  rw [h.1, List.mem_filter, s2, (sortD_perm l).mem_iff]
end

theorem ref_Lists_same {l : List (List Int)} (hl : l.length ≤ 1000) (h : ∀ x ∈ l, x.length ≤ 1000000) : ref_Lists (l, l, ()) = some (true, ()) := by
  unfold ref_Lists
  simp only [bneF rfl, cond_false]
  have key := loopM_exit (f := ref_Lists_l1 (l, l, ())) l.length (fun i => ((i : Int), ())) (fun _ => (none : Option (Bool × Unit))) (.inl ()) (fun i hi => by
    unfold ref_Lists_l1
    simp only [dcT (show (i : Int) < (l.length : Int) by omega), cond_true, getI_lt hi, Option.bind_some, ref_TimesSame_eq (h _ (List.getElem_mem hi)), decide_true, Bool.not_true, cond_false, wrapS (show i < 9223372036854775807 by omega)]
    rfl) (by
    unfold ref_Lists_l1
    simp only [dcF (show ¬ (l.length : Int) < (l.length : Int) by omega), cond_false]) (s0 := ((0 : Int), ())) rfl
  rw [key, show (List.range l.length).findSome? (fun _ => (none : Option (Bool × Unit))) = none by simp]
  rfl
end

section
open Go Go.Abs


/-! All joins of some. -/
def Jall (ts : List (List Int)) : List Int → Prop := ts.foldl Jn (fun _ => False)
theorem jall_snoc (ts : List (List Int)) (t : List Int) : Jall (ts ++ [t]) = Jn (Jall ts) t := by unfold Jall; rw [List.foldl_append]; rfl
theorem jall_mono {x : List Int} : ∀ (r : List (List Int)) {S : List Int → Prop}, S x → r.foldl Jn S x
  | [], _, h => h
  | t :: r, S, h => jall_mono r (S := Jn S t) (.inl h)
theorem jall_take {ts : List (List Int)} {x : List Int} (k : Nat) (h : Jall (ts.take k) x) : Jall ts x := by
  have := jall_mono (ts.drop k) h
  unfold Jall at this ⊢
  rw [← List.foldl_append, List.take_append_drop] at this
  exact this
structure Clos (S : List Int → Prop) (T : List (List Int)) : Prop where
  mem : ∀ t ∈ T, S t
  join : ∀ t ∈ T, ∀ y, S y → S (joinL t y)
theorem clos_step {S : List Int → Prop} {T : List (List Int)} (h : Clos S T) (t : List Int) : Clos (Jn S t) (T ++ [t]) where
  mem s hs := by
    rcases List.mem_append.1 hs with hs | hs
    · exact .inl (h.mem s hs)
    · simp at hs; exact .inr (.inl hs)
  join s hs y hy := by
    rcases List.mem_append.1 hs with hs1 | hs1
    · rcases hy with hy | rfl | ⟨z, hz, rfl⟩
      · exact .inl (h.join s hs1 y hy)
      · exact .inr (.inr ⟨s, h.mem s hs1, joinL_comm _ _⟩)
      · refine .inr (.inr ⟨joinL s z, h.join s hs1 z hz, ?_⟩)
        rw [← joinL_assoc, joinL_comm s t, joinL_assoc]
    · simp at hs1; subst hs1; exact jn_join hy
theorem clos_fold : ∀ (r : List (List Int)) {S : List Int → Prop} {T : List (List Int)}, Clos S T → Clos (r.foldl Jn S) (T ++ r)
  | [], _, T, h => by rw [List.append_nil]; exact h
  | t :: r, _, T, h => by
    have := clos_fold r (clos_step h t)
    rw [List.append_assoc] at this
    exact this
theorem jall_clos (ts : List (List Int)) : Clos (Jall ts) ts := clos_fold ts (T := []) ⟨fun t ht => (nomatch ht), fun t ht => (nomatch ht)⟩
theorem jall_all {Q : List Int → Prop} (hj : ∀ a b, Q a → Q b → Q (joinL a b)) : ∀ (r : List (List Int)) {S : List Int → Prop}, (∀ x, S x → Q x) → (∀ t ∈ r, Q t) → ∀ x, r.foldl Jn S x → Q x
  | [], _, h, _, x, hx => h x hx
  | t :: r, S, h, ht, x, hx => jall_all hj r (S := Jn S t) (fun y hy => by
      rcases hy with hy | rfl | ⟨z, hz, rfl⟩
      · exact h y hy
      · exact ht _ List.mem_cons_self
      · exact hj _ _ (ht t List.mem_cons_self) (h z hz)) (fun s hs => ht s (List.mem_cons_of_mem _ hs)) x hx
theorem mx_bad {a b : Int} (ha : bad a = false) (hb : bad b = false) : bad (mx a b) = false := by
  unfold mx; split
  · exact hb
  · exact ha
theorem join_bad : ∀ {a b : List Int}, a.any bad = false → b.any bad = false → (joinL a b).any bad = false
  | [], _, _, _ => rfl
  | _ :: _, [], _, _ => rfl
  | x :: a, y :: b, h1, h2 => by
    rw [List.any_cons, Bool.or_eq_false_iff] at h1 h2
    show (mx x y :: joinL a b).any bad = false
    rw [List.any_cons, mx_bad h1.1 h2.1, join_bad h1.2 h2.2]; rfl
theorem chk_any {a : List Int} (h : chk a = 0) : ¬ (a.length = 0 ∨ a.length > 4) ∧ a.any bad = false := by
  unfold chk at h
  split at h
  · cases h
  · rename_i h1
    split at h
    · cases h
    · rename_i h2; exact ⟨h1, by simpa using h2⟩
theorem chk_join {a b : List Int} (hl : a.length = b.length) (ha : chk a = 0) (hb : chk b = 0) : chk (joinL a b) = 0 := by
  obtain ⟨h1, h2⟩ := chk_any ha
  obtain ⟨-, h3⟩ := chk_any hb
  unfold chk
  rw [joinL_length hl, if_neg h1, join_bad h2 h3]; rfl

structure Out (S : List Int → Prop) (d : Nat) (l : List (List Int)) (seen : Sn) : Prop where
  len : l.length ≤ 64
  nd : l.Nodup
  dim : ∀ x ∈ l, x.length = d
  keys : Keys seen l
  mem : ∀ x, x ∈ l ↔ S x

theorem outer_run {ts : List (List Int)} {d : Nat} (hd : d ≤ 4) (hts : ∀ t ∈ ts, t.length = d) (hn : ts.length ≤ 64) : ∀ (k j : Nat), j + k = ts.length → ∀ (l : List (List Int)) (seen : Sn), Out (Jall (ts.take j)) d l seen →
    (∃ seen', loopM (incr_closed_l2 (ts, ())) (l, (j : Int), seen, ()) = some (.inl ([], false, seen', ())) ∧ ∃ big : List (List Int), big.length = 65 ∧ big.Nodup ∧ ∀ x ∈ big, Jall ts x) ∨
    ∃ l' seen', loopM (incr_closed_l2 (ts, ())) (l, (j : Int), seen, ()) = some (.inr (.inl (l', seen', ()))) ∧ Out (Jall ts) d l' seen'
  | 0, j, hj, l, seen, h => by
    have : j = ts.length := by omega
    subst this
    right
    rw [List.take_length] at h
    refine ⟨l, seen, loopM_inr ?_, h⟩
    unfold incr_closed_l2
    simp only [dcF (show ¬ (ts.length : Int) < (ts.length : Int) by omega), cond_false]
  | k + 1, j, hj, l, seen, h => by
    have hjl : j < ts.length := by omega
    have htk : Jall (ts.take (j + 1)) = Jn (Jall (ts.take j)) ts[j] := by rw [List.take_succ_eq_append_getElem hjl, jall_snoc]
    have hl := h.len
    have hi := inner_run (S := Jall (ts.take j)) (t := ts[j]) hd (hts _ (List.getElem_mem hjl)) (2 * 64 + 66) l (-1) seen ⟨h.len, h.nd, h.dim, h.keys, fun x hx => .inl ((h.mem x).1 hx), by omega, by omega, fun h0 => absurd h0 (by omega), fun k x hk => absurd hk (by omega)⟩ (by omega)
    rcases hi with ⟨seen', h1, big, h2, h3, h4⟩ | ⟨l', seen', h1, h2, h3⟩
    · left
      refine ⟨seen', loopM_inr ?_, big, h2, h3, fun x hx => jall_take (j + 1) (by rw [htk]; exact h4 x hx)⟩
      unfold incr_closed_l2
      simp only [dcT (show (j : Int) < (ts.length : Int) by omega), cond_true, getI_nat, List.getElem?_eq_getElem hjl, Option.bind_some, h1, Sum.elim_inl]
    · have hst : incr_closed_l2 (ts, ()) (l, (j : Int), seen, ()) = some (.inl (l', ((j + 1 : Nat) : Int), seen', ())) := by
        unfold incr_closed_l2
        simp only [dcT (show (j : Int) < (ts.length : Int) by omega), cond_true, getI_nat, List.getElem?_eq_getElem hjl, Option.bind_some, h1, Sum.elim_inl, Sum.elim_inr, wrapS (show j < 9223372036854775807 by omega)]
      rw [loopM_inl hst]
      refine outer_run hd hts hn k (j + 1) (by omega) l' seen' ⟨h2.len, h2.nd, h2.dim, h2.keys, fun x => ?_⟩
      rw [htk]
      refine ⟨h2.sub x, fun hx => ?_⟩
      rcases hx with hx | rfl | ⟨y, hy, rfl⟩
      · exact h3 x ((h.mem x).2 hx)
      · exact h2.first (by omega)
      · obtain ⟨n, hn'⟩ := List.getElem?_of_mem (h3 y ((h.mem y).2 hy))
        have := (List.getElem?_eq_some_iff.1 hn').1
        exact h2.done n y (by omega) hn'

theorem closed_run {ts : List (List Int)} {d : Nat} (hd : d ≤ 4) (hts : ∀ t ∈ ts, t.length = d) (hn : ts.length ≤ 64) :
    (incr_closed (ts, ()) = some ([], false, ()) ∧ ∃ big : List (List Int), big.length = 65 ∧ big.Nodup ∧ ∀ x ∈ big, Jall ts x) ∨
    ∃ l : List (List Int), incr_closed (ts, ()) = some (sortD l, true, ()) ∧ l.length ≤ 64 ∧ l.Nodup ∧ ∀ x, x ∈ l ↔ Jall ts x := by
  have h0 : Out (Jall (ts.take 0)) d [] ([] : Sn) := ⟨by simp, List.nodup_nil, fun x hx => (nomatch hx), fun u _ => by simp [mapGet], fun x => ⟨fun h => (nomatch h), fun h => h.elim⟩⟩
  rcases outer_run hd hts hn ts.length 0 (by omega) [] [] h0 with ⟨seen', h1, hb⟩ | ⟨l, seen', h1, h2⟩
  · left
    refine ⟨?_, hb⟩
    have h1' : loopM (incr_closed_l2 (ts, ())) (([] : List (List Int)), (0 : Int), ([] : Sn), ()) = _ := h1
    unfold incr_closed
    rw [h1']; rfl
  · right
    refine ⟨l, ?_, h2.len, h2.nd, h2.mem⟩
    have h1' : loopM (incr_closed_l2 (ts, ())) (([] : List (List Int)), (0 : Int), ([] : Sn), ()) = _ := h1
    have hlen := h2.len
    have hroom : roomOk l.length 1 = true := by
      unfold roomOk
      rw [Bool.and_eq_true]
      exact ⟨Nat.ble_eq_true_of_le (by omega), Nat.ble_eq_true_of_le (by omega)⟩
    have hs : sortP (fun a b => (slices_Compare_s_int_int (a, b, ())).map fun r => r.1) l = some (sortD l) := sort_is fun t ht => by rw [h2.dim t ht]; omega
    unfold incr_closed
    rw [h1']
    simp only [Option.bind_some, Sum.elim_inr, Sum.elim_inl, hroom, cond_true, hs]

/-! ### The reference -/
def joins (ts out : List (List Int)) : List (List Int) := ts.flatMap fun t => out.map (joinL t)
theorem joins_take {ts out : List (List Int)} {i : Nat} (h : i < ts.length) : joins (ts.take (i + 1)) out = joins (ts.take i) out ++ out.map (joinL ts[i]) := by
  unfold joins
  rw [List.take_succ_eq_append_getElem h, List.flatMap_append]
  simp
theorem joins_length (ts out : List (List Int)) : (joins ts out).length = ts.length * out.length := by
  unfold joins
  induction ts with
  | nil => simp
  | cons t ts ih => rw [List.flatMap_cons, List.length_append, List.length_map, ih, List.length_cons, Nat.add_one_mul]; omega
theorem room24' {n : Nat} (h : n ≤ 4000000) : roomOk n 24 = true := by
  unfold roomOk
  rw [Bool.and_eq_true]
  exact ⟨Nat.ble_eq_true_of_le (by omega), Nat.ble_eq_true_of_le (by omega)⟩
theorem ref_joins_l1 {ts out : List (List Int)} {t : List Int} {y : List (List Int)} {d : Nat} (hd : d ≤ 4) (ht : t.length = d) (ho : ∀ x ∈ out, x.length = d) (hl : out.length ≤ 64) (hy : y.length ≤ 100000) : loopM (ref_TimesJoins_l1 (ts, out, ()) t) (y, (0 : Int), ()) = some (.inl (y ++ out.map (joinL t), ())) := by
  have h := loopM_fold' (f := ref_TimesJoins_l1 (ts, out, ()) t) out.length (fun j => y ++ (out.take j).map (joinL t)) (.inl (y ++ out.map (joinL t), ())) (fun j hj => by
    have hx := ho _ (List.getElem_mem hj)
    have hlen : (y ++ (out.take j).map (joinL t)).length = y.length + j := by rw [List.length_append, List.length_map, List.length_take]; omega
    unfold ref_TimesJoins_l1
    rw [List.take_succ_eq_append_getElem hj, List.map_append, ← List.append_assoc]
    simp only [dcT (show (j : Int) < (out.length : Int) by omega), cond_true, getI_nat, List.getElem?_eq_getElem hj, Option.bind_some, wrapS (show j < 9223372036854775807 by omega), join_eq (show t.length = out[j].length by omega) (by omega), show ∀ x : List Int, ([x] : List (List Int)).length = 1 from fun _ => rfl, hlen, room24' (show y.length + j + 1 ≤ 4000000 by omega), Bool.and_true]
    rfl) (by
    unfold ref_TimesJoins_l1
    simp only [dcF (show ¬ (out.length : Int) < (out.length : Int) by omega), cond_false, List.take_length])
  have h0 : y ++ (out.take 0).map (joinL t) = y := by simp
  simp only [h0] at h
  exact h
theorem ref_joins_eq {ts out : List (List Int)} {d : Nat} (hd : d ≤ 4) (ht : ∀ t ∈ ts, t.length = d) (ho : ∀ x ∈ out, x.length = d) (hn : ts.length ≤ 64) (hl : out.length ≤ 64) : ref_TimesJoins (ts, out, ()) = some (joins ts out, ()) := by
  have h := loopM_fold' (f := ref_TimesJoins_l2 (ts, out, ())) ts.length (fun i => joins (ts.take i) out) (.inl (joins ts out, ())) (fun i hi => by
    have hlen := joins_length (ts.take i) out
    rw [List.length_take] at hlen
    have hm : min i ts.length * out.length ≤ 64 * 64 := Nat.mul_le_mul (by omega) hl
    unfold ref_TimesJoins_l2
    rw [joins_take hi]
    simp only [dcT (show (i : Int) < (ts.length : Int) by omega), cond_true, getI_nat, List.getElem?_eq_getElem hi, Option.bind_some, wrapS (show i < 9223372036854775807 by omega)]
    rw [ref_joins_l1 hd (ht _ (List.getElem_mem hi)) ho hl (by omega)]
    simp only [Option.bind_some, Sum.elim_inl]) (by
    unfold ref_TimesJoins_l2
    simp only [dcF (show ¬ (ts.length : Int) < (ts.length : Int) by omega), cond_false, List.take_length])
  have h' : loopM (ref_TimesJoins_l2 (ts, out, ())) (([] : List (List Int)), (0 : Int), ()) = _ := h
  unfold ref_TimesJoins
  rw [h']; rfl
theorem ref_all_eq {a b : List (List Int)} (ha : a.length ≤ 100000) (hb : b.length ≤ 100000) : ref_TimesAll (a, b, ()) = some (a ++ b, ()) := by
  have h1 := loopM_fold' (f := ref_TimesAll_l1 (a, b, ())) a.length (fun i => a.take i) (.inl (a, ())) (fun i hi => by
    have hlen : (a.take i).length = i := by rw [List.length_take]; omega
    unfold ref_TimesAll_l1
    rw [List.take_succ_eq_append_getElem hi]
    simp only [dcT (show (i : Int) < (a.length : Int) by omega), cond_true, getI_nat, List.getElem?_eq_getElem hi, Option.bind_some, wrapS (show i < 9223372036854775807 by omega), show ∀ x : List Int, ([x] : List (List Int)).length = 1 from fun _ => rfl, hlen, room24' (show i + 1 ≤ 4000000 by omega), Bool.and_true]) (by
    unfold ref_TimesAll_l1
    simp only [dcF (show ¬ (a.length : Int) < (a.length : Int) by omega), cond_false, List.take_length])
  have h2 := loopM_fold' (f := ref_TimesAll_l2 (a, b, ())) b.length (fun i => a ++ b.take i) (.inl (a ++ b, ())) (fun i hi => by
    have hlen : (a ++ b.take i).length = a.length + i := by rw [List.length_append, List.length_take]; omega
    unfold ref_TimesAll_l2
    rw [List.take_succ_eq_append_getElem hi, ← List.append_assoc]
    simp only [dcT (show (i : Int) < (b.length : Int) by omega), cond_true, getI_nat, List.getElem?_eq_getElem hi, Option.bind_some, wrapS (show i < 9223372036854775807 by omega), show ∀ x : List Int, ([x] : List (List Int)).length = 1 from fun _ => rfl, hlen, room24' (show a.length + i + 1 ≤ 4000000 by omega), Bool.and_true]) (by
    unfold ref_TimesAll_l2
    simp only [dcF (show ¬ (b.length : Int) < (b.length : Int) by omega), cond_false, List.take_length])
  have h1' : loopM (ref_TimesAll_l1 (a, b, ())) (([] : List (List Int)), (0 : Int), ()) = _ := h1
  have h2' : loopM (ref_TimesAll_l2 (a, b, ())) (a, (0 : Int), ()) = some (.inl (a ++ b, ())) := by
    have := h2
    simp only [List.take_zero, List.append_nil] at this
    exact this
  unfold ref_TimesAll
  rw [h1']
  simp only [Option.bind_some, Sum.elim_inl]
  rw [h2']; rfl
end

end Go.Proofs.Try
