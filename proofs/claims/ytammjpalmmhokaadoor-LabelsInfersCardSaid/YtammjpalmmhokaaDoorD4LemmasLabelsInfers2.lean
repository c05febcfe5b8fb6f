/- Lemmas on functions of the program, by name. -/
import Derived.Test.YtammjpalmmhokaaDoorD4Funs
import Derived.Test.YtammjpalmmhokaaDoorAbsSums
import Derived.Test.YtammjpalmmhokaaDoorD4LemmasLabelsInfers1
namespace Go.Proofs.Tryd
section
open Go Go.Abs

end

section
open Go Go.Abs


/-- May an element come next? -/
def ready (n : Nat) (ws : List Nat) (l : List Nat) (i : Nat) : Bool := !l.contains i && (List.range n).all fun j => !under ws j i || l.contains j
def nextOf (n : Nat) (ws : List Nat) (l : List Nat) : Option Nat := (List.range n).find? (ready n ws l)
/-- The elements, each behind those below it. -/
def sortTo (n : Nat) (ws : List Nat) : Nat → List Nat
  | 0 => []
  | k + 1 => sortTo n ws k ++ [(nextOf n ws (sortTo n ws k)).getD 0]

theorem under_iff {ws : List Nat} {i j : Nat} : under ws i j = true ↔ i ≠ j ∧ below ws i j = true := by
  unfold under; rw [Bool.and_eq_true, decide_eq_true_eq]

theorem under_trans {n : Nat} {ws : List Nat} (o : IsOrder n ws) {i j k : Nat} (hi : i < n) (hj : j < n) (hk : k < n) (h1 : under ws i j = true) (h2 : under ws j k = true) : under ws i k = true := by
  rw [under_iff] at *
  refine ⟨fun e => ?_, o.trans i j k hi hj hk h1.2 h2.2⟩
  subst e
  have := o.anti i j hi hj h1.1 h1.2
  rw [h2.2] at this; cases this

theorem range_le : ∀ {n : Nat} {l : List Nat}, (∀ i, i < n → i ∈ l) → n ≤ l.length
  | 0, _, _ => Nat.zero_le _
  | n + 1, l, h => by
    have h1 : n ≤ (l.erase n).length := range_le fun i hi => (List.mem_erase_of_ne (by omega)).2 (h i (by omega))
    rw [List.length_erase_of_mem (h n (by omega))] at h1
    have : 0 < l.length := List.length_pos_of_mem (h n (by omega))
    omega

/-- In a set of elements that is not empty, one has none of the others below it. -/
theorem least_in {n : Nat} {ws : List Nat} (o : IsOrder n ws) (p : Nat → Bool) : ∀ (m i : Nat), i < n → p i = true → (List.range n).countP (fun j => under ws j i) = m → ∃ i, i < n ∧ p i = true ∧ ∀ j, j < n → under ws j i = true → p j = false := by
  intro m
  induction m using Nat.strongRecOn with
  | _ m ih =>
    intro i hi hp hm
    by_cases h : ∃ j, j < n ∧ under ws j i = true ∧ p j = true
    · obtain ⟨j, hj, hu, hpj⟩ := h
      refine ih _ ?_ j hj hpj rfl
      rw [← hm]
      refine countP_lt (fun x hx hxj => under_trans o (List.mem_range.1 hx) hj hi hxj hu) ⟨j, List.mem_range.2 hj, hu, ?_⟩
      unfold under; simp
    · refine ⟨i, hi, hp, fun j hj hu => ?_⟩
      cases hpj : p j
      · rfl
      · exact absurd ⟨j, hj, hu, hpj⟩ h

theorem next_some {n : Nat} {ws : List Nat} (o : IsOrder n ws) {l : List Nat} (hl : l.length < n) : ∃ i, nextOf n ws l = some i := by
  have h1 : ∃ i, i < n ∧ i ∉ l := Classical.byContradiction fun h => by
    have := range_le (n := n) (l := l) fun i hi => Classical.byContradiction fun h2 => h ⟨i, hi, h2⟩
    omega
  obtain ⟨i, hi, hm⟩ := h1
  obtain ⟨i, hi, hp, hr⟩ := least_in o (fun i => !l.contains i) _ i hi (by simpa using hm) rfl
  cases h : nextOf n ws l with
  | some j => exact ⟨j, rfl⟩
  | none =>
    have := List.find?_eq_none.1 h i (List.mem_range.2 hi)
    refine absurd ?_ this
    unfold ready
    rw [hp, Bool.true_and, List.all_eq_true]
    intro j hj
    cases hu : under ws j i
    · rfl
    · have := hr j (List.mem_range.1 hj) hu
      simpa using this

theorem sortTo_length (n : Nat) (ws : List Nat) : ∀ k, (sortTo n ws k).length = k
  | 0 => rfl
  | k + 1 => by rw [sortTo, List.length_append, sortTo_length n ws k]; rfl
theorem next_ready {n : Nat} {ws l : List Nat} {i : Nat} (h : nextOf n ws l = some i) : i < n ∧ l.contains i = false ∧ ∀ j, j < n → under ws j i = true → l.contains j = true := by
  have h1 := List.find?_some h
  have h2 := List.mem_range.1 (List.mem_of_find?_eq_some h)
  unfold ready at h1
  rw [Bool.and_eq_true, Bool.not_eq_true', List.all_eq_true] at h1
  refine ⟨h2, h1.1, fun j hj hu => ?_⟩
  have := h1.2 j (List.mem_range.2 hj)
  rw [hu] at this
  simpa using this
theorem sortTo_lt {n : Nat} {ws : List Nat} (o : IsOrder n ws) : ∀ k, k ≤ n → ∀ i ∈ sortTo n ws k, i < n
  | 0, _, i, h => by cases h
  | k + 1, hk, i, h => by
    rw [sortTo, List.mem_append] at h
    rcases h with h | h
    · exact sortTo_lt o k (by omega) i h
    · obtain ⟨j, hj⟩ := next_some o (l := sortTo n ws k) (by rw [sortTo_length]; omega)
      rw [hj] at h
      have : i = j := by simpa using h
      rw [this]; exact (next_ready hj).1

theorem findSome_if {β : Type} (p : Nat → Bool) (b : Nat → β) : ∀ (l : List Nat), (l.findSome? fun r => cond (p r) (some (b r)) none) = (l.find? p).map b
  | [] => rfl
  | a :: l => by
    rw [List.findSome?_cons, List.find?_cons, findSome_if p b l]
    cases p a <;> rfl
theorem findSome_congr {β : Type} {f g : Nat → Option β} : ∀ {l : List Nat}, (∀ x ∈ l, f x = g x) → l.findSome? f = l.findSome? g
  | [], _ => rfl
  | a :: l, h => by
    rw [List.findSome?_cons, List.findSome?_cons, h a (List.mem_cons_self ..), findSome_congr fun x hx => h x (List.mem_cons_of_mem _ hx)]

/-- A list's numbers, as a word. -/
def memW (n : Nat) (l : List Nat) : Nat := wordOf n fun i => l.contains i
theorem memW_bit (n : Nat) (l : List Nat) (i : Nat) : (memW n l).testBit i = (decide (i < n) && l.contains i) := wordOf_bit ..
theorem memW_snoc {n i : Nat} {l : List Nat} (hi : i < n) : memW n l ||| 2 ^ i = memW n (l ++ [i]) := by
  apply Nat.eq_of_testBit_eq
  intro b
  rw [Nat.testBit_or, memW_bit, memW_bit, Nat.testBit_two_pow, Bool.eq_iff_iff]
  simp only [Bool.or_eq_true, Bool.and_eq_true, decide_eq_true_eq, List.contains_iff_mem, List.mem_append, List.mem_singleton]
  constructor
  · rintro (⟨h1, h2⟩ | rfl)
    · exact ⟨h1, .inl h2⟩
    · exact ⟨hi, .inr rfl⟩
  · rintro ⟨h1, h2 | rfl⟩
    · exact .inl ⟨h1, h2⟩
    · exact .inr rfl
theorem ready_word {n : Nat} {ws l : List Nat} (o : IsOrder n ws) {i : Nat} (hi : i < n) : decide (dif ((downW n ws).getD i 0) (memW n l) = 2 ^ i) = ready n ws l i := by
  rw [Bool.eq_iff_iff, decide_eq_true_eq]
  unfold ready
  rw [Bool.and_eq_true, Bool.not_eq_true', List.all_eq_true]
  have hb : ∀ j, (dif ((downW n ws).getD i 0) (memW n l)).testBit j = (decide (j < n) && (below ws j i && !l.contains j)) := fun j => by
    rw [dif_bit, downW_bit hi, memW_bit]
    cases decide (j < n) <;> simp
  constructor
  · intro h
    have h1 : ∀ j, (decide (j < n) && (below ws j i && !l.contains j)) = decide (i = j) := fun j => by rw [← hb, h, Nat.testBit_two_pow]
    refine ⟨?_, fun j hj => ?_⟩
    · have := h1 i
      rw [decide_eq_true hi, o.refl i hi, decide_eq_true rfl] at this
      simpa using this
    · have hj := List.mem_range.1 hj
      cases hu : under ws j i
      · rfl
      · obtain ⟨hne, hbl⟩ := under_iff.1 hu
        have := h1 j
        rw [decide_eq_true hj, hbl, decide_eq_false (Ne.symm hne)] at this
        simpa using this
  · rintro ⟨h1, h2⟩
    apply Nat.eq_of_testBit_eq
    intro j
    rw [hb, Nat.testBit_two_pow]
    by_cases e : i = j
    · subst e
      simp only [hi, decide_true, o.refl i hi, h1]; rfl
    · rw [decide_eq_false e]
      by_cases hj : j < n
      · have := h2 j (List.mem_range.2 hj)
        cases hbl : below ws j i
        · simp
        · rw [under_iff.2 ⟨Ne.symm e, hbl⟩] at this
          have h3 : l.contains j = true := by simpa using this
          rw [h3]; simp
      · simp [hj]
theorem cl_snoc (l : List Nat) (a : Nat) : cl l ++ [(a : Int)] = cl (l ++ [a]) := by simp [cl]

/-- From above: the least that may come next, if one from k on may. -/
def bestFrom (n : Nat) (ws l : List Nat) (k : Nat) : Int := match (List.range' (n - k) k).find? (ready n ws l) with
  | some i => (i : Int)
  | none => -1
end

section
open Go Go.Abs


theorem ordc_ok {n : Nat} {ws : List Nat} (hl : ws.length = n) (hn : n ≤ 16) (hin : Inside n ws) (o : IsOrder n ws) : ordc (n : Int) ws = 0 := by
  unfold ordc
  rw [if_neg (show ¬ (n : Int) < 0 by omega), if_neg (show ¬ (n : Int) > 16 by omega), if_neg (show ¬ (ws.length : Int) ≠ (n : Int) by omega), if_neg (show ¬ ¬ Inside (n : Int).toNat ws from fun h => h hin), if_pos (show IsOrder (n : Int).toNat ws from o)]

theorem get_clt {n i : Nat} {g : Nat → Nat} (h : i < n) : (cl (tab n g))[i]? = some ((g i : Nat) : Int) := by rw [cl_get, tab_get _ h]; rfl
/-- The greatest of the first n. -/
def maxN : Nat → (Nat → Nat) → Nat
  | 0, _ => 0
  | n + 1, f => max (maxN n f) (f n)
theorem maxN_congr {f g : Nat → Nat} : ∀ {n : Nat}, (∀ i, i < n → f i = g i) → maxN n f = maxN n g
  | 0, _ => rfl
  | n + 1, h => by rw [maxN, maxN, maxN_congr (n := n) (fun i hi => h i (by omega)), h n (by omega)]
theorem le_maxN {f : Nat → Nat} : ∀ {n i : Nat}, i < n → f i ≤ maxN n f
  | 0, _, h => by omega
  | n + 1, i, h => by
    rw [maxN]
    by_cases e : i = n
    · subst e; exact Nat.le_max_right _ _
    · exact Nat.le_trans (le_maxN (by omega)) (Nat.le_max_left _ _)
theorem maxN_le {f : Nat → Nat} {b : Nat} : ∀ {n : Nat}, (∀ i, i < n → f i ≤ b) → maxN n f ≤ b
  | 0, _ => Nat.zero_le _
  | n + 1, h => by
    rw [maxN]
    exact Nat.max_le.2 ⟨maxN_le fun i hi => h i (by omega), h n (by omega)⟩
theorem maxN_at {f : Nat → Nat} : ∀ {n : Nat}, maxN n f ≠ 0 → ∃ i, i < n ∧ f i = maxN n f
  | 0, h => absurd rfl h
  | n + 1, h => by
    rw [maxN] at h ⊢
    by_cases e : maxN n f ≤ f n
    · exact ⟨n, by omega, by omega⟩
    · obtain ⟨i, hi, h1⟩ := maxN_at (f := f) (n := n) (by omega)
      exact ⟨i, by omega, by omega⟩

theorem cntB_mono {p q : Nat → Bool} : ∀ {n : Nat}, (∀ i, i < n → p i = true → q i = true) → cntB n p ≤ cntB n q
  | 0, _ => Nat.le_refl 0
  | n + 1, h => by
    have h1 := cntB_mono (p := p) (q := q) (n := n) fun i hi => h i (by omega)
    have h2 := h n (by omega)
    rw [cntB, cntB]
    cases hp : p n
    · cases q n <;> simp <;> omega
    · rw [h2 hp]; simp; omega
theorem cntB_lt {p q : Nat → Bool} : ∀ {n : Nat}, (∀ i, i < n → p i = true → q i = true) → (∃ i, i < n ∧ q i = true ∧ p i = false) → cntB n p < cntB n q
  | 0, _, ⟨i, hi, _⟩ => by omega
  | n + 1, h, ⟨i, hi, h1, h2⟩ => by
    have hm := cntB_mono (p := p) (q := q) (n := n) fun i hi => h i (by omega)
    rw [cntB, cntB]
    by_cases e : i = n
    · subst e; rw [h1, h2]; simp; omega
    · have hlt := cntB_lt (p := p) (q := q) (n := n) (fun i hi => h i (by omega)) ⟨i, by omega, h1, h2⟩
      cases hp : p n
      · cases q n <;> simp <;> omega
      · rw [h n (by omega) hp]; simp; omega

/-- How high one can climb from an element, in k steps at most; at all. -/
def hgt (n : Nat) (ws : List Nat) : Nat → Nat → Nat
  | 0, _ => 0
  | k + 1, i => maxN n fun j => if under ws i j = true then hgt n ws k j + 1 else 0
def upC (n : Nat) (ws : List Nat) (i : Nat) : Nat := hgt n ws n i
theorem hgt_le (n : Nat) (ws : List Nat) : ∀ k i, hgt n ws k i ≤ k
  | 0, _ => Nat.le_refl 0
  | k + 1, i => by
    rw [hgt]
    refine maxN_le fun j _ => ?_
    split
    · have := hgt_le n ws k j; omega
    · omega
theorem upC_le (n : Nat) (ws : List Nat) (i : Nat) : upC n ws i ≤ n := hgt_le n ws n i
theorem cnt_lt {n : Nat} {ws : List Nat} (o : IsOrder n ws) {i j : Nat} (hi : i < n) (hj : j < n) (h : under ws i j = true) : cntB n (under ws j) < cntB n (under ws i) :=
  cntB_lt (fun k hk hjk => under_trans o hi hj hk h hjk) ⟨j, hj, h, by unfold under; simp⟩
theorem hgt_stop {n : Nat} {ws : List Nat} (o : IsOrder n ws) : ∀ m i, i < n → cntB n (under ws i) ≤ m → hgt n ws m i = hgt n ws (m + 1) i
  | 0, i, hi, h => by
    rw [hgt, hgt]
    symm
    refine Nat.le_zero.1 (maxN_le fun j hj => ?_)
    split
    · rename_i hu
      have := cnt_lt o hi hj hu
      omega
    · exact Nat.le_refl 0
  | m + 1, i, hi, h => by
    rw [hgt, hgt]
    refine maxN_congr fun j hj => ?_
    split
    · rename_i hu
      have := cnt_lt o hi hj hu
      rw [hgt_stop o m j hj (by omega)]
    · rfl
theorem upC_fix {n : Nat} {ws : List Nat} (o : IsOrder n ws) {i : Nat} (hi : i < n) : upC n ws i = maxN n fun j => if under ws i j = true then upC n ws j + 1 else 0 := by
  have := hgt_stop o n i hi (cntB_le _ n)
  rw [hgt] at this
  exact this
theorem upC_step {n : Nat} {ws : List Nat} (o : IsOrder n ws) {i j : Nat} (hi : i < n) (hj : j < n) (h : under ws i j = true) : upC n ws j + 1 ≤ upC n ws i := by
  rw [upC_fix o hi]
  have := le_maxN (f := fun j => if under ws i j = true then upC n ws j + 1 else 0) hj
  simpa [h] using this
theorem upC_next {n : Nat} {ws : List Nat} (o : IsOrder n ws) {i m : Nat} (hi : i < n) (h : upC n ws i = m + 1) : ∃ j, j < n ∧ under ws i j = true ∧ upC n ws j = m := by
  rw [upC_fix o hi] at h
  obtain ⟨j, hj, h1⟩ := maxN_at (f := fun j => if under ws i j = true then upC n ws j + 1 else 0) (n := n) (by omega)
  by_cases hu : under ws i j = true
  · rw [if_pos hu] at h1; exact ⟨j, hj, hu, by omega⟩
  · rw [if_neg hu] at h1; omega

/-! The sorted list. -/
theorem nodup_inj {l : List Nat} (h : l.Nodup) {i j : Nat} (hi : i < l.length) (hj : j < l.length) (e : l[i] = l[j]) : i = j := by
  rw [List.nodup_iff_pairwise_ne, List.pairwise_iff_getElem] at h
  by_cases h1 : i < j
  · exact absurd e (h i j hi hj h1)
  · by_cases h2 : j < i
    · exact absurd e.symm (h j i hj hi h2)
    · omega
theorem nodup_le : ∀ {n : Nat} {l : List Nat}, l.Nodup → (∀ i ∈ l, i < n) → l.length ≤ n
  | 0, l, _, h => by
    cases l with
    | nil => exact Nat.le_refl 0
    | cons a l => exact absurd (h a (List.mem_cons_self ..)) (by omega)
  | n + 1, l, hd, h => by
    have h1 : (l.erase n).length ≤ n := nodup_le (hd.erase n) fun i hi => by
      have h2 := h i (List.mem_of_mem_erase hi)
      have h3 : i ≠ n := fun e => by subst e; exact absurd hi (hd.not_mem_erase)
      omega
    rw [List.length_erase] at h1
    split at h1 <;> omega

theorem sortTo_nodup {n : Nat} {ws : List Nat} (o : IsOrder n ws) : ∀ k, k ≤ n → (sortTo n ws k).Nodup
  | 0, _ => List.nodup_nil
  | k + 1, hk => by
    have ih := sortTo_nodup o k (by omega)
    obtain ⟨j, hj⟩ := next_some o (l := sortTo n ws k) (by rw [sortTo_length]; omega)
    have hc := (next_ready hj).2.1
    rw [sortTo, hj]
    refine List.nodup_append.2 ⟨ih, by simp, fun a ha b hb => ?_⟩
    have : b = j := by simpa using hb
    subst this
    intro e
    subst e
    rw [← List.contains_iff_mem, hc] at ha
    cases ha
theorem sortTo_all {n : Nat} {ws : List Nat} (o : IsOrder n ws) {i : Nat} (hi : i < n) : i ∈ sortTo n ws n := Classical.byContradiction fun h => by
  have h1 : (sortTo n ws n ++ [i]).Nodup := List.nodup_append.2 ⟨sortTo_nodup o n (Nat.le_refl n), by simp, fun a ha b hb e => by
    have : b = i := by simpa using hb
    subst this; subst e; exact h ha⟩
  have h2 := nodup_le (n := n) h1 fun x hx => by
    rcases List.mem_append.1 hx with hx | hx
    · exact sortTo_lt o n (Nat.le_refl n) x hx
    · have : x = i := by simpa using hx
      omega
  rw [List.length_append, sortTo_length, List.length_singleton] at h2
  omega
theorem sortTo_take (n : Nat) (ws : List Nat) {p : Nat} : ∀ k, p ≤ k → (sortTo n ws k).take p = sortTo n ws p
  | 0, h => by have : p = 0 := by omega
               subst this; rfl
  | k + 1, h => by
    by_cases e : p = k + 1
    · subst e; rw [List.take_of_length_le (by rw [sortTo_length]; omega)]
    · rw [sortTo, List.take_append_of_le_length (by rw [sortTo_length]; omega), sortTo_take n ws k (by omega)]
theorem sortTo_get {n : Nat} {ws : List Nat} (o : IsOrder n ws) {p : Nat} (hp : p < n) : nextOf n ws (sortTo n ws p) = some ((sortTo n ws n).getD p 0) := by
  obtain ⟨j, hj⟩ := next_some o (l := sortTo n ws p) (by rw [sortTo_length]; omega)
  have h1 := sortTo_take n ws (p := p + 1) n (by omega)
  have h2 : (sortTo n ws n)[p]? = some j := by
    have : ((sortTo n ws n).take (p + 1))[p]? = (sortTo n ws n)[p]? := List.getElem?_take_of_lt (by omega)
    rw [← this, h1, sortTo, hj, List.getElem?_append_right (by rw [sortTo_length]; omega), sortTo_length, Nat.sub_self]
    rfl
  rw [hj, List.getD_eq_getElem?_getD, h2]; rfl
theorem sort_pos {n : Nat} {ws : List Nat} (o : IsOrder n ws) {p : Nat} (hp : p < n) : (sortTo n ws n).drop p = (sortTo n ws n).getD p 0 :: (sortTo n ws n).drop (p + 1) := by
  have hl : p < (sortTo n ws n).length := by rw [sortTo_length]; exact hp
  rw [List.drop_eq_getElem_cons hl, List.getD_eq_getElem?_getD, List.getElem?_eq_getElem hl]; rfl
theorem sort_notin {n : Nat} {ws : List Nat} (o : IsOrder n ws) {p : Nat} (hp : p < n) : (sortTo n ws n).getD p 0 ∉ (sortTo n ws n).drop (p + 1) := by
  have h := List.Nodup.sublist (List.drop_sublist p _) (sortTo_nodup o n (Nat.le_refl n))
  rw [sort_pos o hp] at h
  exact (List.nodup_cons.1 h).1
/-- What is above the element at a place stands behind it. -/
theorem sort_above {n : Nat} {ws : List Nat} (o : IsOrder n ws) {p j : Nat} (hp : p < n) (hj : j < n) (h : under ws ((sortTo n ws n).getD p 0) j = true) : j ∈ (sortTo n ws n).drop (p + 1) := by
  have hm := sortTo_all o hj
  rw [← List.take_append_drop (p + 1) (sortTo n ws n), List.mem_append] at hm
  rcases hm with hm | hm
  · exfalso
    obtain ⟨q, hq, e⟩ := List.getElem_of_mem hm
    rw [List.length_take, sortTo_length] at hq
    have hq' : q < n := by omega
    have e1 : (sortTo n ws n).getD q 0 = j := by
      rw [List.getElem_take] at e
      rw [List.getD_eq_getElem?_getD, List.getElem?_eq_getElem (by rw [sortTo_length]; omega), e]; rfl
    have hr := (next_ready (sortTo_get o hq')).2.2 _ (sortTo_lt o n (Nat.le_refl n) _ (List.mem_of_getElem? (getD_get (d := 0) (by rw [sortTo_length]; exact hp)))) (by rw [e1]; exact h)
    rw [List.contains_iff_mem, ← sortTo_take n ws n (by omega : q ≤ n)] at hr
    have h2 := List.Nodup.sublist (List.take_sublist (p + 1) _) (sortTo_nodup o n (Nat.le_refl n))
    obtain ⟨t, ht, e2⟩ := List.getElem_of_mem hr
    rw [List.length_take, sortTo_length] at ht
    rw [List.getElem_take] at e2
    have hps : (sortTo n ws n)[p]'(by rw [sortTo_length]; exact hp) = (sortTo n ws n).getD p 0 := by
      rw [List.getD_eq_getElem?_getD, List.getElem?_eq_getElem (by rw [sortTo_length]; exact hp)]; rfl
    have := nodup_inj (sortTo_nodup o n (Nat.le_refl n)) (i := t) (j := p) (by rw [sortTo_length]; omega) (by rw [sortTo_length]; exact hp) (e2.trans hps.symm)
    omega
  · exact hm
end

section
open Go Go.Abs


/-- What comes of an element by a map, again and again. -/
def itr (fs : List Nat) (x : Nat) : Nat → Nat
  | 0 => x
  | k + 1 => fs.getD (itr fs x k) 0
/-- It has settled at step K, and not before. -/
def Settles (fs : List Nat) (x K : Nat) : Prop := fs.getD (itr fs x K) 0 = itr fs x K ∧ ∀ j, j < K → fs.getD (itr fs x j) 0 ≠ itr fs x j
theorem settles_ex {fs : List Nat} {x B : Nat} (μ : Nat → Nat) (hB : μ x ≤ B) (hdec : ∀ k, fs.getD (itr fs x k) 0 ≠ itr fs x k → μ (itr fs x (k + 1)) + 1 ≤ μ (itr fs x k)) : ∃ K, K ≤ B ∧ Settles fs x K := by
  have key : ∀ m k, μ (itr fs x k) ≤ m → (∀ j, j < k → fs.getD (itr fs x j) 0 ≠ itr fs x j) → k + μ (itr fs x k) ≤ B → ∃ K, K ≤ B ∧ Settles fs x K := by
    intro m
    induction m with
    | zero =>
      intro k hm hj hb
      by_cases h : fs.getD (itr fs x k) 0 = itr fs x k
      · exact ⟨k, by omega, h, hj⟩
      · have := hdec k h; omega
    | succ m ih =>
      intro k hm hj hb
      by_cases h : fs.getD (itr fs x k) 0 = itr fs x k
      · exact ⟨k, by omega, h, hj⟩
      · have := hdec k h
        refine ih (k + 1) (by omega) (fun j hjk => ?_) (by omega)
        by_cases e : j = k
        · subst e; exact h
        · exact hj j (by omega)
  exact key (μ x) 0 (Nat.le_refl _) (fun j hj => by omega) (by simpa [itr] using hB)
theorem itr_lt {n : Nat} {fs : List Nat} (h : ∀ i, i < n → fs.getD i 0 < n) {x : Nat} (hx : x < n) : ∀ k, itr fs x k < n
  | 0 => hx
  | k + 1 => h _ (itr_lt h hx k)
/-- From the least element on, it settles soon. -/
theorem settles_up {n : Nat} {rs fs : List Nat} (o : IsOrder n rs) (h : ∀ i, i < n → fs.getD i 0 < n) (hm : ∀ a b, a < n → b < n → below rs a b = true → below rs (fs.getD a 0) (fs.getD b 0) = true) {x : Nat} (hx : x < n) (hl : ∀ j, j < n → below rs x j = true) : ∃ K, K ≤ n ∧ Settles fs x K := by
  have hup : ∀ k, below rs (itr fs x k) (itr fs x (k + 1)) = true := fun k => by
    induction k with
    | zero => exact hl _ (itr_lt h hx 1)
    | succ k ih => exact hm _ _ (itr_lt h hx k) (itr_lt h hx (k + 1)) ih
  refine settles_ex (upC n rs) (upC_le n rs x) fun k hne => ?_
  exact upC_step o (itr_lt h hx k) (itr_lt h hx (k + 1)) (under_iff.2 ⟨Ne.symm hne, hup k⟩)
theorem mono_of {n : Nat} {ws fs : List Nat} (h : MonoB n ws fs = true) : ∀ a b, a < n → b < n → below ws a b = true → below ws (fs.getD a 0) (fs.getD b 0) = true := fun a b ha hb hab => by
  unfold MonoB at h
  have := List.all_eq_true.1 (List.all_eq_true.1 h a (List.mem_range.2 ha)) b (List.mem_range.2 hb)
  rw [hab] at this
  simpa using this

/-- What both ends answer. -/
noncomputable def endc (N : Int) (ws : List Nat) (f : List Int) : Int := if latc N ws = 0 then monoc N.toNat ws f else latc N ws
theorem monoc_zero {n : Nat} {ws : List Nat} {f : List Int} (h : monoc n ws f = 0) : IntoB n n f = true ∧ MonoB n ws (f.map Int.toNat) = true := by
  unfold monoc at h
  cases h1 : IntoB n n f
  · rw [h1] at h; cases h
  · cases h2 : MonoB n ws (f.map Int.toNat)
    · rw [h1, h2] at h; cases h
    · exact ⟨rfl, rfl⟩
/-- The least and the greatest element of a lattice. -/
theorem lat_ends {n : Nat} {ws : List Nat} (o : IsOrder n ws) (h0 : 0 < n) (hl : latB n ws = true) : (topTo n (downW n ws) n < n ∧ ∀ j, j < n → below ws (topTo n (downW n ws) n) j = true) ∧ topTo n ws n < n ∧ ∀ j, j < n → below (downW n ws) (topTo n ws n) j = true := by
  have hlat := latB_iff.1 hl
  obtain ⟨t1, t2⟩ := topTo_spec o (fun a b ha hb => (hlat a b ha hb).1) h0 n (Nat.le_refl n)
  obtain ⟨b1, b2⟩ := topTo_spec (order_down o) (fun a b ha hb => (hlat a b ha hb).2) h0 n (Nat.le_refl n)
  exact ⟨⟨b1, fun j hj => by rw [← below_down hj b1]; exact b2 j hj⟩, t1, fun j hj => by rw [below_down t1 hj]; exact t2 j hj⟩
end

section
open Go Go.Abs


theorem loopM_while {σ β : Type} {f : σ → Option (σ ⊕ β)} (I : σ → Prop) (μ : σ → Nat) (Q : β → Prop) (h : ∀ s, I s → (∃ s', f s = some (.inl s') ∧ I s' ∧ μ s' < μ s) ∨ ∃ b, f s = some (.inr b) ∧ Q b) : ∀ s, I s → ∃ b, loopM f s = some b ∧ Q b := by
  have key : ∀ m s, μ s = m → I s → ∃ b, loopM f s = some b ∧ Q b := by
    intro m
    induction m using Nat.strongRecOn with
    | _ m ih =>
      intro s hm hs
      rcases h s hs with ⟨s', h1, h2, h3⟩ | ⟨b, h1, h2⟩
      · rw [loopM_inl h1]; exact ih (μ s') (by omega) s' rfl h2
      · exact ⟨b, loopM_inr h1, h2⟩
  exact fun s hs => key _ s rfl hs

/-- Joins and meets of a lattice. -/
def orL (n : Nat) (ws : List Nat) (a b : Nat) : Nat := (lub n ws a b).getD 0
def andL (n : Nat) (ws : List Nat) (a b : Nat) : Nat := (lub n (downW n ws) a b).getD 0
theorem orL_tab {n : Nat} {ws : List Nat} (h : latB n ws = true) {a b : Nat} (ha : a < n) (hb : b < n) : joinT n ws a b = ((orL n ws a b : Nat) : Int) ∧ orL n ws a b < n := by
  obtain ⟨x, hx⟩ := (latB_iff.1 h a b ha hb).1
  unfold joinT orL; rw [hx]; exact ⟨rfl, (lub_spec hx).1⟩
theorem andL_tab {n : Nat} {ws : List Nat} (h : latB n ws = true) {a b : Nat} (ha : a < n) (hb : b < n) : meetT n ws a b = ((andL n ws a b : Nat) : Int) ∧ andL n ws a b < n := by
  obtain ⟨x, hx⟩ := (latB_iff.1 h a b ha hb).2
  unfold meetT andL; rw [hx]; exact ⟨rfl, (lub_spec hx).1⟩

/-- Sets of elements that have joins and meets of their own. -/
def ClosedS (n : Nat) (ws : List Nat) (S : Nat → Bool) : Prop := ∀ a b, a < n → b < n → S a = true → S b = true → S (orL n ws a b) = true ∧ S (andL n ws a b) = true
/-- What comes of some elements. -/
structure Makes (n : Nat) (ws : List Nat) (gs : Nat → Bool) (S : Nat → Bool) : Prop where
  has : ∀ i, i < n → gs i = true → S i = true
  closed : ClosedS n ws S
  least : ∀ T, ClosedS n ws T → (∀ i, i < n → gs i = true → T i = true) → ∀ i, i < n → S i = true → T i = true
theorem makes_one {n : Nat} {ws : List Nat} {gs S T : Nat → Bool} (h1 : Makes n ws gs S) (h2 : Makes n ws gs T) : ∀ i, i < n → S i = T i := fun i hi => by
  rw [Bool.eq_iff_iff]
  exact ⟨h1.least T h2.closed h2.has i hi, h2.least S h1.closed h1.has i hi⟩

/-! The program. -/
def inW (n : Nat) (ws : List Nat) (was a : Nat) : Nat → Nat → Nat
  | 0, w => w
  | k + 1, w => cond (was.testBit k) (inW n ws was a k w ||| (2 ^ orL n ws a k ||| 2 ^ andL n ws a k)) (inW n ws was a k w)
def outW (n : Nat) (ws : List Nat) (was : Nat) : Nat → Nat → Nat
  | 0, w => w
  | k + 1, w => cond (was.testBit k) (inW n ws was k n (outW n ws was k w)) (outW n ws was k w)
theorem inW_bit {n : Nat} {ws : List Nat} {was a w i : Nat} : ∀ k, (inW n ws was a k w).testBit i = true ↔ w.testBit i = true ∨ ∃ b, b < k ∧ was.testBit b = true ∧ (i = orL n ws a b ∨ i = andL n ws a b)
  | 0 => ⟨fun h => .inl h, fun h => by rcases h with h | ⟨b, hb, _⟩; exact h; omega⟩
  | k + 1 => by
    have ih := inW_bit (n := n) (ws := ws) (was := was) (a := a) (w := w) (i := i) k
    rw [inW]
    cases hk : was.testBit k
    · rw [cond_false, ih]
      constructor
      · rintro (h | ⟨b, hb, h⟩)
        · exact .inl h
        · exact .inr ⟨b, by omega, h⟩
      · rintro (h | ⟨b, hb, h1, h2⟩)
        · exact .inl h
        · by_cases e : b = k
          · subst e; rw [hk] at h1; cases h1
          · exact .inr ⟨b, by omega, h1, h2⟩
    · rw [cond_true, Nat.testBit_or, Nat.testBit_or, Nat.testBit_two_pow, Nat.testBit_two_pow]
      simp only [Bool.or_eq_true, decide_eq_true_eq]
      rw [ih]
      constructor
      · rintro ((h | ⟨b, hb, h⟩) | (h | h))
        · exact .inl h
        · exact .inr ⟨b, by omega, h⟩
        · exact .inr ⟨k, by omega, hk, .inl h.symm⟩
        · exact .inr ⟨k, by omega, hk, .inr h.symm⟩
      · rintro (h | ⟨b, hb, h1, h2⟩)
        · exact .inl (.inl h)
        · by_cases e : b = k
          · subst e
            rcases h2 with h2 | h2
            · exact .inr (.inl h2.symm)
            · exact .inr (.inr h2.symm)
          · exact .inl (.inr ⟨b, by omega, h1, h2⟩)
theorem outW_bit {n : Nat} {ws : List Nat} {was w i : Nat} : ∀ k, (outW n ws was k w).testBit i = true ↔ w.testBit i = true ∨ ∃ a b, a < k ∧ b < n ∧ was.testBit a = true ∧ was.testBit b = true ∧ (i = orL n ws a b ∨ i = andL n ws a b)
  | 0 => ⟨fun h => .inl h, fun h => by rcases h with h | ⟨a, b, ha, _⟩; exact h; omega⟩
  | k + 1 => by
    have ih := outW_bit (n := n) (ws := ws) (was := was) (w := w) (i := i) k
    rw [outW]
    cases hk : was.testBit k
    · rw [cond_false, ih]
      constructor
      · rintro (h | ⟨a, b, ha, h⟩)
        · exact .inl h
        · exact .inr ⟨a, b, by omega, h⟩
      · rintro (h | ⟨a, b, ha, h1, h2, h3⟩)
        · exact .inl h
        · by_cases e : a = k
          · subst e; rw [hk] at h2; cases h2
          · exact .inr ⟨a, b, by omega, h1, h2, h3⟩
    · rw [cond_true, inW_bit, ih]
      constructor
      · rintro ((h | ⟨a, b, ha, h⟩) | ⟨b, hb, h1, h2⟩)
        · exact .inl h
        · exact .inr ⟨a, b, by omega, h⟩
        · exact .inr ⟨k, b, by omega, hb, hk, h1, h2⟩
      · rintro (h | ⟨a, b, ha, h1, h2, h3, h4⟩)
        · exact .inl (.inl h)
        · by_cases e : a = k
          · subst e; exact .inr ⟨b, h1, h3, h4⟩
          · exact .inl (.inr ⟨a, b, by omega, h1, h2, h3, h4⟩)
theorem inW_lt {n : Nat} {ws : List Nat} (hl : latB n ws = true) {was a w : Nat} (ha : a < n) (hw : w < 2 ^ n) : ∀ k, k ≤ n → inW n ws was a k w < 2 ^ n
  | 0, _ => hw
  | k + 1, hk => by
    have ih := inW_lt hl (was := was) ha hw k (by omega)
    have h1 := (orL_tab hl ha (show k < n by omega)).2
    have h2 := (andL_tab hl ha (show k < n by omega)).2
    rw [inW]
    cases was.testBit k
    · exact ih
    · exact Nat.or_lt_two_pow ih (Nat.or_lt_two_pow (Nat.pow_lt_pow_right (by decide) h1) (Nat.pow_lt_pow_right (by decide) h2))
theorem outW_lt {n : Nat} {ws : List Nat} (hl : latB n ws = true) {was w : Nat} (hw : w < 2 ^ n) : ∀ k, k ≤ n → outW n ws was k w < 2 ^ n
  | 0, _ => hw
  | k + 1, hk => by
    have ih := outW_lt hl (was := was) hw k (by omega)
    rw [outW]
    cases was.testBit k
    · exact ih
    · exact inW_lt hl (by omega) ih n (Nat.le_refl n)

theorem to32 {n w : Nat} (hn : n ≤ 16) (h : w < 2 ^ n) : w < 2 ^ 32 := Nat.lt_of_lt_of_le h (Nat.pow_le_pow_right (by decide) (by omega))

theorem table_Or_eq {n : Nat} {ws : List Nat} (hl : latB n ws = true) (hn : n ≤ 16) {a b : Nat} (ha : a < n) (hb : b < n) : lattice_Table_Or ((((n : Int), cl ws, ()), latR n ws, ()), (a : Int), (b : Int), ()) = some (((orL n ws a b : Nat) : Int), ()) := by
  have e := sq_getI (joinT n ws) ha hb
  rw [(orL_tab hl ha hb).1] at e
  unfold lattice_Table_Or latR
  simp (disch := first | assumption | omega) only [Option.bind_some, idx_wrap ha hb hn, e]
def bitsN (w : Nat) : Nat := cntB 32 fun i => w.testBit i
/-- The numbers of a set, rising. -/
def listB (n : Nat) (S : Nat → Bool) : List Nat := (List.range n).filter S
theorem listB_succ (S : Nat → Bool) (k : Nat) : listB (k + 1) S = cond (S k) (listB k S ++ [k]) (listB k S) := by
  unfold listB
  rw [List.range_succ, List.filter_append, List.filter_cons]
  cases S k
  · simp
  · rfl
theorem listB_len (S : Nat → Bool) (k : Nat) : (listB k S).length ≤ k := by
  unfold listB; exact Nat.le_trans (List.length_filter_le _ _) (by simp)
theorem listB_congr {n : Nat} {S T : Nat → Bool} (h : ∀ i, i < n → S i = T i) : listB n S = listB n T := List.filter_congr fun i hi => h i (List.mem_range.1 hi)
theorem cl_snoc3 (l : List Nat) (a : Nat) : cl l ++ [(a : Int)] = cl (l ++ [a]) := by simp [cl]
/-- Are all of some numbers below n? -/
def gensB (N : Int) (gs : List Int) : Bool := gs.all fun g => decide (0 ≤ g) && decide (g < N)
def genW (gs : List Nat) (k : Nat) : Nat := (gs.take k).foldl (fun w g => w ||| 2 ^ g) 0
theorem genW_succ {gs : List Nat} {k : Nat} (hk : k < gs.length) : genW gs (k + 1) = genW gs k ||| 2 ^ gs.getD k 0 := by
  unfold genW
  rw [List.take_add_one, getD_get (d := 0) hk]
  show List.foldl _ 0 (gs.take k ++ [gs.getD k 0]) = _
  rw [List.foldl_append]; rfl
theorem fold_bit (i : Nat) : ∀ (l : List Nat) (w : Nat), (l.foldl (fun w g => w ||| 2 ^ g) w).testBit i = (w.testBit i || l.contains i)
  | [], w => by simp
  | a :: l, w => by
    have e : decide (a = i) = (i == a) := by
      rw [Bool.eq_iff_iff, decide_eq_true_eq, beq_iff_eq]; exact eq_comm
    rw [List.foldl_cons, fold_bit i l, Nat.testBit_or, Nat.testBit_two_pow, List.contains_cons, Bool.or_assoc, e]
theorem genW_bit (gs : List Nat) (i : Nat) : (genW gs gs.length).testBit i = gs.contains i := by
  unfold genW; rw [fold_bit, List.take_length]; simp
theorem genW_lt {n : Nat} {gs : List Nat} (h : ∀ g ∈ gs, g < n) (k : Nat) : genW gs k < 2 ^ n := Nat.lt_pow_two_of_testBit _ fun i hi => by
  unfold genW
  rw [fold_bit]
  cases hc : (gs.take k).contains i
  · simp
  · rw [List.contains_iff_mem] at hc
    have := h i (List.mem_of_mem_take hc)
    omega

theorem gens_nat {n : Nat} {gs : List Int} (h : gensB (n : Int) gs = true) : ∃ hs : List Nat, gs = cl hs ∧ ∀ g ∈ hs, g < n := by
  unfold gensB at h
  rw [List.all_eq_true] at h
  obtain ⟨hs, rfl⟩ := cl_of (l := gs) fun v hv => by
    have := h v hv
    rw [Bool.and_eq_true, decide_eq_true_eq] at this
    exact this.1
  refine ⟨hs, rfl, fun g hg => ?_⟩
  have := h (g : Int) (List.mem_map.2 ⟨g, hg, rfl⟩)
  rw [Bool.and_eq_true, decide_eq_true_eq, decide_eq_true_eq] at this
  omega
theorem gens_bad {n : Nat} {gs : List Int} (h : gensB (n : Int) gs = false) : ∃ k, k < gs.length ∧ ¬ (0 ≤ gs.getD k 0 ∧ gs.getD k 0 < (n : Int)) := Classical.byContradiction fun hno => by
  have : gensB (n : Int) gs = true := by
    unfold gensB
    rw [List.all_eq_true]
    intro v hv
    obtain ⟨k, hk, rfl⟩ := List.getElem_of_mem hv
    have h2 : 0 ≤ gs.getD k 0 ∧ gs.getD k 0 < (n : Int) := Classical.byContradiction fun h2 => hno ⟨k, hk, h2⟩
    rw [List.getD_eq_getElem?_getD, List.getElem?_eq_getElem hk] at h2
    rw [Bool.and_eq_true, decide_eq_true_eq, decide_eq_true_eq]
    exact h2
  rw [h] at this; cases this
theorem map_clS (fs : List Nat) : (cl fs).map Int.toNat = fs := by
  unfold cl; rw [List.map_map]
  exact List.map_id'' (fun n => rfl) fs

/-- What the program answers. -/
noncomputable def subc (N : Int) (ws : List Nat) (gs : List Int) : Int := if latc N ws = 0 then (if (gs.length : Int) > 16 then 1 else cond (gensB N gs) 0 2) else latc N ws

/-! The reference: turns over all pairs, in place. -/
def tin (n : Nat) (ws : List Nat) (a : Nat) : Nat → (Nat → Bool) → Nat → Bool
  | 0, S => S
  | k + 1, S => fun i => if tin n ws a k S a = true ∧ tin n ws a k S k = true ∧ (i = orL n ws a k ∨ i = andL n ws a k) then true else tin n ws a k S i
def tout (n : Nat) (ws : List Nat) : Nat → (Nat → Bool) → Nat → Bool
  | 0, S => S
  | k + 1, S => tin n ws k n (tout n ws k S)
def turns (n : Nat) (ws : List Nat) (S : Nat → Bool) : Nat → Nat → Bool
  | 0 => S
  | t + 1 => tout n ws n (turns n ws S t)
theorem tin_up {n : Nat} {ws : List Nat} {a : Nat} {S : Nat → Bool} {i : Nat} (h : S i = true) : ∀ k, tin n ws a k S i = true
  | 0 => h
  | k + 1 => by simp only [tin]; split; rfl; exact tin_up h k
theorem tout_up {n : Nat} {ws : List Nat} {S : Nat → Bool} {i : Nat} (h : S i = true) : ∀ k, tout n ws k S i = true
  | 0 => h
  | k + 1 => tin_up (tout_up h k) n
theorem tin_in {n : Nat} {ws : List Nat} {a : Nat} (ha : a < n) {S T : Nat → Bool} (hT : ClosedS n ws T) (h : ∀ i, i < n → S i = true → T i = true) : ∀ k, k ≤ n → ∀ i, i < n → tin n ws a k S i = true → T i = true
  | 0, _ => h
  | k + 1, hk => fun i hi hx => by
    simp only [tin] at hx
    split at hx
    · rename_i hc
      have := hT a k ha (by omega) (tin_in ha hT h k (by omega) a ha hc.1) (tin_in ha hT h k (by omega) k (by omega) hc.2.1)
      rcases hc.2.2 with e | e
      · rw [e]; exact this.1
      · rw [e]; exact this.2
    · exact tin_in ha hT h k (by omega) i hi hx
theorem tout_in {n : Nat} {ws : List Nat} {S T : Nat → Bool} (hT : ClosedS n ws T) (h : ∀ i, i < n → S i = true → T i = true) : ∀ k, k ≤ n → ∀ i, i < n → tout n ws k S i = true → T i = true
  | 0, _ => h
  | k + 1, hk => tin_in (by omega) hT (tout_in hT h k (by omega)) n (Nat.le_refl n)
theorem turns_in {n : Nat} {ws : List Nat} {S T : Nat → Bool} (hT : ClosedS n ws T) (h : ∀ i, i < n → S i = true → T i = true) : ∀ t, ∀ i, i < n → turns n ws S t i = true → T i = true
  | 0 => h
  | t + 1 => tout_in hT (turns_in hT h t) n (Nat.le_refl n)
theorem tin_hit {n : Nat} {ws : List Nat} {a b : Nat} {S : Nat → Bool} (ha : S a = true) (hb : S b = true) : ∀ k, b < k → tin n ws a k S (orL n ws a b) = true ∧ tin n ws a k S (andL n ws a b) = true
  | 0, h => by omega
  | k + 1, h => by
    by_cases e : b = k
    · subst e
      have h1 := tin_up (n := n) (ws := ws) (a := a) ha b
      have h2 := tin_up (n := n) (ws := ws) (a := a) hb b
      exact ⟨if_pos ⟨h1, h2, .inl rfl⟩, if_pos ⟨h1, h2, .inr rfl⟩⟩
    · obtain ⟨h1, h2⟩ := tin_hit ha hb k (by omega)
      simp only [tin]
      refine ⟨?_, ?_⟩ <;> split <;> first | rfl | assumption
theorem tout_hit {n : Nat} {ws : List Nat} {a b : Nat} {S : Nat → Bool} (hbn : b < n) (ha : S a = true) (hb : S b = true) : ∀ k, a < k → tout n ws k S (orL n ws a b) = true ∧ tout n ws k S (andL n ws a b) = true
  | 0, h => by omega
  | k + 1, h => by
    by_cases e : a = k
    · subst e
      exact tin_hit (tout_up ha a) (tout_up hb a) n hbn
    · obtain ⟨h1, h2⟩ := tout_hit hbn ha hb k (by omega)
      exact ⟨tin_up h1 n, tin_up h2 n⟩
theorem turns_up {n : Nat} {ws : List Nat} {S : Nat → Bool} {i : Nat} (h : S i = true) : ∀ t, turns n ws S t i = true
  | 0 => h
  | t + 1 => tout_up (turns_up h t) n
theorem turn_more {n : Nat} {ws : List Nat} (hl : latB n ws = true) {S : Nat → Bool} (t : Nat) : ClosedS n ws (turns n ws S t) ∨ cntB n (turns n ws S t) < cntB n (turns n ws S (t + 1)) := by
  by_cases h : ∀ i, i < n → turns n ws S (t + 1) i = true → turns n ws S t i = true
  · refine .inl fun a b ha hb h1 h2 => ?_
    have := tout_hit (n := n) (ws := ws) hb h1 h2 n ha
    exact ⟨h _ (orL_tab hl ha hb).2 this.1, h _ (andL_tab hl ha hb).2 this.2⟩
  · refine .inr (cntB_lt (fun i _ hi => tout_up hi n) (Classical.byContradiction fun hno => h fun i hi h1 => ?_))
    cases h2 : turns n ws S t i
    · exact absurd ⟨i, hi, h1, h2⟩ hno
    · rfl
theorem turns_stop {n : Nat} {ws : List Nat} (hl : latB n ws = true) {S : Nat → Bool} : ∀ t, (∃ u, u ≤ t ∧ ClosedS n ws (turns n ws S u)) ∨ t < cntB n (turns n ws S (t + 1))
  | 0 => by
    rcases turn_more hl (S := S) 0 with h | h
    · exact .inl ⟨0, Nat.le_refl 0, h⟩
    · exact .inr (by omega)
  | t + 1 => by
    rcases turns_stop hl (S := S) t with ⟨u, h1, h2⟩ | h1
    · exact .inl ⟨u, by omega, h2⟩
    · rcases turn_more hl (S := S) (t + 1) with h | h
      · exact .inl ⟨t + 1, Nat.le_refl _, h⟩
      · exact .inr (by omega)
theorem turns_later {n : Nat} {ws : List Nat} {S : Nat → Bool} {u : Nat} (h : ClosedS n ws (turns n ws S u)) : ∀ k i, i < n → turns n ws S (u + k) i = true → turns n ws S u i = true
  | 0, _, _, hx => hx
  | k + 1, i, hi, hx => tout_in h (fun j hj => turns_later h k j hj) n (Nat.le_refl n) i hi hx
theorem turns_make {n : Nat} {ws : List Nat} (hl : latB n ws = true) (S : Nat → Bool) : Makes n ws S (turns n ws S n) := by
  refine ⟨fun i _ hi => turns_up hi n, ?_, fun T hT h => turns_in hT h n⟩
  rcases turns_stop hl (S := S) n with ⟨u, h1, h2⟩ | h
  · obtain ⟨k, hk⟩ := Nat.exists_eq_add_of_le h1
    have hdown : ∀ i, i < n → turns n ws S n i = true → turns n ws S u i = true := fun i hi hx => turns_later h2 k i hi (by rw [← hk]; exact hx)
    have hup : ∀ i, turns n ws S u i = true → turns n ws S n i = true := fun i hi => by
      have : ∀ k, turns n ws S (u + k) i = true := fun k => by
        induction k with
        | zero => exact hi
        | succ k ih => exact tout_up ih n
      rw [show turns n ws S n i = turns n ws S (u + k) i from by rw [← hk]]
      exact this k
    intro a b ha hb h3 h4
    have := h2 a b ha hb (hdown a ha h3) (hdown b hb h4)
    exact ⟨hup _ this.1, hup _ this.2⟩
  · have := cntB_le (turns n ws S (n + 1)) n
    omega

theorem room1 {n : Nat} (h : n ≤ 1000000) : roomOk n 1 = true := by
  unfold roomOk
  rw [Bool.and_eq_true]
  exact ⟨Nat.ble_eq_true_of_le (by omega), Nat.ble_eq_true_of_le (by omega)⟩
end

section
open Go Go.Abs


/-! ### Lists compared -/
theorem ref_TimesSame_same (a : List Int) (h : a.length ≤ 1000000) : ref_TimesSame (a, a, ()) = some (true, ()) := by
  unfold ref_TimesSame
  have key := loopM_for (f := ref_TimesSame_l1 (a, a, ())) a.length (fun _ => none) (Sum.inr (Sum.inl ())) (fun i hi => ?_) ?_
  · have hn : ((List.range a.length).findSome? fun _ => (none : Option ((Bool × Unit) ⊕ Unit ⊕ Empty))) = none := by simp
    rw [hn] at key
    simp only [cond_bne, if_true]
    rw [key]; rfl
  · have hi' : ((i : Int) < (a.length : Int)) := by omega
    unfold ref_TimesSame_l1
    simp only [hi', decide_true, cond_true, getI_nat, List.getElem?_eq_getElem hi, Option.bind_some, cond_bne, if_true]
    rw [wrap64 (by omega) (by omega)]
    rfl
  · simp [ref_TimesSame_l1]
end

section
open Go Go.Abs


theorem orL_spec {n : Nat} {ws : List Nat} (hl : latB n ws = true) {a b : Nat} (ha : a < n) (hb : b < n) : orL n ws a b < n ∧ below ws a (orL n ws a b) = true ∧ below ws b (orL n ws a b) = true ∧ ∀ y, y < n → below ws a y = true → below ws b y = true → below ws (orL n ws a b) y = true := by
  obtain ⟨x, hx⟩ := (latB_iff.1 hl a b ha hb).1
  have := lub_spec hx
  unfold orL
  rw [hx]
  exact this
theorem orL_comm {n : Nat} {ws : List Nat} (o : IsOrder n ws) (hl : latB n ws = true) {a b : Nat} (ha : a < n) (hb : b < n) : orL n ws a b = orL n ws b a := by
  obtain ⟨h1, h2, h3, h4⟩ := orL_spec hl ha hb
  obtain ⟨g1, g2, g3, g4⟩ := orL_spec hl hb ha
  exact order_anti o h1 g1 (h4 _ g1 g3 g2) (g4 _ h1 h3 h2)
theorem orL_self {n : Nat} {ws : List Nat} (o : IsOrder n ws) (hl : latB n ws = true) {a : Nat} (ha : a < n) : orL n ws a a = a := by
  obtain ⟨h1, h2, h3, h4⟩ := orL_spec hl ha ha
  exact order_anti o h1 ha (h4 _ ha (o.refl a ha) (o.refl a ha)) h2

/-- The least element. -/
def botT (n : Nat) (ws : List Nat) : Nat := topTo n (downW n ws) n
/-- Is the join of two mapped to the join of what they are mapped to? -/
def keepAt (n : Nat) (ws : List Nat) (m : Nat) (vs fs : List Nat) (a b : Nat) : Bool := decide (fs.getD (orL n ws a b) 0 = orL m vs (fs.getD a 0) (fs.getD b 0))
def keepsB (n : Nat) (ws : List Nat) (m : Nat) (vs fs : List Nat) : Bool := decide (fs.getD (botT n ws) 0 = botT m vs) && (List.range n).all fun a => (List.range a).all fun b => keepAt n ws m vs fs a b
theorem keeps_all {n m : Nat} {ws vs fs : List Nat} (o : IsOrder n ws) (hl : latB n ws = true) (o' : IsOrder m vs) (hl' : latB m vs = true) (h : ∀ i, i < n → fs.getD i 0 < m) : keepsB n ws m vs fs = (((List.range n).all fun a => (List.range n).all fun b => keepAt n ws m vs fs a b) && decide (fs.getD (botT n ws) 0 = botT m vs)) := by
  have hs : ∀ a b, a < n → b < n → keepAt n ws m vs fs a b = keepAt n ws m vs fs b a := fun a b ha hb => by
    unfold keepAt
    rw [orL_comm o hl ha hb, orL_comm o' hl' (h a ha) (h b hb)]
  have hself : ∀ a, a < n → keepAt n ws m vs fs a a = true := fun a ha => by
    unfold keepAt
    rw [orL_self o hl ha, orL_self o' hl' (h a ha)]
    exact decide_eq_true rfl
  unfold keepsB
  rw [Bool.and_comm]
  refine congrArg (fun p => p && decide (fs.getD (botT n ws) 0 = botT m vs)) ?_
  rw [Bool.eq_iff_iff, List.all_eq_true, List.all_eq_true]
  constructor
  · intro hh a ha
    have ha' := List.mem_range.1 ha
    refine List.all_eq_true.2 fun b hb => ?_
    have hb' := List.mem_range.1 hb
    by_cases e : a = b
    · subst e; exact hself a ha'
    · by_cases e2 : b < a
      · exact List.all_eq_true.1 (hh a ha) b (List.mem_range.2 e2)
      · rw [hs a b ha' hb']
        exact List.all_eq_true.1 (hh b hb) a (List.mem_range.2 (by omega))
  · intro hh a ha
    have ha' := List.mem_range.1 ha
    exact List.all_eq_true.2 fun b hb => List.all_eq_true.1 (hh a ha) b (List.mem_range.2 (by have := List.mem_range.1 hb; omega))
theorem keeps_or {n m : Nat} {ws vs fs : List Nat} (o : IsOrder n ws) (hl : latB n ws = true) (o' : IsOrder m vs) (hl' : latB m vs = true) (h : ∀ i, i < n → fs.getD i 0 < m) (hk : keepsB n ws m vs fs = true) : fs.getD (botT n ws) 0 = botT m vs ∧ ∀ a b, a < n → b < n → fs.getD (orL n ws a b) 0 = orL m vs (fs.getD a 0) (fs.getD b 0) := by
  rw [keeps_all o hl o' hl' h, Bool.and_eq_true, decide_eq_true_eq, List.all_eq_true] at hk
  exact ⟨hk.2, fun a b ha hb => of_decide_eq_true (List.all_eq_true.1 (hk.1 a (List.mem_range.2 ha)) b (List.mem_range.2 hb))⟩

/-- The joins of some elements. -/
def jn (n : Nat) (ws : List Nat) (D : Nat → Bool) : Nat → Nat
  | 0 => botT n ws
  | k + 1 => cond (D k) (orL n ws (jn n ws D k) k) (jn n ws D k)
theorem jn_fold (n : Nat) (ws : List Nat) (D : Nat → Bool) (k : Nat) : (listB k D).foldl (orL n ws) (botT n ws) = jn n ws D k := by
  induction k with
  | zero => rfl
  | succ k ih =>
    rw [listB_succ, jn]
    cases D k
    · exact ih
    · show (listB k D ++ [k]).foldl _ _ = orL n ws (jn n ws D k) k
      rw [List.foldl_append, ih]; rfl
/-- They are the greatest of a set that holds its joins. -/
theorem jn_max {n : Nat} {ws : List Nat} (o : IsOrder n ws) (hl : latB n ws = true) {D : Nat → Bool} (hbn : botT n ws < n) (hb : D (botT n ws) = true) (hor : ∀ a b, a < n → b < n → D a = true → D b = true → D (orL n ws a b) = true) : ∀ k, k ≤ n → jn n ws D k < n ∧ D (jn n ws D k) = true ∧ ∀ x, x < k → D x = true → below ws x (jn n ws D k) = true
  | 0, _ => ⟨hbn, hb, fun x hx => by omega⟩
  | k + 1, hk => by
    obtain ⟨h1, h2, h3⟩ := jn_max o hl hbn hb hor k (by omega)
    rw [jn]
    cases hd : D k
    · refine ⟨h1, h2, fun x hx hx2 => ?_⟩
      by_cases e : x = k
      · subst e; rw [hd] at hx2; cases hx2
      · exact h3 x (by omega) hx2
    · obtain ⟨g1, g2, g3, -⟩ := orL_spec hl h1 (show k < n by omega)
      refine ⟨g1, hor _ _ h1 (by omega) h2 hd, fun x hx hx2 => ?_⟩
      by_cases e : x = k
      · subst e; exact g3
      · exact o.trans x _ _ (by omega) h1 g1 (h3 x (by omega) hx2) g2
/-- What the reference finds. -/
def bd (ws : List Nat) (D : Nat → Bool) : Nat → Option Nat
  | 0 => none
  | k + 1 => cond (D k) (match bd ws D k with
    | none => some k
    | some i => cond (below ws i k) (some k) (some i)) (bd ws D k)
theorem bd_lt {ws : List Nat} {D : Nat → Bool} {i : Nat} : ∀ {k}, bd ws D k = some i → i < k ∧ D i = true
  | 0, h => by cases h
  | k + 1, h => by
    rw [bd] at h
    cases hd : D k
    · rw [hd] at h
      have := bd_lt (k := k) h
      exact ⟨by omega, this.2⟩
    · rw [hd] at h
      cases hb : bd ws D k with
      | none =>
        rw [hb] at h
        cases h
        exact ⟨by omega, hd⟩
      | some j =>
        rw [hb] at h
        have hj := bd_lt (k := k) hb
        have h : cond (below ws j k) (some k) (some j) = some i := h
        cases hc : below ws j k
        · rw [hc] at h; cases h; exact ⟨by omega, hj.2⟩
        · rw [hc] at h; cases h; exact ⟨by omega, hd⟩
theorem bd_max {n : Nat} {ws : List Nat} (o : IsOrder n ws) {D : Nat → Bool} {t : Nat} (ht : t < n) (hD : D t = true) (hmax : ∀ x, x < n → D x = true → below ws x t = true) : ∀ k, k ≤ n → t < k → bd ws D k = some t
  | 0, _, h => by omega
  | k + 1, hk, h => by
    rw [bd]
    by_cases e : t = k
    · subst e
      rw [hD, cond_true]
      cases hb : bd ws D t with
      | none => rfl
      | some i =>
        obtain ⟨h1, h2⟩ := bd_lt hb
        show cond (below ws i t) _ _ = _
        rw [hmax i (by omega) h2]; rfl
    · rw [bd_max o ht hD hmax k (by omega) (by omega)]
      cases hd : D k
      · rfl
      · show cond (below ws t k) _ _ = _
        have h1 := hmax k (by omega) hd
        have : below ws t k = false := by
          cases h2 : below ws t k
          · rfl
          · exact absurd (order_anti o ht (by omega) h2 h1) e
        rw [this]; rfl

theorem foldl_lt {n : Nat} {ws : List Nat} (hl : latB n ws = true) : ∀ (l : List Nat) (a : Nat), a < n → (∀ x ∈ l, x < n) → l.foldl (orL n ws) a < n
  | [], a, ha, _ => ha
  | x :: l, a, ha, h => foldl_lt hl l _ (orL_tab hl ha (h x (List.mem_cons_self ..))).2 fun y hy => h y (List.mem_cons_of_mem _ hy)
theorem table_Under_eq {n : Nat} {ws : List Nat} (hf : Fit ws) (t : List Int × List Int × Int × Int × Unit) {a b : Nat} (ha : a < ws.length) : lattice_Table_Under ((((n : Int), cl ws, ()), t, ()), (a : Int), (b : Int), ()) = some (below ws a b, ()) := by
  unfold lattice_Table_Under
  simp (disch := first | assumption | omega) only [Option.bind_some, getI_cl, has_D hf]
end

section
open Go Go.Abs


/-! Closure by rounds (Floyd and Warshall), on truth values. -/
/-- By at least one step. -/
inductive Way (A : Nat → Nat → Bool) : Nat → Nat → Prop
  | one {i j : Nat} (h : A i j = true) : Way A i j
  | more {i k j : Nat} (h : Way A i k) (h2 : A k j = true) : Way A i j

theorem Way.trans {A : Nat → Nat → Bool} {i j k : Nat} (h : Way A i j) (h2 : Way A j k) : Way A i k := by
  induction h2 with
  | one h2 => exact .more h h2
  | more _ h3 ih => exact .more ih h3

def fwR (w : Nat → Nat → Bool) (k : Nat) : Nat → Nat → Bool := fun i j => w i j || (w i k && w k j)
def fwN (A : Nat → Nat → Bool) : Nat → Nat → Nat → Bool
  | 0 => A
  | k + 1 => fwR (fwN A k) k

theorem fwN_sound (A : Nat → Nat → Bool) : ∀ k i j, fwN A k i j = true → Way A i j
  | 0, i, j, h => .one h
  | k + 1, i, j, h => by
    simp only [fwN, fwR, Bool.or_eq_true, Bool.and_eq_true] at h
    rcases h with h | ⟨h, h2⟩
    · exact fwN_sound A k i j h
    · exact (fwN_sound A k i k h).trans (fwN_sound A k k j h2)

theorem fwN_keep (A : Nat → Nat → Bool) (k : Nat) : ∀ m i j, fwN A k i j = true → fwN A (k + m) i j = true
  | 0, _, _, h => h
  | m + 1, i, j, h => by
    show fwR (fwN A (k + m)) (k + m) i j = true
    simp only [fwR, Bool.or_eq_true]
    exact .inl (fwN_keep A k m i j h)

/-- What goes by way of a number that had its round. -/
theorem fwN_via (A : Nat → Nat → Bool) : ∀ k m, m < k → ∀ i j, fwN A k i m = true → fwN A k m j = true → fwN A k i j = true
  | 0, _, h, _, _, _, _ => by omega
  | k + 1, m, hm, i, j, h1, h2 => by
    simp only [fwN, fwR, Bool.or_eq_true, Bool.and_eq_true] at h1 h2 ⊢
    by_cases hmk : m = k
    · subst hmk
      have h1' : fwN A m i m = true := by
        rcases h1 with h | ⟨h, _⟩ <;> exact h
      have h2' : fwN A m m j = true := by
        rcases h2 with h | ⟨_, h⟩ <;> exact h
      exact .inr ⟨h1', h2'⟩
    · have hlt : m < k := by omega
      have ih := fwN_via A k m hlt
      rcases h1 with h1 | ⟨h1, h1'⟩ <;> rcases h2 with h2 | ⟨h2, h2'⟩
      · exact .inl (ih i j h1 h2)
      · exact .inr ⟨ih i k h1 h2, h2'⟩
      · exact .inr ⟨h1, ih k j h1' h2⟩
      · exact .inr ⟨h1, h2'⟩

theorem fwN_all {A : Nat → Nat → Bool} {n : Nat} (hA : ∀ i j, A i j = true → i < n ∧ j < n) (i j : Nat) : fwN A n i j = true ↔ Way A i j := by
  constructor
  · exact fwN_sound A n i j
  · intro h
    induction h with
    | one h => have := fwN_keep A 0 n _ _ h; rwa [Nat.zero_add] at this
    | more _ h2 ih =>
      have h3 := fwN_keep A 0 n _ _ h2
      rw [Nat.zero_add] at h3
      exact fwN_via A n _ (hA _ _ h2).1 _ _ ih h3

/-- In place: what was done stands in the new round, the rest in the old one; the row and the column of the round do not turn. -/
def fwAt (w : Nat → Nat → Bool) (n k x : Nat) : Nat → Bool := fun y => if y < x then fwR w k (y / n) (y % n) else w (y / n) (y % n)

theorem fwAt_col {w : Nat → Nat → Bool} {n k x i : Nat} (hk : k < n) : fwAt w n k x (i * n + k) = w i k := by
  have h1 : (i * n + k) / n = i := by rw [Nat.mul_comm, Nat.mul_add_div (by omega), Nat.div_eq_of_lt hk]; rfl
  have h2 : (i * n + k) % n = k := by rw [Nat.mul_comm, Nat.mul_add_mod, Nat.mod_eq_of_lt hk]
  unfold fwAt
  rw [h1, h2]
  split
  · unfold fwR; cases w i k <;> simp
  · rfl
theorem fwAt_row {w : Nat → Nat → Bool} {n k x j : Nat} (hj : j < n) : fwAt w n k x (k * n + j) = w k j := by
  have h1 : (k * n + j) / n = k := by rw [Nat.mul_comm, Nat.mul_add_div (by omega), Nat.div_eq_of_lt hj]; rfl
  have h2 : (k * n + j) % n = j := by rw [Nat.mul_comm, Nat.mul_add_mod, Nat.mod_eq_of_lt hj]
  unfold fwAt
  rw [h1, h2]
  split
  · unfold fwR; cases w k j <;> simp
  · rfl
theorem fwAt_here {w : Nat → Nat → Bool} {n k i j : Nat} (hj : j < n) : fwAt w n k (i * n + j) (i * n + j) = w i j := by
  have h1 : (i * n + j) / n = i := by rw [Nat.mul_comm, Nat.mul_add_div (by omega), Nat.div_eq_of_lt hj]; rfl
  have h2 : (i * n + j) % n = j := by rw [Nat.mul_comm, Nat.mul_add_mod, Nat.mod_eq_of_lt hj]
  unfold fwAt
  rw [if_neg (by omega), h1, h2]
theorem fwAt_step {w : Nat → Nat → Bool} {n k i j : Nat} (hj : j < n) (y : Nat) : fwAt w n k (i * n + (j + 1)) y = if y = i * n + j then fwR w k i j else fwAt w n k (i * n + j) y := by
  have h1 : (i * n + j) / n = i := by rw [Nat.mul_comm, Nat.mul_add_div (by omega), Nat.div_eq_of_lt hj]; rfl
  have h2 : (i * n + j) % n = j := by rw [Nat.mul_comm, Nat.mul_add_mod, Nat.mod_eq_of_lt hj]
  by_cases hy : y = i * n + j
  · subst hy
    rw [if_pos rfl]
    unfold fwAt
    rw [if_pos (by omega), h1, h2]
  · rw [if_neg hy]
    unfold fwAt
    by_cases hlt : y < i * n + j
    · rw [if_pos hlt, if_pos (by omega)]
    · rw [if_neg hlt, if_neg (by omega)]

theorem sq_lt {n i j : Nat} (hi : i < n) (hj : j < n) : i * n + j < n * n := by
  have : (i + 1) * n ≤ n * n := Nat.mul_le_mul_right n hi
  rw [Nat.add_mul, Nat.one_mul] at this
  omega
theorem sq_wrapG {n i j : Nat} (hn : n ≤ 64) (hi : i < n) (hj : j < n) : IntKind.i64.wrap ((IntKind.i64.wrap ((i : Int) * (n : Int))) + (j : Int)) = ((i * n + j : Nat) : Int) := by
  have h1 := sq_lt hi hj
  have h2 : n * n ≤ 64 * 64 := Nat.mul_le_mul hn hn
  have h3 : (i : Int) * (n : Int) = ((i * n : Nat) : Int) := (Int.natCast_mul i n).symm
  have e1 : IntKind.i64.wrap ((i * n : Nat) : Int) = ((i * n : Nat) : Int) := wrap64 (by omega) (by omega)
  rw [h3, e1]
  rw [wrap64 (by omega) (by omega)]
  simp
end

section
open Go Go.Abs


abbrev Node := Int × (Int × ((Int × (Int × (Int × Unit))) × Unit))
abbrev Edge := Int × (Int × (Int × Unit))
/-- May a node be? -/
def mayB (v : Node) : Bool := decide (1 ≤ v.2.1 ∧ v.2.1 ≤ 4 ∧ 1 ≤ v.1 ∧ v.1 ≤ 6 ∧ (v.1 = 1 → v.2.1 = 1) ∧ (v.1 = 4 → v.2.1 ≠ 4) ∧ (5 ≤ v.1 → 2 ≤ v.2.1))
def portsB (v : Node) : Int := if v.1 = 1 then 0 else if v.1 = 3 then 2 else 1
def outB (v : Node) : Int := if v.1 = 4 then v.2.1 + 1 else if v.1 = 5 then v.2.1 - 1 else v.2.1

theorem ite_some {α : Type} (c : Prop) [Decidable c] (a b : α) : (if c then some a else some b) = some (if c then a else b) := by split <;> rfl

theorem ref_NodeMay_eq (v : Node) : ref_NodeMay (v, ()) = some (mayB v, ()) := by
  obtain ⟨k, d, op, _⟩ := v
  unfold ref_NodeMay mayB
  simp only [cond_beq, cond_bne, cond_dec]
  repeat' split
  all_goals first
    | (congr 2; symm; apply decide_eq_false; intro h; obtain ⟨h1, h2, h3, h4, h5, h6, h7⟩ := h; omega)
    | (congr 2; symm; apply decide_eq_true; omega)
    | (congr 2; apply decide_eq_decide.2; omega)

theorem graph_may_eq (v : Node) : graph_may (v, ()) = some (mayB v, ()) := by
  obtain ⟨k, d, op, _⟩ := v
  have w1 : IntKind.i64.wrap ((4 : Int) - 1) = 3 := by decide
  have w2 : IntKind.i64.wrap ((1 : Int) + 1) = 2 := by decide
  unfold graph_may mayB
  simp only [w1, w2, cond_beq, cond_dec]
  have fin : ∀ {p q : Bool}, (p = true ↔ q = true) → some (p, ()) = some (q, ()) := fun h => by rw [Bool.eq_iff_iff.2 h]
  have hk : k = 1 ∨ k = 4 ∨ k = 5 ∨ k = 6 ∨ k = 2 ∨ k = 3 ∨ (k ≠ 1 ∧ k ≠ 4 ∧ k ≠ 5 ∧ k ≠ 6 ∧ k ≠ 2 ∧ k ≠ 3) := by omega
  rcases hk with rfl | rfl | rfl | rfl | rfl | rfl | ⟨h1, h4, h5, h6, h2, h3⟩
  case inr.inr.inr.inr.inr.inr =>
    simp only [h1, h4, h5, h2, h3, if_false, beq_eq_false_iff_ne.2 h6, Option.bind_some, Sum.elim_inl, cond_false]
    refine fin ?_
    simp
    omega
  all_goals
    simp
    split
    · refine fin ?_; simp; omega
    · refine fin ?_; simp; omega

theorem graph_Check_c1_eq (v : Node) : graph_Check_c1 (v, ()) = some (!mayB v, ()) := by
  unfold graph_Check_c1; rw [graph_may_eq]; rfl

theorem graph_Ports_eq (v : Node) : graph_Ports (v, ()) = some (portsB v, ()) := by
  unfold graph_Ports portsB
  simp only [cond_beq]
  split
  · rfl
  · split <;> rfl
theorem ref_Ports_eq (v : Node) : ref_Ports (v, ()) = some (portsB v, ()) := by
  unfold ref_Ports portsB
  simp only [cond_beq]
  split
  · rfl
  · split <;> rfl
theorem may_deep {v : Node} (h : mayB v = true) : 1 ≤ v.2.1 ∧ v.2.1 ≤ 4 := by
  have := of_decide_eq_true h
  exact ⟨this.1, this.2.1⟩
theorem graph_Out_eq {v : Node} (h : mayB v = true) : graph_Out (v, ()) = some (outB v, ()) := by
  have hd := may_deep h
  unfold graph_Out outB
  simp only [cond_beq]
  rw [wrap64 (by omega) (by omega), wrap64 (by omega) (by omega)]
  split
  · rfl
  · split <;> rfl
theorem ref_Out_eq {v : Node} (h : mayB v = true) : ((ref_NodeSum (v, ())).bind fun r => ref_SummaryOut r) = some (outB v, ()) := by
  have hd := may_deep h
  obtain ⟨k, d, op, u⟩ := v
  simp only at hd
  unfold ref_NodeSum ref_SummaryOut outB
  simp only [cond_beq]
  have w : ∀ z : Int, -100 ≤ z → z ≤ 100 → IntKind.i64.wrap z = z := fun z h1 h2 => wrap64 (by omega) (by omega)
  by_cases h4 : k = 4
  · simp only [h4, if_true, Option.bind_some, List.length_cons, List.length_nil]
    rw [w _ (by omega) (by omega)]; rfl
  · by_cases h5 : k = 5
    · subst h5
      simp only [h4, if_false, if_true, Option.bind_some, List.length_nil]
      rw [w (d - 1) (by omega) (by omega), w _ (by omega) (by omega)]
      simp
    · by_cases h6 : k = 6
      · subst h6
        simp only [h4, h5, if_false, if_true, Option.bind_some, List.length_nil]
        rw [w _ (by omega) (by omega)]
        simp
      · simp only [h4, h5, h6, if_false, Option.bind_some, List.length_nil]
        rw [w _ (by omega) (by omega)]
        simp
end

section
open Go Go.Abs


theorem loopM_exitI {σ U β : Type} {f : σ → Option (σ ⊕ (U ⊕ β))} (n : Nat) (s : Nat → σ) (g : Nat → Option U) (e : β)
    (h : ∀ i, i < n → (∀ j, j < i → g j = none) → f (s i) = some (stepOr (g i) (s (i + 1)))) (hend : (∀ j, j < n → g j = none) → f (s n) = some (.inr (.inr e))) :
    loopM f (s 0) = some (exitOr ((List.range n).findSome? g) e) := by
  have key : ∀ k i, i + k = n → (∀ j, j < i → g j = none) → loopM f (s i) = some (exitOr ((List.range' i k).findSome? g) e) := by
    intro k
    induction k with
    | zero => intro i hi hn; have : i = n := by omega
              subst this; rw [loopM_inr (hend hn)]; rfl
    | succ k ih =>
      intro i hi hn
      have hs := h i (by omega) hn
      rw [List.range'_succ, List.findSome?_cons]
      cases hg : g i with
      | some b => rw [hg] at hs; rw [loopM_inr hs]; rfl
      | none =>
        rw [hg] at hs
        rw [loopM_inl hs]
        refine ih (i + 1) (by omega) fun j hj => ?_
        by_cases hji : j = i
        · rw [hji]; exact hg
        · exact hn j (by omega)
  have := key n 0 (by omega) (fun j hj => by omega)
  rw [List.range_eq_range']; exact this

def e0 : Edge := (0, 0, 0, ())
def v0 : Node := (0, 0, (0, 0, 0, ()), ())
def frE (E : List Edge) (i : Nat) : Int := (E.getD i e0).1
def toE (E : List Edge) (i : Nat) : Int := (E.getD i e0).2.1
def poE (E : List Edge) (i : Nat) : Int := (E.getD i e0).2.2.1
/-- Goes an earlier edge to the same port? -/
def twiceB (E : List Edge) (i : Nat) : Bool := (List.range i).any fun j => toE E j == toE E i && poE E j == poE E i
/-- What is wrong with an edge. -/
def edgeC (N : List Node) (E : List Edge) (i : Nat) : Int :=
  if frE E i < 0 ∨ (N.length : Int) ≤ frE E i ∨ toE E i < 0 ∨ (N.length : Int) ≤ toE E i then 8
  else if poE E i < 0 ∨ portsB (N.getD (toE E i).toNat v0) ≤ poE E i then 8
  else if twiceB E i = true then 8
  else if outB (N.getD (frE E i).toNat v0) = (N.getD (toE E i).toNat v0).2.1 then 0 else 7

theorem getI_D {α : Type} {l : List α} {i : Int} (d : α) (h0 : 0 ≤ i) (h1 : i < l.length) : getI l i = some (l.getD i.toNat d) := by
  obtain ⟨k, rfl⟩ := Int.eq_ofNat_of_zero_le h0
  rw [getI_nat]
  rw [Int.toNat_natCast]
  exact getD_get (by omega)
theorem may_at {N : List Node} (hN : N.all mayB = true) {i : Int} (h0 : 0 ≤ i) (h1 : i < N.length) : mayB (N.getD i.toNat v0) = true := by
  have hlt : i.toNat < N.length := by omega
  rw [List.getD_eq_getElem?_getD, List.getElem?_eq_getElem hlt]
  exact List.all_eq_true.1 hN _ (List.getElem_mem hlt)

theorem edge_same (N : List Node) {E : List Edge} (hE : E.length ≤ 20) {i : Nat} (hi : i < E.length) :
    loopM (ref_edge_l1 ((N, E, ()), (i : Int), ()) (E.getD i e0)) ((0 : Int), ()) = some (if twiceB E i = true then .inl (8, ()) else .inr (.inl ())) := by
  have h := loopM_exit (f := ref_edge_l1 ((N, E, ()), (i : Int), ()) (E.getD i e0)) i (fun j => ((j : Int), ())) (fun j => cond (toE E j == toE E i && poE E j == poE E i) (some (8, ())) none) (.inl ()) (fun j hj => by
    unfold ref_edge_l1
    simp only [dcT (show (j : Int) < (i : Int) by omega), cond_true, getI_D e0 (Int.natCast_nonneg j) (show (j : Int) < (E.length : Int) by omega), Int.toNat_natCast, Option.bind_some]
    rw [wrapS (by omega)]
    show (cond (toE E j == toE E i) _ _) = _
    cases h1 : toE E j == toE E i with
    | false => rfl
    | true =>
      show (cond (poE E j == poE E i) _ _) = _
      cases h2 : poE E j == poE E i <;> rfl) (by
    unfold ref_edge_l1
    simp only [dcF (show ¬ (i : Int) < (i : Int) by omega), cond_false]) rfl
  refine Eq.trans h ?_
  have : ((List.range i).findSome? fun j => cond (toE E j == toE E i && poE E j == poE E i) (some ((8 : Int), ())) none) = if twiceB E i = true then some (8, ()) else none := by
    unfold twiceB
    cases ha : (List.range i).any (fun j => toE E j == toE E i && poE E j == poE E i) with
    | true =>
      rw [if_pos rfl]
      obtain ⟨j, hj, hb⟩ := List.any_eq_true.1 ha
      cases hf : (List.range i).findSome? fun j => cond (toE E j == toE E i && poE E j == poE E i) (some ((8 : Int), ())) none with
      | none =>
        have := List.findSome?_eq_none_iff.1 hf j hj
        rw [hb] at this; cases this
      | some z =>
        obtain ⟨l1, a, l2, _, h3, _⟩ := List.findSome?_eq_some_iff.1 hf
        cases hq : (toE E a == toE E i && poE E a == poE E i) with
        | true => rw [hq] at h3; exact h3.symm
        | false => rw [hq] at h3; cases h3
    | false =>
      rw [if_neg (by simp)]
      refine List.findSome?_eq_none_iff.2 fun j hj => ?_
      have := List.any_eq_false.1 ha j hj
      cases hq : (toE E j == toE E i && poE E j == poE E i) with
      | true => exact absurd hq this
      | false => rfl
  rw [this]
  split <;> rfl

theorem ref_edge_eq {N : List Node} {E : List Edge} (hN : N.all mayB = true) (hE : E.length ≤ 20) {i : Nat} (hi : i < E.length) : ref_edge ((N, E, ()), (i : Int), ()) = some (edgeC N E i, ()) := by
  unfold ref_edge edgeC
  simp only [getI_D e0 (Int.natCast_nonneg i) (show (i : Int) < (E.length : Int) by omega), Int.toNat_natCast, Option.bind_some]
  show (cond (decide (frE E i < 0)) _ (cond (decide (frE E i ≥ (N.length : Int))) _ (cond (decide (toE E i < 0)) _ (cond (decide (toE E i ≥ (N.length : Int))) _ (cond (decide (poE E i < 0)) _ ((getI N (toE E i)).bind _)))))) = _
  by_cases h1 : frE E i < 0
  · simp [h1]
  by_cases h2 : frE E i ≥ (N.length : Int)
  · simp [h1, h2]
  by_cases h3 : toE E i < 0
  · simp [h1, h2, h3]
  by_cases h4 : toE E i ≥ (N.length : Int)
  · simp [h1, h2, h3, h4]
  have hno : ¬ (frE E i < 0 ∨ (N.length : Int) ≤ frE E i ∨ toE E i < 0 ∨ (N.length : Int) ≤ toE E i) := by omega
  simp only [dcF h1, dcF h2, dcF h3, dcF h4, cond_false, if_neg hno]
  by_cases h5 : poE E i < 0
  · simp [h5]
  have hto := getI_D (l := N) v0 (Int.not_lt.1 h3) (Int.not_le.1 h4)
  simp only [dcF h5, cond_false, hto, Option.bind_some, ref_Ports_eq]
  show (cond (decide (poE E i ≥ portsB (N.getD (toE E i).toNat v0))) _ _) = _
  by_cases h6 : poE E i ≥ portsB (N.getD (toE E i).toNat v0)
  · rw [dcT h6, cond_true, if_pos (.inr (by omega))]
  have hno2 : ¬ (poE E i < 0 ∨ portsB (N.getD (toE E i).toNat v0) ≤ poE E i) := by omega
  simp only [dcF h6, cond_false, if_neg hno2]
  rw [edge_same N hE hi]
  by_cases h7 : twiceB E i = true
  · simp [h7]
  simp only [h7, Option.bind_some]
  have hfr := getI_D (l := N) v0 (Int.not_lt.1 h1) (Int.not_le.1 h2)
  show ((getI N (frE E i)).bind _) = _
  rw [hfr, Option.bind_some]
  have hout := ref_Out_eq (may_at hN (Int.not_lt.1 h1) (Int.not_le.1 h2))
  obtain ⟨r, hr, hr2⟩ := Option.bind_eq_some_iff.1 hout
  rw [hr, Option.bind_some, hr2, Option.bind_some]
  show ((getI N (toE E i)).bind _) = _
  rw [hto, Option.bind_some]
  show (cond (outB (N.getD (frE E i).toNat v0) != (N.getD (toE E i).toNat v0).2.1) _ _) = _
  rw [cond_bne]
  split <;> rfl

/-- What is taken, behind so many edges. -/
abbrev tkT : Ty := .cons (.int .i64) (.cons (.int .i64) .nil)
def takenM (E : List Edge) : Nat → List ((Int × (Int × Unit)) × Int)
  | 0 => []
  | i + 1 => mapSet tkT (takenM E i) (toE E i, poE E i, ()) (i : Int)
theorem taken_has (E : List Edge) (t p : Int) : ∀ i, (mapGet tkT (takenM E i) (t, p, ())).isSome = (List.range i).any fun j => toE E j == t && poE E j == p
  | 0 => rfl
  | i + 1 => by
    rw [List.range_succ, List.any_append, ← taken_has E t p i]
    simp only [takenM, List.any_cons, List.any_nil, Bool.or_false]
    by_cases h : ((t, p, ()) : tkT.den) = (toE E i, poE E i, ())
    · have h1 : toE E i = t := by have := congrArg (·.1) h; exact this.symm
      have h2 : poE E i = p := by have := congrArg (·.2.1) h; exact this.symm
      rw [h, mapGet_self rfl]
      simp [h1, h2]
    · rw [mapGet_other rfl _ _ _ _ h]
      have : (toE E i == t && poE E i == p) = false := by
        rw [Bool.and_eq_false_iff, beq_eq_false_iff_ne, beq_eq_false_iff_ne]
        by_cases h1 : toE E i = t
        · right; intro h2; exact h (by rw [h1, h2])
        · exact .inl h1
      rw [this, Bool.or_false]

/-- Where edges go from each node, behind so many. -/
def toW (E : List Edge) : Nat → Nat → Nat
  | 0, _ => 0
  | i + 1, a => if (a : Int) = frE E i then toW E i a ||| 2 ^ (toE E i).toNat else toW E i a
theorem toW_bit (E : List Edge) (a b : Nat) : ∀ i, (∀ j, j < i → 0 ≤ toE E j) → ((toW E i a).testBit b = true ↔ ∃ j, j < i ∧ frE E j = a ∧ toE E j = b)
  | 0, _ => by simp [toW]
  | i + 1, h => by
    have ih := toW_bit E a b i (fun j hj => h j (by omega))
    have hto := h i (by omega)
    simp only [toW]
    constructor
    · intro hb
      split at hb
      · rename_i hf
        rw [Nat.testBit_or, Bool.or_eq_true] at hb
        rcases hb with hb | hb
        · obtain ⟨j, h1, h2⟩ := ih.1 hb; exact ⟨j, by omega, h2⟩
        · rw [Nat.testBit_two_pow, decide_eq_true_eq] at hb
          exact ⟨i, by omega, hf.symm, by omega⟩
      · obtain ⟨j, h1, h2⟩ := ih.1 hb; exact ⟨j, by omega, h2⟩
    · rintro ⟨j, h1, h2, h3⟩
      by_cases hj : j = i
      · subst hj
        rw [if_pos h2.symm, Nat.testBit_or, Nat.testBit_two_pow, decide_eq_true (by omega : (toE E j).toNat = b), Bool.or_true]
      · have := ih.2 ⟨j, by omega, h2, h3⟩
        split
        · rw [Nat.testBit_or, this, Bool.true_or]
        · exact this
theorem toW_lt {E : List Edge} {n : Nat} (a : Nat) : ∀ i, (∀ j, j < i → 0 ≤ toE E j ∧ toE E j < n) → toW E i a < 2 ^ n
  | 0, _ => Nat.two_pow_pos n
  | i + 1, h => by
    have ih := toW_lt a i (fun j hj => h j (by omega))
    have hto := h i (by omega)
    simp only [toW]
    split
    · exact Nat.or_lt_two_pow ih (Nat.pow_lt_pow_right (by decide) (by omega))
    · exact ih
end

end Go.Proofs.Tryd
