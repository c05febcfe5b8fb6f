/- Lemmas on functions of the program, by name: sortf. -/
import Derived.Test.YthohigdbddilmaaDoorD2Funs
import Derived.Test.YthohigdbddilmaaDoorAbsSums
import Derived.Test.YthohigdbddilmaaDoorD2LibSorted
namespace Go.Proofs.Tryd
open Go Go.Abs


theorem ordc_ok {n : Nat} {ws : List Nat} (hl : ws.length = n) (hn : n ≤ 16) (hin : Inside n ws) (o : IsOrder n ws) : ordc (n : Int) ws = 0 := by
  unfold ordc
  rw [if_neg (show ¬ (n : Int) < 0 by omega), if_neg (show ¬ (n : Int) > 16 by omega), if_neg (show ¬ (ws.length : Int) ≠ (n : Int) by omega), if_neg (show ¬ ¬ Inside (n : Int).toNat ws from fun h => h hin), if_pos (show IsOrder (n : Int).toNat ws from o)]

theorem get_clt {n i : Nat} {g : Nat → Nat} (h : i < n) : (cl (tab n g))[i]? = some ((g i : Nat) : Int) := by rw [cl_get, tab_get _ h]; rfl
/-- The greatest of the first n. -/
def maxN : Nat → (Nat → Nat) → Nat
  | 0, _ => 0
  | n + 1, f => max (maxN n f) (f n)
theorem maxN_congr {f g : Nat → Nat} : ∀ {n : Nat}, (∀ i, i < n → f i = g i) → maxN n f = maxN n g
  | 0, _ => rfl
  | n + 1, h => by rw [maxN, maxN, maxN_congr (n := n) (fun i hi => h i (by omega)), h n (by omega)]
theorem le_maxN {f : Nat → Nat} : ∀ {n i : Nat}, i < n → f i ≤ maxN n f
  | 0, _, h => by omega
  | n + 1, i, h => by
    rw [maxN]
    by_cases e : i = n
    · subst e; exact Nat.le_max_right _ _
    · exact Nat.le_trans (le_maxN (by omega)) (Nat.le_max_left _ _)
theorem maxN_le {f : Nat → Nat} {b : Nat} : ∀ {n : Nat}, (∀ i, i < n → f i ≤ b) → maxN n f ≤ b
  | 0, _ => Nat.zero_le _
  | n + 1, h => by
    rw [maxN]
    exact Nat.max_le.2 ⟨maxN_le fun i hi => h i (by omega), h n (by omega)⟩
theorem maxN_at {f : Nat → Nat} : ∀ {n : Nat}, maxN n f ≠ 0 → ∃ i, i < n ∧ f i = maxN n f
  | 0, h => absurd rfl h
  | n + 1, h => by
    rw [maxN] at h ⊢
    by_cases e : maxN n f ≤ f n
    · exact ⟨n, by omega, by omega⟩
    · obtain ⟨i, hi, h1⟩ := maxN_at (f := f) (n := n) (by omega)
      exact ⟨i, by omega, by omega⟩

theorem cntB_mono {p q : Nat → Bool} : ∀ {n : Nat}, (∀ i, i < n → p i = true → q i = true) → cntB n p ≤ cntB n q
  | 0, _ => Nat.le_refl 0
  | n + 1, h => by
    have h1 := cntB_mono (p := p) (q := q) (n := n) fun i hi => h i (by omega)
    have h2 := h n (by omega)
    rw [cntB, cntB]
    cases hp : p n
    · cases q n <;> simp <;> omega
    · rw [h2 hp]; simp; omega
theorem cntB_lt {p q : Nat → Bool} : ∀ {n : Nat}, (∀ i, i < n → p i = true → q i = true) → (∃ i, i < n ∧ q i = true ∧ p i = false) → cntB n p < cntB n q
  | 0, _, ⟨i, hi, _⟩ => by omega
  | n + 1, h, ⟨i, hi, h1, h2⟩ => by
    have hm := cntB_mono (p := p) (q := q) (n := n) fun i hi => h i (by omega)
    rw [cntB, cntB]
    by_cases e : i = n
    · subst e; rw [h1, h2]; simp; omega
    · have hlt := cntB_lt (p := p) (q := q) (n := n) (fun i hi => h i (by omega)) ⟨i, by omega, h1, h2⟩
      cases hp : p n
      · cases q n <;> simp <;> omega
      · rw [h n (by omega) hp]; simp; omega

/-- How high one can climb from an element, in k steps at most; at all. -/
def hgt (n : Nat) (ws : List Nat) : Nat → Nat → Nat
  | 0, _ => 0
  | k + 1, i => maxN n fun j => if under ws i j = true then hgt n ws k j + 1 else 0
def upC (n : Nat) (ws : List Nat) (i : Nat) : Nat := hgt n ws n i
theorem hgt_le (n : Nat) (ws : List Nat) : ∀ k i, hgt n ws k i ≤ k
  | 0, _ => Nat.le_refl 0
  | k + 1, i => by
    rw [hgt]
    refine maxN_le fun j _ => ?_
    split
    · have := hgt_le n ws k j; omega
    · omega
theorem upC_le (n : Nat) (ws : List Nat) (i : Nat) : upC n ws i ≤ n := hgt_le n ws n i
theorem cnt_lt {n : Nat} {ws : List Nat} (o : IsOrder n ws) {i j : Nat} (hi : i < n) (hj : j < n) (h : under ws i j = true) : cntB n (under ws j) < cntB n (under ws i) :=
  cntB_lt (fun k hk hjk => under_trans o hi hj hk h hjk) ⟨j, hj, h, by unfold under; simp⟩
theorem hgt_stop {n : Nat} {ws : List Nat} (o : IsOrder n ws) : ∀ m i, i < n → cntB n (under ws i) ≤ m → hgt n ws m i = hgt n ws (m + 1) i
  | 0, i, hi, h => by
    rw [hgt, hgt]
    symm
    refine Nat.le_zero.1 (maxN_le fun j hj => ?_)
    split
    · rename_i hu
      have := cnt_lt o hi hj hu
      omega
    · exact Nat.le_refl 0
  | m + 1, i, hi, h => by
    rw [hgt, hgt]
    refine maxN_congr fun j hj => ?_
    split
    · rename_i hu
      have := cnt_lt o hi hj hu
      rw [hgt_stop o m j hj (by omega)]
    · rfl
theorem upC_fix {n : Nat} {ws : List Nat} (o : IsOrder n ws) {i : Nat} (hi : i < n) : upC n ws i = maxN n fun j => if under ws i j = true then upC n ws j + 1 else 0 := by
  have := hgt_stop o n i hi (cntB_le _ n)
  rw [hgt] at this
  exact this
theorem upC_step {n : Nat} {ws : List Nat} (o : IsOrder n ws) {i j : Nat} (hi : i < n) (hj : j < n) (h : under ws i j = true) : upC n ws j + 1 ≤ upC n ws i := by
  rw [upC_fix o hi]
  have := le_maxN (f := fun j => if under ws i j = true then upC n ws j + 1 else 0) hj
  simpa [h] using this
theorem upC_next {n : Nat} {ws : List Nat} (o : IsOrder n ws) {i m : Nat} (hi : i < n) (h : upC n ws i = m + 1) : ∃ j, j < n ∧ under ws i j = true ∧ upC n ws j = m := by
  rw [upC_fix o hi] at h
  obtain ⟨j, hj, h1⟩ := maxN_at (f := fun j => if under ws i j = true then upC n ws j + 1 else 0) (n := n) (by omega)
  by_cases hu : under ws i j = true
  · rw [if_pos hu] at h1; exact ⟨j, hj, hu, by omega⟩
  · rw [if_neg hu] at h1; omega

/-! The sorted list. -/
theorem nodup_inj {l : List Nat} (h : l.Nodup) {i j : Nat} (hi : i < l.length) (hj : j < l.length) (e : l[i] = l[j]) : i = j := by
  rw [List.nodup_iff_pairwise_ne, List.pairwise_iff_getElem] at h
  by_cases h1 : i < j
  · exact absurd e (h i j hi hj h1)
  · by_cases h2 : j < i
    · exact absurd e.symm (h j i hj hi h2)
    · omega
theorem nodup_le : ∀ {n : Nat} {l : List Nat}, l.Nodup → (∀ i ∈ l, i < n) → l.length ≤ n
  | 0, l, _, h => by
    cases l with
    | nil => exact Nat.le_refl 0
    | cons a l => exact absurd (h a (List.mem_cons_self ..)) (by omega)
  | n + 1, l, hd, h => by
    have h1 : (l.erase n).length ≤ n := nodup_le (hd.erase n) fun i hi => by
      have h2 := h i (List.mem_of_mem_erase hi)
      have h3 : i ≠ n := fun e => by subst e; exact absurd hi (hd.not_mem_erase)
      omega
    rw [List.length_erase] at h1
    split at h1 <;> omega

theorem sortTo_nodup {n : Nat} {ws : List Nat} (o : IsOrder n ws) : ∀ k, k ≤ n → (sortTo n ws k).Nodup
  | 0, _ => List.nodup_nil
  | k + 1, hk => by
    have ih := sortTo_nodup o k (by omega)
    obtain ⟨j, hj⟩ := next_some o (l := sortTo n ws k) (by rw [sortTo_length]; omega)
    have hc := (next_ready hj).2.1
    rw [sortTo, hj]
    refine List.nodup_append.2 ⟨ih, by simp, fun a ha b hb => ?_⟩
    have : b = j := by simpa using hb
    subst this
    intro e
    subst e
    rw [← List.contains_iff_mem, hc] at ha
    cases ha
theorem sortTo_all {n : Nat} {ws : List Nat} (o : IsOrder n ws) {i : Nat} (hi : i < n) : i ∈ sortTo n ws n := Classical.byContradiction fun h => by
  have h1 : (sortTo n ws n ++ [i]).Nodup := List.nodup_append.2 ⟨sortTo_nodup o n (Nat.le_refl n), by simp, fun a ha b hb e => by
    have : b = i := by simpa using hb
    subst this; subst e; exact h ha⟩
  have h2 := nodup_le (n := n) h1 fun x hx => by
    rcases List.mem_append.1 hx with hx | hx
    · exact sortTo_lt o n (Nat.le_refl n) x hx
    · have : x = i := by simpa using hx
      omega
  rw [List.length_append, sortTo_length, List.length_singleton] at h2
  omega
theorem sortTo_take (n : Nat) (ws : List Nat) {p : Nat} : ∀ k, p ≤ k → (sortTo n ws k).take p = sortTo n ws p
  | 0, h => by have : p = 0 := by omega
               subst this; rfl
  | k + 1, h => by
    by_cases e : p = k + 1
    · subst e; rw [List.take_of_length_le (by rw [sortTo_length]; omega)]
    · rw [sortTo, List.take_append_of_le_length (by rw [sortTo_length]; omega), sortTo_take n ws k (by omega)]
theorem sortTo_get {n : Nat} {ws : List Nat} (o : IsOrder n ws) {p : Nat} (hp : p < n) : nextOf n ws (sortTo n ws p) = some ((sortTo n ws n).getD p 0) := by
  obtain ⟨j, hj⟩ := next_some o (l := sortTo n ws p) (by rw [sortTo_length]; omega)
  have h1 := sortTo_take n ws (p := p + 1) n (by omega)
  have h2 : (sortTo n ws n)[p]? = some j := by
    have : ((sortTo n ws n).take (p + 1))[p]? = (sortTo n ws n)[p]? := List.getElem?_take_of_lt (by omega)
    rw [← this, h1, sortTo, hj, List.getElem?_append_right (by rw [sortTo_length]; omega), sortTo_length, Nat.sub_self]
    rfl
  rw [hj, List.getD_eq_getElem?_getD, h2]; rfl
theorem sort_pos {n : Nat} {ws : List Nat} (o : IsOrder n ws) {p : Nat} (hp : p < n) : (sortTo n ws n).drop p = (sortTo n ws n).getD p 0 :: (sortTo n ws n).drop (p + 1) := by
  have hl : p < (sortTo n ws n).length := by rw [sortTo_length]; exact hp
  rw [List.drop_eq_getElem_cons hl, List.getD_eq_getElem?_getD, List.getElem?_eq_getElem hl]; rfl
theorem sort_notin {n : Nat} {ws : List Nat} (o : IsOrder n ws) {p : Nat} (hp : p < n) : (sortTo n ws n).getD p 0 ∉ (sortTo n ws n).drop (p + 1) := by
  have h := List.Nodup.sublist (List.drop_sublist p _) (sortTo_nodup o n (Nat.le_refl n))
  rw [sort_pos o hp] at h
  exact (List.nodup_cons.1 h).1
/-- What is above the element at a place stands behind it. -/
theorem sort_above {n : Nat} {ws : List Nat} (o : IsOrder n ws) {p j : Nat} (hp : p < n) (hj : j < n) (h : under ws ((sortTo n ws n).getD p 0) j = true) : j ∈ (sortTo n ws n).drop (p + 1) := by
  have hm := sortTo_all o hj
  rw [← List.take_append_drop (p + 1) (sortTo n ws n), List.mem_append] at hm
  rcases hm with hm | hm
  · exfalso
    obtain ⟨q, hq, e⟩ := List.getElem_of_mem hm
    rw [List.length_take, sortTo_length] at hq
    have hq' : q < n := by omega
    have e1 : (sortTo n ws n).getD q 0 = j := by
      rw [List.getElem_take] at e
      rw [List.getD_eq_getElem?_getD, List.getElem?_eq_getElem (by rw [sortTo_length]; omega), e]; rfl
    have hr := (next_ready (sortTo_get o hq')).2.2 _ (sortTo_lt o n (Nat.le_refl n) _ (List.mem_of_getElem? (getD_get (d := 0) (by rw [sortTo_length]; exact hp)))) (by rw [e1]; exact h)
    rw [List.contains_iff_mem, ← sortTo_take n ws n (by omega : q ≤ n)] at hr
    have h2 := List.Nodup.sublist (List.take_sublist (p + 1) _) (sortTo_nodup o n (Nat.le_refl n))
    obtain ⟨t, ht, e2⟩ := List.getElem_of_mem hr
    rw [List.length_take, sortTo_length] at ht
    rw [List.getElem_take] at e2
    have hps : (sortTo n ws n)[p]'(by rw [sortTo_length]; exact hp) = (sortTo n ws n).getD p 0 := by
      rw [List.getD_eq_getElem?_getD, List.getElem?_eq_getElem (by rw [sortTo_length]; exact hp)]; rfl
    have := nodup_inj (sortTo_nodup o n (Nat.le_refl n)) (i := t) (j := p) (by rw [sortTo_length]; omega) (by rw [sortTo_length]; exact hp) (e2.trans hps.symm)
    omega
  · exact hm

end Go.Proofs.Tryd
