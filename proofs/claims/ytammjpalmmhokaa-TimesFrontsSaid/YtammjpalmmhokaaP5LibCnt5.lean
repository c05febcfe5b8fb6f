/- Lemmas on functions of the program, by name: cnt5. -/
import Derived.Test.YtammjpalmmhokaaP5Funs
import Derived.Test.YtammjpalmmhokaaAbsSums
import Derived.Test.YtammjpalmmhokaaP5LibCnt4
namespace Go.Proofs.Try
open Go Go.Abs


/-! The document's sum. -/
def ofC (c : List Cn) (t : List Int) : Int := (c.map fun x => if x.1 = t then x.2.1 else 0).sum
theorem ofC_nil (t : List Int) : ofC [] t = 0 := rfl
theorem ofC_cons (x : Cn) (c : List Cn) (t : List Int) : ofC (x :: c) t = (if x.1 = t then x.2.1 else 0) + ofC c t := by
  unfold ofC; rw [List.map_cons, List.sum_cons]
theorem ofC_none {c : List Cn} {t : List Int} (h : ∀ x ∈ c, x.1 ≠ t) : ofC c t = 0 := by
  induction c with
  | nil => rfl
  | cons x c ih =>
    rw [ofC_cons, if_neg (h x (List.mem_cons_self ..)), ih fun y hy => h y (List.mem_cons_of_mem _ hy)]; rfl
theorem ofC_snoc (c : List Cn) (x : Cn) (t : List Int) : ofC (c ++ [x]) t = ofC c t + if x.1 = t then x.2.1 else 0 := by
  induction c with
  | nil => rw [List.nil_append, ofC_cons, ofC_nil]; omega
  | cons y c ih => rw [List.cons_append, ofC_cons, ofC_cons, ih]; omega
theorem ofC_le {c : List Cn} (h : okC c) (t : List Int) : -(c.length * 1099511627776 : Int) ≤ ofC c t ∧ ofC c t ≤ (c.length * 1099511627776 : Int) := by
  induction c with
  | nil => exact ⟨by rw [ofC_nil]; simp, by rw [ofC_nil]; simp⟩
  | cons x c ih =>
    have h1 := ih (okC_tail h)
    have h2 := okC_head h
    rw [ofC_cons, List.length_cons]
    split <;> omega

/-! The two are one. -/
def up (l : List (List Int)) : Prop := l.Pairwise fun a b => cmpL a b < 0
theorem up_same : ∀ {l m : List (List Int)}, up l → up m → (∀ t, t ∈ l ↔ t ∈ m) → l = m
  | [], [], _, _, _ => rfl
  | [], b :: m, _, _, h => absurd ((h b).2 (List.mem_cons_self ..)) (by simp)
  | a :: l, [], _, _, h => absurd ((h a).1 (List.mem_cons_self ..)) (by simp)
  | a :: l, b :: m, h1, h2, h => by
    have p1 := List.pairwise_cons.1 h1
    have p2 := List.pairwise_cons.1 h2
    have hab : a = b := by
      rcases List.mem_cons.1 ((h a).1 (List.mem_cons_self ..)) with e | ha
      · exact e
      · rcases List.mem_cons.1 ((h b).2 (List.mem_cons_self ..)) with e | hb
        · exact e.symm
        · exact absurd (cmpL_trans (p2.1 a ha) (p1.1 b hb)) (cmpL_irr b)
    subst hab
    rw [up_same p1.2 p2.2 fun t => ?_]
    constructor
    · intro ht
      rcases List.mem_cons.1 ((h t).1 (List.mem_cons_of_mem _ ht)) with e | ht'
      · exact absurd (p1.1 t ht) (e ▸ cmpL_irr _)
      · exact ht'
    · intro ht
      rcases List.mem_cons.1 ((h t).2 (List.mem_cons_of_mem _ ht)) with e | ht'
      · exact absurd (p2.1 t ht) (e ▸ cmpL_irr _)
      · exact ht'

theorem merge_mem : ∀ (c d : List Cn) (t : List Int), t ∈ (mergeM c d).map (·.1) ↔ t ∈ c.map (·.1) ∨ t ∈ d.map (·.1)
  | [], d, t => by rw [mergeM_nil]; simp
  | x :: c, [], t => by rw [mergeM_nil2]; simp
  | x :: c, y :: d, t => by
    rw [mergeM]
    split
    · rw [List.map_cons, List.mem_cons, merge_mem c (y :: d) t]; simp only [List.map_cons, List.mem_cons, or_assoc]
    · split
      · rw [List.map_cons, List.mem_cons, merge_mem (x :: c) d t, List.map_cons (l := d), List.mem_cons]
        exact or_left_comm
      · rename_i h1 h2
        have he : x.1 = y.1 := cmpL_eq.1 (by omega)
        rw [List.map_cons, List.mem_cons, merge_mem c d t, List.map_cons, List.mem_cons, List.map_cons, List.mem_cons, ← he]
        constructor
        · rintro (h | h | h)
          · exact .inl (.inl h)
          · exact .inl (.inr h)
          · exact .inr (.inr h)
        · rintro ((h | h) | h | h)
          · exact .inl h
          · exact .inr (.inl h)
          · exact .inl h
          · exact .inr (.inr h)
termination_by c d => c.length + d.length

theorem up_tail {x : Cn} {c : List Cn} (h : up ((x :: c).map (·.1))) : up (c.map (·.1)) := (List.pairwise_cons.1 (by rw [List.map_cons] at h; exact h)).2
theorem up_head {x : Cn} {c : List Cn} (h : up ((x :: c).map (·.1))) {t : List Int} (ht : t ∈ c.map (·.1)) : cmpL x.1 t < 0 := (List.pairwise_cons.1 (by rw [List.map_cons] at h; exact h)).1 t ht

theorem merge_up : ∀ (c d : List Cn), up (c.map (·.1)) → up (d.map (·.1)) → up ((mergeM c d).map (·.1))
  | [], d, _, h => by rw [mergeM_nil]; exact h
  | x :: c, [], h, _ => by rw [mergeM_nil2]; exact h
  | x :: c, y :: d, h1, h2 => by
    rw [mergeM]
    split
    · rename_i hlt
      rw [List.map_cons]
      refine List.pairwise_cons.2 ⟨fun t ht => ?_, merge_up c (y :: d) (up_tail h1) h2⟩
      rcases (merge_mem c (y :: d) t).1 ht with h | h
      · exact up_head h1 h
      · rw [List.map_cons] at h
        rcases List.mem_cons.1 h with rfl | h
        · exact hlt
        · exact cmpL_trans hlt (up_head h2 h)
    · split
      · rename_i _ hgt
        have hyx : cmpL y.1 x.1 < 0 := by rw [cmpL_neg]; omega
        rw [List.map_cons]
        refine List.pairwise_cons.2 ⟨fun t ht => ?_, merge_up (x :: c) d h1 (up_tail h2)⟩
        rcases (merge_mem (x :: c) d t).1 ht with h | h
        · rw [List.map_cons] at h
          rcases List.mem_cons.1 h with rfl | h
          · exact hyx
          · exact cmpL_trans hyx (up_head h1 h)
        · exact up_head h2 h
      · rename_i n1 n2
        have he : x.1 = y.1 := cmpL_eq.1 (by omega)
        rw [List.map_cons]
        refine List.pairwise_cons.2 ⟨fun t ht => ?_, merge_up c d (up_tail h1) (up_tail h2)⟩
        rcases (merge_mem c d t).1 ht with h | h
        · exact up_head h1 h
        · have := up_head h2 h
          rw [← he] at this
          exact this
termination_by c d => c.length + d.length

theorem not_head {x : Cn} {c : List Cn} (h : up ((x :: c).map (·.1))) : ∀ z ∈ c, z.1 ≠ x.1 := fun z hz e => by
  have := up_head h (List.mem_map.2 ⟨z, hz, rfl⟩)
  rw [e] at this
  exact cmpL_irr _ this
theorem not_below {y : Cn} {d : List Cn} {t : List Int} (h : up ((y :: d).map (·.1))) (ht : cmpL t y.1 < 0) : ∀ z ∈ y :: d, z.1 ≠ t := fun z hz e => by
  rcases List.mem_cons.1 hz with rfl | hz
  · rw [e] at ht; exact cmpL_irr _ ht
  · have := cmpL_trans ht (up_head h (List.mem_map.2 ⟨z, hz, rfl⟩))
    rw [e] at this
    exact cmpL_irr _ this

theorem merge_val : ∀ (c d : List Cn), up (c.map (·.1)) → up (d.map (·.1)) → ∀ z ∈ mergeM c d, z.2.1 = ofC c z.1 + ofC d z.1
  | [], d, _, h => by
    rw [mergeM_nil]
    intro z hz
    rw [ofC_nil, Int.zero_add]
    induction d with
    | nil => cases hz
    | cons y d ih =>
      rw [ofC_cons]
      rcases List.mem_cons.1 hz with rfl | hz
      · rw [if_pos rfl, ofC_none (not_head h), Int.add_zero]
      · rw [if_neg (fun e => not_head h z hz e.symm), Int.zero_add]; exact ih (up_tail h) hz
  | x :: c, [], h, _ => by
    rw [mergeM_nil2]
    intro z hz
    rw [ofC_nil, Int.add_zero]
    generalize x :: c = l at *
    induction l with
    | nil => cases hz
    | cons y d ih =>
      rw [ofC_cons]
      rcases List.mem_cons.1 hz with rfl | hz
      · rw [if_pos rfl, ofC_none (not_head h), Int.add_zero]
      · rw [if_neg (fun e => not_head h z hz e.symm), Int.zero_add]; exact ih (up_tail h) hz
  | x :: c, y :: d, h1, h2 => by
    rw [mergeM]
    split
    · rename_i hlt
      intro z hz
      rcases List.mem_cons.1 hz with rfl | hz
      · rw [ofC_cons, if_pos rfl, ofC_none (not_head h1), ofC_none (not_below h2 hlt)]; omega
      · have hk := (merge_mem c (y :: d) z.1).1 (List.mem_map.2 ⟨z, hz, rfl⟩)
        have hne : x.1 ≠ z.1 := fun e => by
          rcases hk with h | h
          · have := up_head h1 h; rw [e] at this; exact cmpL_irr _ this
          · obtain ⟨w, hw, hwe⟩ := List.mem_map.1 h
            exact not_below h2 hlt w hw (hwe.trans e.symm)
        rw [merge_val c (y :: d) (up_tail h1) h2 z hz, ofC_cons x, if_neg hne]; omega
    · split
      · rename_i _ hgt
        have hyx : cmpL y.1 x.1 < 0 := by rw [cmpL_neg]; omega
        intro z hz
        rcases List.mem_cons.1 hz with rfl | hz
        · rw [ofC_cons z, if_pos rfl, ofC_none (not_head h2), ofC_none (not_below h1 hyx)]; omega
        · have hk := (merge_mem (x :: c) d z.1).1 (List.mem_map.2 ⟨z, hz, rfl⟩)
          have hne : y.1 ≠ z.1 := fun e => by
            rcases hk with h | h
            · obtain ⟨w, hw, hwe⟩ := List.mem_map.1 h
              exact not_below h1 hyx w hw (hwe.trans e.symm)
            · have := up_head h2 h; rw [e] at this; exact cmpL_irr _ this
          rw [merge_val (x :: c) d h1 (up_tail h2) z hz, ofC_cons y, if_neg hne]; omega
      · rename_i n1 n2
        have he : x.1 = y.1 := cmpL_eq.1 (by omega)
        intro z hz
        rcases List.mem_cons.1 hz with rfl | hz
        · simp only
          rw [ofC_cons, if_pos rfl, ofC_cons, if_pos he.symm, ofC_none (not_head h1), he, ofC_none (not_head h2)]; omega
        · have hk := (merge_mem c d z.1).1 (List.mem_map.2 ⟨z, hz, rfl⟩)
          have hne : x.1 ≠ z.1 := fun e => by
            rcases hk with h | h
            · have := up_head h1 h; rw [e] at this; exact cmpL_irr _ this
            · have := up_head h2 h; rw [← he, e] at this; exact cmpL_irr _ this
          rw [merge_val c d (up_tail h1) (up_tail h2) z hz, ofC_cons x, if_neg hne, ofC_cons y, if_neg (he ▸ hne)]; omega
termination_by c d => c.length + d.length

theorem merge_is {c d : List Cn} (h1 : up (c.map (·.1))) (h2 : up (d.map (·.1))) : mergeM c d = (sortT (c.map (·.1) ++ d.map (·.1))).map fun t => (t, ofC c t + ofC d t, ()) := by
  have hk : (mergeM c d).map (·.1) = sortT (c.map (·.1) ++ d.map (·.1)) := by
    obtain ⟨s1, s2, s3⟩ := sort_facts (c.map (·.1) ++ d.map (·.1))
    refine up_same (merge_up c d h1 h2) s3 fun t => ?_
    rw [merge_mem, s2, List.mem_append]
  rw [← hk, List.map_map]
  have := List.map_congr_left (l := mergeM c d) (f := id) (g := (fun t => ((t, ofC c t + ofC d t, ()) : Cn)) ∘ fun x => x.1) fun z hz => by
    have := merge_val c d h1 h2 z hz
    show z = (z.1, ofC c z.1 + ofC d z.1, ())
    rw [← this]
  rw [← this, List.map_id]

theorem emit_len (M : List Cn) : ∀ acc : List Cn, (emit acc M).1.length ≤ 64 := by
  induction M with
  | nil =>
    intro acc
    unfold emit
    split
    · exact Nat.zero_le _
    · show acc.length ≤ 64; omega
  | cons x M ih =>
    intro acc
    unfold emit
    split
    · exact Nat.zero_le _
    · exact ih _
theorem emit_ok {M : List Cn} (hM : ∀ x ∈ M, x.1.length ≤ 4) : ∀ acc : List Cn, (∀ x ∈ acc, x.1.length ≤ 4) → ∀ x ∈ (emit acc M).1, x.1.length ≤ 4 := by
  induction M with
  | nil =>
    intro acc ha
    unfold emit
    split
    · intro x hx; cases hx
    · exact ha
  | cons y M ih =>
    intro acc ha
    unfold emit
    split
    · intro x hx; cases hx
    · refine ih (fun x hx => hM x (List.mem_cons_of_mem _ hx)) _ ?_
      split
      · exact ha
      · intro x hx
        rcases List.mem_append.1 hx with h | h
        · exact ha x h
        · rw [List.mem_singleton] at h; subst h; exact hM x (List.mem_cons_self ..)

end Go.Proofs.Try
