/- The plain law: for any node, what the functions of 'watershedlaw.GraphSums' compute is true. -/
import Derived.Test.YtdinlimamfpboaaGraphSumsFuns
namespace Go.Proofs.Try
open Go Go.Abs

abbrev NodeD := Int × (Int × ((Int × (Int × (Int × Unit))) × Unit))

def May (k n : Int) : Prop := (k = 1 ∧ n = 1) ∨ (k = 4 ∧ 1 ≤ n ∧ n ≤ 3) ∨ ((k = 5 ∨ k = 6) ∧ 2 ≤ n ∧ n ≤ 4) ∨ ((k = 2 ∨ k = 3) ∧ 1 ≤ n ∧ n ≤ 4)
instance (k n : Int) : Decidable (May k n) := by unfold May; infer_instance

theorem dec_some {p q : Prop} [Decidable p] [Decidable q] (h : p ↔ q) : some (decide p, ()) = some (decide q, ()) := by
  have : decide p = decide q := by
    by_cases hp : p
    · simp [hp, h.1 hp]
    · have hq : ¬ q := fun hq => hp (h.2 hq)
      simp [hp, hq]
  rw [this]

theorem t_some {q : Prop} [Decidable q] (h : q) : some (true, ()) = some (decide q, ()) := by simp [h]
theorem f_some {q : Prop} [Decidable q] (h : ¬ q) : some (false, ()) = some (decide q, ()) := by simp [h]

theorem w3 : IntKind.i64.wrap ((4 : Int) - 1) = 3 := by rw [wrap64 (by omega) (by omega)]; rfl
theorem w2 : IntKind.i64.wrap ((1 : Int) + 1) = 2 := by rw [wrap64 (by omega) (by omega)]; rfl

theorem sh39_eq (x : NodeD) : sh39 (x, ()) = some (decide (May x.1 x.2.1), ()) := by
  obtain ⟨k, n, r⟩ := x
  unfold sh39
  simp only [cond_beq, cond_dec, w3, w2]
  by_cases h1 : k = 1
  · simp only [h1, if_true]
    split
    · exact dec_some (by unfold May; omega)
    · exact f_some (by unfold May; omega)
  · by_cases h4 : k = 4
    · simp only [h4, if_true]
      rw [if_neg (by omega)]
      split
      · exact dec_some (by unfold May; omega)
      · exact f_some (by unfold May; omega)
    · rw [if_neg h1, if_neg h4]
      by_cases h5 : k = 5
      · rw [if_pos h5]
        simp only [Option.bind_some, Sum.elim_inl, h5, BEq.rfl, cond_true]
        split
        · exact dec_some (by unfold May; omega)
        · exact f_some (by unfold May; omega)
      · rw [if_neg h5]
        simp only [Option.bind_some, Sum.elim_inl, cond_beq]
        by_cases h6 : k = 6
        · rw [if_pos h6]
          split
          · exact dec_some (by unfold May; omega)
          · exact f_some (by unfold May; omega)
        · rw [if_neg h6]
          by_cases h2 : k = 2
          · rw [if_pos h2, if_pos h2]
            split
            · exact dec_some (by unfold May; omega)
            · exact f_some (by unfold May; omega)
          · rw [if_neg h2]
            by_cases h3 : k = 3
            · rw [if_pos h3]
              split
              · exact dec_some (by unfold May; omega)
              · exact f_some (by unfold May; omega)
            · rw [if_neg h3]
              exact f_some (by unfold May; omega)

theorem sh10_eq (x : NodeD) : sh10 (x, ()) = some (decide (May x.1 x.2.1), ()) := by
  obtain ⟨k, n, r⟩ := x
  unfold sh10
  simp only [cond_beq, cond_bne, cond_dec]
  repeat' split
  all_goals first | exact t_some (by unfold May; omega) | exact f_some (by unfold May; omega) | exact dec_some (by unfold May; omega)

theorem sh17_same (a : List Int) (h : a.length ≤ 1) : sh17 (a, a, ()) = some (true, ()) := by
  unfold sh17
  match a, h with
  | [], _ =>
    simp only [cond_bne, if_true]
    rw [loopM_unfold]; rfl
  | [v], _ =>
    simp only [cond_bne, if_true]
    rw [loopM_unfold]
    have h1 : (decide ((0 : Int) < (([v] : List Int).length : Int))) = true := rfl
    simp only [h1, cond_true, show getI [v] 0 = some v from rfl, Option.bind_some, if_true]
    rw [wrap64 (by omega) (by omega), loopM_unfold]
    rfl

theorem sh11_same (p q : Int) (l : List Int) (h : l.length ≤ 1) : sh11 ((p, q, l, ()), (p, q, l, ()), ()) = some (true, ()) := by
  unfold sh11
  simp only [cond_beq, if_true, sh17_same l h, Option.bind_some]

/-- THE LAW. -/
theorem graphSums (x : NodeD) : sh3 (x, ()) = some (true, ()) := by
  unfold sh3 sh9
  simp only [sh39_eq, sh10_eq, Option.bind_some]
  by_cases hm : May x.1 x.2.1
  · simp only [hm, decide_true, Bool.not_true, cond_false, cond_beq, Option.bind_some]
    unfold sh12
    simp only [cond_beq]
    repeat' split
    all_goals first | (simp only [Option.bind_some, if_true, sh11_same _ _ _ (by simp : ([0] : List Int).length ≤ 1)]; done) | (simp only [Option.bind_some, if_true, sh11_same _ _ _ (by simp : ([] : List Int).length ≤ 1)]; done) | contradiction | skip
  · simp only [hm, decide_false, Bool.not_false, cond_true, cond_beq, Option.bind_some, if_true, sh11_same _ _ _ (by simp : ([] : List Int).length ≤ 1)]

end Go.Proofs.Try
