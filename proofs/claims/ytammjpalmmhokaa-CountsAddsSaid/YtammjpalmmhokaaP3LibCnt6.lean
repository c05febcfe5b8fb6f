/- Lemmas on functions of the program, by name: cnt6. -/
import Derived.Test.YtammjpalmmhokaaP3Funs
import Derived.Test.YtammjpalmmhokaaAbsSums
import Derived.Test.YtammjpalmmhokaaP3LibCnt5
namespace Go.Proofs.Try
open Go Go.Abs


/-! The program's Add and Sum. -/
def apartB (c d : List Cn) : Bool := decide (0 < c.length) && (decide (0 < d.length) && ((((c.getD 0 cz).1.length : Int)) != ((d.getD 0 cz).1.length : Int)))
theorem counts_apart_eq (c d : List Cn) : counts_apart (c, d, ()) = some (apartB c d, ()) := by
  unfold counts_apart apartB
  by_cases h : 0 < c.length
  · rw [decide_eq_true h, dcT (show (c.length : Int) > 0 by omega), cond_true, Bool.true_and]
    by_cases h2 : 0 < d.length
    · rw [decide_eq_true h2, dcT (show (d.length : Int) > 0 by omega), cond_true, Bool.true_and, getI_D cz (show (0 : Int) ≤ 0 by omega) (show (0 : Int) < (c.length : Int) by omega), getI_D cz (show (0 : Int) ≤ 0 by omega) (show (0 : Int) < (d.length : Int) by omega)]
      rfl
    · rw [decide_eq_false h2, dcF (show ¬ (d.length : Int) > 0 by omega)]; rfl
  · rw [decide_eq_false h, dcF (show ¬ (c.length : Int) > 0 by omega)]; rfl

theorem tally_ok {c : List Cn} (h : Tally c) : okC c := fun x hx => ⟨(chk_zero (h.fine x hx).1).2.1, h.num x hx⟩
theorem both_fine {c d : List Cn} (hc : Tally c) (hd : ∀ x ∈ d, chk x.1 = 0 ∧ x.1.length = (d.getD 0 cz).1.length) (ha : apartB c d = false) : ∃ n : Nat, ∀ t ∈ c.map (·.1) ++ d.map (·.1), chk t = 0 ∧ t.length = n := by
  cases c with
  | nil =>
    refine ⟨(d.getD 0 cz).1.length, fun t ht => ?_⟩
    rw [List.map_nil, List.nil_append] at ht
    obtain ⟨x, hx, rfl⟩ := List.mem_map.1 ht
    exact hd x hx
  | cons x c =>
    refine ⟨x.1.length, fun t ht => ?_⟩
    rcases List.mem_append.1 ht with ht | ht
    · obtain ⟨z, hz, rfl⟩ := List.mem_map.1 ht
      exact hc.fine z hz
    · obtain ⟨z, hz, rfl⟩ := List.mem_map.1 ht
      have h1 := hd z hz
      cases d with
      | nil => cases hz
      | cons y d =>
        unfold apartB at ha
        rw [decide_eq_true (by simp), decide_eq_true (by simp), Bool.true_and, Bool.true_and] at ha
        simp only [bne_eq_false_iff_eq] at ha
        refine ⟨h1.1, h1.2.trans ?_⟩
        have : (((x :: c).getD 0 cz).1.length : Int) = (((y :: d).getD 0 cz).1.length : Int) := ha
        have e1 : ((x :: c).getD 0 cz).1.length = x.1.length := rfl
        omega

theorem sum_same {c d : List Cn} (hc : Tally c) (hd : Tally d) (ha : apartB c d = false) : counts_merge (c, d, ()) = some (emit [] (mergeM c d)) ∧ ref_CountsBoth (c, d, ()) = some (emit [] (mergeM c d)) ∧ ref_Counts ((emit [] (mergeM c d)).1, (emit [] (mergeM c d)).1, ()) = some (true, ()) := by
  obtain ⟨n, hf⟩ := both_fine hc hd.fine ha
  have l1 := hc.len
  have l2 := hd.len
  refine ⟨counts_merge_eq (tally_ok hc) (tally_ok hd) (by omega), ref_CountsBoth_eq (tally_ok hc) (tally_ok hd) l1 l2 hc.up hd.up n hf, ref_Counts_same (by have := emit_len (mergeM c d) []; omega) (emit_ok (fun x hx => ?_) [] (fun x hx => by cases hx))⟩
  have hm := (merge_mem c d x.1).1 (List.mem_map.2 ⟨x, hx, rfl⟩)
  have := hf x.1 (List.mem_append.2 hm)
  exact (chk_zero this.1).2.1

end Go.Proofs.Try
