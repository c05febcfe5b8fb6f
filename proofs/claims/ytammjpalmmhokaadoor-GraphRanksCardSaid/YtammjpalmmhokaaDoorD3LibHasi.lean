/- Lemmas on functions of the program, by name: hasi. -/
import Derived.Test.YtammjpalmmhokaaDoorD3Funs
import Derived.Test.YtammjpalmmhokaaDoorAbsSums
import Derived.Test.YtammjpalmmhokaaDoorD3LibSets
namespace Go.Proofs.Tryd
open Go Go.Abs


theorem ref_Has_eq {l : List Nat} (h : l.length ≤ 1000000) (i : Nat) : ref_Has (cl l, (i : Int), ()) = some (l.contains i, ()) := by
  have key := loopM_stop (f := ref_Has_l1 (cl l, (i : Int), ())) l.length (fun k => ((k : Int), ())) (fun k => cond (decide (l.getD k 0 = i)) (some (.inl (true, ()))) none) (.inr (.inl ())) (fun k hk => by
    unfold ref_Has_l1
    simp (disch := first | assumption | omega) only [cond_true, Option.bind_some, dcT, getI_cl, wrapS, length_cl]
    by_cases e : l.getD k 0 = i
    · simp (disch := first | assumption | omega) only [decide_true, cond_true, e, beqT]
    · simp (disch := first | assumption | omega) only [decide_false, cond_false, e, beqF]) (by
    unfold ref_Has_l1
    simp (disch := first | assumption | omega) only [cond_false, dcF, wrapS, length_cl])
  unfold ref_Has
  rw [show ((0 : Int), ()) = (((0 : Nat) : Int), ()) from rfl, key]
  rcases first_cases l.length (fun k => decide (l.getD k 0 = i)) with ⟨k, hk, hb, -, he⟩ | ⟨hb, he⟩
  · have : l.contains i = true := by
      rw [List.contains_iff_mem]
      have e := getD_get (d := 0) hk
      rw [decide_eq_true_eq] at hb
      rw [hb] at e
      exact List.mem_of_getElem? e
    simp (disch := first | assumption | omega) only [Option.bind_some, Sum.elim_inl, he, this]
  · have : l.contains i = false := by
      rw [← Bool.not_eq_true, List.contains_iff_mem]
      intro hm
      obtain ⟨k, hk, e⟩ := List.getElem_of_mem hm
      have h2 := hb k hk
      rw [List.getD_eq_getElem?_getD, List.getElem?_eq_getElem hk] at h2
      simp [e] at h2
    simp (disch := first | assumption | omega) only [Option.bind_some, Sum.elim_inl, Sum.elim_inr, he, this]

end Go.Proofs.Tryd
