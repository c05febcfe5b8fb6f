/- Lemmas on functions of the program, by name: same. -/
import Derived.Test.YtammjpalmmhokaaDoorD3Funs
import Derived.Test.YtammjpalmmhokaaDoorAbsSums
namespace Go.Proofs.Tryd
open Go Go.Abs


/-! ### Lists compared -/
theorem ref_TimesSame_same (a : List Int) (h : a.length ≤ 1000000) : ref_TimesSame (a, a, ()) = some (true, ()) := by
  unfold ref_TimesSame
  have key := loopM_for (f := ref_TimesSame_l1 (a, a, ())) a.length (fun _ => none) (Sum.inr (Sum.inl ())) (fun i hi => ?_) ?_
  · have hn : ((List.range a.length).findSome? fun _ => (none : Option ((Bool × Unit) ⊕ Unit ⊕ Empty))) = none := by simp
    rw [hn] at key
    simp only [cond_bne, if_true]
    rw [key]; rfl
  · have hi' : ((i : Int) < (a.length : Int)) := by omega
    unfold ref_TimesSame_l1
    simp only [hi', decide_true, cond_true, getI_nat, List.getElem?_eq_getElem hi, Option.bind_some, cond_bne, if_true]
    rw [wrap64 (by omega) (by omega)]
    rfl
  · simp [ref_TimesSame_l1]

end Go.Proofs.Tryd
