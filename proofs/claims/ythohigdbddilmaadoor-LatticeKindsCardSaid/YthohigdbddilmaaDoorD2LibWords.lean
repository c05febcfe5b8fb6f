/- Lemmas on functions of the program, by name: words. -/
import Derived.Test.YthohigdbddilmaaDoorD2Funs
import Derived.Test.YthohigdbddilmaaDoorAbsSums
import Derived.Test.YthohigdbddilmaaDoorD2LibSets
namespace Go.Proofs.Tryd
open Go Go.Abs


theorem ref_Words_same {l : List Int} (h : l.length ≤ 1000000) : ref_Words (l, l, ()) = some (true, ()) := by
  unfold ref_Words
  rw [cond_bne, if_pos rfl, loopM_any0 l.length () (fun _ => false) (.inl (false, ())) (.inr (.inl ())) (fun i hi => ?_) ?_]
  · simp
  · unfold ref_Words_l1
    simp
  · unfold ref_Words_l1
    have e0 : decide ((i : Int) < (l.length : Int)) = true := decide_eq_true (by omega)
    simp only [e0, cond_true, getI_nat, List.getElem?_eq_getElem hi, Option.bind_some, cond_bne, if_true]
    rw [wrap64 (by omega) (by omega)]
    rfl

end Go.Proofs.Tryd
