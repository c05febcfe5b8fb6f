/- Lemmas on functions of the program, by name: longs. -/
import Derived.Test.YthohigdbddilmaaDoorD2Funs
import Derived.Test.YthohigdbddilmaaDoorAbsSums
import Derived.Test.YthohigdbddilmaaDoorD2LibStep
namespace Go.Proofs.Tryd
open Go Go.Abs


theorem ref_Longs_same {l : List Int} (h : l.length ≤ 1000000) : ref_Longs (l, l, ()) = some (true, ()) := by
  unfold ref_Longs
  rw [bneF rfl, cond_false, loopM_any0 l.length () (fun _ => false) (.inl (false, ())) (.inr (.inl ())) (fun i hi => ?_) ?_]
  · simp
  · unfold ref_Longs_l1
    simp (disch := first | assumption | omega) only [cond_false, dcF, wrapS]
  · unfold ref_Longs_l1
    simp (disch := first | assumption | omega) only [cond_true, cond_false, Option.bind_some, dcT, wrapS, Bool.false_eq_true, if_false, getI_int, bneF] <;> rfl

end Go.Proofs.Tryd
