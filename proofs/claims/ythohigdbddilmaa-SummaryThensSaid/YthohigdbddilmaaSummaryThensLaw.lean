/- The plain law of SummaryThens. -/
import Derived.Test.YthohigdbddilmaaP2Funs
import Derived.Test.YthohigdbddilmaaAbsSums
import Derived.Test.YthohigdbddilmaaP2LibThens
import Derived.Test.YthohigdbddilmaaP2LibSame
namespace Go.Proofs.Try
open Go Go.Abs


theorem ref_SummarySame_same {n d : Int} {l : List Int} (h : l.length ≤ 1000000) : ref_SummarySame ((n, d, l, ()), (n, d, l, ()), ()) = some (true, ()) := by
  unfold ref_SummarySame
  simp (disch := first | assumption | omega) only [cond_true, Option.bind_some, beqT, ref_TimesSame_same _ h]

/-- THE LAW. -/
theorem summaryThens (n d : Int) (l : List Int) (m e : Int) (k : List Int) : law_SummaryThens ((n, d, l, ()), (m, e, k, ()), ()) = some (true, ()) := by
  have hleq : ∃ b, summary_Leq ((n, d, l, ()), (m, e, k, ()), ()) = some (b, ()) ∧ ref_SummaryLeq ((n, d, l, ()), (m, e, k, ()), ()) = some (b, ()) := by
    by_cases hs : sck n d l 4 = 0
    · by_cases hr : sck m e k 4 = 0
      · obtain ⟨a, rfl⟩ := Int.eq_ofNat_of_zero_le (show 0 ≤ n by have := (sck_zero hs).1; omega)
        obtain ⟨b, rfl⟩ := Int.eq_ofNat_of_zero_le (show 0 ≤ m by have := (sck_zero hr).1; omega)
        exact ⟨_, summary_Leq_eq hs hr, ref_SummaryLeq_eq hs hr⟩
      · refine ⟨false, ?_, ?_⟩
        · unfold summary_Leq
          simp (disch := first | assumption | omega) only [cond_true, cond_false, Option.bind_some, summary_Check_eq, hs, bneF, bneT]
        · unfold ref_SummaryLeq
          simp (disch := first | assumption | omega) only [cond_true, cond_false, Option.bind_some, ref_SummaryCheck_eq, hs, bneF, bneT]
    · refine ⟨false, ?_, ?_⟩
      · unfold summary_Leq
        simp (disch := first | assumption | omega) only [cond_true, Option.bind_some, summary_Check_eq, bneT]
      · unfold ref_SummaryLeq
        simp (disch := first | assumption | omega) only [cond_true, Option.bind_some, ref_SummaryCheck_eq, bneT]
  have hthen : ∃ q : (Int × Int × List Int × Unit) × Int × Unit, summary_Then ((n, d, l, ()), (m, e, k, ()), ()) = some q ∧ ref_SummaryThen ((n, d, l, ()), (m, e, k, ()), ()) = some q ∧ q.1.2.2.1.length ≤ 1000000 := by
    by_cases hs : sck n d l 4 = 0
    · obtain ⟨a, rfl⟩ := Int.eq_ofNat_of_zero_le (show 0 ≤ n by have := (sck_zero hs).1; omega)
      obtain ⟨s1, s2, s3, s4, s5, s6⟩ := sck_zero hs
      have ho1 := summary_Out_eq (n := a) (d := d) (l := l) (by omega)
      have ho2 := ref_SummaryOut_eq (n := a) (d := d) (l := l) (by omega)
      by_cases hr : sck m e k ((a + l.length : Nat) : Int) = 0
      · obtain ⟨b, rfl⟩ := Int.eq_ofNat_of_zero_le (show 0 ≤ m by have := (sck_zero hr).1; omega)
        obtain ⟨r1, r2, r3, r4, r5, r6⟩ := sck_zero hr
        refine ⟨_, summary_Then_eq hs hr, ref_SummaryThen_eq hs hr, ?_⟩
        unfold thenR
        split
        · simp
        · simp; omega
      · refine ⟨((0, 0, [], ()), sck m e k ((a + l.length : Nat) : Int), ()), ?_, ?_, by simp⟩
        · unfold summary_Then
          simp (disch := first | assumption | omega) only [cond_true, cond_false, Option.bind_some, dcT, Bool.and_true, Bool.true_and, summary_Check_eq, hs, bneF, bneT, ho1]
        · unfold ref_SummaryThen
          simp (disch := first | assumption | omega) only [cond_true, cond_false, Option.bind_some, ref_SummaryCheck_eq, hs, bneF, bneT, ho2]
    · refine ⟨((0, 0, [], ()), sck n d l 4, ()), ?_, ?_, by simp⟩
      · unfold summary_Then
        simp (disch := first | assumption | omega) only [cond_true, Option.bind_some, dcT, Bool.and_true, Bool.true_and, summary_Check_eq, bneT]
      · unfold ref_SummaryThen
        simp (disch := first | assumption | omega) only [cond_true, Option.bind_some, ref_SummaryCheck_eq, bneT]
  obtain ⟨b, h1, h2⟩ := hleq
  obtain ⟨⟨⟨u, v, w, ⟨⟩⟩, c, ⟨⟩⟩, h3, h4, h5⟩ := hthen
  unfold law_SummaryThens
  simp (disch := first | assumption | omega) only [cond_true, Option.bind_some, h1, h2, h3, h4, beqT, ref_SummarySame_same h5]
  cases b <;> rfl

theorem summaryThens_law (x : ADen sp3.args) (_ : WfA sp3.args x) : law_SummaryThens x = some (true, ()) := by
  obtain ⟨⟨n, d, l, ⟨⟩⟩, ⟨m, e, k, ⟨⟩⟩, ⟨⟩⟩ := x
  exact summaryThens n d l m e k

end Go.Proofs.Try
