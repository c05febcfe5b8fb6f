/- The plain law of MobiusTimes. -/
import Derived.Test.YtofcpghoogaglaaDoorD1Funs
import Derived.Test.YtofcpghoogaglaaDoorAbsSums
import Derived.Test.YtofcpghoogaglaaDoorD1LibMtimes
import Derived.Test.YtofcpghoogaglaaDoorD1LibLongs
import Derived.Test.YtofcpghoogaglaaDoorD1LibWords
namespace Go.Proofs.Tryd
open Go Go.Abs


/-- THE LAW. -/
theorem mobiusTimes {N : Int} {ws : List Nat} (hf : Fit ws) (f g : List Int) : law_MobiusTimes ((N, cl ws, ()), f, g, ()) = some (true, ()) := by
  unfold law_MobiusTimes
  simp (disch := first | assumption | omega) only [Option.bind_some, Sum.elim_inl, mobius_Times_eq hf, ref_OrderCheck_eq hf]
  by_cases h : ordc N ws = 0
  · obtain ⟨h1, h2, h3, h4, h5⟩ := ordc_zero h
    obtain ⟨n, rfl⟩ := Int.eq_ofNat_of_zero_le h1
    have hl : ws.length = n := by omega
    have hn : n ≤ 16 := by omega
    have hsq := sq_le hn
    by_cases tf : IsTab n ws f
    · by_cases tg : IsTab n ws g
      · simp (disch := first | assumption | omega) only [decide_true, cond_true, cond_false, Option.bind_some, Sum.elim_inl, Int.toNat_natCast, Bool.not_true, if_true, h, tf, tg, and_self, beqT, bneF, ref_Table_eq hf hl hn, ref_MobiusTimes_eq hf hl hn tf.1 tg.1]
        rw [ref_Longs_same (by rw [sq_length]; omega)]
        rfl
      · simp (disch := first | assumption | omega) only [decide_true, decide_false, cond_true, cond_false, Option.bind_some, Sum.elim_inl, Int.toNat_natCast, List.length_nil, Bool.not_true, Bool.not_false, if_true, if_false, h, tf, tg, and_false, beqT, bneF, ref_Table_eq hf hl hn] <;> rfl
    · simp (disch := first | assumption | omega) only [decide_false, cond_true, cond_false, Option.bind_some, Int.toNat_natCast, List.length_nil, Bool.not_false, if_true, if_false, h, tf, false_and, beqT, bneF, ref_Table_eq hf hl hn] <;> rfl
  · simp (disch := first | assumption | omega) only [cond_true, cond_false, List.length_nil, if_false, h, beqF, bneT, beqT]

theorem mobiusTimes_law (x : ADen sp9.args) (h : WfA sp9.args x) : law_MobiusTimes x = some (true, ()) := by
  obtain ⟨⟨N, l, ⟨⟩⟩, f, g, ⟨⟩⟩ := x
  obtain ⟨ws, rfl, hf⟩ := words_of h.1.2.1
  exact mobiusTimes hf f g

end Go.Proofs.Tryd
