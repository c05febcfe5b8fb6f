/- The plain law of PolarTells. -/
import Derived.Test.YtofcpghoogaglaaDoorD1Funs
import Derived.Test.YtofcpghoogaglaaDoorAbsStd
import Derived.Test.YtofcpghoogaglaaDoorD1LibPolar
namespace Go.Proofs.Tryd
open Go Go.Abs


theorem ref_Outside_outs {w n : Nat} (hw : w < 2 ^ 32) (hn : n ≤ 32) : ref_Outside ((w : Int), (n : Int), ()) = some (outs w n, ()) := ref_Outside_eq hw hn

/-- THE LAW. -/
theorem polarTells {rs : List Nat} (hf : Fit rs) {C : Int} {r a b : Nat} (hr : r < 2 ^ 32) (ha : a < 2 ^ 32) (hb : b < 2 ^ 32) : law_PolarTells ((cl rs, C, ()), (r : Int), (a : Int), (b : Int), ()) = some (true, ()) := by
  unfold law_PolarTells
  simp (disch := first | assumption | omega) only [Option.bind_some, length_cl, polar_Up_eq hf hr, polar_Down_eq hf ha, polar_Implies_eq hf ha hb, ref_PolarCheck_eq hf]
  by_cases h : polc rs C = 0
  · obtain ⟨h1, h2, h3, h4⟩ := polc_zero h
    obtain ⟨c, rfl⟩ := Int.eq_ofNat_of_zero_le h2
    have hc : c ≤ 16 := by omega
    have w1 : dnW rs a < 2 ^ 32 := wordOf_lt32 _ (by omega)
    have w2 : dnW rs b < 2 ^ 32 := wordOf_lt32 _ (by omega)
    have e : (((dnW rs a &&& dnW rs b : Nat) : Int) == ((dnW rs a : Nat) : Int)) = decide (dnW rs a &&& dnW rs b = dnW rs a) := by
      rw [Bool.eq_iff_iff, beq_iff_eq, decide_eq_true_eq]; omega
    simp (disch := first | assumption | omega) only [cond_false, Option.bind_some, Int.toNat_natCast, if_true, h, ref_Outside_outs hr (show rs.length ≤ 32 by omega), ref_Outside_outs ha (show c ≤ 32 by omega), ref_Outside_outs hb (show c ≤ 32 by omega), ref_PolarUp_eq hf h1 hc hr, ref_PolarDown_eq (C := c) hf h1 ha, ref_PolarDown_eq (C := c) hf h1 hb, bneF]
    cases outs r rs.length <;> cases outs a c <;> cases outs b c <;> simp [and_u32 w1 w2, e]
  · have e1 : (polc rs C != 0) = true := bneT h
    have e2 : (polc rs C == polc rs C) = true := beqT rfl
    simp (disch := first | assumption | omega) only [cond_true, Bool.not_false, if_false, h, e1, e2]
    rfl

theorem polarTells_law (x : ADen sp6.args) (h : WfA sp6.args x) : law_PolarTells x = some (true, ()) := by
  obtain ⟨⟨l, C, ⟨⟩⟩, r, a, b, ⟨⟩⟩ := x
  obtain ⟨ws, rfl, hf⟩ := words_of h.1.1
  obtain ⟨r, rfl, hr⟩ := u32_nat h.2.1
  obtain ⟨a, rfl, ha⟩ := u32_nat h.2.2.1
  obtain ⟨b, rfl, hb⟩ := u32_nat h.2.2.2.1
  exact polarTells hf hr ha hb

end Go.Proofs.Tryd
