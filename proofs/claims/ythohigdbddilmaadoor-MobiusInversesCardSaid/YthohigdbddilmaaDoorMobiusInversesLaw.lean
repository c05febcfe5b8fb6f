/- The plain law of MobiusInverses. -/
import Derived.Test.YthohigdbddilmaaDoorD2Funs
import Derived.Test.YthohigdbddilmaaDoorAbsSums
import Derived.Test.YthohigdbddilmaaDoorD2LibMinv2
import Derived.Test.YthohigdbddilmaaDoorD2LibLongs
import Derived.Test.YthohigdbddilmaaDoorD2LibWords
namespace Go.Proofs.Tryd
open Go Go.Abs


/-- THE LAW. -/
theorem mobiusInverses {N : Int} {ws : List Nat} (hf : Fit ws) (f : List Int) : law_MobiusInverses ((N, cl ws, ()), f, ()) = some (true, ()) := by
  unfold law_MobiusInverses
  simp (disch := first | assumption | omega) only [Option.bind_some, Sum.elim_inl, mobius_Inverse_eq hf, ref_OrderCheck_eq hf]
  by_cases h : ordc N ws = 0
  · obtain ⟨h1, h2, h3, hin, o⟩ := ordc_zero h
    obtain ⟨n, rfl⟩ := Int.eq_ofNat_of_zero_le h1
    have hl : ws.length = n := by omega
    have hn : n ≤ 16 := by omega
    have hsq := sq_le hn
    have o : IsOrder n ws := o
    by_cases t : IsTab n ws f
    · cases hdg : diagB n ws f
      · simp (disch := first | assumption | omega) only [decide_true, cond_true, cond_false, Option.bind_some, Sum.elim_inl, Int.toNat_natCast, List.length_nil, Bool.not_true, Bool.not_false, if_true, h, t, beqT, bneF, ref_Table_eq hf hl hn, ref_MobiusInverse_eq hf hl hn o t.1, hdg] <;> rfl
      · have hall : ∀ a, a < n → unit1 (ent n f a a) = true := fun a ha => by
          unfold diagB at hdg
          exact List.all_eq_true.1 hdg a (List.mem_range.2 ha)
        have e1 : (sq n fun a b => V64 (G1 n ws f a b)) = sq n fun a b => V64 (G2 n ws f a b) := sq_congr fun a b ha hb => by rw [inv_same o t hall ha hb]
        simp (disch := first | assumption | omega) only [decide_true, cond_true, cond_false, Option.bind_some, Sum.elim_inl, Int.toNat_natCast, Bool.not_true, if_true, h, t, beqT, bneF, ref_Table_eq hf hl hn, ref_MobiusInverse_eq hf hl hn o t.1, hdg, e1]
        rw [ref_Longs_same (by rw [sq_length]; omega)]
        rfl
    · simp (disch := first | assumption | omega) only [decide_false, cond_true, cond_false, Option.bind_some, Sum.elim_inl, Int.toNat_natCast, List.length_nil, Bool.not_false, if_true, if_false, h, t, beqT, bneF, ref_Table_eq hf hl hn] <;> rfl
  · simp (disch := first | assumption | omega) only [cond_true, cond_false, List.length_nil, if_false, h, beqF, bneT, beqT] <;> rfl

theorem mobiusInverses_law (x : ADen sp4.args) (h : WfA sp4.args x) : law_MobiusInverses x = some (true, ()) := by
  obtain ⟨⟨N, l, ⟨⟩⟩, f, ⟨⟩⟩ := x
  obtain ⟨ws, rfl, hf⟩ := words_of h.1.2.1
  exact mobiusInverses hf f

end Go.Proofs.Tryd
