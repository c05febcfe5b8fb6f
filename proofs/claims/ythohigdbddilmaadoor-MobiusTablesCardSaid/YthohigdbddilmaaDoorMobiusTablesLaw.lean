/- The plain law of MobiusTables. -/
import Derived.Test.YthohigdbddilmaaDoorD2Funs
import Derived.Test.YthohigdbddilmaaDoorAbsSums
import Derived.Test.YthohigdbddilmaaDoorD2LibZeta
import Derived.Test.YthohigdbddilmaaDoorD2LibLongs
import Derived.Test.YthohigdbddilmaaDoorD2LibWords
namespace Go.Proofs.Tryd
open Go Go.Abs


/-- THE LAW. -/
theorem mobiusTables {N : Int} {ws : List Nat} (hf : Fit ws) : law_MobiusTables ((N, cl ws, ()), ()) = some (true, ()) := by
  unfold law_MobiusTables
  simp (disch := first | assumption | omega) only [Option.bind_some, mobius_Zeta_eq hf, mobius_Mu_eq hf, ref_OrderCheck_eq hf]
  by_cases h : ordc N ws = 0
  · obtain ⟨h1, h2, h3, hin, o⟩ := ordc_zero h
    obtain ⟨n, rfl⟩ := Int.eq_ofNat_of_zero_le h1
    have hl : ws.length = n := by omega
    have hn : n ≤ 16 := by omega
    have hsq := sq_le hn
    have o : IsOrder n ws := o
    have t := zeta_tab n ws
    have hdg := zeta_diag o
    have hall : ∀ a, a < n → unit1 (ent n (sq n (zetaE ws)) a a) = true := fun a ha => by
      unfold diagB at hdg
      exact List.all_eq_true.1 hdg a (List.mem_range.2 ha)
    have e1 : (sq n fun a b => V64 (G1 n ws (sq n (zetaE ws)) a b)) = sq n fun a b => V64 (G2 n ws (sq n (zetaE ws)) a b) := sq_congr fun a b ha hb => by rw [inv_same o t hall ha hb]
    simp (disch := first | assumption | omega) only [cond_true, cond_false, Option.bind_some, Int.toNat_natCast, if_true, h, beqT, bneF, ref_MobiusZeta_eq hf hl hn, ref_MobiusInverse_eq hf hl hn o t.1, hdg, e1]
    rw [ref_Longs_same (by rw [sq_length]; omega), ref_Longs_same (by rw [sq_length]; omega)]
    rfl
  · simp (disch := first | assumption | omega) only [cond_true, List.length_nil, if_false, h, bneT, beqT] <;> rfl

theorem mobiusTables_law (x : ADen sp8.args) (h : WfA sp8.args x) : law_MobiusTables x = some (true, ()) := by
  obtain ⟨⟨N, l, ⟨⟩⟩, ⟨⟩⟩ := x
  obtain ⟨ws, rfl, hf⟩ := words_of h.1.2.1
  exact mobiusTables hf

end Go.Proofs.Tryd
