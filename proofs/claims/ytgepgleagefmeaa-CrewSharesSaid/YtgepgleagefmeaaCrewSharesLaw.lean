/- The plain law of CrewShares. -/
import Derived.Test.YtgepgleagefmeaaP13Funs
import Derived.Test.YtgepgleagefmeaaAbsSums
import Derived.Test.YtgepgleagefmeaaP13LibCrew2
namespace Go.Proofs.Try
open Go Go.Abs


def RowsIn (l : List Rw) : Prop := ∀ r ∈ l, InR r.2.2.1
theorem wf_i64 {x : Int} (h : (Lit.int .i64 x).wf = true) : IntKind.i64.wrap x = x := by
  refine IntWalk.i64_in x ?_
  simp [Lit.wf, IntKind.signed, IntKind.bits, IntKind.min, IntKind.max] at h
  omega
theorem wf_rows {l : List Rw} (h : ∀ y ∈ l, Wf (.cons (.int .i64) (.cons (.int .i64) (.cons (.int .i64) .nil))) y) : RowsIn l := fun r hr => by
  have h1 : (Lit.int .i64 r.2.2.1).wf = true := (h r hr).2.2.1
  unfold InR W
  exact wf_i64 h1
theorem large_one (a : List Rw) : bags_Large ([a], ()) = some (decide (a.length > 128), ()) := by
  have hc : bags_Large_c1 (a, ()) = some (decide (a.length > 128), ()) := by
    unfold bags_Large_c1
    have : decide ((a.length : Int) > 128) = decide (a.length > 128) := decide_eq_decide.2 (by omega)
    rw [this]
  have w0 : IntKind.i64.wrap ((0 : Int) + 1) = 1 := by decide
  have f0 : bags_Large_l1 ([a], ()) ((0 : Int), ()) = cond (decide (a.length > 128)) (some (.inr (.inl ((0 : Int), ())))) (some (.inl ((1 : Int), ()))) := by
    unfold bags_Large_l1
    have g : getI [a] (0 : Int) = some a := rfl
    have d0 : decide ((0 : Int) < (([a] : List (List Rw)).length : Int)) = true := rfl
    simp only [d0, cond_true, g, Option.bind_some, hc, w0]
  have f1 : bags_Large_l1 ([a], ()) ((1 : Int), ()) = some (.inr (.inr (.inl ()))) := rfl
  unfold bags_Large
  cases ha : decide (a.length > 128) with
  | true =>
    rw [ha, cond_true] at f0
    rw [loopM_inr f0]; rfl
  | false =>
    rw [ha, cond_false] at f0
    rw [loopM_inl f0, loopM_inr f1]; rfl

theorem shares_bad {n : Int} {a : List Rw} (h : ¬ (1 ≤ n ∧ n ≤ 4)) : crew_Shares (n, a, ()) = some ([], 2, ()) := by
  unfold crew_Shares crew_check
  by_cases h1 : n < 1
  · simp only [dcT h1, cond_true, Option.bind_some]; rfl
  · simp only [dcF h1, dcT (show n > 4 by omega), cond_true, cond_false, Option.bind_some]; rfl
theorem shares_large {n : Int} {a : List Rw} (h1 : 1 ≤ n) (h4 : n ≤ 4) (h : a.length > 128) : crew_Shares (n, a, ()) = some ([], 1, ()) := by
  unfold crew_Shares crew_check
  simp only [dcF (show ¬ n < 1 by omega), dcF (show ¬ n > 4 by omega), cond_false, large_one, Option.bind_some, decide_eq_true h, cond_true]
  rfl
theorem shares_eq {n : Nat} {a : List Rw} (h1 : 1 ≤ n) (h4 : n ≤ 4) (h : ¬ a.length > 128) : crew_Shares ((n : Int), a, ()) = some (outs n a n, 0, ()) := by
  have r8 : roomOk n 8 = true := by
    have : n = 1 ∨ n = 2 ∨ n = 3 ∨ n = 4 := by omega
    rcases this with rfl | rfl | rfl | rfl <;> decide
  unfold crew_Shares crew_check
  simp only [dcF (show ¬ (n : Int) < 1 by omega), dcF (show ¬ (n : Int) > 4 by omega), cond_false, large_one, Option.bind_some, decide_eq_false h, bneF rfl, dcT (show 0 ≤ (n : Int) by omega), dcT (Int.le_refl (n : Int)), Int.toNat_natCast, r8, dcT (show (n : Int) ≤ 9223372036854775807 by omega), Bool.and_self, cond_true]
  rw [crew_l1 h4 a]
  simp only [Option.bind_some, Sum.elim_inl]
  rw [crew_l2 h1 h4 a (by omega)]
  simp only [Option.bind_some, Sum.elim_inl]
  rw [crew_l3 h4 a (by omega)]
  rfl

theorem crewShares (n : Int) {a : List Rw} (wa : RowsIn a) : law_CrewShares (n, a, ()) = some (true, ()) := by
  unfold law_CrewShares
  by_cases h : 1 ≤ n ∧ n ≤ 4
  · obtain ⟨N, rfl⟩ : ∃ N : Nat, n = (N : Int) := ⟨n.toNat, by omega⟩
    have h1 : 1 ≤ N := by omega
    have h4 : N ≤ 4 := by omega
    simp only [dcF (show ¬ (N : Int) < 1 by omega), dcF (show ¬ (N : Int) > 4 by omega), cond_false]
    unfold ref_Large
    by_cases hb : a.length > 128
    · rw [shares_large h.1 h.2 hb]
      simp only [Option.bind_some, dcT (show (a.length : Int) > 128 by omega), cond_true]
      rfl
    · rw [shares_eq h1 h4 hb]
      have hout : (outs N a N).length = N := by unfold outs; rw [List.length_map, List.length_range]
      simp only [Option.bind_some, dcF (show ¬ (a.length : Int) > 128 by omega), cond_false, bneF rfl, hout]
      have hl := loopM_sim (s0 := ((0 : Int), ())) (f := law_CrewShares_l1 ((N : Int), a, ()) (outs N a N, 0, ())) N (fun i => ((i : Int), ())) (.inr (.inl ())) (fun i hi => by
        have hg : (outs N a N)[i]? = some ((bagOf (part N a i) []).map toR) := by
          unfold outs
          rw [List.getElem?_map, List.getElem?_range hi]; rfl
        have hba := bag_length a []
        rw [List.length_nil] at hba
        have hpl := part_length N a i
        unfold law_CrewShares_l1
        simp only [dcT (show (i : Int) < (N : Int) by omega), cond_true, hout, inB_T hi, Int.toNat_natCast, hg, Option.bind_some]
        rw [ref_Bag_eq (by omega), rows_bag wa]
        simp only [Option.bind_some]
        rw [share_eq h1 h4 i _ (by rw [List.length_map]; omega)]
        simp only [Option.bind_some]
        rw [← part_rows, same_eq _ (by rw [List.length_map]; omega)]
        simp only [Option.bind_some, Bool.not_true, cond_false, wrapS (show i < 9223372036854775807 by omega)]) (by
        unfold law_CrewShares_l1
        simp only [dcF (show ¬ (N : Int) < (N : Int) by omega), cond_false]) rfl
      rw [hl]; rfl
  · rw [shares_bad h]
    by_cases h1 : n < 1
    · simp only [dcT h1, cond_true, Option.bind_some]; rfl
    · simp only [dcF h1, dcT (show n > 4 by omega), cond_true, cond_false, Option.bind_some]; rfl

theorem crewShares_law (x : ADen sp5.args) (wf : WfA sp5.args x) : law_CrewShares x = some (true, ()) := by
  obtain ⟨n, a, ⟨⟩⟩ := x
  exact crewShares n (wf_rows wf.2.1.2)

end Go.Proofs.Try
