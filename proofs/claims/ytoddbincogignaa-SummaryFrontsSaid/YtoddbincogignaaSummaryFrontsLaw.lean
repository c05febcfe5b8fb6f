/- The plain law of SummaryFronts. -/
import Derived.Test.YtoddbincogignaaP7Funs
import Derived.Test.YtoddbincogignaaAbsSums
import Derived.Test.YtoddbincogignaaP7LemmasSummaryFronts2
namespace Go.Proofs.Try
open Go Go.Abs


section
variable {l : List Sm}
/-- What is wrong with a list of summaries. -/
def slist (l : List Sm) : Int := if 64 < l.length then 1 else match (List.range l.length).findSome? fun i => cond (decide (sck (l.getD i (0, 0, [], ())).1 (l.getD i (0, 0, [], ())).2.1 (l.getD i (0, 0, [], ())).2.2.1 4 ≠ 0)) (some (sck (l.getD i (0, 0, [], ())).1 (l.getD i (0, 0, [], ())).2.1 (l.getD i (0, 0, [], ())).2.2.1 4)) none with
  | some e => e
  | none => if ((List.range l.length).any fun i => decide (outS (l.getD i (0, 0, [], ())) ≠ outS (l.getD 0 (0, 0, [], ())))) = true then 3 else 0
theorem slist_ok (h64 : ¬ 64 < l.length) (hn : ((List.range l.length).findSome? fun i => cond (decide (sck (l.getD i (0, 0, [], ())).1 (l.getD i (0, 0, [], ())).2.1 (l.getD i (0, 0, [], ())).2.2.1 4 ≠ 0)) (some (sck (l.getD i (0, 0, [], ())).1 (l.getD i (0, 0, [], ())).2.1 (l.getD i (0, 0, [], ())).2.2.1 4)) none) = none) : ∀ s ∈ l, okS s := by
  intro s hs
  obtain ⟨i, hi, rfl⟩ := List.mem_iff_getElem.1 hs
  have := List.findSome?_eq_none_iff.1 hn i (List.mem_range.2 hi)
  rw [List.getD_eq_getElem?_getD, List.getElem?_eq_getElem hi, Option.getD_some] at this
  unfold okS
  by_cases h : sck (l[i]).1 (l[i]).2.1 (l[i]).2.2.1 4 = 0
  · exact h
  · simp [h] at this
theorem check_s (s : Sm) : summary_Check (s, (4 : Int), ()) = some (sck s.1 s.2.1 s.2.2.1 4, ()) := by
  obtain ⟨n, d, p, ⟨⟩⟩ := s; exact summary_Check_eq n d 4 p
theorem ref_check_s (s : Sm) : ref_SummaryCheck (s, (4 : Int), ()) = some (sck s.1 s.2.1 s.2.2.1 4, ()) := by
  obtain ⟨n, d, p, ⟨⟩⟩ := s; exact ref_SummaryCheck_eq n d 4 p
theorem findSome_map {α β : Type} (f : Nat → Option α) (g : α → β) : ∀ l : List Nat, l.findSome? (fun i => (f i).map g) = (l.findSome? f).map g
  | [] => rfl
  | a :: r => by
    rw [List.findSome?_cons, List.findSome?_cons]
    cases f a with
    | some x => rfl
    | none => exact findSome_map f g r
theorem summary_Front_eq : summary_Front (l, ()) = some (if slist l = 0 then frontQ l else [], slist l, ()) := by
  unfold summary_Front slist
  by_cases h64 : 64 < l.length
  · simp only [dcT (show (l.length : Int) > 64 by omega), cond_true, if_pos h64]
    rfl
  · simp only [dcF (show ¬ (l.length : Int) > 64 by omega), cond_false, if_neg h64]
    have k1 := loopM_exit (f := summary_Front_l1 (l, ())) l.length (fun i => ((i : Int), ())) (fun i => (cond (decide (sck (l.getD i (0, 0, [], ())).1 (l.getD i (0, 0, [], ())).2.1 (l.getD i (0, 0, [], ())).2.2.1 4 ≠ 0)) (some (sck (l.getD i (0, 0, [], ())).1 (l.getD i (0, 0, [], ())).2.1 (l.getD i (0, 0, [], ())).2.2.1 4)) none).map fun e => (([] : List Sm), e, ())) (.inl ()) (fun i hi => by
      unfold summary_Front_l1
      rw [List.getD_eq_getElem?_getD, List.getElem?_eq_getElem hi, Option.getD_some]
      simp only [dcT (show (i : Int) < (l.length : Int) by omega), cond_true, getI_lt hi, Option.bind_some, check_s, cond_bne, wrapS (show i < 9223372036854775807 by omega)]
      by_cases h : sck (l[i]).1 (l[i]).2.1 (l[i]).2.2.1 4 = 0
      · simp [h, stepOr]
      · simp [h, stepOr]) (by
      unfold summary_Front_l1
      simp only [dcF (show ¬ (l.length : Int) < (l.length : Int) by omega), cond_false]) (s0 := ((0 : Int), ())) rfl
    rw [findSome_map] at k1
    rw [k1]
    cases hf : (List.range l.length).findSome? fun i => cond (decide (sck (l.getD i (0, 0, [], ())).1 (l.getD i (0, 0, [], ())).2.1 (l.getD i (0, 0, [], ())).2.2.1 4 ≠ 0)) (some (sck (l.getD i (0, 0, [], ())).1 (l.getD i (0, 0, [], ())).2.1 (l.getD i (0, 0, [], ())).2.2.1 4)) none with
    | some e =>
      have he : e ≠ 0 := by
        obtain ⟨i, -, hi⟩ := List.exists_of_findSome?_eq_some hf
        cases hd : decide (sck (l.getD i (0, 0, [], ())).1 (l.getD i (0, 0, [], ())).2.1 (l.getD i (0, 0, [], ())).2.2.1 4 ≠ 0) with
        | true => rw [hd] at hi; cases hi; exact of_decide_eq_true hd
        | false => rw [hd] at hi; cases hi
      simp only [Option.map_some, exitOr_some, Option.bind_some, Sum.elim_inl, if_neg he]
    | none =>
      have hok := slist_ok h64 hf
      simp only [Option.map_none, exitOr_none, Option.bind_some, Sum.elim_inr, Sum.elim_inl]
      have k2 := loopM_exit (f := summary_Front_l2 (l, ())) l.length (fun i => ((i : Int), ())) (fun i => cond (decide (outS (l.getD i (0, 0, [], ())) ≠ outS (l.getD 0 (0, 0, [], ())))) (some (([] : List Sm), (3 : Int), ())) none) (.inl ()) (fun i hi => by
        have h0 : 0 < l.length := by omega
        unfold summary_Front_l2
        rw [List.getD_eq_getElem?_getD, List.getElem?_eq_getElem hi, Option.getD_some, List.getD_eq_getElem?_getD, List.getElem?_eq_getElem h0, Option.getD_some]
        have g0 : getI l (0 : Int) = some l[0] := getI_lt h0
        simp only [dcT (show (i : Int) < (l.length : Int) by omega), cond_true, getI_lt hi, g0, Option.bind_some, summary_Out_s (hok _ (List.getElem_mem hi)), summary_Out_s (hok _ (List.getElem_mem h0)), cond_bne, wrapS (show i < 9223372036854775807 by omega)]
        by_cases h : outS l[i] = outS l[0]
        · simp [h, stepOr]
        · simp [h, stepOr]) (by
        unfold summary_Front_l2
        simp only [dcF (show ¬ (l.length : Int) < (l.length : Int) by omega), cond_false]) (s0 := ((0 : Int), ())) rfl
      rw [find_const] at k2
      rw [k2]
      cases ((List.range l.length).any fun i => decide (outS (l.getD i (0, 0, [], ())) ≠ outS (l.getD 0 (0, 0, [], ())))) with
      | true => rfl
      | false =>
        simp only [Bool.false_eq_true, if_false, exitOr_none, Option.bind_some, Sum.elim_inr, Sum.elim_inl, summary_Least_eq (by omega) hok, if_true]
theorem ref_SummaryList_eq : ref_SummaryList (l, ()) = some (slist l, ()) := by
  unfold ref_SummaryList slist
  by_cases h64 : 64 < l.length
  · simp only [dcT (show (l.length : Int) > 64 by omega), cond_true, if_pos h64]
  · simp only [dcF (show ¬ (l.length : Int) > 64 by omega), cond_false, if_neg h64]
    have k1 := loopM_exit (f := ref_SummaryList_l1 (l, ())) l.length (fun i => ((i : Int), ())) (fun i => (cond (decide (sck (l.getD i (0, 0, [], ())).1 (l.getD i (0, 0, [], ())).2.1 (l.getD i (0, 0, [], ())).2.2.1 4 ≠ 0)) (some (sck (l.getD i (0, 0, [], ())).1 (l.getD i (0, 0, [], ())).2.1 (l.getD i (0, 0, [], ())).2.2.1 4)) none).map fun e => (e, ())) (.inl ()) (fun i hi => by
      unfold ref_SummaryList_l1
      rw [List.getD_eq_getElem?_getD, List.getElem?_eq_getElem hi, Option.getD_some]
      simp only [dcT (show (i : Int) < (l.length : Int) by omega), cond_true, getI_lt hi, Option.bind_some, ref_check_s, cond_bne, wrapS (show i < 9223372036854775807 by omega)]
      by_cases h : sck (l[i]).1 (l[i]).2.1 (l[i]).2.2.1 4 = 0
      · simp [h, stepOr]
      · simp [h, stepOr]) (by
      unfold ref_SummaryList_l1
      simp only [dcF (show ¬ (l.length : Int) < (l.length : Int) by omega), cond_false]) (s0 := ((0 : Int), ())) rfl
    rw [findSome_map] at k1
    rw [k1]
    cases hf : (List.range l.length).findSome? fun i => cond (decide (sck (l.getD i (0, 0, [], ())).1 (l.getD i (0, 0, [], ())).2.1 (l.getD i (0, 0, [], ())).2.2.1 4 ≠ 0)) (some (sck (l.getD i (0, 0, [], ())).1 (l.getD i (0, 0, [], ())).2.1 (l.getD i (0, 0, [], ())).2.2.1 4)) none with
    | some e => rfl
    | none =>
      have hok := slist_ok h64 hf
      simp only [Option.map_none, exitOr_none, Option.bind_some, Sum.elim_inr, Sum.elim_inl]
      have k2 := loopM_exit (f := ref_SummaryList_l2 (l, ())) l.length (fun i => ((i : Int), ())) (fun i => cond (decide (outS (l.getD i (0, 0, [], ())) ≠ outS (l.getD 0 (0, 0, [], ())))) (some ((3 : Int), ())) none) (.inl ()) (fun i hi => by
        have h0 : 0 < l.length := by omega
        unfold ref_SummaryList_l2
        rw [List.getD_eq_getElem?_getD, List.getElem?_eq_getElem hi, Option.getD_some, List.getD_eq_getElem?_getD, List.getElem?_eq_getElem h0, Option.getD_some]
        have g0 : getI l (0 : Int) = some l[0] := getI_lt h0
        simp only [dcT (show (i : Int) < (l.length : Int) by omega), cond_true, getI_lt hi, g0, Option.bind_some, ref_SummaryOut_s (hok _ (List.getElem_mem hi)), ref_SummaryOut_s (hok _ (List.getElem_mem h0)), cond_bne, wrapS (show i < 9223372036854775807 by omega)]
        by_cases h : outS l[i] = outS l[0]
        · simp [h, stepOr]
        · simp [h, stepOr]) (by
        unfold ref_SummaryList_l2
        simp only [dcF (show ¬ (l.length : Int) < (l.length : Int) by omega), cond_false]) (s0 := ((0 : Int), ())) rfl
      rw [find_const] at k2
      rw [k2]
      cases ((List.range l.length).any fun i => decide (outS (l.getD i (0, 0, [], ())) ≠ outS (l.getD 0 (0, 0, [], ())))) <;> rfl
theorem slist_zero (h : slist l = 0) : l.length ≤ 64 ∧ (∀ s ∈ l, okS s) ∧ ∀ s ∈ l, ∀ r ∈ l, outS s = outS r := by
  unfold slist at h
  by_cases h64 : 64 < l.length
  · rw [if_pos h64] at h; cases h
  rw [if_neg h64] at h
  cases hf : (List.range l.length).findSome? fun i => cond (decide (sck (l.getD i (0, 0, [], ())).1 (l.getD i (0, 0, [], ())).2.1 (l.getD i (0, 0, [], ())).2.2.1 4 ≠ 0)) (some (sck (l.getD i (0, 0, [], ())).1 (l.getD i (0, 0, [], ())).2.1 (l.getD i (0, 0, [], ())).2.2.1 4)) none with
  | some e =>
    rw [hf] at h
    exfalso
    obtain ⟨i, -, hi⟩ := List.exists_of_findSome?_eq_some hf
    cases hd : decide (sck (l.getD i (0, 0, [], ())).1 (l.getD i (0, 0, [], ())).2.1 (l.getD i (0, 0, [], ())).2.2.1 4 ≠ 0) with
    | true => rw [hd] at hi; cases hi; exact of_decide_eq_true hd h
    | false => rw [hd] at hi; cases hi
  | none =>
    rw [hf] at h
    simp only at h
    split at h
    · cases h
    rename_i ha
    have hall : ∀ s ∈ l, outS s = outS (l.getD 0 (0, 0, [], ())) := fun s hs => by
      obtain ⟨i, hi, rfl⟩ := List.mem_iff_getElem.1 hs
      have := List.any_eq_false.1 (Bool.eq_false_iff.2 ha) i (List.mem_range.2 hi)
      rw [List.getD_eq_getElem?_getD, List.getElem?_eq_getElem hi, Option.getD_some] at this
      simpa using this
    exact ⟨by omega, slist_ok h64 hf, fun s hs r hr => (hall s hs).trans (hall r hr).symm⟩
theorem same_all {m : List Sm} (hl : m.length ≤ 1000) (h : ∀ s ∈ m, s.2.2.1.length ≤ 1000000) : ref_SummariesSame (m, m, ()) = some (true, ()) := by
  unfold ref_SummariesSame
  simp only [bneF rfl, cond_false]
  have key := loopM_exit (f := ref_SummariesSame_l1 (m, m, ())) m.length (fun i => ((i : Int), ())) (fun _ => (none : Option (Bool × Unit))) (.inl ()) (fun i hi => by
    unfold ref_SummariesSame_l1
    simp only [dcT (show (i : Int) < (m.length : Int) by omega), cond_true, getI_lt hi, Option.bind_some, ref_SummarySame_eq (h _ (List.getElem_mem hi)), decide_true, Bool.not_true, cond_false, wrapS (show i < 9223372036854775807 by omega)]
    rfl) (by
    unfold ref_SummariesSame_l1
    simp only [dcF (show ¬ (m.length : Int) < (m.length : Int) by omega), cond_false]) (s0 := ((0 : Int), ())) rfl
  rw [key, show (List.range m.length).findSome? (fun _ => (none : Option (Bool × Unit))) = none by simp]
  rfl
/-- THE LAW. -/
theorem summaryFronts : law_SummaryFronts (l, ()) = some (true, ()) := by
  unfold law_SummaryFronts
  simp only [summary_Front_eq, ref_SummaryList_eq, Option.bind_some, cond_bne, beqT rfl, cond_true]
  by_cases h : slist l = 0
  · obtain ⟨h1, h2, h3⟩ := slist_zero h
    simp only [h, if_true, beqT rfl, cond_true, ref_SummaryFront_eq h1 h2 h3, Option.bind_some]
    have hlen : (frontQ l).length ≤ 1000 := by
      have := once_len (sortQ l)
      have h5 := (sortQ_perm l).length_eq
      have h6 : (frontQ l).length ≤ (onceQ (sortQ l)).length := List.length_filter_le ..
      omega
    rw [same_all hlen fun s hs => by
      have := ok_push (h2 s ((once_facts (l := l)).2 s |>.1 (List.mem_filter.1 hs).1))
      omega]
    rfl
  · simp only [h, if_false]
    rfl
end

theorem summaryFronts_law (x : ADen sp3.args) (_ : WfA sp3.args x) : law_SummaryFronts x = some (true, ()) := by
  obtain ⟨l, ⟨⟩⟩ := x
  exact summaryFronts

end Go.Proofs.Try
