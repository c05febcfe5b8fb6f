/- The plain law of SlotsPlays. -/
import Derived.Test.YtgepgleagefmeaaP14Funs
import Derived.Test.YtgepgleagefmeaaAbsSums
import Derived.Test.YtgepgleagefmeaaP14LibSlots3
namespace Go.Proofs.Try
open Go Go.Abs


def badS (n v : Int) : Bool := decide (v < 0) || decide (v ≥ n)
theorem check_l1 (n : Int) {S : List Int} (hl : S.length ≤ 1000) : loopM (slots_Check_l1 (n, S, ())) ((0 : Int), ()) = some (((List.range S.length).findSome? fun (i : Nat) => if badS n ((S[i]?).getD 0) = true then some (Sum.inl ((i : Int), ())) else none).getD (.inr (.inl ()))) := by
  refine loopM_for (f := slots_Check_l1 (n, S, ())) S.length _ (.inr (.inl ())) (fun i hi => ?_) ?_
  · unfold slots_Check_l1
    simp only [dcT (show (i : Int) < (S.length : Int) by omega), cond_true, getI_nat, List.getElem?_eq_getElem hi, Option.bind_some, Option.getD_some, wrapS (show i < 9223372036854775807 by omega)]
    unfold badS
    cases decide (S[i] < 0) with
    | true => rfl
    | false =>
      cases decide (S[i] ≥ n) with
      | true => rfl
      | false => rfl
  · unfold slots_Check_l1
    simp only [dcF (show ¬ (S.length : Int) < (S.length : Int) by omega), cond_false]
theorem refcheck_l1 (n : Int) {S : List Int} (hl : S.length ≤ 1000) : loopM (ref_SlotsCheck_l1 (n, S, ())) ((0 : Int), ()) = some (((List.range S.length).findSome? fun (i : Nat) => if badS n ((S[i]?).getD 0) = true then some (Sum.inl ((2 : Int), ())) else none).getD (.inr (.inl ()))) := by
  refine loopM_for (f := ref_SlotsCheck_l1 (n, S, ())) S.length _ (.inr (.inl ())) (fun i hi => ?_) ?_
  · unfold ref_SlotsCheck_l1
    simp only [dcT (show (i : Int) < (S.length : Int) by omega), cond_true, getI_nat, List.getElem?_eq_getElem hi, Option.bind_some, Option.getD_some, wrapS (show i < 9223372036854775807 by omega)]
    unfold badS
    cases decide (S[i] < 0) with
    | true => rfl
    | false =>
      cases decide (S[i] ≥ n) with
      | true => rfl
      | false => rfl
  · unfold ref_SlotsCheck_l1
    simp only [dcF (show ¬ (S.length : Int) < (S.length : Int) by omega), cond_false]
/-- Both checks say the same. -/
theorem checks (n : Int) (S : List Int) : ∃ c : Int, slots_Check (n, S, ()) = some (c, ()) ∧ ref_SlotsCheck (n, S, ()) = some (c, ()) ∧ (c = 0 → 1 ≤ n ∧ n ≤ 8 ∧ 1 ≤ S.length ∧ S.length ≤ 16 ∧ ∀ i, i < S.length → badS n ((S[i]?).getD 0) = false) := by
  unfold slots_Check ref_SlotsCheck
  by_cases h1 : n < 1
  · exact ⟨1, by rw [dcT h1]; rfl, by rw [dcT h1]; rfl, fun h => by cases h⟩
  by_cases h2 : n > 8
  · exact ⟨1, by rw [dcF h1, dcT h2]; rfl, by rw [dcF h1, dcT h2]; rfl, fun h => by cases h⟩
  by_cases h3 : (S.length : Int) < 1
  · exact ⟨1, by rw [dcF h1, dcF h2, dcT h3]; rfl, by rw [dcF h1, dcF h2, dcT h3]; rfl, fun h => by cases h⟩
  by_cases h4 : (S.length : Int) > 16
  · exact ⟨1, by rw [dcF h1, dcF h2, dcF h3, dcT h4]; rfl, by rw [dcF h1, dcF h2, dcF h3, dcT h4]; rfl, fun h => by cases h⟩
  rw [dcF h1, dcF h2, dcF h3, dcF h4]
  simp only [cond_false]
  rw [check_l1 n (by omega), refcheck_l1 n (by omega)]
  by_cases hall : ∀ i, i < S.length → badS n ((S[i]?).getD 0) = false
  · have e1 : ((List.range S.length).findSome? fun (i : Nat) => if badS n ((S[i]?).getD 0) = true then some (Sum.inl ((i : Int), ()) : (Int × Unit) ⊕ (Unit ⊕ Empty)) else none) = none := List.findSome?_eq_none_iff.2 fun i hi => by rw [hall i (List.mem_range.1 hi)]; rfl
    have e2 : ((List.range S.length).findSome? fun (i : Nat) => if badS n ((S[i]?).getD 0) = true then some (Sum.inl ((2 : Int), ()) : (Int × Unit) ⊕ (Unit ⊕ Empty)) else none) = none := List.findSome?_eq_none_iff.2 fun i hi => by rw [hall i (List.mem_range.1 hi)]; rfl
    rw [e1, e2]
    exact ⟨0, rfl, rfl, fun _ => ⟨by omega, by omega, by omega, by omega, hall⟩⟩
  · obtain ⟨j, hj⟩ := Classical.not_forall.1 hall
    obtain ⟨hj1, hj2⟩ := Classical.not_imp.1 hj
    have hjb : badS n ((S[j]?).getD 0) = true := by simpa using hj2
    have e1 : ∃ i : Nat, ((List.range S.length).findSome? fun (i : Nat) => if badS n ((S[i]?).getD 0) = true then some (Sum.inl ((i : Int), ()) : (Int × Unit) ⊕ (Unit ⊕ Empty)) else none) = some (.inl ((i : Int), ())) := by
      cases hf : ((List.range S.length).findSome? fun (i : Nat) => if badS n ((S[i]?).getD 0) = true then some (Sum.inl ((i : Int), ()) : (Int × Unit) ⊕ (Unit ⊕ Empty)) else none) with
      | none =>
        have := List.findSome?_eq_none_iff.1 hf j (List.mem_range.2 hj1)
        rw [hjb] at this; cases this
      | some z =>
        obtain ⟨i, -, hi⟩ := List.exists_of_findSome?_eq_some hf
        split at hi
        · exact ⟨i, hi ▸ rfl⟩
        · cases hi
    have e2 : ((List.range S.length).findSome? fun (i : Nat) => if badS n ((S[i]?).getD 0) = true then some (Sum.inl ((2 : Int), ()) : (Int × Unit) ⊕ (Unit ⊕ Empty)) else none) = some (.inl ((2 : Int), ())) := by
      cases hf : ((List.range S.length).findSome? fun (i : Nat) => if badS n ((S[i]?).getD 0) = true then some (Sum.inl ((2 : Int), ()) : (Int × Unit) ⊕ (Unit ⊕ Empty)) else none) with
      | none =>
        have := List.findSome?_eq_none_iff.1 hf j (List.mem_range.2 hj1)
        rw [hjb] at this; cases this
      | some z =>
        obtain ⟨i, -, hi⟩ := List.exists_of_findSome?_eq_some hf
        split at hi
        · exact hi.symm
        · cases hi
    obtain ⟨i, e1⟩ := e1
    rw [e1, e2]
    refine ⟨2, ?_, rfl, fun h => by cases h⟩
    show (cond (decide ((i : Int) ≥ 0)) (some ((2 : Int), ())) (some ((0 : Int), ()))) = _
    rw [dcT (show (i : Int) ≥ 0 by omega)]; rfl

theorem codes_eq (m : List Int) (hl : m.length ≤ 3000000) : ref_Codes (m, m, ()) = some (true, ()) := by
  unfold ref_Codes
  rw [bneF rfl, cond_false]
  have h := loopM_for (f := ref_Codes_l1 (m, m, ())) m.length (fun _ => none) (.inr (.inl ())) (fun i hi => by
    unfold ref_Codes_l1
    simp only [dcT (show (i : Int) < (m.length : Int) by omega), cond_true, getI_nat, List.getElem?_eq_getElem hi, Option.bind_some, wrapS (show i < 9223372036854775807 by omega), bneF rfl, cond_false]) (by
    unfold ref_Codes_l1
    simp only [dcF (show ¬ (m.length : Int) < (m.length : Int) by omega), cond_false])
  rw [h]
  have hf : (List.range m.length).findSome? (fun _ => (none : Option ((Bool × Unit) ⊕ (Unit ⊕ Empty)))) = none := List.findSome?_eq_none_iff.2 fun _ _ => rfl
  rw [hf]; rfl
theorem outs_eq (C C' : List Int) (c : Int) (m : List Ot) (hl : m.length ≤ 3000000) : loopM (law_SlotsPlays_l1 (C, m, ()) (C', m, c, ())) ((0 : Int), ()) = some (.inr (.inl ())) := by
  have h := loopM_for (f := law_SlotsPlays_l1 (C, m, ()) (C', m, c, ())) m.length (fun _ => none) (.inr (.inl ())) (fun i hi => by
    unfold law_SlotsPlays_l1
    simp only [dcT (show (i : Int) < (m.length : Int) by omega), cond_true, getI_nat, List.getElem?_eq_getElem hi, Option.bind_some, wrapS (show i < 9223372036854775807 by omega), beq_self_eq_true, Bool.and_self, Bool.not_true, cond_false]) (by
    unfold law_SlotsPlays_l1
    simp only [dcF (show ¬ (m.length : Int) < (m.length : Int) by omega), cond_false])
  rw [h]
  have hf : (List.range m.length).findSome? (fun _ => (none : Option ((Bool × Unit) ⊕ (Unit ⊕ Empty)))) = none := List.findSome?_eq_none_iff.2 fun _ _ => rfl
  rw [hf]; rfl

theorem slotsPlays (n : Int) (S : List Int) (E : List Stp) : law_SlotsPlays (n, S, E, ()) = some (true, ()) := by
  obtain ⟨c, c1, c2, c3⟩ := checks n S
  unfold law_SlotsPlays slots_Play
  by_cases hE : (E.length : Int) > 60
  · simp only [dcT hE, cond_true, Option.bind_some, c2]; rfl
  · simp only [dcF hE, cond_false, c1, c2, Option.bind_some, Sum.elim_inl]
    by_cases hc : c = 0
    · subst hc
      obtain ⟨n1, n8, m1, m16, hS⟩ := c3 rfl
      obtain ⟨N, rfl⟩ : ∃ N : Nat, n = (N : Int) := ⟨n.toNat, by omega⟩
      have hS' : ∀ j (hj : j < S.length), 0 ≤ (S[j]?).getD 0 ∧ (S[j]?).getD 0 < N := fun j hj => by
        have := hS j hj
        unfold badS at this
        simp at this
        omega
      have hg : (decide (0 ≤ (N : Int)) && decide ((N : Int) ≤ (N : Int)) && roomOk N 24 && decide ((N : Int) ≤ 9223372036854775807) && true && true) = true := by
        rw [dcT (show 0 ≤ (N : Int) by omega), dcT (Int.le_refl (N : Int)), roomB (show N ≤ 200000 by omega) (by omega), dcT (show (N : Int) ≤ 9223372036854775807 by omega)]; rfl
      have hcl : slices_Clone_s_int_int (S, ()) = some (S, ()) := by
        unfold slices_Clone_s_int_int
        rw [List.length_nil, Nat.zero_add, roomB (show S.length ≤ 200000 by omega) (by omega)]; rfl
      have hiv := sts_inv N S.length S E E.length (Nat.le_refl _)
      have hsucc : ∀ i (hi : i < E.length), sts N S.length S E (i + 1) = stp N S.length S E[i] (sts N S.length S E i) := fun i hi => by
        show (match E[i]? with
          | some e => stp N S.length S e (sts N S.length S E i)
          | none => sts N S.length S E i) = _
        rw [List.getElem?_eq_getElem hi]
      have hp := loopM_sim (f := slots_Play_l1 ((N : Int), S, E, ()) (S, ())) (s0 := (([] : List Int), ([] : List Ot), (0 : Int), List.replicate N ([] : List Rn), ((0 : Int), ()), ())) E.length
        (fun i => ((sts N S.length S E i).C, (sts N S.length S E i).O, (i : Int), (sts N S.length S E i).A, ((((sts N S.length S E i).O.length % S.length : Nat) : Int), ()), ()))
        (.inl ((sts N S.length S E E.length).C, (sts N S.length S E E.length).O, (sts N S.length S E E.length).A, ((((sts N S.length S E E.length).O.length % S.length : Nat) : Int), ()), ()))
        (fun i hi => by
          rw [hsucc i hi]
          exact play_step rfl (by omega) (by omega) hS' (by omega) hi (sts_inv N S.length S E i (by omega))) (by
          unfold slots_Play_l1
          simp only [dcF (show ¬ (E.length : Int) < (E.length : Int) by omega), cond_false]) (by
          show (_, _, _, _, ((((0 % S.length : Nat)) : Int), ()), ()) = _
          rw [Nat.zero_mod]; rfl)
      have hr := loopM_sim (f := ref_SlotsPlay_l2 (S, E, (N : Int), ())) (s0 := (([] : List Int), ([] : List Ot), (0 : Int), List.replicate N ([] : List Int), ())) E.length
        (fun i => ((sts N S.length S E i).C, (sts N S.length S E i).O, (i : Int), (sts N S.length S E i).A.map flatL, ()))
        (.inl ((sts N S.length S E E.length).C, (sts N S.length S E E.length).O, (sts N S.length S E E.length).A.map flatL, ()))
        (fun i hi => by
          rw [hsucc i hi]
          exact ref_step rfl (by omega) hS' (by omega) hi (sts_inv N S.length S E i (by omega))) (by
          unfold ref_SlotsPlay_l2
          simp only [dcF (show ¬ (E.length : Int) < (E.length : Int) by omega), cond_false]) (by
          show (_, _, _, (List.replicate N ([] : List Rn)).map flatL, ()) = _
          rw [List.map_replicate]; rfl)
      simp only [bneF rfl, cond_false, Int.toNat_natCast, hg, cond_true, hcl, Option.bind_some]
      rw [hp]
      simp only [Option.bind_some, Sum.elim_inl, bneF rfl, cond_false]
      unfold ref_SlotsPlay
      simp only [Int.toNat_natCast, hg, cond_true]
      rw [hr]
      have hcl1 := hiv.c
      have hol := hiv.o
      simp only [Option.bind_some, Sum.elim_inl, codes_eq _ (show (sts N S.length S E E.length).C.length ≤ 3000000 by omega), Bool.not_true, cond_false, bneF rfl, outs_eq _ _ _ _ (show (sts N S.length S E E.length).O.length ≤ 3000000 by omega)]
      rfl
    · simp only [bneT hc, cond_true, Option.bind_some, beqT rfl]
      rfl

theorem slotsPlays_law (x : ADen sp4.args) (wf : WfA sp4.args x) : law_SlotsPlays x = some (true, ()) := by
  obtain ⟨n, S, E, ⟨⟩⟩ := x
  exact slotsPlays n S E

end Go.Proofs.Try
