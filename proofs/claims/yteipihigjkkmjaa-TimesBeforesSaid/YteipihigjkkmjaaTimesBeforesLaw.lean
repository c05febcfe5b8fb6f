/- The plain law of TimesBefores. -/
import Derived.Test.YteipihigjkkmjaaQ7Funs
import Derived.Test.YteipihigjkkmjaaAbsSums
import Derived.Test.YteipihigjkkmjaaQ7LemmasTimesBefores2
namespace Go.Proofs.Try
open Go Go.Abs


def lcode (f g : List (List Int)) : Int := if tlist f = 0 then (if tlist g = 0 then (if f.length > 0 ∧ g.length > 0 ∧ (f.getD 0 []).length ≠ (g.getD 0 []).length then 3 else 0) else tlist g) else tlist f

theorem heads_eq (f g : List (List Int)) : (cond (decide ((f.length : Int) > (0 : Int))) (cond (decide ((g.length : Int) > (0 : Int))) ((getI f (0 : Int)).bind fun v3 => ((getI g (0 : Int)).bind fun v4 => (cond ((v3.length : Int) != (v4.length : Int)) (some ((3 : Int), ())) (some ((0 : Int), ()))))) (some ((0 : Int), ()))) (some ((0 : Int), ())) : Option (Int × Unit)) =
    some (if f.length > 0 ∧ g.length > 0 ∧ (f.getD 0 []).length ≠ (g.getD 0 []).length then 3 else 0, ()) := by
  cases f with
  | nil => rfl
  | cons a f =>
    cases g with
    | nil => simp
    | cons b g =>
      rw [dcT (show (((a :: f).length : Nat) : Int) > 0 by simp), dcT (show (((b :: g).length : Nat) : Int) > 0 by simp)]
      simp only [cond_true]
      rw [show getI (a :: f) (0 : Int) = some a from rfl, show getI (b :: g) (0 : Int) = some b from rfl]
      simp only [Option.bind_some, cond_bne]
      by_cases h : a.length = b.length
      · simp [h]
      · have h' : ¬ (a.length : Int) = (b.length : Int) := by omega
        simp [h, h']

theorem times_lists_eq (f g : List (List Int)) : times_lists (f, g, ()) = some (lcode f g, ()) := by
  unfold times_lists lcode
  simp only [times_List_eq, Option.bind_some, cond_bne]
  split
  · split
    · have := heads_eq f g
      simp only [cond_bne] at this
      exact this
    · rfl
  · rfl

theorem ref_TimesLists_eq (f g : List (List Int)) : ref_TimesLists (f, g, ()) = some (lcode f g, ()) := by
  unfold ref_TimesLists lcode
  simp only [ref_TimesList_eq, Option.bind_some, cond_bne]
  split
  · split
    · have := heads_eq f g
      simp only [cond_bne] at this
      exact this
    · rfl
  · rfl

theorem lcode_zero {f g : List (List Int)} (h : lcode f g = 0) : f.length ≤ 64 ∧ g.length ≤ 64 ∧ ∃ d, d ≤ 4 ∧ (∀ t ∈ f, chk t = 0 ∧ t.length = d) ∧ ∀ t ∈ g, chk t = 0 ∧ t.length = d := by
  unfold lcode at h
  split at h
  · rename_i h1
    split at h
    · rename_i h2
      obtain ⟨a1, a2⟩ := tlist_zero h1
      obtain ⟨b1, b2⟩ := tlist_zero h2
      refine ⟨a1, b1, ?_⟩
      split at h
      · cases h
      · rename_i h3
        cases f with
        | nil =>
          cases g with
          | nil => exact ⟨0, by omega, fun t ht => (nomatch ht), fun t ht => (nomatch ht)⟩
          | cons b g => exact ⟨b.length, (chk_zero (b2 b List.mem_cons_self).1).2.1, fun t ht => (nomatch ht), b2⟩
        | cons a f =>
          refine ⟨a.length, (chk_zero (a2 a List.mem_cons_self).1).2.1, a2, fun t ht => ?_⟩
          cases g with
          | nil => exact (nomatch ht)
          | cons b g =>
            have : a.length = b.length := Decidable.of_not_not fun hne => h3 ⟨by simp, by simp, hne⟩
            rw [this]; exact b2 t ht
    · rename_i h2; exact absurd h h2
  · rename_i h1; exact absurd h h1

/-- Is everything open by g open by f? -/
def befB (f g : List (List Int)) : Bool := g.all fun t => f.any fun u => leB u t
theorem bef_range (f g : List (List Int)) : ((List.range g.length).any fun i => !(f.any fun u => leB u (g.getD i []))) = !befB f g := by
  rw [Bool.eq_iff_iff, List.any_eq_true, Bool.not_eq_true', befB]
  rw [← Bool.not_eq_true, List.all_eq_true]
  constructor
  · rintro ⟨i, hi, h⟩ hall
    have hi := List.mem_range.1 hi
    rw [List.getD_eq_getElem?_getD, List.getElem?_eq_getElem hi] at h
    have := hall _ (List.getElem_mem hi)
    rw [Option.getD_some, this] at h; cases h
  · intro h
    have : ∃ t ∈ g, ¬ (f.any fun u => leB u t) = true := by
      apply Classical.byContradiction
      intro hn
      exact h fun t ht => Decidable.of_not_not fun hf => hn ⟨t, ht, hf⟩
    obtain ⟨t, ht, hf⟩ := this
    obtain ⟨i, hi, rfl⟩ := List.mem_iff_getElem.1 ht
    exact ⟨i, List.mem_range.2 hi, by rw [List.getD_eq_getElem?_getD, List.getElem?_eq_getElem hi]; simpa using hf⟩

theorem ref_before_eq {f g : List (List Int)} (hf : f.length ≤ 64) (hg : g.length ≤ 64) : ref_TimesBefore (f, g, ()) = some (befB f g, ()) := by
  have k := loopM_exit (f := ref_TimesBefore_l1 (f, g, ())) g.length (fun i => ((i : Int), ())) (fun i => cond (!(f.any fun u => leB u (g.getD i []))) (some (false, ())) none) (.inl ()) (fun i hi => by
    unfold ref_TimesBefore_l1
    simp only [dcT (show (i : Int) < (g.length : Int) by omega), cond_true, getI_D [] (Int.natCast_nonneg i) (show (i : Int) < (g.length : Int) by omega), Int.toNat_natCast, Option.bind_some, ref_TimesOpen_eq (l := f) _ (by omega)]
    rw [wrapS (by omega)]
    cases (f.any fun u => leB u (g.getD i [])) <;> rfl) (by
    unfold ref_TimesBefore_l1
    simp only [dcF (show ¬ (g.length : Int) < (g.length : Int) by omega), cond_false]) (s0 := ((0 : Int), ())) rfl
  rw [find_const, bef_range] at k
  unfold ref_TimesBefore
  rw [k]
  cases befB f g <;> rfl

theorem before_eq (f g : List (List Int)) : times_Before (f, g, ()) = some (if lcode f g = 0 then befB f g else false, lcode f g, ()) := by
  unfold times_Before
  simp only [times_lists_eq, Option.bind_some, cond_bne]
  by_cases h : lcode f g = 0
  · obtain ⟨hf, hg, -⟩ := lcode_zero h
    have k := loopM_exit (f := times_Before_l1 (f, g, ())) g.length (fun i => ((i : Int), ())) (fun i => cond (!(f.any fun u => leB u (g.getD i []))) (some (false, (0 : Int), ())) none) (.inl ()) (fun i hi => by
      unfold times_Before_l1
      simp only [dcT (show (i : Int) < (g.length : Int) by omega), cond_true, getI_D [] (Int.natCast_nonneg i) (show (i : Int) < (g.length : Int) by omega), Int.toNat_natCast, Option.bind_some, times_Open_eq (l := f) _ (by omega)]
      rw [wrapS (by omega)]
      cases (f.any fun u => leB u (g.getD i [])) <;> rfl) (by
      unfold times_Before_l1
      simp only [dcF (show ¬ (g.length : Int) < (g.length : Int) by omega), cond_false]) (s0 := ((0 : Int), ())) rfl
    rw [find_const, bef_range] at k
    simp only [h, if_true]
    rw [k]
    cases befB f g <;> rfl
  · simp only [h, if_false]

theorem concat_eq {f g : List (List Int)} (hf : f.length ≤ 64) (hg : g.length ≤ 64) : slices_Concat_s_s_int_s_int ([f, g], ()) = some (f ++ g, ()) := by
  have w0 : ∀ {x y : Int}, x = y → 0 ≤ y → y ≤ 1000 → IntKind.i64.wrap x = y := fun h h1 h2 => by rw [h]; exact wrap64 (by omega) (by omega)
  have a0 : slices_Concat_s_s_int_s_int_l1 ([f, g], ()) ((0 : Int), (0 : Int), ()) = some (.inl ((f.length : Int), (1 : Int), ())) := by
    unfold slices_Concat_s_s_int_s_int_l1
    simp only [dcT (show (0 : Int) < (([f, g] : List (List (List Int))).length : Int) by simp), cond_true, show getI [f, g] (0 : Int) = some f from rfl, Option.bind_some, w0 (show (0 : Int) + (f.length : Int) = (f.length : Int) by omega) (by omega) (by omega), w0 (show (0 : Int) + 1 = 1 by omega) (by omega) (by omega), dcF (show ¬ (f.length : Int) < 0 by omega), cond_false]
  have a1 : slices_Concat_s_s_int_s_int_l1 ([f, g], ()) ((f.length : Int), (1 : Int), ()) = some (.inl (((f.length + g.length : Nat) : Int), (2 : Int), ())) := by
    unfold slices_Concat_s_s_int_s_int_l1
    simp only [dcT (show (1 : Int) < (([f, g] : List (List (List Int))).length : Int) by simp), cond_true, show getI [f, g] (1 : Int) = some g from rfl, Option.bind_some, w0 (show (f.length : Int) + (g.length : Int) = ((f.length + g.length : Nat) : Int) by omega) (by omega) (by omega), w0 (show (1 : Int) + 1 = 2 by omega) (by omega) (by omega), dcF (show ¬ ((f.length + g.length : Nat) : Int) < 0 by omega), cond_false]
  have a2 : slices_Concat_s_s_int_s_int_l1 ([f, g], ()) (((f.length + g.length : Nat) : Int), (2 : Int), ()) = some (.inr (.inl (((f.length + g.length : Nat) : Int), ()))) := by
    unfold slices_Concat_s_s_int_s_int_l1
    simp only [dcF (show ¬ (2 : Int) < (([f, g] : List (List (List Int))).length : Int) by simp), cond_false]
  have b0 : slices_Concat_s_s_int_s_int_l2 ([f, g], ()) (([] : List (List Int)), (0 : Int), ()) = some (.inl (f, (1 : Int), ())) := by
    unfold slices_Concat_s_s_int_s_int_l2
    simp only [dcT (show (0 : Int) < (([f, g] : List (List (List Int))).length : Int) by simp), cond_true, show getI [f, g] (0 : Int) = some f from rfl, Option.bind_some, List.length_nil, List.nil_append, room24' (show 0 + f.length ≤ 4000000 by omega), Bool.and_true, Bool.true_and, w0 (show (0 : Int) + 1 = 1 by omega) (by omega) (by omega)]
  have b1 : slices_Concat_s_s_int_s_int_l2 ([f, g], ()) (f, (1 : Int), ()) = some (.inl (f ++ g, (2 : Int), ())) := by
    unfold slices_Concat_s_s_int_s_int_l2
    simp only [dcT (show (1 : Int) < (([f, g] : List (List (List Int))).length : Int) by simp), cond_true, show getI [f, g] (1 : Int) = some g from rfl, Option.bind_some, room24' (show f.length + g.length ≤ 4000000 by omega), Bool.and_true, Bool.true_and, w0 (show (1 : Int) + 1 = 2 by omega) (by omega) (by omega)]
  have b2 : slices_Concat_s_s_int_s_int_l2 ([f, g], ()) (f ++ g, (2 : Int), ()) = some (.inr (.inl (f ++ g, ()))) := by
    unfold slices_Concat_s_s_int_s_int_l2
    simp only [dcF (show ¬ (2 : Int) < (([f, g] : List (List (List Int))).length : Int) by simp), cond_false]
  have L1 : loopM (slices_Concat_s_s_int_s_int_l1 ([f, g], ())) ((0 : Int), (0 : Int), ()) = some (.inl (((f.length + g.length : Nat) : Int), ())) := by
    rw [loopM_inl a0, loopM_inl a1, loopM_inr a2]
  have L2 : loopM (slices_Concat_s_s_int_s_int_l2 ([f, g], ())) (([] : List (List Int)), (0 : Int), ()) = some (.inl (f ++ g, ())) := by
    rw [loopM_inl b0, loopM_inl b1, loopM_inr b2]
  unfold slices_Concat_s_s_int_s_int
  rw [L1]
  simp only [Option.bind_some, Sum.elim_inl, dcF (show ¬ ((f.length + g.length : Nat) : Int) < 0 by omega), cond_false, w0 (show (0 : Int) - 0 = 0 by omega) (by omega) (by omega), w0 (show ((f.length + g.length : Nat) : Int) - 0 = ((f.length + g.length : Nat) : Int) by omega) (by omega) (by omega)]
  by_cases h0 : f.length + g.length = 0
  · simp only [dcF (show ¬ ((f.length + g.length : Nat) : Int) > 0 by omega), cond_false, Option.bind_some, Sum.elim_inl]
    rw [L2]; rfl
  · simp only [dcT (show ((f.length + g.length : Nat) : Int) > 0 by omega), cond_true, dcT (show (0 : Int) ≤ 0 by omega), dcT (show (0 : Int) ≤ ((f.length + g.length : Nat) : Int) by omega), Int.toNat_natCast, room24' (show f.length + g.length ≤ 4000000 by omega), Bool.and_true, List.length_replicate, Option.bind_some, Sum.elim_inl]
    rw [show (List.replicate (f.length + g.length) ([] : List Int)).take (0 : Int).toNat = [] from rfl, L2]; rfl

theorem least_all {l : List (List Int)} {d : Nat} (hl : l.length ≤ 64) (hd : d ≤ 4) (h : ∀ t ∈ l, chk t = 0 ∧ t.length = d) : times_Least (l, ()) = some ((sortT l).filter (minB l), ()) := by
  rw [times_Least_eq hl hd fun t ht => (h t ht).2, front_same h]

theorem both_eq (f g : List (List Int)) : times_Both (f, g, ()) = some (if lcode f g = 0 then (if f.length + g.length > 64 then ([], 1, ()) else ((sortT (f ++ g)).filter (minB (f ++ g)), 0, ())) else ([], lcode f g, ())) := by
  unfold times_Both
  simp only [times_lists_eq, Option.bind_some, cond_bne, cond_beq]
  by_cases h : lcode f g = 0
  · obtain ⟨hf, hg, d, hd, h1, h2⟩ := lcode_zero h
    simp only [h, if_true]
    have hw : IntKind.i64.wrap ((f.length : Int) + (g.length : Int)) = ((f.length + g.length : Nat) : Int) := by
      rw [wrap64 (by omega) (by omega)]; omega
    rw [hw]
    by_cases hb : f.length + g.length > 64
    · simp only [dcT (show ((f.length + g.length : Nat) : Int) > 64 by omega), cond_true, if_pos hb]
      rfl
    · simp only [dcF (show ¬ ((f.length + g.length : Nat) : Int) > 64 by omega), cond_false, if_neg hb]
      rw [concat_eq hf hg]
      simp only [Option.bind_some]
      rw [least_all (d := d) (by rw [List.length_append]; omega) hd fun t ht => by
        rcases List.mem_append.1 ht with ht | ht
        · exact h1 t ht
        · exact h2 t ht]
      rfl
  · simp only [h, if_false]

theorem either_l1 {f g : List (List Int)} {t : List Int} {y : List (List Int)} {d : Nat} (hd : d ≤ 4) (ht : t.length = d) (ho : ∀ x ∈ g, x.length = d) (hl : g.length ≤ 64) (hy : y.length ≤ 100000) : loopM (times_Either_l1 (f, g, ()) t) (y, (0 : Int), ()) = some (.inl (y ++ g.map (joinL t), ())) := by
  have h := loopM_fold' (f := times_Either_l1 (f, g, ()) t) g.length (fun j => y ++ (g.take j).map (joinL t)) (.inl (y ++ g.map (joinL t), ())) (fun j hj => by
    have hx := ho _ (List.getElem_mem hj)
    have hlen : (y ++ (g.take j).map (joinL t)).length = y.length + j := by rw [List.length_append, List.length_map, List.length_take]; omega
    unfold times_Either_l1
    rw [List.take_succ_eq_append_getElem hj, List.map_append, ← List.append_assoc]
    simp only [dcT (show (j : Int) < (g.length : Int) by omega), cond_true, getI_nat, List.getElem?_eq_getElem hj, Option.bind_some, wrapS (show j < 9223372036854775807 by omega), over_eq (show t.length = g[j].length by omega) (by omega), show ∀ x : List Int, ([x] : List (List Int)).length = 1 from fun _ => rfl, hlen, room24' (show y.length + j + 1 ≤ 4000000 by omega), Bool.and_true]
    rfl) (by
    unfold times_Either_l1
    simp only [dcF (show ¬ (g.length : Int) < (g.length : Int) by omega), cond_false, List.take_length])
  have h0 : y ++ (g.take 0).map (joinL t) = y := by simp
  simp only [h0] at h
  exact h
theorem either_loop {f g : List (List Int)} {d : Nat} (hd : d ≤ 4) (ht : ∀ t ∈ f, t.length = d) (ho : ∀ x ∈ g, x.length = d) (hn : f.length ≤ 64) (hl : g.length ≤ 64) : loopM (times_Either_l2 (f, g, ())) (([] : List (List Int)), (0 : Int), ()) = some (.inl (joins f g, ())) := by
  have h := loopM_fold' (f := times_Either_l2 (f, g, ())) f.length (fun i => joins (f.take i) g) (.inl (joins f g, ())) (fun i hi => by
    have hlen := joins_length (f.take i) g
    rw [List.length_take] at hlen
    have hm : min i f.length * g.length ≤ 64 * 64 := Nat.mul_le_mul (by omega) hl
    unfold times_Either_l2
    rw [joins_take hi]
    simp only [dcT (show (i : Int) < (f.length : Int) by omega), cond_true, getI_nat, List.getElem?_eq_getElem hi, Option.bind_some, wrapS (show i < 9223372036854775807 by omega)]
    rw [either_l1 hd (ht _ (List.getElem_mem hi)) ho hl (by omega)]
    simp only [Option.bind_some, Sum.elim_inl]) (by
    unfold times_Either_l2
    simp only [dcF (show ¬ (f.length : Int) < (f.length : Int) by omega), cond_false, List.take_length])
  exact h

theorem joins_all {f g : List (List Int)} {d : Nat} (hd : d ≤ 4) (h1 : ∀ t ∈ f, chk t = 0 ∧ t.length = d) (h2 : ∀ t ∈ g, chk t = 0 ∧ t.length = d) : ∀ t ∈ joins f g, chk t = 0 ∧ t.length = d := fun x hx => by
  unfold joins at hx
  obtain ⟨t, ht, hx⟩ := List.mem_flatMap.1 hx
  obtain ⟨y, hy, rfl⟩ := List.mem_map.1 hx
  have a := h1 t ht
  have b := h2 y hy
  exact ⟨chk_join (by omega) a.1 b.1, by rw [joinL_length (by omega)]; exact a.2⟩

theorem either_eq (f g : List (List Int)) : times_Either (f, g, ()) = some (if lcode f g = 0 then (if f.length * g.length > 64 then ([], 1, ()) else ((sortT (joins f g)).filter (minB (joins f g)), 0, ())) else ([], lcode f g, ())) := by
  unfold times_Either
  simp only [times_lists_eq, Option.bind_some, cond_beq]
  by_cases h : lcode f g = 0
  · obtain ⟨hf, hg, d, hd, h1, h2⟩ := lcode_zero h
    have hm : f.length * g.length ≤ 64 * 64 := Nat.mul_le_mul hf hg
    simp only [h, if_true]
    have hw : IntKind.i64.wrap ((f.length : Int) * (g.length : Int)) = ((f.length * g.length : Nat) : Int) := by
      rw [show (f.length : Int) * (g.length : Int) = ((f.length * g.length : Nat) : Int) from (Int.natCast_mul _ _).symm, wrap64 (by omega) (by omega)]
    rw [hw]
    by_cases hb : f.length * g.length > 64
    · simp only [dcT (show ((f.length * g.length : Nat) : Int) > 64 by omega), cond_true, if_pos hb, Option.bind_some, Sum.elim_inl, cond_bne]
      rfl
    · simp only [dcF (show ¬ ((f.length * g.length : Nat) : Int) > 64 by omega), cond_false, if_neg hb, Option.bind_some, Sum.elim_inl, cond_bne, if_true]
      rw [either_loop hd (fun t ht => (h1 t ht).2) (fun t ht => (h2 t ht).2) hf hg]
      simp only [Option.bind_some, Sum.elim_inl]
      rw [least_all (d := d) (by rw [joins_length]; omega) hd (joins_all hd h1 h2)]
      rfl
  · simp only [h, if_false, Sum.elim_inl, cond_bne]

/-- THE LAW. -/
theorem timesBefores (f g : List (List Int)) : law_TimesBefores (f, g, ()) = some (true, ()) := by
  unfold law_TimesBefores
  simp only [before_eq, both_eq, either_eq, ref_TimesLists_eq, Option.bind_some]
  by_cases h : lcode f g = 0
  · obtain ⟨hf, hg, d, hd, h1, h2⟩ := lcode_zero h
    have hm : f.length * g.length ≤ 64 * 64 := Nat.mul_le_mul hf hg
    have hw1 : IntKind.i64.wrap ((f.length : Int) + (g.length : Int)) = ((f.length + g.length : Nat) : Int) := by
      rw [wrap64 (by omega) (by omega)]; omega
    have hw2 : IntKind.i64.wrap ((f.length : Int) * (g.length : Int)) = ((f.length * g.length : Nat) : Int) := by
      rw [show (f.length : Int) * (g.length : Int) = ((f.length * g.length : Nat) : Int) from (Int.natCast_mul _ _).symm, wrap64 (by omega) (by omega)]
    have hall : ∀ t ∈ f ++ g, chk t = 0 ∧ t.length = d := fun t ht => by
      rcases List.mem_append.1 ht with ht | ht
      · exact h1 t ht
      · exact h2 t ht
    have hj := joins_all hd h1 h2
    have same : ∀ {l : List (List Int)}, l.length ≤ 64 → (∀ t ∈ l, chk t = 0 ∧ t.length = d) → ref_Lists ((sortT l).filter (minB l), (sortT l).filter (minB l), ()) = some (true, ()) := fun {l} hl hq => by
      obtain ⟨s1, s2, s3⟩ := sort_facts l
      refine ref_Lists_same (Nat.le_trans (List.length_filter_le _ _) (by omega)) fun x hx => ?_
      have := (hq x ((s2 x).1 (List.mem_filter.1 hx).1)).2
      omega
    simp only [h, if_true, bneF rfl, cond_false, ref_before_eq hf hg, Option.bind_some, hw1, hw2]
    rw [show (befB f g != befB f g) = false from by cases befB f g <;> rfl, cond_false]
    have tail : (cond (decide (((f.length * g.length : Nat) : Int) > (64 : Int))) (cond ((if f.length * g.length > 64 then (([] : List (List Int)), (1 : Int), ()) else ((sortT (joins f g)).filter (minB (joins f g)), 0, ())).2.1 == (1 : Int)) (some ((((if f.length * g.length > 64 then (([] : List (List Int)), (1 : Int), ()) else ((sortT (joins f g)).filter (minB (joins f g)), 0, ())).1.length : Int) == (0 : Int)), ())) (some (false, ()))) (cond ((if f.length * g.length > 64 then (([] : List (List Int)), (1 : Int), ()) else ((sortT (joins f g)).filter (minB (joins f g)), 0, ())).2.1 == (0 : Int)) ((ref_TimesJoins (f, g, ())).bind fun r11 => ((ref_TimesFront r11).bind fun r12 => ((ref_Lists ((if f.length * g.length > 64 then (([] : List (List Int)), (1 : Int), ()) else ((sortT (joins f g)).filter (minB (joins f g)), 0, ())).1, r12.1, ())).bind fun r13 => (some r13)))) (some (false, ()))) : Option (Bool × Unit)) = some (true, ()) := by
      by_cases hb : f.length * g.length > 64
      · simp only [dcT (show ((f.length * g.length : Nat) : Int) > 64 by omega), cond_true, if_pos hb]
        rfl
      · simp only [dcF (show ¬ ((f.length * g.length : Nat) : Int) > 64 by omega), cond_false, if_neg hb]
        have hjl : (joins f g).length ≤ 64 := by rw [joins_length]; omega
        rw [ref_joins_eq hd (fun t ht => (h1 t ht).2) (fun t ht => (h2 t ht).2) hf hg]
        simp only [Option.bind_some]
        rw [ref_TimesFront_eq hjl hj]
        simp only [Option.bind_some]
        rw [same hjl hj]
        rfl
    by_cases ha : f.length + g.length > 64
    · simp only [dcT (show ((f.length + g.length : Nat) : Int) > 64 by omega), cond_true, if_pos ha, bneF rfl, cond_false, show (([] : List (List Int)).length : Int) = 0 from rfl, Option.bind_some, Sum.elim_inr, Sum.elim_inl]
      exact tail
    · simp only [dcF (show ¬ ((f.length + g.length : Nat) : Int) > 64 by omega), cond_false, if_neg ha, bneF rfl]
      rw [ref_all_eq (by omega) (by omega)]
      simp only [Option.bind_some]
      rw [ref_TimesFront_eq (by rw [List.length_append]; omega) hall]
      simp only [Option.bind_some]
      rw [same (by rw [List.length_append]; omega) hall]
      simp only [Option.bind_some, Bool.not_true, cond_false, Sum.elim_inr, Sum.elim_inl]
      exact tail
  · simp only [h, if_false, bneT h, cond_true, show ∀ a : Int, (a == a) = true from fun a => by simp]
    rfl

theorem timesBefores_law (x : ADen sp11.args) (wf : WfA sp11.args x) : law_TimesBefores x = some (true, ()) := by
  obtain ⟨f, g, ⟨⟩⟩ := x
  exact timesBefores f g

end Go.Proofs.Try
