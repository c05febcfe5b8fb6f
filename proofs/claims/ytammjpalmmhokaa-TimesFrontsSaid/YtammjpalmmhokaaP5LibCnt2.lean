/- Lemmas on functions of the program, by name: cnt2. -/
import Derived.Test.YtammjpalmmhokaaP5Funs
import Derived.Test.YtammjpalmmhokaaAbsSums
import Derived.Test.YtammjpalmmhokaaP5LibCnt1
namespace Go.Proofs.Try
open Go Go.Abs


/-! Tallies checked. -/
abbrev Cn := List Int × Int × Unit
def tlist (l : List (List Int)) : Int :=
  if 64 < l.length then 1 else (((List.range l.length).find? fun i => chk (l.getD i []) != 0).map fun i => chk (l.getD i [])).getD (if ((List.range l.length).any fun i => ((l.getD i []).length : Int) != ((l.getD 0 []).length : Int)) = true then 3 else 0)

theorem times_List_eq (l : List (List Int)) : times_List (l, ()) = some (tlist l, ()) := by
  unfold times_List tlist
  by_cases h : 64 < l.length
  · rw [dcT (show (l.length : Int) > 64 by omega), cond_true, if_pos h]
  rw [dcF (show ¬ (l.length : Int) > 64 by omega), cond_false, if_neg h]
  have k1 := loopM_exit (f := times_List_l1 (l, ())) l.length (fun i => ((i : Int), ())) (fun i => cond (chk (l.getD i []) != 0) (some (chk (l.getD i []), ())) none) (.inl ()) (fun i hi => by
    unfold times_List_l1
    simp only [dcT (show (i : Int) < (l.length : Int) by omega), cond_true, getI_D [] (Int.natCast_nonneg i) (show (i : Int) < (l.length : Int) by omega), Int.toNat_natCast, Option.bind_some, times_Check_eq]
    rw [wrapS (by omega)]
    cases chk (l.getD i []) != 0 <;> rfl) (by
    unfold times_List_l1
    simp only [dcF (show ¬ (l.length : Int) < (l.length : Int) by omega), cond_false]) (s0 := ((0 : Int), ())) rfl
  have k2 := loopM_exit (f := times_List_l2 (l, ())) l.length (fun i => ((i : Int), ())) (fun i => cond (((l.getD i []).length : Int) != ((l.getD 0 []).length : Int)) (some ((3 : Int), ())) none) (.inl ()) (fun i hi => by
    unfold times_List_l2
    simp only [dcT (show (i : Int) < (l.length : Int) by omega), cond_true, getI_D [] (Int.natCast_nonneg i) (show (i : Int) < (l.length : Int) by omega), getI_D [] (show (0 : Int) ≤ 0 by omega) (show (0 : Int) < (l.length : Int) by omega), Int.toNat_natCast, Option.bind_some]
    rw [wrapS (by omega)]
    show (cond (((l.getD i []).length : Int) != ((l.getD 0 []).length : Int)) _ _) = _
    cases ((l.getD i []).length : Int) != ((l.getD 0 []).length : Int) <;> rfl) (by
    unfold times_List_l2
    simp only [dcF (show ¬ (l.length : Int) < (l.length : Int) by omega), cond_false]) (s0 := ((0 : Int), ())) rfl
  rw [find_map (fun i => chk (l.getD i []) != 0) fun i => (chk (l.getD i []), ())] at k1
  rw [find_const] at k2
  rw [k1]
  cases (List.range l.length).find? fun i => chk (l.getD i []) != 0 with
  | some i => rfl
  | none =>
    simp only [Option.map_none, exitOr_none, Option.bind_some, Sum.elim_inr, Sum.elim_inl, k2, Option.getD_none]
    split <;> rfl

theorem ref_TimesList_eq (l : List (List Int)) : ref_TimesList (l, ()) = some (tlist l, ()) := by
  unfold ref_TimesList tlist
  by_cases h : 64 < l.length
  · rw [dcT (show (l.length : Int) > 64 by omega), cond_true, if_pos h]
  rw [dcF (show ¬ (l.length : Int) > 64 by omega), cond_false, if_neg h]
  have k1 := loopM_exit (f := ref_TimesList_l1 (l, ())) l.length (fun i => ((i : Int), ())) (fun i => cond (chk (l.getD i []) != 0) (some (chk (l.getD i []), ())) none) (.inl ()) (fun i hi => by
    unfold ref_TimesList_l1
    simp only [dcT (show (i : Int) < (l.length : Int) by omega), cond_true, getI_D [] (Int.natCast_nonneg i) (show (i : Int) < (l.length : Int) by omega), Int.toNat_natCast, Option.bind_some, ref_TimesCheck_eq]
    rw [wrapS (by omega)]
    cases chk (l.getD i []) != 0 <;> rfl) (by
    unfold ref_TimesList_l1
    simp only [dcF (show ¬ (l.length : Int) < (l.length : Int) by omega), cond_false]) (s0 := ((0 : Int), ())) rfl
  have k2 := loopM_exit (f := ref_TimesList_l2 (l, ())) l.length (fun i => ((i : Int), ())) (fun i => cond (((l.getD i []).length : Int) != ((l.getD 0 []).length : Int)) (some ((3 : Int), ())) none) (.inl ()) (fun i hi => by
    unfold ref_TimesList_l2
    simp only [dcT (show (i : Int) < (l.length : Int) by omega), cond_true, getI_D [] (Int.natCast_nonneg i) (show (i : Int) < (l.length : Int) by omega), getI_D [] (show (0 : Int) ≤ 0 by omega) (show (0 : Int) < (l.length : Int) by omega), Int.toNat_natCast, Option.bind_some]
    rw [wrapS (by omega)]
    show (cond (((l.getD i []).length : Int) != ((l.getD 0 []).length : Int)) _ _) = _
    cases ((l.getD i []).length : Int) != ((l.getD 0 []).length : Int) <;> rfl) (by
    unfold ref_TimesList_l2
    simp only [dcF (show ¬ (l.length : Int) < (l.length : Int) by omega), cond_false]) (s0 := ((0 : Int), ())) rfl
  rw [find_map (fun i => chk (l.getD i []) != 0) fun i => (chk (l.getD i []), ())] at k1
  rw [find_const] at k2
  rw [k1]
  cases (List.range l.length).find? fun i => chk (l.getD i []) != 0 with
  | some i => rfl
  | none =>
    simp only [Option.map_none, exitOr_none, Option.bind_some, Sum.elim_inr, Sum.elim_inl, k2, Option.getD_none]
    split <;> rfl

theorem tlist_zero {l : List (List Int)} (h : tlist l = 0) : l.length ≤ 64 ∧ ∀ t ∈ l, chk t = 0 ∧ t.length = (l.getD 0 []).length := by
  unfold tlist at h
  split at h
  · cases h
  rename_i h64
  cases hf : (List.range l.length).find? fun i => chk (l.getD i []) != 0 with
  | some i =>
    rw [hf] at h
    have := List.find?_some hf
    simp only [bne_iff_ne] at this
    exact absurd h this
  | none =>
    rw [hf] at h
    simp only [Option.map_none, Option.getD_none] at h
    split at h
    · cases h
    · rename_i ha
      refine ⟨by omega, fun t ht => ?_⟩
      obtain ⟨i, hi, rfl⟩ := List.mem_iff_getElem.1 ht
      have hg : l.getD i [] = l[i] := by rw [List.getD_eq_getElem?_getD, List.getElem?_eq_getElem hi]; rfl
      have h1 := find_none_all hf i hi
      have h2 := List.any_eq_false.1 (Bool.eq_false_iff.2 ha) i (List.mem_range.2 hi)
      rw [hg] at h1 h2
      refine ⟨by simpa using h1, ?_⟩
      simp only [bne_iff_ne, ne_eq, Decidable.not_not] at h2
      omega

/-! The times of a tally. -/
def overB (n : Int) : Bool := decide (n < -1099511627776) || decide (n > 1099511627776)
theorem over_false {n : Int} : overB n = false ↔ -1099511627776 ≤ n ∧ n ≤ 1099511627776 := by
  unfold overB
  rw [Bool.or_eq_false_iff, decide_eq_false_iff_not, decide_eq_false_iff_not]
  omega
def badC (x : Cn) : Bool := (x.2.1 == 0) || overB x.2.1
def cz : Cn := ([], 0, ())
def ordB (c : List Cn) : Bool := (List.range (c.length - 1)).any fun k => !lessB (c.getD k cz).1 (c.getD (k + 1) cz).1
def cchk (c : List Cn) : Int := if tlist (c.map (·.1)) ≠ 0 then tlist (c.map (·.1)) else if ordB c = true then 3 else if ((List.range c.length).any fun i => badC (c.getD i cz)) = true then 2 else 0

/-- What a tally without faults is. -/
structure Tally (c : List Cn) : Prop where
  len : c.length ≤ 64
  fine : ∀ x ∈ c, chk x.1 = 0 ∧ x.1.length = (c.getD 0 cz).1.length
  num : ∀ x ∈ c, -1099511627776 ≤ x.2.1 ∧ x.2.1 ≤ 1099511627776
  up : (c.map (·.1)).Pairwise fun a b => cmpL a b < 0

theorem pair_adj {l : List (List Int)} (h : ∀ k (hk : k + 1 < l.length), cmpL l[k] l[k + 1] < 0) : l.Pairwise fun a b => cmpL a b < 0 := by
  rw [List.pairwise_iff_getElem]
  intro i j hi hj hij
  obtain ⟨d, rfl⟩ := Nat.exists_eq_add_of_lt hij
  induction d with
  | zero => exact h i hj
  | succ d ih => exact cmpL_trans (ih (by omega) (by omega)) (h (i + d + 1) hj)

theorem cchk_zero {c : List Cn} (h : cchk c = 0) : Tally c := by
  unfold cchk at h
  split at h
  · rename_i h1; exact absurd h h1
  rename_i h1
  split at h
  · cases h
  rename_i h2
  split at h
  · cases h
  rename_i h3
  have ht := tlist_zero (by simpa using h1 : tlist (c.map (·.1)) = 0)
  have h0 : ((c.map (·.1)).getD 0 []).length = (c.getD 0 cz).1.length := by
    cases c <;> rfl
  refine ⟨by simpa using ht.1, fun x hx => ?_, fun x hx => ?_, pair_adj fun k hk => ?_⟩
  · have := ht.2 x.1 (List.mem_map.2 ⟨x, hx, rfl⟩)
    rw [h0] at this
    exact this
  · obtain ⟨i, hi, rfl⟩ := List.mem_iff_getElem.1 hx
    have := List.any_eq_false.1 (Bool.eq_false_iff.2 h3) i (List.mem_range.2 hi)
    rw [List.getD_eq_getElem?_getD, List.getElem?_eq_getElem hi] at this
    simp only [Option.getD_some, badC, Bool.or_eq_true, not_or, Bool.not_eq_true] at this
    exact over_false.1 this.2
  · rw [List.length_map] at hk
    have := List.any_eq_false.1 (Bool.eq_false_iff.2 h2) k (List.mem_range.2 (by omega))
    rw [List.getD_eq_getElem?_getD, List.getElem?_eq_getElem (show k < c.length by omega), List.getD_eq_getElem?_getD, List.getElem?_eq_getElem hk] at this
    simp only [Option.getD_some, Bool.not_eq_true', Bool.not_eq_false] at this
    rw [List.getElem_map, List.getElem_map]
    exact (lessB_iff.1 this).2.2.2

end Go.Proofs.Try
