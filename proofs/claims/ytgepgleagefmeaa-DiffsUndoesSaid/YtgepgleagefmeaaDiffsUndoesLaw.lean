/- The plain law of DiffsUndoes. -/
import Derived.Test.YtgepgleagefmeaaP19Funs
import Derived.Test.YtgepgleagefmeaaAbsSums
import Derived.Test.YtgepgleagefmeaaP19LemmasDiffsUndoes3
namespace Go.Proofs.Try
open Go Go.Abs


/-- The program's look for times that come twice. -/
theorem mem_key {D : List Df} (h4 : ∀ d ∈ D, d.1.length ≤ 4) {i : Nat} (hi : i < D.length) : keyT D[i].1 ∈ (D.take i).map (fun d => keyT d.1) ↔ D[i].1 ∈ (D.take i).map (·.1) := by
  rw [List.mem_map, List.mem_map]
  constructor
  · rintro ⟨d, hd, he⟩
    exact ⟨d, hd, keyT_inj (h4 d (List.mem_of_mem_take hd)) (h4 _ (List.getElem_mem hi)) he⟩
  · rintro ⟨d, hd, he⟩
    exact ⟨d, hd, by rw [he]⟩
abbrev Tm := List (HKy × Int)
def seenT (D : List Df) : Nat → Tm
  | 0 => []
  | i + 1 => match D[i]? with
    | some d => mapSet HT (seenT D i) (keyT d.1) (i : Int)
    | none => seenT D i
theorem seen_get (D : List Df) (k : HKy) : ∀ i, i ≤ D.length → ((mapGet HT (seenT D i) k).isSome = true ↔ k ∈ (D.take i).map (fun d => keyT d.1))
  | 0, _ => by
    rw [List.take_zero]
    exact ⟨fun h => (by cases h), fun h => (by cases h)⟩
  | i + 1, h => by
    have ih := seen_get D k i (by omega)
    rw [List.take_succ_eq_append_getElem h, List.map_append, List.mem_append, ← ih]
    have hsn : seenT D (i + 1) = mapSet HT (seenT D i) (keyT D[i].1) (i : Int) := by rw [seenT, List.getElem?_eq_getElem h]
    rw [hsn]
    by_cases e : k = keyT D[i].1
    · subst e
      rw [mapGet_self ht_flat]
      exact ⟨fun _ => .inr (by simp), fun _ => rfl⟩
    · rw [mapGet_other ht_flat _ _ _ _ e]
      exact ⟨.inl, fun h => h.elim id fun h => absurd (by simpa using h) e⟩
theorem undo_l1 {D : List Df} (g : Good D) : ∃ m, loopM (diffs_Undo_l1 (D, ())) ((0 : Int), ([] : Tm), ()) = some (if (D.map (·.1)).Nodup then .inr (.inl (m, ())) else .inl ([], 3, m, ())) := by
  have g1 := g.len
  have h4 : ∀ d ∈ D, d.1.length ≤ 4 := fun d hd => good_times g _ (List.mem_map_of_mem hd)
  have key : ∀ k i, i + k = D.length → ((D.take i).map (·.1)).Nodup → ∃ m, loopM (diffs_Undo_l1 (D, ())) ((i : Int), seenT D i, ()) = some (if (D.map (·.1)).Nodup then .inr (.inl (m, ())) else .inl ([], 3, m, ())) := by
    intro k
    induction k with
    | zero =>
      intro i hi hn
      have e : i = D.length := by omega
      subst e
      rw [List.take_length] at hn
      refine ⟨seenT D D.length, ?_⟩
      rw [if_pos hn]
      refine loopM_inr ?_
      unfold diffs_Undo_l1
      simp only [dcF (show ¬ (D.length : Int) < (D.length : Int) by omega), cond_false]
    | succ k ih =>
      intro i hi hn
      have hlt : i < D.length := by omega
      have hs := seen_get D (keyT D[i].1) i (by omega)
      rw [mem_key h4 hlt] at hs
      have hst : diffs_Undo_l1 (D, ()) ((i : Int), seenT D i, ()) = cond (mapGet HT (seenT D i) (keyT D[i].1)).isSome (some (.inr (.inl ([], 3, seenT D i, ())))) (some (.inl (((i + 1 : Nat) : Int), mapSet HT (seenT D i) (keyT D[i].1) (i : Int), ()))) := by
        unfold diffs_Undo_l1
        simp only [dcT (show (i : Int) < (D.length : Int) by omega), cond_true, getI_nat, List.getElem?_eq_getElem hlt, Option.bind_some, wrapS (show i < 9223372036854775807 by omega), keyOf_eq]
      have hsn : seenT D (i + 1) = mapSet HT (seenT D i) (keyT D[i].1) (i : Int) := by rw [seenT, List.getElem?_eq_getElem hlt]
      by_cases hm : D[i].1 ∈ (D.take i).map (·.1)
      · have hs1 := hs.2 hm
        rw [show mapGet HT (seenT D i) (keyT D[i].1) = mapGet HT (seenT D i) (keyT D[i].1) from rfl, hs1, cond_true] at hst
        refine ⟨seenT D i, ?_⟩
        rw [if_neg (fun hq => ?_)]
        · exact loopM_inr hst
        · have h5 : ((D.take (i + 1)).map (·.1)).Nodup := hq.sublist ((List.take_sublist _ _).map _)
          rw [List.take_succ_eq_append_getElem hlt, List.map_append, List.nodup_append] at h5
          exact h5.2.2 _ hm _ (by simp) rfl
      · have hs0 : (mapGet HT (seenT D i) (keyT D[i].1)).isSome = false := by
          cases hq : (mapGet HT (seenT D i) (keyT D[i].1)).isSome with
          | false => rfl
          | true => exact absurd (hs.1 hq) hm
        rw [hs0, cond_false, ← hsn] at hst
        obtain ⟨m, hmm⟩ := ih (i + 1) (by omega) (by
          rw [List.take_succ_eq_append_getElem hlt, List.map_append, List.nodup_append]
          exact ⟨hn, by simp, fun a ha b hb e => hm (by rw [List.map_singleton, List.mem_singleton] at hb; rw [← hb, ← e]; exact ha)⟩)
        exact ⟨m, by rw [loopM_inl hst]; exact hmm⟩
  exact key D.length 0 (by omega) (by simp)
theorem cloneD (D : List Df) (h : D.length ≤ 1000000) : slices_Clone_s_api_Diff_api_Diff (D, ()) = some (D, ()) := by
  unfold slices_Clone_s_api_Diff_api_Diff
  have hr : roomOk D.length 48 = true := room_ok (by omega) (by omega)
  simp [hr]
theorem moves_c1 (a b : Df) (ha : a.1.length ≤ 1000000) : (fun a b => (diffs_Moves_c1 (a, b, ())).map fun r => r.1) a b = some (cmpL a.1 b.1) := by
  show (diffs_Moves_c1 (a, b, ())).map _ = _
  unfold diffs_Moves_c1
  rw [slices_Compare_eq ha]; rfl
theorem u10 (S : List Df) : diffs_Undo_l10 S = mv10 S := rfl
theorem sortT_len {l : List (List Int)} : (sortT l).length = l.length ↔ l.Nodup := by
  have hs := sort_facts l
  have hnd : (sortT l).Nodup := hs.2.2.imp fun {a b} hab e => by rw [e] at hab; exact cmpL_irr _ hab
  constructor
  · intro h
    have hp : ∀ {a b : List (List Int)}, a.Nodup → (∀ x ∈ a, x ∈ b) → b.length ≤ a.length → b.Nodup := by
      intro a
      induction a with
      | nil => intro b _ _ hl; have : b = [] := List.eq_nil_of_length_eq_zero (by simpa using hl); subst this; exact List.nodup_nil
      | cons x a ih =>
        intro b hn hsub hl
        rw [List.nodup_cons] at hn
        have hx := hsub x List.mem_cons_self
        have hb := List.perm_cons_erase hx
        have h1 := ih (b := b.erase x) hn.2 (fun y hy => (List.mem_erase_of_ne (fun e => hn.1 (by rw [← e]; exact hy))).2 (hsub y (List.mem_cons_of_mem _ hy))) (by
          have h2 := List.length_erase_of_mem hx
          rw [List.length_cons] at hl
          omega)
        refine hb.nodup_iff.2 (List.nodup_cons.2 ⟨fun hm => ?_, h1⟩)
        have h3 := nodup_sub_len (l := x :: a) (m := b.erase x) (List.nodup_cons.2 hn) fun y hy => by
          rcases List.mem_cons.1 hy with e | hy
          · rw [e]; exact hm
          · exact (List.mem_erase_of_ne (fun e => hn.1 (by rw [← e]; exact hy))).2 (hsub y (List.mem_cons_of_mem _ hy))
        have h2 := List.length_erase_of_mem hx
        have h4 := List.length_pos_of_mem hx
        rw [List.length_cons] at h3 hl
        omega
    exact hp hnd (fun x hx => (hs.2.1 x).1 hx) (by omega)
  · intro h
    have h1 := nodup_sub_len h (m := sortT l) fun x hx => (hs.2.1 x).2 hx
    omega
theorem told_same2 (l : List Df) (h : ∀ d ∈ l, d.1.length ≤ 1000000 ∧ d.2.1.length ≤ 3000000000000) : ref_DiffsSame ((told l).1, (told l).1, ()) = some (true, ()) := by
  unfold told
  split
  · exact ref_same (by simp) (fun d hd => by cases hd)
  · split
    · exact ref_same (by simp) (fun d hd => by cases hd)
    · rename_i h1 h2
      exact ref_same (by show l.length ≤ 2000; omega) h
theorem tidy_dims {D : List Df} (g : Fine D) : ∀ d ∈ tidyL D, d.1.length ≤ 1000000 ∧ d.2.1.length ≤ 3000000000000 := fun d hd => by
  have h3 := len_le_num hd
  have h2 := tidy_num D
  have h1 := g.num
  obtain ⟨u, hu, -, rfl⟩ := tidyL_mem.1 hd
  have h7 := fine_times g u hu
  exact ⟨by show u.length ≤ _; omega, by omega⟩
theorem diffsUndoes {D : List Df} (h : D.length * 48 ≤ 140737488355328) : law_DiffsUndoes (D, ()) = some (true, ()) := by
  unfold law_DiffsUndoes diffs_Undo
  rw [check_eq h, ref_check_eq D]
  simp only [Option.bind_some]
  by_cases h0 : dchk D = 0
  · have g := dchk_zero h0
    have g1 := g.len
    have g2 := g.num
    obtain ⟨n, hn⟩ := g.same
    simp only [bneF h0, cond_false, beqT h0, cond_true]
    obtain ⟨m, hm⟩ := undo_l1 g
    rw [hm, ref_times_map (by omega)]
    simp only [Option.bind_some]
    rw [ref_TimesSorted_eq (by rw [List.length_map]; omega) n (fun t ht => by
      obtain ⟨d, hd, rfl⟩ := List.mem_map.1 ht
      exact ⟨g.chk d hd, hn d hd⟩)]
    simp only [Option.bind_some]
    by_cases hnd : (D.map (·.1)).Nodup
    · have hsl := sortT_len.2 hnd
      rw [List.length_map] at hsl
      have s := sortH_ok hnd (by omega) (by omega) g.chk g.same
      have hf := undoI_fine s (Nat.le_refl _)
      rw [if_pos hnd]
      simp only [Sum.elim_inr, Sum.elim_inl]
      rw [cloneD D (by omega)]
      simp only [Option.bind_some]
      rw [room_ok (show D.length ≤ 140737488355328 by omega) (show D.length * 1 ≤ 140737488355328 by omega), cond_true]
      rw [sort_times (fun a b ha => moves_c1 a b ha) s (sortH_perm hnd).symm]
      simp only [Option.bind_some, u10]
      rw [mv10_eq s]
      simp only [Option.bind_some, Sum.elim_inl]
      rw [undo_told s]
      simp only [Option.bind_some]
      rw [bneF (show ((sortT (D.map (·.1))).length : Int) = (D.length : Int) by omega), cond_false]
      simp only [Option.bind_some, Sum.elim_inl]
      rw [bneF h0, cond_false, ref_undo_eq hnd (by omega) (by omega) g.chk g.same]
      simp only [Option.bind_some]
      rw [ref_told_eq hf]
      simp only [Option.bind_some, beqT rfl, cond_true, told_same2 _ (tidy_dims hf)]
    · have hsl : (sortT (D.map (·.1))).length ≠ D.length := fun e => hnd (sortT_len.1 (by rw [List.length_map]; exact e))
      rw [if_neg hnd]
      simp only [Sum.elim_inl, Option.bind_some]
      rw [bneT (show ((sortT (D.map (·.1))).length : Int) ≠ (D.length : Int) by omega), cond_true]
      simp only [Option.bind_some, Sum.elim_inl]
      rfl
  · simp only [bneT h0, cond_true, beqF h0, cond_false, Option.bind_some, Sum.elim_inl, beqT rfl]
    rfl
theorem diffsUndoes_law (x : ADen sp7.args) (h0 : List.length x.1 * 48 ≤ 140737488351232) : law_DiffsUndoes x = some (true, ()) := by
  obtain ⟨D, ⟨⟩⟩ := x
  exact diffsUndoes (show D.length * 48 ≤ 140737488355328 from Nat.le_trans h0 (by decide))

end Go.Proofs.Try
