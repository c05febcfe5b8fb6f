/- Lemmas on functions of the program, by name: cnt4. -/
import Derived.Test.YtammjpalmmhokaaP5Funs
import Derived.Test.YtammjpalmmhokaaAbsSums
import Derived.Test.YtammjpalmmhokaaP5LibCnt3
namespace Go.Proofs.Try
open Go Go.Abs


/-! The document's times, sorted. -/
def insT (t : List Int) : List (List Int) → List (List Int)
  | [] => [t]
  | u :: l => if cmpL u t < 0 then u :: insT t l else if u = t then u :: l else t :: u :: l
def ltP (t : List Int) (u : List Int) : Bool := decide (cmpL u t < 0)
theorem ins_split (t : List Int) : ∀ out : List (List Int), insT t out = match out.dropWhile (ltP t) with
    | [] => out.takeWhile (ltP t) ++ [t]
    | u :: l => if u = t then out else out.takeWhile (ltP t) ++ t :: u :: l
  | [] => rfl
  | u :: l => by
    have ih := ins_split t l
    rw [insT, List.dropWhile_cons, List.takeWhile_cons]
    by_cases h : cmpL u t < 0
    · have hp : ltP t u = true := decide_eq_true h
      rw [if_pos h, if_pos hp, if_pos hp, ih]
      cases List.dropWhile (ltP t) l with
      | nil => rfl
      | cons v m =>
        simp only
        split
        · rfl
        · rfl
    · have hp : ¬ ltP t u = true := fun e => h (of_decide_eq_true e)
      rw [if_neg h, if_neg hp, if_neg hp]
      rfl
theorem take_while {p : List Int → Bool} : ∀ l : List (List Int), l.take (l.takeWhile p).length = l.takeWhile p
  | [] => rfl
  | u :: l => by
    rw [List.takeWhile_cons]
    split
    · rw [List.length_cons, List.take_succ_cons, take_while l]
    · rfl
theorem drop_while {p : List Int → Bool} : ∀ l : List (List Int), l.drop (l.takeWhile p).length = l.dropWhile p
  | [] => rfl
  | u :: l => by
    rw [List.takeWhile_cons, List.dropWhile_cons]
    split
    · rw [List.length_cons, List.drop_succ_cons, drop_while l]
    · rfl
theorem while_le {p : List Int → Bool} (l : List (List Int)) : (l.takeWhile p).length ≤ l.length := (List.takeWhile_prefix p).length_le

theorem sorted_l1 {out : List (List Int)} {t : List Int} (z : Int × Unit) (hl : out.length ≤ 1000000) (hp : ∀ u ∈ out, lessB u t = ltP t u) :
    loopM (ref_TimesSorted_l1 (out, z) t) ((0 : Int), ()) = some (.inl ((((out.takeWhile (ltP t)).length : Nat) : Int), ())) := by
  have key : ∀ k i, i + k = out.length → loopM (ref_TimesSorted_l1 (out, z) t) ((i : Int), ()) = some (.inl (((i + ((out.drop i).takeWhile (ltP t)).length : Nat) : Int), ())) := by
    intro k
    induction k with
    | zero =>
      intro i hi
      rw [loopM_inr (b := .inl ((i : Int), ())) (by
        unfold ref_TimesSorted_l1
        simp only [dcF (show ¬ (i : Int) < (out.length : Int) by omega), cond_false])]
      rw [List.drop_of_length_le (by omega)]; rfl
    | succ k ih =>
      intro i hi
      have hlt : i < out.length := by omega
      have hst : ref_TimesSorted_l1 (out, z) t ((i : Int), ()) = cond (ltP t out[i]) (some (.inl (((i + 1 : Nat) : Int), ()))) (some (.inr (.inl ((i : Int), ())))) := by
        unfold ref_TimesSorted_l1
        simp only [dcT (show (i : Int) < (out.length : Int) by omega), cond_true, getI_lt hlt, Option.bind_some, ref_TimesLess_eq, hp _ (List.getElem_mem hlt), wrapS (show i < 9223372036854775807 by omega)]
      rw [List.drop_eq_getElem_cons hlt, List.takeWhile_cons]
      cases hb : ltP t out[i] with
      | true =>
        rw [hb, cond_true] at hst
        rw [loopM_inl hst, ih (i + 1) (by omega)]
        simp only [if_true, List.length_cons]
        rw [show i + 1 + ((out.drop (i + 1)).takeWhile (ltP t)).length = i + (((out.drop (i + 1)).takeWhile (ltP t)).length + 1) by omega]
      | false =>
        rw [hb, cond_false] at hst
        rw [loopM_inr hst]; rfl
  have := key out.length 0 (by omega)
  rw [List.drop_zero, Nat.zero_add] at this
  exact this

theorem sorted_l2 {out : List (List Int)} (z : Int × Unit) {m : Nat} (hm : m ≤ out.length) (hl : out.length ≤ 1000000) :
    loopM (ref_TimesSorted_l2 ((m : Int), ()) (out, z)) (([] : List (List Int)), (0 : Int), ()) = some (.inl (out.take m, ())) := by
  refine loopM_sim m (fun i => (out.take i, (i : Int), ())) _ (fun i hi => ?_) ?_ rfl
  · unfold ref_TimesSorted_l2
    have hlt : i < out.length := by omega
    have hlen : (out.take i).length + (0 + 1) = i + 1 := by rw [List.length_take]; omega
    simp only [dcT (show (i : Int) < (m : Int) by omega), cond_true, getI_lt hlt, Option.bind_some, List.length_cons, List.length_nil, hlen, room_ok (show i + 1 ≤ 140737488355328 by omega) (show (i + 1) * 24 ≤ 140737488355328 by omega), wrapS (show i < 9223372036854775807 by omega), Bool.and_true]
    rw [List.take_succ_eq_append_getElem hlt]
  · unfold ref_TimesSorted_l2
    simp only [dcF (show ¬ (m : Int) < (m : Int) by omega), cond_false]
theorem sorted_l3 {out pre : List (List Int)} (z : Int × Unit) {m : Nat} (hm : m ≤ out.length) (hl : out.length ≤ 1000000) (hp : pre.length ≤ 1000000) :
    loopM (ref_TimesSorted_l3 (out, z)) (pre, (m : Int), ()) = some (.inl (pre ++ out.drop m, ())) := by
  have e : pre ++ out.drop m = pre ++ (out.drop m).take (out.length - m) := by rw [List.take_of_length_le (by rw [List.length_drop]; omega)]
  rw [e]
  refine loopM_sim (out.length - m) (fun i => (pre ++ (out.drop m).take i, ((m + i : Nat) : Int), ())) _ (fun i hi => ?_) ?_ (by simp)
  · unfold ref_TimesSorted_l3
    have hlt : m + i < out.length := by omega
    have hlt2 : i < (out.drop m).length := by rw [List.length_drop]; omega
    have hlen : (pre ++ (out.drop m).take i).length + (0 + 1) = pre.length + i + 1 := by rw [List.length_append, List.length_take, List.length_drop]; omega
    simp only [dcT (show ((m + i : Nat) : Int) < (out.length : Int) by omega), cond_true, getI_lt hlt, Option.bind_some, List.length_cons, List.length_nil, hlen, room_ok (show pre.length + i + 1 ≤ 140737488355328 by omega) (show (pre.length + i + 1) * 24 ≤ 140737488355328 by omega), wrapS (show m + i < 9223372036854775807 by omega), Bool.and_true]
    rw [List.take_succ_eq_append_getElem hlt2, List.getElem_drop, List.append_assoc]
    rfl
  · unfold ref_TimesSorted_l3
    simp only [dcF (show ¬ ((m + (out.length - m) : Nat) : Int) < (out.length : Int) by omega), cond_false]
theorem l4_l2 : ref_TimesSorted_l4 = ref_TimesSorted_l2 := rfl
theorem l5_l3 : ref_TimesSorted_l5 = ref_TimesSorted_l3 := rfl

theorem ins_len (t : List Int) : ∀ out : List (List Int), (insT t out).length ≤ out.length + 1
  | [] => Nat.le_refl _
  | u :: l => by
    have := ins_len t l
    simp only [insT]
    split
    · simp only [List.length_cons]; omega
    · split <;> simp only [List.length_cons] <;> omega
theorem ins_mem {t v : List Int} : ∀ {out : List (List Int)}, v ∈ insT t out ↔ v = t ∨ v ∈ out
  | [] => by simp [insT]
  | u :: l => by
    have ih := ins_mem (t := t) (v := v) (out := l)
    simp only [insT]
    split
    · rw [List.mem_cons, ih, List.mem_cons]
      constructor
      · rintro (h | h | h)
        · exact .inr (.inl h)
        · exact .inl h
        · exact .inr (.inr h)
      · rintro (h | h | h)
        · exact .inr (.inl h)
        · exact .inl h
        · exact .inr (.inr h)
    · split
      · rename_i h
        rw [List.mem_cons, ← h]
        constructor
        · exact fun h => .inr h
        · rintro (h | h)
          · exact .inl h
          · exact h
      · rw [List.mem_cons]
theorem ins_up {t : List Int} : ∀ {out : List (List Int)}, out.Pairwise (fun a b => cmpL a b < 0) → (insT t out).Pairwise fun a b => cmpL a b < 0
  | [], _ => by simp [insT]
  | u :: l, h => by
    have h1 := List.pairwise_cons.1 h
    simp only [insT]
    split
    · rename_i hu
      rw [List.pairwise_cons]
      refine ⟨fun v hv => ?_, ins_up h1.2⟩
      rcases ins_mem.1 hv with rfl | hv
      · exact hu
      · exact h1.1 v hv
    · rename_i hu
      split
      · exact h
      · rename_i hne
        have htu : cmpL t u < 0 := by
          have h2 := cmpL_neg u t
          have h3 : cmpL u t ≠ 0 := fun e => hne (cmpL_eq.1 e)
          omega
        rw [List.pairwise_cons]
        refine ⟨fun v hv => ?_, h⟩
        rcases List.mem_cons.1 hv with rfl | hv
        · exact htu
        · exact cmpL_trans htu (h1.1 v hv)

def sortT (l : List (List Int)) : List (List Int) := l.foldl (fun out t => insT t out) []
theorem foldl_snoc (l : List (List Int)) (t : List Int) : sortT (l ++ [t]) = insT t (sortT l) := by
  unfold sortT; rw [List.foldl_append]; rfl
theorem sort_facts (l : List (List Int)) : (sortT l).length ≤ l.length ∧ (∀ v, v ∈ sortT l ↔ v ∈ l) ∧ (sortT l).Pairwise fun a b => cmpL a b < 0 := by
  have key : ∀ k, k ≤ l.length → (sortT (l.take k)).length ≤ k ∧ (∀ v, v ∈ sortT (l.take k) ↔ v ∈ l.take k) ∧ (sortT (l.take k)).Pairwise fun a b => cmpL a b < 0 := by
    intro k
    induction k with
    | zero => intro _; rw [List.take_zero]; exact ⟨Nat.le_refl _, fun v => Iff.rfl, List.Pairwise.nil⟩
    | succ k ih =>
      intro hk
      obtain ⟨h1, h2, h3⟩ := ih (by omega)
      rw [List.take_succ_eq_append_getElem (by omega), foldl_snoc]
      refine ⟨Nat.le_trans (ins_len _ _) (by omega), fun v => ?_, ins_up h3⟩
      rw [ins_mem, h2, List.mem_append, List.mem_singleton]
      exact Or.comm
  have := key l.length (Nat.le_refl _)
  rwa [List.take_length] at this

theorem ref_TimesSorted_eq {l : List (List Int)} (hl : l.length ≤ 1000) (d : Nat) (hf : ∀ t ∈ l, chk t = 0 ∧ t.length = d) : ref_TimesSorted (l, ()) = some (sortT l, ()) := by
  have key : loopM (ref_TimesSorted_l6 (l, ())) (([] : List (List Int)), (0 : Int), ()) = some (.inl (sortT l, ())) := by
    refine loopM_sim l.length (fun i => (sortT (l.take i), (i : Int), ())) _ (fun i hi => ?_) ?_ rfl
    · have hfi := hf l[i] (List.getElem_mem hi)
      obtain ⟨s1, s2, s3⟩ := sort_facts (l.take i)
      have hso : (sortT (l.take i)).length ≤ 1000 := by rw [List.length_take] at s1; omega
      have hok : ∀ u ∈ sortT (l.take i), chk u = 0 ∧ u.length = d := fun u hu => hf u (List.mem_of_mem_take ((s2 u).1 hu))
      have hless : ∀ u ∈ sortT (l.take i), lessB u l[i] = ltP l[i] u := fun u hu => by
        have := hok u hu
        rw [lessB_of (by omega) this.1 hfi.1]; rfl
      rw [List.take_succ_eq_append_getElem hi, foldl_snoc]
      generalize sortT (l.take i) = out at *
      unfold ref_TimesSorted_l6
      have hw := while_le (p := ltP l[i]) out
      have k1 := sorted_l1 (((i : Int), ())) (show out.length ≤ 1000000 by omega) hless
      have hsplit := ins_split l[i] out
      have htw := take_while (p := ltP l[i]) out
      have hdw := drop_while (p := ltP l[i]) out
      simp only [dcT (show (i : Int) < (l.length : Int) by omega), cond_true, getI_lt hi, Option.bind_some, k1, Sum.elim_inl, wrapS (show i < 9223372036854775807 by omega)]
      have hr : ∀ n : Nat, n ≤ 1000000 → roomOk (n + (0 + 1)) 24 = true := fun n hn => room_ok (by omega) (by omega)
      by_cases hat : (out.takeWhile (ltP l[i])).length < out.length
      · rw [List.drop_eq_getElem_cons hat] at hdw
        rw [← hdw] at hsplit
        simp only at hsplit
        have hlen : (out[(out.takeWhile (ltP l[i])).length]).length ≤ 1000000 := by
          have := (hok _ (List.getElem_mem hat)).1
          have := (chk_zero this).2.1
          omega
        simp only [dcT (show (((out.takeWhile (ltP l[i])).length : Nat) : Int) < (out.length : Int) by omega), cond_true, getI_lt hat, Option.bind_some, ref_TimesSame_eq hlen]
        by_cases he : out[(out.takeWhile (ltP l[i])).length] = l[i]
        · rw [if_pos he] at hsplit
          rw [decide_eq_true he, cond_true, hsplit]
        · rw [if_neg he] at hsplit
          rw [decide_eq_false he, cond_false, sorted_l2 _ hw (by omega), Option.bind_some, Sum.elim_inl]
          simp only [List.length_cons, List.length_nil]
          rw [hr _ (by rw [List.length_take]; omega)]
          simp only [Bool.and_true, cond_true]
          rw [sorted_l3 _ hw (by omega) (by rw [List.length_append, List.length_take]; simp only [List.length_cons, List.length_nil]; omega), Option.bind_some, Sum.elim_inl, hsplit, htw]
          rw [List.append_assoc, List.drop_eq_getElem_cons hat]
          rfl
      · have hd0 : out.drop (out.takeWhile (ltP l[i])).length = [] := List.drop_of_length_le (by omega)
        rw [hd0] at hdw
        rw [← hdw] at hsplit
        simp only at hsplit
        simp only [dcF (show ¬ (((out.takeWhile (ltP l[i])).length : Nat) : Int) < (out.length : Int) by omega), cond_false]
        rw [l4_l2, sorted_l2 _ hw (by omega), Option.bind_some, Sum.elim_inl]
        simp only [List.length_cons, List.length_nil]
        rw [hr _ (by rw [List.length_take]; omega)]
        simp only [Bool.and_true, cond_true]
        rw [l5_l3, sorted_l3 _ hw (by omega) (by rw [List.length_append, List.length_take]; simp only [List.length_cons, List.length_nil]; omega), Option.bind_some, Sum.elim_inl, hsplit, htw, hd0, List.append_nil]
    · unfold ref_TimesSorted_l6
      simp only [dcF (show ¬ (l.length : Int) < (l.length : Int) by omega), cond_false, List.take_length]
  unfold ref_TimesSorted
  rw [key]; rfl

end Go.Proofs.Try
