/- Lemmas on functions of the program, by name: cnt3. -/
import Derived.Test.YtammjpalmmhokaaP3Funs
import Derived.Test.YtammjpalmmhokaaAbsSums
import Derived.Test.YtammjpalmmhokaaP3LibCnt2
namespace Go.Proofs.Try
open Go Go.Abs


/-! Two tallies merged. -/
def mergeM : List Cn → List Cn → List Cn
  | [], d => d
  | x :: c, [] => x :: c
  | x :: c, y :: d => if cmpL x.1 y.1 < 0 then x :: mergeM c (y :: d) else if 0 < cmpL x.1 y.1 then y :: mergeM (x :: c) d else (x.1, x.2.1 + y.2.1, ()) :: mergeM c d
termination_by c d => c.length + d.length

def emit (acc : List Cn) : List Cn → List Cn × Int × Unit
  | [] => if 64 < acc.length then ([], 1, ()) else (acc, 0, ())
  | x :: M => if overB x.2.1 = true then ([], 6, ()) else emit (if x.2.1 = 0 then acc else acc ++ [x]) M

theorem clone_eq {t : List Int} (h : t.length ≤ 1000000) : slices_Clone_s_int_int (t, ()) = some (t, ()) := by
  unfold slices_Clone_s_int_int
  simp only [List.length_nil, Nat.zero_add, room_ok (show t.length ≤ 140737488355328 by omega) (show t.length * 8 ≤ 140737488355328 by omega), Bool.and_true, cond_true, List.nil_append]

/-- One round's end. -/
theorem merge_end {c2 d2 acc : List Cn} {t : List Int} {n : Int} (ht : t.length ≤ 1000000) (ha : acc.length ≤ 1000000) :
    ((counts_over (n, ())).bind fun r11 => (cond r11.1 (some (Sum.inr (Sum.inl (([] : List Cn), (6 : Int), ())))) (cond (n != (0 : Int)) ((slices_Clone_s_int_int (t, ())).bind fun r12 => (cond (true && roomOk (acc.length + ([((r12.1, n, ()) : Cn)]).length) 32 && true && true) (some (Sum.inl (c2, d2, (acc ++ [(r12.1, n, ())]), ()))) none)) (some (Sum.inl (c2, d2, acc, ()))))) : Option ((List Cn × List Cn × List Cn × Unit) ⊕ ((List Cn × Int × Unit) ⊕ (List Cn × Unit) ⊕ Empty))) =
      some (if overB n = true then .inr (.inl ([], 6, ())) else .inl (c2, d2, (if n = 0 then acc else acc ++ [(t, n, ())]), ())) := by
  rw [counts_over_eq, Option.bind_some]
  cases overB n with
  | true => rfl
  | false =>
    simp only [cond_false, cond_bne, clone_eq ht, Option.bind_some, List.length_cons, List.length_nil, room_ok (show acc.length + (0 + 1) ≤ 140737488355328 by omega) (show (acc.length + (0 + 1)) * 32 ≤ 140737488355328 by omega), Bool.and_true, cond_true]
    by_cases h : n = 0
    · rw [if_pos h, if_pos h]; rfl
    · rw [if_neg h, if_neg h]; rfl

theorem take_tail {α : Type} (x : α) (c : List α) : (((x :: c).drop (1 : Int).toNat).take (((x :: c).length : Int).toNat - (1 : Int).toNat)) = c := by
  show (c.take _) = c
  rw [List.take_of_length_le]
  simp
theorem getI_0 {α : Type} (x : α) (c : List α) : getI (x :: c) (0 : Int) = some x := rfl
theorem cut_ok {α : Type} (x : α) (c : List α) : (decide (0 ≤ (1 : Int)) && decide ((1 : Int) ≤ ((x :: c).length : Int)) && decide (((x :: c).length : Int) ≤ (x :: c).length)) = true := by
  simp
  omega

theorem cut_ok2 {α : Type} (x : α) (c : List α) : (true && decide ((1 : Int) ≤ ((x :: c).length : Int)) && decide (((x :: c).length : Int) ≤ (x :: c).length)) = true := by
  simp
  omega
def okC (c : List Cn) : Prop := ∀ x ∈ c, x.1.length ≤ 4 ∧ -1099511627776 ≤ x.2.1 ∧ x.2.1 ≤ 1099511627776
theorem okC_tail {x : Cn} {c : List Cn} (h : okC (x :: c)) : okC c := fun y hy => h y (List.mem_cons_of_mem _ hy)
theorem okC_head {x : Cn} {c : List Cn} (h : okC (x :: c)) : x.1.length ≤ 4 ∧ -1099511627776 ≤ x.2.1 ∧ x.2.1 ≤ 1099511627776 := h x (List.mem_cons_self ..)

/-- What one round does. -/
theorem len_pos {α : Type} (x : α) (c : List α) : decide (((x :: c).length : Int) > 0) = true := decide_eq_true (by rw [List.length_cons]; omega)
theorem len_nz {α : Type} (x : α) (c : List α) : (((x :: c).length : Int) == 0) = false := beq_eq_false_iff_ne.2 (by rw [List.length_cons]; omega)
theorem merge_left {x : Cn} {c d acc : List Cn} (hc : okC (x :: c)) (ha : acc.length ≤ 1000000) (h : d = [] ∨ ∃ y d', d = y :: d' ∧ cmpL x.1 y.1 < 0) :
    counts_merge_l1 (x :: c, d, acc, ()) = some (if overB x.2.1 = true then .inr (.inl ([], 6, ())) else .inl (c, d, (if x.2.1 = 0 then acc else acc ++ [x]), ())) := by
  have hx := okC_head hc
  have hl : x.1.length ≤ 1000000 := by omega
  rcases h with rfl | ⟨y, d', rfl, hlt⟩
  · have h0 : ((([] : List Cn).length : Int) == 0) = true := rfl
    have h1 : decide ((-1 : Int) ≤ 0) = true := rfl
    have h2 : decide ((-1 : Int) ≥ 0) = false := rfl
    unfold counts_merge_l1
    simp only [len_pos, cond_true, len_nz x c, cond_false, h0, Option.bind_some, Sum.elim_inl, h1, h2, getI_0, cut_ok, take_tail]
    exact merge_end hl ha
  · unfold counts_merge_l1
    simp only [len_pos, cond_true, len_nz x c, len_nz y d', cond_false, getI_0, Option.bind_some, slices_Compare_eq hl, Sum.elim_inl, dcT (show cmpL x.1 y.1 ≤ 0 from Int.le_of_lt hlt), dcF (show ¬ cmpL x.1 y.1 ≥ 0 from Int.not_le.2 hlt), cut_ok, take_tail]
    exact merge_end hl ha

theorem merge_right {y : Cn} {c d acc : List Cn} (hc : okC c) (hd : okC (y :: d)) (ha : acc.length ≤ 1000000) (h : c = [] ∨ ∃ x c', c = x :: c' ∧ 0 < cmpL x.1 y.1) :
    counts_merge_l1 (c, y :: d, acc, ()) = some (if overB y.2.1 = true then .inr (.inl ([], 6, ())) else .inl (c, d, (if y.2.1 = 0 then acc else acc ++ [y]), ())) := by
  have hy := okC_head hd
  have hw : IntKind.i64.wrap (0 + y.2.1) = y.2.1 := by rw [Int.zero_add]; exact wrap64 (by omega) (by omega)
  have hl : y.1.length ≤ 1000000 := by omega
  rcases h with rfl | ⟨x, c', rfl, hlt⟩
  · have h0 : ((([] : List Cn).length : Int) == 0) = true := rfl
    have hp : decide ((([] : List Cn).length : Int) > 0) = false := rfl
    have h1 : decide ((1 : Int) ≤ 0) = false := rfl
    have h2 : decide ((1 : Int) ≥ 0) = true := rfl
    unfold counts_merge_l1
    simp only [len_pos, hp, cond_true, cond_false, h0, Option.bind_some, Sum.elim_inl, h1, h2, getI_0, cut_ok2, take_tail, hw]
    exact merge_end hl ha
  · have hx := okC_head hc
    unfold counts_merge_l1
    simp only [len_pos, cond_true, len_nz x c', len_nz y d, cond_false, getI_0, Option.bind_some, slices_Compare_eq (show x.1.length ≤ 1000000 by omega), Sum.elim_inl, dcF (show ¬ cmpL x.1 y.1 ≤ 0 from Int.not_le.2 hlt), dcT (show cmpL x.1 y.1 ≥ 0 from Int.le_of_lt hlt), cut_ok, take_tail, hw]
    exact merge_end hl ha

theorem merge_both {x y : Cn} {c d acc : List Cn} (hc : okC (x :: c)) (hd : okC (y :: d)) (ha : acc.length ≤ 1000000) (h : cmpL x.1 y.1 = 0) :
    counts_merge_l1 (x :: c, y :: d, acc, ()) = some (if overB (x.2.1 + y.2.1) = true then .inr (.inl ([], 6, ())) else .inl (c, d, (if x.2.1 + y.2.1 = 0 then acc else acc ++ [(x.1, x.2.1 + y.2.1, ())]), ())) := by
  have hx := okC_head hc
  have hy := okC_head hd
  have hw : IntKind.i64.wrap (x.2.1 + y.2.1) = x.2.1 + y.2.1 := wrap64 (by omega) (by omega)
  have he := cmpL_eq.1 h
  have hs : cmpL x.1 x.1 = 0 := cmpL_eq.2 rfl
  have hl : x.1.length ≤ 1000000 := by omega
  unfold counts_merge_l1
  simp only [len_pos, cond_true, len_nz x c, len_nz y d, cond_false, getI_0, Option.bind_some, slices_Compare_eq (show x.1.length ≤ 1000000 by omega), Sum.elim_inl, dcT (show cmpL x.1 x.1 ≤ 0 by omega), dcT (show cmpL x.1 x.1 ≥ 0 by omega), cut_ok, take_tail, hw, ← he]
  exact merge_end hl ha

noncomputable abbrev mrun (c d acc : List Cn) : Option (List Cn × Int × Unit) := (loopM counts_merge_l1 (c, d, acc, ())).bind (Sum.elim (fun z24 => (some z24)) (Sum.elim (fun z25 => (cond (decide ((z25.1.length : Int) > (64 : Int))) (some (([] : List Cn), (1 : Int), ())) (some (z25.1, (0 : Int), ())))) Empty.elim))
theorem merge_step {c d c2 d2 acc : List Cn} {z : Cn} (hf : counts_merge_l1 (c, d, acc, ()) = some (if overB z.2.1 = true then .inr (.inl ([], 6, ())) else .inl (c2, d2, (if z.2.1 = 0 then acc else acc ++ [z]), ())))
    (hm : mergeM c d = z :: mergeM c2 d2) (ih : ∀ acc2 : List Cn, acc2.length ≤ acc.length + 1 → mrun c2 d2 acc2 = some (emit acc2 (mergeM c2 d2))) : mrun c d acc = some (emit acc (mergeM c d)) := by
  rw [hm, emit]
  by_cases ho : overB z.2.1 = true
  · rw [if_pos ho] at hf ⊢
    unfold mrun
    rw [loopM_inr hf]; rfl
  · rw [if_neg ho] at hf ⊢
    unfold mrun
    rw [loopM_inl hf]
    refine ih _ ?_
    split
    · omega
    · rw [List.length_append, List.length_cons, List.length_nil]; omega

theorem mergeM_nil (d : List Cn) : mergeM [] d = d := by rw [mergeM]
theorem mergeM_nil2 (c : List Cn) : mergeM c [] = c := by cases c <;> rw [mergeM]
theorem merge_loop : ∀ (c d acc : List Cn), okC c → okC d → acc.length + c.length + d.length ≤ 1000 → mrun c d acc = some (emit acc (mergeM c d))
  | [], [], acc, _, _, _ => by
    unfold mrun
    rw [loopM_inr (b := .inr (.inl (acc, ()))) (by unfold counts_merge_l1; rfl), mergeM]
    simp only [Option.bind_some, Sum.elim_inr, Sum.elim_inl, emit, cond_dec]
    by_cases h64 : 64 < acc.length
    · rw [if_pos h64, if_pos (by omega)]
    · rw [if_neg h64, if_neg (by omega)]
  | [], y :: d, acc, hc, hd, h => by
    rw [List.length_cons] at h
    exact merge_step (merge_right hc hd (by omega) (.inl rfl)) (by rw [mergeM_nil, mergeM_nil]) fun acc2 h2 => merge_loop [] d acc2 hc (okC_tail hd) (by omega)
  | x :: c, [], acc, hc, hd, h => by
    rw [List.length_cons] at h
    exact merge_step (merge_left hc (by omega) (.inl rfl)) (by rw [mergeM_nil2, mergeM_nil2]) fun acc2 h2 => merge_loop c [] acc2 (okC_tail hc) hd (by omega)
  | x :: c, y :: d, acc, hc, hd, h => by
    rw [List.length_cons, List.length_cons] at h
    by_cases h1 : cmpL x.1 y.1 < 0
    · exact merge_step (merge_left hc (by omega) (.inr ⟨y, d, rfl, h1⟩)) (by rw [mergeM, if_pos h1]) fun acc2 h2 => merge_loop c (y :: d) acc2 (okC_tail hc) hd (by rw [List.length_cons]; omega)
    · by_cases h2 : 0 < cmpL x.1 y.1
      · exact merge_step (merge_right hc hd (by omega) (.inr ⟨x, c, rfl, h2⟩)) (by rw [mergeM, if_neg h1, if_pos h2]) fun acc2 h2 => merge_loop (x :: c) d acc2 hc (okC_tail hd) (by rw [List.length_cons]; omega)
      · exact merge_step (z := (x.1, x.2.1 + y.2.1, ())) (merge_both hc hd (by omega) (by omega)) (by rw [mergeM, if_neg h1, if_neg h2]) fun acc2 h2 => merge_loop c d acc2 (okC_tail hc) (okC_tail hd) (by omega)
termination_by c d => c.length + d.length

theorem counts_merge_eq {c d : List Cn} (hc : okC c) (hd : okC d) (h : c.length + d.length ≤ 1000) : counts_merge (c, d, ()) = some (emit [] (mergeM c d)) :=
  merge_loop c d [] hc hd (by rw [List.length_nil]; omega)

end Go.Proofs.Try
