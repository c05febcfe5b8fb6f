/- Lemmas on functions of the program, by name: conc. -/
import Derived.Test.YtoddbincogignaaDoorD5Funs
import Derived.Test.YtoddbincogignaaDoorAbsSums
import Derived.Test.YtoddbincogignaaDoorD5LibPolar
import Derived.Test.YtoddbincogignaaDoorD5LibFindm
namespace Go.Proofs.Tryd
open Go Go.Abs


/-! Words as sets, the highest bit first. -/
theorem lt_of_bit {a b : Nat} (i : Nat) (h1 : a.testBit i = false) (h2 : b.testBit i = true) (h : ∀ j, i < j → a.testBit j = b.testBit j) : a < b := by
  have hd : a / 2 ^ (i + 1) = b / 2 ^ (i + 1) := by
    apply Nat.eq_of_testBit_eq
    intro j
    rw [Nat.testBit_div_two_pow, Nat.testBit_div_two_pow]
    exact h _ (by omega)
  have ma : a % 2 ^ (i + 1) < 2 ^ i := Nat.lt_pow_two_of_testBit _ fun j hj => by
    rw [Nat.testBit_mod_two_pow]
    by_cases e : j = i
    · subst e; simp [h1]
    · simp [show ¬ j < i + 1 by omega]
  have mb : b % 2 ^ (i + 1) ≥ 2 ^ i := Nat.ge_two_pow_of_testBit (by rw [Nat.testBit_mod_two_pow]; simp [h2])
  have ea := Nat.div_add_mod a (2 ^ (i + 1))
  have eb := Nat.div_add_mod b (2 ^ (i + 1))
  rw [hd] at ea
  omega
theorem top_diff {a b : Nat} (m : Nat) (ha : a < 2 ^ m) (hb : b < 2 ^ m) (hne : a ≠ b) : ∃ i, i < m ∧ a.testBit i ≠ b.testBit i ∧ ∀ j, i < j → a.testBit j = b.testBit j := by
  have key : ∀ k, k ≤ m → (∀ j, m - k ≤ j → a.testBit j = b.testBit j) ∨ ∃ i, i < m ∧ a.testBit i ≠ b.testBit i ∧ ∀ j, i < j → a.testBit j = b.testBit j := by
    intro k
    induction k with
    | zero =>
      intro _
      refine .inl fun j hj => ?_
      rw [Nat.testBit_lt_two_pow (Nat.lt_of_lt_of_le ha (Nat.pow_le_pow_right (by decide) (by omega))), Nat.testBit_lt_two_pow (Nat.lt_of_lt_of_le hb (Nat.pow_le_pow_right (by decide) (by omega)))]
    | succ k ih =>
      intro hk
      rcases ih (by omega) with h | h
      · by_cases e : a.testBit (m - (k + 1)) = b.testBit (m - (k + 1))
        · refine .inl fun j hj => ?_
          by_cases hj2 : j = m - (k + 1)
          · rw [hj2]; exact e
          · exact h j (by omega)
        · exact .inr ⟨m - (k + 1), by omega, e, fun j hj => h j (by omega)⟩
      · exact .inr h
  rcases key m (Nat.le_refl _) with h | h
  · exact absurd (Nat.eq_of_testBit_eq fun i => h i (by omega)) hne
  · exact h
theorem top_lt {a b : Nat} (m : Nat) (ha : a < 2 ^ m) (hb : b < 2 ^ m) (h : a < b) : ∃ i, i < m ∧ a.testBit i = false ∧ b.testBit i = true ∧ ∀ j, i < j → a.testBit j = b.testBit j := by
  obtain ⟨i, hi, hd, hj⟩ := top_diff m ha hb (by omega)
  cases h1 : a.testBit i with
  | false =>
    refine ⟨i, hi, h1, ?_, hj⟩
    rw [h1] at hd
    cases h2 : b.testBit i with
    | true => rfl
    | false => rw [h2] at hd; exact absurd rfl hd
  | true =>
    rw [h1] at hd
    cases h2 : b.testBit i with
    | true => rw [h2] at hd; exact absurd rfl hd
    | false =>
      have := lt_of_bit i h2 h1 fun j hj' => (hj j hj').symm
      omega
theorem sub_le {a b : Nat} (m : Nat) (ha : a < 2 ^ m) (hb : b < 2 ^ m) (h : ∀ j, a.testBit j = true → b.testBit j = true) : a ≤ b := by
  rcases Nat.lt_or_ge b a with hlt | hge
  · obtain ⟨i, -, h1, h2, -⟩ := top_lt m hb ha hlt
    rw [h i h2] at h1; cases h1
  · exact hge
/-! The closed sets of rows. -/
def clo (rs : List Nat) (C w : Nat) : Nat := dnW rs (upW rs C w)
theorem clo_bit (rs : List Nat) (C w i : Nat) : (clo rs C w).testBit i = true ↔ i < rs.length ∧ ∀ j, j < C → (∀ k, k < rs.length → w.testBit k = true → below rs k j = true) → below rs i j = true := by
  unfold clo dnW
  rw [wordOf_bit, Bool.and_eq_true, decide_eq_true_eq, decide_eq_true_eq, and_eq_iff]
  refine and_congr_right fun hi => ?_
  constructor
  · intro h j hj hall
    refine h j ?_
    unfold upW
    rw [wordOf_bit, Bool.and_eq_true, decide_eq_true_eq, all_range]
    refine ⟨hj, fun k hk => ?_⟩
    cases hb : w.testBit k with
    | false => rfl
    | true => exact hall k hk hb
  · intro h j hj
    unfold upW at hj
    rw [wordOf_bit, Bool.and_eq_true, decide_eq_true_eq, all_range] at hj
    refine h j hj.1 fun k hk hb => ?_
    have := hj.2 k hk
    rw [hb] at this
    exact this
theorem clo_lt (rs : List Nat) (C w : Nat) : clo rs C w < 2 ^ rs.length := wordOf_lt ..
theorem clo_ext {rs : List Nat} {C w i : Nat} (hi : i < rs.length) (h : w.testBit i = true) : (clo rs C w).testBit i = true := (clo_bit ..).2 ⟨hi, fun j _ hall => hall i hi h⟩
theorem clo_mono {rs : List Nat} {C v w : Nat} (h : ∀ i, v.testBit i = true → w.testBit i = true) (i : Nat) (hi : (clo rs C v).testBit i = true) : (clo rs C w).testBit i = true := by
  rw [clo_bit] at hi ⊢
  exact ⟨hi.1, fun j hj hall => hi.2 j hj fun k hk hb => hall k hk (h k hb)⟩
theorem clo_clo (rs : List Nat) (C w : Nat) (hw : ∀ i, w.testBit i = true → i < rs.length) : clo rs C (clo rs C w) = clo rs C w := by
  apply Nat.eq_of_testBit_eq
  intro i
  rw [Bool.eq_iff_iff]
  constructor
  · intro h
    rw [clo_bit] at h ⊢
    exact ⟨h.1, fun j hj hall => h.2 j hj fun k hk hb => (clo_bit ..).1 hb |>.2 j hj hall⟩
  · exact fun h => clo_ext ((clo_bit ..).1 h).1 h
/-- What is tried at a place. -/
def tryAt (rs : List Nat) (C was i : Nat) : Nat := clo rs C (dif was (2 ^ i - 1) ||| 2 ^ i)
theorem seed_bit (was i j : Nat) (hb : was.testBit i = false) : (dif was (2 ^ i - 1) ||| 2 ^ i).testBit j = (decide (i < j) && was.testBit j || decide (j = i)) := by
  rw [Nat.testBit_or, dif_bit, all_bit, Nat.testBit_two_pow]
  by_cases h1 : j < i
  · simp [h1, show ¬ i < j by omega, show ¬ i = j by omega, show ¬ j = i by omega]
  · by_cases h2 : j = i
    · subst h2; simp
    · simp [h1, show i < j by omega, h2, show ¬ i = j by omega]
def fits (rs : List Nat) (C was i : Nat) : Bool := !was.testBit i && decide (dif (tryAt rs C was i) (2 ^ (i + 1) - 1) = dif was (2 ^ (i + 1) - 1))
theorem fits_iff {rs : List Nat} {C was i : Nat} : fits rs C was i = true ↔ was.testBit i = false ∧ ∀ j, i < j → (tryAt rs C was i).testBit j = was.testBit j := by
  unfold fits
  rw [Bool.and_eq_true, Bool.not_eq_true', decide_eq_true_eq]
  refine and_congr_right fun _ => ?_
  constructor
  · intro h j hj
    have := congrArg (fun x => x.testBit j) h
    simp only [dif_bit, all_bit, decide_eq_false (show ¬ j < i + 1 by omega), Bool.not_false, Bool.and_true] at this
    exact this
  · intro h
    apply Nat.eq_of_testBit_eq
    intro j
    rw [dif_bit, dif_bit, all_bit]
    by_cases hj : j < i + 1
    · simp [hj]
    · rw [h j (by omega)]
section
variable {rs : List Nat} {C was : Nat}
/-- A closed set behind another one: at the highest place where they differ it fits. -/
theorem fits_of (hwas : was < 2 ^ rs.length) {B : Nat} (hB : B < 2 ^ rs.length) (hc : clo rs C B = B) {i : Nat} (h1 : was.testBit i = false) (h2 : B.testBit i = true) (h3 : ∀ j, i < j → was.testBit j = B.testBit j) :
    fits rs C was i = true ∧ ∀ j, (tryAt rs C was i).testBit j = true → B.testBit j = true := by
  have hsub : ∀ j, (tryAt rs C was i).testBit j = true → B.testBit j = true := fun j hj => by
    rw [← hc]
    refine clo_mono (fun k hk => ?_) j hj
    rw [seed_bit _ _ _ h1, Bool.or_eq_true, Bool.and_eq_true, decide_eq_true_eq, decide_eq_true_eq] at hk
    rcases hk with ⟨g1, g2⟩ | rfl
    · rw [← h3 k g1]; exact g2
    · exact h2
  refine ⟨fits_iff.2 ⟨h1, fun j hj => ?_⟩, hsub⟩
  rw [Bool.eq_iff_iff]
  constructor
  · intro h; rw [h3 j hj]; exact hsub j h
  · intro h
    refine clo_ext (bit_lt hwas h) ?_
    rw [seed_bit _ _ _ h1]
    simp [hj, h]
theorem try_facts (hwas : was < 2 ^ rs.length) {i : Nat} (hi : i < rs.length) (hf : fits rs C was i = true) : was < tryAt rs C was i ∧ tryAt rs C was i < 2 ^ rs.length ∧ clo rs C (tryAt rs C was i) = tryAt rs C was i := by
  obtain ⟨h1, h2⟩ := fits_iff.1 hf
  refine ⟨lt_of_bit i h1 ?_ fun j hj => (h2 j hj).symm, clo_lt .., clo_clo _ _ _ fun k hk => ?_⟩
  · refine clo_ext hi ?_
    rw [seed_bit _ _ _ h1]; simp
  · rw [seed_bit _ _ _ h1, Bool.or_eq_true, Bool.and_eq_true, decide_eq_true_eq, decide_eq_true_eq] at hk
    rcases hk with ⟨-, g⟩ | rfl
    · exact bit_lt hwas g
    · exact hi
/-- THE NEXT ONE. -/
theorem next_least (hwas : was < 2 ^ rs.length) {i : Nat} (hi : i < rs.length) (hf : fits rs C was i = true) (hmin : ∀ k, k < i → fits rs C was k = false) {B : Nat} (hB : B < 2 ^ rs.length) (hc : clo rs C B = B) (hlt : was < B) : tryAt rs C was i ≤ B := by
  obtain ⟨j, hj, g1, g2, g3⟩ := top_lt rs.length hwas hB hlt
  obtain ⟨q1, q2⟩ := fits_of hwas hB hc g1 g2 g3
  obtain ⟨h1, h2⟩ := fits_iff.1 hf
  rcases Nat.lt_trichotomy j i with h | rfl | h
  · rw [hmin j h] at q1; cases q1
  · exact sub_le rs.length (clo_lt ..) hB q2
  · refine Nat.le_of_lt (lt_of_bit j ?_ g2 fun k hk => ?_)
    · rw [h2 j h]; exact g1
    · rw [h2 k (by omega)]; exact g3 k hk
theorem next_none (hwas : was < 2 ^ rs.length) (hno : ∀ k, k < rs.length → fits rs C was k = false) {B : Nat} (hB : B < 2 ^ rs.length) (hc : clo rs C B = B) : B ≤ was := by
  rcases Nat.lt_or_ge was B with hlt | hge
  · obtain ⟨j, hj, g1, g2, g3⟩ := top_lt rs.length hwas hB hlt
    have := (fits_of hwas hB hc g1 g2 g3).1
    rw [hno j hj] at this; cases this
  · exact hge
end
/-- The closed sets from w on, rising. -/
def clFrom (rs : List Nat) (C w : Nat) : List Nat := (List.range' w (2 ^ rs.length - w)).filter fun v => decide (clo rs C v = v)
theorem clFrom_step {rs : List Nat} {C w : Nat} (hw : w < 2 ^ rs.length) : clFrom rs C w = if clo rs C w = w then w :: clFrom rs C (w + 1) else clFrom rs C (w + 1) := by
  unfold clFrom
  obtain ⟨k, hk⟩ := Nat.exists_eq_add_of_lt hw
  rw [show 2 ^ rs.length - w = (2 ^ rs.length - (w + 1)) + 1 from by omega, List.range'_succ, List.filter_cons]
  by_cases h : clo rs C w = w
  · simp [h]
  · simp [h]
theorem clFrom_end {rs : List Nat} {C w : Nat} (hw : 2 ^ rs.length ≤ w) : clFrom rs C w = [] := by
  unfold clFrom
  rw [show 2 ^ rs.length - w = 0 from by omega]; rfl
/-- Nothing is closed between. -/
theorem clFrom_skip {rs : List Nat} {C : Nat} : ∀ (n w v : Nat), w + n = v → (∀ x, w ≤ x → x < v → x < 2 ^ rs.length → clo rs C x ≠ x) → clFrom rs C w = clFrom rs C v
  | 0, w, v, h, _ => by rw [← h]; rfl
  | n + 1, w, v, h, hno => by
    by_cases hw : w < 2 ^ rs.length
    · rw [clFrom_step hw, if_neg (hno w (Nat.le_refl _) (by omega) hw)]
      exact clFrom_skip n (w + 1) v (by omega) fun x h1 h2 h3 => hno x (by omega) h2 h3
    · rw [clFrom_end (by omega), clFrom_end (by omega)]
def conc (rs : List Nat) (C w : Nat) : Int × Int × Unit := ((w : Int), ((upW rs C w : Nat) : Int), ())
section
variable {rs : List Nat} {C : Nat}
theorem upW_lt (hC : C ≤ 16) (w : Nat) : upW rs C w < 2 ^ 32 := wordOf_lt32 _ (by omega)
theorem sides_up_eq (hf : Fit rs) (hC : C ≤ 16) {w : Nat} (hw : w < 2 ^ rs.length) (hl : rs.length ≤ 16) :
    polar_sides_up ((cl rs, cl (tab C (colW rs rs.length)), ()), (w : Int), ()) = some (((upW rs C w : Nat) : Int), ()) := by
  have hw32 : w < 2 ^ 32 := Nat.lt_of_lt_of_le hw (Nat.pow_le_pow_right (by decide) (by omega))
  unfold polar_sides_up
  simp (disch := first | assumption | omega) only [Option.bind_some, length_cl, length_tab, polar_shared_eq hf hw32 (fun j hj => bit_lt hw hj) (show C ≤ 32 by omega), shared_up hw32 (fun j hj => bit_lt hw hj)]
theorem sides_down_eq (hf : Fit rs) (hC : C ≤ 16) {a : Nat} (ha : a < 2 ^ C) (hl : rs.length ≤ 16) :
    polar_sides_down ((cl rs, cl (tab C (colW rs rs.length)), ()), (a : Int), ()) = some (((dnW rs a : Nat) : Int), ()) := by
  have ha32 : a < 2 ^ 32 := Nat.lt_of_lt_of_le ha (Nat.pow_le_pow_right (by decide) (by omega))
  unfold polar_sides_down
  simp (disch := first | assumption | omega) only [Option.bind_some, length_cl, polar_shared_eq (ls := tab C (colW rs rs.length)) (fit_tab fun j _ => colW_lt (by omega) j) ha32 (by rw [length_tab]; exact fun j hj => bit_lt ha hj) (show rs.length ≤ 32 by omega), shared_dn ha32 (fun j hj => bit_lt ha hj)]
theorem step_eq (hf : Fit rs) (hC : C ≤ 16) (hl : rs.length ≤ 16) {was : Nat} (hw : was < 2 ^ rs.length) :
    polar_sides_step ((cl rs, cl (tab C (colW rs rs.length)), ()), (was : Int), ()) = some (match (List.range rs.length).find? (fits rs C was) with
      | some i => (((tryAt rs C was i : Nat) : Int), true, ())
      | none => (0, false, ())) := by
  have hw32 : was < 2 ^ 32 := Nat.lt_of_lt_of_le hw (Nat.pow_le_pow_right (by decide) (by omega))
  have k := loopM_exit (f := polar_sides_step_l1 ((cl rs, cl (tab C (colW rs rs.length)), ()), (was : Int), ())) rs.length (fun i => ((i : Int), ())) (fun i => cond (fits rs C was i) (some (((tryAt rs C was i : Nat) : Int), true, ())) none) (.inl ()) (fun i hi => by
    have h1 : 2 ^ i < 2 ^ rs.length := Nat.pow_lt_pow_right (by decide) hi
    have hseed : dif was (2 ^ i - 1) ||| 2 ^ i < 2 ^ rs.length := Nat.or_lt_two_pow (dif_lt hw) h1
    have hd32 : dif was (2 ^ i - 1) < 2 ^ 32 := dif_lt hw32
    have ht32 : tryAt rs C was i < 2 ^ 32 := Nat.lt_of_lt_of_le (clo_lt ..) (Nat.pow_le_pow_right (by decide) (by omega))
    have hup := sides_up_eq (C := C) hf hC hseed hl
    have hdn := sides_down_eq (rs := rs) (C := C) hf hC (a := upW rs C (dif was (2 ^ i - 1) ||| 2 ^ i)) (wordOf_lt ..) hl
    have hdn' : polar_sides_down ((cl rs, cl (tab C (colW rs rs.length)), ()), ((upW rs C (dif was (2 ^ i - 1) ||| 2 ^ i) : Nat) : Int), ()) = some (((tryAt rs C was i : Nat) : Int), ()) := hdn
    have e : (((dif (tryAt rs C was i) (2 ^ (i + 1) - 1) : Nat) : Int) == ((dif was (2 ^ (i + 1) - 1) : Nat) : Int)) = decide (dif (tryAt rs C was i) (2 ^ (i + 1) - 1) = dif was (2 ^ (i + 1) - 1)) := by
      rw [Bool.eq_iff_iff, beq_iff_eq, decide_eq_true_eq]; omega
    unfold polar_sides_step_l1
    simp (disch := first | assumption | omega) only [cond_true, Option.bind_some, dcT, wrapS, length_cl, sets_Has_eq i hw32]
    unfold fits
    cases hb : was.testBit i with
    | true => rfl
    | false =>
      simp (disch := first | assumption | omega) only [cond_false, Option.bind_some, Bool.true_and, Bool.not_false, sets_All_eq (show i ≤ 32 by omega), sets_One_eq (show i < 32 by omega), not_u32 hw32 (all_32 (show i ≤ 32 by omega)), or_u32 hd32 (two_pow_32 (show i < 32 by omega)), hup, hdn', sets_All_eq (show i + 1 ≤ 32 by omega), not_u32 ht32 (all_32 (show i + 1 ≤ 32 by omega)), not_u32 hw32 (all_32 (show i + 1 ≤ 32 by omega)), e]
      cases decide (dif (tryAt rs C was i) (2 ^ (i + 1) - 1) = dif was (2 ^ (i + 1) - 1)) <;> rfl) (by
    unfold polar_sides_step_l1
    simp (disch := first | assumption | omega) only [cond_false, dcF, wrapS, length_cl]) (s0 := ((0 : Int), ())) rfl
  rw [find_map (fits rs C was) fun i => (((tryAt rs C was i : Nat) : Int), true, ())] at k
  unfold polar_sides_step
  rw [k]
  cases (List.range rs.length).find? (fits rs C was) <;> rfl
/-- How the closed sets go on behind one. -/
theorem clFrom_next {was : Nat} (hw : was < 2 ^ rs.length) : clFrom rs C (was + 1) = match (List.range rs.length).find? (fits rs C was) with
    | some i => clFrom rs C (tryAt rs C was i)
    | none => [] := by
  cases hf : (List.range rs.length).find? (fits rs C was) with
  | some i =>
    have h1 := List.find?_range_eq_some.1 hf
    have hi := List.mem_range.1 h1.2.1
    have hmin : ∀ k, k < i → fits rs C was k = false := fun k hk => by
      have := h1.2.2 k hk
      simpa using this
    obtain ⟨g1, g2, g3⟩ := try_facts hw hi h1.1
    refine clFrom_skip (tryAt rs C was i - (was + 1)) _ _ (by omega) fun x hx1 hx2 hx3 hc => ?_
    have := next_least hw hi h1.1 hmin hx3 hc (by omega)
    omega
  | none =>
    have hno := find_none_all hf
    have : clFrom rs C (was + 1) = clFrom rs C (2 ^ rs.length) := clFrom_skip (2 ^ rs.length - (was + 1)) _ _ (by omega) fun x hx1 hx2 hx3 hc => by
      have := next_none hw hno hx3 hc
      omega
    rw [this, clFrom_end (Nat.le_refl _)]
abbrev Cp := Int × Int × Unit
theorem conc_loop (hf : Fit rs) (hC : C ≤ 16) (hl : rs.length ≤ 16) (z : Int × Unit) : ∀ (n w : Nat) (acc : List Cp), 2 ^ rs.length - w ≤ n → w < 2 ^ rs.length → clo rs C w = w → acc.length ≤ 256 →
    loopM (polar_Concepts_l1 ((cl rs, cl (tab C (colW rs rs.length)), ()), z)) (acc, (w : Int), true, ()) = some (if acc.length + (clFrom rs C w).length > 256 then .inl ([], 1, ()) else .inr (.inl (acc ++ (clFrom rs C w).map (conc rs C), ())))
  | 0, w, acc, hn, hw, _, _ => by omega
  | n + 1, w, acc, hn, hw, hc, ha => by
    rw [clFrom_step hw, if_pos hc]
    by_cases h256 : acc.length = 256
    · have : polar_Concepts_l1 ((cl rs, cl (tab C (colW rs rs.length)), ()), z) (acc, (w : Int), true, ()) = some (.inr (.inl ([], 1, ()))) := by
        unfold polar_Concepts_l1
        simp only [cond_true, beqT (show (acc.length : Int) = 256 by omega)]
      rw [loopM_inr this, if_pos (by rw [List.length_cons]; omega)]
    · have key : polar_Concepts_l1 ((cl rs, cl (tab C (colW rs rs.length)), ()), z) (acc, (w : Int), true, ()) = some (.inl (match (List.range rs.length).find? (fits rs C w) with
          | some i => (acc ++ [conc rs C w], ((tryAt rs C w i : Nat) : Int), true, ())
          | none => (acc ++ [conc rs C w], 0, false, ()))) := by
        unfold polar_Concepts_l1
        have r1 : roomOk (acc.length + (0 + 1)) 8 = true := room_ok (by omega) (by omega)
        simp only [cond_true, beqF (show ¬ (acc.length : Int) = 256 by omega), cond_false, sides_up_eq (C := C) hf hC hw hl, Option.bind_some, List.length_cons, List.length_nil, r1, Bool.and_true, step_eq (C := C) hf hC hl hw]
        cases (List.range rs.length).find? (fits rs C w) <;> rfl
      rw [loopM_inl key, clFrom_next hw]
      cases hfd : (List.range rs.length).find? (fits rs C w) with
      | some i =>
        have h1 := List.find?_range_eq_some.1 hfd
        obtain ⟨g1, g2, g3⟩ := try_facts hw (List.mem_range.1 h1.2.1) h1.1
        rw [conc_loop hf hC hl z n _ _ (by omega) g2 g3 (by rw [List.length_append]; simp; omega)]
        simp only [List.length_append, List.length_cons, List.length_nil, List.map_cons, List.append_assoc, List.singleton_append]
        rw [show acc.length + (0 + 1) + (clFrom rs C (tryAt rs C w i)).length = acc.length + ((clFrom rs C (tryAt rs C w i)).length + 1) from by omega]
      | none =>
        have : polar_Concepts_l1 ((cl rs, cl (tab C (colW rs rs.length)), ()), z) (acc ++ [conc rs C w], 0, false, ()) = some (.inr (.inr (.inl (acc ++ [conc rs C w], ())))) := by
          unfold polar_Concepts_l1
          simp only [cond_false]
        simp only
        rw [loopM_inr this, if_neg (by simp; omega)]
        rfl
/-- The document's loop. -/
theorem rconc_loop (hf : Fit rs) (hC : C ≤ 16) (hl : rs.length ≤ 16) (M : Nat) : ∀ (n w : Nat) (acc : List Cp), 2 ^ rs.length - w ≤ n → w ≤ 2 ^ rs.length → acc.length ≤ M + 1 → M ≤ 1000 →
    ∃ r : List Cp, loopM (ref_PolarConcepts_l1 ((cl rs, (C : Int), ()), (M : Int), ())) (acc, (w : Int), ()) = some (.inl (r, ())) ∧ (acc.length + (clFrom rs C w).length ≤ M → r = acc ++ (clFrom rs C w).map (conc rs C)) ∧ (acc.length + (clFrom rs C w).length > M → r.length > M) := by
  have h16 : 2 ^ rs.length ≤ 65536 := Nat.pow_le_pow_right (n := 2) (by decide) hl
  have hsh : shlI .u32 (1 : Int) (IntKind.u64.wrap (rs.length : Int)) = ((2 ^ rs.length : Nat) : Int) := by
    rw [wrap_u64 (show rs.length < 2 ^ 64 by omega), shl_u32 (show rs.length < 32 by omega)]
  have hneg : decide ((IntKind.u64.wrap (rs.length : Int)) < 0) = false := by rw [wrap_u64 (show rs.length < 2 ^ 64 by omega)]; exact dcF (by omega)
  have hstop : ∀ (acc : List Cp) (w : Nat), ¬ w < 2 ^ rs.length → ref_PolarConcepts_l1 ((cl rs, (C : Int), ()), (M : Int), ()) (acc, (w : Int), ()) = some (.inr (.inl (acc, ()))) := fun acc w hw => by
    unfold ref_PolarConcepts_l1
    simp only [cl_length, hneg, cond_false, hsh, dcF (show ¬ (w : Int) < ((2 ^ rs.length : Nat) : Int) by omega)]
  have hfull : ∀ (acc : List Cp) (w : Nat), w < 2 ^ rs.length → acc.length > M → ref_PolarConcepts_l1 ((cl rs, (C : Int), ()), (M : Int), ()) (acc, (w : Int), ()) = some (.inr (.inl (acc, ()))) := fun acc w hw ha => by
    unfold ref_PolarConcepts_l1
    simp only [cl_length, hneg, cond_false, hsh, dcT (show (w : Int) < ((2 ^ rs.length : Nat) : Int) by omega), cond_true, dcF (show ¬ (acc.length : Int) ≤ (M : Int) by omega)]
  intro n
  induction n with
  | zero =>
    intro w acc hn hw ha hM
    refine ⟨acc, loopM_inr (hstop acc w (by omega)), ?_, ?_⟩
    · intro _; rw [clFrom_end (by omega)]; simp
    · rw [clFrom_end (by omega)]; simp
  | succ n ih =>
    intro w acc hn hw ha hM
    by_cases hw2 : w < 2 ^ rs.length
    · by_cases hfl : acc.length > M
      · refine ⟨acc, loopM_inr (hfull acc w hw2 hfl), fun h => by omega, fun _ => hfl⟩
      · have hw32 : w < 2 ^ 32 := Nat.lt_of_lt_of_le hw2 (Nat.pow_le_pow_right (by decide) (by omega))
        have e : (((clo rs C w : Nat) : Int) == (w : Int)) = decide (clo rs C w = w) := by
          rw [Bool.eq_iff_iff, beq_iff_eq, decide_eq_true_eq]; omega
        have hdn : ref_PolarDown ((cl rs, (C : Int), ()), ((upW rs C w : Nat) : Int), ()) = some (((clo rs C w : Nat) : Int), ()) := ref_PolarDown_eq (C := C) hf hl (upW_lt hC w)
        have hwr : IntKind.u32.wrap ((w : Int) + 1) = ((w + 1 : Nat) : Int) := by
          have := wrap_u32 (show w + 1 < 2 ^ 32 by omega)
          rw [← this]; rfl
        have r1 : roomOk (acc.length + (0 + 1)) 8 = true := room_ok (by omega) (by omega)
        have key : ref_PolarConcepts_l1 ((cl rs, (C : Int), ()), (M : Int), ()) (acc, (w : Int), ()) = some (.inl (if clo rs C w = w then (acc ++ [conc rs C w], ((w + 1 : Nat) : Int), ()) else (acc, ((w + 1 : Nat) : Int), ()))) := by
          unfold ref_PolarConcepts_l1
          simp only [cl_length, hneg, cond_false, hsh, dcT (show (w : Int) < ((2 ^ rs.length : Nat) : Int) by omega), cond_true, dcT (show (acc.length : Int) ≤ (M : Int) by omega), ref_PolarUp_eq hf hl hC hw32, hdn, Option.bind_some, e, hwr, List.length_cons, List.length_nil, r1, Bool.and_true]
          by_cases h : clo rs C w = w
          · simp only [h, decide_true, cond_true, if_true]; rfl
          · simp only [h, decide_false, cond_false, if_false]
        rw [loopM_inl key, clFrom_step hw2]
        by_cases h : clo rs C w = w
        · rw [if_pos h, if_pos h]
          obtain ⟨r, r1, r2, r3⟩ := ih (w + 1) (acc ++ [conc rs C w]) (by omega) (by omega) (by rw [List.length_append]; simp; omega) hM
          rw [List.length_append, List.length_cons, List.length_nil] at r2 r3
          refine ⟨r, r1, fun g => ?_, fun g => ?_⟩
          · rw [List.length_cons] at g
            rw [r2 (by omega)]; simp
          · rw [List.length_cons] at g
            exact r3 (by omega)
        · rw [if_neg h, if_neg h]
          exact ih (w + 1) acc (by omega) (by omega) ha hM
    · exact ⟨acc, loopM_inr (hstop acc w hw2), fun _ => by rw [clFrom_end (by omega)]; simp, fun h => by rw [clFrom_end (by omega)] at h; simpa using h⟩
end

end Go.Proofs.Tryd
