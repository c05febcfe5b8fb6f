/- Lemmas on functions of the program, by name: polar. -/
import Derived.Test.YtoddbincogignaaDoorD5Funs
import Derived.Test.YtoddbincogignaaDoorAbsSums
import Derived.Test.YtoddbincogignaaDoorD5LibDual
import Derived.Test.YtoddbincogignaaDoorD5LibOuts
namespace Go.Proofs.Tryd
open Go Go.Abs


open Classical in
/-- What a context's check answers. -/
noncomputable def polc (rs : List Nat) (C : Int) : Int :=
  if (rs.length : Int) > 16 then 1 else if C < 0 then 1 else if C > 16 then 1 else if ¬ Inside C.toNat rs then 2 else 0

theorem polc_zero {rs : List Nat} {C : Int} (h : polc rs C = 0) : rs.length ≤ 16 ∧ 0 ≤ C ∧ C ≤ 16 ∧ Inside C.toNat rs := by
  unfold polc at h
  by_cases h1 : (rs.length : Int) > 16
  · rw [if_pos h1] at h; cases h
  rw [if_neg h1] at h
  by_cases h2 : C < 0
  · rw [if_pos h2] at h; cases h
  rw [if_neg h2] at h
  by_cases h3 : C > 16
  · rw [if_pos h3] at h; cases h
  rw [if_neg h3] at h
  by_cases h4 : Inside C.toNat rs
  · exact ⟨by omega, by omega, by omega, h4⟩
  · rw [if_pos h4] at h; cases h

/-- A context's columns. -/
def colW (rs : List Nat) (k j : Nat) : Nat := wordOf k fun i => below rs i j
theorem polar_open_l1_eq {rs : List Nat} {C i w : Nat} (hw : w < 2 ^ 32) (hin : ∀ j, w.testBit j = true → j < C) (hi : i < 32) {g : Nat → Nat} (hg : ∀ j, j < C → g j < 2 ^ 32) (a : Int) (b : List Int × List Int × Unit) (c : List Int × Unit) :
    loopM (polar_open_l1 (a, (i : Int), b, c)) ((w : Int), cl (tab C g), ()) = some (.inl (cl (tab C fun j => if w.testBit j = true then g j ||| 2 ^ i else g j), ())) :=
  or_into hw hin (two_pow_32 hi) hg (fun r q l h1 h2 h3 h4 => by
    unfold polar_open_l1
    simp (disch := first | assumption | omega) only [cond_true, Option.bind_some, get_cl, inB_T, Int.toNat_natCast, length_cl, nz_eq, tz_eq h1, clr_eq h1, sets_One_eq hi, or_u32 h4 (two_pow_32 hi)]) (fun l => rfl)

theorem colW_succ {rs : List Nat} (i j : Nat) : colW rs (i + 1) j = if (rs.getD i 0).testBit j = true then colW rs i j ||| 2 ^ i else colW rs i j := rfl
theorem colW_lt {rs : List Nat} {k : Nat} (h : k ≤ 16) (j : Nat) : colW rs k j < 2 ^ 32 := wordOf_lt32 _ (by omega)

theorem polar_open_l2_eq {rs : List Nat} (hf : Fit rs) {C : Nat} (hl : rs.length ≤ 16) (hC : C ≤ 16) :
    loopM (polar_open_l2 ((cl rs, (C : Int), ()), ())) (0, 0, ([], [], ()), cl (tab C fun _ => 0), ()) =
      some (((List.range rs.length).findSome? fun i => cond (outs (rs.getD i 0) C) (some (.inl (2, ([], [], ()), cl (tab C (colW rs i)), ()))) none).getD (.inr (.inl (([], [], ()), cl (tab C (colW rs rs.length)), ())))) := by
  refine loopM_stop (f := polar_open_l2 ((cl rs, (C : Int), ()), ())) rs.length (fun k => ((0 : Int), (k : Int), (([] : List Int), ([] : List Int), ()), cl (tab C (colW rs k)), ())) _ _ (fun i hi => ?_) ?_
  · have hfr := fitD hf i
    unfold polar_open_l2
    simp (disch := first | assumption | omega) only [cond_true, Option.bind_some, dcT, getI_cl, wrapS, length_cl, sets_All_eq (show C ≤ 32 by omega), not_u32 hfr (all_32 (show C ≤ 32 by omega)), outs_dif hfr, wrap_u64 (lt_64 hfr)]
    cases ho : outs (rs.getD i 0) C
    · rw [polar_open_l1_eq (rs := rs) hfr ((outs_iff hfr).1 ho) (by omega) (fun j _ => colW_lt (by omega) j)]
      rfl
    · rfl
  · unfold polar_open_l2
    simp (disch := first | assumption | omega) only [cond_false, dcF, wrapS, length_cl]

theorem polar_open_eq {rs : List Nat} (hf : Fit rs) {C : Int} : polar_open ((cl rs, C, ()), ()) = some (if polc rs C = 0 then ((cl rs, cl (tab C.toNat (colW rs rs.length)), ()), 0, ()) else (([], [], ()), polc rs C, ())) := by
  unfold polar_open polc
  by_cases h1 : (rs.length : Int) > 16
  · simp (disch := first | assumption | omega) only [decide_true, cond_true, dcT, length_cl, Bool.and_true, if_true, h1]; rfl
  by_cases h2 : C < 0
  · simp (disch := first | assumption | omega) only [decide_true, decide_false, cond_true, cond_false, dcT, dcF, length_cl, room4, Bool.and_true, if_true, if_false, h1, h2]; rfl
  by_cases h3 : C > 16
  · simp (disch := first | assumption | omega) only [decide_true, decide_false, cond_true, cond_false, dcT, length_cl, Bool.and_true, Bool.true_and, Bool.and_self, if_true, if_false, h1, h2, h3]; rfl
  obtain ⟨c, rfl⟩ := Int.eq_ofNat_of_zero_le (show 0 ≤ C by omega)
  have e1 : List.replicate c (0 : Int) = cl (tab c fun _ => 0) := by rw [cl_rep, rep_tab]
  simp (disch := first | assumption | omega) only [decide_false, cond_true, cond_false, dcT, Int.toNat_natCast, length_cl, room4, Bool.and_self, if_false, h1, h2, h3, e1]
  rw [polar_open_l2_eq hf (by omega) (by omega)]
  rcases first_cases rs.length (fun i => outs (rs.getD i 0) c) with ⟨i, hi, hb, -, he⟩ | ⟨hb, he⟩
  · have : ¬ Inside c rs := fun h => by rw [(inside_outs hf).2 h i hi] at hb; cases hb
    simp (disch := first | assumption | omega) only [not_false_eq_true, Option.bind_some, Sum.elim_inl, if_true, he, this] <;> rfl
  · have : Inside c rs := (inside_outs hf).1 hb
    simp (disch := first | assumption | omega) only [not_true_eq_false, Option.bind_some, Sum.elim_inl, Sum.elim_inr, if_true, if_false, he, this] <;> rfl

theorem ref_PolarCheck_eq {rs : List Nat} (hf : Fit rs) {C : Int} : ref_PolarCheck ((cl rs, C, ()), ()) = some (polc rs C, ()) := by
  unfold ref_PolarCheck polc
  by_cases h1 : (rs.length : Int) > 16
  · simp (disch := first | assumption | omega) only [decide_true, cond_true, length_cl, if_true, h1]
  by_cases h2 : C < 0
  · simp (disch := first | assumption | omega) only [decide_true, decide_false, cond_true, cond_false, dcF, length_cl, if_true, if_false, h1, h2]
  by_cases h3 : C > 16
  · simp (disch := first | assumption | omega) only [decide_true, decide_false, cond_true, cond_false, length_cl, if_true, if_false, h1, h2, h3]
  obtain ⟨c, rfl⟩ := Int.eq_ofNat_of_zero_le (show 0 ≤ C by omega)
  simp (disch := first | assumption | omega) only [decide_false, cond_false, Int.toNat_natCast, length_cl, if_false, h1, h2, h3]
  have key := loopM_stop (f := ref_PolarCheck_l1 ((cl rs, (c : Int), ()), ())) rs.length (fun k => ((k : Int), ())) (fun i => cond (outs (rs.getD i 0) c) (some (.inl (2, ()))) none) (.inr (.inl ())) (fun i hi => by
    unfold ref_PolarCheck_l1
    simp (disch := first | assumption | omega) only [cond_true, Option.bind_some, dcT, getI_cl, wrapS, length_cl, ref_Outside_eq (fitD hf i) (show c ≤ 32 by omega)]
    show cond (outs (rs.getD i 0) c) _ _ = _
    cases outs (rs.getD i 0) c <;> rfl) (by unfold ref_PolarCheck_l1; simp (disch := first | assumption | omega) only [cond_false, dcF, wrapS, length_cl])
  rw [show ((0 : Int), ()) = (((0 : Nat) : Int), ()) from rfl, key]
  rcases first_cases rs.length (fun i => outs (rs.getD i 0) c) with ⟨i, hi, hb, -, he⟩ | ⟨hb, he⟩
  · have : ¬ Inside c rs := fun h => by rw [(inside_outs hf).2 h i hi] at hb; cases hb
    rw [he, if_pos this]; rfl
  · have : Inside c rs := (inside_outs hf).1 hb
    rw [he, if_neg (fun h => h this)]; rfl

/-- What all lines of a set have, of n. -/
def sharedW (ls : List Nat) (set n k : Nat) : Nat := wordOf n fun b => (List.range k).all fun r => !set.testBit r || below ls r b
theorem sharedW_bit (ls : List Nat) (set n k b : Nat) : (sharedW ls set n k).testBit b = (decide (b < n) && (List.range k).all fun r => !set.testBit r || below ls r b) := wordOf_bit ..
theorem sharedW_step {ls : List Nat} {set n k : Nat} : sharedW ls set n (k + 1) = if set.testBit k = true then sharedW ls set n k &&& ls.getD k 0 else sharedW ls set n k := by
  apply Nat.eq_of_testBit_eq
  intro b
  rw [sharedW_bit, all_succ]
  cases h : set.testBit k
  · simp [sharedW_bit]
  · simp [sharedW_bit, below, Bool.and_assoc]

theorem polar_shared_eq {ls : List Nat} (hf : Fit ls) {set n : Nat} (hs : set < 2 ^ 32) (hin : ∀ j, set.testBit j = true → j < ls.length) (hn : n ≤ 32) :
    polar_shared (cl ls, (set : Int), (n : Int), ()) = some (((sharedW ls set n 32 : Nat) : Int), ()) := by
  have h0 : sharedW ls set n 0 = 2 ^ n - 1 := by
    apply Nat.eq_of_testBit_eq
    intro b
    rw [sharedW_bit, all_bit]
    simp
  have key := loopM_bits (f := polar_shared_l1 (cl ls, (set : Int), (n : Int), ())) 32 (fun k => ((((sharedW ls set n k : Nat) : Int), ()), ())) (.inl ((((sharedW ls set n 32 : Nat) : Int), ()), ())) hs (by decide) (fun r q h1 h2 h3 => by
    have hr := hin r h2
    have hw : sharedW ls set n r < 2 ^ 32 := wordOf_lt32 _ hn
    unfold polar_shared_l1
    simp (disch := first | assumption | omega) only [cond_true, Option.bind_some, getI_cl, nz_eq, tz_eq h1, clr_eq h1, and_u32 hw (fitD hf r)]
    rw [sharedW_step, h2]; rfl) (fun r _ h2 => by rw [sharedW_step, h2]; rfl) rfl
  unfold polar_shared
  rw [h0] at key
  simp (disch := first | assumption | omega) only [Option.bind_some, Sum.elim_inl, sets_All_eq hn, wrap_u64 (lt_64 hs), key]

/-- The columns that all have; the rows that have all. -/
def upW (rs : List Nat) (C rows : Nat) : Nat := wordOf C fun j => (List.range rs.length).all fun i => !rows.testBit i || below rs i j
def dnW (rs : List Nat) (a : Nat) : Nat := wordOf rs.length fun i => decide (rs.getD i 0 &&& a = a)

theorem shared_up {rs : List Nat} {C rows : Nat} (hr : rows < 2 ^ 32) (hin : ∀ j, rows.testBit j = true → j < rs.length) : sharedW rs rows C 32 = upW rs C rows := by
  refine wordOf_congr fun j _ => ?_
  rw [Bool.eq_iff_iff, all_range, all_range]
  constructor
  · intro h i _
    cases hb : rows.testBit i
    · rfl
    · have := h i (bit_lt hr hb); rwa [hb] at this
  · intro h i _
    cases hb : rows.testBit i
    · rfl
    · have := h i (hin i hb); rwa [hb] at this

theorem shared_dn {rs : List Nat} {C a : Nat} (ha : a < 2 ^ 32) (hin : ∀ j, a.testBit j = true → j < C) : sharedW (tab C (colW rs rs.length)) a rs.length 32 = dnW rs a := by
  refine wordOf_congr fun i hi => ?_
  rw [Bool.eq_iff_iff, all_range, decide_eq_true_eq, and_eq_iff]
  have hc : ∀ j, j < C → below (tab C (colW rs rs.length)) j i = (rs.getD i 0).testBit j := fun j hj => by
    rw [below_tab hj]; unfold colW; rw [wordOf_bit, decide_eq_true hi, Bool.true_and]; rfl
  constructor
  · intro h j hj
    have := h j (bit_lt ha hj)
    rw [hj, hc j (hin j hj)] at this
    exact this
  · intro h j _
    cases hb : a.testBit j
    · rfl
    · rw [hc j (hin j hb), h j hb]; rfl

theorem ref_PolarUp_eq {rs : List Nat} (hf : Fit rs) {C rows : Nat} (hl : rs.length ≤ 16) (hC : C ≤ 16) (hr : rows < 2 ^ 32) : ref_PolarUp ((cl rs, (C : Int), ()), (rows : Int), ()) = some (((upW rs C rows : Nat) : Int), ()) := by
  have h1 : ∀ (j : Nat) (a : Int), j < C → loopM (ref_PolarUp_l1 ((cl rs, (C : Int), ()), (rows : Int), ()) (a, (j : Int), ())) (true, 0, ()) = some (.inl ((List.range rs.length).all fun i => !rows.testBit i || below rs i j, ())) := fun j a hj => by
    refine loopM_go (f := ref_PolarUp_l1 ((cl rs, (C : Int), ()), (rows : Int), ()) (a, (j : Int), ())) rs.length (fun k => ((List.range k).all fun i => !rows.testBit i || below rs i j, (k : Int), ())) _ (fun i hi => ?_) ?_
    · unfold ref_PolarUp_l1
      simp (disch := first | assumption | omega) only [cond_true, Option.bind_some, dcT, getI_cl, wrapS, length_cl, ref_Bit_eq hr (show i < 2 ^ 64 by omega), ref_Bit_eq (fitD hf i) (show j < 2 ^ 64 by omega), all_succ]
      show cond (rows.testBit i) (cond (!below rs i j) _ _) _ = _
      cases rows.testBit i <;> cases below rs i j <;> simp
    · unfold ref_PolarUp_l1
      simp (disch := first | assumption | omega) only [cond_false, dcF, wrapS, length_cl]
  have h2 := loopM_go (f := ref_PolarUp_l2 ((cl rs, (C : Int), ()), (rows : Int), ())) C (fun k => (((wordOf k fun j => (List.range rs.length).all fun i => !rows.testBit i || below rs i j : Nat) : Int), (k : Int), ())) (.inl (((upW rs C rows : Nat) : Int), ())) (fun j hj => by
    have w := wordOf_lt32 (n := j) (fun j => (List.range rs.length).all fun i => !rows.testBit i || below rs i j) (by omega)
    unfold ref_PolarUp_l2
    simp (disch := first | assumption | omega) only [cond_true, cond_false, Option.bind_some, Sum.elim_inl, dcT, dcF, wrapS, h1 j _ hj, wrap_u64 (show j < 2 ^ 64 by omega), shl_u32 (show j < 32 by omega), or_u32 w (two_pow_32 (show j < 32 by omega)), wordOf_step]
    cases (List.range rs.length).all fun i => !rows.testBit i || below rs i j <;> rfl) (by
    unfold ref_PolarUp_l2
    simp (disch := first | assumption | omega) only [cond_false, dcF, wrapS]
    rfl)
  unfold ref_PolarUp
  rw [show ((0 : Int), (0 : Int), ()) = (((0 : Nat) : Int), ((0 : Nat) : Int), ()) from rfl]
  rw [show wordOf 0 _ = 0 from rfl] at h2
  rw [h2]; rfl

theorem ref_PolarDown_eq {rs : List Nat} (hf : Fit rs) {C a : Nat} (hl : rs.length ≤ 16) (ha : a < 2 ^ 32) : ref_PolarDown ((cl rs, (C : Int), ()), (a : Int), ()) = some (((dnW rs a : Nat) : Int), ()) := by
  have h2 := loopM_go (f := ref_PolarDown_l1 ((cl rs, (C : Int), ()), (a : Int), ())) rs.length (fun k => (((wordOf k fun i => decide (rs.getD i 0 &&& a = a) : Nat) : Int), (k : Int), ())) (.inl (((dnW rs a : Nat) : Int), ())) (fun j hj => by
    have w := wordOf_lt32 (n := j) (fun i => decide (rs.getD i 0 &&& a = a)) (by omega)
    have e : (((rs.getD j 0 &&& a : Nat) : Int) == (a : Int)) = decide (rs.getD j 0 &&& a = a) := by
      rw [Bool.eq_iff_iff, beq_iff_eq, decide_eq_true_eq]; omega
    unfold ref_PolarDown_l1
    simp (disch := first | assumption | omega) only [cond_true, cond_false, Option.bind_some, dcT, dcF, getI_cl, wrapS, length_cl, and_u32 (fitD hf j) ha, e, wrap_u64 (show j < 2 ^ 64 by omega), shl_u32 (show j < 32 by omega), or_u32 w (two_pow_32 (show j < 32 by omega)), wordOf_step]
    cases decide (rs.getD j 0 &&& a = a) <;> rfl) (by
    unfold ref_PolarDown_l1
    simp (disch := first | assumption | omega) only [cond_false, dcF, wrapS, length_cl]
    rfl)
  unfold ref_PolarDown
  rw [show ((0 : Int), (0 : Int), ()) = (((0 : Nat) : Int), ((0 : Nat) : Int), ()) from rfl]
  rw [show wordOf 0 _ = 0 from rfl] at h2
  rw [h2]; rfl

end Go.Proofs.Tryd
