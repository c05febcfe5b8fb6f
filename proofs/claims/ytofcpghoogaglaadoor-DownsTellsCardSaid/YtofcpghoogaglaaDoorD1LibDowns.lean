/- Lemmas on functions of the program, by name: downs. -/
import Derived.Test.YtofcpghoogaglaaDoorD1Funs
import Derived.Test.YtofcpghoogaglaaDoorAbsSums
import Derived.Test.YtofcpghoogaglaaDoorD1LibOuts
import Derived.Test.YtofcpghoogaglaaDoorD1LibUnder
import Derived.Test.YtofcpghoogaglaaDoorD1LibDualo
namespace Go.Proofs.Tryd
open Go Go.Abs


/-- What the check of an order and a set answers. -/
noncomputable def downc (N : Int) (ws : List Nat) (set : Nat) : Int := if ordc N ws = 0 then cond (outs set N.toNat) 2 0 else ordc N ws
theorem downc_zero {N : Int} {ws : List Nat} {set : Nat} (h : downc N ws set = 0) : ordc N ws = 0 ∧ outs set N.toNat = false := by
  unfold downc at h
  by_cases h0 : ordc N ws = 0
  · rw [if_pos h0] at h
    cases ho : outs set N.toNat
    · exact ⟨h0, rfl⟩
    · rw [ho] at h; cases h
  · rw [if_neg h0] at h; exact absurd h h0
theorem downs_checked_eq {N : Int} {ws : List Nat} (hf : Fit ws) {set : Nat} (hs : set < 2 ^ 32) : downs_checked ((N, cl ws, ()), (set : Int), ()) = some (downc N ws set, ()) := by
  unfold downs_checked downc
  simp (disch := first | assumption | omega) only [Option.bind_some, order_Check_eq hf]
  by_cases h : ordc N ws = 0
  · obtain ⟨h1, h2, h3, hin, o⟩ := ordc_zero h
    obtain ⟨n, rfl⟩ := Int.eq_ofNat_of_zero_le h1
    simp (disch := first | assumption | omega) only [cond_false, Option.bind_some, Int.toNat_natCast, if_true, h, bneF, sets_All_eq (show n ≤ 32 by omega), not_u32 hs (all_32 (show n ≤ 32 by omega)), outs_dif hs]
    cases outs set n <;> rfl
  · simp (disch := first | assumption | omega) only [cond_true, if_false, h, bneT]

/-- The union of the rows of a set. -/
def unW (n : Nat) (rs : List Nat) (set k : Nat) : Nat := wordOf n fun b => (List.range k).any fun r => set.testBit r && below rs r b
theorem unW_step {n : Nat} {rs : List Nat} (hin : Inside n rs) {set k : Nat} : unW n rs set (k + 1) = cond (set.testBit k) (unW n rs set k ||| rs.getD k 0) (unW n rs set k) := by
  apply Nat.eq_of_testBit_eq
  intro b
  cases h : set.testBit k
  · simp only [cond_false, unW, wordOf_bit, any_succ, h, Bool.false_and, Bool.or_false]
  · simp only [cond_true, unW, wordOf_bit, any_succ, h, Bool.true_and, Nat.testBit_or]
    by_cases hb : b < n
    · simp [hb, below]
    · have : (rs.getD k 0).testBit b = false := by
        cases hr : (rs.getD k 0).testBit b
        · rfl
        · have := insideD hin hr; omega
      rw [decide_eq_false hb, this]; rfl
theorem downs_under_eq {n : Nat} {rs : List Nat} (hf : Fit rs) (hl : rs.length = n) (hn : n ≤ 16) (hin : Inside n rs) {set : Nat} (hs : set < 2 ^ n) : downs_under (cl rs, (set : Int), ()) = some (((unW n rs set n : Nat) : Int), ()) := by
  have h32 : set < 2 ^ 32 := Nat.lt_of_lt_of_le hs (Nat.pow_le_pow_right (by decide) (by omega))
  have h0 : unW n rs set 0 = 0 := by
    apply Nat.eq_of_testBit_eq; intro b; simp [unW, wordOf_bit]
  have key := loopM_bits (f := downs_under_l1 (cl rs, (set : Int), ())) n (fun k => ((((unW n rs set k : Nat) : Int), ()), ())) (.inl ((((unW n rs set n : Nat) : Int), ()), ())) hs (by omega) (fun r q h1 h2 h3 => by
    have hw : unW n rs set r < 2 ^ 32 := wordOf_lt32 _ (by omega)
    unfold downs_under_l1
    simp (disch := first | assumption | omega) only [cond_true, Option.bind_some, getI_cl, nz_eq, tz_eq h1, clr_eq h1, or_u32 hw (fitD hf r), unW_step hin, h2]) (fun r _ h2 => by rw [unW_step hin, h2]; rfl) rfl
  unfold downs_under
  rw [h0] at key
  simp (disch := first | assumption | omega) only [wrap_u64 (lt_64 h32)]
  rw [show ((0 : Int), ()) = (((0 : Nat) : Int), ()) from rfl, key]; rfl

/-- Those of a set that have no other of it above them. -/
def endB (n : Nat) (rs : List Nat) (set i : Nat) : Bool := set.testBit i && (List.range n).all fun j => !(set.testBit j && under rs i j)
def endW (n : Nat) (rs : List Nat) (set : Nat) : Nat := wordOf n (endB n rs set)
theorem end_word {n : Nat} {rs : List Nat} (hin : Inside n rs) (o : IsOrder n rs) {set i : Nat} (hi : i < n) (hs : set.testBit i = true) : decide (rs.getD i 0 &&& set = 2 ^ i) = endB n rs set i := by
  unfold endB
  rw [hs, Bool.true_and, Bool.eq_iff_iff, decide_eq_true_eq, all_range]
  constructor
  · intro h j hj
    cases hj2 : set.testBit j
    · rfl
    · cases hu : under rs i j
      · rfl
      · have hu' : i ≠ j ∧ below rs i j = true := by
          unfold under at hu; rw [Bool.and_eq_true, decide_eq_true_eq] at hu; exact hu
        have h1 : (rs.getD i 0 &&& set).testBit j = true := by
          rw [Nat.testBit_and, hj2, show (rs.getD i 0).testBit j = true from hu'.2]; rfl
        rw [h, Nat.testBit_two_pow, decide_eq_true_eq] at h1
        exact absurd h1 hu'.1
  · intro h
    apply Nat.eq_of_testBit_eq
    intro j
    rw [Nat.testBit_and, Nat.testBit_two_pow]
    by_cases e : i = j
    · subst e
      rw [hs, show (rs.getD i 0).testBit i = true from o.refl i hi]; simp
    · rw [decide_eq_false e]
      cases hb : (rs.getD i 0).testBit j
      · rfl
      · have hj := insideD hin hb
        have h1 := h j hj
        have hu : under rs i j = true := by unfold under; rw [decide_eq_true e, show below rs i j = true from hb]; rfl
        rw [hu] at h1
        simpa using h1
theorem downs_ends_eq {n : Nat} {rs : List Nat} (hf : Fit rs) (hl : rs.length = n) (hn : n ≤ 16) (hin : Inside n rs) (o : IsOrder n rs) {set : Nat} (hs : set < 2 ^ n) : downs_ends (cl rs, (set : Int), ()) = some (((endW n rs set : Nat) : Int), ()) := by
  have h32 : set < 2 ^ 32 := Nat.lt_of_lt_of_le hs (Nat.pow_le_pow_right (by decide) (by omega))
  have key := loopM_bits (f := downs_ends_l1 (cl rs, (set : Int), ())) n (fun k => ((((wordOf k (endB n rs set) : Nat) : Int), ()), ())) (.inl ((((endW n rs set : Nat) : Int), ()), ())) hs (by omega) (fun r q h1 h2 h3 => by
    have hw : wordOf r (endB n rs set) < 2 ^ 32 := wordOf_lt32 _ (by omega)
    have e : (((rs.getD r 0 &&& set : Nat) : Int) == ((2 ^ r : Nat) : Int)) = endB n rs set r := by
      rw [← end_word hin o h3 h2, Bool.eq_iff_iff, beq_iff_eq, decide_eq_true_eq]; omega
    unfold downs_ends_l1
    simp (disch := first | assumption | omega) only [cond_true, Option.bind_some, getI_cl, nz_eq, tz_eq h1, clr_eq h1, sets_One_eq (show r < 32 by omega), and_u32 (fitD hf r) h32, e, or_u32 hw (two_pow_32 (show r < 32 by omega)), wordOf_step]
    cases endB n rs set r <;> rfl) (fun r _ h2 => by
      have : endB n rs set r = false := by unfold endB; rw [h2]; rfl
      rw [wordOf_step, this]; rfl) rfl
  unfold downs_ends
  simp (disch := first | assumption | omega) only [wrap_u64 (lt_64 h32)]
  rw [show (((wordOf 0 (endB n rs set) : Nat) : Int), ()) = ((0 : Int), ()) from rfl] at key
  rw [key]; rfl

theorem set_lt {n set : Nat} (hs : set < 2 ^ 32) (h : outs set n = false) : set < 2 ^ n :=
  Nat.lt_pow_two_of_testBit _ fun j hj => by
    cases hb : set.testBit j
    · rfl
    · have := (outs_iff hs).1 h j hb; omega

theorem downs_Down_eq {N : Int} {ws : List Nat} (hf : Fit ws) {set : Nat} (hs : set < 2 ^ 32) : downs_Down ((N, cl ws, ()), (set : Int), ()) =
    some (if downc N ws set = 0 then (((unW N.toNat (downW N.toNat ws) set N.toNat : Nat) : Int), 0, ()) else (0, downc N ws set, ())) := by
  unfold downs_Down
  simp (disch := first | assumption | omega) only [Option.bind_some, downs_checked_eq hf hs]
  by_cases h : downc N ws set = 0
  · obtain ⟨h0, ho⟩ := downc_zero h
    obtain ⟨h1, h2, h3, hin, o⟩ := ordc_zero h0
    obtain ⟨n, rfl⟩ := Int.eq_ofNat_of_zero_le h1
    have hl : ws.length = n := by omega
    have hn : n ≤ 16 := by omega
    simp (disch := first | assumption | omega) only [cond_false, Option.bind_some, Int.toNat_natCast, if_true, h, bneF, order_Down_eq hf hl hn hin, downs_under_eq (fit_downW (ws := ws) hn) length_down hn inside_down (set_lt hs ho)]
  · simp (disch := first | assumption | omega) only [cond_true, if_false, h, bneT]
theorem downs_Maximal_eq {N : Int} {ws : List Nat} (hf : Fit ws) {set : Nat} (hs : set < 2 ^ 32) : downs_Maximal ((N, cl ws, ()), (set : Int), ()) =
    some (if downc N ws set = 0 then (((endW N.toNat ws set : Nat) : Int), 0, ()) else (0, downc N ws set, ())) := by
  unfold downs_Maximal
  simp (disch := first | assumption | omega) only [Option.bind_some, downs_checked_eq hf hs]
  by_cases h : downc N ws set = 0
  · obtain ⟨h0, ho⟩ := downc_zero h
    obtain ⟨h1, h2, h3, hin, o⟩ := ordc_zero h0
    obtain ⟨n, rfl⟩ := Int.eq_ofNat_of_zero_le h1
    have hl : ws.length = n := by omega
    have hn : n ≤ 16 := by omega
    simp (disch := first | assumption | omega) only [cond_false, Option.bind_some, Int.toNat_natCast, if_true, h, bneF, downs_ends_eq hf hl hn hin o (set_lt hs ho)]
  · simp (disch := first | assumption | omega) only [cond_true, if_false, h, bneT]
theorem downs_Minimal_eq {N : Int} {ws : List Nat} (hf : Fit ws) {set : Nat} (hs : set < 2 ^ 32) : downs_Minimal ((N, cl ws, ()), (set : Int), ()) =
    some (if downc N ws set = 0 then (((endW N.toNat (downW N.toNat ws) set : Nat) : Int), 0, ()) else (0, downc N ws set, ())) := by
  unfold downs_Minimal
  simp (disch := first | assumption | omega) only [Option.bind_some, downs_checked_eq hf hs]
  by_cases h : downc N ws set = 0
  · obtain ⟨h0, ho⟩ := downc_zero h
    obtain ⟨h1, h2, h3, hin, o⟩ := ordc_zero h0
    obtain ⟨n, rfl⟩ := Int.eq_ofNat_of_zero_le h1
    have hl : ws.length = n := by omega
    have hn : n ≤ 16 := by omega
    simp (disch := first | assumption | omega) only [cond_false, Option.bind_some, Int.toNat_natCast, if_true, h, bneF, order_Down_eq hf hl hn hin, downs_ends_eq (fit_downW (ws := ws) hn) length_down hn inside_down (order_down o) (set_lt hs ho)]
  · simp (disch := first | assumption | omega) only [cond_true, if_false, h, bneT]

/-! The reference. -/
theorem ref_DownsDown_eq {n : Nat} {ws : List Nat} (hf : Fit ws) (hl : ws.length = n) (hn : n ≤ 16) {set : Nat} (hs : set < 2 ^ 32) : ref_DownsDown (((n : Int), cl ws, ()), (set : Int), ()) = some (((unW n (downW n ws) set n : Nat) : Int), ()) := by
  let p := fun i j => set.testBit j && below ws i j
  have l1 : ∀ (i w : Nat) (c : Int), i < n → w < 2 ^ 32 → loopM (ref_DownsDown_l1 (((n : Int), cl ws, ()), (set : Int), ()) (c, (i : Int), ())) ((w : Int), 0, ()) = some (.inl (((cond ((List.range n).any (p i)) (w ||| 2 ^ i) w : Nat) : Int), ())) := fun i w c hi hw => by
    refine loopM_sim (f := ref_DownsDown_l1 (((n : Int), cl ws, ()), (set : Int), ()) (c, (i : Int), ())) n (fun k => (((cond ((List.range k).any (p i)) (w ||| 2 ^ i) w : Nat) : Int), (k : Int), ())) _ (fun j hj => ?_) ?_ rfl
    · have h1 : cond ((List.range j).any (p i)) (w ||| 2 ^ i) w < 2 ^ 32 := by
        cases (List.range j).any (p i)
        · exact hw
        · exact Nat.or_lt_two_pow hw (two_pow_32 (by omega))
      have h2 : ∀ b : Bool, cond b (w ||| 2 ^ i) w ||| 2 ^ i = w ||| 2 ^ i := fun b => by
        cases b
        · rfl
        · rw [cond_true, Nat.or_assoc, Nat.or_self]
      unfold ref_DownsDown_l1
      simp (disch := first | assumption | omega) only [cond_true, cond_false, Option.bind_some, dcT, dcF, wrapS, ref_Bit_eq hs (show j < 2 ^ 64 by omega), ref_Below_eq hf (show i < ws.length by omega) (show j < 2 ^ 64 by omega), wrap_u64 (show i < 2 ^ 64 by omega), shl_u32 (show i < 32 by omega), or_u32 h1 (two_pow_32 (show i < 32 by omega)), any_succ, h2]
      show _ = some (Sum.inl (((cond ((List.range j).any (p i) || (set.testBit j && below ws i j)) (w ||| 2 ^ i) w : Nat) : Int), _))
      cases set.testBit j
      · simp
      · cases below ws i j <;> simp
    · unfold ref_DownsDown_l1
      simp (disch := first | assumption | omega) only [cond_false, dcF, wrapS]
  have key := loopM_sim (f := ref_DownsDown_l2 (((n : Int), cl ws, ()), (set : Int), ())) n (fun k => (((wordOf k fun i => (List.range n).any (p i) : Nat) : Int), (k : Int), ())) (.inl (((wordOf n fun i => (List.range n).any (p i) : Nat) : Int), ())) (fun i hi => by
    unfold ref_DownsDown_l2
    simp (disch := first | assumption | omega) only [cond_true, Option.bind_some, Sum.elim_inl, dcT, wrapS, l1 i _ _ hi (wordOf_lt32 (n := i) (fun i => (List.range n).any (p i)) (show i ≤ 32 by omega)), wordOf_step]) (by
    unfold ref_DownsDown_l2
    simp (disch := first | assumption | omega) only [cond_false, dcF, wrapS]) (s0 := (0, 0, ())) rfl
  have e : (wordOf n fun i => (List.range n).any (p i)) = unW n (downW n ws) set n := wordOf_congr fun i hi => by
    rw [Bool.eq_iff_iff, any_range, any_range]
    constructor
    · rintro ⟨j, hj, h⟩
      exact ⟨j, hj, by rw [below_down hj hi]; exact h⟩
    · rintro ⟨j, hj, h⟩
      rw [below_down hj hi] at h
      exact ⟨j, hj, h⟩
  unfold ref_DownsDown
  rw [key, e]; rfl

theorem ref_DownsMaximal_eq {n : Nat} {ws : List Nat} (hf : Fit ws) (hl : ws.length = n) (hn : n ≤ 16) {set : Nat} (hs : set < 2 ^ 32) : ref_DownsMaximal (((n : Int), cl ws, ()), (set : Int), ()) = some (((endW n ws set : Nat) : Int), ()) := by
  have l1 : ∀ (i : Nat) (c : Int), i < n → loopM (ref_DownsMaximal_l1 (((n : Int), cl ws, ()), (set : Int), ()) (c, (i : Int), ())) (set.testBit i, 0, ()) = some (.inl (endB n ws set i, ())) := fun i c hi => by
    refine loopM_sim (f := ref_DownsMaximal_l1 (((n : Int), cl ws, ()), (set : Int), ()) (c, (i : Int), ())) n (fun k => (set.testBit i && (List.range k).all fun j => !(set.testBit j && under ws i j), (k : Int), ())) _ (fun j hj => ?_) ?_ (by simp)
    · unfold ref_DownsMaximal_l1
      simp (disch := first | assumption | omega) only [cond_true, Option.bind_some, dcT, wrapS, ref_Bit_eq hs (show j < 2 ^ 64 by omega), ref_Under_eq hf (show i < ws.length by omega) (show j < 2 ^ 64 by omega), all_succ]
      cases set.testBit j <;> cases under ws i j <;> simp
    · unfold ref_DownsMaximal_l1
      simp (disch := first | assumption | omega) only [cond_false, dcF, wrapS]
      rfl
  have key := loopM_sim (f := ref_DownsMaximal_l2 (((n : Int), cl ws, ()), (set : Int), ())) n (fun k => (((wordOf k (endB n ws set) : Nat) : Int), (k : Int), ())) (.inl (((endW n ws set : Nat) : Int), ())) (fun i hi => by
    have hw : wordOf i (endB n ws set) < 2 ^ 32 := wordOf_lt32 _ (by omega)
    unfold ref_DownsMaximal_l2
    simp (disch := first | assumption | omega) only [cond_true, cond_false, Option.bind_some, Sum.elim_inl, dcT, dcF, wrapS, ref_Bit_eq hs (show i < 2 ^ 64 by omega), l1 i _ hi, wrap_u64 (show i < 2 ^ 64 by omega), shl_u32 (show i < 32 by omega), or_u32 hw (two_pow_32 (show i < 32 by omega)), wordOf_step]
    cases endB n ws set i <;> rfl) (by
    unfold ref_DownsMaximal_l2
    simp (disch := first | assumption | omega) only [cond_false, dcF, wrapS]
    rfl) (s0 := (0, 0, ())) rfl
  unfold ref_DownsMaximal
  rw [key]; rfl

end Go.Proofs.Tryd
