/- Lemmas on functions of the program, by name. -/
import Derived.Test.YtamkgeejenceaaaDoorR1Funs
import Derived.Test.YtamkgeejenceaaaDoorAbsSums
import Derived.Test.YtamkgeejenceaaaDoorR1LemmasPolarCompletes1
namespace Go.Proofs.Tryd
section
open Go Go.Abs


/-- Is i strictly below j? -/
def under (ws : List Nat) (i j : Nat) : Bool := decide (i ≠ j) && below ws i j
theorem under_word (ws : List Nat) (i j : Nat) : (dif (ws.getD i 0) (2 ^ i)).testBit j = under ws i j := by
  rw [dif_bit, Nat.testBit_two_pow]
  unfold under below
  by_cases h : i = j <;> simp [h]
theorem under_lt {n : Nat} {ws : List Nat} (hin : Inside n ws) {i j : Nat} (h : under ws i j = true) : j < n := by
  unfold under at h
  exact insideD hin (Bool.and_eq_true_iff.1 h).2
end

section
open Go Go.Abs


theorem downW_bit {n : Nat} {ws : List Nat} {i : Nat} (hi : i < n) (j : Nat) : ((downW n ws).getD i 0).testBit j = (decide (j < n) && below ws j i) := by
  unfold downW; rw [getD_tab hi, wordOf_bit]
theorem fit_downW {n : Nat} {ws : List Nat} (hn : n ≤ 16) : Fit (downW n ws) := fit_tab fun i _ => wordOf_lt32 _ (by omega)
theorem below_down {n : Nat} {ws : List Nat} {i j : Nat} (hi : i < n) (hj : j < n) : below (downW n ws) i j = below ws j i := by
  unfold below; rw [downW_bit hi, decide_eq_true hj, Bool.true_and]; rfl
theorem inside_down {n : Nat} {ws : List Nat} : Inside n (downW n ws) := fun w hw i hi => by
  obtain ⟨j, hj, rfl⟩ := mem_tab.1 hw
  rw [wordOf_bit, decide_eq_false (by omega)]; rfl
theorem length_down {n : Nat} {ws : List Nat} : (downW n ws).length = n := tab_length ..
theorem order_down {n : Nat} {ws : List Nat} (o : IsOrder n ws) : IsOrder n (downW n ws) where
  refl i hi := by rw [below_down hi hi]; exact o.refl i hi
  anti i j hi hj hne h := by
    rw [below_down hi hj] at h
    rw [below_down hj hi]
    exact o.anti j i hj hi (Ne.symm hne) h
  trans i j k hi hj hk h1 h2 := by
    rw [below_down hi hj] at h1
    rw [below_down hj hk] at h2
    rw [below_down hi hk]
    exact o.trans k j i hk hj hi h2 h1
theorem order_anti {n : Nat} {ws : List Nat} (o : IsOrder n ws) {i j : Nat} (hi : i < n) (hj : j < n) (h1 : below ws i j = true) (h2 : below ws j i = true) : i = j :=
  Classical.byContradiction fun hne => by rw [o.anti i j hi hj hne h1] at h2; cases h2
end

section
open Go Go.Abs


/-- What the check of an order and a set answers. -/
noncomputable def downc (N : Int) (ws : List Nat) (set : Nat) : Int := if ordc N ws = 0 then cond (outs set N.toNat) 2 0 else ordc N ws
theorem downc_zero {N : Int} {ws : List Nat} {set : Nat} (h : downc N ws set = 0) : ordc N ws = 0 ∧ outs set N.toNat = false := by
  unfold downc at h
  by_cases h0 : ordc N ws = 0
  · rw [if_pos h0] at h
    cases ho : outs set N.toNat
    · exact ⟨h0, rfl⟩
    · rw [ho] at h; cases h
  · rw [if_neg h0] at h; exact absurd h h0
/-- The union of the rows of a set. -/
def unW (n : Nat) (rs : List Nat) (set k : Nat) : Nat := wordOf n fun b => (List.range k).any fun r => set.testBit r && below rs r b
theorem unW_step {n : Nat} {rs : List Nat} (hin : Inside n rs) {set k : Nat} : unW n rs set (k + 1) = cond (set.testBit k) (unW n rs set k ||| rs.getD k 0) (unW n rs set k) := by
  apply Nat.eq_of_testBit_eq
  intro b
  cases h : set.testBit k
  · simp only [cond_false, unW, wordOf_bit, any_succ, h, Bool.false_and, Bool.or_false]
  · simp only [cond_true, unW, wordOf_bit, any_succ, h, Bool.true_and, Nat.testBit_or]
    by_cases hb : b < n
    · simp [hb, below]
    · have : (rs.getD k 0).testBit b = false := by
        cases hr : (rs.getD k 0).testBit b
        · rfl
        · have := insideD hin hr; omega
      rw [decide_eq_false hb, this]; rfl
/-- Those of a set that have no other of it above them. -/
def endB (n : Nat) (rs : List Nat) (set i : Nat) : Bool := set.testBit i && (List.range n).all fun j => !(set.testBit j && under rs i j)
def endW (n : Nat) (rs : List Nat) (set : Nat) : Nat := wordOf n (endB n rs set)
theorem end_word {n : Nat} {rs : List Nat} (hin : Inside n rs) (o : IsOrder n rs) {set i : Nat} (hi : i < n) (hs : set.testBit i = true) : decide (rs.getD i 0 &&& set = 2 ^ i) = endB n rs set i := by
  unfold endB
  rw [hs, Bool.true_and, Bool.eq_iff_iff, decide_eq_true_eq, all_range]
  constructor
  · intro h j hj
    cases hj2 : set.testBit j
    · rfl
    · cases hu : under rs i j
      · rfl
      · have hu' : i ≠ j ∧ below rs i j = true := by
          unfold under at hu; rw [Bool.and_eq_true, decide_eq_true_eq] at hu; exact hu
        have h1 : (rs.getD i 0 &&& set).testBit j = true := by
          rw [Nat.testBit_and, hj2, show (rs.getD i 0).testBit j = true from hu'.2]; rfl
        rw [h, Nat.testBit_two_pow, decide_eq_true_eq] at h1
        exact absurd h1 hu'.1
  · intro h
    apply Nat.eq_of_testBit_eq
    intro j
    rw [Nat.testBit_and, Nat.testBit_two_pow]
    by_cases e : i = j
    · subst e
      rw [hs, show (rs.getD i 0).testBit i = true from o.refl i hi]; simp
    · rw [decide_eq_false e]
      cases hb : (rs.getD i 0).testBit j
      · rfl
      · have hj := insideD hin hb
        have h1 := h j hj
        have hu : under rs i j = true := by unfold under; rw [decide_eq_true e, show below rs i j = true from hb]; rfl
        rw [hu] at h1
        simpa using h1
theorem set_lt {n set : Nat} (hs : set < 2 ^ 32) (h : outs set n = false) : set < 2 ^ n :=
  Nat.lt_pow_two_of_testBit _ fun j hj => by
    cases hb : set.testBit j
    · rfl
    · have := (outs_iff hs).1 h j hb; omega

/-! The reference. -/
theorem ref_DownsDown_eq {n : Nat} {ws : List Nat} (hf : Fit ws) (hl : ws.length = n) (hn : n ≤ 16) {set : Nat} (hs : set < 2 ^ 32) : ref_DownsDown (((n : Int), cl ws, ()), (set : Int), ()) = some (((unW n (downW n ws) set n : Nat) : Int), ()) := by
  let p := fun i j => set.testBit j && below ws i j
  have l1 : ∀ (i w : Nat) (c : Int), i < n → w < 2 ^ 32 → loopM (ref_DownsDown_l1 (((n : Int), cl ws, ()), (set : Int), ()) (c, (i : Int), ())) ((w : Int), 0, ()) = some (.inl (((cond ((List.range n).any (p i)) (w ||| 2 ^ i) w : Nat) : Int), ())) := fun i w c hi hw => by
    refine loopM_sim (f := ref_DownsDown_l1 (((n : Int), cl ws, ()), (set : Int), ()) (c, (i : Int), ())) n (fun k => (((cond ((List.range k).any (p i)) (w ||| 2 ^ i) w : Nat) : Int), (k : Int), ())) _ (fun j hj => ?_) ?_ rfl
    · have h1 : cond ((List.range j).any (p i)) (w ||| 2 ^ i) w < 2 ^ 32 := by
        cases (List.range j).any (p i)
        · exact hw
        · exact Nat.or_lt_two_pow hw (two_pow_32 (by omega))
      have h2 : ∀ b : Bool, cond b (w ||| 2 ^ i) w ||| 2 ^ i = w ||| 2 ^ i := fun b => by
        cases b
        · rfl
        · rw [cond_true, Nat.or_assoc, Nat.or_self]
      unfold ref_DownsDown_l1
      simp (disch := first | assumption | omega) only [cond_true, cond_false, Option.bind_some, dcT, dcF, wrapS, ref_Bit_eq hs (show j < 2 ^ 64 by omega), ref_Below_eq hf (show i < ws.length by omega) (show j < 2 ^ 64 by omega), wrap_u64 (show i < 2 ^ 64 by omega), shl_u32 (show i < 32 by omega), or_u32 h1 (two_pow_32 (show i < 32 by omega)), any_succ, h2]
      show _ = some (Sum.inl (((cond ((List.range j).any (p i) || (set.testBit j && below ws i j)) (w ||| 2 ^ i) w : Nat) : Int), _))
      cases set.testBit j
      · simp
      · cases below ws i j <;> simp
    · unfold ref_DownsDown_l1
      simp (disch := first | assumption | omega) only [cond_false, dcF, wrapS]
  have key := loopM_sim (f := ref_DownsDown_l2 (((n : Int), cl ws, ()), (set : Int), ())) n (fun k => (((wordOf k fun i => (List.range n).any (p i) : Nat) : Int), (k : Int), ())) (.inl (((wordOf n fun i => (List.range n).any (p i) : Nat) : Int), ())) (fun i hi => by
    unfold ref_DownsDown_l2
    simp (disch := first | assumption | omega) only [cond_true, Option.bind_some, Sum.elim_inl, dcT, wrapS, l1 i _ _ hi (wordOf_lt32 (n := i) (fun i => (List.range n).any (p i)) (show i ≤ 32 by omega)), wordOf_step]) (by
    unfold ref_DownsDown_l2
    simp (disch := first | assumption | omega) only [cond_false, dcF, wrapS]) (s0 := (0, 0, ())) rfl
  have e : (wordOf n fun i => (List.range n).any (p i)) = unW n (downW n ws) set n := wordOf_congr fun i hi => by
    rw [Bool.eq_iff_iff, any_range, any_range]
    constructor
    · rintro ⟨j, hj, h⟩
      exact ⟨j, hj, by rw [below_down hj hi]; exact h⟩
    · rintro ⟨j, hj, h⟩
      rw [below_down hj hi] at h
      exact ⟨j, hj, h⟩
  unfold ref_DownsDown
  rw [key, e]; rfl
end

section
open Go Go.Abs


/-! ### Lists compared -/
theorem ref_TimesSame_same (a : List Int) (h : a.length ≤ 1000000) : ref_TimesSame (a, a, ()) = some (true, ()) := by
  unfold ref_TimesSame
  have key := loopM_for (f := ref_TimesSame_l1 (a, a, ())) a.length (fun _ => none) (Sum.inr (Sum.inl ())) (fun i hi => ?_) ?_
  · have hn : ((List.range a.length).findSome? fun _ => (none : Option ((Bool × Unit) ⊕ Unit ⊕ Empty))) = none := by simp
    rw [hn] at key
    simp only [cond_bne, if_true]
    rw [key]; rfl
  · have hi' : ((i : Int) < (a.length : Int)) := by omega
    unfold ref_TimesSame_l1
    simp only [hi', decide_true, cond_true, getI_nat, List.getElem?_eq_getElem hi, Option.bind_some, cond_bne, if_true]
    rw [wrap64 (by omega) (by omega)]
    rfl
  · simp [ref_TimesSame_l1]
end

section
open Go Go.Abs


theorem ref_Words_same {l : List Int} (h : l.length ≤ 1000000) : ref_Words (l, l, ()) = some (true, ()) := by
  unfold ref_Words
  rw [cond_bne, if_pos rfl, loopM_any0 l.length () (fun _ => false) (.inl (false, ())) (.inr (.inl ())) (fun i hi => ?_) ?_]
  · simp
  · unfold ref_Words_l1
    simp
  · unfold ref_Words_l1
    have e0 : decide ((i : Int) < (l.length : Int)) = true := decide_eq_true (by omega)
    simp only [e0, cond_true, getI_nat, List.getElem?_eq_getElem hi, Option.bind_some, cond_bne, if_true]
    rw [wrap64 (by omega) (by omega)]
    rfl

theorem ref_Orders_same {N : Int} {l : List Int} (h : l.length ≤ 1000000) : ref_Orders ((N, l, ()), (N, l, ()), ()) = some (true, ()) := by
  unfold ref_Orders
  simp only [cond_beq, if_true, ref_Words_same h, Option.bind_some]
end

end Go.Proofs.Tryd
