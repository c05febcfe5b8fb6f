/- Lemmas on functions of the program, by name: fixed. -/
import Derived.Test.YthohigdbddilmaaDoorD2Funs
import Derived.Test.YthohigdbddilmaaDoorAbsSums
import Derived.Test.YthohigdbddilmaaDoorD2LibOrder2
import Derived.Test.YthohigdbddilmaaDoorD2LibStep
namespace Go.Proofs.Tryd
open Go Go.Abs


/-- Has a map n numbers, from 0 to below m? -/
def IntoB (n m : Nat) (f : List Int) : Bool := decide (f.length = n) && f.all fun v => decide (0 ≤ v) && decide (v < m)
/-- Is what is below mapped below? -/
def MonoB (n : Nat) (ws : List Nat) (f : List Nat) : Bool := (List.range n).all fun a => (List.range n).all fun b => !below ws a b || below ws (f.getD a 0) (f.getD b 0)

theorem into_nat {n m : Nat} {f : List Int} (h : IntoB n m f = true) : ∃ fs : List Nat, f = cl fs ∧ fs.length = n ∧ ∀ i, i < n → fs.getD i 0 < m := by
  unfold IntoB at h
  rw [Bool.and_eq_true, decide_eq_true_eq, List.all_eq_true] at h
  obtain ⟨fs, rfl⟩ := cl_of (l := f) fun v hv => by
    have := h.2 v hv
    rw [Bool.and_eq_true, decide_eq_true_eq] at this
    exact this.1
  rw [cl_length] at h
  refine ⟨fs, rfl, h.1, fun i hi => ?_⟩
  have hm : ((fs.getD i 0 : Nat) : Int) ∈ cl fs := List.mem_of_getElem? (i := i) (by rw [get_cl (by omega)])
  have := h.2 _ hm
  rw [Bool.and_eq_true, decide_eq_true_eq, decide_eq_true_eq] at this
  omega

theorem any_list {α : Type} [Inhabited α] (l : List α) (p : α → Bool) (d : α) : (List.range l.length).any (fun i => p (l.getD i d)) = l.any p := by
  rw [Bool.eq_iff_iff, List.any_eq_true, List.any_eq_true]
  constructor
  · rintro ⟨i, hi, h⟩
    have := getD_get (d := d) (List.mem_range.1 hi)
    exact ⟨_, List.mem_of_getElem? this, h⟩
  · rintro ⟨x, hx, h⟩
    obtain ⟨i, hi, rfl⟩ := List.getElem_of_mem hx
    refine ⟨i, List.mem_range.2 hi, ?_⟩
    rw [List.getD_eq_getElem?_getD, List.getElem?_eq_getElem hi]
    exact h

theorem bad_all (m : Nat) (f : List Int) : (f.any fun v => decide (v < 0) || decide (v ≥ (m : Int))) = !(f.all fun v => decide (0 ≤ v) && decide (v < m)) := by
  induction f with
  | nil => rfl
  | cons v f ih =>
    rw [List.any_cons, List.all_cons, ih, Bool.not_and, Bool.not_and]
    have e1 : decide (v < 0) = !decide (0 ≤ v) := by
      by_cases h : 0 ≤ v
      · rw [decide_eq_true h, decide_eq_false (by omega)]; rfl
      · rw [decide_eq_false h, decide_eq_true (by omega)]; rfl
    have e2 : decide (v ≥ (m : Int)) = !decide (v < (m : Int)) := by
      by_cases h : v < (m : Int)
      · rw [decide_eq_true h, decide_eq_false (by omega)]; rfl
      · rw [decide_eq_false h, decide_eq_true (by omega)]; rfl
    rw [e1, e2]

theorem fixed_Map_into_eq {n m : Nat} {f : List Int} (hf : f.length ≤ 9223372036854775807) : fixed_Map_into (f, (n : Int), (m : Int), ()) = some (IntoB n m f, ()) := by
  have key := loopM_any0 (f := fixed_Map_into_l1 (f, (n : Int), (m : Int), ())) f.length () (fun i => decide (f.getD i 0 < 0) || decide (f.getD i 0 ≥ (m : Int))) (.inl (false, ())) (.inr (.inl ())) (fun i hi => by
    unfold fixed_Map_into_l1
    simp (disch := first | assumption | omega) only [cond_true, Option.bind_some, dcT, wrapS, getI_int]
    by_cases h1 : f.getD i 0 < 0
    · simp (disch := first | assumption | omega) only [decide_true, cond_true, cond_false, dcF, if_true, h1, Bool.true_or]
    · by_cases h2 : f.getD i 0 ≥ (m : Int)
      · simp (disch := first | assumption | omega) only [decide_true, decide_false, cond_true, cond_false, if_true, h1, h2, Bool.or_true]
      · simp (disch := first | assumption | omega) only [decide_false, cond_false, Bool.false_eq_true, if_false, h1, h2, Bool.or_false]) (by
    unfold fixed_Map_into_l1
    simp (disch := first | assumption | omega) only [cond_false, dcF])
  rw [any_list f (fun v => decide (v < 0) || decide (v ≥ (m : Int))) 0, bad_all] at key
  unfold fixed_Map_into IntoB
  rw [key]
  cases f.all fun v => decide (0 ≤ v) && decide (v < (m : Int))
  · simp
  · by_cases h : f.length = n
    · simp [h]
    · have : ¬ (f.length : Int) = (n : Int) := by omega
      simp [h, this]

theorem ref_MapInto_eq {n m : Nat} {f : List Int} (hf : f.length ≤ 9223372036854775807) : ref_MapInto (f, (n : Int), (m : Int), ()) = some (IntoB n m f, ()) := by
  have key := loopM_any0 (f := ref_MapInto_l1 (f, (n : Int), (m : Int), ())) f.length () (fun i => decide (f.getD i 0 < 0) || decide (f.getD i 0 ≥ (m : Int))) (.inl (false, ())) (.inr (.inl ())) (fun i hi => by
    unfold ref_MapInto_l1
    simp (disch := first | assumption | omega) only [cond_true, Option.bind_some, dcT, wrapS, getI_int]
    by_cases h1 : f.getD i 0 < 0
    · simp (disch := first | assumption | omega) only [decide_true, cond_true, cond_false, dcF, if_true, h1, Bool.true_or]
    · by_cases h2 : f.getD i 0 ≥ (m : Int)
      · simp (disch := first | assumption | omega) only [decide_true, decide_false, cond_true, cond_false, if_true, h1, h2, Bool.or_true]
      · simp (disch := first | assumption | omega) only [decide_false, cond_false, Bool.false_eq_true, if_false, h1, h2, Bool.or_false]) (by
    unfold ref_MapInto_l1
    simp (disch := first | assumption | omega) only [cond_false, dcF])
  rw [any_list f (fun v => decide (v < 0) || decide (v ≥ (m : Int))) 0, bad_all] at key
  unfold ref_MapInto IntoB
  rw [key]
  by_cases h : f.length = n
  · rw [bneF (show (f.length : Int) = (n : Int) by omega), decide_eq_true h]
    cases f.all fun v => decide (0 ≤ v) && decide (v < (m : Int)) <;> rfl
  · rw [bneT (show ¬ (f.length : Int) = (n : Int) by omega), decide_eq_false h]; rfl

/-- What both checks answer of an order that may be. -/
def monoc (n : Nat) (ws : List Nat) (f : List Int) : Int := cond (IntoB n n f) (cond (MonoB n ws (f.map Int.toNat)) 0 3) 2

theorem map_cl (fs : List Nat) : (cl fs).map Int.toNat = fs := by
  unfold cl; rw [List.map_map]
  exact List.map_id'' (fun n => rfl) fs

theorem mono_any (n : Nat) (ws fs : List Nat) : ((List.range n).any fun a => (List.range n).any fun b => below ws a b && !below ws (fs.getD a 0) (fs.getD b 0)) = !MonoB n ws fs := by
  unfold MonoB
  rw [List.not_all_eq_any_not]
  refine congrArg (fun p => (List.range n).any p) (funext fun a => ?_)
  rw [List.not_all_eq_any_not]
  refine congrArg (fun p => (List.range n).any p) (funext fun b => ?_)
  cases below ws a b <;> cases below ws (fs.getD a 0) (fs.getD b 0) <;> rfl

theorem fixed_monotone_eq {n : Nat} {ws : List Nat} (hf : Fit ws) (hl : ws.length = n) (hn : n ≤ 16) (hin : Inside n ws) {f : List Int} (hlen : f.length ≤ 9223372036854775807) :
    fixed_monotone (((n : Int), cl ws, ()), f, ()) = some (monoc n ws f, ()) := by
  unfold fixed_monotone monoc
  simp (disch := first | assumption | omega) only [Option.bind_some, fixed_Map_into_eq hlen]
  cases hi : IntoB n n f
  · rfl
  · obtain ⟨fs, rfl, h1, h2⟩ := into_nat hi
    rw [map_cl]
    have l1 : ∀ (a : Nat) (y : (Int × Unit) × Unit) (s : (Int × Unit) × Unit), a < n → loopM (fixed_monotone_l1 (((n : Int), cl ws, ()), cl fs, ()) ((a : Int), y)) (((ws.getD a 0 : Nat) : Int), s) =
        some (if (List.range n).any (fun b => below ws a b && !below ws (fs.getD a 0) (fs.getD b 0)) = true then .inl ((3, ()), ()) else .inr (.inl (s.1, ()))) := fun a y s ha => by
      refine loopM_bitsAny (f := fixed_monotone_l1 (((n : Int), cl ws, ()), cl fs, ()) ((a : Int), y)) n s (fun b => !below ws (fs.getD a 0) (fs.getD b 0)) (.inl ((3, ()), ())) (.inr (.inl (s.1, ()))) (Nat.lt_pow_two_of_testBit _ fun j hj => by
        cases h : (ws.getD a 0).testBit j
        · rfl
        · have := insideD hin h; omega) (by omega) (fun r q h3 h4 h5 => ?_) rfl
      have := h2 a ha
      have := h2 r h5
      unfold fixed_monotone_l1
      simp (disch := first | assumption | omega) only [cond_true, Option.bind_some, getI_cl, nz_eq, tz_eq h3, clr_eq h3, has_D hf]
      cases below ws (fs.getD a 0) (fs.getD r 0) <;> rfl
    have l2 : loopM (fixed_monotone_l2 (((n : Int), cl ws, ()), cl fs, ())) (0, ((0, ()), ())) = some (if (List.range n).any (fun a => (List.range n).any fun b => below ws a b && !below ws (fs.getD a 0) (fs.getD b 0)) = true then .inl ((3, ()), ()) else .inr (.inl ((0, ()), ()))) := by
      refine loopM_any0 n _ _ _ _ (fun a ha => ?_) ?_
      · unfold fixed_monotone_l2
        simp (disch := first | assumption | omega) only [cond_true, Option.bind_some, dcT, getI_cl, wrapS, length_cl, wrap_u64 (fitD64 hf a), l1 a _ _ ha]
        cases (List.range n).any (fun b => below ws a b && !below ws (fs.getD a 0) (fs.getD b 0)) <;> rfl
      · unfold fixed_monotone_l2
        simp (disch := first | assumption | omega) only [cond_false, dcF, wrapS, length_cl]
    rw [mono_any] at l2
    simp (disch := first | assumption | omega) only [cond_true, cond_false, Option.bind_some, Bool.not_true, l2]
    cases MonoB n ws fs <;> rfl

theorem ref_FixedCheck_eq {n : Nat} {ws : List Nat} (hf : Fit ws) (hl : ws.length = n) (hn : n ≤ 16) {f : List Int} (hlen : f.length ≤ 9223372036854775807) :
    ref_FixedCheck (((n : Int), cl ws, ()), f, ()) = some (monoc n ws f, ()) := by
  unfold ref_FixedCheck monoc
  simp (disch := first | assumption | omega) only [Option.bind_some, ref_MapInto_eq hlen]
  cases hi : IntoB n n f
  · rfl
  · obtain ⟨fs, rfl, h1, h2⟩ := into_nat hi
    rw [map_cl]
    have l1 : ∀ (a : Nat), a < n → loopM (ref_FixedCheck_l1 (((n : Int), cl ws, ()), cl fs, ()) ((a : Int), ())) (0, ()) =
        some (if (List.range n).any (fun b => below ws a b && !below ws (fs.getD a 0) (fs.getD b 0)) = true then .inl (3, ()) else .inr (.inl ())) := fun a ha => by
      refine loopM_any0 n _ _ _ _ (fun b hb => ?_) ?_
      · have := h2 a ha
        have := h2 b hb
        unfold ref_FixedCheck_l1
        simp (disch := first | assumption | omega) only [cond_true, Option.bind_some, dcT, getI_cl, wrapS, ref_Below_eq hf (show a < ws.length by omega) (show b < 2 ^ 64 by omega), ref_Below_eq hf (show fs.getD a 0 < ws.length by omega) (show fs.getD b 0 < 2 ^ 64 by omega)]
        cases below ws a b <;> cases below ws (fs.getD a 0) (fs.getD b 0) <;> rfl
      · unfold ref_FixedCheck_l1
        simp (disch := first | assumption | omega) only [cond_false, Option.bind_some, dcF, getI_cl, wrapS]
    have l2 : loopM (ref_FixedCheck_l2 (((n : Int), cl ws, ()), cl fs, ())) (0, ()) = some (if (List.range n).any (fun a => (List.range n).any fun b => below ws a b && !below ws (fs.getD a 0) (fs.getD b 0)) = true then .inl (3, ()) else .inr (.inl ())) := by
      refine loopM_any0 n _ _ _ _ (fun a ha => ?_) ?_
      · unfold ref_FixedCheck_l2
        simp (disch := first | assumption | omega) only [cond_true, Option.bind_some, dcT, wrapS, l1 a ha]
        cases (List.range n).any (fun b => below ws a b && !below ws (fs.getD a 0) (fs.getD b 0)) <;> rfl
      · unfold ref_FixedCheck_l2
        simp (disch := first | assumption | omega) only [cond_false, dcF, wrapS]
    rw [mono_any] at l2
    simp (disch := first | assumption | omega) only [cond_true, cond_false, Option.bind_some, Bool.not_true, l2]
    cases MonoB n ws fs <;> rfl

/-- What the program's check answers. -/
noncomputable def fixc (N : Int) (ws : List Nat) (f : List Int) : Int := if ordc N ws = 0 then monoc N.toNat ws f else ordc N ws
theorem fixc_zero {N : Int} {ws : List Nat} {f : List Int} (h : fixc N ws f = 0) : ordc N ws = 0 ∧ IntoB N.toNat N.toNat f = true ∧ MonoB N.toNat ws (f.map Int.toNat) = true := by
  unfold fixc at h
  by_cases h0 : ordc N ws = 0
  · rw [if_pos h0] at h
    unfold monoc at h
    cases h1 : IntoB N.toNat N.toNat f
    · rw [h1] at h; cases h
    · cases h2 : MonoB N.toNat ws (f.map Int.toNat)
      · rw [h1, h2] at h; cases h
      · exact ⟨h0, rfl, rfl⟩
  · rw [if_neg h0] at h; exact absurd h h0

end Go.Proofs.Tryd
