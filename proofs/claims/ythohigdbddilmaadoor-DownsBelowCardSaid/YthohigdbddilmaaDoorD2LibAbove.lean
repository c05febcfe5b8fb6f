/- Lemmas on functions of the program, by name: above. -/
import Derived.Test.YthohigdbddilmaaDoorD2Funs
import Derived.Test.YthohigdbddilmaaDoorAbsSums
import Derived.Test.YthohigdbddilmaaDoorD2LibUnder
namespace Go.Proofs.Tryd
open Go Go.Abs


/-- Is a covered by b? -/
def covered (n : Nat) (ws : List Nat) (a b : Nat) : Bool := under ws a b && !(List.range n).any fun x => under ws a x && under ws x b
def coversAt (n : Nat) (ws : List Nat) (a : Nat) : List (Int × Int × Unit) := ((List.range n).filter (covered n ws a)).map fun b : Nat => ((a : Int), (b : Int), ())
def coversTo (n : Nat) (ws : List Nat) : Nat → List (Int × Int × Unit)
  | 0 => []
  | k + 1 => coversTo n ws k ++ coversAt n ws k
theorem coversAt_len (n : Nat) (ws : List Nat) (a : Nat) : (coversAt n ws a).length ≤ n := by
  unfold coversAt; rw [List.length_map]; exact Nat.le_trans (List.length_filter_le _ _) (by simp)
theorem coversTo_len (n : Nat) (ws : List Nat) : ∀ k, (coversTo n ws k).length ≤ k * n
  | 0 => by simp [coversTo]
  | k + 1 => by
    have h1 := coversTo_len n ws k
    have h2 := coversAt_len n ws k
    rw [coversTo, List.length_append, Nat.succ_mul]; omega

/-- What covers an element, as a word. -/
def aboveW (ws : List Nat) (i : Nat) : Nat := (bitsL (dif (ws.getD i 0) (2 ^ i))).foldl (fun a r => dif a (dif (ws.getD r 0) (2 ^ r))) (dif (ws.getD i 0) (2 ^ i))

theorem getD_of {ws : List Nat} {i : Nat} (h : i < ws.length) : ws.getD i 0 = ws[i] := by
  rw [List.getD_eq_getElem?_getD, List.getElem?_eq_getElem h]; rfl

theorem order_Above_eq {N : Int} {n : Nat} {ws : List Nat} (hf : Fit ws) (hl : ws.length = n) (hn : n ≤ 16) (hin : Inside n ws) {i : Nat} (hi : i < n) :
    order_Above ((N, cl ws, ()), (i : Int), ()) = some (((aboveW ws i : Nat) : Int), ()) ∧ aboveW ws i < 2 ^ 32 := by
  have hi' : i < ws.length := by omega
  have e : ws[i]? = some ws[i] := List.getElem?_eq_getElem hi'
  have hfr := hf _ (List.getElem_mem hi')
  have hp : 2 ^ i < 2 ^ 32 := Nat.pow_lt_pow_right (by decide) (by omega)
  have hd : dif ws[i] (2 ^ i) < 2 ^ 64 := Nat.lt_of_lt_of_le (dif_lt hfr) (by decide)
  have hbit : ∀ r, (dif ws[i] (2 ^ i)).testBit r = true → r < n := fun r hb => by
    rw [dif_bit] at hb
    exact below_lt hin hi' (by rw [below_eq e]; exact (Bool.and_eq_true_iff.1 hb).1)
  have hsim := eachM_sim (e := fun s => (.inl (s.1, ()) : ((Int × Unit) × Unit) ⊕ Empty)) (g := fun r (s : (Int × Unit) × Unit) => some (.inl ((bitsI .andNot .u32 s.1.1 ((dif (ws.getD r 0) (2 ^ r) : Nat) : Int), ()), ()) : ((Int × Unit) × Unit) ⊕ (((Int × Unit) × Unit) ⊕ Empty)))
    (fun a : Nat => (((a : Int), ()), ())) (fun a r => dif a (dif (ws.getD r 0) (2 ^ r))) (fun a => a < 2 ^ 32) (bitsL (dif ws[i] (2 ^ i))) (dif ws[i] (2 ^ i)) (dif_lt hfr) (fun r hr a ha => by
      have hr := hbit r ((mem_bitsL hd).1 hr)
      have hr' : r < ws.length := by omega
      refine ⟨?_, dif_lt ha⟩
      dsimp only
      rw [getD_of hr', not_u32 ha (dif_lt (hf _ (List.getElem_mem hr')))])
  have hloop := loopM_each (f := order_Above_l1 ((N, cl ws, ()), (i : Int), ())) hd (fun r q s h hb => ?_) (fun s => ?_) _ _ hsim.1
  · constructor
    · unfold order_Above
      simp only [cl_getI, e, Option.map_some, Option.bind_some]
      rw [sets_One_eq (by omega)]
      simp only [Option.bind_some]
      rw [not_u32 hfr hp, wrap_u64 hd, hloop]
      simp only [Option.bind_some, Sum.elim_inl]
      unfold aboveW
      rw [getD_of hi']
    · unfold aboveW
      rw [getD_of hi']
      exact hsim.2
  · have hr := hbit r hb
    have hr' : r < ws.length := by omega
    have e2 : ws[r]? = some ws[r] := List.getElem?_eq_getElem hr'
    unfold order_Above_l1
    simp only [nz_eq, cond_true, tz_eq h, Option.bind_some, cl_getI, e2, Option.map_some, clr_eq h]
    rw [sets_One_eq (by omega)]
    simp only [Option.bind_some]
    rw [not_u32 (hf _ (List.getElem_mem hr')) (Nat.pow_lt_pow_right (by decide) (by omega)), getD_of hr']
  · unfold order_Above_l1
    rfl

theorem aboveW_bit {n : Nat} {ws : List Nat} (hf : Fit ws) (hl : ws.length = n) (hin : Inside n ws) {i : Nat} (hi : i < n) (b : Nat) : (aboveW ws i).testBit b = covered n ws i b := by
  have hi' : i < ws.length := by omega
  have e : ws[i]? = some ws[i] := List.getElem?_eq_getElem hi'
  have hfr := hf _ (List.getElem_mem hi')
  have hd : dif ws[i] (2 ^ i) < 2 ^ 64 := Nat.lt_of_lt_of_le (dif_lt hfr) (by decide)
  have hu : ∀ x, (dif ws[i] (2 ^ i)).testBit x = under ws i x := fun x => by
    unfold under
    rw [dif_bit, Nat.testBit_two_pow, below_eq e, Bool.and_comm]
    by_cases h : i = x <;> simp [h]
  unfold aboveW covered
  rw [getD_of hi', foldl_dif_bit, hu]
  congr 1
  rw [Bool.eq_iff_iff, List.all_eq_true, Bool.not_eq_true', ← Bool.not_eq_true, List.any_eq_true]
  constructor
  · rintro h ⟨x, hx, hb⟩
    obtain ⟨h1, h2⟩ := Bool.and_eq_true_iff.1 hb
    have := h x ((mem_bitsL hd).2 (by rw [hu]; exact h1))
    have hx := List.mem_range.1 hx
    unfold under at h2
    obtain ⟨h3, h4⟩ := Bool.and_eq_true_iff.1 h2
    rw [dif_bit, Nat.testBit_two_pow] at this
    have h5 : (ws.getD x 0).testBit b = true := h4
    rw [h5, decide_eq_false (of_decide_eq_true h3)] at this
    cases this
  · intro h x hx
    have hux := (mem_bitsL hd).1 hx
    rw [hu] at hux
    have hxn : x < n := below_lt hin hi' (Bool.and_eq_true_iff.1 hux).2
    cases hb : (dif (ws.getD x 0) (2 ^ x)).testBit b
    · rfl
    · refine absurd ⟨x, List.mem_range.2 hxn, ?_⟩ h
      rw [dif_bit, Nat.testBit_two_pow] at hb
      obtain ⟨h1, h2⟩ := Bool.and_eq_true_iff.1 hb
      rw [hux]
      unfold under below
      rw [h1]
      have : x ≠ b := by intro e; subst e; simp at h2
      simp [this]

theorem ref_Covered_eq {n : Nat} {ws : List Nat} (hf : Fit ws) (hl : ws.length = n) (hn : n ≤ 16) {a b : Nat} (ha : a < n) (hb : b < n) : ref_Covered (((n : Int), cl ws, ()), (a : Int), (b : Int), ()) = some (covered n ws a b, ()) := by
  unfold ref_Covered covered
  rw [ref_Under_eq hf (by omega) (by omega)]
  simp only [Option.bind_some]
  rw [loopM_any0 n () (fun x => under ws a x && under ws x b) (.inl (false, ())) (.inr (.inl ())) (fun x hx => ?_) ?_]
  · cases under ws a b <;> cases (List.range n).any (fun x => under ws a x && under ws x b) <;> rfl
  · unfold ref_Covered_l1
    have e0 : decide ((n : Int) < (n : Int)) = false := decide_eq_false (by omega)
    simp only [e0, cond_false]
  · unfold ref_Covered_l1
    have e0 : decide ((x : Int) < (n : Int)) = true := decide_eq_true (by omega)
    simp only [e0, cond_true]
    rw [ref_Under_eq hf (by omega) (by omega), ref_Under_eq hf (by omega) (by omega), wrap64 (by omega) (by omega)]
    cases under ws a x <;> cases under ws x b <;> rfl

end Go.Proofs.Tryd
