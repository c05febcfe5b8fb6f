/- Lemmas on functions of the program, by name: graph7. -/
import Derived.Test.YtammjpalmmhokaaDoorD3Funs
import Derived.Test.YtammjpalmmhokaaDoorAbsSums
import Derived.Test.YtammjpalmmhokaaDoorD3LibGraph6
namespace Go.Proofs.Tryd
open Go Go.Abs


/-! The document's check. -/
def edM (N : List Node) (E : List Edge) (f k : Nat) (a b : Nat) : Bool := insB N f a && insB N f b && (List.range k).any fun j => frE E j == (a : Int) && toE E j == (b : Int)
def sqT (n : Nat) (w : Nat → Nat → Bool) : List Bool := tab (n * n) fun y => w (y / n) (y % n)
theorem sq_div {n i j : Nat} (hj : j < n) : (i * n + j) / n = i := by rw [Nat.mul_comm, Nat.mul_add_div (by omega), Nat.div_eq_of_lt hj]; rfl
theorem sq_mod {n i j : Nat} (hj : j < n) : (i * n + j) % n = j := by rw [Nat.mul_comm, Nat.mul_add_mod, Nat.mod_eq_of_lt hj]
theorem sqT_get {n i j : Nat} {w : Nat → Nat → Bool} (hi : i < n) (hj : j < n) : (sqT n w)[i * n + j]? = some (w i j) := by
  unfold sqT
  rw [tab_get _ (sq_lt hi hj), sq_div hj, sq_mod hj]
theorem sqT_len {n : Nat} {w : Nat → Nat → Bool} : (sqT n w).length = n * n := tab_length _ _
theorem sq_room {n : Nat} (hn : n ≤ 12) : IntKind.i64.wrap ((n : Int) * (n : Int)) = ((n * n : Nat) : Int) := by
  have h : n * n ≤ 12 * 12 := Nat.mul_le_mul hn hn
  rw [← Int.natCast_mul, wrap64 (by omega) (by omega)]
theorem room1 {n : Nat} (h : n ≤ 1000000) : roomOk n 1 = true := by
  unfold roomOk
  rw [Bool.and_eq_true]
  exact ⟨Nat.ble_eq_true_of_le (by omega), Nat.ble_eq_true_of_le (by omega)⟩

section
variable {N : List Node} {E : List Edge}

theorem comes_l1 (hn : N.length ≤ 12) (f : Nat) : loopM (ref_comes_l1 ((N, E, ()), (f : Int), ())) ((0 : Int), List.replicate N.length false, ()) = some (.inl (tab N.length (insB N f), ())) := by
  have h0 : List.replicate N.length false = tab N.length fun j => if j < 0 then insB N f j else false := by rw [rep_tab]; exact tab_congr fun j _ => by simp
  rw [h0]
  have hend : (tab N.length fun j => if j < N.length then insB N f j else false) = tab N.length (insB N f) := tab_congr fun j hj => by rw [if_pos hj]
  rw [← hend]
  refine loopM_sim N.length (fun i => ((i : Int), (tab N.length fun j => if j < i then insB N f j else false), ())) _ (fun i hi => ?_) ?_ rfl
  · unfold ref_comes_l1
    have hset : ∀ b : Bool, b = insB N f i → (tab N.length fun j => if j < i then insB N f j else false).set i b = tab N.length fun j => if j < i + 1 then insB N f j else false := fun b hb => by
      rw [tab_set]
      refine tab_congr fun j _ => ?_
      by_cases hj : j = i
      · subst hj; rw [if_pos rfl, if_pos (by omega), hb]
      · rw [if_neg hj]
        by_cases h : j < i
        · rw [if_pos h, if_pos (by omega)]
        · rw [if_neg h, if_neg (by omega)]
    simp only [dcT (show (i : Int) < (N.length : Int) by omega), cond_true, getI_D v0 (Int.natCast_nonneg i) (show (i : Int) < (N.length : Int) by omega), Int.toNat_natCast, Option.bind_some, length_tab, inB_T hi, tab_get _ hi, wrapS (show i < 9223372036854775807 by omega)]
    show (cond (decide (deepAt N i > (f : Int))) _ (cond (deepAt N i == (f : Int)) _ _)) = _
    have hins : insB N f i = (decide (deepAt N i > (f : Int)) || (deepAt N i == (f : Int) && kindAt N i != 6)) := rfl
    cases h1 : decide (deepAt N i > (f : Int)) with
    | true => rw [h1] at hins; rw [cond_true, hset true hins.symm]
    | false =>
      rw [h1] at hins
      rw [cond_false]
      cases h2 : deepAt N i == (f : Int) with
      | true =>
        rw [h2] at hins
        rw [cond_true]
        show some (Sum.inl (((i + 1 : Nat) : Int), (tab N.length fun j => if j < i then insB N f j else false).set i (kindAt N i != 6), ())) = _
        rw [hset _ (by rw [hins]; rfl)]
      | false => rw [h2] at hins; rw [cond_false, hset false hins.symm]
  · unfold ref_comes_l1
    simp only [dcF (show ¬ (N.length : Int) < (N.length : Int) by omega), cond_false]

theorem comes_l2 (hn : N.length ≤ 12) (hE : E.length ≤ 20) (hok : ∀ j, j < E.length → edgeC N E j = 0) (f : Nat) :
    loopM (ref_comes_l2 ((N, E, ()), (f : Int), ()) (tab N.length (insB N f), ())) ((0 : Int), List.replicate (N.length * N.length) false, ()) = some (.inl (sqT N.length (edM N E f E.length), ())) := by
  have h0 : List.replicate (N.length * N.length) false = sqT N.length (edM N E f 0) := by
    rw [rep_tab]; exact tab_congr fun j _ => by simp [edM]
  rw [h0]
  refine loopM_sim E.length (fun i => ((i : Int), sqT N.length (edM N E f i), ())) _ (fun i hi => ?_) ?_ rfl
  · have hv := edge_ok (hok i hi)
    obtain ⟨a, ha⟩ := Int.eq_ofNat_of_zero_le hv.1
    obtain ⟨b, hb⟩ := Int.eq_ofNat_of_zero_le hv.2.2.1
    have han : a < N.length := by have := hv.2.1; omega
    have hbn : b < N.length := by have := hv.2.2.2.1; omega
    have ha' : (E.getD i e0).1 = (a : Int) := ha
    have hb' : (E.getD i e0).2.1 = (b : Int) := hb
    have hsame : (insB N f a && insB N f b) = false → sqT N.length (edM N E f i) = sqT N.length (edM N E f (i + 1)) := fun h => tab_congr fun y _ => by
      unfold edM
      rw [List.range_succ, List.any_append, List.any_cons, List.any_nil, Bool.or_false]
      show _ = (_ && _ && (_ || (frE E i == _ && toE E i == _)))
      rw [ha, hb]
      by_cases hy : ((a : Nat) : Int) = ((y / N.length : Nat) : Int) ∧ ((b : Nat) : Int) = ((y % N.length : Nat) : Int)
      · have h1 : a = y / N.length := Int.ofNat.inj hy.1
        have h2 : b = y % N.length := Int.ofNat.inj hy.2
        rw [← h1, ← h2, h]; simp
      · have : ((((a : Nat) : Int) == ((y / N.length : Nat) : Int)) && (((b : Nat) : Int) == ((y % N.length : Nat) : Int))) = false := by
          cases hq : ((((a : Nat) : Int) == ((y / N.length : Nat) : Int)) && (((b : Nat) : Int) == ((y % N.length : Nat) : Int))) with
          | false => rfl
          | true => simp only [Bool.and_eq_true, beq_iff_eq] at hq; exact absurd hq hy
        rw [this, Bool.or_false]
    have hset : (insB N f a && insB N f b) = true → (sqT N.length (edM N E f i)).set (a * N.length + b) true = sqT N.length (edM N E f (i + 1)) := fun h => by
      unfold sqT
      rw [tab_set]
      refine tab_congr fun y hy => ?_
      unfold edM
      rw [List.range_succ, List.any_append, List.any_cons, List.any_nil, Bool.or_false]
      show _ = (_ && _ && (_ || (frE E i == _ && toE E i == _)))
      rw [ha, hb]
      by_cases hyy : y = a * N.length + b
      · subst hyy
        rw [if_pos rfl, sq_div hbn, sq_mod hbn, h]; simp
      · rw [if_neg hyy]
        have : ((((a : Nat) : Int) == ((y / N.length : Nat) : Int)) && (((b : Nat) : Int) == ((y % N.length : Nat) : Int))) = false := by
          cases hq : ((((a : Nat) : Int) == ((y / N.length : Nat) : Int)) && (((b : Nat) : Int) == ((y % N.length : Nat) : Int))) with
          | false => rfl
          | true =>
            simp only [Bool.and_eq_true, beq_iff_eq] at hq
            exfalso
            have h1 : a = y / N.length := Int.ofNat.inj hq.1
            have h2 : b = y % N.length := Int.ofNat.inj hq.2
            have := Nat.div_add_mod y N.length
            rw [← h1, ← h2, Nat.mul_comm] at this
            exact hyy this.symm
        rw [this, Bool.or_false]
    unfold ref_comes_l2
    simp only [dcT (show (i : Int) < (E.length : Int) by omega), cond_true, getI_D e0 (Int.natCast_nonneg i) (show (i : Int) < (E.length : Int) by omega), Int.toNat_natCast, Option.bind_some, ha', hb', length_tab, inB_T han, inB_T hbn, tab_get _ han, tab_get _ hbn, sq_wrap (show N.length ≤ 64 by omega) han hbn, sqT_len, inB_T (sq_lt han hbn), sqT_get han hbn, wrapS (show i < 9223372036854775807 by omega)]
    cases h1 : insB N f a with
    | false => rw [cond_false, hsame (by rw [h1]; rfl)]
    | true =>
      rw [cond_true]
      cases h2 : insB N f b with
      | false => rw [cond_false, hsame (by rw [h1, h2]; rfl)]
      | true => rw [cond_true, hset (by rw [h1, h2]; rfl)]
  · unfold ref_comes_l2
    simp only [dcF (show ¬ (E.length : Int) < (E.length : Int) by omega), cond_false]

/-- One round of closure, in place. -/
def fwL (w : Nat → Nat → Bool) (n k x : Nat) : List Bool := tab (n * n) (fwAt w n k x)
theorem fwL_len {w : Nat → Nat → Bool} {n k x : Nat} : (fwL w n k x).length = n * n := tab_length _ _
theorem fwL_get {w : Nat → Nat → Bool} {n k x i j : Nat} (hi : i < n) (hj : j < n) : (fwL w n k x)[i * n + j]? = some (fwAt w n k x (i * n + j)) := tab_get _ (sq_lt hi hj)
theorem fwL_zero (w : Nat → Nat → Bool) (n k : Nat) : sqT n w = fwL w n k 0 := tab_congr fun y _ => by simp [fwAt]
theorem fwL_end (w : Nat → Nat → Bool) (n k : Nat) : fwL w n k (n * n) = sqT n (fwR w k) := tab_congr fun y hy => by simp [fwAt, hy]

theorem comes_l3 (hn : N.length ≤ 12) (f : Nat) (w : Nat → Nat → Bool) {k i : Nat} (hk : k < N.length) (hi : i < N.length) (y1 y2 : List Bool × Unit) :
    loopM (ref_comes_l3 ((N, E, ()), (f : Int), ()) ((i : Int), y1) ((k : Int), y2)) ((0 : Int), fwL w N.length k (i * N.length), ()) = some (.inl (fwL w N.length k ((i + 1) * N.length), ())) := by
  have hend : (i + 1) * N.length = i * N.length + N.length := by rw [Nat.add_mul, Nat.one_mul]
  rw [hend]
  refine loopM_sim N.length (fun j => ((j : Int), fwL w N.length k (i * N.length + j), ())) _ (fun j hj => ?_) ?_ rfl
  · have hn64 : N.length ≤ 64 := by omega
    have hset : ∀ b : Bool, b = fwR w k i j → (fwL w N.length k (i * N.length + j)).set (i * N.length + j) b = fwL w N.length k (i * N.length + (j + 1)) := fun b hb => by
      unfold fwL
      rw [tab_set]
      exact tab_congr fun y _ => by rw [fwAt_step hj, hb]
    have hsame : w i j = fwR w k i j → fwL w N.length k (i * N.length + j) = fwL w N.length k (i * N.length + (j + 1)) := fun h => tab_congr fun y _ => by
      rw [fwAt_step hj]
      split
      · rename_i hy; rw [hy, fwAt_here hj, h]
      · rfl
    unfold ref_comes_l3
    simp only [dcT (show (j : Int) < (N.length : Int) by omega), cond_true, sq_wrap hn64 hi hk, sq_wrap hn64 hk hj, sq_wrap hn64 hi hj, fwL_len, inB_T (sq_lt hi hk), inB_T (sq_lt hk hj), inB_T (sq_lt hi hj), Int.toNat_natCast, fwL_get hi hk, fwL_get hk hj, fwL_get hi hj, fwAt_col hk, fwAt_row hj, Option.bind_some, wrapS (show j < 9223372036854775807 by omega)]
    cases h1 : w i k with
    | false => rw [cond_false, hsame (by simp [fwR, h1])]
    | true =>
      rw [cond_true]
      cases h2 : w k j with
      | false => rw [cond_false, hsame (by simp [fwR, h1, h2])]
      | true => rw [cond_true, hset true (by simp [fwR, h1, h2])]
  · unfold ref_comes_l3
    simp only [dcF (show ¬ (N.length : Int) < (N.length : Int) by omega), cond_false]

theorem comes_l4 (hn : N.length ≤ 12) (f : Nat) (w : Nat → Nat → Bool) {k : Nat} (hk : k < N.length) (y : List Bool × Unit) :
    loopM (ref_comes_l4 ((N, E, ()), (f : Int), ()) ((k : Int), y)) ((0 : Int), sqT N.length w, ()) = some (.inl (sqT N.length (fwR w k), ())) := by
  rw [fwL_zero w N.length k, ← fwL_end]
  refine loopM_sim N.length (fun i => ((i : Int), fwL w N.length k (i * N.length), ())) _ (fun i hi => ?_) ?_ (by simp)
  · unfold ref_comes_l4
    simp only [dcT (show (i : Int) < (N.length : Int) by omega), cond_true, comes_l3 hn f w hk hi, Option.bind_some, Sum.elim_inl, wrapS (show i < 9223372036854775807 by omega)]
  · unfold ref_comes_l4
    simp only [dcF (show ¬ (N.length : Int) < (N.length : Int) by omega), cond_false]

theorem ref_comes_eq (hn : N.length ≤ 12) (hE : E.length ≤ 20) (hok : ∀ j, j < E.length → edgeC N E j = 0) (f : Nat) :
    ref_comes ((N, E, ()), (f : Int), ()) = some (sqT N.length (fwN (edM N E f E.length) N.length), ()) := by
  have hnn : N.length * N.length ≤ 12 * 12 := Nat.mul_le_mul hn hn
  unfold ref_comes
  simp only [sq_room hn, Int.toNat_natCast]
  rw [dcT (show (0 : Int) ≤ ((N.length * N.length : Nat) : Int) by omega), dcT (show ((N.length * N.length : Nat) : Int) ≤ ((N.length * N.length : Nat) : Int) by omega), room1 (by omega), dcT (show ((N.length * N.length : Nat) : Int) ≤ 9223372036854775807 by omega),
    dcT (show (0 : Int) ≤ (N.length : Int) by omega), dcT (show (N.length : Int) ≤ (N.length : Int) by omega), room1 (show N.length ≤ 1000000 by omega), dcT (show (N.length : Int) ≤ 9223372036854775807 by omega)]
  simp only [Bool.and_self, cond_true, comes_l1 hn f, Option.bind_some, Sum.elim_inl, comes_l2 hn hE hok f]
  have h5 : loopM (ref_comes_l5 ((N, E, ()), (f : Int), ())) ((0 : Int), sqT N.length (edM N E f E.length), ()) = some (.inl (sqT N.length (fwN (edM N E f E.length) N.length), ())) := by
    refine loopM_sim N.length (fun k => ((k : Int), sqT N.length (fwN (edM N E f E.length) k), ())) _ (fun k hk => ?_) ?_ rfl
    · unfold ref_comes_l5
      simp only [dcT (show (k : Int) < (N.length : Int) by omega), cond_true, comes_l4 hn f _ hk, Option.bind_some, Sum.elim_inl, wrapS (show k < 9223372036854775807 by omega)]
      rfl
    · unfold ref_comes_l5
      simp only [dcF (show ¬ (N.length : Int) < (N.length : Int) by omega), cond_false]
  rw [h5]
  rfl
end

end Go.Proofs.Tryd
