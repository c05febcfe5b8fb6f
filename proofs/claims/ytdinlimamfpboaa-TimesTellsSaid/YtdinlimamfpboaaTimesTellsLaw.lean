/- The plain law: for any two lists of whole numbers, what the functions of 'watershedlaw.TimesTells' compute is true. -/
import Derived.Test.YtdinlimamfpboaaTimesTellsFuns
namespace Go.Proofs.Try
open Go Go.Abs

/-- The check of a time. -/
def chkG (l : List Int) (i : Nat) : Option ((Int × Unit) ⊕ Unit ⊕ Empty) := match l[i]? with
  | some v => if v < 0 ∨ v > 1048576 then some (.inl (2, ())) else none
  | none => none
def chk (l : List Int) : Int := if l.length = 0 ∨ l.length > 4 then 1 else match ((List.range l.length).findSome? (chkG l)).getD (.inr (.inl ())) with
  | .inl z => z.1
  | .inr _ => 0

theorem chk_pos {l : List Int} (h : chk l = 0) : 0 < l.length ∧ l.length ≤ 4 := by
  unfold chk at h
  split at h
  · cases h
  · omega

theorem chk_loop (l : List Int) (hl : l.length ≤ 4) : loopM (σ := (Int × Unit)) (β := ((Int × Unit) ⊕ (Unit) ⊕ Empty)) (fun y3 => (cond (decide (y3.1 < (l.length : Int))) ((getI l y3.1).bind fun v4 => (cond (decide (v4 < (0 : Int))) (some (Sum.inr (Sum.inl ((2 : Int), ())))) (cond (decide (v4 > (1048576 : Int))) (some (Sum.inr (Sum.inl ((2 : Int), ())))) (some (Sum.inl ((IntKind.i64.wrap (y3.1 + (1 : Int))), ())))))) (some (Sum.inr (Sum.inr (Sum.inl ())))))) ((0 : Int), ()) = some (((List.range l.length).findSome? (chkG l)).getD (.inr (.inl ()))) := by
  refine loopM_for l.length (chkG l) (.inr (.inl ())) (fun i hi => ?_) ?_
  · have hi' : ((i : Int) < (l.length : Int)) := by omega
    simp only [hi', decide_true, cond_true, getI_nat, chkG, List.getElem?_eq_getElem hi, Option.bind_some]
    rw [wrap64 (by omega) (by omega)]
    by_cases h1 : l[i] < 0
    · simp [h1]
    · by_cases h2 : l[i] > 1048576
      · simp [h1, h2]
      · simp [h1, h2]
  · simp

theorem sh32_eq (l : List Int) : sh32 (l, ()) = some (chk l, ()) := by
  unfold sh32 chk
  by_cases h0 : l.length = 0
  · simp [h0]
  · by_cases h4 : l.length > 4
    · have : ((l.length : Int) > 4) := by omega
      simp [h0, h4, this]
    · have h5 : ¬ ((l.length : Int) > 4) := by omega
      have h6 : ((l.length : Int) == 0) = false := by simp; exact fun h => h0 (by simp [h])
      simp only [h6, cond_false, h5, decide_false]
      rw [chk_loop l (by omega)]
      rw [if_neg (by omega)]
      cases ((List.range l.length).findSome? (chkG l)).getD (.inr (.inl ())) with
      | inl z => rfl
      | inr z => cases z with
        | inl z => rfl
        | inr z => exact z.elim

theorem sh33_eq (l : List Int) : sh33 (l, ()) = some (chk l, ()) := by
  unfold sh33 chk
  by_cases h0 : l.length = 0
  · simp [h0]
  · have h6 : ¬ ((l.length : Int) < 1) := by omega
    by_cases h4 : l.length > 4
    · have : ((l.length : Int) > 4) := by omega
      simp [h4, this, h6]
    · have h5 : ¬ ((l.length : Int) > 4) := by omega
      simp only [h6, cond_false, h5, decide_false]
      rw [chk_loop l (by omega)]
      rw [if_neg (by omega)]
      cases ((List.range l.length).findSome? (chkG l)).getD (.inr (.inl ())) with
      | inl z => rfl
      | inr z => cases z with
        | inl z => rfl
        | inr z => exact z.elim

/-- The error of a pair. -/
def err (a b : List Int) : Int := if chk a ≠ 0 then chk a else if chk b ≠ 0 then chk b else if a.length ≠ b.length then 3 else 0

theorem sh31_eq (a b : List Int) : sh31 (a, b, ()) = some (err a b, ()) := by
  unfold sh31 err
  simp only [sh33_eq, Option.bind_some, cond_bne]
  by_cases h1 : chk a = 0
  · by_cases h2 : chk b = 0
    · by_cases h3 : a.length = b.length
      · simp [h1, h2, h3]
      · have h3' : ¬ ((a.length : Int) = b.length) := by omega
        simp [h1, h2, h3, h3']
    · simp [h1, h2]
  · simp [h1]

/-- Two lists, entry by entry, the way a slice is filled. -/
theorem fill_step {f : Int → Int → Int} {a b : List Int} (hab : a.length = b.length) {i : Nat} (hi : i < a.length) :
    (((List.zipWith f a b).take i ++ List.replicate (a.length - i) 0).set i (f a[i] (b[i]'(hab ▸ hi)))) = (List.zipWith f a b).take (i + 1) ++ List.replicate (a.length - (i + 1)) 0 := by
  have hz : (List.zipWith f a b).length = a.length := by simp [hab]
  have ht : ((List.zipWith f a b).take i).length = i := by rw [List.length_take, hz]; omega
  rw [List.set_append_right _ _ (by omega), ht, Nat.sub_self]
  have : a.length - i = (a.length - (i + 1)) + 1 := by omega
  rw [this, List.replicate_succ, List.set_cons_zero, List.take_add_one, List.getElem?_eq_getElem (by omega)]
  simp [List.getElem_zipWith]

theorem app_step {f : Int → Int → Int} {a b : List Int} (hab : a.length = b.length) {i : Nat} (hi : i < a.length) : (List.zipWith f a b).take i ++ [f a[i] (b[i]'(hab ▸ hi))] = (List.zipWith f a b).take (i + 1) := by
  have hz : (List.zipWith f a b).length = a.length := by simp [hab]
  rw [List.take_add_one, List.getElem?_eq_getElem (by omega)]
  simp [List.getElem_zipWith]

theorem zip_loop (sh : (Int × Int × Unit) → Option (Int × Unit)) (f : Int → Int → Int) (hsh : ∀ v w, sh (v, w, ()) = some (f v w, ())) (a b : List Int) (hab : a.length = b.length) (h4 : a.length ≤ 4) :
    loopM (σ := (Int × (List Int) × Unit)) (β := (((List Int) × Unit) ⊕ Empty)) (fun y19 => (cond (decide (y19.1 < (a.length : Int))) ((getI a y19.1).bind fun v20 => ((getI b y19.1).bind fun v21 => ((sh (v20, v21, ())).bind fun r22 => (cond (inB y19.1 y19.2.1.length) ((y19.2.1[y19.1.toNat]?).bind fun _ => (some (Sum.inl ((IntKind.i64.wrap (y19.1 + (1 : Int))), (y19.2.1.set (y19.1.toNat) r22.1), ())))) none)))) (some (Sum.inr (Sum.inl (y19.2.1, ())))))) ((0 : Int), (List.replicate (a.length : Int).toNat (0 : Int)), ()) = some (.inl (List.zipWith f a b, ())) := by
  have hz : (List.zipWith f a b).length = a.length := by simp [hab]
  have key := loopM_fold (f := (fun y19 : Int × (List Int) × Unit => (cond (decide (y19.1 < (a.length : Int))) ((getI a y19.1).bind fun v20 => ((getI b y19.1).bind fun v21 => ((sh (v20, v21, ())).bind fun r22 => (cond (inB y19.1 y19.2.1.length) ((y19.2.1[y19.1.toNat]?).bind fun _ => (some (Sum.inl ((IntKind.i64.wrap (y19.1 + (1 : Int))), (y19.2.1.set (y19.1.toNat) r22.1), ())))) none)))) (some (Sum.inr (Sum.inl (y19.2.1, ())))))))
    a.length (fun i => (List.zipWith f a b).take i ++ List.replicate (a.length - i) 0) (Sum.inl (List.zipWith f a b, ()) : ((List Int) × Unit) ⊕ Empty) (fun i hi => ?_) ?_
  · simpa using key
  · have hi' : ((i : Int) < (a.length : Int)) := by omega
    have hlen : ((List.zipWith f a b).take i ++ List.replicate (a.length - i) (0 : Int)).length = a.length := by simp [hab]; omega
    have hib : inB (i : Int) ((List.zipWith f a b).take i ++ List.replicate (a.length - i) (0 : Int)).length = true := by rw [hlen]; simp [inB]; omega
    simp only [hi', decide_true, cond_true, getI_nat, List.getElem?_eq_getElem hi, List.getElem?_eq_getElem (hab ▸ hi : i < b.length), Option.bind_some, hsh, hib, Int.toNat_natCast]
    rw [List.getElem?_eq_getElem (by omega), Option.bind_some, fill_step hab hi, wrap64 (by omega) (by omega)]
    rfl
  · simp [List.take_of_length_le (Nat.le_of_eq hz)]

def mx (v w : Int) : Int := if w > v then w else v
def mn (v w : Int) : Int := if w < v then w else v

theorem sh54_eq (v w : Int) : sh54 (v, w, ()) = some (mx v w, ()) := rfl
theorem sh55_eq (v w : Int) : sh55 (v, w, ()) = some (mn v w, ()) := rfl

theorem two_loop (a b : List Int) : loopM (σ := (Int × Unit)) (β := (((List Int) × Int × Unit) ⊕ (Unit) ⊕ Empty)) (fun y4 => (cond (decide (y4.1 < (2 : Int))) ((getI [a, b] y4.1).bind fun v5 => ((sh32 (v5, ())).bind fun r6 => (cond (r6.1 != (0 : Int)) (some (Sum.inr (Sum.inl (([] : (List Int)), r6.1, ())))) (some (Sum.inl ((IntKind.i64.wrap (y4.1 + (1 : Int))), ())))))) (some (Sum.inr (Sum.inr (Sum.inl ())))))) ((0 : Int), ()) =
    some (if chk a ≠ 0 then .inl ([], chk a, ()) else if chk b ≠ 0 then .inl ([], chk b, ()) else .inr (.inl ())) := by
  rw [loopM_unfold]
  simp only [sh32_eq, cond_bne]
  by_cases h1 : chk a = 0
  · rw [show getI [a, b] 0 = some a from rfl]
    simp only [h1]
    simp only [show decide ((0 : Int) < 2) = true from rfl, cond_true, Option.bind_some, if_true, h1]
    rw [wrap64 (by omega) (by omega), loopM_unfold]
    rw [show getI [a, b] (0 + 1) = some b from rfl]
    simp only [show decide ((0 : Int) + 1 < 2) = true from rfl, cond_true, Option.bind_some]
    by_cases h2 : chk b = 0
    · simp only [h2, if_true]
      rw [wrap64 (by omega) (by omega)]
      simp only [Option.bind_some]
      rw [loopM_unfold]
      rfl
    · simp [h2]
  · rw [show getI [a, b] 0 = some a from rfl]
    simp [h1]

theorem room4 {n : Nat} (h : n ≤ 100) : roomOk n 8 = true := by
  unfold roomOk
  rw [Bool.and_eq_true]
  exact ⟨Nat.ble_eq_true_of_le (by omega), Nat.ble_eq_true_of_le (by omega)⟩

theorem err_pos {a b : List Int} (h1 : chk a = 0) (h2 : chk b = 0) (h3 : a.length = b.length) : err a b = 0 := by simp [err, h1, h2, h3]

theorem sh29_eq (a b : List Int) : sh29 (a, b, ()) = some (if err a b = 0 then List.zipWith mx a b else [], err a b, ()) := by
  unfold sh29
  rw [two_loop]
  by_cases h1 : chk a = 0
  · by_cases h2 : chk b = 0
    · by_cases h3 : a.length = b.length
      · have hl := chk_pos h1
        have he := err_pos h1 h2 h3
        simp only [h1, h2, he, ne_eq, not_true_eq_false, if_false, if_true, Option.bind_some, Sum.elim_inr, Sum.elim_inl, h3, cond_bne]
        rw [← h3]
        have hr : roomOk (a.length : Int).toNat 8 = true := room4 (by omega)
        have hg : (decide (0 ≤ (a.length : Int)) && decide ((a.length : Int) ≤ (a.length : Int)) && roomOk (a.length : Int).toNat 8 && decide ((a.length : Int) ≤ 9223372036854775807) && true && true) = true := by
          rw [hr]; simp; omega
        rw [hg, cond_true, zip_loop sh54 mx sh54_eq a b h3 hl.2]
        rfl
      · have h3' : ¬ ((a.length : Int) = b.length) := by omega
        simp [h1, h2, h3, h3', err, cond_bne]
    · simp [h1, h2, err]
  · simp [h1, err]

theorem sh30_eq (a b : List Int) : sh30 (a, b, ()) = some (if err a b = 0 then List.zipWith mn a b else [], err a b, ()) := by
  unfold sh30
  rw [two_loop]
  by_cases h1 : chk a = 0
  · by_cases h2 : chk b = 0
    · by_cases h3 : a.length = b.length
      · have hl := chk_pos h1
        have he := err_pos h1 h2 h3
        simp only [h1, h2, he, ne_eq, not_true_eq_false, if_false, if_true, Option.bind_some, Sum.elim_inr, Sum.elim_inl, h3, cond_bne]
        rw [← h3]
        have hr : roomOk (a.length : Int).toNat 8 = true := room4 (by omega)
        have hg : (decide (0 ≤ (a.length : Int)) && decide ((a.length : Int) ≤ (a.length : Int)) && roomOk (a.length : Int).toNat 8 && decide ((a.length : Int) ≤ 9223372036854775807) && true && true) = true := by
          rw [hr]; simp; omega
        rw [hg, cond_true, zip_loop sh55 mn sh55_eq a b h3 hl.2]
        rfl
      · have h3' : ¬ ((a.length : Int) = b.length) := by omega
        simp [h1, h2, h3, h3', err, cond_bne]
    · simp [h1, h2, err]
  · simp [h1, err]

/-- The reference's join, or meet. -/
def pk (big : Bool) (v w : Int) : Int := if decide (w > v) = big then w else v

theorem sh38_eq (big : Bool) (a b : List Int) (hab : a.length = b.length) (h4 : a.length ≤ 4) : sh38 (a, b, big, ()) = some (List.zipWith (pk big) a b, ()) := by
  unfold sh38
  have hz : (List.zipWith (pk big) a b).length = a.length := by simp [hab]
  have key := loopM_fold' (f := (fun y9 : (List Int) × Int × Unit => (cond (decide (y9.2.1 < (a.length : Int))) ((getI a y9.2.1).bind fun v10 => ((getI b y9.2.1).bind fun v11 => (cond ((decide (v11 > v10)) == big) ((getI b y9.2.1).bind fun v12 => (cond (true && roomOk (y9.1.length + ([v12]).length) 8 && true && true) (some (Sum.inl ((y9.1 ++ [v12]), (IntKind.i64.wrap (y9.2.1 + (1 : Int))), ()))) none)) (cond (true && roomOk (y9.1.length + ([v10]).length) 8 && true && true) (some (Sum.inl ((y9.1 ++ [v10]), (IntKind.i64.wrap (y9.2.1 + (1 : Int))), ()))) none)))) (some (Sum.inr (Sum.inl (y9.1, ())))))))
    a.length (fun i => (List.zipWith (pk big) a b).take i) (Sum.inl (List.zipWith (pk big) a b, ()) : ((List Int) × Unit) ⊕ Empty) (fun i hi => ?_) ?_
  · simp only [List.take_zero] at key
    rw [key]; rfl
  · have hi' : ((i : Int) < (a.length : Int)) := by omega
    have hib : i < b.length := hab ▸ hi
    have hl : ((List.zipWith (pk big) a b).take i).length = i := by rw [List.length_take, hz]; omega
    have hr : roomOk (i + 1) 8 = true := room4 (by omega)
    simp only [hi', decide_true, cond_true, getI_nat, List.getElem?_eq_getElem hi, List.getElem?_eq_getElem hib, Option.bind_some, hl, List.length_singleton, hr, Bool.true_and, Bool.and_true]
    rw [wrap64 (by omega) (by omega), ← app_step hab hi]
    unfold pk
    by_cases hc : decide (b[i] > a[i]) = big
    · rw [if_pos hc]
      have : (decide (b[i] > a[i]) == big) = true := by rw [hc]; simp
      rw [this]; rfl
    · rw [if_neg hc]
      have : (decide (b[i] > a[i]) == big) = false := by simpa using hc
      rw [this]; rfl
  · simp [List.take_of_length_le (Nat.le_of_eq hz)]

theorem sh17_same (a : List Int) (h : a.length ≤ 4) : sh17 (a, a, ()) = some (true, ()) := by
  unfold sh17
  have key := loopM_for (f := (fun y4 : Int × Unit => (cond (decide (y4.1 < (a.length : Int))) ((getI a y4.1).bind fun v5 => ((getI a y4.1).bind fun v6 => (cond (v5 != v6) (some (Sum.inr (Sum.inl (false, ())))) (some (Sum.inl ((IntKind.i64.wrap (y4.1 + (1 : Int))), ())))))) (some (Sum.inr (Sum.inr (Sum.inl ())))))))
    a.length (fun _ => none) (Sum.inr (Sum.inl ()) : (Bool × Unit) ⊕ Unit ⊕ Empty) (fun i hi => ?_) ?_
  · simp only [cond_bne, if_true]
    have hn : ((List.range a.length).findSome? fun _ => (none : Option ((Bool × Unit) ⊕ Unit ⊕ Empty))) = none := by simp
    rw [hn] at key
    simp only [cond_bne] at key
    rw [key]; rfl
  · have hi' : ((i : Int) < (a.length : Int)) := by omega
    simp only [hi', decide_true, cond_true, getI_nat, List.getElem?_eq_getElem hi, Option.bind_some, cond_bne, if_true]
    rw [wrap64 (by omega) (by omega)]
    rfl
  · simp

/-- Both may be compared. -/
def fine (a b : List Int) : Bool := decide (a.length = b.length) && decide (chk a = 0) && decide (chk b = 0)

theorem sh56_eq (a b : List Int) : sh56 (a, b, ()) = some (fine a b, ()) := by
  unfold sh56 fine
  simp only [sh32_eq, Option.bind_some, cond_beq]
  by_cases h1 : a.length = b.length
  · by_cases h2 : chk a = 0
    · by_cases h3 : chk b = 0
      · simp [h1, h2, h3]
      · simp [h1, h2, h3]
    · simp [h1, h2]
  · have h1' : ¬ ((a.length : Int) = b.length) := by omega
    simp [h1, h1']

def leG (a b : List Int) (i : Nat) : Option ((Bool × Unit) ⊕ Unit ⊕ Empty) := if a.getD i 0 > b.getD i 0 then some (.inl (false, ())) else none

theorem le_loop (a b : List Int) (hab : a.length = b.length) (h4 : a.length ≤ 4) :
    loopM (σ := (Int × Unit)) (β := ((Bool × Unit) ⊕ (Unit) ⊕ Empty)) (fun y4 => (cond (decide (y4.1 < (a.length : Int))) ((getI a y4.1).bind fun v5 => ((getI b y4.1).bind fun v6 => (cond (decide (v5 > v6)) (some (Sum.inr (Sum.inl (false, ())))) (some (Sum.inl ((IntKind.i64.wrap (y4.1 + (1 : Int))), ())))))) (some (Sum.inr (Sum.inr (Sum.inl ())))))) ((0 : Int), ()) =
    some (((List.range a.length).findSome? (leG a b)).getD (.inr (.inl ()))) := by
  refine loopM_for a.length (leG a b) (.inr (.inl ())) (fun i hi => ?_) ?_
  · have hi' : ((i : Int) < (a.length : Int)) := by omega
    have hib : i < b.length := hab ▸ hi
    simp only [hi', decide_true, cond_true, getI_nat, List.getElem?_eq_getElem hi, List.getElem?_eq_getElem hib, Option.bind_some, leG, List.getD_eq_getElem?_getD, Option.getD_some, cond_dec]
    rw [wrap64 (by omega) (by omega)]
    by_cases hc : a[i] > b[i]
    · simp [hc]
    · simp [hc]
  · simp

theorem out1 (s : (Bool × Unit) ⊕ Unit ⊕ Empty) (d : Bool) : ∃ r, (Sum.elim (fun z7 => some z7) (Sum.elim (fun _ => some (d, ())) Empty.elim) s : Option (Bool × Unit)) = some (r, ()) := by
  cases s with
  | inl z => exact ⟨z.1, rfl⟩
  | inr z => cases z with
    | inl z => exact ⟨d, rfl⟩
    | inr z => exact z.elim

theorem sh34_35 (a b : List Int) : ∃ r, sh34 (a, b, ()) = some (r, ()) ∧ sh35 (a, b, ()) = some (r, ()) := by
  unfold sh34 sh35
  rw [sh56_eq]
  simp only [sh33_eq, Option.bind_some, cond_bne]
  by_cases h1 : a.length = b.length
  · by_cases h2 : chk a = 0
    · by_cases h3 : chk b = 0
      · have hf : fine a b = true := by simp [fine, h1, h2, h3]
        have hl := chk_pos h2
        unfold sh57
        simp only [hf, cond_true, h2, h3, if_true]
        rw [le_loop a b h1 hl.2]
        obtain ⟨r, hr⟩ := out1 (((List.range a.length).findSome? (leG a b)).getD (.inr (.inl ()))) true
        refine ⟨r, ?_, ?_⟩
        · simp only [Option.bind_some]; rw [hr]; rfl
        · have hc : (a.length : Int) = b.length := by omega
          simp only [hc, if_true, Option.bind_some]; exact hr
      · exact ⟨false, by simp [fine, h3], by simp [h1, h2, h3]⟩
    · exact ⟨false, by simp [fine, h2], by simp [h1, h2]⟩
  · have h1' : ¬ ((a.length : Int) = b.length) := by omega
    exact ⟨false, by simp [fine, h1], by simp [h1']⟩

def cmpI (v w : Int) : Int := if v < w then -1 else if v > w then 1 else 0

theorem sh62_eq (v w : Int) : sh62 (v, w, ()) = some (cmpI v w, ()) := by
  unfold sh62 sh64 cmpI
  simp only [Option.bind_some, cond_bne, if_true, cond_dec, bne_self_eq_false, cond_false]
  split
  · rfl
  · split <;> rfl

def cmpG (a b : List Int) (i : Nat) : Option ((Int × Unit) ⊕ Unit ⊕ Empty) := if cmpI (a.getD i 0) (b.getD i 0) ≠ 0 then some (.inl (cmpI (a.getD i 0) (b.getD i 0), ())) else none
def ltG (a b : List Int) (i : Nat) : Option ((Bool × Unit) ⊕ Unit ⊕ Empty) := if a.getD i 0 ≠ b.getD i 0 then some (.inl (decide (a.getD i 0 < b.getD i 0), ())) else none

def neg1 : (Int × Unit) ⊕ Unit ⊕ Empty → (Bool × Unit) ⊕ Unit ⊕ Empty
  | .inl z => .inl (decide (z.1 < 0), ())
  | .inr z => .inr z

theorem ltG_eq (a b : List Int) (i : Nat) : ltG a b i = (cmpG a b i).map neg1 := by
  unfold ltG cmpG cmpI
  generalize a.getD i 0 = v
  generalize b.getD i 0 = w
  by_cases h1 : v < w
  · have h2 : v ≠ w := by omega
    simp [h1, h2, neg1]
  · by_cases h2 : v > w
    · have h3 : v ≠ w := by omega
      simp [h1, h2, h3, neg1]
    · have h3 : v = w := by omega
      simp [h3]

def lt0 : (Int × Unit) ⊕ Unit ⊕ Empty → Bool
  | .inl z => decide (z.1 < 0)
  | .inr _ => false
theorem out2 (s : (Int × Unit) ⊕ Unit ⊕ Empty) : (((some s).bind (Sum.elim (fun z9 => (some z9)) (Sum.elim (fun z10 => (some ((0 : Int), ()))) Empty.elim)) : Option (Int × Unit)).bind fun r2 => (some ((decide (r2.1 < (0 : Int))), ()))) = some (lt0 s, ()) := by
  cases s with
  | inl z => rfl
  | inr z => cases z with
    | inl z => rfl
    | inr z => exact z.elim
theorem out3 (s : (Int × Unit) ⊕ Unit ⊕ Empty) : ((some (neg1 s)).bind (Sum.elim (fun z13 => (some z13)) (Sum.elim (fun z14 => (some (false, ()))) Empty.elim)) : Option (Bool × Unit)) = some (lt0 s, ()) := by
  cases s with
  | inl z => rfl
  | inr z => cases z with
    | inl z => rfl
    | inr z => exact z.elim

theorem sh36_37 (a b : List Int) : ∃ r, sh36 (a, b, ()) = some (r, ()) ∧ sh37 (a, b, ()) = some (r, ()) := by
  unfold sh36 sh37
  rw [sh56_eq]
  simp only [sh33_eq, Option.bind_some, cond_bne]
  by_cases h1 : a.length = b.length
  · by_cases h2 : chk a = 0
    · by_cases h3 : chk b = 0
      · have hf : fine a b = true := by simp [fine, h1, h2, h3]
        have hl := chk_pos h2
        have hc : (a.length : Int) = b.length := by omega
        have k1 := loopM_for (f := (fun y5 : Int × Unit => (cond (decide (y5.1 < (a.length : Int))) ((getI a y5.1).bind fun v6 => (cond (decide (y5.1 ≥ (b.length : Int))) (some (Sum.inr (Sum.inl ((1 : Int), ())))) ((getI b y5.1).bind fun v7 => ((sh62 (v6, v7, ())).bind fun r8 => (cond (r8.1 != (0 : Int)) (some (Sum.inr (Sum.inl r8))) (some (Sum.inl ((IntKind.i64.wrap (y5.1 + (1 : Int))), ())))))))) (some (Sum.inr (Sum.inr (Sum.inl ())))))))
          a.length (cmpG a b) (Sum.inr (Sum.inl ()) : (Int × Unit) ⊕ Unit ⊕ Empty) (fun i hi => by
            have hi' : ((i : Int) < (a.length : Int)) := by omega
            have hib : i < b.length := h1 ▸ hi
            have hge : ¬ ((i : Int) ≥ (b.length : Int)) := by omega
            simp only [hi', decide_true, cond_true, getI_nat, List.getElem?_eq_getElem hi, List.getElem?_eq_getElem hib, Option.bind_some, hge, decide_false, cond_false, sh62_eq, cmpG, List.getD_eq_getElem?_getD, Option.getD_some, cond_bne]
            rw [wrap64 (by omega) (by omega)]
            by_cases hz : cmpI a[i] b[i] = 0
            · simp [hz]
            · simp [hz]) (by simp)
        have k2 := loopM_for (f := (fun y8 : Int × Unit => (cond (decide (y8.1 < (a.length : Int))) ((getI a y8.1).bind fun v9 => ((getI b y8.1).bind fun v10 => (if v9 = v10 then (some (Sum.inl ((IntKind.i64.wrap (y8.1 + (1 : Int))), ()))) else ((getI a y8.1).bind fun v11 => ((getI b y8.1).bind fun v12 => (some (Sum.inr (Sum.inl ((decide (v11 < v12)), ())))))))))  (some (Sum.inr (Sum.inr (Sum.inl ())))))))
          a.length (ltG a b) (Sum.inr (Sum.inl ()) : (Bool × Unit) ⊕ Unit ⊕ Empty) (fun i hi => by
            have hi' : ((i : Int) < (a.length : Int)) := by omega
            have hib : i < b.length := h1 ▸ hi
            simp only [hi', decide_true, cond_true, getI_nat, List.getElem?_eq_getElem hi, List.getElem?_eq_getElem hib, Option.bind_some, ltG, List.getD_eq_getElem?_getD, Option.getD_some]
            rw [wrap64 (by omega) (by omega)]
            by_cases hz : a[i] = b[i]
            · simp [hz]
            · simp [hz]) (by simp)
        have hmap : ((List.range a.length).findSome? (ltG a b)).getD (.inr (.inl ())) = neg1 (((List.range a.length).findSome? (cmpG a b)).getD (.inr (.inl ()))) := by
          rw [show ltG a b = Option.map neg1 ∘ cmpG a b from funext (ltG_eq a b)]
          rw [← List.map_findSome?]
          cases (List.range a.length).findSome? (cmpG a b) <;> rfl
        refine ⟨lt0 (((List.range a.length).findSome? (cmpG a b)).getD (.inr (.inl ()))), ?_, ?_⟩
        · unfold sh58
          simp only [hf, cond_true]
          rw [k1]
          simp only [hc, Int.lt_irrefl, decide_false, cond_false]
          exact (out2 _)
        · simp only [hc, h2, h3, if_true]
          rw [← hc, k2, hmap]
          exact (out3 _)
      · exact ⟨false, by simp [fine, h3], by simp [h1, h2, h3]⟩
    · exact ⟨false, by simp [fine, h2], by simp [h1, h2]⟩
  · have h1' : ¬ ((a.length : Int) = b.length) := by omega
    exact ⟨false, by simp [fine, h1], by simp [h1']⟩

/-- THE LAW. -/
theorem timesTells (a b : List Int) : sh8 (a, b, ()) = some (true, ()) := by
  obtain ⟨p, p1, p2⟩ := sh34_35 a b
  obtain ⟨q, q1, q2⟩ := sh36_37 a b
  unfold sh8
  simp only [sh29_eq, sh30_eq, sh31_eq, sh32_eq, sh33_eq, p1, p2, q1, q2, Option.bind_some, cond_bne, cond_bneB, if_true]
  by_cases he : err a b = 0
  · have h : chk a = 0 ∧ chk b = 0 ∧ a.length = b.length := by
      unfold err at he
      split at he
      · contradiction
      · split at he
        · contradiction
        · split at he
          · cases he
          · exact ⟨by omega, by omega, by omega⟩
    have hl := chk_pos h.1
    have e1 : List.zipWith (pk true) a b = List.zipWith mx a b := by
      congr 1; funext v w; unfold pk mx
      by_cases hc : w > v <;> simp [hc]
    have e2 : List.zipWith (pk false) a b = List.zipWith mn a b := by
      congr 1; funext v w; unfold pk mn
      by_cases hc : w > v
      · have : ¬ w < v := by omega
        simp [hc, this]
      · by_cases hd : w < v
        · have : ¬ v < w := by omega
          simp [hd, this]
        · have : w = v := by omega
          simp [this]
    have hz : ∀ f : Int → Int → Int, (List.zipWith f a b).length ≤ 4 := fun f => by simp; omega
    simp only [he, if_true, sh38_eq _ a b h.2.2 hl.2, Option.bind_some, e1, e2, sh17_same _ (hz _), cond_true]
  · simp [he]

end Go.Proofs.Try
