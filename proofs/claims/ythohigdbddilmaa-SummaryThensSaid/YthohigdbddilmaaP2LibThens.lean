/- Lemmas on functions of the program, by name: thens. -/
import Derived.Test.YthohigdbddilmaaP2Funs
import Derived.Test.YthohigdbddilmaaAbsSums
import Derived.Test.YthohigdbddilmaaP2LibSummary
namespace Go.Proofs.Try
open Go Go.Abs


/-- What a summary puts, or adds, at a place. -/
def plc (n : Nat) (d : Int) (l : List Int) (i : Nat) : Int := if i < n then (if i + 1 = n then d else 0) else l.getD (i - n) 0
theorem ref_SummaryPlace_eq {n : Nat} {d : Int} {l : List Int} (hn1 : 1 ≤ n) (hn : n + l.length ≤ 4) {i : Nat} (hi : i < n + l.length) : ref_SummaryPlace (((n : Int), d, l, ()), (i : Int), ()) = some (plc n d l i, ()) := by
  have e1 : IntKind.i64.wrap ((n : Int) - 1) = (n : Int) - 1 := wrap64 (by omega) (by omega)
  unfold ref_SummaryPlace plc
  by_cases h : i < n
  · by_cases h1 : i + 1 = n
    · have : ((i : Int) == (n : Int) - 1) = true := beqT (by omega)
      simp (disch := first | assumption | omega) only [cond_true, cond_false, dcF, if_true, e1, this, h, h1]
    · have : ((i : Int) == (n : Int) - 1) = false := beqF (by omega)
      simp (disch := first | assumption | omega) only [cond_false, dcF, if_true, if_false, e1, this, h, h1]
  · have e2 : IntKind.i64.wrap ((i : Int) - (n : Int)) = ((i - n : Nat) : Int) := by rw [wrap64 (by omega) (by omega)]; omega
    simp (disch := first | assumption | omega) only [cond_true, Option.bind_some, dcT, if_false, e2, h, getI_int]
theorem plc_in {n : Nat} {d : Int} {l : List Int} (hd : 0 ≤ d ∧ d ≤ 1048576) (hl : ∀ (i : Nat) (v : Int), l[i]? = some v → 0 ≤ v ∧ v ≤ 1048576) (i : Nat) : 0 ≤ plc n d l i ∧ plc n d l i ≤ 1048576 := by
  unfold plc
  split
  · split
    · exact hd
    · omega
  · by_cases h : i - n < l.length
    · exact hl (i - n) _ (getD_get h)
    · rw [List.getD_eq_getElem?_getD, List.getElem?_eq_none (by omega)]; simp

/-- Place by place what one behind the other does. -/
def thenX (n : Nat) (d : Int) (l : List Int) (m : Nat) (e : Int) (k : List Int) (i : Nat) : Int := if i < m then plc m e k i + plc n d l i else plc m e k i
def thenR (n : Nat) (d : Int) (l : List Int) (m : Nat) (e : Int) (k : List Int) : (Int × Int × List Int × Unit) × Int × Unit :=
  if thenX n d l m e k (m - 1) > 1048576 then ((0, 0, [], ()), 6, ()) else ((((min m n : Nat) : Int), thenX n d l m e k (min m n - 1), (List.range' (min m n) (m + k.length - min m n)).map (thenX n d l m e k), ()), 0, ())

theorem summary_Out_eq {n : Nat} {d : Int} {l : List Int} (h : n + l.length ≤ 4) : summary_Out (((n : Int), d, l, ()), ()) = some (((n + l.length : Nat) : Int), ()) := by
  unfold summary_Out
  exact congrArg (fun x => some (x, ())) (wrap64 (x := (n : Int) + (l.length : Int)) (by omega) (by omega))
theorem ref_SummaryOut_eq {n : Nat} {d : Int} {l : List Int} (h : n + l.length ≤ 4) : ref_SummaryOut (((n : Int), d, l, ()), ()) = some (((n + l.length : Nat) : Int), ()) := by
  unfold ref_SummaryOut
  exact congrArg (fun x => some (x, ())) (wrap64 (x := (n : Int) + (l.length : Int)) (by omega) (by omega))
theorem bad_pos {v : Int} (h : 0 ≤ v) : bad v = decide (v > 1048576) := by
  unfold bad
  have : ¬ v < 0 := by omega
  simp [this]

theorem range_push {a : Nat} (f : Nat → Int) (l : List Int) (h : ∀ i, i < l.length → f (a + i) = l.getD i 0) : (List.range' a l.length).map f = l := by
  apply List.ext_getElem?
  intro i
  by_cases hi : i < l.length
  · rw [List.getElem?_map, List.getElem?_range' hi]
    simp only [Option.map_some, Nat.one_mul, h i hi]
    exact (getD_get hi).symm
  · rw [List.getElem?_eq_none (by simpa using hi), List.getElem?_eq_none (by omega)]

theorem summary_Then_eq {n m : Nat} {d e : Int} {l k : List Int} (hs : sck n d l 4 = 0) (hr : sck m e k ((n + l.length : Nat) : Int) = 0) :
    summary_Then (((n : Int), d, l, ()), ((m : Int), e, k, ()), ()) = some (thenR n d l m e k) := by
  obtain ⟨s1, s2, s3, s4, s5, s6⟩ := sck_zero hs
  obtain ⟨r1, r2, r3, r4, r5, r6⟩ := sck_zero hr
  have p0 : ∀ v : Int, 0 ≤ v → summary_within (v, ()) = some (!decide (v > 1048576), ()) := fun v hv => by rw [summary_within_eq, bad_pos hv]
  have hk : k.length ≤ 4 := by omega
  unfold summary_Then
  simp (disch := first | assumption | omega) only [cond_true, cond_false, Option.bind_some, dcT, room8, Bool.and_true, Bool.true_and, Bool.and_self, summary_Check_eq, hs, bneF, summary_Out_eq (show n + l.length ≤ 4 by omega), hr]
  have e0 : IntKind.i64.wrap ((m : Int) - (n : Int)) = (m : Int) - (n : Int) := wrap64 (by omega) (by omega)
  rw [e0]
  have hpush : min m n = m → (List.range' (min m n) (m + k.length - min m n)).map (thenX n d l m e k) = k := fun h => by
    rw [h, show m + k.length - m = k.length by omega]
    refine range_push _ _ fun i hi => ?_
    unfold thenX plc
    rw [if_neg (by omega), if_neg (by omega), show m + i - m = i by omega]
  by_cases h1 : m = n
  · have hx : thenX n d l m e k (m - 1) = e + d := by
      unfold thenX plc
      rw [if_pos (by omega), if_pos (by omega), if_pos (by omega), if_pos (by omega), if_pos (by omega)]
    have e1 : IntKind.i64.wrap (e + d) = e + d := wrap64 (by omega) (by omega)
    have hmin : min m n = m := by omega
    unfold thenR
    rw [hpush hmin, hmin, hx]
    have h0 : ((m : Int) - (n : Int) == 0) = true := beqT (by omega)
    simp (disch := first | assumption | omega) only [cond_true, cond_false, Option.bind_some, dcT, dcF, Bool.and_self, h0, e1, p0 (e + d) (by omega)]
    by_cases hb : e + d > 1048576
    · simp (disch := first | assumption | omega) only [decide_true, cond_true, Bool.not_true, Bool.not_false, if_true, hb] <;> rfl
    · simp (disch := first | assumption | omega) only [decide_false, cond_false, Bool.not_true, Bool.not_false, if_false, hb] <;> rfl
  · have h0 : ((m : Int) - (n : Int) == 0) = false := beqF (by omega)
    by_cases h2 : m > n
    · have hmin : min m n = n := by omega
      have hq : m - n ≤ l.length := by omega
      have e2 : ((m : Int) - (n : Int)).toNat = m - n := by omega
      have e3 : IntKind.i64.wrap ((m : Int) - (n : Int) - 1) = ((m - n - 1 : Nat) : Int) := by rw [wrap64 (by omega) (by omega)]; omega
      have hlen : (l.take (m - n)).length = m - n := by rw [List.length_take]; omega
      have hc : slices_Clone_s_int_int (l.take (m - n), ()) = some (l.take (m - n), ()) := by
        unfold slices_Clone_s_int_int
        simp (disch := first | assumption | omega) only [cond_true, List.length_nil, room8, Bool.and_self, hlen]
        rfl
      have hg : (l.take (m - n))[m - n - 1]? = some (l.getD (m - n - 1) 0) := by
        rw [List.getElem?_take_of_lt (by omega)]; exact getD_get (by omega)
      have hv := s6 (m - n - 1) _ (getD_get (d := 0) (show m - n - 1 < l.length by omega))
      have hx : thenX n d l m e k (m - 1) = l.getD (m - n - 1) 0 + e := by
        unfold thenX plc
        rw [if_pos (by omega), if_pos (by omega), if_pos (by omega), if_neg (by omega), show m - 1 - n = m - n - 1 by omega]; omega
      have hy : thenX n d l m e k (n - 1) = d := by
        unfold thenX plc
        rw [if_pos (by omega), if_pos (by omega), if_neg (by omega), if_pos (by omega), if_pos (by omega)]; omega
      have e4 : IntKind.i64.wrap (l.getD (m - n - 1) 0 + e) = l.getD (m - n - 1) 0 + e := wrap64 (by omega) (by omega)
      have hg2 : ((l.take (m - n)).set (m - n - 1) (l.getD (m - n - 1) 0 + e))[m - n - 1]? = some (l.getD (m - n - 1) 0 + e) := by
        rw [List.getElem?_set_self (by omega)]
      have hl2 : (l.take (m - n)).set (m - n - 1) (l.getD (m - n - 1) 0 + e) ++ k = (List.range' n (m + k.length - n)).map (thenX n d l m e k) := by
        have hll : ((l.take (m - n)).set (m - n - 1) (l.getD (m - n - 1) 0 + e) ++ k).length = m + k.length - n := by rw [List.length_append, List.length_set, hlen]; omega
        rw [← hll]
        refine (range_push _ _ fun i hi => ?_).symm
        rw [hll] at hi
        rw [List.getD_eq_getElem?_getD]
        by_cases hi2 : i < m - n
        · rw [List.getElem?_append_left (by rw [List.length_set, hlen]; exact hi2)]
          unfold thenX plc
          rw [if_pos (by omega), if_pos (by omega), if_neg (show ¬ n + i < n by omega), show n + i - n = i by omega]
          by_cases hi3 : i = m - n - 1
          · rw [hi3, List.getElem?_set_self (by omega), if_pos (by omega)]; simp; omega
          · rw [List.getElem?_set_ne (Ne.symm hi3), List.getElem?_take_of_lt hi2, if_neg (by omega), ← List.getD_eq_getElem?_getD]; omega
        · rw [List.getElem?_append_right (by rw [List.length_set, hlen]; omega), List.length_set, hlen]
          unfold thenX plc
          rw [if_neg (by omega), if_neg (by omega), ← List.getD_eq_getElem?_getD, show n + i - m = i - (m - n) by omega]
      unfold thenR
      rw [hmin, hx, hy, ← hl2]
      have d1 : decide ((m : Int) - (n : Int) > 0) = true := decide_eq_true (by omega)
      have d2 : decide ((m : Int) - (n : Int) ≤ (l.length : Int)) = true := decide_eq_true (by omega)
      simp (disch := first | assumption | omega) only [cond_true, cond_false, Option.bind_some, dcT, inB_T, Int.toNat_natCast, room8, Bool.and_self, h0, e2, e3, List.drop_zero, Nat.sub_zero, hc, hlen, hg, e4, hg2, p0 _ (show 0 ≤ l.getD (m - n - 1) 0 + e by omega), List.length_set, show (0 : Int).toNat = 0 from rfl]
      by_cases hb : l.getD (m - n - 1) 0 + e > 1048576
      · simp (disch := first | assumption | omega) only [decide_true, cond_true, Bool.not_true, Bool.not_false, if_true, hb] <;> rfl
      · simp (disch := first | assumption | omega) only [decide_false, cond_false, Bool.not_true, Bool.not_false, if_false, hb] <;> rfl
    · have hmin : min m n = m := by omega
      have hx : thenX n d l m e k (m - 1) = e := by
        unfold thenX plc
        rw [if_pos (by omega), if_pos (by omega), if_pos (by omega), if_pos (by omega), if_neg (by omega)]; omega
      unfold thenR
      rw [hpush hmin, hmin, hx]
      have d1 : decide ((m : Int) - (n : Int) > 0) = false := decide_eq_false (by omega)
      have d2 : ¬ e > 1048576 := by omega
      simp (disch := first | assumption | omega) only [decide_false, cond_false, Option.bind_some, dcT, dcF, Bool.and_true, Bool.not_true, Bool.not_false, if_false, h0, p0 e (by omega), d2] <;> rfl

theorem thenX_last {n m : Nat} {d e : Int} {l k : List Int} (hs : sck n d l 4 = 0) (hr : sck m e k ((n + l.length : Nat) : Int) = 0) {i : Nat} (h : ¬ i = m - 1) : thenX n d l m e k i ≤ 1048576 := by
  obtain ⟨s1, s2, s3, s4, s5, s6⟩ := sck_zero hs
  obtain ⟨r1, r2, r3, r4, r5, r6⟩ := sck_zero hr
  have h1 := plc_in (n := n) s5 s6 i
  have h2 := plc_in (n := m) r5 r6 i
  unfold thenX
  by_cases hi : i < m
  · rw [if_pos hi]
    have : plc m e k i = 0 := by unfold plc; rw [if_pos hi, if_neg (by omega)]
    omega
  · rw [if_neg hi]; omega
theorem thenX_in {n m : Nat} {d e : Int} {l k : List Int} (hs : sck n d l 4 = 0) (hr : sck m e k ((n + l.length : Nat) : Int) = 0) (i : Nat) : 0 ≤ thenX n d l m e k i ∧ thenX n d l m e k i ≤ 2097152 := by
  obtain ⟨s1, s2, s3, s4, s5, s6⟩ := sck_zero hs
  obtain ⟨r1, r2, r3, r4, r5, r6⟩ := sck_zero hr
  have h1 := plc_in (n := n) s5 s6 i
  have h2 := plc_in (n := m) r5 r6 i
  unfold thenX
  split <;> omega

/-- What the reference holds behind the first j places. -/
abbrev ThenU : Type := (Int × (Int × Int × List Int × Unit) × List Int × (Int × Int × Unit) × Unit)
def pushTo (M : Nat) (x : Nat → Int) (j : Nat) : List Int := (List.range' M (j - M)).map x
def addTo (M : Nat) (x : Nat → Int) (j : Nat) : Int := if M ≤ j then x (M - 1) else 0
theorem pushTo_keep {M j : Nat} (x : Nat → Int) (h : j < M) : pushTo M x (j + 1) = pushTo M x j := by
  unfold pushTo; rw [show j + 1 - M = 0 by omega, show j - M = 0 by omega]
theorem pushTo_more {M j : Nat} (x : Nat → Int) (h : ¬ j < M) : pushTo M x (j + 1) = pushTo M x j ++ [x j] := by
  unfold pushTo
  rw [show j + 1 - M = (j - M) + 1 by omega, List.range'_concat, List.map_append]
  simp only [Nat.one_mul, List.map_cons, List.map_nil]
  rw [show M + (j - M) = j by omega]
theorem pushTo_len (M : Nat) (x : Nat → Int) (j : Nat) : (pushTo M x j).length ≤ j := by
  unfold pushTo; simp

theorem ref_SummaryThen_eq {n m : Nat} {d e : Int} {l k : List Int} (hs : sck n d l 4 = 0) (hr : sck m e k ((n + l.length : Nat) : Int) = 0) :
    ref_SummaryThen (((n : Int), d, l, ()), ((m : Int), e, k, ()), ()) = some (thenR n d l m e k) := by
  obtain ⟨s1, s2, s3, s4, s5, s6⟩ := sck_zero hs
  obtain ⟨r1, r2, r3, r4, r5, r6⟩ := sck_zero hr
  have hk : k.length ≤ 4 := by omega
  let M := min m n
  let x := thenX n d l m e k
  let U := fun j => ((6, (0, 0, [], ()), pushTo M x (j + 1), (((min (j + 1) M : Nat) : Int), addTo M x (j + 1), ()), ()) : ThenU)
  have key := loopM_exit (f := ref_SummaryThen_l1 (((n : Int), d, l, ()), ((m : Int), e, k, ()), ())) (m + k.length) (fun j => ((j : Int), (0, 0, [], ()), pushTo M x j, (((min j M : Nat) : Int), addTo M x j, ()), ())) (fun j => cond (decide (x j > 1048576)) (some ((6, (0, 0, [], ()), pushTo M x (j + 1), (((min (j + 1) M : Nat) : Int), addTo M x (j + 1), ()), ()) : ThenU)) none) (.inl ((0, 0, [], ()), pushTo M x (m + k.length), (((M : Nat) : Int), x (M - 1), ()), ())) (fun j hj => by
    have hb := thenX_in hs hr j
    have hlen := pushTo_len M x j
    have e1 : IntKind.i64.wrap ((n : Int) - 1) = (n : Int) - 1 := wrap64 (by omega) (by omega)
    have e2 : IntKind.i64.wrap ((m : Int) - 1) = (m : Int) - 1 := wrap64 (by omega) (by omega)
    have hp := ref_SummaryPlace_eq (n := m) (d := e) (l := k) (by omega) (by omega) hj
    unfold ref_SummaryThen_l1
    by_cases hjm : j < m
    · have hq := ref_SummaryPlace_eq (n := n) (d := d) (l := l) (by omega) (by omega) (show j < n + l.length by omega)
      have hx : IntKind.i64.wrap (plc m e k j + plc n d l j) = x j := by
        have : x j = plc m e k j + plc n d l j := by show thenX n d l m e k j = _; unfold thenX; rw [if_pos hjm]
        rw [this]
        have h2 : 0 ≤ x j ∧ x j ≤ 2097152 := hb
        rw [this] at h2
        exact wrap64 (by omega) (by omega)
      simp (disch := first | assumption | omega) only [cond_true, Option.bind_some, Sum.elim_inl, dcT, wrapS, List.length_cons, List.length_nil, room8, Bool.and_self, ref_SummaryOut_eq (show m + k.length ≤ 4 by omega), hp, hq, hx]
      by_cases hjn : j < n
      · have hM : j < M := by show j < min m n; omega
        have hmin : ((min (j + 1) M : Nat) : Int) = ((j + 1 : Nat) : Int) := by rw [Nat.min_eq_left (by omega)]
        rw [pushTo_keep x hM, hmin]
        by_cases hlast : j + 1 = M
        · have ha : addTo M x (j + 1) = x j := by unfold addTo; rw [if_pos (by omega), ← hlast]; rfl
          rw [ha]
          by_cases hn1 : j + 1 = n
          · have q1 : ((j : Int) == (n : Int) - 1) = true := beqT (by omega)
            simp (disch := first | assumption | omega) only [cond_true, dcT, e1, e2, q1]
            by_cases hx2 : x j > 1048576 <;> simp (disch := first | assumption | omega) only [decide_true, decide_false, cond_true, cond_false, hx2] <;> rfl
          · have hm1 : j + 1 = m := by have : M = min m n := rfl; omega
            have q1 : ((j : Int) == (n : Int) - 1) = false := beqF (by omega)
            have q2 : ((j : Int) == (m : Int) - 1) = true := beqT (by omega)
            simp (disch := first | assumption | omega) only [cond_true, cond_false, dcT, e1, e2, q1, q2]
            by_cases hx2 : x j > 1048576 <;> simp (disch := first | assumption | omega) only [decide_true, decide_false, cond_true, cond_false, hx2] <;> rfl
        · have q1 : ((j : Int) == (n : Int) - 1) = false := beqF (by have : M = min m n := rfl; omega)
          have q2 : ((j : Int) == (m : Int) - 1) = false := beqF (by have : M = min m n := rfl; omega)
          have ha : addTo M x (j + 1) = 0 := by unfold addTo; rw [if_neg (by omega)]
          have hb : addTo M x j = 0 := by unfold addTo; rw [if_neg (by omega)]
          rw [ha, hb]
          simp (disch := first | assumption | omega) only [cond_true, cond_false, dcT, e1, e2, q1, q2]
          by_cases hx2 : x j > 1048576 <;> simp (disch := first | assumption | omega) only [decide_true, decide_false, cond_true, cond_false, hx2] <;> rfl
      · have hM : ¬ j < M := by show ¬ j < min m n; omega
        have hmin : ((min (j + 1) M : Nat) : Int) = ((min j M : Nat) : Int) := by rw [Nat.min_eq_right (by omega), Nat.min_eq_right (by omega)]
        have ha : addTo M x (j + 1) = addTo M x j := by unfold addTo; rw [if_pos (by omega), if_pos (by omega)]
        rw [pushTo_more x hM, hmin, ha]
        simp (disch := first | assumption | omega) only [cond_false, dcF]
        by_cases hx2 : x j > 1048576 <;> simp (disch := first | assumption | omega) only [decide_true, decide_false, cond_true, cond_false, hx2] <;> rfl
    · have hM : ¬ j < M := by show ¬ j < min m n; omega
      have hx : plc m e k j = x j := by show _ = thenX n d l m e k j; unfold thenX; rw [if_neg hjm]
      have hmin : ((min (j + 1) M : Nat) : Int) = ((min j M : Nat) : Int) := by rw [Nat.min_eq_right (by omega), Nat.min_eq_right (by omega)]
      have ha : addTo M x (j + 1) = addTo M x j := by unfold addTo; rw [if_pos (by omega), if_pos (by omega)]
      rw [pushTo_more x hM, hmin, ha]
      simp (disch := first | assumption | omega) only [cond_true, cond_false, Option.bind_some, Sum.elim_inl, dcT, dcF, wrapS, List.length_cons, List.length_nil, room8, Bool.and_self, ref_SummaryOut_eq (show m + k.length ≤ 4 by omega), hp, hx]
      by_cases hx2 : x j > 1048576 <;> simp (disch := first | assumption | omega) only [decide_true, decide_false, cond_true, cond_false, hx2] <;> rfl) (by
    have hmin : ((min (m + k.length) M : Nat) : Int) = ((M : Nat) : Int) := by rw [Nat.min_eq_right (by show min m n ≤ _; omega)]
    have ha : addTo M x (m + k.length) = x (M - 1) := by unfold addTo; rw [if_pos (by show min m n ≤ _; omega)]
    rw [hmin, ha]
    unfold ref_SummaryThen_l1
    simp (disch := first | assumption | omega) only [cond_false, Option.bind_some, Sum.elim_inl, dcF, wrapS, List.length_cons, List.length_nil, Bool.and_true, Bool.true_and, ref_SummaryOut_eq (show m + k.length ≤ 4 by omega)]) (s0 := (0, (0, 0, [], ()), [], (0, 0, ()), ())) (by
    have h1 : pushTo M x 0 = [] := by unfold pushTo; rw [Nat.zero_sub]; rfl
    have h2 : addTo M x 0 = 0 := by unfold addTo; rw [if_neg (by show ¬ min m n ≤ 0; omega)]
    rw [h1, h2, Nat.zero_min]; rfl)
  unfold ref_SummaryThen
  simp (disch := first | assumption | omega) only [cond_false, Option.bind_some, ref_SummaryCheck_eq, hs, hr, bneF, ref_SummaryOut_eq (show n + l.length ≤ 4 by omega), key]
  have hU : ∀ j, ((6, (0, 0, [], ()), pushTo M x (j + 1), (((min (j + 1) M : Nat) : Int), addTo M x (j + 1), ()), ()) : ThenU) = U j := fun j => rfl
  unfold thenR
  by_cases hx : x (m - 1) > 1048576
  · have hf : ∃ j, ((List.range (m + k.length)).findSome? fun j => cond (decide (x j > 1048576)) (some (U j)) none) = some (U j) := by
      cases hf : (List.range (m + k.length)).findSome? fun j => cond (decide (x j > 1048576)) (some (U j)) none with
      | none =>
        have := List.findSome?_eq_none_iff.1 hf (m - 1) (List.mem_range.2 (by omega))
        rw [decide_eq_true hx] at this; cases this
      | some v =>
        obtain ⟨j, _, hj⟩ := List.exists_of_findSome?_eq_some hf
        cases hd : decide (x j > 1048576)
        · rw [hd] at hj; cases hj
        · rw [hd] at hj; cases hj; exact ⟨j, rfl⟩
    obtain ⟨j, hj⟩ := hf
    rw [hj, if_pos hx]; rfl
  · have hf : ((List.range (m + k.length)).findSome? fun j => cond (decide (x j > 1048576)) (some (U j)) none) = none := List.findSome?_eq_none_iff.2 fun j _ => by
      have : ¬ x j > 1048576 := by
        by_cases h : j = m - 1
        · rw [h]; exact hx
        · have : x j ≤ 1048576 := thenX_last hs hr h
          omega
      rw [decide_eq_false this]; rfl
    rw [hf, if_neg hx]; rfl

/-! Which of two is less. -/
def plcs (n : Nat) (d : Int) (l : List Int) (i : Nat) : Int × Bool × Unit := (plc n d l i, decide (i < n), ())
theorem summary_places_eq {n : Nat} {d : Int} {l : List Int} (h1 : 1 ≤ n) (h : n + l.length ≤ 4) : summary_places (((n : Int), d, l, ()), ()) = some (tab (n + l.length) (plcs n d l), ()) := by
  have l1 := loopM_sim (f := summary_places_l1 (((n : Int), d, l, ()), ())) n (fun j => ((j : Int), tab n (fun i => ((0 : Int), decide (i < j), ())), ())) (.inl (tab n (fun i => ((0 : Int), decide (i < n), ())), ())) (fun j hj => by
    unfold summary_places_l1
    simp (disch := first | assumption | omega) only [cond_true, Option.bind_some, dcT, dcF, get_tab, inB_T, Int.toNat_natCast, wrapS, length_tab, List.length_replicate, tab_set]
    refine congrArg (fun x => some (Sum.inl (_, x, ()))) (tab_congr fun i _ => ?_)
    by_cases e : i = j
    · subst e; simp
    · have : decide (i < j + 1) = decide (i < j) := by simp; omega
      rw [if_neg e, this]) (by
    unfold summary_places_l1
    simp (disch := first | assumption | omega) only [cond_false, dcF, Int.toNat_natCast, wrapS, length_tab, List.length_replicate]) (s0 := (0, List.replicate n ((0 : Int), false, ()), ())) (by rw [rep_tab]; rfl)
  have e1 : IntKind.i64.wrap ((n : Int) - 1) = ((n - 1 : Nat) : Int) := by rw [wrap64 (by omega) (by omega)]; omega
  have e2 : (tab n (fun i => ((0 : Int), decide (i < n), ()))).set (n - 1) (d, true, ()) = tab n (plcs n d l) := by
    rw [tab_set]
    refine tab_congr fun i hi => ?_
    unfold plcs plc
    by_cases e : i = n - 1
    · rw [if_pos e, if_pos hi, if_pos (by omega), e, decide_eq_true (show n - 1 < n by omega)]
    · rw [if_neg e, if_pos hi, if_neg (by omega)]
  have l2 := loopM_sim (f := summary_places_l2 (((n : Int), d, l, ()), ())) l.length (fun j => (tab (n + j) (plcs n d l), (j : Int), ())) (.inl (tab (n + l.length) (plcs n d l), ())) (fun j hj => by
    have e3 : plcs n d l (n + j) = (l.getD j 0, false, ()) := by
      unfold plcs plc
      rw [if_neg (by omega), decide_eq_false (by omega), show n + j - n = j by omega]
    unfold summary_places_l2
    simp (disch := first | assumption | omega) only [cond_true, Option.bind_some, dcT, wrapS, length_tab, List.length_cons, List.length_nil, room16, Bool.and_self, getI_int, ← Nat.add_assoc, tab_succ, e3]) (by
    unfold summary_places_l2
    simp (disch := first | assumption | omega) only [cond_true, cond_false, dcF, wrapS, length_tab, List.length_cons, List.length_nil, room16, Bool.and_self]) (s0 := (tab n (plcs n d l), 0, ())) rfl
  unfold summary_places
  simp (disch := first | assumption | omega) only [cond_true, Option.bind_some, Sum.elim_inl, dcT, get_tab, inB_T, Int.toNat_natCast, length_tab, room16, Bool.and_true, Bool.true_and, Bool.and_self, summary_Out_eq h, l1, e1, e2, l2]

def lessBad (n : Nat) (d : Int) (l : List Int) (m : Nat) (e : Int) (k : List Int) (i : Nat) : Bool := decide (plc n d l i > plc m e k i) || (decide (i < n) && !decide (i < m))
theorem summary_Leq_eq {n m : Nat} {d e : Int} {l k : List Int} (hs : sck n d l 4 = 0) (hr : sck m e k 4 = 0) :
    summary_Leq (((n : Int), d, l, ()), ((m : Int), e, k, ()), ()) = some (decide (n + l.length = m + k.length) && !(List.range (n + l.length)).any (lessBad n d l m e k), ()) := by
  obtain ⟨s1, s2, s3, s4, s5, s6⟩ := sck_zero hs
  obtain ⟨r1, r2, r3, r4, r5, r6⟩ := sck_zero hr
  unfold summary_Leq
  simp (disch := first | assumption | omega) only [cond_false, Option.bind_some, summary_Check_eq, hs, hr, bneF, summary_Out_eq (show n + l.length ≤ 4 by omega), summary_Out_eq (show m + k.length ≤ 4 by omega)]
  by_cases hq : n + l.length = m + k.length
  · have q1 : (((n + l.length : Nat) : Int) != ((m + k.length : Nat) : Int)) = false := bneF (by omega)
    have key : loopM (summary_Leq_l1 (tab (n + l.length) (plcs n d l), ()) (tab (m + k.length) (plcs m e k), ())) (0, ()) = some (if (List.range (n + l.length)).any (lessBad n d l m e k) = true then .inl (false, ()) else .inr (.inl ())) := by
      refine loopM_any0 (n + l.length) () _ _ _ (fun i hi => ?_) ?_
      · have hi2 : i < m + k.length := by omega
        unfold summary_Leq_l1
        simp (disch := first | assumption | omega) only [cond_true, Option.bind_some, dcT, get_tab, inB_T, Int.toNat_natCast, wrapS, length_tab]
        unfold lessBad plcs
        by_cases h1 : plc n d l i > plc m e k i
        · simp (disch := first | assumption | omega) only [decide_true, cond_true, h1] <;> rfl
        · simp (disch := first | assumption | omega) only [decide_false, cond_false, h1, Bool.false_or]
          cases decide (i < n) <;> cases decide (i < m) <;> rfl
      · unfold summary_Leq_l1
        simp (disch := first | assumption | omega) only [cond_false, dcF, Int.toNat_natCast, wrapS, length_tab]
    simp (disch := first | assumption | omega) only [cond_false, Option.bind_some, dcT, Bool.true_and, q1, summary_places_eq (n := n) (d := d) (l := l) (by omega) (by omega), summary_places_eq (n := m) (d := e) (l := k) (by omega) (by omega), key]
    cases (List.range (n + l.length)).any (lessBad n d l m e k) <;> rfl
  · have q1 : (((n + l.length : Nat) : Int) != ((m + k.length : Nat) : Int)) = true := bneT (by omega)
    simp (disch := first | assumption | omega) only [decide_false, cond_true, q1, hq, Bool.false_and]
theorem ref_SummaryLeq_eq {n m : Nat} {d e : Int} {l k : List Int} (hs : sck n d l 4 = 0) (hr : sck m e k 4 = 0) :
    ref_SummaryLeq (((n : Int), d, l, ()), ((m : Int), e, k, ()), ()) = some (decide (n + l.length = m + k.length) && !(List.range (n + l.length)).any (lessBad n d l m e k), ()) := by
  obtain ⟨s1, s2, s3, s4, s5, s6⟩ := sck_zero hs
  obtain ⟨r1, r2, r3, r4, r5, r6⟩ := sck_zero hr
  unfold ref_SummaryLeq
  simp (disch := first | assumption | omega) only [cond_false, Option.bind_some, ref_SummaryCheck_eq, hs, hr, bneF, ref_SummaryOut_eq (show n + l.length ≤ 4 by omega), ref_SummaryOut_eq (show m + k.length ≤ 4 by omega)]
  by_cases hq : n + l.length = m + k.length
  · have q1 : (((n + l.length : Nat) : Int) != ((m + k.length : Nat) : Int)) = false := bneF (by omega)
    have key : loopM (ref_SummaryLeq_l1 (((n : Int), d, l, ()), ((m : Int), e, k, ()), ())) (0, ()) = some (if (List.range (n + l.length)).any (lessBad n d l m e k) = true then .inl (false, ()) else .inr (.inl ())) := by
      refine loopM_any0 (n + l.length) () _ _ _ (fun i hi => ?_) ?_
      · have hp := ref_SummaryPlace_eq (n := n) (d := d) (l := l) (by omega) (by omega) hi
        have hp2 := ref_SummaryPlace_eq (n := m) (d := e) (l := k) (by omega) (by omega) (show i < m + k.length by omega)
        unfold ref_SummaryLeq_l1
        simp (disch := first | assumption | omega) only [cond_true, Option.bind_some, dcT, wrapS, ref_SummaryOut_eq (show n + l.length ≤ 4 by omega), hp, hp2]
        unfold lessBad
        by_cases h1 : plc n d l i > plc m e k i
        · simp (disch := first | assumption | omega) only [decide_true, cond_true, h1] <;> rfl
        · by_cases h2 : i < n
          · by_cases h3 : i < m
            · simp (disch := first | assumption | omega) only [decide_true, decide_false, cond_true, cond_false, dcT, dcF, Bool.true_and, Bool.not_true, h1, h2, h3] <;> rfl
            · simp (disch := first | assumption | omega) only [decide_true, decide_false, cond_true, cond_false, dcT, Bool.and_self, Bool.not_false, h1, h2, h3] <;> rfl
          · simp (disch := first | assumption | omega) only [decide_false, cond_false, dcF, h1, h2] <;> rfl
      · unfold ref_SummaryLeq_l1
        simp (disch := first | assumption | omega) only [cond_true, cond_false, Option.bind_some, dcT, dcF, wrapS, ref_SummaryOut_eq (show n + l.length ≤ 4 by omega)]
    simp (disch := first | assumption | omega) only [cond_false, Option.bind_some, dcT, Bool.true_and, q1, key]
    cases (List.range (n + l.length)).any (lessBad n d l m e k) <;> rfl
  · have q1 : (((n + l.length : Nat) : Int) != ((m + k.length : Nat) : Int)) = true := bneT (by omega)
    simp (disch := first | assumption | omega) only [decide_false, cond_true, q1, hq, Bool.false_and]

end Go.Proofs.Try
