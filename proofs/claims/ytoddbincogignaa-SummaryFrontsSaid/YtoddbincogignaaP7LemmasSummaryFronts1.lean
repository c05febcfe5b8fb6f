/- Lemmas on functions of the program, by name. -/
import Derived.Test.YtoddbincogignaaP7Funs
import Derived.Test.YtoddbincogignaaAbsSums
namespace Go.Proofs.Try
section
open Go Go.Abs


/-- Out of the range of whole numbers that a time may hold. -/
def bad (v : Int) : Bool := decide (v < 0) || decide (v > 1048576)

theorem bad_two {β : Type} (v : Int) (b : β) (s : Int × Unit) : (cond (decide (v < (0 : Int))) (some (Sum.inr b)) (cond (decide (v > (1048576 : Int))) (some (Sum.inr b)) (some (Sum.inl s))) : Option ((Int × Unit) ⊕ β)) = some (if bad v = true then .inr b else .inl s) := by
  unfold bad
  by_cases h1 : v < 0
  · simp [h1]
  · by_cases h2 : v > 1048576
    · simp [h1, h2]
    · simp [h1, h2]

theorem bad_ok {v : Int} (h : bad v = false) : 0 ≤ v ∧ v ≤ 1048576 := by
  unfold bad at h
  simp at h
  omega
end

section
open Go Go.Abs


/-! ### summary.Check -/
theorem summary_within_eq (v : Int) : summary_within (v, ()) = some (!bad v, ()) := by
  unfold summary_within bad
  simp only [cond_dec]
  by_cases h1 : v ≥ 0
  · have h2 : ¬ v < 0 := by omega
    by_cases h3 : v ≤ 1048576
    · have h4 : ¬ v > 1048576 := by omega
      simp [h1, h2, h3, h4]
    · have h4 : v > 1048576 := by omega
      simp [h1, h2, h3, h4]
  · have h2 : v < 0 := by omega
    simp [h1, h2]

/-- The check of a summary (n, d, l) at m coordinates. -/
def sck (n d : Int) (l : List Int) (m : Int) : Int := if m < 1 ∨ m > 4 ∨ n < 1 ∨ n > m ∨ (l.length : Int) > 4 - n then 1 else if (bad d || l.any bad) = true then 2 else 0

theorem sck_zero {n d m : Int} {l : List Int} (h : sck n d l m = 0) : 1 ≤ n ∧ n ≤ m ∧ m ≤ 4 ∧ (l.length : Int) ≤ 4 - n ∧ (0 ≤ d ∧ d ≤ 1048576) ∧ ∀ (i : Nat) (v : Int), l[i]? = some v → 0 ≤ v ∧ v ≤ 1048576 := by
  unfold sck at h
  split at h
  · cases h
  · rename_i h1
    split at h
    · cases h
    · rename_i h2
      rw [Bool.not_eq_true, Bool.or_eq_false_iff] at h2
      refine ⟨by omega, by omega, by omega, by omega, bad_ok h2.1, fun i v hi => bad_ok ?_⟩
      cases hb : bad v with
      | false => rfl
      | true =>
        have := List.any_eq_true.2 ⟨v, List.mem_of_getElem? hi, hb⟩
        rw [h2.2] at this; cases this

theorem summary_Check_eq (n d m : Int) (l : List Int) : summary_Check ((n, d, l, ()), m, ()) = some (sck n d l m, ()) := by
  unfold summary_Check sck
  simp only [cond_dec]
  by_cases h1 : m < 1
  · simp [h1]
  · by_cases h2 : m > 4
    · simp [h1, h2]
    · by_cases h3 : n < 1
      · simp [h1, h2, h3]
      · by_cases h4 : n > m
        · simp [h1, h2, h3, h4]
        · rw [wrap64 (by omega) (by omega)]
          by_cases h5 : (l.length : Int) > 4 - n
          · simp [h1, h2, h3, h4, h5]
          · rw [if_neg h1, if_neg h2, if_neg h3, if_neg h4, if_neg h5, if_neg (by omega)]
            have hlen : ([d] ++ l).length = l.length + 1 := by simp
            have hr : roomOk (([d]).length + l.length) 8 = true := room8 (by simp; omega)
            rw [hr, Bool.and_true, Bool.and_true, Bool.and_true, cond_true]
            have key := loopM_all (f := summary_Check_l1 ((n, d, l, ()), m, ())) ([d] ++ l) bad (Sum.inl (2, ())) (Sum.inr (Sum.inl ())) (fun i v hi => by
                have hlt := (List.getElem?_eq_some_iff.1 hi).1
                have hi' : ((i : Int) < (([d] ++ l).length : Int)) := by omega
                have hib : inB (i : Int) ([d] ++ l).length = true := by simp only [inB, Bool.and_eq_true, decide_eq_true_eq]; omega
                unfold summary_Check_l1
                simp only [hi', decide_true, hib, cond_true, Int.toNat_natCast, hi, Option.bind_some, summary_within_eq, Bool.not_not]
                rw [wrap64 (by omega) (by omega)]
                cases bad v <;> rfl) (by simp [summary_Check_l1])
            rw [key]
            have hany : ([d] ++ l).any bad = (bad d || l.any bad) := by simp
            rw [hany]
            split <;> rfl

theorem ref_SummaryCheck_loop (n d m : Int) (l : List Int) (hl : l.length ≤ 4) : loopM (ref_SummaryCheck_l1 ((n, d, l, ()), m, ())) (0, ()) = some (if l.any bad = true then Sum.inl (2, ()) else Sum.inr (Sum.inl ())) := by
  refine loopM_all l bad (Sum.inl (2, ())) (Sum.inr (Sum.inl ())) (fun i v hi => ?_) ?_
  · have hlt := (List.getElem?_eq_some_iff.1 hi).1
    have hi' : ((i : Int) < (l.length : Int)) := by omega
    unfold ref_SummaryCheck_l1
    simp only [hi', decide_true, cond_true, getI_nat, hi, Option.bind_some]
    rw [wrap64 (by omega) (by omega)]
    exact bad_two v _ _
  · simp [ref_SummaryCheck_l1]

theorem ref_SummaryCheck_eq (n d m : Int) (l : List Int) : ref_SummaryCheck ((n, d, l, ()), m, ()) = some (sck n d l m, ()) := by
  unfold ref_SummaryCheck sck
  by_cases h1 : m < 1
  · simp [h1]
  · by_cases h2 : m > 4
    · simp [h1, h2]
    · by_cases h3 : n < 1
      · simp [h1, h2, h3]
      · by_cases h4 : n > m
        · simp [h1, h2, h3, h4]
        · by_cases h5 : (l.length : Int) > 4
          · have h6 : (l.length : Int) > 4 - n := by omega
            simp [h1, h2, h3, h4, h5, h6]
          · by_cases h6 : (l.length : Int) > 4 - n
            · have h7 : IntKind.i64.wrap (n + (l.length : Int)) > 4 := by rw [wrap64 (by omega) (by omega)]; omega
              simp [h1, h2, h3, h4, h5, h6, h7]
            · have h7 : ¬ (IntKind.i64.wrap (n + (l.length : Int)) > 4) := by rw [wrap64 (by omega) (by omega)]; omega
              simp only [h1, h2, h3, h4, h5, h7, decide_false, cond_false]
              have hn : ¬ (False ∨ False ∨ False ∨ False ∨ (l.length : Int) > 4 - n) := by simp; omega
              rw [if_neg hn]
              by_cases h8 : bad d = true
              · rw [h8, Bool.true_or, if_pos rfl]
                unfold bad at h8
                by_cases h9 : d < 0
                · simp [h9]
                · have h10 : d > 1048576 := by simpa [h9] using h8
                  simp [h9, h10]
              · have h8 : bad d = false := by simpa using h8
                have hd := bad_ok h8
                have h9 : ¬ d < 0 := by omega
                have h10 : ¬ d > 1048576 := by omega
                simp only [h9, h10, decide_false, cond_false]
                rw [ref_SummaryCheck_loop n d m l (by omega), h8, Bool.false_or]
                split <;> rfl
end

section
open Go Go.Abs


/-- What a summary puts, or adds, at a place. -/
def plc (n : Nat) (d : Int) (l : List Int) (i : Nat) : Int := if i < n then (if i + 1 = n then d else 0) else l.getD (i - n) 0
theorem ref_SummaryPlace_eq {n : Nat} {d : Int} {l : List Int} (hn1 : 1 ≤ n) (hn : n + l.length ≤ 4) {i : Nat} (hi : i < n + l.length) : ref_SummaryPlace (((n : Int), d, l, ()), (i : Int), ()) = some (plc n d l i, ()) := by
  have e1 : IntKind.i64.wrap ((n : Int) - 1) = (n : Int) - 1 := wrap64 (by omega) (by omega)
  unfold ref_SummaryPlace plc
  by_cases h : i < n
  · by_cases h1 : i + 1 = n
    · have : ((i : Int) == (n : Int) - 1) = true := beqT (by omega)
      simp (disch := first | assumption | omega) only [cond_true, cond_false, dcF, if_true, e1, this, h, h1]
    · have : ((i : Int) == (n : Int) - 1) = false := beqF (by omega)
      simp (disch := first | assumption | omega) only [cond_false, dcF, if_true, if_false, e1, this, h, h1]
  · have e2 : IntKind.i64.wrap ((i : Int) - (n : Int)) = ((i - n : Nat) : Int) := by rw [wrap64 (by omega) (by omega)]; omega
    simp (disch := first | assumption | omega) only [cond_true, Option.bind_some, dcT, if_false, e2, h, getI_int]
theorem plc_in {n : Nat} {d : Int} {l : List Int} (hd : 0 ≤ d ∧ d ≤ 1048576) (hl : ∀ (i : Nat) (v : Int), l[i]? = some v → 0 ≤ v ∧ v ≤ 1048576) (i : Nat) : 0 ≤ plc n d l i ∧ plc n d l i ≤ 1048576 := by
  unfold plc
  split
  · split
    · exact hd
    · omega
  · by_cases h : i - n < l.length
    · exact hl (i - n) _ (getD_get h)
    · rw [List.getD_eq_getElem?_getD, List.getElem?_eq_none (by omega)]; simp

/-- Place by place what one behind the other does. -/
def thenX (n : Nat) (d : Int) (l : List Int) (m : Nat) (e : Int) (k : List Int) (i : Nat) : Int := if i < m then plc m e k i + plc n d l i else plc m e k i
def thenR (n : Nat) (d : Int) (l : List Int) (m : Nat) (e : Int) (k : List Int) : (Int × Int × List Int × Unit) × Int × Unit :=
  if thenX n d l m e k (m - 1) > 1048576 then ((0, 0, [], ()), 6, ()) else ((((min m n : Nat) : Int), thenX n d l m e k (min m n - 1), (List.range' (min m n) (m + k.length - min m n)).map (thenX n d l m e k), ()), 0, ())

theorem summary_Out_eq {n : Nat} {d : Int} {l : List Int} (h : n + l.length ≤ 4) : summary_Out (((n : Int), d, l, ()), ()) = some (((n + l.length : Nat) : Int), ()) := by
  unfold summary_Out
  exact congrArg (fun x => some (x, ())) (wrap64 (x := (n : Int) + (l.length : Int)) (by omega) (by omega))
theorem ref_SummaryOut_eq {n : Nat} {d : Int} {l : List Int} (h : n + l.length ≤ 4) : ref_SummaryOut (((n : Int), d, l, ()), ()) = some (((n + l.length : Nat) : Int), ()) := by
  unfold ref_SummaryOut
  exact congrArg (fun x => some (x, ())) (wrap64 (x := (n : Int) + (l.length : Int)) (by omega) (by omega))
theorem bad_pos {v : Int} (h : 0 ≤ v) : bad v = decide (v > 1048576) := by
  unfold bad
  have : ¬ v < 0 := by omega
  simp [this]

theorem range_push {a : Nat} (f : Nat → Int) (l : List Int) (h : ∀ i, i < l.length → f (a + i) = l.getD i 0) : (List.range' a l.length).map f = l := by
  apply List.ext_getElem?
  intro i
  by_cases hi : i < l.length
  · rw [List.getElem?_map, List.getElem?_range' hi]
    simp only [Option.map_some, Nat.one_mul, h i hi]
    exact (getD_get hi).symm
  · rw [List.getElem?_eq_none (by simpa using hi), List.getElem?_eq_none (by omega)]

theorem thenX_last {n m : Nat} {d e : Int} {l k : List Int} (hs : sck n d l 4 = 0) (hr : sck m e k ((n + l.length : Nat) : Int) = 0) {i : Nat} (h : ¬ i = m - 1) : thenX n d l m e k i ≤ 1048576 := by
  obtain ⟨s1, s2, s3, s4, s5, s6⟩ := sck_zero hs
  obtain ⟨r1, r2, r3, r4, r5, r6⟩ := sck_zero hr
  have h1 := plc_in (n := n) s5 s6 i
  have h2 := plc_in (n := m) r5 r6 i
  unfold thenX
  by_cases hi : i < m
  · rw [if_pos hi]
    have : plc m e k i = 0 := by unfold plc; rw [if_pos hi, if_neg (by omega)]
    omega
  · rw [if_neg hi]; omega
theorem thenX_in {n m : Nat} {d e : Int} {l k : List Int} (hs : sck n d l 4 = 0) (hr : sck m e k ((n + l.length : Nat) : Int) = 0) (i : Nat) : 0 ≤ thenX n d l m e k i ∧ thenX n d l m e k i ≤ 2097152 := by
  obtain ⟨s1, s2, s3, s4, s5, s6⟩ := sck_zero hs
  obtain ⟨r1, r2, r3, r4, r5, r6⟩ := sck_zero hr
  have h1 := plc_in (n := n) s5 s6 i
  have h2 := plc_in (n := m) r5 r6 i
  unfold thenX
  split <;> omega

/-- What the reference holds behind the first j places. -/
abbrev ThenU : Type := (Int × (Int × Int × List Int × Unit) × List Int × (Int × Int × Unit) × Unit)
def pushTo (M : Nat) (x : Nat → Int) (j : Nat) : List Int := (List.range' M (j - M)).map x
def addTo (M : Nat) (x : Nat → Int) (j : Nat) : Int := if M ≤ j then x (M - 1) else 0
theorem pushTo_keep {M j : Nat} (x : Nat → Int) (h : j < M) : pushTo M x (j + 1) = pushTo M x j := by
  unfold pushTo; rw [show j + 1 - M = 0 by omega, show j - M = 0 by omega]
theorem pushTo_more {M j : Nat} (x : Nat → Int) (h : ¬ j < M) : pushTo M x (j + 1) = pushTo M x j ++ [x j] := by
  unfold pushTo
  rw [show j + 1 - M = (j - M) + 1 by omega, List.range'_concat, List.map_append]
  simp only [Nat.one_mul, List.map_cons, List.map_nil]
  rw [show M + (j - M) = j by omega]
theorem pushTo_len (M : Nat) (x : Nat → Int) (j : Nat) : (pushTo M x j).length ≤ j := by
  unfold pushTo; simp

/-! Which of two is less. -/
def plcs (n : Nat) (d : Int) (l : List Int) (i : Nat) : Int × Bool × Unit := (plc n d l i, decide (i < n), ())
theorem summary_places_eq {n : Nat} {d : Int} {l : List Int} (h1 : 1 ≤ n) (h : n + l.length ≤ 4) : summary_places (((n : Int), d, l, ()), ()) = some (tab (n + l.length) (plcs n d l), ()) := by
  have l1 := loopM_sim (f := summary_places_l1 (((n : Int), d, l, ()), ())) n (fun j => ((j : Int), tab n (fun i => ((0 : Int), decide (i < j), ())), ())) (.inl (tab n (fun i => ((0 : Int), decide (i < n), ())), ())) (fun j hj => by
    unfold summary_places_l1
    simp (disch := first | assumption | omega) only [cond_true, Option.bind_some, dcT, dcF, get_tab, inB_T, Int.toNat_natCast, wrapS, length_tab, List.length_replicate, tab_set]
    refine congrArg (fun x => some (Sum.inl (_, x, ()))) (tab_congr fun i _ => ?_)
    by_cases e : i = j
    · subst e; simp
    · have : decide (i < j + 1) = decide (i < j) := by simp; omega
      rw [if_neg e, this]) (by
    unfold summary_places_l1
    simp (disch := first | assumption | omega) only [cond_false, dcF, Int.toNat_natCast, wrapS, length_tab, List.length_replicate]) (s0 := (0, List.replicate n ((0 : Int), false, ()), ())) (by rw [rep_tab]; rfl)
  have e1 : IntKind.i64.wrap ((n : Int) - 1) = ((n - 1 : Nat) : Int) := by rw [wrap64 (by omega) (by omega)]; omega
  have e2 : (tab n (fun i => ((0 : Int), decide (i < n), ()))).set (n - 1) (d, true, ()) = tab n (plcs n d l) := by
    rw [tab_set]
    refine tab_congr fun i hi => ?_
    unfold plcs plc
    by_cases e : i = n - 1
    · rw [if_pos e, if_pos hi, if_pos (by omega), e, decide_eq_true (show n - 1 < n by omega)]
    · rw [if_neg e, if_pos hi, if_neg (by omega)]
  have l2 := loopM_sim (f := summary_places_l2 (((n : Int), d, l, ()), ())) l.length (fun j => (tab (n + j) (plcs n d l), (j : Int), ())) (.inl (tab (n + l.length) (plcs n d l), ())) (fun j hj => by
    have e3 : plcs n d l (n + j) = (l.getD j 0, false, ()) := by
      unfold plcs plc
      rw [if_neg (by omega), decide_eq_false (by omega), show n + j - n = j by omega]
    unfold summary_places_l2
    simp (disch := first | assumption | omega) only [cond_true, Option.bind_some, dcT, wrapS, length_tab, List.length_cons, List.length_nil, room16, Bool.and_self, getI_int, ← Nat.add_assoc, tab_succ, e3]) (by
    unfold summary_places_l2
    simp (disch := first | assumption | omega) only [cond_true, cond_false, dcF, wrapS, length_tab, List.length_cons, List.length_nil, room16, Bool.and_self]) (s0 := (tab n (plcs n d l), 0, ())) rfl
  unfold summary_places
  simp (disch := first | assumption | omega) only [cond_true, Option.bind_some, Sum.elim_inl, dcT, get_tab, inB_T, Int.toNat_natCast, length_tab, room16, Bool.and_true, Bool.true_and, Bool.and_self, summary_Out_eq h, l1, e1, e2, l2]

def lessBad (n : Nat) (d : Int) (l : List Int) (m : Nat) (e : Int) (k : List Int) (i : Nat) : Bool := decide (plc n d l i > plc m e k i) || (decide (i < n) && !decide (i < m))
theorem summary_Leq_eq {n m : Nat} {d e : Int} {l k : List Int} (hs : sck n d l 4 = 0) (hr : sck m e k 4 = 0) :
    summary_Leq (((n : Int), d, l, ()), ((m : Int), e, k, ()), ()) = some (decide (n + l.length = m + k.length) && !(List.range (n + l.length)).any (lessBad n d l m e k), ()) := by
  obtain ⟨s1, s2, s3, s4, s5, s6⟩ := sck_zero hs
  obtain ⟨r1, r2, r3, r4, r5, r6⟩ := sck_zero hr
  unfold summary_Leq
  simp (disch := first | assumption | omega) only [cond_false, Option.bind_some, summary_Check_eq, hs, hr, bneF, summary_Out_eq (show n + l.length ≤ 4 by omega), summary_Out_eq (show m + k.length ≤ 4 by omega)]
  by_cases hq : n + l.length = m + k.length
  · have q1 : (((n + l.length : Nat) : Int) != ((m + k.length : Nat) : Int)) = false := bneF (by omega)
    have key : loopM (summary_Leq_l1 (tab (n + l.length) (plcs n d l), ()) (tab (m + k.length) (plcs m e k), ())) (0, ()) = some (if (List.range (n + l.length)).any (lessBad n d l m e k) = true then .inl (false, ()) else .inr (.inl ())) := by
      refine loopM_any0 (n + l.length) () _ _ _ (fun i hi => ?_) ?_
      · have hi2 : i < m + k.length := by omega
        unfold summary_Leq_l1
        simp (disch := first | assumption | omega) only [cond_true, Option.bind_some, dcT, get_tab, inB_T, Int.toNat_natCast, wrapS, length_tab]
        unfold lessBad plcs
        by_cases h1 : plc n d l i > plc m e k i
        · simp (disch := first | assumption | omega) only [decide_true, cond_true, h1] <;> rfl
        · simp (disch := first | assumption | omega) only [decide_false, cond_false, h1, Bool.false_or]
          cases decide (i < n) <;> cases decide (i < m) <;> rfl
      · unfold summary_Leq_l1
        simp (disch := first | assumption | omega) only [cond_false, dcF, Int.toNat_natCast, wrapS, length_tab]
    simp (disch := first | assumption | omega) only [cond_false, Option.bind_some, dcT, Bool.true_and, q1, summary_places_eq (n := n) (d := d) (l := l) (by omega) (by omega), summary_places_eq (n := m) (d := e) (l := k) (by omega) (by omega), key]
    cases (List.range (n + l.length)).any (lessBad n d l m e k) <;> rfl
  · have q1 : (((n + l.length : Nat) : Int) != ((m + k.length : Nat) : Int)) = true := bneT (by omega)
    simp (disch := first | assumption | omega) only [decide_false, cond_true, q1, hq, Bool.false_and]
theorem ref_SummaryLeq_eq {n m : Nat} {d e : Int} {l k : List Int} (hs : sck n d l 4 = 0) (hr : sck m e k 4 = 0) :
    ref_SummaryLeq (((n : Int), d, l, ()), ((m : Int), e, k, ()), ()) = some (decide (n + l.length = m + k.length) && !(List.range (n + l.length)).any (lessBad n d l m e k), ()) := by
  obtain ⟨s1, s2, s3, s4, s5, s6⟩ := sck_zero hs
  obtain ⟨r1, r2, r3, r4, r5, r6⟩ := sck_zero hr
  unfold ref_SummaryLeq
  simp (disch := first | assumption | omega) only [cond_false, Option.bind_some, ref_SummaryCheck_eq, hs, hr, bneF, ref_SummaryOut_eq (show n + l.length ≤ 4 by omega), ref_SummaryOut_eq (show m + k.length ≤ 4 by omega)]
  by_cases hq : n + l.length = m + k.length
  · have q1 : (((n + l.length : Nat) : Int) != ((m + k.length : Nat) : Int)) = false := bneF (by omega)
    have key : loopM (ref_SummaryLeq_l1 (((n : Int), d, l, ()), ((m : Int), e, k, ()), ())) (0, ()) = some (if (List.range (n + l.length)).any (lessBad n d l m e k) = true then .inl (false, ()) else .inr (.inl ())) := by
      refine loopM_any0 (n + l.length) () _ _ _ (fun i hi => ?_) ?_
      · have hp := ref_SummaryPlace_eq (n := n) (d := d) (l := l) (by omega) (by omega) hi
        have hp2 := ref_SummaryPlace_eq (n := m) (d := e) (l := k) (by omega) (by omega) (show i < m + k.length by omega)
        unfold ref_SummaryLeq_l1
        simp (disch := first | assumption | omega) only [cond_true, Option.bind_some, dcT, wrapS, ref_SummaryOut_eq (show n + l.length ≤ 4 by omega), hp, hp2]
        unfold lessBad
        by_cases h1 : plc n d l i > plc m e k i
        · simp (disch := first | assumption | omega) only [decide_true, cond_true, h1] <;> rfl
        · by_cases h2 : i < n
          · by_cases h3 : i < m
            · simp (disch := first | assumption | omega) only [decide_true, decide_false, cond_true, cond_false, dcT, dcF, Bool.true_and, Bool.not_true, h1, h2, h3] <;> rfl
            · simp (disch := first | assumption | omega) only [decide_true, decide_false, cond_true, cond_false, dcT, Bool.and_self, Bool.not_false, h1, h2, h3] <;> rfl
          · simp (disch := first | assumption | omega) only [decide_false, cond_false, dcF, h1, h2] <;> rfl
      · unfold ref_SummaryLeq_l1
        simp (disch := first | assumption | omega) only [cond_true, cond_false, Option.bind_some, dcT, dcF, wrapS, ref_SummaryOut_eq (show n + l.length ≤ 4 by omega)]
    simp (disch := first | assumption | omega) only [cond_false, Option.bind_some, dcT, Bool.true_and, q1, key]
    cases (List.range (n + l.length)).any (lessBad n d l m e k) <;> rfl
  · have q1 : (((n + l.length : Nat) : Int) != ((m + k.length : Nat) : Int)) = true := bneT (by omega)
    simp (disch := first | assumption | omega) only [decide_false, cond_true, q1, hq, Bool.false_and]
end

section
open Go Go.Abs


/-! ### times.Check and its like -/
def chk (l : List Int) : Int := if l.length = 0 ∨ l.length > 4 then 1 else if l.any bad = true then 2 else 0

theorem chk_zero {l : List Int} (h : chk l = 0) : 0 < l.length ∧ l.length ≤ 4 ∧ ∀ (i : Nat) (v : Int), l[i]? = some v → 0 ≤ v ∧ v ≤ 1048576 := by
  unfold chk at h
  split at h
  · cases h
  · split at h
    · cases h
    · rename_i h1 h2
      refine ⟨by omega, by omega, fun i v hi => bad_ok ?_⟩
      have hm := List.mem_of_getElem? hi
      cases hb : bad v with
      | false => rfl
      | true => exact absurd (List.any_eq_true.2 ⟨v, hm, hb⟩) h2

theorem times_Check_loop (l : List Int) (hl : l.length ≤ 4) : loopM (times_Check_l1 (l, ())) (0, ()) = some (if l.any bad = true then Sum.inl (2, ()) else Sum.inr (Sum.inl ())) := by
  refine loopM_all l bad (Sum.inl (2, ())) (Sum.inr (Sum.inl ())) (fun i v hi => ?_) ?_
  · have hlt := (List.getElem?_eq_some_iff.1 hi).1
    have hi' : ((i : Int) < (l.length : Int)) := by omega
    unfold times_Check_l1
    simp only [hi', decide_true, cond_true, getI_nat, hi, Option.bind_some]
    rw [wrap64 (by omega) (by omega)]
    exact bad_two v _ _
  · simp [times_Check_l1]

theorem ref_TimesCheck_loop (l : List Int) (hl : l.length ≤ 4) : loopM (ref_TimesCheck_l1 (l, ())) (0, ()) = some (if l.any bad = true then Sum.inl (2, ()) else Sum.inr (Sum.inl ())) := by
  refine loopM_all l bad (Sum.inl (2, ())) (Sum.inr (Sum.inl ())) (fun i v hi => ?_) ?_
  · have hlt := (List.getElem?_eq_some_iff.1 hi).1
    have hi' : ((i : Int) < (l.length : Int)) := by omega
    unfold ref_TimesCheck_l1
    simp only [hi', decide_true, cond_true, getI_nat, hi, Option.bind_some]
    rw [wrap64 (by omega) (by omega)]
    exact bad_two v _ _
  · simp [ref_TimesCheck_l1]

theorem times_Check_eq (l : List Int) : times_Check (l, ()) = some (chk l, ()) := by
  unfold times_Check chk
  by_cases h0 : l.length = 0
  · simp [h0]
  · by_cases h4 : l.length > 4
    · have : ((l.length : Int) > 4) := by omega
      simp [h0, h4, this]
    · have h5 : ¬ ((l.length : Int) > 4) := by omega
      have h6 : ((l.length : Int) == 0) = false := by simp; exact fun h => h0 (by simp [h])
      simp only [h6, cond_false, h5, decide_false]
      have hn : ¬ (l.length = 0 ∨ l.length > 4) := by omega
      rw [times_Check_loop l (by omega), if_neg hn]
      split <;> rfl

theorem ref_TimesCheck_eq (l : List Int) : ref_TimesCheck (l, ()) = some (chk l, ()) := by
  unfold ref_TimesCheck chk
  by_cases h0 : l.length = 0
  · simp [h0]
  · have h6 : ¬ ((l.length : Int) < 1) := by omega
    by_cases h4 : l.length > 4
    · have : ((l.length : Int) > 4) := by omega
      simp [h4, this, h6]
    · have h5 : ¬ ((l.length : Int) > 4) := by omega
      simp only [h6, cond_false, h5, decide_false]
      have hn : ¬ (l.length = 0 ∨ l.length > 4) := by omega
      rw [ref_TimesCheck_loop l (by omega), if_neg hn]
      split <;> rfl
end

section
open Go Go.Abs


theorem find_map {β : Type} (p : Nat → Bool) (g : Nat → β) (l : List Nat) : (l.findSome? fun i => cond (p i) (some (g i)) none) = (l.find? p).map g := by
  induction l with
  | nil => rfl
  | cons a r ih =>
    rw [List.findSome?_cons, List.find?_cons]
    cases p a with
    | true => rfl
    | false => exact ih
theorem find_none_all {p : Nat → Bool} {n : Nat} (h : (List.range n).find? p = none) : ∀ i, i < n → p i = false := fun i hi => by
  have := List.find?_eq_none.1 h i (List.mem_range.2 hi)
  simpa using this
theorem find_const {β : Type} (p : Nat → Bool) (b : β) (l : List Nat) : (l.findSome? fun r => cond (p r) (some b) none) = if l.any p = true then some b else none := by
  induction l with
  | nil => rfl
  | cons a r ih =>
    rw [List.findSome?_cons, List.any_cons]
    cases p a with
    | true => rfl
    | false => rw [cond_false, ih]; simp
theorem getI_D {α : Type} {l : List α} {i : Int} (d : α) (h0 : 0 ≤ i) (h1 : i < l.length) : getI l i = some (l.getD i.toNat d) := by
  obtain ⟨k, rfl⟩ := Int.eq_ofNat_of_zero_le h0
  rw [getI_nat]
  rw [Int.toNat_natCast]
  exact getD_get (by omega)
theorem getI_lt {α : Type} {l : List α} {i : Nat} (h : i < l.length) : getI l (i : Int) = some l[i] := by
  rw [getI_nat, List.getElem?_eq_getElem h]
theorem room_ok {n k : Nat} (h : n ≤ 140737488355328) (h2 : n * k ≤ 140737488355328) : roomOk n k = true := by
  unfold roomOk
  rw [Bool.and_eq_true]
  exact ⟨Nat.ble_eq_true_of_le h, Nat.ble_eq_true_of_le h2⟩
end

section
open Go Go.Abs


/-! Times compared. -/
def cmpL : List Int → List Int → Int
  | [], [] => 0
  | [], _ :: _ => -1
  | _ :: _, [] => 1
  | a :: r, b :: s => if a < b then -1 else if a > b then 1 else cmpL r s
theorem cmpL_eq : ∀ {a b : List Int}, cmpL a b = 0 ↔ a = b
  | [], [] => by simp [cmpL]
  | [], _ :: _ => by simp [cmpL]
  | _ :: _, [] => by simp [cmpL]
  | a :: r, b :: s => by
    have ih := cmpL_eq (a := r) (b := s)
    simp only [cmpL, List.cons.injEq]
    split
    · constructor
      · intro h; omega
      · intro h; omega
    · split
      · constructor
        · intro h; omega
        · intro h; omega
      · rw [ih]; constructor
        · intro h; exact ⟨by omega, h⟩
        · exact fun h => h.2
theorem cmpL_neg : ∀ (a b : List Int), cmpL b a = - cmpL a b
  | [], [] => rfl
  | [], _ :: _ => rfl
  | _ :: _, [] => rfl
  | a :: r, b :: s => by
    have ih := cmpL_neg r s
    simp only [cmpL]
    by_cases h1 : a < b
    · rw [if_pos h1, if_neg (by omega), if_pos (by omega)]; rfl
    · by_cases h2 : a > b
      · rw [if_pos (show b < a from h2), if_neg h1, if_pos h2]
      · rw [if_neg h1, if_neg h2, if_neg (by omega), if_neg (by omega), ih]
theorem cmpL_trans : ∀ {a b c : List Int}, cmpL a b < 0 → cmpL b c < 0 → cmpL a c < 0
  | [], [], c, h, _ => by simp [cmpL] at h
  | [], _ :: _, [], _, h => by simp [cmpL] at h
  | [], _ :: _, _ :: _, _, _ => by simp [cmpL]
  | _ :: _, [], _, h, _ => by simp [cmpL] at h
  | _ :: _, _ :: _, [], _, h => by simp [cmpL] at h
  | a :: r, b :: s, c :: t, h1, h2 => by
    simp only [cmpL] at h1 h2 ⊢
    have ih := cmpL_trans (a := r) (b := s) (c := t)
    by_cases hab : a < b
    · by_cases hbc : b < c
      · rw [if_pos (by omega)]; decide
      · rw [if_neg hbc] at h2
        by_cases hbc2 : b > c
        · rw [if_pos hbc2] at h2; omega
        · rw [if_pos (by omega)]; decide
    · rw [if_neg hab] at h1
      by_cases hab2 : a > b
      · rw [if_pos hab2] at h1; omega
      · rw [if_neg hab2] at h1
        by_cases hbc : b < c
        · rw [if_pos (by omega)]; decide
        · rw [if_neg hbc] at h2
          by_cases hbc2 : b > c
          · rw [if_pos hbc2] at h2; omega
          · rw [if_neg hbc2] at h2
            rw [if_neg (by omega), if_neg (by omega)]
            exact ih h1 h2
theorem cmpL_irr (a : List Int) : ¬ cmpL a a < 0 := by rw [cmpL_eq.2 rfl]; decide

theorem cmp_Compare_eq (v w : Int) : cmp_Compare_int (v, w, ()) = some (if v < w then -1 else if v > w then 1 else 0, ()) := by
  unfold cmp_Compare_int cmp_isNaN_int
  simp only [bneF rfl, Option.bind_some, cond_false, cond_dec]
  split
  · rfl
  · split <;> rfl

theorem slices_Compare_eq {a b : List Int} (ha : a.length ≤ 1000000) : slices_Compare_s_int_int (a, b, ()) = some (cmpL a b, ()) := by
  have key : ∀ k i, i + k = a.length → i ≤ b.length → (loopM (slices_Compare_s_int_int_l1 (a, b, ())) ((i : Int), ())).bind (Sum.elim (fun z5 => (some z5)) (Sum.elim (fun z6 => (cond (decide ((a.length : Int) < (b.length : Int))) (some ((-1 : Int), ())) (some ((0 : Int), ())))) Empty.elim)) = some (cmpL (a.drop i) (b.drop i), ()) := by
    intro k
    induction k with
    | zero =>
      intro i hi hb
      have hi' : i = a.length := by omega
      rw [loopM_inr (b := .inr (.inl ())) (by
        unfold slices_Compare_s_int_int_l1
        simp only [dcF (show ¬ (i : Int) < (a.length : Int) by omega), cond_false])]
      rw [List.drop_of_length_le (by omega)]
      simp only [Option.bind_some, Sum.elim_inl, Sum.elim_inr, cond_dec]
      by_cases hlt : i < b.length
      · rw [List.drop_eq_getElem_cons hlt, if_pos (by omega)]; rfl
      · rw [List.drop_of_length_le (by omega), if_neg (by omega)]; rfl
    | succ k ih =>
      intro i hi hb
      have hia : i < a.length := by omega
      by_cases hib : i < b.length
      · have hst : slices_Compare_s_int_int_l1 (a, b, ()) ((i : Int), ()) = cond (cmpL [a[i]] [b[i]] != 0) (some (.inr (.inl (cmpL [a[i]] [b[i]], ())))) (some (.inl (((i + 1 : Nat) : Int), ()))) := by
          unfold slices_Compare_s_int_int_l1
          simp only [dcT (show (i : Int) < (a.length : Int) by omega), dcF (show ¬ (i : Int) ≥ (b.length : Int) by omega), cond_true, cond_false, getI_lt hia, getI_lt hib, Option.bind_some, cmp_Compare_eq, wrapS (show i < 9223372036854775807 by omega)]
          rfl
        rw [List.drop_eq_getElem_cons hia, List.drop_eq_getElem_cons hib]
        by_cases h1 : a[i] < b[i]
        · have hc : cmpL [a[i]] [b[i]] = -1 := by simp only [cmpL, if_pos h1]
          rw [hc] at hst
          rw [loopM_inr hst]; simp only [cmpL, if_pos h1]; rfl
        · by_cases h2 : a[i] > b[i]
          · have hc : cmpL [a[i]] [b[i]] = 1 := by simp only [cmpL, if_neg h1, if_pos h2]
            rw [hc] at hst
            rw [loopM_inr hst]; simp only [cmpL, if_neg h1, if_pos h2]; rfl
          · have hc : cmpL [a[i]] [b[i]] = 0 := by simp only [cmpL, if_neg h1, if_neg h2]
            rw [hc] at hst
            rw [loopM_inl hst, ih (i + 1) (by omega) (by omega)]
            simp only [cmpL, if_neg h1, if_neg h2]
      · have hst : slices_Compare_s_int_int_l1 (a, b, ()) ((i : Int), ()) = some (.inr (.inl ((1 : Int), ()))) := by
          unfold slices_Compare_s_int_int_l1
          simp only [dcT (show (i : Int) < (a.length : Int) by omega), dcT (show (i : Int) ≥ (b.length : Int) by omega), cond_true, getI_lt hia, Option.bind_some]
        rw [loopM_inr hst, List.drop_eq_getElem_cons hia, List.drop_of_length_le (l := b) (show b.length ≤ i by omega)]
        rfl
  unfold slices_Compare_s_int_int
  exact key a.length 0 (by omega) (by omega)

def lessB (a b : List Int) : Bool := decide (a.length = b.length) && (decide (chk a = 0) && (decide (chk b = 0) && decide (cmpL a b < 0)))
theorem lessB_iff {a b : List Int} : lessB a b = true ↔ a.length = b.length ∧ chk a = 0 ∧ chk b = 0 ∧ cmpL a b < 0 := by
  unfold lessB
  simp only [Bool.and_eq_true, decide_eq_true_eq]
theorem lessB_of {a b : List Int} (h : a.length = b.length) (ha : chk a = 0) (hb : chk b = 0) : lessB a b = decide (cmpL a b < 0) := by
  unfold lessB
  rw [decide_eq_true h, decide_eq_true ha, decide_eq_true hb]; rfl
theorem times_alike_eq (a b : List Int) : times_alike (a, b, ()) = some (decide (a.length = b.length) && (decide (chk a = 0) && decide (chk b = 0)), ()) := by
  unfold times_alike
  simp only [times_Check_eq, Option.bind_some, cond_beq]
  by_cases h : a.length = b.length
  · rw [if_pos (by omega), decide_eq_true h]
    by_cases h2 : chk a = 0
    · rw [if_pos h2, decide_eq_true h2]; simp only [Bool.true_and]; rfl
    · rw [if_neg h2, decide_eq_false h2]; rfl
  · rw [if_neg (by omega), decide_eq_false h]; rfl
theorem times_Less_eq (a b : List Int) : times_Less (a, b, ()) = some (lessB a b, ()) := by
  unfold times_Less lessB
  simp only [times_alike_eq, Option.bind_some]
  by_cases h : a.length = b.length
  · by_cases h2 : chk a = 0
    · by_cases h3 : chk b = 0
      · rw [slices_Compare_eq (show a.length ≤ 1000000 by have := (chk_zero h2).2.1; omega)]
        simp only [h, h2, h3, decide_true, Bool.and_self, cond_true, Option.bind_some, Bool.true_and]
      · simp only [h3, decide_false, Bool.and_false, cond_false, Bool.false_and]
    · simp only [h2, decide_false, Bool.and_false, Bool.false_and, cond_false]
  · simp only [h, decide_false, Bool.false_and, cond_false]

theorem ref_TimesLess_eq (a b : List Int) : ref_TimesLess (a, b, ()) = some (lessB a b, ()) := by
  unfold ref_TimesLess lessB
  simp only [ref_TimesCheck_eq, Option.bind_some, cond_bne]
  by_cases h : a.length = b.length
  · rw [if_pos (by omega), decide_eq_true h]
    by_cases h2 : chk a = 0
    · rw [if_pos h2, decide_eq_true h2]
      by_cases h3 : chk b = 0
      · rw [if_pos h3, decide_eq_true h3]
        have h4 := (chk_zero h2).2.1
        have key : ∀ k i, i + k = a.length → (loopM (ref_TimesLess_l1 (a, b, ())) ((i : Int), ())).bind (Sum.elim (fun z8 => (some z8)) (Sum.elim (fun z9 => (some (false, ()))) Empty.elim)) = some (decide (cmpL (a.drop i) (b.drop i) < 0), ()) := by
          intro k
          induction k with
          | zero =>
            intro i hi
            rw [loopM_inr (b := .inr (.inl ())) (by
              unfold ref_TimesLess_l1
              simp only [dcF (show ¬ (i : Int) < (a.length : Int) by omega), cond_false])]
            rw [List.drop_of_length_le (by omega), List.drop_of_length_le (by omega)]; rfl
          | succ k ih =>
            intro i hi
            have hia : i < a.length := by omega
            have hib : i < b.length := by omega
            have hst : ref_TimesLess_l1 (a, b, ()) ((i : Int), ()) = cond (a[i] != b[i]) (some (.inr (.inl (decide (a[i] < b[i]), ())))) (some (.inl (((i + 1 : Nat) : Int), ()))) := by
              unfold ref_TimesLess_l1
              simp only [dcT (show (i : Int) < (a.length : Int) by omega), cond_true, getI_lt hia, getI_lt hib, Option.bind_some, wrapS (show i < 9223372036854775807 by omega)]
            rw [List.drop_eq_getElem_cons hia, List.drop_eq_getElem_cons hib]
            by_cases he : a[i] = b[i]
            · rw [bneF he, cond_false] at hst
              rw [loopM_inl hst, ih (i + 1) (by omega)]
              simp only [cmpL, if_neg (show ¬ a[i] < b[i] by omega), if_neg (show ¬ a[i] > b[i] by omega)]
            · rw [bneT he, cond_true] at hst
              rw [loopM_inr hst]
              by_cases h1 : a[i] < b[i]
              · simp only [cmpL, if_pos h1, decide_eq_true h1]; rfl
              · simp only [cmpL, if_neg h1, if_pos (show a[i] > b[i] by omega), decide_eq_false h1]; rfl
        exact key a.length 0 (by omega)
      · rw [if_neg h3, decide_eq_false h3]; rfl
    · rw [if_neg h2, decide_eq_false h2]; rfl
  · rw [if_neg (by omega), decide_eq_false h]; rfl

theorem ref_TimesSame_eq {a b : List Int} (ha : a.length ≤ 1000000) : ref_TimesSame (a, b, ()) = some (decide (a = b), ()) := by
  unfold ref_TimesSame
  simp only [cond_bne]
  by_cases h : a.length = b.length
  · rw [if_pos (by omega)]
    have key : ∀ k i, i + k = a.length → (loopM (ref_TimesSame_l1 (a, b, ())) ((i : Int), ())).bind (Sum.elim (fun z8 => (some z8)) (Sum.elim (fun z9 => (some (true, ()))) Empty.elim)) = some (decide (a.drop i = b.drop i), ()) := by
      intro k
      induction k with
      | zero =>
        intro i hi
        rw [loopM_inr (b := .inr (.inl ())) (by
          unfold ref_TimesSame_l1
          simp only [dcF (show ¬ (i : Int) < (a.length : Int) by omega), cond_false])]
        rw [List.drop_of_length_le (by omega), List.drop_of_length_le (by omega)]; rfl
      | succ k ih =>
        intro i hi
        have hia : i < a.length := by omega
        have hib : i < b.length := by omega
        have hst : ref_TimesSame_l1 (a, b, ()) ((i : Int), ()) = cond (a[i] != b[i]) (some (.inr (.inl (false, ())))) (some (.inl (((i + 1 : Nat) : Int), ()))) := by
          unfold ref_TimesSame_l1
          simp only [dcT (show (i : Int) < (a.length : Int) by omega), cond_true, getI_lt hia, getI_lt hib, Option.bind_some, wrapS (show i < 9223372036854775807 by omega)]
        rw [List.drop_eq_getElem_cons hia, List.drop_eq_getElem_cons hib]
        by_cases he : a[i] = b[i]
        · rw [bneF he, cond_false] at hst
          rw [loopM_inl hst, ih (i + 1) (by omega)]
          exact congrArg (fun x => some (x, ())) (decide_eq_decide.2 (by rw [List.cons.injEq]; exact ⟨fun h => ⟨he, h⟩, fun h => h.2⟩))
        · rw [bneT he, cond_true] at hst
          rw [loopM_inr hst]
          rw [decide_eq_false (fun h => he (List.cons.inj h).1)]; rfl
    exact key a.length 0 (by omega)
  · rw [if_neg (by omega), decide_eq_false (fun e => h (by rw [e]))]
end

section
open Go Go.Abs


/-! Tallies checked. -/
abbrev Cn := List Int × Int × Unit
def tlist (l : List (List Int)) : Int :=
  if 64 < l.length then 1 else (((List.range l.length).find? fun i => chk (l.getD i []) != 0).map fun i => chk (l.getD i [])).getD (if ((List.range l.length).any fun i => ((l.getD i []).length : Int) != ((l.getD 0 []).length : Int)) = true then 3 else 0)

theorem times_List_eq (l : List (List Int)) : times_List (l, ()) = some (tlist l, ()) := by
  unfold times_List tlist
  by_cases h : 64 < l.length
  · rw [dcT (show (l.length : Int) > 64 by omega), cond_true, if_pos h]
  rw [dcF (show ¬ (l.length : Int) > 64 by omega), cond_false, if_neg h]
  have k1 := loopM_exit (f := times_List_l1 (l, ())) l.length (fun i => ((i : Int), ())) (fun i => cond (chk (l.getD i []) != 0) (some (chk (l.getD i []), ())) none) (.inl ()) (fun i hi => by
    unfold times_List_l1
    simp only [dcT (show (i : Int) < (l.length : Int) by omega), cond_true, getI_D [] (Int.natCast_nonneg i) (show (i : Int) < (l.length : Int) by omega), Int.toNat_natCast, Option.bind_some, times_Check_eq]
    rw [wrapS (by omega)]
    cases chk (l.getD i []) != 0 <;> rfl) (by
    unfold times_List_l1
    simp only [dcF (show ¬ (l.length : Int) < (l.length : Int) by omega), cond_false]) (s0 := ((0 : Int), ())) rfl
  have k2 := loopM_exit (f := times_List_l2 (l, ())) l.length (fun i => ((i : Int), ())) (fun i => cond (((l.getD i []).length : Int) != ((l.getD 0 []).length : Int)) (some ((3 : Int), ())) none) (.inl ()) (fun i hi => by
    unfold times_List_l2
    simp only [dcT (show (i : Int) < (l.length : Int) by omega), cond_true, getI_D [] (Int.natCast_nonneg i) (show (i : Int) < (l.length : Int) by omega), getI_D [] (show (0 : Int) ≤ 0 by omega) (show (0 : Int) < (l.length : Int) by omega), Int.toNat_natCast, Option.bind_some]
    rw [wrapS (by omega)]
    show (cond (((l.getD i []).length : Int) != ((l.getD 0 []).length : Int)) _ _) = _
    cases ((l.getD i []).length : Int) != ((l.getD 0 []).length : Int) <;> rfl) (by
    unfold times_List_l2
    simp only [dcF (show ¬ (l.length : Int) < (l.length : Int) by omega), cond_false]) (s0 := ((0 : Int), ())) rfl
  rw [find_map (fun i => chk (l.getD i []) != 0) fun i => (chk (l.getD i []), ())] at k1
  rw [find_const] at k2
  rw [k1]
  cases (List.range l.length).find? fun i => chk (l.getD i []) != 0 with
  | some i => rfl
  | none =>
    simp only [Option.map_none, exitOr_none, Option.bind_some, Sum.elim_inr, Sum.elim_inl, k2, Option.getD_none]
    split <;> rfl

theorem ref_TimesList_eq (l : List (List Int)) : ref_TimesList (l, ()) = some (tlist l, ()) := by
  unfold ref_TimesList tlist
  by_cases h : 64 < l.length
  · rw [dcT (show (l.length : Int) > 64 by omega), cond_true, if_pos h]
  rw [dcF (show ¬ (l.length : Int) > 64 by omega), cond_false, if_neg h]
  have k1 := loopM_exit (f := ref_TimesList_l1 (l, ())) l.length (fun i => ((i : Int), ())) (fun i => cond (chk (l.getD i []) != 0) (some (chk (l.getD i []), ())) none) (.inl ()) (fun i hi => by
    unfold ref_TimesList_l1
    simp only [dcT (show (i : Int) < (l.length : Int) by omega), cond_true, getI_D [] (Int.natCast_nonneg i) (show (i : Int) < (l.length : Int) by omega), Int.toNat_natCast, Option.bind_some, ref_TimesCheck_eq]
    rw [wrapS (by omega)]
    cases chk (l.getD i []) != 0 <;> rfl) (by
    unfold ref_TimesList_l1
    simp only [dcF (show ¬ (l.length : Int) < (l.length : Int) by omega), cond_false]) (s0 := ((0 : Int), ())) rfl
  have k2 := loopM_exit (f := ref_TimesList_l2 (l, ())) l.length (fun i => ((i : Int), ())) (fun i => cond (((l.getD i []).length : Int) != ((l.getD 0 []).length : Int)) (some ((3 : Int), ())) none) (.inl ()) (fun i hi => by
    unfold ref_TimesList_l2
    simp only [dcT (show (i : Int) < (l.length : Int) by omega), cond_true, getI_D [] (Int.natCast_nonneg i) (show (i : Int) < (l.length : Int) by omega), getI_D [] (show (0 : Int) ≤ 0 by omega) (show (0 : Int) < (l.length : Int) by omega), Int.toNat_natCast, Option.bind_some]
    rw [wrapS (by omega)]
    show (cond (((l.getD i []).length : Int) != ((l.getD 0 []).length : Int)) _ _) = _
    cases ((l.getD i []).length : Int) != ((l.getD 0 []).length : Int) <;> rfl) (by
    unfold ref_TimesList_l2
    simp only [dcF (show ¬ (l.length : Int) < (l.length : Int) by omega), cond_false]) (s0 := ((0 : Int), ())) rfl
  rw [find_map (fun i => chk (l.getD i []) != 0) fun i => (chk (l.getD i []), ())] at k1
  rw [find_const] at k2
  rw [k1]
  cases (List.range l.length).find? fun i => chk (l.getD i []) != 0 with
  | some i => rfl
  | none =>
    simp only [Option.map_none, exitOr_none, Option.bind_some, Sum.elim_inr, Sum.elim_inl, k2, Option.getD_none]
    split <;> rfl

theorem tlist_zero {l : List (List Int)} (h : tlist l = 0) : l.length ≤ 64 ∧ ∀ t ∈ l, chk t = 0 ∧ t.length = (l.getD 0 []).length := by
  unfold tlist at h
  split at h
  · cases h
  rename_i h64
  cases hf : (List.range l.length).find? fun i => chk (l.getD i []) != 0 with
  | some i =>
    rw [hf] at h
    have := List.find?_some hf
    simp only [bne_iff_ne] at this
    exact absurd h this
  | none =>
    rw [hf] at h
    simp only [Option.map_none, Option.getD_none] at h
    split at h
    · cases h
    · rename_i ha
      refine ⟨by omega, fun t ht => ?_⟩
      obtain ⟨i, hi, rfl⟩ := List.mem_iff_getElem.1 ht
      have hg : l.getD i [] = l[i] := by rw [List.getD_eq_getElem?_getD, List.getElem?_eq_getElem hi]; rfl
      have h1 := find_none_all hf i hi
      have h2 := List.any_eq_false.1 (Bool.eq_false_iff.2 ha) i (List.mem_range.2 hi)
      rw [hg] at h1 h2
      refine ⟨by simpa using h1, ?_⟩
      simp only [bne_iff_ne, ne_eq, Decidable.not_not] at h2
      omega

/-! The times of a tally. -/
theorem tally_list_eq {c : List Cn} (h : c.length * 24 ≤ 140737488355328) : counts_tally_list (c, ()) = some (c.map (·.1), ()) := by
  have key : loopM (counts_tally_list_l1 (c, ())) (([] : List (List Int)), (0 : Int), ()) = some (.inl (c.map (·.1), ())) := by
    refine loopM_sim c.length (fun i => ((c.take i).map (·.1), (i : Int), ())) _ (fun i hi => ?_) ?_ rfl
    · unfold counts_tally_list_l1
      have hl : ((c.take i).map (·.1)).length + (0 + 1) = i + 1 := by rw [List.length_map, List.length_take]; omega
      simp only [dcT (show (i : Int) < (c.length : Int) by omega), cond_true, getI_lt hi, Option.bind_some, List.length_cons, List.length_nil, hl, room_ok (show i + 1 ≤ 140737488355328 by omega) (show (i + 1) * 24 ≤ 140737488355328 by omega), wrapS (show i < 9223372036854775807 by omega), Bool.and_true]
      rw [List.take_succ_eq_append_getElem hi, List.map_append]; rfl
    · unfold counts_tally_list_l1
      simp only [dcF (show ¬ (c.length : Int) < (c.length : Int) by omega), cond_false, List.take_length]
  unfold counts_tally_list
  rw [key]; rfl
theorem ref_CountsTimes_eq {c : List Cn} (h : c.length * 24 ≤ 140737488355328) : ref_CountsTimes (c, ()) = some (c.map (·.1), ()) := tally_list_eq h

def overB (n : Int) : Bool := decide (n < -1099511627776) || decide (n > 1099511627776)
theorem counts_over_eq (n : Int) : counts_over (n, ()) = some (overB n, ()) := by
  unfold counts_over overB
  cases h : decide (n < -1099511627776) <;> rfl
theorem ref_CountsOver_eq (n : Int) : ref_CountsOver (n, ()) = some (overB n, ()) := counts_over_eq n
theorem over_false {n : Int} : overB n = false ↔ -1099511627776 ≤ n ∧ n ≤ 1099511627776 := by
  unfold overB
  rw [Bool.or_eq_false_iff, decide_eq_false_iff_not, decide_eq_false_iff_not]
  omega
def badC (x : Cn) : Bool := (x.2.1 == 0) || overB x.2.1
theorem Check_c1_eq (x : Cn) : counts_Check_c1 (x, ()) = some (badC x, ()) := by
  unfold counts_Check_c1 badC
  simp only [counts_over_eq, Option.bind_some]
  cases x.2.1 == 0 <;> rfl

def cz : Cn := ([], 0, ())
def ordB (c : List Cn) : Bool := (List.range (c.length - 1)).any fun k => !lessB (c.getD k cz).1 (c.getD (k + 1) cz).1
def cchk (c : List Cn) : Int := if tlist (c.map (·.1)) ≠ 0 then tlist (c.map (·.1)) else if ordB c = true then 3 else if ((List.range c.length).any fun i => badC (c.getD i cz)) = true then 2 else 0

theorem counts_Check_eq {c : List Cn} (h : c.length * 24 ≤ 140737488355328) : counts_Check (c, ()) = some (cchk c, ()) := by
  unfold counts_Check cchk
  simp only [tally_list_eq h, times_List_eq, Option.bind_some, cond_bne]
  by_cases h1 : tlist (c.map (·.1)) = 0
  · rw [if_pos h1, if_neg (by simpa using h1)]
    have hget : ∀ (k : Nat) (hk : k < c.length), (c.map (·.1))[k]? = some (c.getD k cz).1 := fun k hk => by
      rw [List.getElem?_map, getD_get (d := cz) hk]; rfl
    have k1 := loopM_exit (f := counts_Check_l1 (c.map (·.1), ())) (c.length - 1) (fun k => (((k + 1 : Nat) : Int), ())) (fun k => cond (!lessB (c.getD k cz).1 (c.getD (k + 1) cz).1) (some ((3 : Int), ())) none) (.inl ()) (fun k hk => by
      unfold counts_Check_l1
      have hw : IntKind.i64.wrap (((k + 1 : Nat) : Int) - 1) = (k : Int) := by rw [wrap64 (by omega) (by omega)]; omega
      simp only [List.length_map, dcT (show ((k + 1 : Nat) : Int) < (c.length : Int) by omega), cond_true, hw, inB_T (show k < c.length by omega), inB_T (show k + 1 < c.length by omega), Int.toNat_natCast, hget k (by omega), hget (k + 1) (by omega), Option.bind_some, times_Less_eq, wrapS (show k + 1 < 9223372036854775807 by omega)]
      cases lessB (c.getD k cz).1 (c.getD (k + 1) cz).1 <;> rfl) (by
      unfold counts_Check_l1
      simp only [List.length_map, dcF (show ¬ ((c.length - 1 + 1 : Nat) : Int) < (c.length : Int) by omega), cond_false]) (s0 := ((1 : Int), ())) rfl
    have k2 := loopM_exit (f := counts_Check_l2 (c, ())) c.length (fun i => ((i : Int), ())) (fun i => cond (badC (c.getD i cz)) (some ((i : Int), ())) none) (.inl ()) (fun i hi => by
      unfold counts_Check_l2
      simp only [dcT (show (i : Int) < (c.length : Int) by omega), cond_true, getI_D cz (Int.natCast_nonneg i) (show (i : Int) < (c.length : Int) by omega), Int.toNat_natCast, Option.bind_some, Check_c1_eq]
      rw [wrapS (by omega)]
      cases badC (c.getD i cz) <;> rfl) (by
      unfold counts_Check_l2
      simp only [dcF (show ¬ (c.length : Int) < (c.length : Int) by omega), cond_false]) (s0 := ((0 : Int), ())) rfl
    rw [find_const] at k1
    rw [find_map (fun i => badC (c.getD i cz)) fun i => ((i : Int), ())] at k2
    rw [k1]
    show (some (exitOr (if ordB c = true then _ else _) _)).bind _ = _
    by_cases h2 : ordB c = true
    · rw [if_pos h2, if_pos h2]; rfl
    · rw [if_neg h2, if_neg h2]
      simp only [exitOr_none, Option.bind_some, Sum.elim_inr, Sum.elim_inl, k2]
      cases hf : (List.range c.length).find? fun i => badC (c.getD i cz) with
      | some i =>
        have hany : ((List.range c.length).any fun i => badC (c.getD i cz)) = true := List.any_eq_true.2 ⟨i, List.mem_of_find?_eq_some hf, by have := List.find?_some hf; exact this⟩
        rw [if_pos hany]
        simp only [Option.map_some, exitOr_some, Sum.elim_inl, Option.bind_some, dcT (show (i : Int) ≥ 0 by omega), cond_true]
      | none =>
        have hany : ¬ ((List.range c.length).any fun i => badC (c.getD i cz)) = true := by
          rw [Bool.not_eq_true, List.any_eq_false]
          intro i hi
          rw [find_none_all hf i (List.mem_range.1 hi)]; simp
        rw [if_neg hany]
        rfl
  · rw [if_neg h1, if_pos h1]

theorem ref_CountsCheck_eq {c : List Cn} (h : c.length * 24 ≤ 140737488355328) : ref_CountsCheck (c, ()) = some (cchk c, ()) := by
  unfold ref_CountsCheck cchk
  simp only [ref_CountsTimes_eq h, ref_TimesList_eq, Option.bind_some, cond_bne]
  by_cases h1 : tlist (c.map (·.1)) = 0
  · rw [if_pos h1, if_neg (by simpa using h1)]
    have k1 := loopM_exit (f := ref_CountsCheck_l1 (c, ())) (c.length - 1) (fun k => (((k + 1 : Nat) : Int), ())) (fun k => cond (!lessB (c.getD k cz).1 (c.getD (k + 1) cz).1) (some ((3 : Int), ())) none) (.inl ()) (fun k hk => by
      unfold ref_CountsCheck_l1
      have hw : IntKind.i64.wrap (((k + 1 : Nat) : Int) - 1) = (k : Int) := by rw [wrap64 (by omega) (by omega)]; omega
      simp only [dcT (show ((k + 1 : Nat) : Int) < (c.length : Int) by omega), cond_true, hw, getI_D cz (Int.natCast_nonneg k) (show (k : Int) < (c.length : Int) by omega), getI_D cz (Int.natCast_nonneg (k + 1)) (show ((k + 1 : Nat) : Int) < (c.length : Int) by omega), Int.toNat_natCast, Option.bind_some, ref_TimesLess_eq, wrapS (show k + 1 < 9223372036854775807 by omega)]
      cases lessB (c.getD k cz).1 (c.getD (k + 1) cz).1 <;> rfl) (by
      unfold ref_CountsCheck_l1
      simp only [dcF (show ¬ ((c.length - 1 + 1 : Nat) : Int) < (c.length : Int) by omega), cond_false]) (s0 := ((1 : Int), ())) rfl
    have k2 := loopM_exit (f := ref_CountsCheck_l2 (c, ())) c.length (fun i => ((i : Int), ())) (fun i => cond (badC (c.getD i cz)) (some ((2 : Int), ())) none) (.inl ()) (fun i hi => by
      unfold ref_CountsCheck_l2 badC
      simp only [dcT (show (i : Int) < (c.length : Int) by omega), cond_true, getI_D cz (Int.natCast_nonneg i) (show (i : Int) < (c.length : Int) by omega), Int.toNat_natCast, Option.bind_some, ref_CountsOver_eq]
      rw [wrapS (by omega)]
      cases (c.getD i cz).2.1 == 0 <;> cases overB (c.getD i cz).2.1 <;> rfl) (by
      unfold ref_CountsCheck_l2
      simp only [dcF (show ¬ (c.length : Int) < (c.length : Int) by omega), cond_false]) (s0 := ((0 : Int), ())) rfl
    rw [find_const] at k1 k2
    rw [k1]
    show (some (exitOr (if ordB c = true then _ else _) _)).bind _ = _
    by_cases h2 : ordB c = true
    · rw [if_pos h2, if_pos h2]; rfl
    · rw [if_neg h2, if_neg h2]
      simp only [exitOr_none, Option.bind_some, Sum.elim_inr, Sum.elim_inl, k2]
      split <;> rfl
  · rw [if_neg h1, if_pos h1]

/-- What a tally without faults is. -/
structure Tally (c : List Cn) : Prop where
  len : c.length ≤ 64
  fine : ∀ x ∈ c, chk x.1 = 0 ∧ x.1.length = (c.getD 0 cz).1.length
  num : ∀ x ∈ c, -1099511627776 ≤ x.2.1 ∧ x.2.1 ≤ 1099511627776
  up : (c.map (·.1)).Pairwise fun a b => cmpL a b < 0

theorem pair_adj {l : List (List Int)} (h : ∀ k (hk : k + 1 < l.length), cmpL l[k] l[k + 1] < 0) : l.Pairwise fun a b => cmpL a b < 0 := by
  rw [List.pairwise_iff_getElem]
  intro i j hi hj hij
  obtain ⟨d, rfl⟩ := Nat.exists_eq_add_of_lt hij
  induction d with
  | zero => exact h i hj
  | succ d ih => exact cmpL_trans (ih (by omega) (by omega)) (h (i + d + 1) hj)

theorem cchk_zero {c : List Cn} (h : cchk c = 0) : Tally c := by
  unfold cchk at h
  split at h
  · rename_i h1; exact absurd h h1
  rename_i h1
  split at h
  · cases h
  rename_i h2
  split at h
  · cases h
  rename_i h3
  have ht := tlist_zero (by simpa using h1 : tlist (c.map (·.1)) = 0)
  have h0 : ((c.map (·.1)).getD 0 []).length = (c.getD 0 cz).1.length := by
    cases c <;> rfl
  refine ⟨by simpa using ht.1, fun x hx => ?_, fun x hx => ?_, pair_adj fun k hk => ?_⟩
  · have := ht.2 x.1 (List.mem_map.2 ⟨x, hx, rfl⟩)
    rw [h0] at this
    exact this
  · obtain ⟨i, hi, rfl⟩ := List.mem_iff_getElem.1 hx
    have := List.any_eq_false.1 (Bool.eq_false_iff.2 h3) i (List.mem_range.2 hi)
    rw [List.getD_eq_getElem?_getD, List.getElem?_eq_getElem hi] at this
    simp only [Option.getD_some, badC, Bool.or_eq_true, not_or, Bool.not_eq_true] at this
    exact over_false.1 this.2
  · rw [List.length_map] at hk
    have := List.any_eq_false.1 (Bool.eq_false_iff.2 h2) k (List.mem_range.2 (by omega))
    rw [List.getD_eq_getElem?_getD, List.getElem?_eq_getElem (show k < c.length by omega), List.getD_eq_getElem?_getD, List.getElem?_eq_getElem hk] at this
    simp only [Option.getD_some, Bool.not_eq_true', Bool.not_eq_false] at this
    rw [List.getElem_map, List.getElem_map]
    exact (lessB_iff.1 this).2.2.2
end

section
open Go Go.Abs


/-! Two tallies merged. -/
def mergeM : List Cn → List Cn → List Cn
  | [], d => d
  | x :: c, [] => x :: c
  | x :: c, y :: d => if cmpL x.1 y.1 < 0 then x :: mergeM c (y :: d) else if 0 < cmpL x.1 y.1 then y :: mergeM (x :: c) d else (x.1, x.2.1 + y.2.1, ()) :: mergeM c d
termination_by c d => c.length + d.length

def emit (acc : List Cn) : List Cn → List Cn × Int × Unit
  | [] => if 64 < acc.length then ([], 1, ()) else (acc, 0, ())
  | x :: M => if overB x.2.1 = true then ([], 6, ()) else emit (if x.2.1 = 0 then acc else acc ++ [x]) M

theorem clone_eq {t : List Int} (h : t.length ≤ 1000000) : slices_Clone_s_int_int (t, ()) = some (t, ()) := by
  unfold slices_Clone_s_int_int
  simp only [List.length_nil, Nat.zero_add, room_ok (show t.length ≤ 140737488355328 by omega) (show t.length * 8 ≤ 140737488355328 by omega), Bool.and_true, cond_true, List.nil_append]

/-- One round's end. -/
theorem merge_end {c2 d2 acc : List Cn} {t : List Int} {n : Int} (ht : t.length ≤ 1000000) (ha : acc.length ≤ 1000000) :
    ((counts_over (n, ())).bind fun r11 => (cond r11.1 (some (Sum.inr (Sum.inl (([] : List Cn), (6 : Int), ())))) (cond (n != (0 : Int)) ((slices_Clone_s_int_int (t, ())).bind fun r12 => (cond (true && roomOk (acc.length + ([((r12.1, n, ()) : Cn)]).length) 32 && true && true) (some (Sum.inl (c2, d2, (acc ++ [(r12.1, n, ())]), ()))) none)) (some (Sum.inl (c2, d2, acc, ()))))) : Option ((List Cn × List Cn × List Cn × Unit) ⊕ ((List Cn × Int × Unit) ⊕ (List Cn × Unit) ⊕ Empty))) =
      some (if overB n = true then .inr (.inl ([], 6, ())) else .inl (c2, d2, (if n = 0 then acc else acc ++ [(t, n, ())]), ())) := by
  rw [counts_over_eq, Option.bind_some]
  cases overB n with
  | true => rfl
  | false =>
    simp only [cond_false, cond_bne, clone_eq ht, Option.bind_some, List.length_cons, List.length_nil, room_ok (show acc.length + (0 + 1) ≤ 140737488355328 by omega) (show (acc.length + (0 + 1)) * 32 ≤ 140737488355328 by omega), Bool.and_true, cond_true]
    by_cases h : n = 0
    · rw [if_pos h, if_pos h]; rfl
    · rw [if_neg h, if_neg h]; rfl

theorem take_tail {α : Type} (x : α) (c : List α) : (((x :: c).drop (1 : Int).toNat).take (((x :: c).length : Int).toNat - (1 : Int).toNat)) = c := by
  show (c.take _) = c
  rw [List.take_of_length_le]
  simp
theorem getI_0 {α : Type} (x : α) (c : List α) : getI (x :: c) (0 : Int) = some x := rfl
theorem cut_ok {α : Type} (x : α) (c : List α) : (decide (0 ≤ (1 : Int)) && decide ((1 : Int) ≤ ((x :: c).length : Int)) && decide (((x :: c).length : Int) ≤ (x :: c).length)) = true := by
  simp
  omega

theorem cut_ok2 {α : Type} (x : α) (c : List α) : (true && decide ((1 : Int) ≤ ((x :: c).length : Int)) && decide (((x :: c).length : Int) ≤ (x :: c).length)) = true := by
  simp
  omega
def okC (c : List Cn) : Prop := ∀ x ∈ c, x.1.length ≤ 4 ∧ -1099511627776 ≤ x.2.1 ∧ x.2.1 ≤ 1099511627776
theorem okC_tail {x : Cn} {c : List Cn} (h : okC (x :: c)) : okC c := fun y hy => h y (List.mem_cons_of_mem _ hy)
theorem okC_head {x : Cn} {c : List Cn} (h : okC (x :: c)) : x.1.length ≤ 4 ∧ -1099511627776 ≤ x.2.1 ∧ x.2.1 ≤ 1099511627776 := h x (List.mem_cons_self ..)

/-- What one round does. -/
theorem len_pos {α : Type} (x : α) (c : List α) : decide (((x :: c).length : Int) > 0) = true := decide_eq_true (by rw [List.length_cons]; omega)
theorem len_nz {α : Type} (x : α) (c : List α) : (((x :: c).length : Int) == 0) = false := beq_eq_false_iff_ne.2 (by rw [List.length_cons]; omega)
theorem merge_left {x : Cn} {c d acc : List Cn} (hc : okC (x :: c)) (ha : acc.length ≤ 1000000) (h : d = [] ∨ ∃ y d', d = y :: d' ∧ cmpL x.1 y.1 < 0) :
    counts_merge_l1 (x :: c, d, acc, ()) = some (if overB x.2.1 = true then .inr (.inl ([], 6, ())) else .inl (c, d, (if x.2.1 = 0 then acc else acc ++ [x]), ())) := by
  have hx := okC_head hc
  have hl : x.1.length ≤ 1000000 := by omega
  rcases h with rfl | ⟨y, d', rfl, hlt⟩
  · have h0 : ((([] : List Cn).length : Int) == 0) = true := rfl
    have h1 : decide ((-1 : Int) ≤ 0) = true := rfl
    have h2 : decide ((-1 : Int) ≥ 0) = false := rfl
    unfold counts_merge_l1
    simp only [len_pos, cond_true, len_nz x c, cond_false, h0, Option.bind_some, Sum.elim_inl, h1, h2, getI_0, cut_ok, take_tail]
    exact merge_end hl ha
  · unfold counts_merge_l1
    simp only [len_pos, cond_true, len_nz x c, len_nz y d', cond_false, getI_0, Option.bind_some, slices_Compare_eq hl, Sum.elim_inl, dcT (show cmpL x.1 y.1 ≤ 0 from Int.le_of_lt hlt), dcF (show ¬ cmpL x.1 y.1 ≥ 0 from Int.not_le.2 hlt), cut_ok, take_tail]
    exact merge_end hl ha

theorem merge_right {y : Cn} {c d acc : List Cn} (hc : okC c) (hd : okC (y :: d)) (ha : acc.length ≤ 1000000) (h : c = [] ∨ ∃ x c', c = x :: c' ∧ 0 < cmpL x.1 y.1) :
    counts_merge_l1 (c, y :: d, acc, ()) = some (if overB y.2.1 = true then .inr (.inl ([], 6, ())) else .inl (c, d, (if y.2.1 = 0 then acc else acc ++ [y]), ())) := by
  have hy := okC_head hd
  have hw : IntKind.i64.wrap (0 + y.2.1) = y.2.1 := by rw [Int.zero_add]; exact wrap64 (by omega) (by omega)
  have hl : y.1.length ≤ 1000000 := by omega
  rcases h with rfl | ⟨x, c', rfl, hlt⟩
  · have h0 : ((([] : List Cn).length : Int) == 0) = true := rfl
    have hp : decide ((([] : List Cn).length : Int) > 0) = false := rfl
    have h1 : decide ((1 : Int) ≤ 0) = false := rfl
    have h2 : decide ((1 : Int) ≥ 0) = true := rfl
    unfold counts_merge_l1
    simp only [len_pos, hp, cond_true, cond_false, h0, Option.bind_some, Sum.elim_inl, h1, h2, getI_0, cut_ok2, take_tail, hw]
    exact merge_end hl ha
  · have hx := okC_head hc
    unfold counts_merge_l1
    simp only [len_pos, cond_true, len_nz x c', len_nz y d, cond_false, getI_0, Option.bind_some, slices_Compare_eq (show x.1.length ≤ 1000000 by omega), Sum.elim_inl, dcF (show ¬ cmpL x.1 y.1 ≤ 0 from Int.not_le.2 hlt), dcT (show cmpL x.1 y.1 ≥ 0 from Int.le_of_lt hlt), cut_ok, take_tail, hw]
    exact merge_end hl ha

theorem merge_both {x y : Cn} {c d acc : List Cn} (hc : okC (x :: c)) (hd : okC (y :: d)) (ha : acc.length ≤ 1000000) (h : cmpL x.1 y.1 = 0) :
    counts_merge_l1 (x :: c, y :: d, acc, ()) = some (if overB (x.2.1 + y.2.1) = true then .inr (.inl ([], 6, ())) else .inl (c, d, (if x.2.1 + y.2.1 = 0 then acc else acc ++ [(x.1, x.2.1 + y.2.1, ())]), ())) := by
  have hx := okC_head hc
  have hy := okC_head hd
  have hw : IntKind.i64.wrap (x.2.1 + y.2.1) = x.2.1 + y.2.1 := wrap64 (by omega) (by omega)
  have he := cmpL_eq.1 h
  have hs : cmpL x.1 x.1 = 0 := cmpL_eq.2 rfl
  have hl : x.1.length ≤ 1000000 := by omega
  unfold counts_merge_l1
  simp only [len_pos, cond_true, len_nz x c, len_nz y d, cond_false, getI_0, Option.bind_some, slices_Compare_eq (show x.1.length ≤ 1000000 by omega), Sum.elim_inl, dcT (show cmpL x.1 x.1 ≤ 0 by omega), dcT (show cmpL x.1 x.1 ≥ 0 by omega), cut_ok, take_tail, hw, ← he]
  exact merge_end hl ha

noncomputable abbrev mrun (c d acc : List Cn) : Option (List Cn × Int × Unit) := (loopM counts_merge_l1 (c, d, acc, ())).bind (Sum.elim (fun z24 => (some z24)) (Sum.elim (fun z25 => (cond (decide ((z25.1.length : Int) > (64 : Int))) (some (([] : List Cn), (1 : Int), ())) (some (z25.1, (0 : Int), ())))) Empty.elim))
theorem merge_step {c d c2 d2 acc : List Cn} {z : Cn} (hf : counts_merge_l1 (c, d, acc, ()) = some (if overB z.2.1 = true then .inr (.inl ([], 6, ())) else .inl (c2, d2, (if z.2.1 = 0 then acc else acc ++ [z]), ())))
    (hm : mergeM c d = z :: mergeM c2 d2) (ih : ∀ acc2 : List Cn, acc2.length ≤ acc.length + 1 → mrun c2 d2 acc2 = some (emit acc2 (mergeM c2 d2))) : mrun c d acc = some (emit acc (mergeM c d)) := by
  rw [hm, emit]
  by_cases ho : overB z.2.1 = true
  · rw [if_pos ho] at hf ⊢
    unfold mrun
    rw [loopM_inr hf]; rfl
  · rw [if_neg ho] at hf ⊢
    unfold mrun
    rw [loopM_inl hf]
    refine ih _ ?_
    split
    · omega
    · rw [List.length_append, List.length_cons, List.length_nil]; omega

theorem mergeM_nil (d : List Cn) : mergeM [] d = d := by rw [mergeM]
theorem mergeM_nil2 (c : List Cn) : mergeM c [] = c := by cases c <;> rw [mergeM]
theorem merge_loop : ∀ (c d acc : List Cn), okC c → okC d → acc.length + c.length + d.length ≤ 1000 → mrun c d acc = some (emit acc (mergeM c d))
  | [], [], acc, _, _, _ => by
    unfold mrun
    rw [loopM_inr (b := .inr (.inl (acc, ()))) (by unfold counts_merge_l1; rfl), mergeM]
    simp only [Option.bind_some, Sum.elim_inr, Sum.elim_inl, emit, cond_dec]
    by_cases h64 : 64 < acc.length
    · rw [if_pos h64, if_pos (by omega)]
    · rw [if_neg h64, if_neg (by omega)]
  | [], y :: d, acc, hc, hd, h => by
    rw [List.length_cons] at h
    exact merge_step (merge_right hc hd (by omega) (.inl rfl)) (by rw [mergeM_nil, mergeM_nil]) fun acc2 h2 => merge_loop [] d acc2 hc (okC_tail hd) (by omega)
  | x :: c, [], acc, hc, hd, h => by
    rw [List.length_cons] at h
    exact merge_step (merge_left hc (by omega) (.inl rfl)) (by rw [mergeM_nil2, mergeM_nil2]) fun acc2 h2 => merge_loop c [] acc2 (okC_tail hc) hd (by omega)
  | x :: c, y :: d, acc, hc, hd, h => by
    rw [List.length_cons, List.length_cons] at h
    by_cases h1 : cmpL x.1 y.1 < 0
    · exact merge_step (merge_left hc (by omega) (.inr ⟨y, d, rfl, h1⟩)) (by rw [mergeM, if_pos h1]) fun acc2 h2 => merge_loop c (y :: d) acc2 (okC_tail hc) hd (by rw [List.length_cons]; omega)
    · by_cases h2 : 0 < cmpL x.1 y.1
      · exact merge_step (merge_right hc hd (by omega) (.inr ⟨x, c, rfl, h2⟩)) (by rw [mergeM, if_neg h1, if_pos h2]) fun acc2 h2 => merge_loop (x :: c) d acc2 hc (okC_tail hd) (by rw [List.length_cons]; omega)
      · exact merge_step (z := (x.1, x.2.1 + y.2.1, ())) (merge_both hc hd (by omega) (by omega)) (by rw [mergeM, if_neg h1, if_neg h2]) fun acc2 h2 => merge_loop c d acc2 (okC_tail hc) (okC_tail hd) (by omega)
termination_by c d => c.length + d.length

theorem counts_merge_eq {c d : List Cn} (hc : okC c) (hd : okC d) (h : c.length + d.length ≤ 1000) : counts_merge (c, d, ()) = some (emit [] (mergeM c d)) :=
  merge_loop c d [] hc hd (by rw [List.length_nil]; omega)
end

section
open Go Go.Abs


/-! The document's times, sorted. -/
def insT (t : List Int) : List (List Int) → List (List Int)
  | [] => [t]
  | u :: l => if cmpL u t < 0 then u :: insT t l else if u = t then u :: l else t :: u :: l
def ltP (t : List Int) (u : List Int) : Bool := decide (cmpL u t < 0)
theorem ins_split (t : List Int) : ∀ out : List (List Int), insT t out = match out.dropWhile (ltP t) with
    | [] => out.takeWhile (ltP t) ++ [t]
    | u :: l => if u = t then out else out.takeWhile (ltP t) ++ t :: u :: l
  | [] => rfl
  | u :: l => by
    have ih := ins_split t l
    rw [insT, List.dropWhile_cons, List.takeWhile_cons]
    by_cases h : cmpL u t < 0
    · have hp : ltP t u = true := decide_eq_true h
      rw [if_pos h, if_pos hp, if_pos hp, ih]
      cases List.dropWhile (ltP t) l with
      | nil => rfl
      | cons v m =>
        simp only
        split
        · rfl
        · rfl
    · have hp : ¬ ltP t u = true := fun e => h (of_decide_eq_true e)
      rw [if_neg h, if_neg hp, if_neg hp]
      rfl
theorem take_while {p : List Int → Bool} : ∀ l : List (List Int), l.take (l.takeWhile p).length = l.takeWhile p
  | [] => rfl
  | u :: l => by
    rw [List.takeWhile_cons]
    split
    · rw [List.length_cons, List.take_succ_cons, take_while l]
    · rfl
theorem drop_while {p : List Int → Bool} : ∀ l : List (List Int), l.drop (l.takeWhile p).length = l.dropWhile p
  | [] => rfl
  | u :: l => by
    rw [List.takeWhile_cons, List.dropWhile_cons]
    split
    · rw [List.length_cons, List.drop_succ_cons, drop_while l]
    · rfl
theorem while_le {p : List Int → Bool} (l : List (List Int)) : (l.takeWhile p).length ≤ l.length := (List.takeWhile_prefix p).length_le

theorem sorted_l1 {out : List (List Int)} {t : List Int} (z : Int × Unit) (hl : out.length ≤ 1000000) (hp : ∀ u ∈ out, lessB u t = ltP t u) :
    loopM (ref_TimesSorted_l1 (out, z) t) ((0 : Int), ()) = some (.inl ((((out.takeWhile (ltP t)).length : Nat) : Int), ())) := by
  have key : ∀ k i, i + k = out.length → loopM (ref_TimesSorted_l1 (out, z) t) ((i : Int), ()) = some (.inl (((i + ((out.drop i).takeWhile (ltP t)).length : Nat) : Int), ())) := by
    intro k
    induction k with
    | zero =>
      intro i hi
      rw [loopM_inr (b := .inl ((i : Int), ())) (by
        unfold ref_TimesSorted_l1
        simp only [dcF (show ¬ (i : Int) < (out.length : Int) by omega), cond_false])]
      rw [List.drop_of_length_le (by omega)]; rfl
    | succ k ih =>
      intro i hi
      have hlt : i < out.length := by omega
      have hst : ref_TimesSorted_l1 (out, z) t ((i : Int), ()) = cond (ltP t out[i]) (some (.inl (((i + 1 : Nat) : Int), ()))) (some (.inr (.inl ((i : Int), ())))) := by
        unfold ref_TimesSorted_l1
        simp only [dcT (show (i : Int) < (out.length : Int) by omega), cond_true, getI_lt hlt, Option.bind_some, ref_TimesLess_eq, hp _ (List.getElem_mem hlt), wrapS (show i < 9223372036854775807 by omega)]
      rw [List.drop_eq_getElem_cons hlt, List.takeWhile_cons]
      cases hb : ltP t out[i] with
      | true =>
        rw [hb, cond_true] at hst
        rw [loopM_inl hst, ih (i + 1) (by omega)]
        simp only [if_true, List.length_cons]
        rw [show i + 1 + ((out.drop (i + 1)).takeWhile (ltP t)).length = i + (((out.drop (i + 1)).takeWhile (ltP t)).length + 1) by omega]
      | false =>
        rw [hb, cond_false] at hst
        rw [loopM_inr hst]; rfl
  have := key out.length 0 (by omega)
  rw [List.drop_zero, Nat.zero_add] at this
  exact this

theorem sorted_l2 {out : List (List Int)} (z : Int × Unit) {m : Nat} (hm : m ≤ out.length) (hl : out.length ≤ 1000000) :
    loopM (ref_TimesSorted_l2 ((m : Int), ()) (out, z)) (([] : List (List Int)), (0 : Int), ()) = some (.inl (out.take m, ())) := by
  refine loopM_sim m (fun i => (out.take i, (i : Int), ())) _ (fun i hi => ?_) ?_ rfl
  · unfold ref_TimesSorted_l2
    have hlt : i < out.length := by omega
    have hlen : (out.take i).length + (0 + 1) = i + 1 := by rw [List.length_take]; omega
    simp only [dcT (show (i : Int) < (m : Int) by omega), cond_true, getI_lt hlt, Option.bind_some, List.length_cons, List.length_nil, hlen, room_ok (show i + 1 ≤ 140737488355328 by omega) (show (i + 1) * 24 ≤ 140737488355328 by omega), wrapS (show i < 9223372036854775807 by omega), Bool.and_true]
    rw [List.take_succ_eq_append_getElem hlt]
  · unfold ref_TimesSorted_l2
    simp only [dcF (show ¬ (m : Int) < (m : Int) by omega), cond_false]
theorem sorted_l3 {out pre : List (List Int)} (z : Int × Unit) {m : Nat} (hm : m ≤ out.length) (hl : out.length ≤ 1000000) (hp : pre.length ≤ 1000000) :
    loopM (ref_TimesSorted_l3 (out, z)) (pre, (m : Int), ()) = some (.inl (pre ++ out.drop m, ())) := by
  have e : pre ++ out.drop m = pre ++ (out.drop m).take (out.length - m) := by rw [List.take_of_length_le (by rw [List.length_drop]; omega)]
  rw [e]
  refine loopM_sim (out.length - m) (fun i => (pre ++ (out.drop m).take i, ((m + i : Nat) : Int), ())) _ (fun i hi => ?_) ?_ (by simp)
  · unfold ref_TimesSorted_l3
    have hlt : m + i < out.length := by omega
    have hlt2 : i < (out.drop m).length := by rw [List.length_drop]; omega
    have hlen : (pre ++ (out.drop m).take i).length + (0 + 1) = pre.length + i + 1 := by rw [List.length_append, List.length_take, List.length_drop]; omega
    simp only [dcT (show ((m + i : Nat) : Int) < (out.length : Int) by omega), cond_true, getI_lt hlt, Option.bind_some, List.length_cons, List.length_nil, hlen, room_ok (show pre.length + i + 1 ≤ 140737488355328 by omega) (show (pre.length + i + 1) * 24 ≤ 140737488355328 by omega), wrapS (show m + i < 9223372036854775807 by omega), Bool.and_true]
    rw [List.take_succ_eq_append_getElem hlt2, List.getElem_drop, List.append_assoc]
    rfl
  · unfold ref_TimesSorted_l3
    simp only [dcF (show ¬ ((m + (out.length - m) : Nat) : Int) < (out.length : Int) by omega), cond_false]
theorem l4_l2 : ref_TimesSorted_l4 = ref_TimesSorted_l2 := rfl
theorem l5_l3 : ref_TimesSorted_l5 = ref_TimesSorted_l3 := rfl

theorem ins_len (t : List Int) : ∀ out : List (List Int), (insT t out).length ≤ out.length + 1
  | [] => Nat.le_refl _
  | u :: l => by
    have := ins_len t l
    simp only [insT]
    split
    · simp only [List.length_cons]; omega
    · split <;> simp only [List.length_cons] <;> omega
theorem ins_mem {t v : List Int} : ∀ {out : List (List Int)}, v ∈ insT t out ↔ v = t ∨ v ∈ out
  | [] => by simp [insT]
  | u :: l => by
    have ih := ins_mem (t := t) (v := v) (out := l)
    simp only [insT]
    split
    · rw [List.mem_cons, ih, List.mem_cons]
      constructor
      · rintro (h | h | h)
        · exact .inr (.inl h)
        · exact .inl h
        · exact .inr (.inr h)
      · rintro (h | h | h)
        · exact .inr (.inl h)
        · exact .inl h
        · exact .inr (.inr h)
    · split
      · rename_i h
        rw [List.mem_cons, ← h]
        constructor
        · exact fun h => .inr h
        · rintro (h | h)
          · exact .inl h
          · exact h
      · rw [List.mem_cons]
theorem ins_up {t : List Int} : ∀ {out : List (List Int)}, out.Pairwise (fun a b => cmpL a b < 0) → (insT t out).Pairwise fun a b => cmpL a b < 0
  | [], _ => by simp [insT]
  | u :: l, h => by
    have h1 := List.pairwise_cons.1 h
    simp only [insT]
    split
    · rename_i hu
      rw [List.pairwise_cons]
      refine ⟨fun v hv => ?_, ins_up h1.2⟩
      rcases ins_mem.1 hv with rfl | hv
      · exact hu
      · exact h1.1 v hv
    · rename_i hu
      split
      · exact h
      · rename_i hne
        have htu : cmpL t u < 0 := by
          have h2 := cmpL_neg u t
          have h3 : cmpL u t ≠ 0 := fun e => hne (cmpL_eq.1 e)
          omega
        rw [List.pairwise_cons]
        refine ⟨fun v hv => ?_, h⟩
        rcases List.mem_cons.1 hv with rfl | hv
        · exact htu
        · exact cmpL_trans htu (h1.1 v hv)

def sortT (l : List (List Int)) : List (List Int) := l.foldl (fun out t => insT t out) []
theorem foldl_snoc (l : List (List Int)) (t : List Int) : sortT (l ++ [t]) = insT t (sortT l) := by
  unfold sortT; rw [List.foldl_append]; rfl
theorem sort_facts (l : List (List Int)) : (sortT l).length ≤ l.length ∧ (∀ v, v ∈ sortT l ↔ v ∈ l) ∧ (sortT l).Pairwise fun a b => cmpL a b < 0 := by
  have key : ∀ k, k ≤ l.length → (sortT (l.take k)).length ≤ k ∧ (∀ v, v ∈ sortT (l.take k) ↔ v ∈ l.take k) ∧ (sortT (l.take k)).Pairwise fun a b => cmpL a b < 0 := by
    intro k
    induction k with
    | zero => intro _; rw [List.take_zero]; exact ⟨Nat.le_refl _, fun v => Iff.rfl, List.Pairwise.nil⟩
    | succ k ih =>
      intro hk
      obtain ⟨h1, h2, h3⟩ := ih (by omega)
      rw [List.take_succ_eq_append_getElem (by omega), foldl_snoc]
      refine ⟨Nat.le_trans (ins_len _ _) (by omega), fun v => ?_, ins_up h3⟩
      rw [ins_mem, h2, List.mem_append, List.mem_singleton]
      exact Or.comm
  have := key l.length (Nat.le_refl _)
  rwa [List.take_length] at this

theorem ref_TimesSorted_eq {l : List (List Int)} (hl : l.length ≤ 1000) (d : Nat) (hf : ∀ t ∈ l, chk t = 0 ∧ t.length = d) : ref_TimesSorted (l, ()) = some (sortT l, ()) := by
  have key : loopM (ref_TimesSorted_l6 (l, ())) (([] : List (List Int)), (0 : Int), ()) = some (.inl (sortT l, ())) := by
    refine loopM_sim l.length (fun i => (sortT (l.take i), (i : Int), ())) _ (fun i hi => ?_) ?_ rfl
    · have hfi := hf l[i] (List.getElem_mem hi)
      obtain ⟨s1, s2, s3⟩ := sort_facts (l.take i)
      have hso : (sortT (l.take i)).length ≤ 1000 := by rw [List.length_take] at s1; omega
      have hok : ∀ u ∈ sortT (l.take i), chk u = 0 ∧ u.length = d := fun u hu => hf u (List.mem_of_mem_take ((s2 u).1 hu))
      have hless : ∀ u ∈ sortT (l.take i), lessB u l[i] = ltP l[i] u := fun u hu => by
        have := hok u hu
        rw [lessB_of (by omega) this.1 hfi.1]; rfl
      rw [List.take_succ_eq_append_getElem hi, foldl_snoc]
      generalize sortT (l.take i) = out at *
      unfold ref_TimesSorted_l6
      have hw := while_le (p := ltP l[i]) out
      have k1 := sorted_l1 (((i : Int), ())) (show out.length ≤ 1000000 by omega) hless
      have hsplit := ins_split l[i] out
      have htw := take_while (p := ltP l[i]) out
      have hdw := drop_while (p := ltP l[i]) out
      simp only [dcT (show (i : Int) < (l.length : Int) by omega), cond_true, getI_lt hi, Option.bind_some, k1, Sum.elim_inl, wrapS (show i < 9223372036854775807 by omega)]
      have hr : ∀ n : Nat, n ≤ 1000000 → roomOk (n + (0 + 1)) 24 = true := fun n hn => room_ok (by omega) (by omega)
      by_cases hat : (out.takeWhile (ltP l[i])).length < out.length
      · rw [List.drop_eq_getElem_cons hat] at hdw
        rw [← hdw] at hsplit
        simp only at hsplit
        have hlen : (out[(out.takeWhile (ltP l[i])).length]).length ≤ 1000000 := by
          have := (hok _ (List.getElem_mem hat)).1
          have := (chk_zero this).2.1
          omega
        simp only [dcT (show (((out.takeWhile (ltP l[i])).length : Nat) : Int) < (out.length : Int) by omega), cond_true, getI_lt hat, Option.bind_some, ref_TimesSame_eq hlen]
        by_cases he : out[(out.takeWhile (ltP l[i])).length] = l[i]
        · rw [if_pos he] at hsplit
          rw [decide_eq_true he, cond_true, hsplit]
        · rw [if_neg he] at hsplit
          rw [decide_eq_false he, cond_false, sorted_l2 _ hw (by omega), Option.bind_some, Sum.elim_inl]
          simp only [List.length_cons, List.length_nil]
          rw [hr _ (by rw [List.length_take]; omega)]
          simp only [Bool.and_true, cond_true]
          rw [sorted_l3 _ hw (by omega) (by rw [List.length_append, List.length_take]; simp only [List.length_cons, List.length_nil]; omega), Option.bind_some, Sum.elim_inl, hsplit, htw]
          rw [List.append_assoc, List.drop_eq_getElem_cons hat]
          rfl
      · have hd0 : out.drop (out.takeWhile (ltP l[i])).length = [] := List.drop_of_length_le (by omega)
        rw [hd0] at hdw
        rw [← hdw] at hsplit
        simp only at hsplit
        simp only [dcF (show ¬ (((out.takeWhile (ltP l[i])).length : Nat) : Int) < (out.length : Int) by omega), cond_false]
        rw [l4_l2, sorted_l2 _ hw (by omega), Option.bind_some, Sum.elim_inl]
        simp only [List.length_cons, List.length_nil]
        rw [hr _ (by rw [List.length_take]; omega)]
        simp only [Bool.and_true, cond_true]
        rw [l5_l3, sorted_l3 _ hw (by omega) (by rw [List.length_append, List.length_take]; simp only [List.length_cons, List.length_nil]; omega), Option.bind_some, Sum.elim_inl, hsplit, htw, hd0, List.append_nil]
    · unfold ref_TimesSorted_l6
      simp only [dcF (show ¬ (l.length : Int) < (l.length : Int) by omega), cond_false, List.take_length]
  unfold ref_TimesSorted
  rw [key]; rfl
end

section
open Go Go.Abs


/-! The document's sum. -/
def ofC (c : List Cn) (t : List Int) : Int := (c.map fun x => if x.1 = t then x.2.1 else 0).sum
theorem ofC_nil (t : List Int) : ofC [] t = 0 := rfl
theorem ofC_cons (x : Cn) (c : List Cn) (t : List Int) : ofC (x :: c) t = (if x.1 = t then x.2.1 else 0) + ofC c t := by
  unfold ofC; rw [List.map_cons, List.sum_cons]
theorem ofC_none {c : List Cn} {t : List Int} (h : ∀ x ∈ c, x.1 ≠ t) : ofC c t = 0 := by
  induction c with
  | nil => rfl
  | cons x c ih =>
    rw [ofC_cons, if_neg (h x (List.mem_cons_self ..)), ih fun y hy => h y (List.mem_cons_of_mem _ hy)]; rfl
theorem ofC_snoc (c : List Cn) (x : Cn) (t : List Int) : ofC (c ++ [x]) t = ofC c t + if x.1 = t then x.2.1 else 0 := by
  induction c with
  | nil => rw [List.nil_append, ofC_cons, ofC_nil]; omega
  | cons y c ih => rw [List.cons_append, ofC_cons, ofC_cons, ih]; omega
theorem ofC_le {c : List Cn} (h : okC c) (t : List Int) : -(c.length * 1099511627776 : Int) ≤ ofC c t ∧ ofC c t ≤ (c.length * 1099511627776 : Int) := by
  induction c with
  | nil => exact ⟨by rw [ofC_nil]; simp, by rw [ofC_nil]; simp⟩
  | cons x c ih =>
    have h1 := ih (okC_tail h)
    have h2 := okC_head h
    rw [ofC_cons, List.length_cons]
    split <;> omega

theorem ref_CountsOf_eq {c : List Cn} (h : okC c) (hl : c.length ≤ 1000) (t : List Int) : ref_CountsOf (c, t, ()) = some (ofC c t, ()) := by
  have key : loopM (ref_CountsOf_l1 (c, t, ())) ((0 : Int), (0 : Int), ()) = some (.inl (ofC c t, ())) := by
    refine loopM_sim c.length (fun i => (ofC (c.take i) t, (i : Int), ())) _ (fun i hi => ?_) ?_ rfl
    · have hx := h _ (List.getElem_mem hi)
      have hb := ofC_le (c := c.take i) (fun x hx => h x (List.mem_of_mem_take hx)) t
      rw [List.length_take] at hb
      unfold ref_CountsOf_l1
      simp only [dcT (show (i : Int) < (c.length : Int) by omega), cond_true, getI_lt hi, Option.bind_some, ref_TimesSame_eq (show c[i].1.length ≤ 1000000 by omega), wrapS (show i < 9223372036854775807 by omega)]
      rw [List.take_succ_eq_append_getElem hi, ofC_snoc]
      by_cases he : c[i].1 = t
      · rw [decide_eq_true he, cond_true, if_pos he, wrap64 (by omega) (by omega)]
      · rw [decide_eq_false he, cond_false, if_neg he, Int.add_zero]
    · unfold ref_CountsOf_l1
      simp only [dcF (show ¬ (c.length : Int) < (c.length : Int) by omega), cond_false, List.take_length]
  unfold ref_CountsOf
  rw [key]; rfl

theorem ref_TimesAll_eq {a b : List (List Int)} (ha : a.length ≤ 1000) (hb : b.length ≤ 1000) : ref_TimesAll (a, b, ()) = some (a ++ b, ()) := by
  have k1 : loopM (ref_TimesAll_l1 (a, b, ())) (([] : List (List Int)), (0 : Int), ()) = some (.inl (a, ())) := by
    refine loopM_sim a.length (fun i => (a.take i, (i : Int), ())) _ (fun i hi => ?_) ?_ rfl
    · unfold ref_TimesAll_l1
      have hlen : (a.take i).length + (0 + 1) = i + 1 := by rw [List.length_take]; omega
      simp only [dcT (show (i : Int) < (a.length : Int) by omega), cond_true, getI_lt hi, Option.bind_some, List.length_cons, List.length_nil, hlen, room_ok (show i + 1 ≤ 140737488355328 by omega) (show (i + 1) * 24 ≤ 140737488355328 by omega), wrapS (show i < 9223372036854775807 by omega), Bool.and_true]
      rw [List.take_succ_eq_append_getElem hi]
    · unfold ref_TimesAll_l1
      simp only [dcF (show ¬ (a.length : Int) < (a.length : Int) by omega), cond_false, List.take_length]
  have k2 : loopM (ref_TimesAll_l2 (a, b, ())) (a, (0 : Int), ()) = some (.inl (a ++ b, ())) := by
    refine loopM_sim b.length (fun i => (a ++ b.take i, (i : Int), ())) _ (fun i hi => ?_) ?_ (by simp)
    · unfold ref_TimesAll_l2
      have hlen : (a ++ b.take i).length + (0 + 1) = a.length + i + 1 := by rw [List.length_append, List.length_take]; omega
      simp only [dcT (show (i : Int) < (b.length : Int) by omega), cond_true, getI_lt hi, Option.bind_some, List.length_cons, List.length_nil, hlen, room_ok (show a.length + i + 1 ≤ 140737488355328 by omega) (show (a.length + i + 1) * 24 ≤ 140737488355328 by omega), wrapS (show i < 9223372036854775807 by omega), Bool.and_true]
      rw [List.take_succ_eq_append_getElem hi, List.append_assoc]
    · unfold ref_TimesAll_l2
      simp only [dcF (show ¬ (b.length : Int) < (b.length : Int) by omega), cond_false, List.take_length]
  unfold ref_TimesAll
  rw [k1, Option.bind_some, Sum.elim_inl, k2]; rfl

theorem both_loop {c d : List Cn} (hc : okC c) (hd : okC d) (hcl : c.length ≤ 1000) (hdl : d.length ≤ 1000) (T : List (List Int)) (hT : T.length ≤ 2000) : ∀ k i acc, i + k = T.length → acc.length ≤ i →
    (loopM (ref_CountsBoth_l1 (c, d, ()) (T, ())) (acc, (i : Int), ())).bind (Sum.elim (fun z10 => (some z10)) (Sum.elim (fun z11 => (cond (decide ((z11.1.length : Int) > (64 : Int))) (some (([] : List Cn), (1 : Int), ())) (some (z11.1, (0 : Int), ())))) Empty.elim)) = some (emit acc ((T.drop i).map fun t => (t, ofC c t + ofC d t, ()))) := by
  intro k
  induction k with
  | zero =>
    intro i acc hi ha
    rw [loopM_inr (b := .inr (.inl (acc, ()))) (by
      unfold ref_CountsBoth_l1
      simp only [dcF (show ¬ (i : Int) < (T.length : Int) by omega), cond_false])]
    rw [List.drop_of_length_le (by omega)]
    simp only [Option.bind_some, Sum.elim_inr, Sum.elim_inl, List.map_nil, emit, cond_dec]
    by_cases h64 : 64 < acc.length
    · rw [if_pos h64, if_pos (by omega)]
    · rw [if_neg h64, if_neg (by omega)]
  | succ k ih =>
    intro i acc hi ha
    have hlt : i < T.length := by omega
    have b1 := ofC_le hc T[i]
    have b2 := ofC_le hd T[i]
    have hw : IntKind.i64.wrap (ofC c T[i] + ofC d T[i]) = ofC c T[i] + ofC d T[i] := wrap64 (by omega) (by omega)
    have hst : ref_CountsBoth_l1 (c, d, ()) (T, ()) (acc, (i : Int), ()) = some (if overB (ofC c T[i] + ofC d T[i]) = true then .inr (.inl ([], 6, ())) else .inl ((if ofC c T[i] + ofC d T[i] = 0 then acc else acc ++ [(T[i], ofC c T[i] + ofC d T[i], ())]), ((i + 1 : Nat) : Int), ())) := by
      unfold ref_CountsBoth_l1
      simp only [dcT (show (i : Int) < (T.length : Int) by omega), cond_true, getI_lt hlt, Option.bind_some, ref_CountsOf_eq hc hcl, ref_CountsOf_eq hd hdl, hw, ref_CountsOver_eq, List.length_cons, List.length_nil, room_ok (show acc.length + (0 + 1) ≤ 140737488355328 by omega) (show (acc.length + (0 + 1)) * 32 ≤ 140737488355328 by omega), wrapS (show i < 9223372036854775807 by omega), Bool.and_true, cond_bne]
      cases overB (ofC c T[i] + ofC d T[i]) with
      | true => rfl
      | false =>
        rw [cond_false]
        by_cases hz : ofC c T[i] + ofC d T[i] = 0
        · rw [if_pos hz, if_pos hz]; rfl
        · rw [if_neg hz, if_neg hz]; rfl
    rw [List.drop_eq_getElem_cons hlt, List.map_cons, emit]
    simp only
    by_cases ho : overB (ofC c T[i] + ofC d T[i]) = true
    · rw [if_pos ho] at hst ⊢
      rw [loopM_inr hst]; rfl
    · rw [if_neg ho] at hst ⊢
      rw [loopM_inl hst]
      refine ih (i + 1) _ (by omega) ?_
      split
      · omega
      · rw [List.length_append, List.length_cons, List.length_nil]; omega

/-! The two are one. -/
def up (l : List (List Int)) : Prop := l.Pairwise fun a b => cmpL a b < 0
theorem up_same : ∀ {l m : List (List Int)}, up l → up m → (∀ t, t ∈ l ↔ t ∈ m) → l = m
  | [], [], _, _, _ => rfl
  | [], b :: m, _, _, h => absurd ((h b).2 (List.mem_cons_self ..)) (by simp)
  | a :: l, [], _, _, h => absurd ((h a).1 (List.mem_cons_self ..)) (by simp)
  | a :: l, b :: m, h1, h2, h => by
    have p1 := List.pairwise_cons.1 h1
    have p2 := List.pairwise_cons.1 h2
    have hab : a = b := by
      rcases List.mem_cons.1 ((h a).1 (List.mem_cons_self ..)) with e | ha
      · exact e
      · rcases List.mem_cons.1 ((h b).2 (List.mem_cons_self ..)) with e | hb
        · exact e.symm
        · exact absurd (cmpL_trans (p2.1 a ha) (p1.1 b hb)) (cmpL_irr b)
    subst hab
    rw [up_same p1.2 p2.2 fun t => ?_]
    constructor
    · intro ht
      rcases List.mem_cons.1 ((h t).1 (List.mem_cons_of_mem _ ht)) with e | ht'
      · exact absurd (p1.1 t ht) (e ▸ cmpL_irr _)
      · exact ht'
    · intro ht
      rcases List.mem_cons.1 ((h t).2 (List.mem_cons_of_mem _ ht)) with e | ht'
      · exact absurd (p2.1 t ht) (e ▸ cmpL_irr _)
      · exact ht'

theorem merge_mem : ∀ (c d : List Cn) (t : List Int), t ∈ (mergeM c d).map (·.1) ↔ t ∈ c.map (·.1) ∨ t ∈ d.map (·.1)
  | [], d, t => by rw [mergeM_nil]; simp
  | x :: c, [], t => by rw [mergeM_nil2]; simp
  | x :: c, y :: d, t => by
    rw [mergeM]
    split
    · rw [List.map_cons, List.mem_cons, merge_mem c (y :: d) t]; simp only [List.map_cons, List.mem_cons, or_assoc]
    · split
      · rw [List.map_cons, List.mem_cons, merge_mem (x :: c) d t, List.map_cons (l := d), List.mem_cons]
        exact or_left_comm
      · rename_i h1 h2
        have he : x.1 = y.1 := cmpL_eq.1 (by omega)
        rw [List.map_cons, List.mem_cons, merge_mem c d t, List.map_cons, List.mem_cons, List.map_cons, List.mem_cons, ← he]
        constructor
        · rintro (h | h | h)
          · exact .inl (.inl h)
          · exact .inl (.inr h)
          · exact .inr (.inr h)
        · rintro ((h | h) | h | h)
          · exact .inl h
          · exact .inr (.inl h)
          · exact .inl h
          · exact .inr (.inr h)
termination_by c d => c.length + d.length

theorem up_tail {x : Cn} {c : List Cn} (h : up ((x :: c).map (·.1))) : up (c.map (·.1)) := (List.pairwise_cons.1 (by rw [List.map_cons] at h; exact h)).2
theorem up_head {x : Cn} {c : List Cn} (h : up ((x :: c).map (·.1))) {t : List Int} (ht : t ∈ c.map (·.1)) : cmpL x.1 t < 0 := (List.pairwise_cons.1 (by rw [List.map_cons] at h; exact h)).1 t ht

theorem merge_up : ∀ (c d : List Cn), up (c.map (·.1)) → up (d.map (·.1)) → up ((mergeM c d).map (·.1))
  | [], d, _, h => by rw [mergeM_nil]; exact h
  | x :: c, [], h, _ => by rw [mergeM_nil2]; exact h
  | x :: c, y :: d, h1, h2 => by
    rw [mergeM]
    split
    · rename_i hlt
      rw [List.map_cons]
      refine List.pairwise_cons.2 ⟨fun t ht => ?_, merge_up c (y :: d) (up_tail h1) h2⟩
      rcases (merge_mem c (y :: d) t).1 ht with h | h
      · exact up_head h1 h
      · rw [List.map_cons] at h
        rcases List.mem_cons.1 h with rfl | h
        · exact hlt
        · exact cmpL_trans hlt (up_head h2 h)
    · split
      · rename_i _ hgt
        have hyx : cmpL y.1 x.1 < 0 := by rw [cmpL_neg]; omega
        rw [List.map_cons]
        refine List.pairwise_cons.2 ⟨fun t ht => ?_, merge_up (x :: c) d h1 (up_tail h2)⟩
        rcases (merge_mem (x :: c) d t).1 ht with h | h
        · rw [List.map_cons] at h
          rcases List.mem_cons.1 h with rfl | h
          · exact hyx
          · exact cmpL_trans hyx (up_head h1 h)
        · exact up_head h2 h
      · rename_i n1 n2
        have he : x.1 = y.1 := cmpL_eq.1 (by omega)
        rw [List.map_cons]
        refine List.pairwise_cons.2 ⟨fun t ht => ?_, merge_up c d (up_tail h1) (up_tail h2)⟩
        rcases (merge_mem c d t).1 ht with h | h
        · exact up_head h1 h
        · have := up_head h2 h
          rw [← he] at this
          exact this
termination_by c d => c.length + d.length

theorem not_head {x : Cn} {c : List Cn} (h : up ((x :: c).map (·.1))) : ∀ z ∈ c, z.1 ≠ x.1 := fun z hz e => by
  have := up_head h (List.mem_map.2 ⟨z, hz, rfl⟩)
  rw [e] at this
  exact cmpL_irr _ this
theorem not_below {y : Cn} {d : List Cn} {t : List Int} (h : up ((y :: d).map (·.1))) (ht : cmpL t y.1 < 0) : ∀ z ∈ y :: d, z.1 ≠ t := fun z hz e => by
  rcases List.mem_cons.1 hz with rfl | hz
  · rw [e] at ht; exact cmpL_irr _ ht
  · have := cmpL_trans ht (up_head h (List.mem_map.2 ⟨z, hz, rfl⟩))
    rw [e] at this
    exact cmpL_irr _ this

theorem merge_val : ∀ (c d : List Cn), up (c.map (·.1)) → up (d.map (·.1)) → ∀ z ∈ mergeM c d, z.2.1 = ofC c z.1 + ofC d z.1
  | [], d, _, h => by
    rw [mergeM_nil]
    intro z hz
    rw [ofC_nil, Int.zero_add]
    induction d with
    | nil => cases hz
    | cons y d ih =>
      rw [ofC_cons]
      rcases List.mem_cons.1 hz with rfl | hz
      · rw [if_pos rfl, ofC_none (not_head h), Int.add_zero]
      · rw [if_neg (fun e => not_head h z hz e.symm), Int.zero_add]; exact ih (up_tail h) hz
  | x :: c, [], h, _ => by
    rw [mergeM_nil2]
    intro z hz
    rw [ofC_nil, Int.add_zero]
    generalize x :: c = l at *
    induction l with
    | nil => cases hz
    | cons y d ih =>
      rw [ofC_cons]
      rcases List.mem_cons.1 hz with rfl | hz
      · rw [if_pos rfl, ofC_none (not_head h), Int.add_zero]
      · rw [if_neg (fun e => not_head h z hz e.symm), Int.zero_add]; exact ih (up_tail h) hz
  | x :: c, y :: d, h1, h2 => by
    rw [mergeM]
    split
    · rename_i hlt
      intro z hz
      rcases List.mem_cons.1 hz with rfl | hz
      · rw [ofC_cons, if_pos rfl, ofC_none (not_head h1), ofC_none (not_below h2 hlt)]; omega
      · have hk := (merge_mem c (y :: d) z.1).1 (List.mem_map.2 ⟨z, hz, rfl⟩)
        have hne : x.1 ≠ z.1 := fun e => by
          rcases hk with h | h
          · have := up_head h1 h; rw [e] at this; exact cmpL_irr _ this
          · obtain ⟨w, hw, hwe⟩ := List.mem_map.1 h
            exact not_below h2 hlt w hw (hwe.trans e.symm)
        rw [merge_val c (y :: d) (up_tail h1) h2 z hz, ofC_cons x, if_neg hne]; omega
    · split
      · rename_i _ hgt
        have hyx : cmpL y.1 x.1 < 0 := by rw [cmpL_neg]; omega
        intro z hz
        rcases List.mem_cons.1 hz with rfl | hz
        · rw [ofC_cons z, if_pos rfl, ofC_none (not_head h2), ofC_none (not_below h1 hyx)]; omega
        · have hk := (merge_mem (x :: c) d z.1).1 (List.mem_map.2 ⟨z, hz, rfl⟩)
          have hne : y.1 ≠ z.1 := fun e => by
            rcases hk with h | h
            · obtain ⟨w, hw, hwe⟩ := List.mem_map.1 h
              exact not_below h1 hyx w hw (hwe.trans e.symm)
            · have := up_head h2 h; rw [e] at this; exact cmpL_irr _ this
          rw [merge_val (x :: c) d h1 (up_tail h2) z hz, ofC_cons y, if_neg hne]; omega
      · rename_i n1 n2
        have he : x.1 = y.1 := cmpL_eq.1 (by omega)
        intro z hz
        rcases List.mem_cons.1 hz with rfl | hz
        · simp only
          rw [ofC_cons, if_pos rfl, ofC_cons, if_pos he.symm, ofC_none (not_head h1), he, ofC_none (not_head h2)]; omega
        · have hk := (merge_mem c d z.1).1 (List.mem_map.2 ⟨z, hz, rfl⟩)
          have hne : x.1 ≠ z.1 := fun e => by
            rcases hk with h | h
            · have := up_head h1 h; rw [e] at this; exact cmpL_irr _ this
            · have := up_head h2 h; rw [← he, e] at this; exact cmpL_irr _ this
          rw [merge_val c d (up_tail h1) (up_tail h2) z hz, ofC_cons x, if_neg hne, ofC_cons y, if_neg (he ▸ hne)]; omega
termination_by c d => c.length + d.length

theorem merge_is {c d : List Cn} (h1 : up (c.map (·.1))) (h2 : up (d.map (·.1))) : mergeM c d = (sortT (c.map (·.1) ++ d.map (·.1))).map fun t => (t, ofC c t + ofC d t, ()) := by
  have hk : (mergeM c d).map (·.1) = sortT (c.map (·.1) ++ d.map (·.1)) := by
    obtain ⟨s1, s2, s3⟩ := sort_facts (c.map (·.1) ++ d.map (·.1))
    refine up_same (merge_up c d h1 h2) s3 fun t => ?_
    rw [merge_mem, s2, List.mem_append]
  rw [← hk, List.map_map]
  have := List.map_congr_left (l := mergeM c d) (f := id) (g := (fun t => ((t, ofC c t + ofC d t, ()) : Cn)) ∘ fun x => x.1) fun z hz => by
    have := merge_val c d h1 h2 z hz
    show z = (z.1, ofC c z.1 + ofC d z.1, ())
    rw [← this]
  rw [← this, List.map_id]

theorem ref_CountsBoth_eq {c d : List Cn} (hc : okC c) (hd : okC d) (hcl : c.length ≤ 64) (hdl : d.length ≤ 64) (h1 : up (c.map (·.1))) (h2 : up (d.map (·.1))) (n : Nat) (hf : ∀ t ∈ c.map (·.1) ++ d.map (·.1), chk t = 0 ∧ t.length = n) :
    ref_CountsBoth (c, d, ()) = some (emit [] (mergeM c d)) := by
  unfold ref_CountsBoth
  have hs := sort_facts (c.map (·.1) ++ d.map (·.1))
  have hlen : (c.map (·.1) ++ d.map (·.1)).length ≤ 1000 := by rw [List.length_append, List.length_map, List.length_map]; omega
  simp only [ref_CountsTimes_eq (show c.length * 24 ≤ 140737488355328 by omega), ref_CountsTimes_eq (show d.length * 24 ≤ 140737488355328 by omega), Option.bind_some, ref_TimesAll_eq (show (c.map (·.1)).length ≤ 1000 by rw [List.length_map]; omega) (show (d.map (·.1)).length ≤ 1000 by rw [List.length_map]; omega), ref_TimesSorted_eq hlen n hf]
  have := both_loop hc hd (by omega) (by omega) (sortT (c.map (·.1) ++ d.map (·.1))) (by omega) (sortT (c.map (·.1) ++ d.map (·.1))).length 0 [] (by omega) (Nat.le_refl _)
  rw [List.drop_zero, ← merge_is h1 h2] at this
  exact this

theorem emit_len (M : List Cn) : ∀ acc : List Cn, (emit acc M).1.length ≤ 64 := by
  induction M with
  | nil =>
    intro acc
    unfold emit
    split
    · exact Nat.zero_le _
    · show acc.length ≤ 64; omega
  | cons x M ih =>
    intro acc
    unfold emit
    split
    · exact Nat.zero_le _
    · exact ih _
theorem emit_ok {M : List Cn} (hM : ∀ x ∈ M, x.1.length ≤ 4) : ∀ acc : List Cn, (∀ x ∈ acc, x.1.length ≤ 4) → ∀ x ∈ (emit acc M).1, x.1.length ≤ 4 := by
  induction M with
  | nil =>
    intro acc ha
    unfold emit
    split
    · intro x hx; cases hx
    · exact ha
  | cons y M ih =>
    intro acc ha
    unfold emit
    split
    · intro x hx; cases hx
    · refine ih (fun x hx => hM x (List.mem_cons_of_mem _ hx)) _ ?_
      split
      · exact ha
      · intro x hx
        rcases List.mem_append.1 hx with h | h
        · exact ha x h
        · rw [List.mem_singleton] at h; subst h; exact hM x (List.mem_cons_self ..)

theorem ref_Counts_same {l : List Cn} (hl : l.length ≤ 1000) (h : ∀ x ∈ l, x.1.length ≤ 4) : ref_Counts (l, l, ()) = some (true, ()) := by
  unfold ref_Counts
  simp only [bneF rfl, cond_false]
  have key := loopM_exit (f := ref_Counts_l1 (l, l, ())) l.length (fun i => ((i : Int), ())) (fun _ => (none : Option (Bool × Unit))) (.inl ()) (fun i hi => by
    have := h _ (List.getElem_mem hi)
    unfold ref_Counts_l1
    simp only [dcT (show (i : Int) < (l.length : Int) by omega), cond_true, getI_lt hi, Option.bind_some, bneF rfl, cond_false, ref_TimesSame_eq (show l[i].1.length ≤ 1000000 by omega), decide_true, Bool.not_true, wrapS (show i < 9223372036854775807 by omega)]
    rfl) (by
    unfold ref_Counts_l1
    simp only [dcF (show ¬ (l.length : Int) < (l.length : Int) by omega), cond_false]) (s0 := ((0 : Int), ())) rfl
  rw [key, show (List.range l.length).findSome? (fun _ => (none : Option (Bool × Unit))) = none by simp]
  rfl
end

end Go.Proofs.Try
