/- The plain law: for any summary, number and list, what the functions of 'watershedlaw.SummaryTells' compute is true. -/
import Derived.Test.YtdinlimamfpboaaSummaryTellsFuns
namespace Go.Proofs.Try
open Go Go.Abs

/-! ### times.Check and its like -/
/-- Out of the range of whole numbers that a time may hold. -/
def bad (v : Int) : Bool := decide (v < 0) || decide (v > 1048576)

theorem bad_two {β : Type} (v : Int) (b : β) (s : Int × Unit) : (cond (decide (v < (0 : Int))) (some (Sum.inr b)) (cond (decide (v > (1048576 : Int))) (some (Sum.inr b)) (some (Sum.inl s))) : Option ((Int × Unit) ⊕ β)) = some (if bad v = true then .inr b else .inl s) := by
  unfold bad
  by_cases h1 : v < 0
  · simp [h1]
  · by_cases h2 : v > 1048576
    · simp [h1, h2]
    · simp [h1, h2]

theorem bad_ok {v : Int} (h : bad v = false) : 0 ≤ v ∧ v ≤ 1048576 := by
  unfold bad at h
  simp at h
  omega

def chk (l : List Int) : Int := if l.length = 0 ∨ l.length > 4 then 1 else if l.any bad = true then 2 else 0

theorem chk_zero {l : List Int} (h : chk l = 0) : 0 < l.length ∧ l.length ≤ 4 ∧ ∀ (i : Nat) (v : Int), l[i]? = some v → 0 ≤ v ∧ v ≤ 1048576 := by
  unfold chk at h
  split at h
  · cases h
  · split at h
    · cases h
    · rename_i h1 h2
      refine ⟨by omega, by omega, fun i v hi => bad_ok ?_⟩
      have hm := List.mem_of_getElem? hi
      cases hb : bad v with
      | false => rfl
      | true => exact absurd (List.any_eq_true.2 ⟨v, hm, hb⟩) h2

theorem times_Check_loop (l : List Int) (hl : l.length ≤ 4) : loopM (times_Check_l1 (l, ())) (0, ()) = some (if l.any bad = true then Sum.inl (2, ()) else Sum.inr (Sum.inl ())) := by
  refine loopM_all l bad (Sum.inl (2, ())) (Sum.inr (Sum.inl ())) (fun i v hi => ?_) ?_
  · have hlt := (List.getElem?_eq_some_iff.1 hi).1
    have hi' : ((i : Int) < (l.length : Int)) := by omega
    unfold times_Check_l1
    simp only [hi', decide_true, cond_true, getI_nat, hi, Option.bind_some]
    rw [wrap64 (by omega) (by omega)]
    exact bad_two v _ _
  · simp [times_Check_l1]

theorem ref_TimesCheck_loop (l : List Int) (hl : l.length ≤ 4) : loopM (ref_TimesCheck_l1 (l, ())) (0, ()) = some (if l.any bad = true then Sum.inl (2, ()) else Sum.inr (Sum.inl ())) := by
  refine loopM_all l bad (Sum.inl (2, ())) (Sum.inr (Sum.inl ())) (fun i v hi => ?_) ?_
  · have hlt := (List.getElem?_eq_some_iff.1 hi).1
    have hi' : ((i : Int) < (l.length : Int)) := by omega
    unfold ref_TimesCheck_l1
    simp only [hi', decide_true, cond_true, getI_nat, hi, Option.bind_some]
    rw [wrap64 (by omega) (by omega)]
    exact bad_two v _ _
  · simp [ref_TimesCheck_l1]

theorem times_Check_eq (l : List Int) : times_Check (l, ()) = some (chk l, ()) := by
  unfold times_Check chk
  by_cases h0 : l.length = 0
  · simp [h0]
  · by_cases h4 : l.length > 4
    · have : ((l.length : Int) > 4) := by omega
      simp [h0, h4, this]
    · have h5 : ¬ ((l.length : Int) > 4) := by omega
      have h6 : ((l.length : Int) == 0) = false := by simp; exact fun h => h0 (by simp [h])
      simp only [h6, cond_false, h5, decide_false]
      have hn : ¬ (l.length = 0 ∨ l.length > 4) := by omega
      rw [times_Check_loop l (by omega), if_neg hn]
      split <;> rfl

theorem ref_TimesCheck_eq (l : List Int) : ref_TimesCheck (l, ()) = some (chk l, ()) := by
  unfold ref_TimesCheck chk
  by_cases h0 : l.length = 0
  · simp [h0]
  · have h6 : ¬ ((l.length : Int) < 1) := by omega
    by_cases h4 : l.length > 4
    · have : ((l.length : Int) > 4) := by omega
      simp [h4, this, h6]
    · have h5 : ¬ ((l.length : Int) > 4) := by omega
      simp only [h6, cond_false, h5, decide_false]
      have hn : ¬ (l.length = 0 ∨ l.length > 4) := by omega
      rw [ref_TimesCheck_loop l (by omega), if_neg hn]
      split <;> rfl

/-! ### Lists compared -/
theorem ref_TimesSame_same (a : List Int) (h : a.length ≤ 1000000) : ref_TimesSame (a, a, ()) = some (true, ()) := by
  unfold ref_TimesSame
  have key := loopM_for (f := ref_TimesSame_l1 (a, a, ())) a.length (fun _ => none) (Sum.inr (Sum.inl ())) (fun i hi => ?_) ?_
  · have hn : ((List.range a.length).findSome? fun _ => (none : Option ((Bool × Unit) ⊕ Unit ⊕ Empty))) = none := by simp
    rw [hn] at key
    simp only [cond_bne, if_true]
    rw [key]; rfl
  · have hi' : ((i : Int) < (a.length : Int)) := by omega
    unfold ref_TimesSame_l1
    simp only [hi', decide_true, cond_true, getI_nat, List.getElem?_eq_getElem hi, Option.bind_some, cond_bne, if_true]
    rw [wrap64 (by omega) (by omega)]
    rfl
  · simp [ref_TimesSame_l1]

/-! ### summary.Check -/
theorem summary_within_eq (v : Int) : summary_within (v, ()) = some (!bad v, ()) := by
  unfold summary_within bad
  simp only [cond_dec]
  by_cases h1 : v ≥ 0
  · have h2 : ¬ v < 0 := by omega
    by_cases h3 : v ≤ 1048576
    · have h4 : ¬ v > 1048576 := by omega
      simp [h1, h2, h3, h4]
    · have h4 : v > 1048576 := by omega
      simp [h1, h2, h3, h4]
  · have h2 : v < 0 := by omega
    simp [h1, h2]

/-- The check of a summary (n, d, l) at m coordinates. -/
def sck (n d : Int) (l : List Int) (m : Int) : Int := if m < 1 ∨ m > 4 ∨ n < 1 ∨ n > m ∨ (l.length : Int) > 4 - n then 1 else if (bad d || l.any bad) = true then 2 else 0

theorem sck_zero {n d m : Int} {l : List Int} (h : sck n d l m = 0) : 1 ≤ n ∧ n ≤ m ∧ m ≤ 4 ∧ (l.length : Int) ≤ 4 - n ∧ (0 ≤ d ∧ d ≤ 1048576) ∧ ∀ (i : Nat) (v : Int), l[i]? = some v → 0 ≤ v ∧ v ≤ 1048576 := by
  unfold sck at h
  split at h
  · cases h
  · rename_i h1
    split at h
    · cases h
    · rename_i h2
      rw [Bool.not_eq_true, Bool.or_eq_false_iff] at h2
      refine ⟨by omega, by omega, by omega, by omega, bad_ok h2.1, fun i v hi => bad_ok ?_⟩
      cases hb : bad v with
      | false => rfl
      | true =>
        have := List.any_eq_true.2 ⟨v, List.mem_of_getElem? hi, hb⟩
        rw [h2.2] at this; cases this

theorem summary_Check_eq (n d m : Int) (l : List Int) : summary_Check ((n, d, l, ()), m, ()) = some (sck n d l m, ()) := by
  unfold summary_Check sck
  simp only [cond_dec]
  by_cases h1 : m < 1
  · simp [h1]
  · by_cases h2 : m > 4
    · simp [h1, h2]
    · by_cases h3 : n < 1
      · simp [h1, h2, h3]
      · by_cases h4 : n > m
        · simp [h1, h2, h3, h4]
        · rw [wrap64 (by omega) (by omega)]
          by_cases h5 : (l.length : Int) > 4 - n
          · simp [h1, h2, h3, h4, h5]
          · rw [if_neg h1, if_neg h2, if_neg h3, if_neg h4, if_neg h5, if_neg (by omega)]
            have hlen : ([d] ++ l).length = l.length + 1 := by simp
            have hr : roomOk (([d]).length + l.length) 8 = true := room8 (by simp; omega)
            rw [hr, Bool.and_true, Bool.and_true, Bool.and_true, cond_true]
            have key := loopM_all (f := summary_Check_l1 ((n, d, l, ()), m, ())) ([d] ++ l) bad (Sum.inl (2, ())) (Sum.inr (Sum.inl ())) (fun i v hi => by
                have hlt := (List.getElem?_eq_some_iff.1 hi).1
                have hi' : ((i : Int) < (([d] ++ l).length : Int)) := by omega
                have hib : inB (i : Int) ([d] ++ l).length = true := by simp only [inB, Bool.and_eq_true, decide_eq_true_eq]; omega
                unfold summary_Check_l1
                simp only [hi', decide_true, hib, cond_true, Int.toNat_natCast, hi, Option.bind_some, summary_within_eq, Bool.not_not]
                rw [wrap64 (by omega) (by omega)]
                cases bad v <;> rfl) (by simp [summary_Check_l1])
            rw [key]
            have hany : ([d] ++ l).any bad = (bad d || l.any bad) := by simp
            rw [hany]
            split <;> rfl

theorem ref_SummaryCheck_loop (n d m : Int) (l : List Int) (hl : l.length ≤ 4) : loopM (ref_SummaryCheck_l1 ((n, d, l, ()), m, ())) (0, ()) = some (if l.any bad = true then Sum.inl (2, ()) else Sum.inr (Sum.inl ())) := by
  refine loopM_all l bad (Sum.inl (2, ())) (Sum.inr (Sum.inl ())) (fun i v hi => ?_) ?_
  · have hlt := (List.getElem?_eq_some_iff.1 hi).1
    have hi' : ((i : Int) < (l.length : Int)) := by omega
    unfold ref_SummaryCheck_l1
    simp only [hi', decide_true, cond_true, getI_nat, hi, Option.bind_some]
    rw [wrap64 (by omega) (by omega)]
    exact bad_two v _ _
  · simp [ref_SummaryCheck_l1]

theorem ref_SummaryCheck_eq (n d m : Int) (l : List Int) : ref_SummaryCheck ((n, d, l, ()), m, ()) = some (sck n d l m, ()) := by
  unfold ref_SummaryCheck sck
  by_cases h1 : m < 1
  · simp [h1]
  · by_cases h2 : m > 4
    · simp [h1, h2]
    · by_cases h3 : n < 1
      · simp [h1, h2, h3]
      · by_cases h4 : n > m
        · simp [h1, h2, h3, h4]
        · by_cases h5 : (l.length : Int) > 4
          · have h6 : (l.length : Int) > 4 - n := by omega
            simp [h1, h2, h3, h4, h5, h6]
          · by_cases h6 : (l.length : Int) > 4 - n
            · have h7 : IntKind.i64.wrap (n + (l.length : Int)) > 4 := by rw [wrap64 (by omega) (by omega)]; omega
              simp [h1, h2, h3, h4, h5, h6, h7]
            · have h7 : ¬ (IntKind.i64.wrap (n + (l.length : Int)) > 4) := by rw [wrap64 (by omega) (by omega)]; omega
              simp only [h1, h2, h3, h4, h5, h7, decide_false, cond_false]
              have hn : ¬ (False ∨ False ∨ False ∨ False ∨ (l.length : Int) > 4 - n) := by simp; omega
              rw [if_neg hn]
              by_cases h8 : bad d = true
              · rw [h8, Bool.true_or, if_pos rfl]
                unfold bad at h8
                by_cases h9 : d < 0
                · simp [h9]
                · have h10 : d > 1048576 := by simpa [h9] using h8
                  simp [h9, h10]
              · have h8 : bad d = false := by simpa using h8
                have hd := bad_ok h8
                have h9 : ¬ d < 0 := by omega
                have h10 : ¬ d > 1048576 := by omega
                simp only [h9, h10, decide_false, cond_false]
                rw [ref_SummaryCheck_loop n d m l (by omega), h8, Bool.false_or]
                split <;> rfl

/-! ### summary.Apply -/
theorem slices_Clone_eq (l : List Int) (h : l.length ≤ 1000000) : slices_Clone_s_int_int (l, ()) = some (l, ()) := by
  unfold slices_Clone_s_int_int
  have hr : roomOk (([] : List Int).length + l.length) 8 = true := room8 (by simpa using h)
  rw [hr]; rfl

/-- What a summary (n, d, l) makes of a time. -/
def app (n : Nat) (d : Int) (l t : List Int) : List Int × Int :=
  if t.getD (n - 1) 0 + d > 1048576 then ([], 6) else ((t.take n ++ l).set (n - 1) (t.getD (n - 1) 0 + d), 0)

theorem summary_Apply_eq (n d : Int) (l t : List Int) : summary_Apply ((n, d, l, ()), t, ()) =
    some (if chk t ≠ 0 then ([], chk t, ()) else if sck n d l t.length ≠ 0 then ([], sck n d l t.length, ()) else ((app n.toNat d l t).1, (app n.toNat d l t).2, ())) := by
  unfold summary_Apply
  simp only [times_Check_eq, summary_Check_eq, Option.bind_some, cond_bne]
  by_cases h1 : chk t = 0
  · by_cases h2 : sck n d l t.length = 0
    · obtain ⟨t1, t2, t3⟩ := chk_zero h1
      obtain ⟨s1, s2, s3, s4, s5, s6⟩ := sck_zero h2
      simp only [h1, h2, ne_eq, not_true_eq_false, if_false, if_true]
      have hc : (decide (0 ≤ (0 : Int)) && decide ((0 : Int) ≤ n) && decide (n ≤ (t.length : Int))) = true := by simp; omega
      have htk : (t.drop (0 : Int).toNat).take (n.toNat - (0 : Int).toNat) = t.take n.toNat := by simp
      have hlen : (t.take n.toNat).length = n.toNat := by rw [List.length_take]; omega
      rw [hc, cond_true, htk, slices_Clone_eq _ (by omega), Option.bind_some]
      have hr : roomOk ((t.take n.toNat).length + l.length) 8 = true := room8 (by omega)
      have hw : IntKind.i64.wrap (n - 1) = n - 1 := wrap64 (by omega) (by omega)
      have hl : (t.take n.toNat ++ l).length = n.toNat + l.length := by simp [hlen]
      have hib : inB (n - 1) (t.take n.toNat ++ l).length = true := by simp only [inB, hl, Bool.and_eq_true, decide_eq_true_eq]; omega
      have hnat : (n - 1).toNat = n.toNat - 1 := by omega
      have hlt : n.toNat - 1 < t.length := by omega
      have hg : (t.take n.toNat ++ l)[n.toNat - 1]? = some t[n.toNat - 1] := by
        rw [List.getElem?_append_left (by omega), List.getElem?_take_of_lt (by omega), List.getElem?_eq_getElem hlt]
      have hgd : t.getD (n.toNat - 1) 0 = t[n.toNat - 1] := by rw [List.getD_eq_getElem?_getD, List.getElem?_eq_getElem hlt]; rfl
      have ht := t3 _ _ (List.getElem?_eq_getElem hlt)
      have hw2 : IntKind.i64.wrap (t[n.toNat - 1] + d) = t[n.toNat - 1] + d := wrap64 (by omega) (by omega)
      simp only [hr, Bool.and_true, cond_true, hw, hib, hnat, hg, Option.bind_some, hw2]
      have hib2 : inB (n - 1) ((t.take n.toNat ++ l).set (n.toNat - 1) (t[n.toNat - 1] + d)).length = true := by rw [List.length_set]; exact hib
      have hg2 : ((t.take n.toNat ++ l).set (n.toNat - 1) (t[n.toNat - 1] + d))[n.toNat - 1]? = some (t[n.toNat - 1] + d) := by
        rw [List.getElem?_set_self (by omega)]
      simp only [hib2, cond_true, hg2, Option.bind_some, summary_within_eq, Bool.not_not]
      unfold app
      rw [hgd]
      by_cases hb : t[n.toNat - 1] + d > 1048576
      · have : bad (t[n.toNat - 1] + d) = true := by unfold bad; simp [hb]
        rw [this, if_pos hb]; rfl
      · have : bad (t[n.toNat - 1] + d) = false := by unfold bad; simp; omega
        rw [this, if_neg hb]; rfl
    · simp [h1, h2]
  · simp [h1]

theorem ref_SummaryPlace_eq (n d : Int) (l : List Int) (hn : 1 ≤ n) (hn4 : n ≤ 4) (i : Nat) (hi : (i : Int) < n + l.length) (hl : l.length ≤ 4) :
    ref_SummaryPlace ((n, d, l, ()), (i : Int), ()) = some (if (i : Int) ≥ n then l.getD (i - n.toNat) 0 else if (i : Int) = n - 1 then d else 0, ()) := by
  unfold ref_SummaryPlace
  simp only [cond_dec, cond_beq]
  rw [wrap64 (by omega) (by omega), wrap64 (by omega) (by omega)]
  by_cases h1 : (i : Int) ≥ n
  · rw [if_pos h1, if_pos h1]
    have : (i : Int) - n = ((i - n.toNat : Nat) : Int) := by omega
    have hlt : i - n.toNat < l.length := by omega
    rw [this, getI_nat, List.getElem?_eq_getElem hlt, List.getD_eq_getElem?_getD, List.getElem?_eq_getElem hlt]
    rfl
  · rw [if_neg h1, if_neg h1]
    split <;> rfl

theorem ref_SummaryApply_eq (n d : Int) (l t : List Int) : ref_SummaryApply ((n, d, l, ()), t, ()) =
    some (if chk t ≠ 0 then ([], chk t, ()) else if sck n d l t.length ≠ 0 then ([], sck n d l t.length, ()) else ((app n.toNat d l t).1, (app n.toNat d l t).2, ())) := by
  unfold ref_SummaryApply
  simp only [ref_TimesCheck_eq, ref_SummaryCheck_eq, Option.bind_some, cond_bne]
  by_cases h1 : chk t = 0
  · by_cases h2 : sck n d l t.length = 0
    · obtain ⟨t1, t2, t3⟩ := chk_zero h1
      obtain ⟨s1, s2, s3, s4, s5, s6⟩ := sck_zero h2
      simp only [h1, h2, ne_eq, not_true_eq_false, if_false, if_true]
      have hout : ref_SummaryOut ((n, d, l, ()), ()) = some (n + l.length, ()) := by
        unfold ref_SummaryOut
        simp only
        rw [wrap64 (by omega) (by omega)]
      -- the entries, one by one
      let val : Nat → Int := fun i => if (i : Int) ≥ n then l.getD (i - n.toNat) 0 else (if (i : Int) = n - 1 then d else 0) + t.getD i 0
      have hstep : ∀ (i : Nat), i < n.toNat + l.length → ref_SummaryApply_l1 ((n, d, l, ()), t, ()) ((List.range i).map val, (i : Int), ()) = some (if val i > 1048576 then .inr (.inl ([], 6, ())) else .inl ((List.range (i + 1)).map val, ((i + 1 : Nat) : Int), ())) := by
        intro i hi
        unfold ref_SummaryApply_l1
        have hlt : ((i : Int) < n + l.length) := by omega
        have hr : roomOk (i + 1) 8 = true := room8 (by omega)
        have hlen : ((List.range i).map val).length = i := by simp
        have hsucc : (List.range (i + 1)).map val = (List.range i).map val ++ [val i] := by rw [List.range_succ]; simp
        simp only [hout, Option.bind_some, hlt, decide_true, cond_true, ref_SummaryPlace_eq n d l s1 (by omega) i hlt (by omega), hlen, List.length_singleton, hr, Bool.and_true]
        rw [wrap64 (x := (i : Int) + 1) (by omega) (by omega), hsucc]
        by_cases hn : (i : Int) < n
        · have hge : ¬ ((i : Int) ≥ n) := by omega
          have hit : i < t.length := by omega
          have hti := t3 _ _ (List.getElem?_eq_getElem hit)
          have hv : val i = (if (i : Int) = n - 1 then d else 0) + t[i] := by
            show (if (i : Int) ≥ n then _ else _) = _
            rw [if_neg hge, List.getD_eq_getElem?_getD, List.getElem?_eq_getElem hit]; rfl
          have hw : IntKind.i64.wrap ((if (i : Int) = n - 1 then d else 0) + t[i]) = val i := by
            rw [hv]; split <;> exact wrap64 (by omega) (by omega)
          simp only [hn, decide_true, cond_true, getI_nat, List.getElem?_eq_getElem hit, Option.bind_some, if_neg hge, hw, cond_dec]
          split <;> rfl
        · have hge : (i : Int) ≥ n := by omega
          have hv : val i = l.getD (i - n.toNat) 0 := by
            show (if (i : Int) ≥ n then _ else _) = _
            rw [if_pos hge]
          simp only [hn, decide_false, cond_false, if_pos hge, ← hv, cond_dec]
          split <;> rfl
      have hvn : val (n.toNat - 1) = d + t.getD (n.toNat - 1) 0 := by
        show (if ((n.toNat - 1 : Nat) : Int) ≥ n then _ else _) = _
        rw [if_neg (by omega), if_pos (by omega)]
      have hle : ∀ i, i < n.toNat + l.length → i ≠ n.toNat - 1 → ¬ val i > 1048576 := by
        intro i hi hne
        show ¬ ((if (i : Int) ≥ n then _ else _) : Int) > 1048576
        by_cases hge : (i : Int) ≥ n
        · rw [if_pos hge]
          have hlt : i - n.toNat < l.length := by omega
          have := s6 _ _ (List.getElem?_eq_getElem hlt)
          rw [List.getD_eq_getElem?_getD, List.getElem?_eq_getElem hlt]
          simp only [Option.getD_some]; omega
        · rw [if_neg hge, if_neg (by omega)]
          have hit : i < t.length := by omega
          have := t3 _ _ (List.getElem?_eq_getElem hit)
          rw [List.getD_eq_getElem?_getD, List.getElem?_eq_getElem hit]
          simp only [Option.getD_some]; omega
      have hlt : n.toNat - 1 < t.length := by omega
      unfold app
      by_cases hb : t.getD (n.toNat - 1) 0 + d > 1048576
      · rw [if_pos hb]
        have key := loopM_fold' (f := ref_SummaryApply_l1 ((n, d, l, ()), t, ())) (n.toNat - 1) (fun i => (List.range i).map val) (.inl ([], 6, ()))
          (fun i hi => by rw [hstep i (by omega), if_neg (hle i (by omega) (by omega))]) (by rw [hstep _ (by omega), if_pos (by rw [hvn]; omega)])
        simp only [List.range_zero, List.map_nil] at key
        rw [key]; rfl
      · rw [if_neg hb]
        have key := loopM_fold' (f := ref_SummaryApply_l1 ((n, d, l, ()), t, ()))
          (n.toNat + l.length) (fun i => (List.range i).map val) (.inr (.inl ((List.range (n.toNat + l.length)).map val, ())))
          (fun i hi => by
            rw [hstep i hi]
            by_cases hne : i = n.toNat - 1
            · rw [if_neg (by rw [hne, hvn]; omega)]
            · rw [if_neg (hle i hi hne)]) (by
            have hge : ¬ (((n.toNat + l.length : Nat) : Int) < n + l.length) := by omega
            unfold ref_SummaryApply_l1
            simp only [hout, Option.bind_some, hge, decide_false, cond_false])
        simp only [List.range_zero, List.map_nil] at key
        rw [key]
        have heq : (List.range (n.toNat + l.length)).map val = (t.take n.toNat ++ l).set (n.toNat - 1) (t.getD (n.toNat - 1) 0 + d) := by
          have hlen : (t.take n.toNat).length = n.toNat := by rw [List.length_take]; omega
          apply List.ext_getElem?
          intro i
          by_cases hi : i < n.toNat + l.length
          · rw [List.getElem?_map, List.getElem?_range hi]
            show some (val i) = _
            by_cases hne : i = n.toNat - 1
            · rw [hne, List.getElem?_set_self (by simp [hlen]; omega), hvn, Int.add_comm]
            · rw [List.getElem?_set_ne (Ne.symm hne)]
              by_cases hge : (i : Int) ≥ n
              · have hlt2 : i - n.toNat < l.length := by omega
                rw [List.getElem?_append_right (by omega), hlen, List.getElem?_eq_getElem hlt2]
                show some (if (i : Int) ≥ n then _ else _) = _
                rw [if_pos hge, List.getD_eq_getElem?_getD, List.getElem?_eq_getElem hlt2]; rfl
              · have hit : i < t.length := by omega
                rw [List.getElem?_append_left (by omega), List.getElem?_take_of_lt (by omega), List.getElem?_eq_getElem hit]
                show some (if (i : Int) ≥ n then _ else _) = _
                rw [if_neg hge, if_neg (by omega), List.getD_eq_getElem?_getD, List.getElem?_eq_getElem hit]
                simp
          · rw [List.getElem?_eq_none (by simp; omega), List.getElem?_eq_none (by simp [hlen]; omega)]
        rw [heq]; rfl
    · simp [h1, h2]
  · simp [h1]

theorem app_len {n : Nat} {d : Int} {l t : List Int} (hn : n ≤ 4) (hl : l.length ≤ 4) : (app n d l t).1.length ≤ 8 := by
  unfold app
  split
  · simp
  · simp [List.length_take]; omega


/-- THE LAW. -/
theorem summaryTells (n d : Int) (l : List Int) (m : Int) (t : List Int) : law_SummaryTells ((n, d, l, ()), m, t, ()) = some (true, ()) := by
  unfold law_SummaryTells
  simp only [summary_Apply_eq, ref_SummaryApply_eq, summary_Check_eq, ref_SummaryCheck_eq, Option.bind_some, cond_beq, if_true]
  by_cases h1 : chk t = 0
  · by_cases h2 : sck n d l t.length = 0
    · obtain ⟨t1, t2, t3⟩ := chk_zero h1
      obtain ⟨s1, s2, s3, s4, s5, s6⟩ := sck_zero h2
      simp only [h1, h2, ne_eq, not_true_eq_false, if_false]
      rw [ref_TimesSame_same _ (Nat.le_trans (app_len (by omega) (by omega)) (by omega))]; rfl
    · simp only [h1, h2, ne_eq, not_true_eq_false, not_false_eq_true, if_false, if_true]
      rw [ref_TimesSame_same _ (by simp)]; rfl
  · simp only [h1, ne_eq, not_false_eq_true, if_true]
    rw [ref_TimesSame_same _ (by simp)]; rfl

end Go.Proofs.Try
