/- The plain law of PolarCompletes. -/
import Derived.Test.YtamkgeejenceaaaDoorR1Funs
import Derived.Test.YtamkgeejenceaaaDoorAbsSums
import Derived.Test.YtamkgeejenceaaaDoorR1LemmasPolarCompletes1
import Derived.Test.YtamkgeejenceaaaDoorR1LemmasPolarCompletes2
namespace Go.Proofs.Tryd
open Go Go.Abs


section
variable {rs : List Nat} {C : Nat} {L : List Nat}
/-- One closed set within another. -/
def subs (L : List Nat) (i t : Nat) : Bool := decide (dif (L.getD i 0) (L.getD t 0) = 0)
abbrev UM := List (Int × Int)
def mpT (L : List Nat) : Nat → UM
  | 0 => []
  | k + 1 => mapSet (.int .u32) (mpT L k) (((L.getD k 0 : Nat)) : Int) (k : Int)
theorem u32_flat : (Ty.int IntKind.u32).flat = true := rfl
theorem gd {i : Nat} (h : i < L.length) : L.getD i 0 = L[i] := by simp [List.getD, h]
theorem up_inj (hup : L.Pairwise (· < ·)) {i k : Nat} (hi : i < L.length) (hk : k < L.length) (h : L.getD i 0 = L.getD k 0) : i = k := by
  rw [gd hi, gd hk] at h
  rcases Nat.lt_trichotomy i k with h1 | h1 | h1
  · have := (List.pairwise_iff_getElem.1 hup) i k hi hk h1; omega
  · exact h1
  · have := (List.pairwise_iff_getElem.1 hup) k i hk hi h1; omega
theorem mpT_get (hup : L.Pairwise (· < ·)) : ∀ (k i : Nat), k ≤ L.length → i < k → mapGet (.int .u32) (mpT L k) (((L.getD i 0 : Nat)) : Int) = some (i : Int)
  | 0, i, _, h => by omega
  | k + 1, i, hk, h => by
    unfold mpT
    by_cases e : i = k
    · subst e; rw [mapGet_self u32_flat]
    · have hne : ((L.getD i 0 : Nat) : Int) ≠ ((L.getD k 0 : Nat) : Int) := fun hh => e (up_inj hup (by omega) (by omega) (by omega))
      rw [mapGet_other u32_flat _ _ _ _ hne]
      exact mpT_get hup k i (by omega) (by omega)
theorem fit_getD (hL : Fit L) (i : Nat) : L.getD i 0 < 2 ^ 32 := fitD hL i
theorem conc_get {i : Nat} (hi : i < L.length) : getI (L.map (conc rs C)) (i : Int) = some (conc rs C (L.getD i 0)) := by
  rw [getI_nat, List.getElem?_map, List.getElem?_eq_getElem hi, gd hi]; rfl
theorem dif_zero_beq (hL : Fit L) (i t : Nat) : ((bitsI .andNot .u32 ((L.getD i 0 : Nat) : Int) ((L.getD t 0 : Nat) : Int)) == (0 : Int)) = subs L i t := by
  rw [not_u32 (fit_getD hL i) (fit_getD hL t)]
  unfold subs
  rw [Bool.eq_iff_iff, beq_iff_eq, decide_eq_true_eq]; omega

theorem complete_l1 (hL : Fit L) (hm : L.length ≤ 16) {j : Nat} (hj : j < L.length) {g : Nat → Nat} (hg : g j = 0) (z : Int × Unit) (M : UM) (q : List Int × Unit) :
    loopM (polar_Complete_l1 (L.map (conc rs C), z) (conc rs C (L.getD j 0)) ((j : Int), M, q)) ((0 : Int), cl (tab L.length g), ()) = some (.inl (cl (tab L.length fun i => if i = j then wordOf L.length (subs L j) else g i), ())) := by
  refine loopM_sim (f := polar_Complete_l1 (L.map (conc rs C), z) (conc rs C (L.getD j 0)) ((j : Int), M, q)) L.length (fun k => ((k : Int), cl (tab L.length fun i => if i = j then wordOf k (subs L j) else g i), ())) _ (fun k hk => ?_) ?_ ?_
  · have h1 : wordOf k (subs L j) < 2 ^ 32 := wordOf_lt32 _ (by omega)
    have h2 : (conc rs C (L.getD j 0)).1 = ((L.getD j 0 : Nat) : Int) := rfl
    have h3 : (conc rs C (L.getD k 0)).1 = ((L.getD k 0 : Nat) : Int) := rfl
    unfold polar_Complete_l1
    simp only [List.length_map, dcT (show (k : Int) < (L.length : Int) by omega), cond_true, conc_get hk, Option.bind_some, h2, h3, dif_zero_beq hL, wrapS (show k < 9223372036854775807 by omega)]
    cases hb : subs L j k with
    | true =>
      simp (disch := first | assumption | omega) only [cond_true, Option.bind_some, inB_T, Int.toNat_natCast, length_cl, length_tab, sets_One_eq (show k < 32 by omega)]
      have hg1 : (cl (tab L.length fun i => if i = j then wordOf k (subs L j) else g i))[j]? = some ((wordOf k (subs L j) : Nat) : Int) := by rw [cl_get, tab_get _ hj, if_pos rfl]; rfl
      simp only [hg1, Option.bind_some, or_u32 h1 (two_pow_32 (show k < 32 by omega)), cl_set, tab_set]
      congr 5
      refine tab_congr fun i hi => ?_
      by_cases e : i = j
      · simp only [if_pos e, wordOf_step, hb, cond_true]
      · simp only [if_neg e]
    | false =>
      simp only [cond_false]
      congr 5
      refine tab_congr fun i hi => ?_
      by_cases e : i = j
      · simp only [if_pos e, wordOf_step, hb, cond_false]
      · simp only [if_neg e]
  · unfold polar_Complete_l1
    simp only [List.length_map, dcF (show ¬ (L.length : Int) < (L.length : Int) by omega), cond_false]
  · show _ = ((0 : Int), _, ())
    congr 3
    refine tab_congr fun i hi => ?_
    by_cases e : i = j
    · rw [if_pos e, e, hg]; rfl
    · rw [if_neg e]

theorem complete_l2 (hL : Fit L) (hm : L.length ≤ 16) (z : Int × Unit) :
    loopM (polar_Complete_l2 (L.map (conc rs C), z)) ((0 : Int), ([] : UM), cl (tab L.length fun _ => 0), ()) = some (.inl (mpT L L.length, cl (tab L.length fun i => wordOf L.length (subs L i)), ())) := by
  have := loopM_sim (f := polar_Complete_l2 (L.map (conc rs C), z)) L.length (fun k => ((k : Int), mpT L k, cl (tab L.length fun i => if i < k then wordOf L.length (subs L i) else 0), ())) (.inl (mpT L L.length, cl (tab L.length fun i => wordOf L.length (subs L i)), ())) (fun k hk => ?_) ?_ (s0 := ((0 : Int), ([] : UM), cl (tab L.length fun _ => 0), ())) ?_
  · exact this
  · unfold polar_Complete_l2
    simp only [List.length_map, dcT (show (k : Int) < (L.length : Int) by omega), cond_true, conc_get hk, Option.bind_some, wrapS (show k < 9223372036854775807 by omega)]
    rw [complete_l1 hL hm hk (by simp)]
    simp only [Option.bind_some, Sum.elim_inl]
    congr 5
    refine congrArg cl (tab_congr fun i hi => ?_)
    by_cases e : i = k
    · subst e; rw [if_pos rfl, if_pos (by omega)]
    · rw [if_neg e]
      by_cases h : i < k
      · rw [if_pos h, if_pos (by omega)]
      · rw [if_neg h, if_neg (by omega)]
  · unfold polar_Complete_l2
    simp only [List.length_map, dcF (show ¬ (L.length : Int) < (L.length : Int) by omega), cond_false]
    have : (tab L.length fun i => if i < L.length then wordOf L.length (subs L i) else 0) = tab L.length fun i => wordOf L.length (subs L i) := tab_congr fun i hi => by rw [if_pos hi]
    rw [this]
  · rfl

theorem complete_l3 {n : Nat} (hn : n ≤ 16) {dn pos : Nat → Nat} (hup : L.Pairwise (· < ·)) (hp : ∀ i, i < n → pos i < L.length ∧ L.getD (pos i) 0 = dn i) (X : List Int × Unit) :
    loopM (polar_Complete_l3 (cl (tab n dn), ()) (mpT L L.length, X)) ((0 : Int), List.replicate n (0 : Int), ()) = some (.inl (cl (tab n pos), ())) := by
  refine loopM_sim (f := polar_Complete_l3 (cl (tab n dn), ()) (mpT L L.length, X)) n (fun k => ((k : Int), cl (tab n fun i => if i < k then pos i else 0), ())) _ (fun k hk => ?_) ?_ ?_
  · have g1 : (cl (tab n dn))[k]? = some ((dn k : Nat) : Int) := by rw [cl_get, tab_get _ hk]; rfl
    have g2 : (cl (tab n fun i => if i < k then pos i else 0))[k]? = some ((0 : Nat) : Int) := by rw [cl_get, tab_get _ hk, if_neg (by omega)]; rfl
    have g3 : mapGet (.int .u32) (mpT L L.length) ((dn k : Nat) : Int) = some ((pos k : Nat) : Int) := by
      rw [← (hp k hk).2]; exact mpT_get hup _ _ (Nat.le_refl _) (hp k hk).1
    unfold polar_Complete_l3
    simp (disch := first | assumption | omega) only [cond_true, Option.bind_some, dcT, inB_T, Int.toNat_natCast, wrapS, length_cl, length_tab, g1, g2, g3]
    simp only [Option.getD_some, cl_set, tab_set]
    congr 5
    refine tab_congr fun i hi => ?_
    by_cases e : i = k
    · subst e; rw [if_pos rfl, if_pos (by omega)]
    · rw [if_neg e]
      by_cases h : i < k
      · rw [if_pos h, if_pos (by omega)]
      · rw [if_neg h, if_neg (by omega)]
  · unfold polar_Complete_l3
    simp (disch := first | assumption | omega) only [cond_false, dcF, Int.toNat_natCast, wrapS, length_cl, length_tab]
    have : (tab n fun i => if i < n then pos i else 0) = tab n pos := tab_congr fun i hi => by rw [if_pos hi]
    rw [this]
  · show ((0 : Int), cl (tab n fun i => if i < 0 then pos i else 0), ()) = _
    rw [cl_rep, rep_tab]; rfl

/-! The reference. -/
theorem ref_l1 (hm : L.length ≤ 16) : loopM (ref_PolarComplete_l1 (L.map (conc rs C), ())) (([] : List Int), (0 : Int), ()) = some (.inl (cl L, ())) := by
  refine loopM_sim (f := ref_PolarComplete_l1 (L.map (conc rs C), ())) L.length (fun k => (cl (L.take k), (k : Int), ())) _ (fun k hk => ?_) ?_ rfl
  · have g1 : (L.map (conc rs C))[k]? = some (conc rs C L[k]) := by rw [List.getElem?_map, List.getElem?_eq_getElem hk]; rfl
    have g2 : (cl (L.take k)).length = k := by rw [cl_length, List.length_take]; omega
    unfold ref_PolarComplete_l1
    simp only [List.length_map, dcT (show (k : Int) < (L.length : Int) by omega), cond_true, inB_T hk, Int.toNat_natCast, g1, Option.bind_some, g2, wrapS (show k < 9223372036854775807 by omega), List.length_cons, List.length_nil, room4 (show k + (0 + 1) ≤ 1000000 by omega), Bool.and_true]
    have : cl (L.take (k + 1)) = cl (L.take k) ++ [(conc rs C L[k]).1] := by
      rw [List.take_succ_eq_append_getElem hk, ← cl_app]; rfl
    rw [this]
  · unfold ref_PolarComplete_l1
    simp only [List.length_map, dcF (show ¬ (L.length : Int) < (L.length : Int) by omega), cond_false, List.take_length]

theorem ref_l2 (hL : Fit L) (hm : L.length ≤ 16) (hup : L.Pairwise (· < ·)) {p d : Nat} (hp : p < L.length) (hd : L.getD p 0 = d) (acc : List Int) (ha : acc.length ≤ 1000) :
    loopM (ref_PolarComplete_l2 (cl L, ()) ((d : Int), ())) (acc, (0 : Int), ()) = some (.inl (acc ++ [(p : Int)], ())) := by
  refine loopM_sim (f := ref_PolarComplete_l2 (cl L, ()) ((d : Int), ())) L.length (fun k => (acc ++ (if p < k then [(p : Int)] else []), (k : Int), ())) _ (fun k hk => ?_) ?_ (by simp)
  · have g1 : (cl L)[k]? = some ((L.getD k 0 : Nat) : Int) := by rw [cl_get, List.getElem?_eq_getElem hk, gd hk]; rfl
    have hc : (((L.getD k 0 : Nat) : Int) == (d : Int)) = decide (k = p) := by
      rw [Bool.eq_iff_iff, beq_iff_eq, decide_eq_true_eq, ← hd]
      exact ⟨fun h => up_inj hup hk hp (by omega), fun h => by rw [h]⟩
    have hr : roomOk ((acc ++ (if p < k then [(p : Int)] else [])).length + 1) 8 = true := room8 (by rw [List.length_append]; split <;> simp <;> omega)
    unfold ref_PolarComplete_l2
    simp only [cl_length, dcT (show (k : Int) < (L.length : Int) by omega), cond_true, inB_T hk, Int.toNat_natCast, g1, Option.bind_some, hc, wrapS (show k < 9223372036854775807 by omega), show ∀ q : Int, ([q] : List Int).length = 1 from fun _ => rfl, hr, Bool.and_true]
    by_cases e : k = p
    · subst e
      rw [decide_eq_true rfl, cond_true, if_neg (by omega), if_pos (by omega), List.append_nil]
    · rw [decide_eq_false e, cond_false]
      by_cases h : p < k
      · rw [if_pos h, if_pos (by omega)]
      · rw [if_neg h, if_neg (by omega)]
  · unfold ref_PolarComplete_l2
    simp only [cl_length, dcF (show ¬ (L.length : Int) < (L.length : Int) by omega), cond_false, if_pos hp]

theorem unW_one {n : Nat} {ws : List Nat} {i : Nat} (hi : i < n) : unW n (downW n ws) (2 ^ i) n = (downW n ws).getD i 0 := by
  apply Nat.eq_of_testBit_eq
  intro b
  unfold unW
  rw [wordOf_bit, downW_bit hi]
  by_cases hb : b < n
  · rw [decide_eq_true hb, Bool.true_and, Bool.true_and, Bool.eq_iff_iff, any_range]
    constructor
    · rintro ⟨r, hr, h⟩
      rw [Bool.and_eq_true, Nat.testBit_two_pow, decide_eq_true_eq] at h
      obtain ⟨rfl, h⟩ := h
      rw [below_down hr hb] at h; exact h
    · intro h
      refine ⟨i, hi, ?_⟩
      rw [Bool.and_eq_true, Nat.testBit_two_pow, below_down hi hb]
      exact ⟨decide_eq_true rfl, h⟩
  · rw [decide_eq_false hb, Bool.false_and, Bool.false_and]

theorem ref_l3 {n : Nat} {ws : List Nat} (hf : Fit ws) (hl : ws.length = n) (hn : n ≤ 16) (hL : Fit L) (hm : L.length ≤ 16) (hup : L.Pairwise (· < ·)) {pos : Nat → Nat} (hp : ∀ i, i < n → pos i < L.length ∧ L.getD (pos i) 0 = (downW n ws).getD i 0) :
    loopM (ref_PolarComplete_l3 (((n : Int), cl ws, ()), ()) (cl L, ())) (([] : List Int), (0 : Int), ()) = some (.inl (cl (tab n pos), ())) := by
  refine loopM_sim (f := ref_PolarComplete_l3 (((n : Int), cl ws, ()), ()) (cl L, ())) n (fun k => (cl (tab k pos), (k : Int), ())) _ (fun k hk => ?_) ?_ rfl
  · unfold ref_PolarComplete_l3
    have hsh : shlI .u32 (1 : Int) (IntKind.u64.wrap (k : Int)) = ((2 ^ k : Nat) : Int) := by
      rw [wrap_u64 (show k < 2 ^ 64 by omega), shl_u32 (show k < 32 by omega)]
    have hneg : decide ((IntKind.u64.wrap (k : Int)) < 0) = false := by rw [wrap_u64 (show k < 2 ^ 64 by omega)]; exact dcF (by omega)
    simp only [dcT (show (k : Int) < (n : Int) by omega), cond_true, hneg, cond_false, hsh]
    rw [ref_DownsDown_eq hf hl hn (two_pow_32 (show k < 32 by omega)), unW_one hk]
    simp only [Option.bind_some]
    rw [ref_l2 hL hm hup (hp k hk).1 (hp k hk).2 _ (by rw [cl_length, tab_length]; omega)]
    simp only [Option.bind_some, Sum.elim_inl, wrapS (show k < 9223372036854775807 by omega), tab_succ, ← cl_app]
    rfl
  · unfold ref_PolarComplete_l3
    simp only [dcF (show ¬ (n : Int) < (n : Int) by omega), cond_false]

theorem or_subs (i t : Nat) : (L.getD i 0 ||| L.getD t 0 = L.getD t 0) ↔ dif (L.getD i 0) (L.getD t 0) = 0 := by
  rw [dif_zero]
  constructor
  · intro h j hj
    rw [← h, Nat.testBit_or, hj, Bool.true_or]
  · intro h
    apply Nat.eq_of_testBit_eq
    intro j
    rw [Nat.testBit_or]
    cases hj : (L.getD i 0).testBit j with
    | false => rw [Bool.false_or]
    | true => rw [h j hj]; rfl
theorem incl_l1 (hL : Fit L) (hm : L.length ≤ 16) {i : Nat} (hi : i < L.length) (q : List Int × (Int × Unit) × Unit) :
    loopM (ref_Inclusion_l1 (cl L, ()) ((i : Int), q)) ((0 : Int), (0 : Int), ()) = some (.inl (((wordOf L.length (subs L i) : Nat) : Int), ())) := by
  refine loopM_sim (f := ref_Inclusion_l1 (cl L, ()) ((i : Int), q)) L.length (fun k => (((wordOf k (subs L i) : Nat) : Int), (k : Int), ())) _ (fun k hk => ?_) ?_ rfl
  · have g : ∀ k, k < L.length → getI (cl L) (k : Int) = some ((L.getD k 0 : Nat) : Int) := fun k hk => by rw [getI_nat, cl_get, List.getElem?_eq_getElem hk, gd hk]; rfl
    have hw : wordOf k (subs L i) < 2 ^ 32 := wordOf_lt32 _ (by omega)
    have hsh : shlI .u32 (1 : Int) (IntKind.u64.wrap (k : Int)) = ((2 ^ k : Nat) : Int) := by
      rw [wrap_u64 (show k < 2 ^ 64 by omega), shl_u32 (show k < 32 by omega)]
    have hneg : decide ((IntKind.u64.wrap (k : Int)) < 0) = false := by rw [wrap_u64 (show k < 2 ^ 64 by omega)]; exact dcF (by omega)
    have hc : (((L.getD i 0 ||| L.getD k 0 : Nat) : Int) == ((L.getD k 0 : Nat) : Int)) = subs L i k := by
      unfold subs
      rw [Bool.eq_iff_iff, beq_iff_eq, decide_eq_true_eq, ← or_subs]; omega
    unfold ref_Inclusion_l1
    simp only [cl_length, dcT (show (k : Int) < (L.length : Int) by omega), cond_true, g i hi, g k hk, Option.bind_some, or_u32 (fit_getD hL i) (fit_getD hL k), hc, hneg, cond_false, hsh, or_u32 hw (two_pow_32 (show k < 32 by omega)), wrapS (show k < 9223372036854775807 by omega), wordOf_step]
    cases subs L i k <;> rfl
  · unfold ref_Inclusion_l1
    simp only [cl_length, dcF (show ¬ (L.length : Int) < (L.length : Int) by omega), cond_false]
theorem ref_Inclusion_eq (hL : Fit L) (hm : L.length ≤ 16) : ref_Inclusion (cl L, ()) = some (((L.length : Int), cl (tab L.length fun i => wordOf L.length (subs L i)), ()), ()) := by
  have k := loopM_sim (f := ref_Inclusion_l2 (cl L, ())) L.length (fun k => ((k : Int), cl (tab k fun i => wordOf L.length (subs L i)), ((L.length : Int), ()), ())) (.inl (cl (tab L.length fun i => wordOf L.length (subs L i)), ((L.length : Int), ()), ())) (fun k hk => ?_) ?_ (s0 := ((0 : Int), ([] : List Int), ((L.length : Int), ()), ())) rfl
  · unfold ref_Inclusion
    rw [cl_length, k]; rfl
  · have hr : roomOk ((cl (tab k fun i => wordOf L.length (subs L i))).length + 1) 4 = true := room4 (by rw [cl_length, tab_length]; omega)
    unfold ref_Inclusion_l2
    simp only [cl_length L, dcT (show (k : Int) < (L.length : Int) by omega), cond_true]
    rw [incl_l1 hL hm hk]
    simp only [Option.bind_some, Sum.elim_inl, show ∀ q : Int, ([q] : List Int).length = 1 from fun _ => rfl, hr, Bool.and_true, cond_true, wrapS (show k < 9223372036854775807 by omega), tab_succ, ← cl_app]
    rfl
  · unfold ref_Inclusion_l2
    simp only [cl_length L, dcF (show ¬ (L.length : Int) < (L.length : Int) by omega), cond_false]

/-! A principal down-set is closed. -/
theorem down_closed {n : Nat} {ws : List Nat} (hl : ws.length = n) (o : IsOrder n ws) {i : Nat} (hi : i < n) : clo ws n ((downW n ws).getD i 0) = (downW n ws).getD i 0 := by
  apply Nat.eq_of_testBit_eq
  intro b
  rw [Bool.eq_iff_iff, clo_bit, downW_bit hi, Bool.and_eq_true, decide_eq_true_eq, hl]
  constructor
  · rintro ⟨hb, h⟩
    refine ⟨hb, h i hi fun k hk h2 => ?_⟩
    rw [downW_bit hi, Bool.and_eq_true] at h2
    exact h2.2
  · rintro ⟨hb, h⟩
    refine ⟨hb, fun j hj hall => ?_⟩
    have hij := hall i hi (by rw [downW_bit hi, Bool.and_eq_true]; exact ⟨decide_eq_true hi, o.refl i hi⟩)
    exact o.trans b i j hb hi hj h hij
theorem down_mem {n : Nat} {ws : List Nat} (hl : ws.length = n) (o : IsOrder n ws) {i : Nat} (hi : i < n) : (downW n ws).getD i 0 ∈ clFrom ws n 0 := by
  unfold clFrom
  rw [List.mem_filter, List.mem_range']
  refine ⟨⟨(downW n ws).getD i 0, ?_, by omega⟩, decide_eq_true (down_closed hl o hi)⟩
  have : clo ws n ((downW n ws).getD i 0) < 2 ^ ws.length := clo_lt ..
  rw [down_closed hl o hi] at this
  omega
theorem idx_of {L : List Nat} {w : Nat} (h : w ∈ L) : L.idxOf w < L.length ∧ L.getD (L.idxOf w) 0 = w := by
  have hi : L.idxOf w < L.length := List.idxOf_lt_length_iff.2 h
  refine ⟨hi, ?_⟩
  rw [gd hi]
  exact List.getElem_idxOf hi
end

/-- What both answer. -/
noncomputable def compl (n : Nat) (ws : List Nat) : (Int × List Int × Unit) × List Int × Int × Unit :=
  if (clFrom ws n 0).length > 16 then (((0 : Int), ([] : List Int), ()), ([] : List Int), (1 : Int), ())
  else ((((clFrom ws n 0).length : Int), cl (tab (clFrom ws n 0).length fun i => wordOf (clFrom ws n 0).length (subs (clFrom ws n 0) i)), ()), cl (tab n fun i => (clFrom ws n 0).idxOf ((downW n ws).getD i 0)), (0 : Int), ())

section
variable {n : Nat} {ws : List Nat}
theorem clFrom_fit (hl : ws.length = n) (hn : n ≤ 16) : Fit (clFrom ws n 0) := fun w hw => by
  unfold clFrom at hw
  have := List.mem_range'.1 (List.mem_filter.1 hw).1
  obtain ⟨i, h1, h2⟩ := this
  have h16 : 2 ^ ws.length ≤ 2 ^ 16 := Nat.pow_le_pow_right (n := 2) (by decide) (by omega)
  omega
theorem complete_eq (hf : Fit ws) (h : ordc (n : Int) ws = 0) (hl : ws.length = n) (hn : n ≤ 16) (hin : Inside n ws) (o : IsOrder n ws) : polar_Complete (((n : Int), cl ws, ()), ()) = some (compl n ws) := by
  have hL := clFrom_fit hl hn
  have hup : (clFrom ws n 0).Pairwise (· < ·) := clFrom_up 0
  have hpol : polc ws (n : Int) = 0 := by
    unfold polc
    rw [if_neg (by omega), if_neg (by omega), if_neg (by omega), Int.toNat_natCast, if_neg (fun hh => hh hin)]
  have hcon : polar_Concepts ((cl ws, (n : Int), ()), ()) = _ := polar_Concepts_eq hf (n : Int)
  rw [if_pos hpol, Int.toNat_natCast] at hcon
  unfold polar_Complete compl
  simp only [order_Check_eq hf, h, Option.bind_some, bneF rfl, cond_false, hcon]
  by_cases h256 : (clFrom ws n 0).length > 256
  · rw [if_pos h256, if_pos (by omega)]
    rfl
  · rw [if_neg h256]
    simp only [bneF rfl, cond_false, List.length_map]
    by_cases h16 : (clFrom ws n 0).length > 16
    · rw [if_pos h16, dcT (by omega), cond_true]
    · rw [if_neg h16, dcF (show ¬ ((clFrom ws n 0).length : Int) > 16 by omega), cond_false]
      have hm : (clFrom ws n 0).length ≤ 16 := by omega
      have l2 := complete_l2 (rs := ws) (C := n) hL hm ((0 : Int), ())
      have l3 := complete_l3 (L := clFrom ws n 0) (n := n) (dn := fun j => wordOf n fun i => below ws i j) (pos := fun i => (clFrom ws n 0).idxOf ((downW n ws).getD i 0)) hn hup (fun i hi => by
        have := idx_of (down_mem hl o hi)
        refine ⟨this.1, this.2.trans ?_⟩
        unfold downW; rw [getD_tab hi]) (cl (tab (clFrom ws n 0).length fun i => wordOf (clFrom ws n 0).length (subs (clFrom ws n 0) i)), ())
      have e0 : List.replicate (clFrom ws n 0).length (0 : Int) = cl (tab (clFrom ws n 0).length fun _ => 0) := by rw [cl_rep, rep_tab]
      have hdn : order_Down (((n : Int), cl ws, ()), ()) = some (cl (tab n fun j => wordOf n fun i => below ws i j), ()) := order_Down_eq hf hl hn hin
      simp only [dcT (show (0 : Int) ≤ ((clFrom ws n 0).length : Int) by omega), dcT (show ((clFrom ws n 0).length : Int) ≤ ((clFrom ws n 0).length : Int) by omega), Int.toNat_natCast, room4 (show (clFrom ws n 0).length ≤ 1000000 by omega), dcT (show ((clFrom ws n 0).length : Int) ≤ 9223372036854775807 by omega), Bool.and_true, cond_true, e0, l2, Option.bind_some, Sum.elim_inl, dcT (show (0 : Int) ≤ (n : Int) by omega), dcT (show (n : Int) ≤ (n : Int) by omega), room8 (show n ≤ 1000000 by omega), dcT (show (n : Int) ≤ 9223372036854775807 by omega), hdn, l3]

theorem ref_Complete_eq (hf : Fit ws) (hl : ws.length = n) (hn : n ≤ 16) (o : IsOrder n ws) : ref_PolarComplete (((n : Int), cl ws, ()), ()) = some (compl n ws) := by
  have hL := clFrom_fit hl hn
  have hup : (clFrom ws n 0).Pairwise (· < ·) := clFrom_up 0
  obtain ⟨r, r1, r2, r3⟩ := rconc_loop (rs := ws) (C := n) hf hn (by omega) 16 (2 ^ ws.length) 0 [] (Nat.sub_le _ _) (Nat.zero_le _) (by simp) (by decide)
  have e0 : ((0 : Nat) : Int) = 0 := rfl
  have e1 : ((16 : Nat) : Int) = 16 := rfl
  rw [e0, e1] at r1
  have hr : ref_PolarConcepts ((cl ws, (n : Int), ()), (16 : Int), ()) = some (r, ()) := by
    unfold ref_PolarConcepts
    rw [r1]; rfl
  rw [List.length_nil, Nat.zero_add, List.nil_append] at r2
  rw [List.length_nil, Nat.zero_add] at r3
  unfold ref_PolarComplete compl
  simp only [hr, Option.bind_some]
  by_cases hm : (clFrom ws n 0).length > 16
  · have := r3 hm
    rw [if_pos hm, dcT (show (r.length : Int) > 16 by omega), cond_true]
  · have hre := r2 (by omega)
    have hlen : r.length = (clFrom ws n 0).length := by rw [hre, List.length_map]
    rw [if_neg hm, dcF (show ¬ (r.length : Int) > 16 by omega), cond_false, hre, ref_l1 (by omega)]
    simp only [Option.bind_some, Sum.elim_inl]
    rw [ref_l3 hf hl hn hL (by omega) hup (pos := fun i => (clFrom ws n 0).idxOf ((downW n ws).getD i 0)) (fun i hi => idx_of (down_mem hl o hi))]
    simp only [Option.bind_some, Sum.elim_inl]
    rw [ref_Inclusion_eq hL (by omega)]
    rfl
end

/-- THE LAW. -/
theorem polarCompletes {N : Int} {ws : List Nat} (hf : Fit ws) : law_PolarCompletes ((N, cl ws, ()), ()) = some (true, ()) := by
  unfold law_PolarCompletes
  by_cases h : ordc N ws = 0
  · obtain ⟨h1, h2, h3, hin, o⟩ := ordc_zero h
    obtain ⟨n, rfl⟩ := Int.eq_ofNat_of_zero_le h1
    have hl : ws.length = n := by omega
    have hn : n ≤ 16 := by omega
    have hc : compl n ws = compl n ws := rfl
    simp only [complete_eq hf h hl hn hin o, ref_OrderCheck_eq hf, h, Option.bind_some, bneF rfl, cond_false, ref_Complete_eq hf hl hn o, beqT rfl, cond_true]
    have k1 : ref_Orders ((compl n ws).1, (compl n ws).1, ()) = some (true, ()) := by
      unfold compl
      split
      · exact ref_Orders_same (by simp)
      · exact ref_Orders_same (by rw [cl_length, tab_length]; omega)
    have k2 : ref_TimesSame ((compl n ws).2.1, (compl n ws).2.1, ()) = some (true, ()) := by
      unfold compl
      split
      · exact ref_TimesSame_same _ (by simp)
      · exact ref_TimesSame_same _ (by rw [cl_length, tab_length]; omega)
    rw [k1]
    simp only [Option.bind_some, cond_true, k2]
  · have : polar_Complete ((N, cl ws, ()), ()) = some (((0 : Int), ([] : List Int), ()), ([] : List Int), ordc N ws, ()) := by
      unfold polar_Complete
      simp only [order_Check_eq hf, Option.bind_some, bneT h, cond_true]
    simp only [this, ref_OrderCheck_eq hf, Option.bind_some, bneT h, cond_true, beqT rfl]
    rw [ref_Orders_same (by simp)]
    rfl

theorem polarCompletes_law (x : ADen sp6.args) (h : WfA sp6.args x) : law_PolarCompletes x = some (true, ()) := by
  obtain ⟨⟨N, l, ⟨⟩⟩, ⟨⟩⟩ := x
  obtain ⟨ws, rfl, hf⟩ := words_of h.1.2.1
  exact polarCompletes hf

end Go.Proofs.Tryd
