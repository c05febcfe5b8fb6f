/- Lemmas on functions of the program, by name: graph10. -/
import Derived.Test.YtammjpalmmhokaaDoorD3Funs
import Derived.Test.YtammjpalmmhokaaDoorAbsSums
import Derived.Test.YtammjpalmmhokaaDoorD3LibGraph9
import Derived.Test.YtammjpalmmhokaaDoorD3LibHasi
namespace Go.Proofs.Tryd
open Go Go.Abs


/-! The ranks, in both. -/
section
variable {N : List Node} {E : List Edge}
theorem cl_push (l : List Nat) (a : Nat) : cl l ++ [(a : Int)] = cl (l ++ [a]) := by simp [cl]
def memN (n : Nat) (l : List Nat) : Nat := wordOf n fun i => l.contains i
theorem memN_bit (n : Nat) (l : List Nat) (i : Nat) : (memN n l).testBit i = (decide (i < n) && l.contains i) := wordOf_bit ..
theorem memN_push {n i : Nat} {l : List Nat} (hi : i < n) : memN n l ||| 2 ^ i = memN n (l ++ [i]) := by
  apply Nat.eq_of_testBit_eq
  intro b
  rw [Nat.testBit_or, memN_bit, memN_bit, Nat.testBit_two_pow, Bool.eq_iff_iff]
  simp only [Bool.or_eq_true, Bool.and_eq_true, decide_eq_true_eq, List.contains_iff_mem, List.mem_append, List.mem_singleton]
  constructor
  · rintro (⟨h1, h2⟩ | rfl)
    · exact ⟨h1, .inl h2⟩
    · exact ⟨hi, .inr rfl⟩
  · rintro ⟨h1, h2 | rfl⟩
    · exact .inl ⟨h1, h2⟩
    · exact .inr rfl

/-- As long as the list is short, one is lacking. -/
theorem cntB_or {p q : Nat → Bool} : ∀ (m : Nat), cntB m (fun i => p i || q i) ≤ cntB m p + cntB m q
  | 0 => Nat.le_refl _
  | m + 1 => by
    have := cntB_or (p := p) (q := q) m
    simp only [cntB]
    cases p m <;> cases q m <;> simp <;> omega
theorem cnt_mem (n : Nat) : ∀ l : List Nat, cntB n (fun i => l.contains i) ≤ l.length
  | [] => by
    have : cntB n (fun i => ([] : List Nat).contains i) = cntB n fun _ => false := cntB_congr fun i _ => rfl
    rw [this, cntB_zero]; exact Nat.zero_le _
  | a :: l => by
    have ih := cnt_mem n l
    have h1 : cntB n (fun i => (a :: l).contains i) = cntB n fun i => (i == a) || l.contains i := cntB_congr fun i _ => by rw [List.contains_cons]
    have h2 := cntB_or (p := fun i => i == a) (q := fun i => l.contains i) n
    have h3 : cntB n (fun i => i == a) ≤ 1 := by
      rw [cntB_one n fun j k _ _ hj hk => (beq_iff_eq.1 hj).trans (beq_iff_eq.1 hk).symm]
      split <;> omega
    rw [h1, List.length_cons]
    omega
theorem cnt_all : ∀ n : Nat, cntB n (fun _ => true) = n
  | 0 => rfl
  | n + 1 => by rw [cntB, cnt_all n]; rfl
theorem lacks {n : Nat} {l : List Nat} (h : l.length < n) : ∃ i, i < n ∧ l.contains i = false := by
  apply Classical.byContradiction
  intro hx
  have : cntB n (fun i => l.contains i) = cntB n fun _ => true := cntB_congr fun i hi => by
    cases hc : l.contains i with
    | true => rfl
    | false => exact absurd ⟨i, hi, hc⟩ hx
  have h2 := cnt_mem n l
  rw [this, cnt_all] at h2
  omega

noncomputable def rankL (N : List Node) (E : List Edge) : Nat → List Nat
  | 0 => []
  | k + 1 => rankL N E k ++ [((List.range N.length).find? (readyB N E (rankL N E k))).getD 0]
theorem rankL_len : ∀ k, (rankL N E k).length = k
  | 0 => rfl
  | k + 1 => by simp [rankL, rankL_len k]
theorem rank_next (hN : N.all mayB = true) (hok : ∀ j, j < E.length → edgeC N E j = 0) (hr : ∀ j, j < N.length → ringR N E j = false) {k : Nat} (hk : k < N.length) :
    ∃ i, i < N.length ∧ (List.range N.length).find? (readyB N E (rankL N E k)) = some i ∧ rankL N E (k + 1) = rankL N E k ++ [i] ∧ readyB N E (rankL N E k) i = true := by
  cases hf : (List.range N.length).find? (readyB N E (rankL N E k)) with
  | some i => exact ⟨i, List.mem_range.1 (List.mem_of_find?_eq_some hf), rfl, by rw [rankL, hf]; rfl, List.find?_some hf⟩
  | none =>
    obtain ⟨i, hi, h⟩ := ready_ex hN hok hr (lacks (l := rankL N E k) (n := N.length) (by rw [rankL_len]; exact hk))
    rw [find_none_all hf i hi] at h
    cases h

/-! The program. -/
theorem rank_l1 (hn : N.length ≤ 12) (hE : E.length ≤ 20) (hok : ∀ j, j < E.length → edgeC N E j = 0) :
    loopM (graph_Rank_l1 ((N, E, ()), ())) ((0 : Int), cl (tab N.length fun _ => 0), ()) = some (.inl (cl (tab N.length fun b => wordOf N.length fun a => waitB N E E.length a b), ())) := by
  have h0 : (tab N.length fun _ => 0) = tab N.length fun b => wordOf N.length fun a => waitB N E 0 a b := tab_congr fun b _ => by
    symm
    apply Nat.eq_of_testBit_eq
    intro a
    rw [wordOf_bit, Nat.zero_testBit]
    simp [waitB]
  rw [h0]
  refine loopM_sim E.length (fun i => ((i : Int), cl (tab N.length fun b => wordOf N.length fun a => waitB N E i a b), ())) _ (fun i hi => ?_) ?_ rfl
  · have hv := edge_ok (hok i hi)
    obtain ⟨a, ha⟩ := Int.eq_ofNat_of_zero_le hv.1
    obtain ⟨b, hb⟩ := Int.eq_ofNat_of_zero_le hv.2.2.1
    have han : a < N.length := by have := hv.2.1; omega
    have hbn : b < N.length := by have := hv.2.2.2.1; omega
    have ha' : (E.getD i e0).1 = (a : Int) := ha
    have hb' : (E.getD i e0).2.1 = (b : Int) := hb
    have hstep : ∀ c d, waitB N E (i + 1) c d = (waitB N E i c d || (kindAt N c != 6 && (c == a && d == b))) := fun c d => by
      unfold waitB
      rw [List.range_succ, List.any_append, List.any_cons, List.any_nil, Bool.or_false, ha, hb, Bool.and_or_distrib_left]
      have e1 : ∀ x y : Nat, (((x : Nat) : Int) == ((y : Nat) : Int)) = (y == x) := fun x y => by
        rw [Bool.eq_iff_iff, beq_iff_eq, beq_iff_eq]; omega
      rw [e1, e1]
    have hw : ∀ p, wordOf N.length p < 2 ^ 32 := fun p => wordOf_lt32 _ (by omega)
    have hg : ∀ g : Nat → Nat, (cl (tab N.length g))[b]? = some ((g b : Nat) : Int) := fun g => by
      rw [get_cl (by rw [length_tab]; exact hbn), getD_tab hbn]
    unfold graph_Rank_l1
    simp only [dcT (show (i : Int) < (E.length : Int) by omega), cond_true, getI_D e0 (Int.natCast_nonneg i) (show (i : Int) < (E.length : Int) by omega), Int.toNat_natCast, Option.bind_some, ha', hb', getI_D v0 (Int.natCast_nonneg a) (show (a : Int) < (N.length : Int) by omega), length_cl, length_tab, inB_T hbn, hg, sets_One_eq (show a < 32 by omega), or_u32 (hw _) (two_pow_32 (show a < 32 by omega)), cl_set, tab_set, wrapS (show i < 9223372036854775807 by omega)]
    show (cond (kindAt N a != 6) _ _) = _
    cases hk : kindAt N a != 6 with
    | true =>
      rw [cond_true]
      refine congrArg (fun l => some (Sum.inl (((i + 1 : Nat) : Int), cl l, ()))) (tab_congr fun d hd => ?_)
      apply Nat.eq_of_testBit_eq
      intro c
      by_cases hdb : d = b
      · subst hdb
        rw [if_pos rfl, Nat.testBit_or, wordOf_bit, wordOf_bit, Nat.testBit_two_pow, hstep]
        by_cases hca : c = a
        · subst hca; simp [han, hk]
        · have : ¬ a = c := fun e => hca e.symm
          have h1 : (c == a) = false := beq_eq_false_iff_ne.2 hca
          rw [h1, decide_eq_false this]; simp
      · have h1 : (d == b) = false := beq_eq_false_iff_ne.2 hdb
        rw [if_neg hdb, wordOf_bit, wordOf_bit, hstep, h1]; simp
    | false =>
      rw [cond_false]
      refine congrArg (fun l => some (Sum.inl (((i + 1 : Nat) : Int), cl l, ()))) (tab_congr fun d hd => ?_)
      apply Nat.eq_of_testBit_eq
      intro c
      rw [wordOf_bit, wordOf_bit, hstep]
      by_cases hca : c = a
      · subst hca; simp [hk]
      · have h1 : (c == a) = false := beq_eq_false_iff_ne.2 hca
        rw [h1]; simp
  · unfold graph_Rank_l1
    simp only [dcF (show ¬ (E.length : Int) < (E.length : Int) by omega), cond_false]

noncomputable def wtW (N : List Node) (E : List Edge) (out : List Nat) (b : Nat) : Nat := if out.contains b = true then 4294967295 else wordOf N.length fun a => waitB N E E.length a b
theorem wtW_lt (hn : N.length ≤ 12) (out : List Nat) (b : Nat) : wtW N E out b < 2 ^ 32 := by
  unfold wtW
  split
  · decide
  · exact wordOf_lt32 _ (by omega)
theorem ready_w (hn : N.length ≤ 12) (out : List Nat) (b : Nat) : (((dif (wtW N E out b) (memN N.length out) : Nat) : Int) == 0) = readyB N E out b := by
  unfold readyB wtW
  cases ho : out.contains b with
  | true =>
    rw [if_pos rfl, Bool.not_true, Bool.false_and, beq_eq_false_iff_ne]
    intro h
    have h0 : dif 4294967295 (memN N.length out) = 0 := by omega
    have h1 := dif_zero.1 h0 31 (by decide)
    rw [memN_bit] at h1
    have : decide (31 < N.length) = false := decide_eq_false (by omega)
    rw [this] at h1
    cases h1
  | false =>
    rw [if_neg (by simp), Bool.not_false, Bool.true_and, Bool.eq_iff_iff, beq_iff_eq, List.all_eq_true]
    have e : ((dif (wordOf N.length fun a => waitB N E E.length a b) (memN N.length out) : Nat) : Int) = 0 ↔ dif (wordOf N.length fun a => waitB N E E.length a b) (memN N.length out) = 0 := by omega
    rw [e, dif_zero]
    constructor
    · intro h a ha
      have han := List.mem_range.1 ha
      cases hw : waitB N E E.length a b with
      | false => rfl
      | true =>
        have := h a (by rw [wordOf_bit, hw, decide_eq_true han]; rfl)
        rw [memN_bit, Bool.and_eq_true] at this
        rw [this.2]; rfl
    · intro h a ha
      rw [wordOf_bit, Bool.and_eq_true, decide_eq_true_eq] at ha
      have := h a (List.mem_range.2 ha.1)
      rw [ha.2, Bool.not_true, Bool.false_or] at this
      rw [memN_bit, this, decide_eq_true ha.1]; rfl

theorem rank_l2 (hn : N.length ≤ 12) (out : List Nat) (y : List Int) : loopM (graph_Rank_l2 (y, (((memN N.length out : Nat) : Int), ()), cl (tab N.length (wtW N E out)), ())) ((0 : Int), ()) = some (exitOr (((List.range N.length).find? (readyB N E out)).map fun i : Nat => ((i : Int), ())) (.inl ())) := by
  rw [← find_map]
  refine loopM_exit (f := graph_Rank_l2 (y, (((memN N.length out : Nat) : Int), ()), cl (tab N.length (wtW N E out)), ())) N.length (fun i => ((i : Int), ())) _ _ (fun i hi => ?_) ?_ rfl
  · unfold graph_Rank_l2
    have hg : (cl (tab N.length (wtW N E out)))[i]? = some ((wtW N E out i : Nat) : Int) := by
      rw [get_cl (by rw [length_tab]; exact hi), getD_tab hi]
    simp only [length_cl, length_tab, dcT (show (i : Int) < (N.length : Int) by omega), cond_true, inB_T hi, Int.toNat_natCast, hg, Option.bind_some]
    have hm : memN N.length out < 2 ^ 32 := wordOf_lt32 _ (by omega)
    rw [wrapS (by omega), not_u32 (wtW_lt hn out i) hm, ready_w hn]
    cases readyB N E out i <;> rfl
  · unfold graph_Rank_l2
    simp only [length_cl, length_tab, dcF (show ¬ (N.length : Int) < (N.length : Int) by omega), cond_false]

theorem rank_l3 (hn : N.length ≤ 12) (hN : N.all mayB = true) (hok : ∀ j, j < E.length → edgeC N E j = 0) (hr : ∀ j, j < N.length → ringR N E j = false) :
    loopM graph_Rank_l3 (([] : List Int), ((0 : Int), ()), cl (tab N.length fun b => wordOf N.length fun a => waitB N E E.length a b), ()) = some (.inl (cl (rankL N E N.length), (((memN N.length (rankL N E N.length) : Nat) : Int), ()), cl (tab N.length (wtW N E (rankL N E N.length))), ())) := by
  have h0 : memN N.length [] = 0 := by
    apply Nat.eq_of_testBit_eq
    intro b
    rw [memN_bit, Nat.zero_testBit]
    cases decide (b < N.length) <;> rfl
  refine loopM_sim N.length (fun k => (cl (rankL N E k), (((memN N.length (rankL N E k) : Nat) : Int), ()), cl (tab N.length (wtW N E (rankL N E k))), ())) _ (fun k hk => ?_) ?_ ?_
  · obtain ⟨i, hi, hf, hnx, hrd⟩ := rank_next hN hok hr hk
    have hm : memN N.length (rankL N E k) < 2 ^ 32 := wordOf_lt32 _ (by omega)
    have hr8 : roomOk (k + (0 + 1)) 8 = true := by
      unfold roomOk
      rw [Bool.and_eq_true]
      exact ⟨Nat.ble_eq_true_of_le (by omega), Nat.ble_eq_true_of_le (by omega)⟩
    have hg : (cl (tab N.length (wtW N E (rankL N E k))))[i]? = some ((wtW N E (rankL N E k) i : Nat) : Int) := by
      rw [get_cl (by rw [length_tab]; exact hi), getD_tab hi]
    have hset : (cl (tab N.length (wtW N E (rankL N E k)))).set i (4294967295 : Int) = cl (tab N.length (wtW N E (rankL N E (k + 1)))) := by
      rw [show (4294967295 : Int) = ((4294967295 : Nat) : Int) from rfl, cl_set, tab_set]
      refine congrArg cl (tab_congr fun d _ => ?_)
      unfold wtW
      rw [hnx]
      by_cases hd : d = i
      · subst hd; simp
      · simp [hd]
    unfold graph_Rank_l3
    simp only [length_cl, length_tab, rankL_len, dcT (show (k : Int) < (N.length : Int) by omega), cond_true, rank_l2 hn (rankL N E k), hf, Option.map_some, exitOr_some, Sum.elim_inl, Option.bind_some, List.length_cons, List.length_nil, hr8, Bool.and_true, sets_One_eq (show i < 32 by omega), inB_T hi, Int.toNat_natCast, hg, or_u32 hm (two_pow_32 (show i < 32 by omega)), memN_push hi, hset, cl_push, ← hnx]
  · unfold graph_Rank_l3
    simp only [length_cl, length_tab, rankL_len, dcF (show ¬ (N.length : Int) < (N.length : Int) by omega), cond_false]
  · rw [show rankL N E 0 = [] from rfl, h0]
    rfl

/-! The document. -/
theorem rrank_l1 (hE : E.length ≤ 20) (hok : ∀ j, j < E.length → edgeC N E j = 0) {out : List Nat} (ho : out.length ≤ 100) (i : Nat) (z : Int) :
    loopM (ref_GraphRank_l1 ((N, E, ()), ()) (z, (i : Int), ()) (cl out, ())) ((!out.contains i), (0 : Int), ()) = some (.inl (readyB N E out i, ())) := by
  have hend : readyB N E out i = (!out.contains i && (List.range E.length).all fun j => !(toE E j == (i : Int) && kindAt N (frE E j).toNat != 6) || out.contains (frE E j).toNat) := by
    unfold readyB
    refine congrArg (fun b => !out.contains i && b) ?_
    rw [Bool.eq_iff_iff, List.all_eq_true, List.all_eq_true]
    constructor
    · intro h j hj
      have hj := List.mem_range.1 hj
      have he := edge_ok (hok j hj)
      cases hc : (toE E j == (i : Int) && kindAt N (frE E j).toNat != 6) with
      | false => rfl
      | true =>
        rw [Bool.and_eq_true, beq_iff_eq, bne_iff_ne] at hc
        have hw : waitB N E E.length (frE E j).toNat i = true := wait_iff.2 ⟨hc.2, j, hj, by omega, hc.1⟩
        have := h (frE E j).toNat (List.mem_range.2 (by omega))
        rw [hw] at this
        exact this
    · intro h a ha
      cases hw : waitB N E E.length a i with
      | false => rfl
      | true =>
        obtain ⟨h1, j, hj, h2, h3⟩ := wait_iff.1 hw
        have := h j (List.mem_range.2 hj)
        rw [h2, h3, Int.toNat_natCast] at this
        simpa [h1] using this
  rw [hend]
  refine loopM_sim E.length (fun k => ((!out.contains i && (List.range k).all fun j => !(toE E j == (i : Int) && kindAt N (frE E j).toNat != 6) || out.contains (frE E j).toNat), (k : Int), ())) _ (fun k hk => ?_) ?_ (by simp)
  · have hv := edge_ok (hok k hk)
    obtain ⟨a, ha⟩ := Int.eq_ofNat_of_zero_le hv.1
    have han : a < N.length := by have := hv.2.1; omega
    have ha' : (E.getD k e0).1 = (a : Int) := ha
    unfold ref_GraphRank_l1
    simp only [dcT (show (k : Int) < (E.length : Int) by omega), cond_true, getI_D e0 (Int.natCast_nonneg k) (show (k : Int) < (E.length : Int) by omega), Int.toNat_natCast, Option.bind_some, ha', getI_D v0 (Int.natCast_nonneg a) (show (a : Int) < (N.length : Int) by omega), ref_Has_eq (show out.length ≤ 1000000 by omega) a, wrapS (show k < 9223372036854775807 by omega)]
    show (cond (toE E k == (i : Int)) (cond (kindAt N a != 6) _ _) _) = _
    rw [List.range_succ, List.all_append, List.all_cons, List.all_nil, Bool.and_true, ha, Int.toNat_natCast, ← Bool.and_assoc]
    cases toE E k == (i : Int) with
    | false => rw [cond_false, Bool.false_and, Bool.not_false, Bool.true_or, Bool.and_true]
    | true =>
      rw [cond_true]
      cases kindAt N a != 6 with
      | false => rw [cond_false, Bool.and_false, Bool.not_false, Bool.true_or, Bool.and_true]
      | true =>
        rw [cond_true]
        cases out.contains a with
        | false => simp only [Bool.not_false, cond_true, Bool.and_self, Bool.not_true, Bool.or_false, Bool.and_false]
        | true => simp only [Bool.not_true, cond_false, Bool.or_true, Bool.and_true]
  · unfold ref_GraphRank_l1
    simp only [dcF (show ¬ (E.length : Int) < (E.length : Int) by omega), cond_false]

theorem rrank_l2 (hn : N.length ≤ 12) (hE : E.length ≤ 20) (hok : ∀ j, j < E.length → edgeC N E j = 0) {out : List Nat} (ho : out.length ≤ 100) :
    loopM (ref_GraphRank_l2 ((N, E, ()), ()) (cl out, ())) ((-1 : Int), IntKind.i64.wrap ((N.length : Int) - 1), ()) = some (.inl (((List.range N.length).find? (readyB N E out)).elim (-1) (fun i : Nat => (i : Int)), ())) := by
  have hw0 : IntKind.i64.wrap ((N.length : Int) - 1) = (N.length : Int) - 1 := wrap64 (by omega) (by omega)
  rw [hw0]
  have hfin : (List.range N.length) = List.range' (N.length - N.length) N.length := by rw [Nat.sub_self, List.range_eq_range']
  rw [hfin]
  refine loopM_sim N.length (fun k => (((List.range' (N.length - k) k).find? (readyB N E out)).elim (-1) (fun i : Nat => (i : Int)), (N.length : Int) - 1 - (k : Int), ())) _ (fun k hk => ?_) ?_ (by simp)
  · have hi : (N.length : Int) - 1 - (k : Int) = ((N.length - (k + 1) : Nat) : Int) := by omega
    have hs : List.range' (N.length - (k + 1)) (k + 1) = (N.length - (k + 1)) :: List.range' (N.length - k) k := by
      rw [List.range'_succ, show N.length - (k + 1) + 1 = N.length - k by omega]
    unfold ref_GraphRank_l2
    simp only [hi, dcT (show ((N.length - (k + 1) : Nat) : Int) ≥ 0 by omega), cond_true, ref_Has_eq (show out.length ≤ 1000000 by omega), Option.bind_some, rrank_l1 hE hok ho, Sum.elim_inl]
    have hw : IntKind.i64.wrap (((N.length - (k + 1) : Nat) : Int) - 1) = (N.length : Int) - 1 - ((k + 1 : Nat) : Int) := by
      rw [wrap64 (by omega) (by omega)]; omega
    rw [hw, hs, List.find?_cons]
    cases readyB N E out (N.length - (k + 1)) <;> rfl
  · unfold ref_GraphRank_l2
    simp only [dcF (show ¬ (N.length : Int) - 1 - (N.length : Int) ≥ 0 by omega), cond_false]

theorem ref_GraphRank_eq (hn : N.length ≤ 12) (hE : E.length ≤ 20) (hN : N.all mayB = true) (hok : ∀ j, j < E.length → edgeC N E j = 0) (hr : ∀ j, j < N.length → ringR N E j = false) :
    ref_GraphRank ((N, E, ()), ()) = some (cl (rankL N E N.length), ()) := by
  unfold ref_GraphRank
  have key : loopM (ref_GraphRank_l3 ((N, E, ()), ())) (([] : List Int), ()) = some (.inl (cl (rankL N E N.length), ())) := by
    refine loopM_sim N.length (fun k => (cl (rankL N E k), ())) _ (fun k hk => ?_) ?_ rfl
    · obtain ⟨i, hi, hf, hnx, hrd⟩ := rank_next hN hok hr hk
      have hr8 : roomOk (k + (0 + 1)) 8 = true := by
        unfold roomOk
        rw [Bool.and_eq_true]
        exact ⟨Nat.ble_eq_true_of_le (by omega), Nat.ble_eq_true_of_le (by omega)⟩
      unfold ref_GraphRank_l3
      simp only [length_cl, rankL_len, dcT (show (k : Int) < (N.length : Int) by omega), cond_true, rrank_l2 hn hE hok (show (rankL N E k).length ≤ 100 by rw [rankL_len]; omega), hf, Option.elim_some, Option.bind_some, Sum.elim_inl, List.length_cons, List.length_nil, hr8, Bool.and_true, cl_push, ← hnx]
    · unfold ref_GraphRank_l3
      simp only [length_cl, rankL_len, dcF (show ¬ (N.length : Int) < (N.length : Int) by omega), cond_false]
  rw [key]
  rfl
end

end Go.Proofs.Tryd
