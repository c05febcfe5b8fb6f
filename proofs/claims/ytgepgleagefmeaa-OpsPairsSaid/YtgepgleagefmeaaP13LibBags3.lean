/- Lemmas on functions of the program, by name: bags3. -/
import Derived.Test.YtgepgleagefmeaaP13Funs
import Derived.Test.YtgepgleagefmeaaAbsSums
import Derived.Test.YtgepgleagefmeaaP13LibBags2
namespace Go.Proofs.Try
open Go Go.Abs


/-! Bags: what the reference comes to. -/
theorem ahead_eq (p r : Rw) : ref_rowsAhead (p, r, ()) = some (KT.lt (kyOf p) (kyOf r), ()) := by
  have h : KT.lt (kyOf p) (kyOf r) = (decide (p.1 < r.1) || ((p.1 == r.1) && (decide (p.2.1 < r.2.1) || ((p.2.1 == r.2.1) && false)))) := rfl
  rw [h]
  unfold ref_rowsAhead
  simp only [cond_bne]
  by_cases h1 : p.1 = r.1
  · simp [h1]
  · simp [h1]

def posR : List Rw → Rw → Nat
  | [], _ => 0
  | p :: s, r => if KT.lt (kyOf p) (kyOf r) = true then posR s r + 1 else 0
theorem posR_le : ∀ (o : List Rw) (r : Rw), posR o r ≤ o.length
  | [], _ => Nat.le_refl _
  | p :: s, r => by
    have := posR_le s r
    unfold posR
    split
    · simp only [List.length_cons]; omega
    · omega

theorem insR_pos : ∀ (o : List Rw) (r : Rw), insR o r = if ∃ p, o[posR o r]? = some p ∧ kyOf p = kyOf r then o.modify (posR o r) (fun p => (p.1, p.2.1, W (p.2.2.1 + r.2.2.1), ())) else o.take (posR o r) ++ r :: o.drop (posR o r)
  | [], r => by simp [insR, posR]
  | p :: s, r => by
    have ih := insR_pos s r
    unfold insR posR
    by_cases hlt : KT.lt (kyOf p) (kyOf r) = true
    · simp only [hlt, if_true, List.getElem?_cons_succ, List.take_succ_cons, List.drop_succ_cons, List.cons_append, List.modify_succ_cons, ih]
      split
      · rfl
      · rfl
    · simp only [if_neg hlt, List.getElem?_cons_zero, List.take_zero, List.drop_zero, List.nil_append, List.modify_zero_cons, Option.some.injEq, exists_eq_left']

theorem find_at {n : Int} {v : Rw} {o : List Rw} (hl : o.length ≤ 3000000) : ∀ (suf pre : List Rw), o = pre ++ suf → loopM (ref_Bag_l1 (o, n, ()) v) ((pre.length : Int), ()) = some (.inl (((pre.length + posR suf v : Nat) : Int), ()))
  | [], pre, ho => by
    have hlen : o.length = pre.length := by rw [ho]; simp
    refine loopM_inr ?_
    unfold ref_Bag_l1
    simp only [dcF (show ¬ (pre.length : Int) < (o.length : Int) by omega), cond_false]
    rfl
  | p :: s, pre, ho => by
    have hlen : o.length = pre.length + (s.length + 1) := by rw [ho]; simp
    have hget : o[pre.length]? = some p := by rw [ho, List.getElem?_append_right (Nat.le_refl _), Nat.sub_self]; rfl
    have hst : ref_Bag_l1 (o, n, ()) v ((pre.length : Int), ()) = cond (KT.lt (kyOf p) (kyOf v)) (some (.inl (((pre.length + 1 : Nat) : Int), ()))) (some (.inr (.inl ((pre.length : Int), ())))) := by
      unfold ref_Bag_l1
      simp only [dcT (show (pre.length : Int) < (o.length : Int) by omega), cond_true, inB_T (show pre.length < o.length by omega), Int.toNat_natCast, hget, Option.bind_some, ahead_eq, wrapS (show pre.length < 9223372036854775807 by omega)]
    unfold posR
    cases hlt : KT.lt (kyOf p) (kyOf v) with
    | true =>
      rw [hlt, cond_true] at hst
      rw [loopM_inl hst]
      have := find_at (n := n) (v := v) hl s (pre ++ [p]) (by rw [ho]; simp)
      rw [List.length_append, List.length_singleton] at this
      rw [this, if_pos rfl]
      rw [show pre.length + 1 + posR s v = pre.length + (posR s v + 1) from by omega]
    | false =>
      rw [hlt, cond_false] at hst
      rw [loopM_inr hst, if_neg (by simp)]; rfl

theorem set_mid {α : Type} (x y : α) (r : List α) : ∀ (l : List α), (l ++ x :: r).set l.length y = l ++ y :: r
  | [] => rfl
  | a :: l => by
    show a :: ((l ++ x :: r).set l.length y) = _
    rw [set_mid x y r l]; rfl

theorem shift_eq {v : Rw} {o : List Rw} {q : Nat} (hl : o.length ≤ 3000000) : ∀ (d : Nat), q + d ≤ o.length →
    loopM (ref_Bag_l2 ((q : Int), ())) (((q + d : Nat) : Int), (o ++ [v]).take (q + d + 1) ++ o.drop (q + d), ()) = some (.inl ((o ++ [v]).take (q + 1) ++ o.drop q, ()))
  | 0, h => by
    refine loopM_inr ?_
    unfold ref_Bag_l2
    simp only [dcF (show ¬ ((q + 0 : Nat) : Int) > (q : Int) by omega), cond_false]
    rfl
  | d + 1, h => by
    have hn : (o ++ [v]).length = o.length + 1 := by simp
    have hlen : ((o ++ [v]).take (q + (d + 1) + 1) ++ o.drop (q + (d + 1))).length = o.length + 1 := by
      rw [List.length_append, List.length_take, List.length_drop, hn]; omega
    have hsplit : (o ++ [v]).take (q + (d + 1) + 1) = (o ++ [v]).take (q + (d + 1)) ++ [(o ++ [v])[q + (d + 1)]'(by omega)] := List.take_succ_eq_append_getElem (by omega)
    have htl : ((o ++ [v]).take (q + (d + 1))).length = q + (d + 1) := by rw [List.length_take, hn]; omega
    have g1 : ((o ++ [v]).take (q + (d + 1) + 1) ++ o.drop (q + (d + 1)))[q + d]? = some (o[q + d]'(by omega)) := by
      rw [List.getElem?_append_left (by rw [List.length_take, hn]; omega), List.getElem?_take_of_lt (by omega), List.getElem?_append_left (by omega), List.getElem?_eq_getElem (by omega)]
    have g2 : ∃ w, ((o ++ [v]).take (q + (d + 1) + 1) ++ o.drop (q + (d + 1)))[q + (d + 1)]? = some w := ⟨_, List.getElem?_eq_getElem (by omega)⟩
    obtain ⟨w, g2⟩ := g2
    have hset : ((o ++ [v]).take (q + (d + 1) + 1) ++ o.drop (q + (d + 1))).set (q + (d + 1)) (o[q + d]'(by omega)) = (o ++ [v]).take (q + d + 1) ++ o.drop (q + d) := by
      rw [hsplit, List.append_assoc]
      have := set_mid ((o ++ [v])[q + (d + 1)]'(by omega)) (o[q + d]'(by omega)) (o.drop (q + (d + 1))) ((o ++ [v]).take (q + (d + 1)))
      rw [htl] at this
      show ((o ++ [v]).take (q + (d + 1)) ++ _ :: o.drop (q + (d + 1))).set _ _ = _
      rw [this, List.drop_eq_getElem_cons (show q + d < o.length by omega)]; rfl
    have hw : IntKind.i64.wrap (((q + (d + 1) : Nat) : Int) - 1) = ((q + d : Nat) : Int) := by
      rw [wrap64 (by omega) (by omega)]; omega
    rw [loopM_inl (s' := (((q + d : Nat) : Int), (o ++ [v]).take (q + d + 1) ++ o.drop (q + d), ())) (by
      unfold ref_Bag_l2
      simp only [dcT (show ((q + (d + 1) : Nat) : Int) > (q : Int) by omega), cond_true, hw, hlen, inB_T (show q + d < o.length + 1 by omega), inB_T (show q + (d + 1) < o.length + 1 by omega), Int.toNat_natCast, g1, g2, Option.bind_some, hset])]
    exact shift_eq hl d (by omega)

theorem l3_eq : ref_Bag_l3 = ref_Bag_l2 := rfl
theorem l4_eq : ref_Bag_l4 = ref_Bag_l2 := rfl

/-- The room for a row, and the row in it. -/
theorem open_eq {v : Rw} {o : List Rw} (hl : o.length ≤ 3000000) {q : Nat} (hq : q ≤ o.length) {β : Type} (K : List Rw → Option β) :
    (loopM (ref_Bag_l2 ((q : Int), ())) ((IntKind.i64.wrap (((o ++ [v]).length : Int) - (1 : Int))), (o ++ [v]), ())).bind (Sum.elim (fun z14 => (cond (inB (q : Int) z14.1.length) ((z14.1[((q : Nat) : Int).toNat]?).bind fun _ => K (z14.1.set (((q : Nat) : Int).toNat) v)) none)) Empty.elim) = K (o.take q ++ v :: o.drop q) := by
  have hn : (o ++ [v]).length = o.length + 1 := by simp
  have hw : IntKind.i64.wrap (((o ++ [v]).length : Int) - 1) = ((q + (o.length - q) : Nat) : Int) := by
    rw [hn, wrap64 (by omega) (by omega)]; omega
  have hs := shift_eq (v := v) hl (o.length - q) (q := q) (by omega)
  rw [show q + (o.length - q) = o.length from by omega, List.take_of_length_le (by omega), List.drop_of_length_le (Nat.le_refl _), List.append_nil] at hs
  rw [hw, show q + (o.length - q) = o.length from by omega, hs]
  have hlen : ((o ++ [v]).take (q + 1) ++ o.drop q).length = o.length + 1 := by
    rw [List.length_append, List.length_take, List.length_drop, hn]; omega
  have hsplit : (o ++ [v]).take (q + 1) = o.take q ++ [(o ++ [v])[q]'(by omega)] := by
    rw [List.take_succ_eq_append_getElem (by omega), List.take_append_of_le_length hq]
  have hset : ((o ++ [v]).take (q + 1) ++ o.drop q).set q v = o.take q ++ v :: o.drop q := by
    rw [hsplit, List.append_assoc]
    have := set_mid ((o ++ [v])[q]'(by omega)) v (o.drop q) (o.take q)
    rw [List.length_take, show min q o.length = q from by omega] at this
    exact this
  obtain ⟨w, g⟩ : ∃ w, ((o ++ [v]).take (q + 1) ++ o.drop q)[q]? = some w := ⟨_, List.getElem?_eq_getElem (by omega)⟩
  simp only [Option.bind_some, Sum.elim_inl, hlen, inB_T (show q < o.length + 1 by omega), cond_true, Int.toNat_natCast, g, hset]

theorem insR_length (o : List Rw) (r : Rw) : (insR o r).length ≤ o.length + 1 := by
  rw [insR_pos]
  split
  · rw [List.length_modify]; omega
  · rw [List.length_append, List.length_cons, List.length_take, List.length_drop]; omega
theorem rowsOf_length : ∀ (l o : List Rw), (rowsOf l o).length ≤ o.length + l.length
  | [], o => Nat.le_refl _
  | r :: l, o => by
    have h1 := rowsOf_length l (insR o r)
    have h2 := insR_length o r
    show (rowsOf l (insR o r)).length ≤ _
    simp only [List.length_cons]; omega

theorem modify_get {α : Type} (f : α → α) (p : α) : ∀ (o : List α) (q : Nat), o[q]? = some p → o.modify q f = o.set q (f p)
  | [], q, h => by simp at h
  | a :: o, 0, h => by simp at h; subst h; rfl
  | a :: o, q + 1, h => by
    show a :: o.modify q f = a :: o.set q (f p)
    rw [modify_get f p o q (by simpa using h)]

theorem ref_step {l : List Rw} {o : List Rw} {i : Nat} (hi : i < l.length) (hl : l.length ≤ 3000000) (ho : o.length ≤ 2999999) : ref_Bag_l5 (l, ()) (o, (i : Int), ()) = some (.inl (insR o l[i], ((i + 1 : Nat) : Int), ())) := by
  have hq := posR_le o l[i]
  have hf := find_at (n := (i : Int)) (v := l[i]) (o := o) (by omega) o [] rfl
  rw [List.length_nil, Nat.zero_add] at hf
  have hf' : loopM (ref_Bag_l1 (o, (i : Int), ()) l[i]) ((0 : Int), ()) = some (.inl (((posR o l[i] : Nat) : Int), ())) := hf
  have hroom : (true && roomOk (o.length + ([l[i]] : List Rw).length) 24 && true && true) = true := by
    rw [show ([l[i]] : List Rw).length = 1 from rfl, room24 (by omega)]; rfl
  unfold ref_Bag_l5
  simp only [dcT (show (i : Int) < (l.length : Int) by omega), cond_true, getI_nat, List.getElem?_eq_getElem hi, Option.bind_some, hf', Sum.elim_inl, wrapS (show i < 9223372036854775807 by omega), l3_eq, l4_eq, hroom]
  rw [insR_pos]
  by_cases hlt : posR o l[i] < o.length
  · simp only [dcT (show ((posR o l[i] : Nat) : Int) < (o.length : Int) by omega), cond_true, inB_T hlt, Int.toNat_natCast, List.getElem?_eq_getElem hlt, Option.bind_some]
    by_cases h1 : o[posR o l[i]].1 = l[i].1
    · by_cases h2 : o[posR o l[i]].2.1 = l[i].2.1
      · have hk : kyOf o[posR o l[i]] = kyOf l[i] := by unfold kyOf; rw [h1, h2]
        rw [if_pos ⟨_, rfl, hk⟩, modify_get _ _ o _ (List.getElem?_eq_getElem hlt), beqT h1, beqT h2]
        rfl
      · have hk : ¬ ∃ p, some o[posR o l[i]] = some p ∧ kyOf p = kyOf l[i] := by
          rintro ⟨p, hp, hk⟩
          cases hp
          unfold kyOf at hk
          simp only [Prod.mk.injEq] at hk
          exact h2 hk.2.1
        rw [if_neg hk, beqT h1, beqF h2, cond_true, cond_false]
        have := open_eq (v := l[i]) (by omega) hq (fun z => (some (Sum.inl (z, ((i + 1 : Nat) : Int), ())) : Option ((List Rw × Int × Unit) ⊕ ((List Rw × Unit) ⊕ Empty))))
        simp only [Int.toNat_natCast] at this
        exact this
    · have hk : ¬ ∃ p, some o[posR o l[i]] = some p ∧ kyOf p = kyOf l[i] := by
        rintro ⟨p, hp, hk⟩
        cases hp
        unfold kyOf at hk
        simp only [Prod.mk.injEq] at hk
        exact h1 hk.1
      rw [if_neg hk, beqF h1, cond_false]
      have := open_eq (v := l[i]) (by omega) hq (fun z => (some (Sum.inl (z, ((i + 1 : Nat) : Int), ())) : Option ((List Rw × Int × Unit) ⊕ ((List Rw × Unit) ⊕ Empty))))
      simp only [Int.toNat_natCast] at this
      exact this
  · have hnone : o[posR o l[i]]? = none := List.getElem?_eq_none (by omega)
    simp only [dcF (show ¬ ((posR o l[i] : Nat) : Int) < (o.length : Int) by omega), cond_false, hnone]
    rw [if_neg (by rintro ⟨p, hp, -⟩; cases hp)]
    have := open_eq (v := l[i]) (by omega) hq (fun z => (some (Sum.inl (z, ((i + 1 : Nat) : Int), ())) : Option ((List Rw × Int × Unit) ⊕ ((List Rw × Unit) ⊕ Empty))))
    simp only [Int.toNat_natCast] at this
    exact this

theorem rowsOf_take (l : List Rw) {i : Nat} (h : i < l.length) : rowsOf (l.take (i + 1)) [] = insR (rowsOf (l.take i) []) l[i] := by
  rw [List.take_succ_eq_append_getElem h]
  unfold rowsOf
  rw [List.foldl_append]; rfl
theorem filter_take {o : List Rw} {i : Nat} (h : i < o.length) : (o.take (i + 1)).filter nzB = (o.take i).filter nzB ++ (if nzB o[i] = true then [o[i]] else []) := by
  rw [List.take_succ_eq_append_getElem h, List.filter_append]
  congr 1
  by_cases hz : nzB o[i] = true
  · rw [if_pos hz, List.filter_cons_of_pos hz]; rfl
  · rw [if_neg hz, List.filter_cons_of_neg hz]; rfl

theorem ref_Bag_eq {l : List Rw} (hl : l.length ≤ 2900000) : ref_Bag (l, ()) = some ((rowsOf l []).filter nzB, ()) := by
  have h1 := loopM_fold' (f := ref_Bag_l5 (l, ())) l.length (fun i => rowsOf (l.take i) []) (.inl (rowsOf l [], ())) (fun i hi => by
    have hlen := rowsOf_length (l.take i) []
    rw [List.length_take, List.length_nil] at hlen
    rw [ref_step hi (by omega) (by omega), rowsOf_take l hi]) (by
    unfold ref_Bag_l5
    simp only [dcF (show ¬ (l.length : Int) < (l.length : Int) by omega), cond_false, List.take_length])
  have hlen := rowsOf_length l []
  rw [List.length_nil] at hlen
  have h2 := loopM_fold' (f := ref_Bag_l6 (rowsOf l [], ())) (rowsOf l []).length (fun i => ((rowsOf l []).take i).filter nzB) (.inl ((rowsOf l []).filter nzB, ())) (fun i hi => by
    have hfl := List.length_filter_le nzB ((rowsOf l []).take i)
    rw [List.length_take] at hfl
    unfold ref_Bag_l6
    rw [filter_take hi]
    simp only [dcT (show (i : Int) < ((rowsOf l []).length : Int) by omega), cond_true, inB_T hi, Int.toNat_natCast, List.getElem?_eq_getElem hi, Option.bind_some, wrapS (show i < 9223372036854775807 by omega), show ∀ x : Rw, ([x] : List Rw).length = 1 from fun _ => rfl, room24 (show (((rowsOf l []).take i).filter nzB).length + 1 ≤ 4000000 by omega), Bool.and_true]
    unfold nzB
    cases ((rowsOf l [])[i].2.2.1 != 0) with
    | true => rfl
    | false => simp only [cond_false, Bool.false_eq_true, if_false, List.append_nil]) (by
    unfold ref_Bag_l6
    simp only [dcF (show ¬ ((rowsOf l []).length : Int) < ((rowsOf l []).length : Int) by omega), cond_false, List.take_length])
  unfold ref_Bag
  have h1' : loopM (ref_Bag_l5 (l, ())) (([] : List Rw), (0 : Int), ()) = _ := h1
  have h2' : loopM (ref_Bag_l6 (rowsOf l [], ())) (([] : List Rw), (0 : Int), ()) = _ := h2
  rw [h1']
  simp only [Option.bind_some, Sum.elim_inl]
  rw [h2']
  simp only [Option.bind_some, Sum.elim_inl]

theorem poured_eq (a b : List Rw) (n : Int) (ha : a.length ≤ 1048576) (hb : b.length ≤ 1048576) : ref_Poured (a, n, b, ()) = some (a ++ b.map (sc n), ()) := by
  have h1 := loopM_fold' (f := ref_Poured_l1 (a, n, b, ())) a.length (fun i => a.take i) (.inl (a, ())) (fun i hi => by
    unfold ref_Poured_l1
    rw [List.take_succ_eq_append_getElem hi]
    have hlen : (a.take i).length = i := by rw [List.length_take]; omega
    simp only [dcT (show (i : Int) < (a.length : Int) by omega), cond_true, getI_nat, List.getElem?_eq_getElem hi, Option.bind_some, wrapS (show i < 9223372036854775807 by omega), show ∀ x : Rw, ([x] : List Rw).length = 1 from fun _ => rfl, hlen, room24 (show i + 1 ≤ 4000000 by omega), Bool.and_true]) (by
    unfold ref_Poured_l1
    simp only [dcF (show ¬ (a.length : Int) < (a.length : Int) by omega), cond_false, List.take_length])
  have h2 := loopM_fold' (f := ref_Poured_l2 (a, n, b, ())) b.length (fun i => a ++ (b.take i).map (sc n)) (.inl (a ++ b.map (sc n), ())) (fun i hi => by
    unfold ref_Poured_l2
    rw [List.take_succ_eq_append_getElem hi, List.map_append, ← List.append_assoc]
    have hlen : (a ++ (b.take i).map (sc n)).length = a.length + i := by rw [List.length_append, List.length_map, List.length_take]; omega
    simp only [dcT (show (i : Int) < (b.length : Int) by omega), cond_true, getI_nat, List.getElem?_eq_getElem hi, Option.bind_some, wrapS (show i < 9223372036854775807 by omega), show ∀ x : Rw, ([x] : List Rw).length = 1 from fun _ => rfl, hlen, room24 (show a.length + i + 1 ≤ 4000000 by omega), Bool.and_true]
    rfl) (by
    unfold ref_Poured_l2
    simp only [dcF (show ¬ (b.length : Int) < (b.length : Int) by omega), cond_false, List.take_length])
  unfold ref_Poured
  have h1' : loopM (ref_Poured_l1 (a, n, b, ())) (([] : List Rw), (0 : Int), ()) = _ := h1
  have h2' : loopM (ref_Poured_l2 (a, n, b, ())) (a, (0 : Int), ()) = some (.inl (a ++ b.map (sc n), ())) := by
    have := h2
    simp only [List.take_zero, List.map_nil, List.append_nil] at this
    exact this
  rw [h1']
  simp only [Option.bind_some, Sum.elim_inl]
  rw [h2']
  simp only [Option.bind_some, Sum.elim_inl]

theorem same_eq (m : List Rw) (hl : m.length ≤ 3000000) : ref_BagsSame (m, m, ()) = some (true, ()) := by
  unfold ref_BagsSame
  rw [bneF rfl, cond_false]
  have h := loopM_for (f := ref_BagsSame_l1 (m, m, ())) m.length (fun _ => none) (.inr (.inl ())) (fun i hi => by
    unfold ref_BagsSame_l1
    simp only [dcT (show (i : Int) < (m.length : Int) by omega), cond_true, getI_nat, List.getElem?_eq_getElem hi, Option.bind_some, wrapS (show i < 9223372036854775807 by omega), beq_self_eq_true, Bool.and_self, Bool.not_true, cond_false]) (by
    unfold ref_BagsSame_l1
    simp only [dcF (show ¬ (m.length : Int) < (m.length : Int) by omega), cond_false])
  rw [h]
  have hf : (List.range m.length).findSome? (fun _ => (none : Option ((Bool × Unit) ⊕ (Unit ⊕ Empty)))) = none := List.findSome?_eq_none_iff.2 fun _ _ => rfl
  rw [hf]; rfl

/-- What is told is right. -/
theorem told_eq (lg : Bool) (m : List Rw) (hl : m.length ≤ 3000000) :
    law_told ((cond lg ([], 1, ()) (cond (decide (m.length > 128)) ([], 1, ()) (m, 0, ())) : List Rw × Int × Unit).1, (cond lg ([], 1, ()) (cond (decide (m.length > 128)) ([], 1, ()) (m, 0, ())) : List Rw × Int × Unit).2.1, lg, m, ()) = some (true, ()) := by
  have hd : decide ((m.length : Int) > 128) = decide (m.length > 128) := decide_eq_decide.2 (by omega)
  unfold law_told ref_Large
  cases lg with
  | true => rfl
  | false =>
    simp only [cond_false, Option.bind_some, hd]
    cases decide (m.length > 128) with
    | true => rfl
    | false =>
      simp only [cond_false, same_eq m hl, Option.bind_some]
      rfl

end Go.Proofs.Try
