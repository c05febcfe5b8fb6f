/- Lemmas on functions of the program, by name: sorted. -/
import Derived.Test.YthohigdbddilmaaDoorD2Funs
import Derived.Test.YthohigdbddilmaaDoorAbsSums
import Derived.Test.YthohigdbddilmaaDoorD2LibUnder
import Derived.Test.YthohigdbddilmaaDoorD2LibDualo
import Derived.Test.YthohigdbddilmaaDoorD2LibHas
namespace Go.Proofs.Tryd
open Go Go.Abs


/-- May an element come next? -/
def ready (n : Nat) (ws : List Nat) (l : List Nat) (i : Nat) : Bool := !l.contains i && (List.range n).all fun j => !under ws j i || l.contains j
def nextOf (n : Nat) (ws : List Nat) (l : List Nat) : Option Nat := (List.range n).find? (ready n ws l)
/-- The elements, each behind those below it. -/
def sortTo (n : Nat) (ws : List Nat) : Nat → List Nat
  | 0 => []
  | k + 1 => sortTo n ws k ++ [(nextOf n ws (sortTo n ws k)).getD 0]

theorem under_iff {ws : List Nat} {i j : Nat} : under ws i j = true ↔ i ≠ j ∧ below ws i j = true := by
  unfold under; rw [Bool.and_eq_true, decide_eq_true_eq]

theorem under_trans {n : Nat} {ws : List Nat} (o : IsOrder n ws) {i j k : Nat} (hi : i < n) (hj : j < n) (hk : k < n) (h1 : under ws i j = true) (h2 : under ws j k = true) : under ws i k = true := by
  rw [under_iff] at *
  refine ⟨fun e => ?_, o.trans i j k hi hj hk h1.2 h2.2⟩
  subst e
  have := o.anti i j hi hj h1.1 h1.2
  rw [h2.2] at this; cases this

theorem range_le : ∀ {n : Nat} {l : List Nat}, (∀ i, i < n → i ∈ l) → n ≤ l.length
  | 0, _, _ => Nat.zero_le _
  | n + 1, l, h => by
    have h1 : n ≤ (l.erase n).length := range_le fun i hi => (List.mem_erase_of_ne (by omega)).2 (h i (by omega))
    rw [List.length_erase_of_mem (h n (by omega))] at h1
    have : 0 < l.length := List.length_pos_of_mem (h n (by omega))
    omega

/-- In a set of elements that is not empty, one has none of the others below it. -/
theorem least_in {n : Nat} {ws : List Nat} (o : IsOrder n ws) (p : Nat → Bool) : ∀ (m i : Nat), i < n → p i = true → (List.range n).countP (fun j => under ws j i) = m → ∃ i, i < n ∧ p i = true ∧ ∀ j, j < n → under ws j i = true → p j = false := by
  intro m
  induction m using Nat.strongRecOn with
  | _ m ih =>
    intro i hi hp hm
    by_cases h : ∃ j, j < n ∧ under ws j i = true ∧ p j = true
    · obtain ⟨j, hj, hu, hpj⟩ := h
      refine ih _ ?_ j hj hpj rfl
      rw [← hm]
      refine countP_lt (fun x hx hxj => under_trans o (List.mem_range.1 hx) hj hi hxj hu) ⟨j, List.mem_range.2 hj, hu, ?_⟩
      unfold under; simp
    · refine ⟨i, hi, hp, fun j hj hu => ?_⟩
      cases hpj : p j
      · rfl
      · exact absurd ⟨j, hj, hu, hpj⟩ h

theorem next_some {n : Nat} {ws : List Nat} (o : IsOrder n ws) {l : List Nat} (hl : l.length < n) : ∃ i, nextOf n ws l = some i := by
  have h1 : ∃ i, i < n ∧ i ∉ l := Classical.byContradiction fun h => by
    have := range_le (n := n) (l := l) fun i hi => Classical.byContradiction fun h2 => h ⟨i, hi, h2⟩
    omega
  obtain ⟨i, hi, hm⟩ := h1
  obtain ⟨i, hi, hp, hr⟩ := least_in o (fun i => !l.contains i) _ i hi (by simpa using hm) rfl
  cases h : nextOf n ws l with
  | some j => exact ⟨j, rfl⟩
  | none =>
    have := List.find?_eq_none.1 h i (List.mem_range.2 hi)
    refine absurd ?_ this
    unfold ready
    rw [hp, Bool.true_and, List.all_eq_true]
    intro j hj
    cases hu : under ws j i
    · rfl
    · have := hr j (List.mem_range.1 hj) hu
      simpa using this

theorem sortTo_length (n : Nat) (ws : List Nat) : ∀ k, (sortTo n ws k).length = k
  | 0 => rfl
  | k + 1 => by rw [sortTo, List.length_append, sortTo_length n ws k]; rfl
theorem next_ready {n : Nat} {ws l : List Nat} {i : Nat} (h : nextOf n ws l = some i) : i < n ∧ l.contains i = false ∧ ∀ j, j < n → under ws j i = true → l.contains j = true := by
  have h1 := List.find?_some h
  have h2 := List.mem_range.1 (List.mem_of_find?_eq_some h)
  unfold ready at h1
  rw [Bool.and_eq_true, Bool.not_eq_true', List.all_eq_true] at h1
  refine ⟨h2, h1.1, fun j hj hu => ?_⟩
  have := h1.2 j (List.mem_range.2 hj)
  rw [hu] at this
  simpa using this
theorem sortTo_lt {n : Nat} {ws : List Nat} (o : IsOrder n ws) : ∀ k, k ≤ n → ∀ i ∈ sortTo n ws k, i < n
  | 0, _, i, h => by cases h
  | k + 1, hk, i, h => by
    rw [sortTo, List.mem_append] at h
    rcases h with h | h
    · exact sortTo_lt o k (by omega) i h
    · obtain ⟨j, hj⟩ := next_some o (l := sortTo n ws k) (by rw [sortTo_length]; omega)
      rw [hj] at h
      have : i = j := by simpa using h
      rw [this]; exact (next_ready hj).1

theorem findSome_if {β : Type} (p : Nat → Bool) (b : Nat → β) : ∀ (l : List Nat), (l.findSome? fun r => cond (p r) (some (b r)) none) = (l.find? p).map b
  | [] => rfl
  | a :: l => by
    rw [List.findSome?_cons, List.find?_cons, findSome_if p b l]
    cases p a <;> rfl
theorem findSome_congr {β : Type} {f g : Nat → Option β} : ∀ {l : List Nat}, (∀ x ∈ l, f x = g x) → l.findSome? f = l.findSome? g
  | [], _ => rfl
  | a :: l, h => by
    rw [List.findSome?_cons, List.findSome?_cons, h a (List.mem_cons_self ..), findSome_congr fun x hx => h x (List.mem_cons_of_mem _ hx)]

/-- A list's numbers, as a word. -/
def memW (n : Nat) (l : List Nat) : Nat := wordOf n fun i => l.contains i
theorem memW_bit (n : Nat) (l : List Nat) (i : Nat) : (memW n l).testBit i = (decide (i < n) && l.contains i) := wordOf_bit ..
theorem memW_snoc {n i : Nat} {l : List Nat} (hi : i < n) : memW n l ||| 2 ^ i = memW n (l ++ [i]) := by
  apply Nat.eq_of_testBit_eq
  intro b
  rw [Nat.testBit_or, memW_bit, memW_bit, Nat.testBit_two_pow, Bool.eq_iff_iff]
  simp only [Bool.or_eq_true, Bool.and_eq_true, decide_eq_true_eq, List.contains_iff_mem, List.mem_append, List.mem_singleton]
  constructor
  · rintro (⟨h1, h2⟩ | rfl)
    · exact ⟨h1, .inl h2⟩
    · exact ⟨hi, .inr rfl⟩
  · rintro ⟨h1, h2 | rfl⟩
    · exact .inl ⟨h1, h2⟩
    · exact .inr rfl
theorem ready_word {n : Nat} {ws l : List Nat} (o : IsOrder n ws) {i : Nat} (hi : i < n) : decide (dif ((downW n ws).getD i 0) (memW n l) = 2 ^ i) = ready n ws l i := by
  rw [Bool.eq_iff_iff, decide_eq_true_eq]
  unfold ready
  rw [Bool.and_eq_true, Bool.not_eq_true', List.all_eq_true]
  have hb : ∀ j, (dif ((downW n ws).getD i 0) (memW n l)).testBit j = (decide (j < n) && (below ws j i && !l.contains j)) := fun j => by
    rw [dif_bit, downW_bit hi, memW_bit]
    cases decide (j < n) <;> simp
  constructor
  · intro h
    have h1 : ∀ j, (decide (j < n) && (below ws j i && !l.contains j)) = decide (i = j) := fun j => by rw [← hb, h, Nat.testBit_two_pow]
    refine ⟨?_, fun j hj => ?_⟩
    · have := h1 i
      rw [decide_eq_true hi, o.refl i hi, decide_eq_true rfl] at this
      simpa using this
    · have hj := List.mem_range.1 hj
      cases hu : under ws j i
      · rfl
      · obtain ⟨hne, hbl⟩ := under_iff.1 hu
        have := h1 j
        rw [decide_eq_true hj, hbl, decide_eq_false (Ne.symm hne)] at this
        simpa using this
  · rintro ⟨h1, h2⟩
    apply Nat.eq_of_testBit_eq
    intro j
    rw [hb, Nat.testBit_two_pow]
    by_cases e : i = j
    · subst e
      simp only [hi, decide_true, o.refl i hi, h1]; rfl
    · rw [decide_eq_false e]
      by_cases hj : j < n
      · have := h2 j (List.mem_range.2 hj)
        cases hbl : below ws j i
        · simp
        · rw [under_iff.2 ⟨Ne.symm e, hbl⟩] at this
          have h3 : l.contains j = true := by simpa using this
          rw [h3]; simp
      · simp [hj]
theorem cl_snoc (l : List Nat) (a : Nat) : cl l ++ [(a : Int)] = cl (l ++ [a]) := by simp [cl]

theorem order_Sorted_l1_eq {n : Nat} {ws l : List Nat} (hn : n ≤ 16) (o : IsOrder n ws) (hl : l.length ≤ 1000) :
    loopM (order_Sorted_l1 (cl (downW n ws), ())) (((dif (2 ^ n - 1) (memW n l) : Nat) : Int), (((memW n l : Nat) : Int), ()), cl l, (), ()) =
      some (match nextOf n ws l with
        | some i => .inl ((((memW n (l ++ [i]) : Nat) : Int), ()), cl (l ++ [i]), (), ())
        | none => .inr (.inl ((((memW n l : Nat) : Int), ()), cl l, (), ()))) := by
  have hd : dif (2 ^ n - 1) (memW n l) < 2 ^ n := dif_lt (by have := Nat.two_pow_pos n; omega)
  have hw : memW n l < 2 ^ 32 := wordOf_lt32 _ (by omega)
  have key := loopM_bitsStop (f := order_Sorted_l1 (cl (downW n ws), ())) n (fun _ => ((((memW n l : Nat) : Int), ()), cl l, (), ())) (fun r => cond (ready n ws l r) (some (.inl ((((memW n (l ++ [r]) : Nat) : Int), ()), cl (l ++ [r]), (), ()))) none) (.inr (.inl ((((memW n l : Nat) : Int), ()), cl l, (), ()))) hd (by omega) (fun r q h1 h2 h3 => by
    have hf := fitD (fit_downW (ws := ws) hn) r
    have hlen : (downW n ws).length = n := tab_length ..
    have e : (((dif ((downW n ws).getD r 0) (memW n l) : Nat) : Int) == ((2 ^ r : Nat) : Int)) = ready n ws l r := by
      rw [← ready_word o h3, Bool.eq_iff_iff, beq_iff_eq, decide_eq_true_eq]; omega
    unfold order_Sorted_l1
    simp (disch := first | assumption | omega) only [cond_true, Option.bind_some, get_cl, inB_T, Int.toNat_natCast, length_cl, List.length_cons, List.length_nil, room8, Bool.and_self, nz_eq, tz_eq h1, clr_eq h1, hlen, sets_One_eq (show r < 32 by omega), not_u32 hf hw, e, or_u32 hw (two_pow_32 (show r < 32 by omega)), memW_snoc h3, cl_snoc]
    cases ready n ws l r <;> rfl) (fun r _ _ => rfl) rfl
  rw [key]
  have e : ((List.range n).findSome? fun r => if (dif (2 ^ n - 1) (memW n l)).testBit r = true then cond (ready n ws l r) (some (Sum.inl ((((memW n (l ++ [r]) : Nat) : Int), ()), cl (l ++ [r]), (), ()))) none else none) =
      (nextOf n ws l).map fun r => ((Sum.inl ((((memW n (l ++ [r]) : Nat) : Int), ()), cl (l ++ [r]), (), ())) : ((Int × Unit) × List Int × Unit × Unit) ⊕ (((Int × Unit) × List Int × Unit × Unit) ⊕ Empty)) := by
    unfold nextOf
    rw [← findSome_if]
    refine findSome_congr fun r hr => ?_
    have hr := List.mem_range.1 hr
    rw [dif_bit, all_bit, memW_bit, decide_eq_true hr, Bool.true_and, Bool.true_and]
    unfold ready
    cases l.contains r <;> simp
  rw [e]
  cases nextOf n ws l <;> rfl

theorem order_Sorted_eq {N : Int} {ws : List Nat} (hf : Fit ws) : order_Sorted ((N, cl ws, ()), ()) = some (if ordc N ws = 0 then (cl (sortTo N.toNat ws N.toNat), 0, ()) else ([], ordc N ws, ())) := by
  unfold order_Sorted
  simp (disch := first | assumption | omega) only [Option.bind_some, order_Check_eq hf]
  by_cases h : ordc N ws = 0
  · obtain ⟨h1, h2, h3, hin, o⟩ := ordc_zero h
    obtain ⟨n, rfl⟩ := Int.eq_ofNat_of_zero_le h1
    have hl : ws.length = n := by omega
    have hn : n ≤ 16 := by omega
    have o : IsOrder n ws := o
    have key := loopM_sim (f := order_Sorted_l2 (((n : Int), cl ws, ()), ()) (cl (downW n ws), ())) n (fun k => ((((memW n (sortTo n ws k) : Nat) : Int), ()), cl (sortTo n ws k), (), ())) (.inl ((((memW n (sortTo n ws n) : Nat) : Int), ()), cl (sortTo n ws n), (), ())) (fun k hk => by
      have hw : memW n (sortTo n ws k) < 2 ^ 32 := wordOf_lt32 _ (by omega)
      have hd : dif (2 ^ n - 1) (memW n (sortTo n ws k)) < 2 ^ 32 := dif_lt (all_32 (by omega))
      obtain ⟨i, hi⟩ := next_some o (l := sortTo n ws k) (by rw [sortTo_length]; omega)
      unfold order_Sorted_l2
      simp (disch := first | assumption | omega) only [cond_true, Option.bind_some, Sum.elim_inl, dcT, length_cl, sortTo_length, sets_All_eq (show n ≤ 32 by omega), not_u32 (all_32 (show n ≤ 32 by omega)) hw, wrap_u64 (lt_64 hd), order_Sorted_l1_eq hn o (show (sortTo n ws k).length ≤ 1000 by rw [sortTo_length]; omega), hi]
      simp only [sortTo, hi, Option.getD_some]) (by
      unfold order_Sorted_l2
      simp (disch := first | assumption | omega) only [cond_false, dcF, length_cl, sortTo_length]) (s0 := ((0, ()), [], (), ())) (by
      have : memW n [] = 0 := by
        apply Nat.eq_of_testBit_eq; intro b; rw [memW_bit]; simp
      simp only [sortTo, this]; rfl)
    simp (disch := first | assumption | omega) only [cond_false, Option.bind_some, Sum.elim_inl, Int.toNat_natCast, if_true, h, bneF, order_Down_eq hf hl hn hin, key]
  · simp (disch := first | assumption | omega) only [cond_true, if_false, h, bneT]

/-- From above: the least that may come next, if one from k on may. -/
def bestFrom (n : Nat) (ws l : List Nat) (k : Nat) : Int := match (List.range' (n - k) k).find? (ready n ws l) with
  | some i => (i : Int)
  | none => -1
theorem ref_OrderSorted_l2_eq {n : Nat} {ws l : List Nat} (hf : Fit ws) (hlen : ws.length = n) (hn : n ≤ 16) (hl : l.length ≤ 1000) (y : Unit) :
    loopM (ref_OrderSorted_l2 (((n : Int), cl ws, ()), ()) (cl l, y)) (-1, (n : Int) - 1, ()) = some (.inl (bestFrom n ws l n, ())) := by
  have h1 : ∀ (i : Nat) (a : Int), i < n → loopM (ref_OrderSorted_l1 (((n : Int), cl ws, ()), ()) (a, (i : Int), ()) (cl l, y)) (!l.contains i, 0, ()) = some (.inl (ready n ws l i, ())) := fun i a hi => by
    refine loopM_sim (f := ref_OrderSorted_l1 (((n : Int), cl ws, ()), ()) (a, (i : Int), ()) (cl l, y)) n (fun k => (!l.contains i && (List.range k).all fun j => !under ws j i || l.contains j, (k : Int), ())) _ (fun j hj => ?_) ?_ (by simp)
    · unfold ref_OrderSorted_l1
      simp (disch := first | assumption | omega) only [cond_true, Option.bind_some, dcT, wrapS, ref_Under_eq hf (show j < ws.length by omega) (show i < 2 ^ 64 by omega), ref_Has_eq (show l.length ≤ 1000000 by omega), all_succ]
      cases under ws j i <;> cases l.contains j <;> simp
    · unfold ref_OrderSorted_l1
      simp (disch := first | assumption | omega) only [cond_false, dcF, wrapS]
      rfl
  refine loopM_sim (f := ref_OrderSorted_l2 (((n : Int), cl ws, ()), ()) (cl l, y)) n (fun k => (bestFrom n ws l k, ((n : Int) - 1 - k), ())) _ (fun k hk => ?_) ?_ (by simp [bestFrom])
  · obtain ⟨i, hi⟩ : ∃ i : Nat, n = i + k + 1 := ⟨n - k - 1, by omega⟩
    have e1 : (n : Int) - 1 - (k : Int) = (i : Int) := by omega
    have e2 : IntKind.i64.wrap ((i : Int) - 1) = (n : Int) - 1 - ((k + 1 : Nat) : Int) := by rw [wrap64 (by omega) (by omega)]; omega
    have e3 : bestFrom n ws l (k + 1) = cond (ready n ws l i) (i : Int) (bestFrom n ws l k) := by
      unfold bestFrom
      rw [show n - (k + 1) = i by omega, List.range'_succ, List.find?_cons, show n - k = i + 1 by omega]
      cases ready n ws l i <;> rfl
    unfold ref_OrderSorted_l2
    rw [e1]
    simp (disch := first | assumption | omega) only [cond_true, Option.bind_some, Sum.elim_inl, dcT, ref_Has_eq (show l.length ≤ 1000000 by omega), h1 i _ (show i < n by omega), e2, e3]
    cases ready n ws l i <;> rfl
  · have : (n : Int) - 1 - (n : Int) = -1 := by omega
    unfold ref_OrderSorted_l2
    simp (disch := first | assumption | omega) only [cond_false, dcF, this]

theorem ref_OrderSorted_eq {n : Nat} {ws : List Nat} (hf : Fit ws) (hl : ws.length = n) (hn : n ≤ 16) (o : IsOrder n ws) : ref_OrderSorted (((n : Int), cl ws, ()), ()) = some (cl (sortTo n ws n), ()) := by
  have key := loopM_sim (f := ref_OrderSorted_l3 (((n : Int), cl ws, ()), ())) n (fun k => (cl (sortTo n ws k), ())) (.inl (cl (sortTo n ws n), ())) (fun k hk => by
    obtain ⟨i, hi⟩ := next_some o (l := sortTo n ws k) (by rw [sortTo_length]; omega)
    have e : bestFrom n ws (sortTo n ws k) n = (i : Int) := by
      unfold bestFrom
      rw [Nat.sub_self, ← List.range_eq_range']
      unfold nextOf at hi
      rw [hi]
    have e2 : IntKind.i64.wrap ((n : Int) - 1) = (n : Int) - 1 := wrap64 (by omega) (by omega)
    unfold ref_OrderSorted_l3
    simp (disch := first | assumption | omega) only [cond_true, Option.bind_some, Sum.elim_inl, dcT, length_cl, List.length_cons, List.length_nil, room8, Bool.and_self, sortTo_length, e2, ref_OrderSorted_l2_eq hf hl hn (show (sortTo n ws k).length ≤ 1000 by rw [sortTo_length]; omega), e, cl_snoc]
    simp only [sortTo, hi, Option.getD_some]) (by
    unfold ref_OrderSorted_l3
    simp (disch := first | assumption | omega) only [cond_true, cond_false, dcF, length_cl, List.length_cons, List.length_nil, room8, Bool.and_self, sortTo_length]) (s0 := ([], ())) rfl
  unfold ref_OrderSorted
  simp (disch := first | assumption | omega) only [Option.bind_some, Sum.elim_inl, key]

end Go.Proofs.Tryd
