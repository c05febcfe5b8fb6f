/- Lemmas on functions of the program, by name: chain. -/
import Derived.Test.YtofcpghoogaglaaDoorD1Funs
import Derived.Test.YtofcpghoogaglaaDoorAbsSums
import Derived.Test.YtofcpghoogaglaaDoorD1LibHeights
namespace Go.Proofs.Tryd
open Go Go.Abs


theorem find_least {n j : Nat} {p : Nat → Bool} (hj : j < n) (hp : p j = true) (hlt : ∀ k, k < j → p k = false) : (List.range n).find? p = some j := by
  cases h : (List.range n).find? p with
  | none => exact absurd hp (List.find?_eq_none.1 h j (List.mem_range.2 hj))
  | some i =>
    have h1 := List.mem_range.1 (List.mem_of_find?_eq_some h)
    have h2 := List.find?_some h
    obtain ⟨_, us, vs, he, hall⟩ := List.find?_eq_some_iff_append.1 h
    have hij : ¬ i < j := fun hlt' => by rw [hlt i hlt'] at h2; cases h2
    by_cases e : i = j
    · rw [e]
    · exfalso
      have hi : us.length = i := by
        have h3 : (List.range n)[us.length]? = some i := by rw [he, List.getElem?_append_right (Nat.le_refl _), Nat.sub_self]; rfl
        obtain ⟨h4, h5⟩ := List.getElem?_eq_some_iff.1 h3
        rw [List.getElem_range] at h5
        exact h5
      have hja : j ∈ us := by
        have h3 : (List.range n)[j]? = us[j]? := by rw [he, List.getElem?_append_left (by omega)]
        have h4 : (List.range n)[j]? = some j := by rw [List.getElem?_eq_getElem (by simpa using hj), List.getElem_range]
        rw [h4] at h3
        exact List.mem_of_getElem? h3.symm
      have := hall j hja
      rw [hp] at this; cases this

theorem getI_clt {n i : Nat} {g : Nat → Nat} (h : i < n) : getI (cl (tab n g)) (i : Int) = some ((g i : Nat) : Int) := by rw [getI_nat]; exact get_clt h
/-- The first longest chain upwards from an element: m more elements. -/
def tailC (n : Nat) (ws : List Nat) : Nat → Nat → List Nat
  | 0, _ => []
  | m + 1, i => match (List.range n).find? (fun j => under ws i j && decide (upC n ws j = m)) with
    | some j => j :: tailC n ws m j
    | none => []
def chainC (n : Nat) (ws : List Nat) (i : Nat) : List Nat := i :: tailC n ws (upC n ws i) i
theorem tail_some {n : Nat} {ws : List Nat} (o : IsOrder n ws) {i m : Nat} (hi : i < n) (h : upC n ws i = m + 1) : ∃ j, (List.range n).find? (fun j => under ws i j && decide (upC n ws j = m)) = some j ∧ j < n ∧ under ws i j = true ∧ upC n ws j = m := by
  obtain ⟨j, hj, hu, hm⟩ := upC_next o hi h
  cases hf : (List.range n).find? (fun j => under ws i j && decide (upC n ws j = m)) with
  | none => exact absurd (List.find?_eq_none.1 hf j (List.mem_range.2 hj)) (by simp [hu, hm])
  | some k =>
    have h1 := List.find?_some hf
    have h2 := List.mem_range.1 (List.mem_of_find?_eq_some hf)
    rw [Bool.and_eq_true, decide_eq_true_eq] at h1
    exact ⟨k, rfl, h2, h1.1, h1.2⟩
theorem tailC_len {n : Nat} {ws : List Nat} (o : IsOrder n ws) : ∀ m i, i < n → upC n ws i = m → (tailC n ws m i).length = m
  | 0, _, _, _ => rfl
  | m + 1, i, hi, h => by
    obtain ⟨j, h1, h2, h3, h4⟩ := tail_some o hi h
    rw [tailC, h1]
    show (tailC n ws m j).length + 1 = m + 1
    rw [tailC_len o m j h2 h4]
theorem chainC_len {n : Nat} {ws : List Nat} (o : IsOrder n ws) {i : Nat} (hi : i < n) : (chainC n ws i).length = upC n ws i + 1 := by
  show (tailC n ws _ i).length + 1 = _
  rw [tailC_len o _ i hi rfl]

/-! The program. -/
def pickC (n : Nat) (ws : List Nat) (w m : Nat) : Option Nat := (List.range n).find? fun r => w.testBit r && decide (upC n ws r = m)
def stC (n : Nat) (ws : List Nat) (M : Nat) : Nat → List Nat × Nat
  | 0 => ([], 2 ^ n - 1)
  | k + 1 => match pickC n ws (stC n ws M k).2 (M - k) with
    | some r => ((stC n ws M k).1 ++ [r], dif (ws.getD r 0) (2 ^ r))
    | none => stC n ws M k
def maxUp (n : Nat) (ws : List Nat) : Nat := maxN n (upC n ws)
def theChain (n : Nat) (ws : List Nat) : List Nat := match pickC n ws (2 ^ n - 1) (maxUp n ws) with
  | some i => chainC n ws i
  | none => []
theorem pick_top {n : Nat} {ws : List Nat} (h0 : 0 < n) : ∃ i, i < n ∧ upC n ws i = maxUp n ws ∧ pickC n ws (2 ^ n - 1) (maxUp n ws) = some i := by
  have he : ∃ i, i < n ∧ upC n ws i = maxUp n ws := by
    by_cases hz : maxUp n ws = 0
    · have := le_maxN (f := upC n ws) h0
      exact ⟨0, h0, by unfold maxUp at hz ⊢; omega⟩
    · exact maxN_at hz
  obtain ⟨i, hi, hu⟩ := he
  cases h : pickC n ws (2 ^ n - 1) (maxUp n ws) with
  | none => exact absurd (List.find?_eq_none.1 h i (List.mem_range.2 hi)) (by rw [all_bit]; simp [hi, hu])
  | some k =>
    have h1 := List.find?_some h
    have h2 := List.mem_range.1 (List.mem_of_find?_eq_some h)
    rw [Bool.and_eq_true, decide_eq_true_eq] at h1
    exact ⟨k, h2, h1.2, rfl⟩
theorem stC_spec {n : Nat} {ws : List Nat} (o : IsOrder n ws) {i0 : Nat} (hi0 : i0 < n) (hu : upC n ws i0 = maxUp n ws) (hp : pickC n ws (2 ^ n - 1) (maxUp n ws) = some i0) :
    ∀ k, k ≤ maxUp n ws → ∃ c pre, c < n ∧ upC n ws c = maxUp n ws - k ∧ stC n ws (maxUp n ws) (k + 1) = (pre ++ [c], dif (ws.getD c 0) (2 ^ c)) ∧ pre ++ [c] ++ tailC n ws (maxUp n ws - k) c = chainC n ws i0
  | 0, _ => by
    refine ⟨i0, [], hi0, hu, ?_, ?_⟩
    · show (match pickC n ws (2 ^ n - 1) (maxUp n ws - 0) with | some r => _ | none => _) = _
      rw [Nat.sub_zero, hp]; rfl
    · unfold chainC; rw [hu]; rfl
  | k + 1, hk => by
    obtain ⟨c, pre, h1, h2, h3, h4⟩ := stC_spec o hi0 hu hp k (by omega)
    have e1 : maxUp n ws - k = (maxUp n ws - (k + 1)) + 1 := by omega
    rw [e1] at h2 h4
    obtain ⟨j, h5, h6, h7, h8⟩ := tail_some o h1 h2
    have e2 : pickC n ws (dif (ws.getD c 0) (2 ^ c)) (maxUp n ws - (k + 1)) = some j := by
      unfold pickC
      rw [← h5]
      refine congrArg (fun p => (List.range n).find? p) (funext fun r => ?_)
      rw [under_word]
    refine ⟨j, pre ++ [c], h6, h8, ?_, ?_⟩
    · rw [stC, h3]
      dsimp only
      rw [e2]
    · rw [← h4, tailC, h5]
      simp
theorem stC_end {n : Nat} {ws : List Nat} (o : IsOrder n ws) (h0 : 0 < n) : (stC n ws (maxUp n ws) (maxUp n ws + 1)).1 = theChain n ws := by
  obtain ⟨i, h1, h2, h3⟩ := pick_top (ws := ws) h0
  obtain ⟨c, pre, _, _, h6, h7⟩ := stC_spec o h1 h2 h3 (maxUp n ws) (Nat.le_refl _)
  rw [Nat.sub_self] at h7
  unfold theChain
  rw [h3, h6]
  show pre ++ [c] = chainC n ws i
  rw [← h7, tailC, List.append_nil]
theorem stC_len (n : Nat) (ws : List Nat) (M : Nat) : ∀ k, (stC n ws M k).1.length ≤ k
  | 0 => Nat.le_refl 0
  | k + 1 => by
    have := stC_len n ws M k
    rw [stC]
    split
    · rw [List.length_append]; simp; omega
    · omega
theorem stC_lt {n : Nat} {ws : List Nat} (hin : Inside n ws) (M : Nat) : ∀ k, (stC n ws M k).2 < 2 ^ n
  | 0 => by have := Nat.two_pow_pos n; show 2 ^ n - 1 < 2 ^ n; omega
  | k + 1 => by
    rw [stC]
    split
    · refine dif_lt (Nat.lt_pow_two_of_testBit _ fun j hj => ?_)
      rename_i r _
      cases h : (ws.getD r 0).testBit j
      · rfl
      · have := insideD hin h; omega
    · exact stC_lt hin M k

theorem slices_Max_eq {n : Nat} {f : Nat → Nat} (h0 : 0 < n) (hn : n ≤ 1000) : slices_Max_s_int_int (cl (tab n f), ()) = some (((maxN n f : Nat) : Int), ()) := by
  have key := loopM_sim (f := slices_Max_s_int_int_l1 (cl (tab n f), ())) (n - 1) (fun k => (((maxN (k + 1) f : Nat) : Int), ((k + 1 : Nat) : Int), ())) (.inl (((maxN n f : Nat) : Int), ())) (fun k hk => by
    unfold slices_Max_s_int_int_l1
    simp (disch := first | assumption | omega) only [cond_true, Option.bind_some, dcT, wrapS, length_cl, length_tab, getI_clt, int_max]
    rfl) (by
    have e : n - 1 + 1 = n := by omega
    unfold slices_Max_s_int_int_l1
    rw [e]
    simp (disch := first | assumption | omega) only [cond_false, dcF, wrapS, length_cl, length_tab]) (s0 := (((f 0 : Nat) : Int), 1, ())) (by
    show (((max 0 (f 0) : Nat) : Int), _) = _
    rw [Nat.zero_max]; rfl)
  have e0 : decide (((cl (tab n f)).length : Int) < 1) = false := by rw [cl_length, tab_length]; exact decide_eq_false (by omega)
  have e1 : getI (cl (tab n f)) (0 : Int) = some ((f 0 : Nat) : Int) := by
    have := getI_cl (l := tab n f) (i := 0) (by rw [tab_length]; exact h0)
    rw [getD_tab h0] at this
    exact this
  unfold slices_Max_s_int_int
  simp (disch := first | assumption | omega) only [cond_false, Option.bind_some, Sum.elim_inl, dcF, length_cl, length_tab, e1, key]

theorem order_Chain_l1_eq {n : Nat} {ws : List Nat} (hf : Fit ws) (hl : ws.length = n) (hn : n ≤ 16) (N : Int) {l : List Nat} (hll : l.length ≤ 1000) {w m : Nat} (hw : w < 2 ^ n) (y : List Int × Unit × (Int × Unit) × Unit) :
    loopM (order_Chain_l1 ((N, cl ws, ()), ()) (cl (tab n (upC n ws)), ()) (((m : Int), ()), y)) ((w : Int), cl l, (), ((w : Int), ()), ()) =
      some (exitOr ((pickC n ws w m).map fun r : Nat => (cl (l ++ [r]), (), (((dif (ws.getD r 0) (2 ^ r) : Nat) : Int), ()), ())) (.inl (cl l, (), ((w : Int), ()), ()))) := by
  have key := loopM_bitsStop (f := order_Chain_l1 ((N, cl ws, ()), ()) (cl (tab n (upC n ws)), ()) (((m : Int), ()), y)) n (fun _ => (cl l, (), ((w : Int), ()), ())) (fun r => cond (decide (upC n ws r = m)) (some (.inl (cl (l ++ [r]), (), (((dif (ws.getD r 0) (2 ^ r) : Nat) : Int), ()), ()))) none) (.inr (.inl (cl l, (), ((w : Int), ()), ()))) hw (by omega) (fun r q h1 h2 h3 => by
    have e : (((upC n ws r : Nat) : Int) == (m : Int)) = decide (upC n ws r = m) := by rw [Bool.eq_iff_iff, beq_iff_eq, decide_eq_true_eq]; omega
    unfold order_Chain_l1
    simp (disch := first | assumption | omega) only [cond_true, Option.bind_some, getI_cl, inB_T, Int.toNat_natCast, length_cl, length_tab, List.length_cons, List.length_nil, room8, Bool.and_self, nz_eq, tz_eq h1, clr_eq h1, get_clt, e, sets_One_eq (show r < 32 by omega), not_u32 (fitD hf r) (two_pow_32 (show r < 32 by omega)), cl_snoc]
    cases decide (upC n ws r = m) <;> rfl) (fun _ _ _ => rfl) rfl
  rw [key]
  have e : ((List.range n).findSome? fun r => if w.testBit r = true then cond (decide (upC n ws r = m)) (some (Sum.inl (cl (l ++ [r]), (), (((dif (ws.getD r 0) (2 ^ r) : Nat) : Int), ()), ()))) none else none) =
      (pickC n ws w m).map fun r : Nat => ((Sum.inl (cl (l ++ [r]), (), (((dif (ws.getD r 0) (2 ^ r) : Nat) : Int), ()), ())) : (List Int × Unit × (Int × Unit) × Unit) ⊕ ((List Int × Unit × (Int × Unit) × Unit) ⊕ Empty)) := by
    unfold pickC
    rw [← findSome_if]
    refine findSome_congr fun r _ => ?_
    cases w.testBit r <;> rfl
  rw [e]
  cases pickC n ws w m <;> rfl

theorem order_Chain_eq {N : Int} {ws : List Nat} (hf : Fit ws) : order_Chain ((N, cl ws, ()), ()) = some (if ordc N ws = 0 then (cl (theChain N.toNat ws), 0, ()) else ([], ordc N ws, ())) := by
  unfold order_Chain
  simp (disch := first | assumption | omega) only [Option.bind_some, order_Check_eq hf]
  by_cases h : ordc N ws = 0
  · obtain ⟨h1, h2, h3, hin, o⟩ := ordc_zero h
    obtain ⟨n, rfl⟩ := Int.eq_ofNat_of_zero_le h1
    have hl : ws.length = n := by omega
    have hn : n ≤ 16 := by omega
    have o : IsOrder n ws := o
    have hin : Inside n ws := hin
    by_cases h0 : n = 0
    · subst h0
      simp (disch := first | assumption | omega) only [cond_true, cond_false, Int.toNat_natCast, if_true, h, bneF, beqT]
      rfl
    · have hM : maxUp n ws ≤ n := maxN_le fun i _ => upC_le n ws i
      have key := loopM_sim (f := order_Chain_l2 (((n : Int), cl ws, ()), ()) (cl (tab n (upC n ws)), ())) (maxUp n ws + 1) (fun k => (((maxUp n ws : Int) - (k : Int), ()), cl (stC n ws (maxUp n ws) k).1, (), ((((stC n ws (maxUp n ws) k).2 : Nat) : Int), ()), ())) (.inl (cl (theChain n ws), (), ((((stC n ws (maxUp n ws) (maxUp n ws + 1)).2 : Nat) : Int), ()), ())) (fun k hk => by
        have hlen := stC_len n ws (maxUp n ws) k
        have hlt := stC_lt hin (maxUp n ws) k
        have h32 : (stC n ws (maxUp n ws) k).2 < 2 ^ 32 := Nat.lt_of_lt_of_le hlt (Nat.pow_le_pow_right (by decide) (by omega))
        have e1 : (maxUp n ws : Int) - (k : Int) = ((maxUp n ws - k : Nat) : Int) := by omega
        have e2 : IntKind.i64.wrap (((maxUp n ws - k : Nat) : Int) - 1) = (maxUp n ws : Int) - ((k + 1 : Nat) : Int) := by rw [wrap64 (by omega) (by omega)]; omega
        unfold order_Chain_l2
        rw [e1]
        simp (disch := first | assumption | omega) only [cond_true, dcT, wrap_u64 (lt_64 h32), e2]
        rw [order_Chain_l1_eq hf hl hn (n : Int) (by omega) hlt, stC]
        cases pickC n ws (stC n ws (maxUp n ws) k).2 (maxUp n ws - k) <;> rfl) (by
        have e1 : (maxUp n ws : Int) - ((maxUp n ws + 1 : Nat) : Int) = -1 := by omega
        unfold order_Chain_l2
        simp (disch := first | assumption | omega) only [cond_false, dcF, e1, stC_end o (show 0 < n by omega)]) (s0 := (((maxUp n ws : Int), ()), [], (), (((2 ^ n - 1 : Nat) : Int), ()), ())) (by
        show ((((maxUp n ws : Int) - 0), ()), _) = _
        rw [Int.sub_zero]; rfl)
      have e3 : slices_Max_s_int_int (cl (tab n (upC n ws)), ()) = some (((maxUp n ws : Nat) : Int), ()) := slices_Max_eq (by omega) (by omega)
      simp (disch := first | assumption | omega) only [cond_false, Option.bind_some, Sum.elim_inl, Int.toNat_natCast, if_true, h, bneF, beqF, order_climbs_eq hf hl hn hin o, sets_All_eq (show n ≤ 32 by omega), e3, key]
  · simp (disch := first | assumption | omega) only [cond_true, if_false, h, bneT]

/-! The reference. -/
def better (n : Nat) (ws : List Nat) (a b : Nat) : Bool := decide (upC n ws b < upC n ws a) || (decide (upC n ws b = upC n ws a) && decide (a < b))
theorem better_iff {n : Nat} {ws : List Nat} {a b : Nat} : better n ws a b = true ↔ upC n ws b < upC n ws a ∨ (upC n ws b = upC n ws a ∧ a < b) := by
  unfold better; rw [Bool.or_eq_true, Bool.and_eq_true, decide_eq_true_eq, decide_eq_true_eq, decide_eq_true_eq]
theorem better_not {n : Nat} {ws : List Nat} {a b : Nat} : better n ws a b = false ↔ ¬ (upC n ws b < upC n ws a ∨ (upC n ws b = upC n ws a ∧ a < b)) := by
  rw [← better_iff, Bool.not_eq_true]
def selStep (n : Nat) (ws : List Nat) (acc : Option Nat) (k : Nat) : Option Nat := match acc with
  | none => some k
  | some j => cond (better n ws k j) (some k) (some j)
def selL (n : Nat) (ws : List Nat) (l : List Nat) : Option Nat := l.foldl (selStep n ws) none
theorem selL_snoc (n : Nat) (ws : List Nat) (l : List Nat) (k : Nat) : selL n ws (l ++ [k]) = selStep n ws (selL n ws l) k := by
  unfold selL; rw [List.foldl_append]; rfl
def SelOK (n : Nat) (ws : List Nat) (seen : List Nat) : Option Nat → Prop
  | none => seen = []
  | some j => j ∈ seen ∧ ∀ k ∈ seen, better n ws k j = false
theorem sel_ok (n : Nat) (ws : List Nat) : ∀ (l : List Nat) (acc : Option Nat) (seen : List Nat), SelOK n ws seen acc → SelOK n ws (seen ++ l) (l.foldl (selStep n ws) acc)
  | [], acc, seen, h => by rw [List.append_nil]; exact h
  | x :: l, acc, seen, h => by
    have h1 : SelOK n ws (seen ++ [x]) (selStep n ws acc x) := by
      cases acc with
      | none =>
        have : seen = [] := h
        subst this
        refine ⟨by simp, fun k hk => ?_⟩
        have : k = x := by simpa using hk
        subst this
        rw [better_not]; omega
      | some j =>
        obtain ⟨h2, h3⟩ := h
        unfold selStep
        dsimp only
        cases hb : better n ws x j with
        | true =>
          rw [better_iff] at hb
          refine ⟨by simp, fun k hk => ?_⟩
          rcases List.mem_append.1 hk with hk | hk
          · have := better_not.1 (h3 k hk)
            rw [better_not]; omega
          · have : k = x := by simpa using hk
            subst this
            rw [better_not]; omega
        | false =>
          refine ⟨List.mem_append_left _ h2, fun k hk => ?_⟩
          rcases List.mem_append.1 hk with hk | hk
          · exact h3 k hk
          · have : k = x := by simpa using hk
            subst this
            exact hb
    have := sel_ok n ws l _ _ h1
    rw [List.append_assoc] at this
    exact this
theorem selL_ok (n : Nat) (ws : List Nat) (l : List Nat) : SelOK n ws l (selL n ws l) := sel_ok n ws l none [] rfl
def restOf (n : Nat) (ws : List Nat) : Option Nat → List Nat
  | some j => chainC n ws j
  | none => []

theorem ref_first_chain {n : Nat} {ws : List Nat} (o : IsOrder n ws) {a b : Nat} (ha : a < n) (hb : b < n) (hne : a ≠ b) : ref_first (cl (chainC n ws a), cl (chainC n ws b), ()) = some (better n ws a b, ()) := by
  have la := chainC_len o ha
  have lb := chainC_len o hb
  have ga : (chainC n ws a).getD 0 0 = a := rfl
  have gb : (chainC n ws b).getD 0 0 = b := rfl
  unfold ref_first
  by_cases h : upC n ws a = upC n ws b
  · have e0 : (((cl (chainC n ws a)).length : Int) != ((cl (chainC n ws b)).length : Int)) = false := bneF (by rw [cl_length, cl_length]; omega)
    have key : loopM (ref_first_l1 (cl (chainC n ws a), cl (chainC n ws b), ())) (0, ()) = some (.inl (decide ((a : Int) < (b : Int)), ())) := by
      refine loopM_inr ?_
      have g1 : getI (cl (chainC n ws a)) (0 : Int) = some (a : Int) := rfl
      have g2 : getI (cl (chainC n ws b)) (0 : Int) = some (b : Int) := rfl
      have e1 : decide ((0 : Int) < ((cl (chainC n ws a)).length : Int)) = true := by rw [cl_length, la]; exact decide_eq_true (by omega)
      have e2 : ((a : Int) != (b : Int)) = true := bneT (by omega)
      unfold ref_first_l1
      simp only [e1, cond_true, g1, g2, Option.bind_some, e2]
    have e3 : decide ((a : Int) < (b : Int)) = better n ws a b := by
      rw [Bool.eq_iff_iff, decide_eq_true_eq, better_iff]; omega
    rw [e0, cond_false, key, e3]; rfl
  · have e0 : (((cl (chainC n ws a)).length : Int) != ((cl (chainC n ws b)).length : Int)) = true := bneT (by rw [cl_length, cl_length]; omega)
    have e1 : decide (((cl (chainC n ws a)).length : Int) > ((cl (chainC n ws b)).length : Int)) = better n ws a b := by
      rw [Bool.eq_iff_iff, decide_eq_true_eq, better_iff, cl_length, cl_length]; omega
    rw [e0, e1]; rfl

theorem ref_first_nil {n : Nat} {ws : List Nat} (a : Nat) : ref_first (cl (chainC n ws a), [], ()) = some (true, ()) := by
  unfold ref_first
  have e0 : (((cl (chainC n ws a)).length : Int) != (([] : List Int).length : Int)) = true := bneT (by rw [cl_length]; unfold chainC; simp; omega)
  have e1 : decide (((cl (chainC n ws a)).length : Int) > (([] : List Int).length : Int)) = true := decide_eq_true (by rw [cl_length]; unfold chainC; simp)
  rw [e0, e1]; rfl
/-- One more is held against what was found. -/
theorem ref_first_sel {n : Nat} {ws : List Nat} (o : IsOrder n ws) {l : List Nat} (hl : ∀ x ∈ l, x < n) {k : Nat} (hk : k < n) (hkl : k ∉ l) :
    ∃ b, ref_first (cl (chainC n ws k), cl (restOf n ws (selL n ws l)), ()) = some (b, ()) ∧ restOf n ws (selL n ws (l ++ [k])) = cond b (chainC n ws k) (restOf n ws (selL n ws l)) := by
  rw [selL_snoc]
  have hok := selL_ok n ws l
  cases h : selL n ws l with
  | none => exact ⟨true, ref_first_nil k, rfl⟩
  | some j =>
    rw [h] at hok
    refine ⟨better n ws k j, ref_first_chain o hk (hl j hok.1) (fun e => hkl (e ▸ hok.1)), ?_⟩
    unfold selStep
    dsimp only
    cases better n ws k j <;> rfl

theorem rest_tail {n : Nat} {ws : List Nat} (o : IsOrder n ws) {i : Nat} (hi : i < n) : restOf n ws (selL n ws ((List.range n).filter (under ws i))) = tailC n ws (upC n ws i) i := by
  have hok := selL_ok n ws ((List.range n).filter (under ws i))
  have hmem : ∀ x, x ∈ (List.range n).filter (under ws i) ↔ x < n ∧ under ws i x = true := fun x => by rw [List.mem_filter, List.mem_range]
  cases h : selL n ws ((List.range n).filter (under ws i)) with
  | none =>
    rw [h] at hok
    have hok : (List.range n).filter (under ws i) = [] := hok
    cases hu : upC n ws i with
    | zero => rfl
    | succ m =>
      obtain ⟨j, hj, hu, _⟩ := upC_next o hi hu
      have := (hmem j).2 ⟨hj, hu⟩
      rw [hok] at this; cases this
  | some j =>
    rw [h] at hok
    obtain ⟨h1, h2⟩ := hok
    obtain ⟨h3, h4⟩ := (hmem j).1 h1
    have h5 := upC_step o hi h3 h4
    cases hu : upC n ws i with
    | zero => omega
    | succ m =>
      obtain ⟨j', hj', hu', hm⟩ := upC_next o hi hu
      have h6 := better_not.1 (h2 j' ((hmem j').2 ⟨hj', hu'⟩))
      have hjm : upC n ws j = m := by omega
      have hf : (List.range n).find? (fun j => under ws i j && decide (upC n ws j = m)) = some j := find_least h3 (by rw [h4, hjm]; simp) fun k hk => by
        cases hk2 : under ws i k && decide (upC n ws k = m) with
        | false => rfl
        | true =>
          rw [Bool.and_eq_true, decide_eq_true_eq] at hk2
          have := better_not.1 (h2 k ((hmem k).2 ⟨by omega, hk2.1⟩))
          omega
      rw [tailC, hf]
      show chainC n ws j = _
      unfold chainC
      rw [hjm]

theorem all_chain {n : Nat} {ws : List Nat} (l : List Nat) (hl : ∀ x, x ∈ l ↔ x < n) : restOf n ws (selL n ws l) = theChain n ws := by
  have hok := selL_ok n ws l
  cases h : selL n ws l with
  | none =>
    rw [h] at hok
    have hok : l = [] := hok
    have h0 : n = 0 := by
      cases n with
      | zero => rfl
      | succ n => have := (hl 0).2 (by omega); rw [hok] at this; cases this
    subst h0
    rfl
  | some j =>
    rw [h] at hok
    obtain ⟨h1, h2⟩ := hok
    have h3 := (hl j).1 h1
    obtain ⟨i, h4, h5, _⟩ := pick_top (ws := ws) (show 0 < n by omega)
    have h6 := better_not.1 (h2 i ((hl i).2 h4))
    have h7 := le_maxN (f := upC n ws) h3
    have hj : upC n ws j = maxUp n ws := by unfold maxUp at h5 ⊢; omega
    have hf : pickC n ws (2 ^ n - 1) (maxUp n ws) = some j := find_least h3 (by rw [all_bit, hj]; simp [h3]) fun k hk => by
      cases hk2 : (2 ^ n - 1).testBit k && decide (upC n ws k = maxUp n ws) with
      | false => rfl
      | true =>
        rw [Bool.and_eq_true, decide_eq_true_eq] at hk2
        have := better_not.1 (h2 k ((hl k).2 (by omega)))
        omega
    unfold theChain
    rw [hf]; rfl

theorem room24 {n : Nat} (h : n ≤ 1000000) : roomOk n 24 = true := by
  unfold roomOk
  rw [Bool.and_eq_true]
  exact ⟨Nat.ble_eq_true_of_le (by omega), Nat.ble_eq_true_of_le (by omega)⟩

/-- The chains that are known. -/
def bestT (n : Nat) (ws : List Nat) (d : List Nat) : List (List Int) := tab n fun a => if d.contains a = true then cl (chainC n ws a) else []

theorem ref_OrderChain_l1_eq {n : Nat} {ws : List Nat} (hf : Fit ws) (hl : ws.length = n) (hn : n ≤ 16) (o : IsOrder n ws) {i : Nat} (hi : i < n) (d : List Nat) (hd : ∀ j, j < n → under ws i j = true → j ∈ d) (u : List Int) (v : Int) :
    loopM (ref_OrderChain_l1 (((n : Int), cl ws, ()), ()) (i : Int) (u, v, bestT n ws d, ())) ([], 0, ()) = some (.inl (cl (tailC n ws (upC n ws i) i), ())) := by
  have key := loopM_sim (f := ref_OrderChain_l1 (((n : Int), cl ws, ()), ()) (i : Int) (u, v, bestT n ws d, ())) n (fun k => (cl (restOf n ws (selL n ws ((List.range k).filter (under ws i)))), (k : Int), ())) (.inl (cl (tailC n ws (upC n ws i) i), ())) (fun j hj => by
    have hlen : (bestT n ws d).length = n := tab_length ..
    have hs : (List.range (j + 1)).filter (under ws i) = cond (under ws i j) ((List.range j).filter (under ws i) ++ [j]) ((List.range j).filter (under ws i)) := by
      rw [List.range_succ, List.filter_append, List.filter_cons]
      cases under ws i j
      · simp
      · rfl
    unfold ref_OrderChain_l1
    simp (disch := first | assumption | omega) only [cond_true, Option.bind_some, dcT, inB_T, Int.toNat_natCast, wrapS, ref_Under_eq hf (show i < ws.length by omega) (show j < 2 ^ 64 by omega), hlen, hs]
    cases hu : under ws i j
    · rfl
    · have hg : (bestT n ws d)[j]? = some (cl (chainC n ws j)) := by
        unfold bestT
        rw [tab_get _ hj, if_pos (by rw [List.contains_iff_mem]; exact hd j hj hu)]
      obtain ⟨b, h1, h2⟩ := ref_first_sel o (l := (List.range j).filter (under ws i)) (fun x hx => by have := List.mem_range.1 (List.mem_filter.1 hx).1; omega) hj (fun hx => by have := List.mem_range.1 (List.mem_filter.1 hx).1; omega)
      simp (disch := first | assumption | omega) only [cond_true, Option.bind_some, hg, h1, h2]
      cases b <;> rfl) (by
    unfold ref_OrderChain_l1
    simp (disch := first | assumption | omega) only [cond_false, dcF, Int.toNat_natCast, wrapS, rest_tail o hi]) (s0 := ([], 0, ())) rfl
  exact key

theorem ref_OrderChain_l2_eq {r : List Nat} (hr : r.length ≤ 1000) (i : Nat) : loopM (ref_OrderChain_l2 (cl r, ())) ([(i : Int)], 0, ()) = some (.inl (cl (i :: r), ())) := by
  refine loopM_sim (f := ref_OrderChain_l2 (cl r, ())) r.length (fun k => (cl (i :: r.take k), (k : Int), ())) _ (fun k hk => ?_) ?_ rfl
  · have e : r.take (k + 1) = r.take k ++ [r.getD k 0] := by
      rw [List.take_add_one, getD_get (d := 0) hk]; rfl
    unfold ref_OrderChain_l2
    simp (disch := first | assumption | omega) only [cond_true, Option.bind_some, dcT, getI_cl, wrapS, length_cl, List.length_cons, List.length_nil, room8, Bool.and_self, List.length_take, e, cl_snoc, List.cons_append]
  · unfold ref_OrderChain_l2
    simp (disch := first | assumption | omega) only [cond_true, cond_false, dcF, wrapS, length_cl, List.length_cons, List.length_nil, room8, Bool.and_self, List.take_length]

theorem ref_OrderChain_eq {n : Nat} {ws : List Nat} (hf : Fit ws) (hl : ws.length = n) (hn : n ≤ 16) (o : IsOrder n ws) : ref_OrderChain (((n : Int), cl ws, ()), ()) = some (cl (theChain n ws), ()) := by
  have hslen := sortTo_length n ws n
  have key := loopM_sim (f := ref_OrderChain_l3 (((n : Int), cl ws, ()), ()) (cl (sortTo n ws n), ())) n (fun k => (cl (restOf n ws (selL n ws ((sortTo n ws n).drop (n - k)).reverse)), (n : Int) - 1 - (k : Int), bestT n ws ((sortTo n ws n).drop (n - k)), ())) (.inl (cl (theChain n ws), bestT n ws (sortTo n ws n), ())) (fun k hk => by
    obtain ⟨p, hp⟩ : ∃ p : Nat, n = p + k + 1 := ⟨n - k - 1, by omega⟩
    have hpn : p < n := by omega
    have e1 : (n : Int) - 1 - (k : Int) = (p : Int) := by omega
    have e2 : IntKind.i64.wrap ((p : Int) - 1) = (n : Int) - 1 - ((k + 1 : Nat) : Int) := by rw [wrap64 (by omega) (by omega)]; omega
    have e3 : n - k = p + 1 := by omega
    have e4 : n - (k + 1) = p := by omega
    have hi : (sortTo n ws n).getD p 0 < n := sortTo_lt o n (Nat.le_refl n) _ (List.mem_of_getElem? (getD_get (d := 0) (by rw [sortTo_length]; exact hpn)))
    have htl := tailC_len o _ _ hi rfl
    have hup := upC_le n ws ((sortTo n ws n).getD p 0)
    have hlen : (bestT n ws ((sortTo n ws n).drop (p + 1))).length = n := tab_length ..
    have e5 : ((sortTo n ws n).drop p).reverse = ((sortTo n ws n).drop (p + 1)).reverse ++ [(sortTo n ws n).getD p 0] := by
      rw [sort_pos o hpn, List.reverse_cons]
    obtain ⟨b, h1, h2⟩ := ref_first_sel o (l := ((sortTo n ws n).drop (p + 1)).reverse) (fun x hx => sortTo_lt o n (Nat.le_refl n) x (List.mem_of_mem_drop (List.mem_reverse.1 hx))) hi (fun hx => sort_notin o hpn (List.mem_reverse.1 hx))
    have e6 : (bestT n ws ((sortTo n ws n).drop (p + 1))).set ((sortTo n ws n).getD p 0) (cl (chainC n ws ((sortTo n ws n).getD p 0))) = bestT n ws ((sortTo n ws n).drop p) := by
      unfold bestT
      rw [tab_set]
      refine tab_congr fun a _ => ?_
      rw [sort_pos o hpn, List.contains_cons]
      by_cases e : a = (sortTo n ws n).getD p 0
      · rw [if_pos e, e]; simp
      · have : (a == (sortTo n ws n).getD p 0) = false := by simpa using e
        rw [if_neg e, this, Bool.false_or]
    have hget : ∃ q, (bestT n ws ((sortTo n ws n).drop (p + 1)))[(sortTo n ws n).getD p 0]? = some q := ⟨_, List.getElem?_eq_getElem (by rw [hlen]; exact hi)⟩
    obtain ⟨q, hq⟩ := hget
    have e7 : (sortTo n ws n).getD p 0 :: tailC n ws (upC n ws ((sortTo n ws n).getD p 0)) ((sortTo n ws n).getD p 0) = chainC n ws ((sortTo n ws n).getD p 0) := rfl
    rw [e1, e3, e4]
    unfold ref_OrderChain_l3
    simp (disch := first | assumption | omega) only [cond_true, Option.bind_some, dcT, get_cl, inB_T, Int.toNat_natCast, length_cl, hslen]
    rw [ref_OrderChain_l1_eq hf hl hn o hi _ (fun j hj hu => sort_above o hpn hj hu)]
    simp (disch := first | assumption | omega) only [Option.bind_some, Sum.elim_inl]
    rw [ref_OrderChain_l2_eq (by omega), e7]
    simp (disch := first | assumption | omega) only [Option.bind_some, Sum.elim_inl, hq, h1, e2, e6, e5, h2]
    cases b <;> rfl) (by
    have e1 : (n : Int) - 1 - (n : Int) = -1 := by omega
    unfold ref_OrderChain_l3
    rw [e1, Nat.sub_self, List.drop_zero, all_chain _ (fun x => ⟨fun hx => sortTo_lt o n (Nat.le_refl n) x (List.mem_reverse.1 hx), fun hx => List.mem_reverse.2 (sortTo_all o hx)⟩)]
    simp (disch := first | assumption | omega) only [cond_false, dcF, length_cl]) (s0 := ([], (n : Int) - 1, List.replicate n [], ())) (by
    rw [Nat.sub_zero, List.drop_of_length_le (by rw [hslen]; exact Nat.le_refl n), rep_tab]
    show (_, (n : Int) - 1 - 0, _) = _
    rw [Int.sub_zero]; rfl)
  have e2 : IntKind.i64.wrap ((n : Int) - 1) = (n : Int) - 1 := wrap64 (by omega) (by omega)
  unfold ref_OrderChain
  simp (disch := first | assumption | omega) only [cond_true, Option.bind_some, Sum.elim_inl, dcT, Int.toNat_natCast, Bool.and_self, ref_OrderSorted_eq hf hl hn o, room24, e2, key]

end Go.Proofs.Tryd
