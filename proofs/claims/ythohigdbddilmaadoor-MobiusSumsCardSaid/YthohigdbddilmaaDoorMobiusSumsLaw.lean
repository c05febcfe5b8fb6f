/- The plain law of MobiusSums. -/
import Derived.Test.YthohigdbddilmaaDoorD2Funs
import Derived.Test.YthohigdbddilmaaDoorAbsSums
import Derived.Test.YthohigdbddilmaaDoorD2LibZeta
import Derived.Test.YthohigdbddilmaaDoorD2LibLongs
import Derived.Test.YthohigdbddilmaaDoorD2LibWords
import Derived.Test.YthohigdbddilmaaDoorD2LibUnder
namespace Go.Proofs.Tryd
open Go Go.Abs


/-- A word's bits: each place of the table that they name is turned; what they do not name stays. -/
theorem into_tab2 {α : Type} {f : Int × List α × Unit → Option ((Int × List α × Unit) ⊕ ((List α × Unit) ⊕ Empty))} {n : Nat} {w : Nat} (hw : w < 2 ^ 32) (hin : ∀ j, w.testBit j = true → j < n) (G : Nat → α → α) (g : Nat → α)
    (h : ∀ r q (g' : Nat → α), 2 ^ r * (2 * q + 1) < 2 ^ 64 → w.testBit r = true → r < n → g' r = g r → (∀ j, w.testBit j = false → g' j = g j) → f (((2 ^ r * (2 * q + 1) : Nat) : Int), tab n g', ()) = some (.inl (((2 ^ r * (2 * q) : Nat) : Int), (tab n g').set r (G r (g r)), ())))
    (hend : ∀ l, f (0, l, ()) = some (.inr (.inl (l, ())))) :
    loopM f ((w : Int), tab n g, ()) = some (.inl (tab n fun j => if w.testBit j = true then G j (g j) else g j, ())) := by
  have step : ∀ k j, (if (decide (j < k + 1) && w.testBit j) = true then G j (g j) else g j) = if j = k then (if w.testBit j = true then G j (g j) else g j) else if (decide (j < k) && w.testBit j) = true then G j (g j) else g j := fun k j => by
    by_cases h : j = k
    · subst h; simp
    · have : decide (j < k + 1) = decide (j < k) := by simp; omega
      rw [this, if_neg h]
  have key := loopM_bits (f := f) (v := w) 32 (fun k => (tab n fun j => if (decide (j < k) && w.testBit j) = true then G j (g j) else g j, ())) (.inl (tab n fun j => if w.testBit j = true then G j (g j) else g j, ())) hw (by decide) (fun r q h1 h2 h3 => ?_) (fun r _ h2 => ?_) ?_
  · simpa using key
  · have hr := hin r h2
    rw [h r q _ h1 h2 hr (by simp) (fun j hj => by simp [hj]), tab_set]
    refine congrArg (fun x => some (Sum.inl (_, x, ()))) (tab_congr fun j _ => ?_)
    rw [step]
    by_cases e : j = r
    · subst e; simp [h2]
    · simp [e]
  · refine congrArg (fun x => (x, ())) (tab_congr fun j _ => ?_)
    rw [step]
    by_cases e : j = r
    · subst e; simp [h2]
    · simp [e]
  · rw [hend]
    refine congrArg (fun x => some (Sum.inr (Sum.inl (x, ())))) (tab_congr fun j _ => ?_)
    cases h : w.testBit j
    · simp
    · have := bit_lt hw h; simp [this]

/-- What all below an element come to. -/
def sumB (n : Nat) (ws : List Nat) (v : List Int) (b : Nat) : Int := sumI n fun a => if below ws a b = true then v.getD a 0 else 0
/-- Of what these are the sums. -/
def unS (n : Nat) (ws : List Nat) (v : List Int) (b : Nat) : Int := sumI n fun a => v.getD a 0 * G2 n ws (sq n (zetaE ws)) a b
theorem g2_zeta {n : Nat} {ws : List Nat} (o : IsOrder n ws) {a b : Nat} (ha : a < n) (hb : b < n) : G2 n ws (sq n (zetaE ws)) a b = (if a = b then 1 else 0) - sumI n fun k => if under ws k b = true then G2 n ws (sq n (zetaE ws)) a k else 0 := by
  have ed : ∀ i, i < n → ent n (sq n (zetaE ws)) i i = 1 := fun i hi => by
    rw [ent_sq _ hi hi]; unfold zetaE; rw [o.refl i hi]; rfl
  rw [G2_fix o _ hb]
  by_cases h : a = b
  · subst h
    rw [if_pos rfl, if_pos rfl, ed a ha, sumI_none fun k hk => ?_]
    · rfl
    · split
      · rename_i hu
        refine G2_off o _ ha hk ?_
        cases hak : below ws a k
        · rfl
        · have := o.anti a k ha hk (Ne.symm (under_iff.1 hu).1) hak
          rw [(under_iff.1 hu).2] at this; cases this
      · rfl
  · rw [if_neg h, if_neg h, ed b hb, Int.mul_one, Int.zero_sub]
    refine congrArg (fun x => - x) (sumI_congr fun k hk => ?_)
    split
    · rename_i hu
      rw [ent_sq _ hk hb]
      unfold zetaE
      rw [(under_iff.1 hu).2, if_pos rfl, Int.mul_one]
    · rfl
theorem unS_fix {n : Nat} {ws : List Nat} (o : IsOrder n ws) (v : List Int) {b : Nat} (hb : b < n) : unS n ws v b = v.getD b 0 - sumI n fun k => if under ws k b = true then unS n ws v k else 0 := by
  have e : ∀ a, a < n → v.getD a 0 * G2 n ws (sq n (zetaE ws)) a b = (if a = b then v.getD a 0 else 0) + - sumI n fun k => if under ws k b = true then v.getD a 0 * G2 n ws (sq n (zetaE ws)) a k else 0 := fun a ha => by
    rw [g2_zeta o ha hb, Int.mul_sub, Int.sub_eq_add_neg, ← sumI_mul]
    refine congr (congrArg _ ?_) (congrArg _ (sumI_congr fun k _ => ?_))
    · split <;> simp
    · split <;> simp
  unfold unS
  rw [sumI_congr e, sumI_add, sumI_neg, sumI_one (fun a => v.getD a 0), if_pos hb, sumI_swap, Int.sub_eq_add_neg]
  refine congrArg (fun x => v.getD b 0 + - x) (sumI_congr fun k _ => ?_)
  split
  · rfl
  · exact sumI_zero n

/-- The program's state behind some elements. -/
def unM (n : Nat) (ws : List Nat) (v : List Int) (l : List Nat) (b : Nat) : Int := v.getD b 0 - sumI n fun k => if (l.contains k && under ws k b) = true then unS n ws v k else 0
theorem unM_end {n : Nat} {ws : List Nat} (o : IsOrder n ws) (v : List Int) {l : List Nat} {b : Nat} (hb : b < n) (h : ∀ k, k < n → under ws k b = true → l.contains k = true) : unM n ws v l b = unS n ws v b := by
  rw [unS_fix o v hb]
  unfold unM
  refine congrArg (fun x => v.getD b 0 - x) (sumI_congr fun k hk => ?_)
  cases hu : under ws k b
  · rw [Bool.and_false]
  · rw [h k hk hu]; rfl
theorem unM_snoc {n : Nat} {ws : List Nat} (v : List Int) {l : List Nat} {a b : Nat} (ha : a < n) (hn : l.contains a = false) : unM n ws v (l ++ [a]) b = if under ws a b = true then unM n ws v l b - unS n ws v a else unM n ws v l b := by
  have e : ∀ k, (if ((l ++ [a]).contains k && under ws k b) = true then unS n ws v k else 0) = if k = a then (if under ws a b = true then unS n ws v a else 0) else (if (l.contains k && under ws k b) = true then unS n ws v k else 0) := fun k => by
    by_cases h : k = a
    · subst h
      rw [if_pos rfl, show (l ++ [k]).contains k = true by simp, Bool.true_and]
    · rw [if_neg h, show (l ++ [a]).contains k = l.contains k by simp [h]]
  unfold unM
  rw [sumI_congr fun k _ => e k, sum_pick ha _ (fun k => if (l.contains k && under ws k b) = true then unS n ws v k else 0) (by rw [hn]; rfl)]
  split <;> omega

section
variable {n : Nat} {ws : List Nat} {v : List Int} (hf : Fit ws) (hl : ws.length = n) (hn : n ≤ 16) (hv : v.length = n)
include hv in
theorem mobius_Sums_l1_eq {w i : Nat} (hw : w < 2 ^ 32) (hin : ∀ j, w.testBit j = true → j < n) (hi : i < n) (g : Nat → Int) (y : List Int × Unit) (c : Int × List Int × Unit) :
    loopM (mobius_Sums_l1 (c, v, ()) ((i : Int), y)) ((w : Int), tab n g, ()) = some (.inl (tab n fun j => if w.testBit j = true then V64 (g j + v.getD i 0) else g j, ())) :=
  into_tab hw hin (fun _ x => V64 (x + v.getD i 0)) g (fun r q g' h1 h2 h3 h4 => by
    unfold mobius_Sums_l1
    simp (disch := first | assumption | omega) only [cond_true, Option.bind_some, get_tab, inB_T, Int.toNat_natCast, length_tab, nz_eq, tz_eq h1, clr_eq h1, getI_int, h4]) (fun l => rfl)
include hf hl hn hv in
theorem mobius_Sums_l2_eq (hin : Inside n ws) : loopM (mobius_Sums_l2 (((n : Int), cl ws, ()), v, ())) (0, tab n (fun _ => 0), ()) = some (.inl (tab n fun b => V64 (sumB n ws v b), ())) := by
  refine loopM_sim (f := mobius_Sums_l2 (((n : Int), cl ws, ()), v, ())) n (fun k => ((k : Int), tab n (fun b => V64 (sumI k fun a => if below ws a b = true then v.getD a 0 else 0)), ())) _ (fun i hi => ?_) ?_ rfl
  · have hw := fitD hf i
    unfold mobius_Sums_l2
    simp (disch := first | assumption | omega) only [cond_true, Option.bind_some, Sum.elim_inl, dcT, getI_cl, wrapS, length_cl, wrap_u64 (lt_64 hw), mobius_Sums_l1_eq hv hw (fun j hj => insideD hin hj) hi]
    refine congrArg (fun x => some (Sum.inl (_, x, ()))) (tab_congr fun j _ => ?_)
    show (if below ws i j = true then _ else _) = _
    by_cases hu : below ws i j = true <;> simp [sumI, V64, wrap_addL, hu]
  · unfold mobius_Sums_l2
    simp (disch := first | assumption | omega) only [cond_false, dcF, wrapS, length_cl]
    rfl
theorem mobius_Undo_l1_eq {w a : Nat} (hw : w < 2 ^ 32) (hin : ∀ j, w.testBit j = true → j < n) (ha : a < n) (hwa : w.testBit a = false) (g : Nat → Int) :
    loopM (mobius_Undo_l1 (a : Int)) ((w : Int), tab n g, ()) = some (.inl (tab n fun j => if w.testBit j = true then V64 (g j - g a) else g j, ())) :=
  into_tab2 hw hin (fun _ x => V64 (x - g a)) g (fun r q g' h1 h2 h3 h4 h5 => by
    have h6 := h5 a hwa
    unfold mobius_Undo_l1
    simp (disch := first | assumption | omega) only [cond_true, Option.bind_some, get_tab, inB_T, Int.toNat_natCast, length_tab, nz_eq, tz_eq h1, clr_eq h1, h4, h6]) (fun l => rfl)
include hf hl hn hv in
theorem mobius_Undo_l2_eq (hin : Inside n ws) (o : IsOrder n ws) (hr : ∀ i, i < n → V64 (v.getD i 0) = v.getD i 0) (c : Int) : loopM (mobius_Undo_l2 (((n : Int), cl ws, ()), v, ()) (cl (sortTo n ws n), c, ())) (0, v, ()) = some (.inl (tab n fun b => V64 (unS n ws v b), ())) := by
  refine loopM_sim (f := mobius_Undo_l2 (((n : Int), cl ws, ()), v, ()) (cl (sortTo n ws n), c, ())) n (fun p => ((p : Int), tab n (fun b => V64 (unM n ws v (sortTo n ws p) b)), ())) _ (fun p hp => ?_) ?_ ?_
  · have hsl := sortTo_length n ws n
    have hg := sortTo_get o hp
    have hnext : sortTo n ws (p + 1) = sortTo n ws p ++ [(sortTo n ws n).getD p 0] := by rw [sortTo, hg]; rfl
    generalize ea : (sortTo n ws n).getD p 0 = a at hg hnext
    obtain ⟨ha, hnot, hbel⟩ := next_ready hg
    have hw := fitD hf a
    have hd := dif_lt (b := 2 ^ a) hw
    unfold mobius_Undo_l2
    simp (disch := first | assumption | omega) only [cond_true, Option.bind_some, Sum.elim_inl, dcT, getI_cl, get_cl, inB_T, Int.toNat_natCast, wrapS, length_cl, ea, sets_One_eq (show a < 32 by omega), not_u32 hw (two_pow_32 (show a < 32 by omega)), wrap_u64 (lt_64 hd), mobius_Undo_l1_eq hd (fun j hj => under_lt hin (by rw [← under_word]; exact hj)) ha (by rw [under_word]; unfold under; simp)]
    refine congrArg (fun x => some (Sum.inl (_, x, ()))) (tab_congr fun j _ => ?_)
    rw [under_word, hnext, unM_snoc v ha hnot, unM_end o v (l := sortTo n ws p) ha hbel]
    by_cases hu : under ws a j = true
    · rw [if_pos hu, if_pos hu]
      show IntKind.i64.wrap _ = IntKind.i64.wrap _
      rw [wrap_subL, wrap_subR]
    · rw [if_neg hu, if_neg hu]
  · have hsl := sortTo_length n ws n
    unfold mobius_Undo_l2
    simp (disch := first | assumption | omega) only [cond_false, dcF, Int.toNat_natCast, wrapS, length_cl]
    refine congrArg (fun x => some (Sum.inr (Sum.inl (x, ())))) (tab_congr fun j hj => ?_)
    rw [unM_end o v hj fun k hk _ => List.contains_iff_mem.2 (sortTo_all o hk)]
  · have e : (tab n fun b => V64 (unM n ws v (sortTo n ws 0) b)) = v := by
      refine List.ext_getElem? fun i => ?_
      by_cases hi : i < n
      · rw [tab_get _ hi]
        have : unM n ws v (sortTo n ws 0) i = v.getD i 0 := by
          unfold unM
          rw [sumI_none fun k _ => by rw [sortTo]; rfl, Int.sub_zero]
        rw [this, hr i hi, getD_get (d := 0) (by omega)]
      · rw [List.getElem?_eq_none (by rw [tab_length]; omega), List.getElem?_eq_none (by omega)]
    rw [e]; rfl
include hf hl hn hv in
theorem ref_MobiusSums_eq : ref_MobiusSums (((n : Int), cl ws, ()), v, ()) = some (tab n fun b => V64 (sumB n ws v b), ()) := by
  have l1 : ∀ (b : Nat) (y : List Int), b < n → loopM (ref_MobiusSums_l1 (((n : Int), cl ws, ()), v, ()) (y, (b : Int), ())) (0, 0, ()) = some (.inl (V64 (sumB n ws v b), ())) := fun b y hb => by
    refine loopM_sim (f := ref_MobiusSums_l1 (((n : Int), cl ws, ()), v, ()) (y, (b : Int), ())) n (fun k => (V64 (sumI k fun a => if below ws a b = true then v.getD a 0 else 0), (k : Int), ())) _ (fun a ha => ?_) ?_ rfl
    · unfold ref_MobiusSums_l1
      simp (disch := first | assumption | omega) only [cond_true, Option.bind_some, dcT, wrapS, ref_Below_eq hf (show a < ws.length by omega) (show b < 2 ^ 64 by omega), getI_int]
      rw [sumI]
      cases hu : below ws a b
      · simp (disch := first | assumption | omega) only [cond_false, Bool.false_eq_true, if_false, Int.add_zero]
      · simp (disch := first | assumption | omega) only [cond_true, if_true, wrap_addL]
    · unfold ref_MobiusSums_l1
      simp (disch := first | assumption | omega) only [cond_false, dcF, wrapS]
      rfl
  have l2 := loopM_sim (f := ref_MobiusSums_l2 (((n : Int), cl ws, ()), v, ())) n (fun k => (tab k (fun b => V64 (sumB n ws v b)), (k : Int), ())) (.inl (tab n fun b => V64 (sumB n ws v b), ())) (fun b hb => by
    unfold ref_MobiusSums_l2
    rw [tab_succ]
    simp (disch := first | assumption | omega) only [cond_true, Option.bind_some, Sum.elim_inl, dcT, wrapS, length_tab, List.length_cons, List.length_nil, room8, Bool.and_self, l1 b _ hb]) (by
    unfold ref_MobiusSums_l2
    simp (disch := first | assumption | omega) only [cond_true, cond_false, dcF, wrapS, length_tab, List.length_cons, List.length_nil, room8, Bool.and_self]) (s0 := ([], 0, ())) rfl
  unfold ref_MobiusSums
  simp (disch := first | assumption | omega) only [Option.bind_some, Sum.elim_inl, l2]
include hf hl hn hv in
theorem ref_MobiusUndo_eq (o : IsOrder n ws) : ref_MobiusUndo (((n : Int), cl ws, ()), v, ()) = some (tab n fun b => V64 (unS n ws v b), ()) := by
  have hsq := sq_le hn
  let r2 : List Int × Bool × Unit := (sq n (fun a b => V64 (G2 n ws (sq n (zetaE ws)) a b)), true, ())
  have l1 : ∀ (b : Nat) (y : List Int), b < n → loopM (ref_MobiusUndo_l1 (((n : Int), cl ws, ()), v, ()) r2 (y, (b : Int), ())) (0, 0, ()) = some (.inl (V64 (unS n ws v b), ())) := fun b y hb => by
    refine loopM_sim (f := ref_MobiusUndo_l1 (((n : Int), cl ws, ()), v, ()) r2 (y, (b : Int), ())) n (fun k => (V64 (sumI k fun a => v.getD a 0 * G2 n ws (sq n (zetaE ws)) a b), (k : Int), ())) _ (fun a ha => ?_) ?_ rfl
    · unfold ref_MobiusUndo_l1
      simp (disch := first | assumption | omega) only [cond_true, Option.bind_some, dcT, wrapS, getI_int, idx_wrap ha hb hn, r2, sq_getI _ ha hb, sumI]
      show some (Sum.inl (IntKind.i64.wrap (IntKind.i64.wrap _ + IntKind.i64.wrap (_ * IntKind.i64.wrap _)), _)) = some (Sum.inl (IntKind.i64.wrap _, _))
      rw [wrap_addL, wrap_addR, ← wrap_addR, wrap_mulR, wrap_addR]
    · unfold ref_MobiusUndo_l1
      simp (disch := first | assumption | omega) only [cond_false, dcF, wrapS]
      rfl
  have l2 := loopM_sim (f := ref_MobiusUndo_l2 (((n : Int), cl ws, ()), v, ()) r2) n (fun k => (tab k (fun b => V64 (unS n ws v b)), (k : Int), ())) (.inl (tab n fun b => V64 (unS n ws v b), ())) (fun b hb => by
    unfold ref_MobiusUndo_l2
    rw [tab_succ]
    simp (disch := first | assumption | omega) only [cond_true, Option.bind_some, Sum.elim_inl, dcT, wrapS, length_tab, List.length_cons, List.length_nil, room8, Bool.and_self, l1 b _ hb]) (by
    unfold ref_MobiusUndo_l2
    simp (disch := first | assumption | omega) only [cond_true, cond_false, dcF, wrapS, length_tab, List.length_cons, List.length_nil, room8, Bool.and_self]) (s0 := ([], 0, ())) rfl
  unfold ref_MobiusUndo
  simp (disch := first | assumption | omega) only [cond_true, Option.bind_some, ref_MobiusZeta_eq hf hl hn, ref_MobiusInverse_eq hf hl hn o (zeta_tab n ws).1, zeta_diag o]
  show (loopM (ref_MobiusUndo_l2 (((n : Int), cl ws, ()), v, ()) r2) _).bind _ = _
  simp (disch := first | assumption | omega) only [Option.bind_some, Sum.elim_inl, l2]
end

noncomputable def sumc (N : Int) (ws : List Nat) (v : List Int) : Int := if ordc N ws = 0 then (if (v.length : Int) = N then 0 else 2) else ordc N ws
theorem mobius_Sums_eq {N : Int} {ws : List Nat} (hf : Fit ws) (v : List Int) : mobius_Sums ((N, cl ws, ()), v, ()) = some (if sumc N ws v = 0 then (tab N.toNat fun b => V64 (sumB N.toNat ws v b), 0, ()) else ([], sumc N ws v, ())) := by
  unfold mobius_Sums sumc
  simp (disch := first | assumption | omega) only [Option.bind_some, dcT, Bool.and_true, order_Check_eq hf]
  by_cases h : ordc N ws = 0
  · obtain ⟨h1, h2, h3, hin, o⟩ := ordc_zero h
    obtain ⟨n, rfl⟩ := Int.eq_ofNat_of_zero_le h1
    have hl : ws.length = n := by omega
    have hn : n ≤ 16 := by omega
    have hin : Inside n ws := hin
    by_cases hv : (v.length : Int) = (n : Int)
    · have hv' : v.length = n := by omega
      simp (disch := first | assumption | omega) only [cond_true, cond_false, Option.bind_some, Sum.elim_inl, dcT, Int.toNat_natCast, room8, Bool.and_self, if_true, h, hv, bneF, rep_tab, mobius_Sums_l2_eq hf hl hn hv' hin]
    · simp (disch := first | assumption | omega) only [cond_true, cond_false, dcT, Int.toNat_natCast, room8, Bool.and_self, if_true, if_false, h, hv, bneF, bneT] <;> rfl
  · simp (disch := first | assumption | omega) only [cond_true, if_false, h, bneT]
theorem mobius_Undo_eq {N : Int} {ws : List Nat} (hf : Fit ws) {v : List Int} (hr : ∀ i, i < v.length → V64 (v.getD i 0) = v.getD i 0) : mobius_Undo ((N, cl ws, ()), v, ()) = some (if sumc N ws v = 0 then (tab N.toNat fun b => V64 (unS N.toNat ws v b), 0, ()) else ([], sumc N ws v, ())) := by
  unfold mobius_Undo sumc
  simp (disch := first | assumption | omega) only [Option.bind_some, dcT, List.length_replicate, Bool.and_true, order_Check_eq hf]
  by_cases h : ordc N ws = 0
  · obtain ⟨h1, h2, h3, hin, o⟩ := ordc_zero h
    obtain ⟨n, rfl⟩ := Int.eq_ofNat_of_zero_le h1
    have hl : ws.length = n := by omega
    have hn : n ≤ 16 := by omega
    have hin : Inside n ws := hin
    have o : IsOrder n ws := o
    by_cases hv : (v.length : Int) = (n : Int)
    · have hv' : v.length = n := by omega
      have e : v.take n ++ (List.replicate n (0 : Int)).drop v.length = v := by
        rw [List.take_of_length_le (by omega), List.drop_of_length_le (by rw [List.length_replicate]; omega), List.append_nil]
      simp (disch := first | assumption | omega) only [cond_true, cond_false, Option.bind_some, Sum.elim_inl, dcT, Int.toNat_natCast, room8, Bool.and_self, if_true, h, hv, bneF, e, order_Sorted_eq hf, mobius_Undo_l2_eq hf hl hn hv' hin o (fun i hi => hr i (by omega))]
    · simp (disch := first | assumption | omega) only [cond_true, cond_false, dcT, Int.toNat_natCast, room8, Bool.and_self, if_true, if_false, h, hv, bneF, bneT] <;> rfl
  · simp (disch := first | assumption | omega) only [cond_true, if_false, h, bneT]

/-- THE LAW. -/
theorem mobiusSums {N : Int} {ws : List Nat} (hf : Fit ws) {v : List Int} (hr : ∀ i, i < v.length → V64 (v.getD i 0) = v.getD i 0) : law_MobiusSums ((N, cl ws, ()), v, ()) = some (true, ()) := by
  unfold law_MobiusSums
  simp (disch := first | assumption | omega) only [Option.bind_some, Sum.elim_inl, mobius_Sums_eq hf, mobius_Undo_eq hf hr, ref_OrderCheck_eq hf]
  unfold sumc
  by_cases h : ordc N ws = 0
  · obtain ⟨h1, h2, h3, hin, o⟩ := ordc_zero h
    obtain ⟨n, rfl⟩ := Int.eq_ofNat_of_zero_le h1
    have hl : ws.length = n := by omega
    have hn : n ≤ 16 := by omega
    have o : IsOrder n ws := o
    by_cases hv : (v.length : Int) = (n : Int)
    · have hv' : v.length = n := by omega
      simp (disch := first | assumption | omega) only [cond_true, cond_false, Option.bind_some, Sum.elim_inl, Int.toNat_natCast, length_tab, if_true, h, hv, bneF, beqT, ref_MobiusSums_eq hf hl hn hv', ref_MobiusUndo_eq hf hl hn hv' o]
      rw [ref_Longs_same (by rw [tab_length]; omega), ref_Longs_same (by rw [tab_length]; omega)]
      rfl
    · simp (disch := first | assumption | omega) only [cond_true, cond_false, Option.bind_some, Sum.elim_inl, Int.toNat_natCast, if_true, if_false, h, hv, bneF, bneT, beqT] <;> rfl
  · simp (disch := first | assumption | omega) only [cond_true, cond_false, List.length_nil, if_false, h, bneT, beqT, beqF] <;> rfl

theorem mobiusSums_law (x : ADen sp3.args) (h : WfA sp3.args x) : law_MobiusSums x = some (true, ()) := by
  obtain ⟨⟨N, l, ⟨⟩⟩, v, ⟨⟩⟩ := x
  obtain ⟨ws, rfl, hf⟩ := words_of h.1.2.1
  refine mobiusSums hf fun i hi => ?_
  have hw : (Lit.int .i64 (v.getD i 0)).wf = true := h.2.1.2 _ (List.mem_of_getElem? (getD_get (d := 0) hi))
  have hm : IntKind.i64.min = -9223372036854775808 := rfl
  rw [List.getD_eq_getElem?_getD] at hw ⊢
  simp only [Lit.wf, hm, Bool.and_eq_true, decide_eq_true_eq] at hw
  have hM : IntKind.i64.max = 9223372036854775807 := rfl
  exact wrap64 (by omega) (by omega)

end Go.Proofs.Tryd
