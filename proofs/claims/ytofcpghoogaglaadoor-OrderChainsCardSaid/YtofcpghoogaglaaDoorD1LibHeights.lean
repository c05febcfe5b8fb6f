/- Lemmas on functions of the program, by name: heights. -/
import Derived.Test.YtofcpghoogaglaaDoorD1Funs
import Derived.Test.YtofcpghoogaglaaDoorAbsSums
import Derived.Test.YtofcpghoogaglaaDoorD1LibSortf
namespace Go.Proofs.Tryd
open Go Go.Abs


/-! The program. -/
theorem int_max (a b : Nat) : (if ((a : Int) > (b : Int)) then (a : Int) else (b : Int)) = ((max b a : Nat) : Int) := by
  by_cases h : (a : Int) > (b : Int)
  · rw [if_pos h]; have : max b a = a := Nat.max_eq_right (by omega)
    rw [this]
  · rw [if_neg h]; have : max b a = b := Nat.max_eq_left (by omega)
    rw [this]

theorem order_climbs_l1_eq {n : Nat} {ws : List Nat} (hf : Fit ws) (hn : n ≤ 16) (hin : Inside n ws) (o : IsOrder n ws) {i : Nat} (hi : i < n) (g : Nat → Nat) (h0 : g i = 0) (hg : ∀ j, j < n → under ws i j = true → g j = upC n ws j) :
    loopM (order_climbs_l1 (i : Int)) (((dif (ws.getD i 0) (2 ^ i) : Nat) : Int), cl (tab n g), ()) = some (.inl (cl (tab n fun a => if a = i then upC n ws i else g a), ())) := by
  have hd : dif (ws.getD i 0) (2 ^ i) < 2 ^ n := Nat.lt_pow_two_of_testBit _ fun j hj => by
    rw [under_word]
    cases h : under ws i j
    · rfl
    · have := under_lt hin h; omega
  let M := fun k => maxN k fun j => if under ws i j = true then upC n ws j + 1 else 0
  have key := loopM_bits (f := order_climbs_l1 (i : Int)) n (fun k => (cl (tab n fun a => if a = i then M k else g a), ())) (.inl (cl (tab n fun a => if a = i then upC n ws i else g a), ())) hd (by omega) (fun r q h1 h2 h3 => by
    have hu : under ws i r = true := by rw [← under_word]; exact h2
    have hne : r ≠ i := fun e => by subst e; unfold under at hu; simp at hu
    have hup := upC_le n ws r
    have hM : M (r + 1) = max (M r) (upC n ws r + 1) := by
      show max _ (if under ws i r = true then upC n ws r + 1 else 0) = _
      rw [if_pos hu]
    unfold order_climbs_l1
    have g1 : (cl (tab n fun a => if a = i then M r else g a))[i]? = some ((M r : Nat) : Int) := by rw [cl_get, tab_get _ hi, if_pos rfl]; rfl
    have g2 : (cl (tab n fun a => if a = i then M r else g a))[r]? = some ((upC n ws r : Nat) : Int) := by rw [cl_get, tab_get _ h3, if_neg hne, hg r h3 hu]; rfl
    simp (disch := first | assumption | omega) only [cond_true, Option.bind_some, inB_T, Int.toNat_natCast, wrapS, length_cl, length_tab, nz_eq, tz_eq h1, clr_eq h1, g1, g2, int_max, cl_set, tab_set]
    refine congrArg (fun x => some (Sum.inl (_, cl x, ()))) (tab_congr fun a _ => ?_)
    by_cases e : a = i
    · rw [if_pos e, if_pos e, hM]
    · rw [if_neg e, if_neg e, if_neg e]) (fun r hr h2 => by
    have hu : under ws i r = false := by rw [← under_word]; exact h2
    have hM : M (r + 1) = M r := by
      show max _ (if under ws i r = true then upC n ws r + 1 else 0) = _
      rw [hu]; exact Nat.max_eq_left (Nat.zero_le _)
    rw [hM]) (by
    have : M n = upC n ws i := (upC_fix o hi).symm
    rw [this]; rfl)
  have e : (tab n fun a => if a = i then M 0 else g a) = tab n g := tab_congr fun a _ => by
    by_cases h : a = i
    · subst h; rw [if_pos rfl, h0]; rfl
    · rw [if_neg h]
  rw [e] at key
  exact key

theorem order_climbs_eq {n : Nat} {ws : List Nat} (hf : Fit ws) (hl : ws.length = n) (hn : n ≤ 16) (hin : Inside n ws) (o : IsOrder n ws) : order_climbs (((n : Int), cl ws, ()), ()) = some (cl (tab n (upC n ws)), ()) := by
  have hslen := sortTo_length n ws n
  let G := fun (d : List Nat) (a : Nat) => if d.contains a = true then upC n ws a else 0
  have key := loopM_sim (f := order_climbs_l2 (((n : Int), cl ws, ()), ()) (cl (sortTo n ws n), 0, ())) n (fun k => ((n : Int) - 1 - (k : Int), cl (tab n (G ((sortTo n ws n).drop (n - k)))), ())) (.inl (cl (tab n (upC n ws)), ())) (fun k hk => by
    obtain ⟨p, hp⟩ : ∃ p : Nat, n = p + k + 1 := ⟨n - k - 1, by omega⟩
    have hpn : p < n := by omega
    have e1 : (n : Int) - 1 - (k : Int) = (p : Int) := by omega
    have e2 : IntKind.i64.wrap ((p : Int) - 1) = (n : Int) - 1 - ((k + 1 : Nat) : Int) := by rw [wrap64 (by omega) (by omega)]; omega
    have e3 : n - k = p + 1 := by omega
    have e4 : n - (k + 1) = p := by omega
    have hi : (sortTo n ws n).getD p 0 < n := sortTo_lt o n (Nat.le_refl n) _ (List.mem_of_getElem? (getD_get (d := 0) (by rw [sortTo_length]; exact hpn)))
    have hw := fitD hf ((sortTo n ws n).getD p 0)
    have hd := dif_lt (b := 2 ^ (sortTo n ws n).getD p 0) hw
    rw [e1, e3, e4]
    unfold order_climbs_l2
    simp (disch := first | assumption | omega) only [cond_true, Option.bind_some, dcT, getI_cl, get_cl, inB_T, Int.toNat_natCast, length_cl, hslen, sets_One_eq (show (sortTo n ws n).getD p 0 < 32 by omega), not_u32 hw (two_pow_32 (show (sortTo n ws n).getD p 0 < 32 by omega)), wrap_u64 (lt_64 hd)]
    rw [order_climbs_l1_eq hf hn hin o hi (G ((sortTo n ws n).drop (p + 1))) (if_neg (by rw [List.contains_iff_mem]; exact sort_notin o hpn)) (fun j hj hu => if_pos (by rw [List.contains_iff_mem]; exact sort_above o hpn hj hu))]
    simp (disch := first | assumption | omega) only [Option.bind_some, Sum.elim_inl, e2]
    refine congrArg (fun x => some (Sum.inl (_, cl x, ()))) (tab_congr fun a _ => ?_)
    rw [sort_pos o hpn]
    show _ = if _ then _ else _
    rw [List.contains_cons]
    by_cases e : a = (sortTo n ws n).getD p 0
    · rw [if_pos e, e]; simp
    · have : (a == (sortTo n ws n).getD p 0) = false := by simpa using e
      rw [if_neg e, this, Bool.false_or]) (by
    have e1 : (n : Int) - 1 - (n : Int) = -1 := by omega
    unfold order_climbs_l2
    simp (disch := first | assumption | omega) only [cond_false, dcF, length_cl, e1]
    refine congrArg (fun x => some (Sum.inr (Sum.inl (cl x, ())))) (tab_congr fun a ha => ?_)
    show (if _ then _ else _) = _
    rw [Nat.sub_self, List.drop_zero, if_pos (by rw [List.contains_iff_mem]; exact sortTo_all o ha)]) (s0 := ((n : Int) - 1, cl (tab n fun _ => 0), ())) (by
    rw [Nat.sub_zero, List.drop_of_length_le (by rw [hslen]; exact Nat.le_refl n)]
    show ((n : Int) - 1 - 0, _) = _
    rw [Int.sub_zero]; rfl)
  have e2 : IntKind.i64.wrap ((n : Int) - 1) = (n : Int) - 1 := wrap64 (by omega) (by omega)
  have e3 : List.replicate n (0 : Int) = cl (tab n fun _ => 0) := by rw [cl_rep, rep_tab]
  unfold order_climbs
  simp (disch := first | assumption | omega) only [cond_true, Option.bind_some, Sum.elim_inl, dcT, Int.toNat_natCast, length_cl, room8, Bool.and_self, if_true, order_Sorted_eq hf, ordc_ok hl hn hin o, hslen, e2, e3, key]

theorem order_Heights_eq {N : Int} {ws : List Nat} (hf : Fit ws) : order_Heights ((N, cl ws, ()), ()) = some (if ordc N ws = 0 then (cl (tab N.toNat (upC N.toNat (downW N.toNat ws))), 0, ()) else ([], ordc N ws, ())) := by
  unfold order_Heights
  simp (disch := first | assumption | omega) only [Option.bind_some, order_Dual_eq hf]
  by_cases h : ordc N ws = 0
  · obtain ⟨h1, h2, h3, hin, o⟩ := ordc_zero h
    obtain ⟨n, rfl⟩ := Int.eq_ofNat_of_zero_le h1
    have hn : n ≤ 16 := by omega
    have o : IsOrder n ws := o
    simp (disch := first | assumption | omega) only [cond_false, Option.bind_some, Int.toNat_natCast, if_true, h, bneF, order_climbs_eq (fit_downW (ws := ws) hn) length_down hn inside_down (order_down o)]
  · simp (disch := first | assumption | omega) only [cond_true, if_false, h, bneT]

/-! The reference: heights that are raised until they stand. -/
def rlx (ws : List Nat) (i : Nat) : Nat → (Nat → Nat) → Nat → Nat
  | 0, h => h
  | k + 1, h => fun a => if a = i ∧ under ws k i = true ∧ rlx ws i k h i < rlx ws i k h k + 1 then rlx ws i k h k + 1 else rlx ws i k h a
def rly (n : Nat) (ws : List Nat) : Nat → (Nat → Nat) → Nat → Nat
  | 0, h => h
  | k + 1, h => rlx ws k n (rly n ws k h)
def rlz (n : Nat) (ws : List Nat) : Nat → Nat → Nat
  | 0 => fun _ => 0
  | t + 1 => rly n ws n (rlz n ws t)
/-- No height is too great. -/
def Low (n : Nat) (ws : List Nat) (h : Nat → Nat) : Prop := ∀ a, a < n → h a ≤ upC n (downW n ws) a
theorem under_down {n : Nat} {ws : List Nat} {i j : Nat} (hi : i < n) (hj : j < n) : under (downW n ws) i j = under ws j i := by
  unfold under; rw [below_down hi hj]
  by_cases h : i = j
  · subst h; rfl
  · rw [decide_eq_true h, decide_eq_true (Ne.symm h)]
theorem rlx_low {n : Nat} {ws : List Nat} (o : IsOrder n ws) {i : Nat} (hi : i < n) {h : Nat → Nat} (hl : Low n ws h) : ∀ k, k ≤ n → Low n ws (rlx ws i k h)
  | 0, _ => hl
  | k + 1, hk => fun a ha => by
    have ih := rlx_low o hi hl k (by omega)
    simp only [rlx]
    split
    · rename_i hc
      have h1 := ih k (by omega)
      have h2 := upC_step (order_down o) hi (show k < n by omega) (by rw [under_down hi (by omega)]; exact hc.2.1)
      rw [hc.1]; omega
    · exact ih a ha
theorem rlx_up {ws : List Nat} {i : Nat} {h : Nat → Nat} : ∀ k a, h a ≤ rlx ws i k h a
  | 0, a => Nat.le_refl _
  | k + 1, a => by
    have ih := rlx_up (ws := ws) (i := i) (h := h) k a
    simp only [rlx]
    split
    · rename_i hc; rw [hc.1] at ih; have := hc.2.2; rw [hc.1]; omega
    · exact ih
theorem rlx_hit {ws : List Nat} {i j : Nat} {h : Nat → Nat} (hu : under ws j i = true) : ∀ k, j < k → h j + 1 ≤ rlx ws i k h i
  | 0, hj => by omega
  | k + 1, hj => by
    have hji : h j ≤ rlx ws i k h j := rlx_up k j
    have e0 : rlx ws i (k + 1) h i = if i = i ∧ under ws k i = true ∧ rlx ws i k h i < rlx ws i k h k + 1 then rlx ws i k h k + 1 else rlx ws i k h i := rfl
    rw [e0]
    by_cases e : j = k
    · subst e
      by_cases hlt : rlx ws i j h i < rlx ws i j h j + 1
      · rw [if_pos ⟨rfl, hu, hlt⟩]; omega
      · rw [if_neg (fun c => hlt c.2.2)]; omega
    · have ih := rlx_hit (h := h) hu k (by omega)
      split
      · rename_i hc; have := hc.2.2; omega
      · exact ih
theorem rly_low {n : Nat} {ws : List Nat} (o : IsOrder n ws) {h : Nat → Nat} (hl : Low n ws h) : ∀ k, k ≤ n → Low n ws (rly n ws k h)
  | 0, _ => hl
  | k + 1, hk => rlx_low o (by omega) (rly_low o hl k (by omega)) n (Nat.le_refl n)
theorem rly_up {n : Nat} {ws : List Nat} {h : Nat → Nat} : ∀ k a, h a ≤ rly n ws k h a
  | 0, a => Nat.le_refl _
  | k + 1, a => Nat.le_trans (rly_up k a) (rlx_up n a)
theorem rly_hit {n : Nat} {ws : List Nat} {i j : Nat} {h : Nat → Nat} (hj : j < n) (hu : under ws j i = true) : ∀ k, i < k → h j + 1 ≤ rly n ws k h i
  | 0, hi => by omega
  | k + 1, hi => by
    by_cases e : i = k
    · subst e
      have h1 := rly_up (n := n) (ws := ws) (h := h) i j
      have h2 := rlx_hit (h := rly n ws i h) hu n hj
      show _ ≤ rlx ws i n (rly n ws i h) i
      omega
    · exact Nat.le_trans (rly_hit hj hu k (by omega)) (rlx_up n i)
theorem rlz_low {n : Nat} {ws : List Nat} (o : IsOrder n ws) : ∀ t, Low n ws (rlz n ws t)
  | 0 => fun a _ => Nat.zero_le _
  | t + 1 => rly_low o (rlz_low o t) n (Nat.le_refl n)
theorem rlz_at {n : Nat} {ws : List Nat} (o : IsOrder n ws) : ∀ t a, a < n → upC n (downW n ws) a ≤ t → upC n (downW n ws) a ≤ rlz n ws t a
  | 0, a, _, h => by omega
  | t + 1, a, ha, h => by
    cases e : upC n (downW n ws) a with
    | zero => exact Nat.zero_le _
    | succ m =>
      obtain ⟨j, hj, hu, hm⟩ := upC_next (order_down o) ha e
      rw [under_down ha hj] at hu
      have h1 := rlz_at o t j hj (by omega)
      have h2 := rly_hit (h := rlz n ws t) hj hu n ha
      show _ ≤ rly n ws n (rlz n ws t) a
      omega
theorem rlz_end {n : Nat} {ws : List Nat} (o : IsOrder n ws) {a : Nat} (ha : a < n) : rlz n ws n a = upC n (downW n ws) a :=
  Nat.le_antisymm (rlz_low o n a ha) (rlz_at o n a ha (upC_le n _ a))

theorem ref_OrderHeights_eq {n : Nat} {ws : List Nat} (hf : Fit ws) (hl : ws.length = n) (hn : n ≤ 16) (o : IsOrder n ws) : ref_OrderHeights (((n : Int), cl ws, ()), ()) = some (cl (tab n (upC n (downW n ws))), ()) := by
  have l1 : ∀ (i : Nat) (h : Nat → Nat) (y : List Int × Unit), i < n → Low n ws h → loopM (ref_OrderHeights_l1 (((n : Int), cl ws, ()), ()) ((i : Int), y)) (0, cl (tab n h), ()) = some (.inl (cl (tab n (rlx ws i n h)), ())) := fun i h y hi hlow => by
    refine loopM_sim (f := ref_OrderHeights_l1 (((n : Int), cl ws, ()), ()) ((i : Int), y)) n (fun k => ((k : Int), cl (tab n (rlx ws i k h)), ())) _ (fun j hj => ?_) ?_ rfl
    · have hb := rlx_low o hi hlow j (by omega)
      have h1 := hb i hi
      have h2 := hb j hj
      have h3 := upC_le n (downW n ws) i
      have h4 := upC_le n (downW n ws) j
      unfold ref_OrderHeights_l1
      simp (disch := first | assumption | omega) only [cond_true, Option.bind_some, dcT, inB_T, Int.toNat_natCast, wrapS, length_cl, length_tab, ref_Under_eq hf (show j < ws.length by omega) (show i < 2 ^ 64 by omega), get_clt]
      by_cases hu : under ws j i = true
      · by_cases hlt : rlx ws i j h i < rlx ws i j h j + 1
        · have e : decide (((rlx ws i j h i : Nat) : Int) < ((rlx ws i j h j + 1 : Nat) : Int)) = true := decide_eq_true (by omega)
          simp (disch := first | assumption | omega) only [cond_true, dcT, hu, cl_set, tab_set]
          refine congrArg (fun x => some (Sum.inl (_, cl x, ()))) (tab_congr fun a _ => ?_)
          simp only [rlx]
          by_cases ea : a = i
          · rw [if_pos ea, if_pos ⟨ea, hu, hlt⟩]
          · rw [if_neg ea, if_neg (fun c => ea c.1)]
        · have e : decide (((rlx ws i j h i : Nat) : Int) < ((rlx ws i j h j + 1 : Nat) : Int)) = false := decide_eq_false (by omega)
          simp (disch := first | assumption | omega) only [cond_true, cond_false, dcF, hu]
          refine congrArg (fun x => some (Sum.inl (_, cl x, ()))) (tab_congr fun a _ => ?_)
          simp only [rlx]
          rw [if_neg (fun c => hlt c.2.2)]
      · have hu' : under ws j i = false := by simpa using hu
        simp (disch := first | assumption | omega) only [cond_false, hu']
        refine congrArg (fun x => some (Sum.inl (_, cl x, ()))) (tab_congr fun a _ => ?_)
        simp only [rlx]
        rw [if_neg (fun c => hu c.2.1)]
    · unfold ref_OrderHeights_l1
      simp (disch := first | assumption | omega) only [cond_true, cond_false, dcF, inB_T, Int.toNat_natCast, wrapS, length_cl, length_tab]
  have l2 : ∀ (h : Nat → Nat), Low n ws h → loopM (ref_OrderHeights_l2 (((n : Int), cl ws, ()), ())) (0, cl (tab n h), ()) = some (.inl (cl (tab n (rly n ws n h)), ())) := fun h hlow => by
    refine loopM_sim (f := ref_OrderHeights_l2 (((n : Int), cl ws, ()), ())) n (fun k => ((k : Int), cl (tab n (rly n ws k h)), ())) _ (fun i hi => ?_) ?_ rfl
    · unfold ref_OrderHeights_l2
      simp (disch := first | assumption | omega) only [cond_true, Option.bind_some, Sum.elim_inl, dcT, wrapS, l1 i _ _ hi (rly_low o hlow i (by omega))]
      rfl
    · unfold ref_OrderHeights_l2
      simp (disch := first | assumption | omega) only [cond_false, dcF, wrapS]
  have l3 := loopM_sim (f := ref_OrderHeights_l3 (((n : Int), cl ws, ()), ())) n (fun k => ((k : Int), cl (tab n (rlz n ws k)), ())) (.inl (cl (tab n (rlz n ws n)), ())) (fun t ht => by
    unfold ref_OrderHeights_l3
    simp (disch := first | assumption | omega) only [cond_true, Option.bind_some, Sum.elim_inl, dcT, wrapS, l2 _ (rlz_low o t)]
    rfl) (by
    unfold ref_OrderHeights_l3
    simp (disch := first | assumption | omega) only [cond_false, dcF, wrapS]) (s0 := (0, cl (tab n fun _ => 0), ())) rfl
  have e3 : List.replicate n (0 : Int) = cl (tab n fun _ => 0) := by rw [cl_rep, rep_tab]
  unfold ref_OrderHeights
  simp (disch := first | assumption | omega) only [cond_true, Option.bind_some, Sum.elim_inl, dcT, Int.toNat_natCast, room8, Bool.and_self, e3, l3]
  exact congrArg (fun x => some (cl x, ())) (tab_congr fun a ha => rlz_end o ha)

end Go.Proofs.Tryd
