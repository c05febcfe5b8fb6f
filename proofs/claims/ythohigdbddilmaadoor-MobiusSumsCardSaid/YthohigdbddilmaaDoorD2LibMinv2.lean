/- Lemmas on functions of the program, by name: minv2. -/
import Derived.Test.YthohigdbddilmaaDoorD2Funs
import Derived.Test.YthohigdbddilmaaDoorAbsSums
import Derived.Test.YthohigdbddilmaaDoorD2LibMinv
namespace Go.Proofs.Tryd
open Go Go.Abs


/-- Has every element's own entry an inverse? -/
def diagB (n : Nat) (ws : List Nat) (f : List Int) : Bool := (List.range n).all fun a => unit1 (ent n f a a)
/-- A row as it is made: what is done of it below k. -/
def rowM (n : Nat) (ws : List Nat) (f : List Int) (a k b : Nat) : Int := (if a = b then ent n f a a else 0) - ent n f a a * sumI k fun j => if under ws a j = true then ent n f a j * G1 n ws f j b else 0
theorem rowM_end {n : Nat} {ws : List Nat} (o : IsOrder n ws) (f : List Int) {a b : Nat} (ha : a < n) (hb : b < n) : rowM n ws f a n b = G1 n ws f a b := by
  unfold rowM
  by_cases h : a = b
  · subst h
    rw [if_pos rfl, G1_fix o f ha, if_pos rfl, sumI_none fun k hk => ?_]
    · simp
    · split
      · rename_i hak
        rw [G1_off o f hk ha (o.anti a k ha hk (under_iff.1 hak).1 (under_iff.1 hak).2), Int.mul_zero]
      · rfl
  · rw [if_neg h, G1_fix o f ha (b := b), if_neg h]; omega
theorem rowM_succ {n : Nat} {ws : List Nat} (f : List Int) {a k b : Nat} : rowM n ws f a (k + 1) b = if under ws a k = true then rowM n ws f a k b - ent n f a a * (ent n f a k * G1 n ws f k b) else rowM n ws f a k b := by
  unfold rowM
  rw [sumI]
  by_cases hu : under ws a k = true
  · rw [if_pos hu, if_pos hu, Int.mul_add]; omega
  · rw [if_neg hu, if_neg hu, Int.add_zero]

theorem mobius_Inverse_l2_eq {n : Nat} {ws : List Nat} (hf : Fit ws) (hn : n ≤ 16) (hin : Inside n ws) (o : IsOrder n ws) {f : List Int} (t : IsTab n ws f) (x : (Int × List Int × Unit) × List Int × Unit) (hx : x.1.1 = (n : Int)) {a k : Nat} (ha : a < n) (hk : k < n) (hu : under ws a k = true) (P : Nat → Nat → Int) (hP : ∀ b, b < n → P k b = V64 (G1 n ws f k b)) (hR : ∀ b, b < n → P a b = V64 (rowM n ws f a k b)) :
    loopM (mobius_Inverse_l2 x (a : Int) (((n : Int), f, ()), true, ()) ((k : Int), ()) (ent n f a a)) (((ws.getD k 0 : Nat) : Int), sq n P, ()) =
      some (.inl (sq n fun a' b' => if a' = a then V64 (rowM n ws f a (k + 1) b') else P a' b', ())) := by
  have hne : k ≠ a := fun e => by subst e; unfold under at hu; simp at hu
  have key := into_row (f := mobius_Inverse_l2 x (a : Int) (((n : Int), f, ()), true, ()) ((k : Int), ()) (ent n f a a)) (fitD hf k) (fun j hj => insideD hin hj) ha (fun b v => V64 (v - ent n f a a * (ent n f a k * G1 n ws f k b))) P (fun r q G' h1 h2 h3 h4 h5 => by
    have hsq := sq_le hn
    have e1 : G' k r = V64 (G1 n ws f k r) := by rw [h5 k r hne, hP r h3]
    have e2 : V64 (P a r - ent n f a a * (ent n f a k * V64 (G1 n ws f k r))) = V64 (P a r - ent n f a a * (ent n f a k * G1 n ws f k r)) := by
      show IntKind.i64.wrap _ = IntKind.i64.wrap _
      rw [← Int.mul_assoc, ← Int.mul_assoc, ← wrap_subR, wrap_mulR, wrap_subR]
    unfold mobius_Inverse_l2
    rw [hx]
    simp (disch := first | assumption | omega) only [cond_true, Option.bind_some, Int.toNat_natCast, nz_eq, tz_eq h1, clr_eq h1, idx_wrap ha h3 hn, idx_wrap ha hk hn, idx_wrap hk h3 hn, sq_length, idx_inB ha h3, idx_inB hk h3, sq_get G' ha h3, sq_get G' hk h3, ent_getI t.1 ha hk, h4, e1, wrap_mulL, wrap_subR, Int.mul_assoc, e2]) (fun l => rfl)
  rw [key]
  refine congrArg (fun z => some (Sum.inl (z, ()))) (sq_congr fun a' b' ha' hb' => ?_)
  by_cases e : a' = a
  · subst e
    rw [if_pos rfl, rowM_succ, if_pos hu, hR b' hb']
    cases hb : (ws.getD k 0).testBit b'
    · rw [if_neg (by simp), G1_off o f hk hb' hb, Int.mul_zero, Int.mul_zero, Int.sub_zero]
    · rw [if_pos ⟨rfl, rfl⟩]; exact wrap_subL _ _ _
  · rw [if_neg e, if_neg (fun h => e h.1)]

theorem mobius_Inverse_l3_eq {n : Nat} {ws : List Nat} (hf : Fit ws) (hl : ws.length = n) (hn : n ≤ 16) (hin : Inside n ws) (o : IsOrder n ws) {f : List Int} (t : IsTab n ws f) {a : Nat} (ha : a < n) (P : Nat → Nat → Int) (hP : ∀ k b, k < n → b < n → under ws a k = true → P k b = V64 (G1 n ws f k b)) (h0 : ∀ b, b < n → P a b = V64 (if a = b then ent n f a a else 0)) :
    loopM (mobius_Inverse_l3 (((n : Int), cl ws, ()), f, ()) (a : Int) (((n : Int), f, ()), true, ()) (ent n f a a)) (((dif (ws.getD a 0) (2 ^ a) : Nat) : Int), sq n P, ()) =
      some (.inl (sq n fun a' b' => if a' = a then V64 (G1 n ws f a b') else P a' b', ())) := by
  have hd : dif (ws.getD a 0) (2 ^ a) < 2 ^ n := Nat.lt_pow_two_of_testBit _ fun j hj => by
    rw [under_word]
    cases h : under ws a j
    · rfl
    · have := under_lt hin h; omega
  have key := loopM_bits (f := mobius_Inverse_l3 (((n : Int), cl ws, ()), f, ()) (a : Int) (((n : Int), f, ()), true, ()) (ent n f a a)) n (fun k => (sq n fun a' b' => if a' = a then V64 (rowM n ws f a k b') else P a' b', ())) (.inl (sq n fun a' b' => if a' = a then V64 (G1 n ws f a b') else P a' b', ())) hd (by omega) (fun r q h1 h2 h3 => by
    have hu : under ws a r = true := by rw [← under_word]; exact h2
    have hne : r ≠ a := fun e => by subst e; unfold under at hu; simp at hu
    unfold mobius_Inverse_l3
    simp (disch := first | assumption | omega) only [cond_true, Option.bind_some, getI_cl, nz_eq, tz_eq h1, clr_eq h1, wrap_u64 (fitD64 hf r)]
    rw [mobius_Inverse_l2_eq hf hn hin o t (((n : Int), cl ws, ()), f, ()) rfl ha h3 hu _ (fun b hb => by rw [if_neg hne, hP r b h3 hb hu]) (fun b hb => if_pos rfl)]
    simp (disch := first | assumption | omega) only [Option.bind_some, Sum.elim_inl]
    refine congrArg (fun z => some (Sum.inl (_, z, ()))) (sq_congr fun a' b' _ _ => ?_)
    by_cases e : a' = a
    · rw [if_pos e, if_pos e]
    · rw [if_neg e, if_neg e, if_neg e]) (fun r _ h2 => by
    have hu : under ws a r = false := by rw [← under_word]; exact h2
    refine congrArg (fun z => (z, ())) (sq_congr fun a' b' _ _ => ?_)
    rw [rowM_succ, hu]; rfl) (by
    unfold mobius_Inverse_l3
    simp (disch := first | assumption | omega) only [cond_false, show ((0 : Int) != 0) = false from rfl]
    refine congrArg (fun z => some (Sum.inr (Sum.inl (z, ())))) (sq_congr fun a' b' _ hb' => ?_)
    rw [rowM_end o f ha hb'])
  have e : (sq n fun a' b' => if a' = a then V64 (rowM n ws f a 0 b') else P a' b') = sq n P := sq_congr fun a' b' _ hb' => by
    by_cases h : a' = a
    · subst h
      rw [if_pos rfl, h0 b' hb']
      unfold rowM
      rw [sumI, Int.mul_zero, Int.sub_zero]
    · rw [if_neg h]
  rw [e] at key
  exact key

theorem diag_bad {n : Nat} {ws : List Nat} {f : List Int} : ((List.range n).any fun a => !unit1 (ent n f a a)) = !diagB n ws f := by
  unfold diagB
  rw [List.not_all_eq_any_not]

open Classical in
theorem mobius_Inverse_eq {N : Int} {ws : List Nat} (hf : Fit ws) (f : List Int) : mobius_Inverse ((N, cl ws, ()), f, ()) =
    some (if ordc N ws = 0 then (if IsTab N.toNat ws f then cond (diagB N.toNat ws f) (sq N.toNat (fun a b => V64 (G1 N.toNat ws f a b)), 0, ()) ([], 5, ()) else ([], 2, ())) else ([], ordc N ws, ())) := by
  unfold mobius_Inverse
  simp (disch := first | assumption | omega) only [Option.bind_some, dcT, Bool.and_true, order_Check_eq hf]
  by_cases h : ordc N ws = 0
  · obtain ⟨h1, h2, h3, hin, o⟩ := ordc_zero h
    obtain ⟨n, rfl⟩ := Int.eq_ofNat_of_zero_le h1
    have hl : ws.length = n := by omega
    have hn : n ≤ 16 := by omega
    have o : IsOrder n ws := o
    have hin : Inside n ws := hin
    have hsq := sq_le hn
    simp only [Int.toNat_natCast]
    simp (disch := first | assumption | omega) only [cond_true, cond_false, Option.bind_some, dcT, Int.toNat_natCast, room8, Bool.and_self, if_true, h, bneF, mobius_table_eq hf hl hn, sq_wrap hn]
    by_cases t : IsTab n ws f
    · have l1 : loopM (mobius_Inverse_l1 (((n : Int), cl ws, ()), f, ()) (((n : Int), f, ()), true, ())) ([], 0, 0, ()) = some (((List.range n).findSome? fun a => cond (!unit1 (ent n f a a)) (some (.inl ([], 5, ()))) none).getD (.inr (.inl ([], 0, ())))) := by
        refine loopM_stop (f := mobius_Inverse_l1 (((n : Int), cl ws, ()), f, ()) (((n : Int), f, ()), true, ())) n (fun k => (([] : List Int), (0 : Int), (k : Int), ())) _ _ (fun a ha => ?_) ?_
        · unfold mobius_Inverse_l1
          simp (disch := first | assumption | omega) only [cond_true, Option.bind_some, dcT, wrapS, idx_wrap ha ha hn, ent_getI t.1 ha ha]
          unfold unit1
          by_cases e1 : ent n f a a = 1
          · simp (disch := first | assumption | omega) only [decide_true, cond_false, dcF, Bool.not_true, bneF, e1, Bool.true_or]
          · by_cases e2 : ent n f a a = -1
            · simp (disch := first | assumption | omega) only [decide_true, cond_true, cond_false, dcF, Bool.not_true, bneF, bneT, e2, Bool.or_true]
            · simp (disch := first | assumption | omega) only [decide_false, cond_true, Bool.not_false, bneT, e1, e2, Bool.or_false]
        · unfold mobius_Inverse_l1
          simp (disch := first | assumption | omega) only [cond_false, dcF, wrapS]
      simp (disch := first | assumption | omega) only [cond_false, Option.bind_some, Bool.not_true, if_true, t, l1]
      cases hd : diagB n ws f
      · rcases first_cases n (fun a => !unit1 (ent n f a a)) with ⟨a, ha, hb, -, he⟩ | ⟨hb, he⟩
        · rw [he]; rfl
        · exfalso
          have : diagB n ws f = true := by
            unfold diagB
            rw [List.all_eq_true]
            intro a ha
            have := hb a (List.mem_range.1 ha)
            simpa using this
          rw [hd] at this; cases this
      · have hall : ∀ a, a < n → unit1 (ent n f a a) = true := fun a ha => by
          unfold diagB at hd
          exact List.all_eq_true.1 hd a (List.mem_range.2 ha)
        rcases first_cases n (fun a => !unit1 (ent n f a a)) with ⟨a, ha, hb, -, he⟩ | ⟨hb, he⟩
        · exfalso
          rw [hall a ha] at hb; cases hb
        · have hslen := sortTo_length n ws n
          let G := fun (d : List Nat) (a b : Nat) => if d.contains a = true then V64 (G1 n ws f a b) else 0
          have key := loopM_sim (f := mobius_Inverse_l4 (((n : Int), cl ws, ()), f, ()) (cl (sortTo n ws n), 0, ()) (((n : Int), f, ()), true, ())) n (fun k => ((n : Int) - 1 - (k : Int), sq n (G ((sortTo n ws n).drop (n - k))), ())) (.inl (sq n fun a b => V64 (G1 n ws f a b), ())) (fun k hk => by
            obtain ⟨p, hp⟩ : ∃ p : Nat, n = p + k + 1 := ⟨n - k - 1, by omega⟩
            have hpn : p < n := by omega
            have e1 : (n : Int) - 1 - (k : Int) = (p : Int) := by omega
            have e2 : IntKind.i64.wrap ((p : Int) - 1) = (n : Int) - 1 - ((k + 1 : Nat) : Int) := by rw [wrap64 (by omega) (by omega)]; omega
            have e3 : n - k = p + 1 := by omega
            have e4 : n - (k + 1) = p := by omega
            have hi : (sortTo n ws n).getD p 0 < n := sortTo_lt o n (Nat.le_refl n) _ (List.mem_of_getElem? (getD_get (d := 0) (by rw [sortTo_length]; exact hpn)))
            have hw := fitD hf ((sortTo n ws n).getD p 0)
            have hd := dif_lt (b := 2 ^ (sortTo n ws n).getD p 0) hw
            have hni := sort_notin o hpn
            have hab : ∀ j, j < n → under ws ((sortTo n ws n).getD p 0) j = true → j ∈ (sortTo n ws n).drop (p + 1) := fun j hj hu => sort_above o hpn hj hu
            rw [e1, e3, e4, sort_pos o hpn]
            generalize hgi : (sortTo n ws n).getD p 0 = i at *
            unfold mobius_Inverse_l4
            simp (disch := first | assumption | omega) only [cond_true, Option.bind_some, dcT, getI_cl, get_cl, inB_T, Int.toNat_natCast, length_cl, hslen, hgi, idx_wrap hi hi hn, ent_getI t.1 hi hi, sq_length, idx_inB hi hi, sq_get _ hi hi, sets_One_eq (show i < 32 by omega), not_u32 hw (two_pow_32 (show i < 32 by omega)), wrap_u64 (lt_64 hd), sq_set _ hi hi]
            rw [mobius_Inverse_l3_eq hf hl hn hin o t hi _ (fun k b hk hb hu => by
              have hne : k ≠ i := fun e => by subst e; unfold under at hu; simp at hu
              rw [if_neg (fun c => hne c.1)]
              exact if_pos (by rw [List.contains_iff_mem]; exact hab k hk hu)) (fun b hb => by
              by_cases e : b = i
              · subst e
                rw [if_pos ⟨rfl, rfl⟩, if_pos rfl]
                have hu := hall b hb
                unfold unit1 at hu
                rw [Bool.or_eq_true, decide_eq_true_eq, decide_eq_true_eq] at hu
                rcases hu with hu | hu <;> rw [hu] <;> rfl
              · rw [if_neg (fun c => e c.2), if_neg (Ne.symm e)]
                exact if_neg (by rw [List.contains_iff_mem]; exact hni))]
            simp (disch := first | assumption | omega) only [Option.bind_some, Sum.elim_inl, e2]
            refine congrArg (fun z => some (Sum.inl (_, z, ()))) (sq_congr fun a' b' _ _ => ?_)
            show _ = if _ then _ else _
            rw [List.contains_cons]
            by_cases e : a' = i
            · rw [if_pos e, e]; simp
            · have : (a' == i) = false := by simpa using e
              rw [if_neg e, if_neg (fun c => e c.1), this, Bool.false_or]) (by
            have e1 : (n : Int) - 1 - (n : Int) = -1 := by omega
            unfold mobius_Inverse_l4
            simp (disch := first | assumption | omega) only [cond_false, dcF, length_cl, e1]
            refine congrArg (fun z => some (Sum.inr (Sum.inl (z, ())))) (sq_congr fun a b ha _ => ?_)
            show (if _ then _ else _) = _
            rw [Nat.sub_self, List.drop_zero, if_pos (by rw [List.contains_iff_mem]; exact sortTo_all o ha)]) (s0 := ((n : Int) - 1, sq n (fun _ _ => 0), ())) (by
            rw [Nat.sub_zero, List.drop_of_length_le (by rw [hslen]; exact Nat.le_refl n)]
            show ((n : Int) - 1 - 0, _) = _
            rw [Int.sub_zero]; rfl)
          have e2 : IntKind.i64.wrap ((n : Int) - 1) = (n : Int) - 1 := wrap64 (by omega) (by omega)
          rw [he]
          simp (disch := first | assumption | omega) only [cond_true, Option.bind_some, Sum.elim_inl, Sum.elim_inr, Int.toNat_natCast, length_cl, if_true, order_Sorted_eq hf, h, hslen, e2, rep_sq, key]
    · simp (disch := first | assumption | omega) only [cond_true, Bool.not_false, if_false, t]
  · simp (disch := first | assumption | omega) only [cond_true, if_false, h, bneT]

/-! The reference. -/
theorem ref_MobiusInverse_l2_eq {n : Nat} {ws : List Nat} (hf : Fit ws) (hl : ws.length = n) (hn : n ≤ 16) (o : IsOrder n ws) {f : List Int} (hlen : f.length = n * n) {a b : Nat} (ha : a < n) (hb : b < n) (P : Nat → Nat → Int) (hP : ∀ k, k < n → under ws k b = true → P a k = V64 (G2 n ws f a k)) (y : List Int × Unit) (c : Int) :
    loopM (ref_MobiusInverse_l2 (((n : Int), cl ws, ()), f, ()) ((a : Int), y) (b : Int) (c, sq n P, ())) (0, 0, ()) = some (.inl (V64 (sumI n fun k => if under ws k b = true then G2 n ws f a k * ent n f k b else 0), ())) := by
  have hsq := sq_le hn
  refine loopM_sim (f := ref_MobiusInverse_l2 (((n : Int), cl ws, ()), f, ()) ((a : Int), y) (b : Int) (c, sq n P, ())) n (fun m => (V64 (sumI m fun k => if under ws k b = true then G2 n ws f a k * ent n f k b else 0), (m : Int), ())) _ (fun k hk => ?_) ?_ rfl
  · unfold ref_MobiusInverse_l2
    simp (disch := first | assumption | omega) only [cond_true, Option.bind_some, dcT, Int.toNat_natCast, wrapS, ref_Below_eq hf (show a < ws.length by omega) (show k < 2 ^ 64 by omega), ref_Under_eq hf (show k < ws.length by omega) (show b < 2 ^ 64 by omega), idx_wrap ha hk hn, idx_wrap hk hb hn, sq_length, idx_inB ha hk, sq_get P ha hk, ent_getI hlen hk hb, sumI]
    cases hak : below ws a k
    · have hz : (if under ws k b = true then G2 n ws f a k * ent n f k b else 0) = 0 := by
        rw [G2_off o f ha hk hak, Int.zero_mul]; simp
      rw [hz, Int.add_zero]; rfl
    · cases hu : under ws k b
      · simp
      · simp only [cond_true, if_true, hP k hk hu, V64, wrap_mulL, wrap_addL, wrap_addR]
  · unfold ref_MobiusInverse_l2
    simp (disch := first | assumption | omega) only [cond_false, dcF, wrapS]
theorem ref_MobiusInverse_eq {n : Nat} {ws : List Nat} (hf : Fit ws) (hl : ws.length = n) (hn : n ≤ 16) (o : IsOrder n ws) {f : List Int} (hlen : f.length = n * n) : ref_MobiusInverse (((n : Int), cl ws, ()), f, ()) =
    some (cond (diagB n ws f) (sq n (fun a b => V64 (G2 n ws f a b)), true, ()) ([], false, ())) := by
  have hsq := sq_le hn
  have l1 : loopM (ref_MobiusInverse_l1 (((n : Int), cl ws, ()), f, ())) (0, ()) = some (if (List.range n).any (fun a => !unit1 (ent n f a a)) = true then .inl ([], false, ()) else .inr (.inl ())) := by
    refine loopM_any0 n () _ _ _ (fun a ha => ?_) ?_
    · unfold ref_MobiusInverse_l1
      simp (disch := first | assumption | omega) only [cond_true, Option.bind_some, dcT, wrapS, idx_wrap ha ha hn, ent_getI hlen ha ha]
      unfold unit1
      by_cases e1 : ent n f a a = 1
      · simp (disch := first | assumption | omega) only [decide_true, cond_false, dcF, Bool.not_true, Bool.false_eq_true, if_false, bneF, e1, Bool.true_or]
      · by_cases e2 : ent n f a a = -1
        · simp (disch := first | assumption | omega) only [decide_true, cond_true, cond_false, dcF, Bool.not_true, Bool.false_eq_true, if_false, bneF, bneT, e2, Bool.or_true]
        · simp (disch := first | assumption | omega) only [decide_false, cond_true, Bool.not_false, if_true, bneT, e1, e2, Bool.or_false]
    · unfold ref_MobiusInverse_l1
      simp (disch := first | assumption | omega) only [cond_false, dcF, wrapS]
  rw [diag_bad (ws := ws)] at l1
  unfold ref_MobiusInverse
  simp (disch := first | assumption | omega) only [cond_true, Option.bind_some, dcT, Int.toNat_natCast, room8, Bool.and_self, sq_wrap hn, ref_OrderSorted_eq hf hl hn o, l1]
  cases hd : diagB n ws f
  · rfl
  · have hall : ∀ a, a < n → unit1 (ent n f a a) = true := fun a ha => by
      unfold diagB at hd
      exact List.all_eq_true.1 hd a (List.mem_range.2 ha)
    have hslen := sortTo_length n ws n
    let P := fun (a q a' b' : Nat) => if a' < a ∨ (a' = a ∧ b' ∈ (sortTo n ws n).take q) then V64 (G2 n ws f a' b') else 0
    have l3 : ∀ (a : Nat) (y : List Int × Unit), a < n → loopM (ref_MobiusInverse_l3 (((n : Int), cl ws, ()), f, ()) (cl (sortTo n ws n), ()) ((a : Int), y)) (0, sq n (P a 0), ()) = some (.inl (sq n (P (a + 1) 0), ())) := fun a y ha => by
      refine loopM_sim (f := ref_MobiusInverse_l3 (((n : Int), cl ws, ()), f, ()) (cl (sortTo n ws n), ()) ((a : Int), y)) n (fun q => ((q : Int), sq n (P a q), ())) _ (fun q hq => ?_) ?_ rfl
      · have hb : (sortTo n ws n).getD q 0 < n := sortTo_lt o n (Nat.le_refl n) _ (List.mem_of_getElem? (getD_get (d := 0) (by rw [sortTo_length]; exact hq)))
        have hbef : ∀ k, k < n → under ws k ((sortTo n ws n).getD q 0) = true → k ∈ (sortTo n ws n).take q := fun k hk hu => by
          have := (next_ready (sortTo_get o hq)).2.2 k hk hu
          rw [List.contains_iff_mem] at this
          rw [sortTo_take n ws n (by omega)]
          exact this
        have htk : (sortTo n ws n).take (q + 1) = (sortTo n ws n).take q ++ [(sortTo n ws n).getD q 0] := by
          rw [List.take_add_one, getD_get (d := 0) (by rw [hslen]; exact hq)]; rfl
        have hset : ∀ v, v = V64 (G2 n ws f a ((sortTo n ws n).getD q 0)) → (sq n (P a q)).set (a * n + (sortTo n ws n).getD q 0) v = sq n (P a (q + 1)) := fun v hv => by
          rw [sq_set _ ha hb]
          refine sq_congr fun a' b' _ _ => ?_
          show _ = if _ then _ else _
          rw [htk]
          by_cases e : a' = a ∧ b' = (sortTo n ws n).getD q 0
          · rw [if_pos e, if_pos (.inr ⟨e.1, by rw [e.2]; simp⟩), e.1, e.2, hv]
          · rw [if_neg e]
            show (if _ then _ else _) = _
            have : (a' < a ∨ (a' = a ∧ b' ∈ (sortTo n ws n).take q)) = (a' < a ∨ (a' = a ∧ b' ∈ (sortTo n ws n).take q ++ [(sortTo n ws n).getD q 0])) := by
              apply propext
              constructor
              · rintro (h | h)
                · exact .inl h
                · exact .inr ⟨h.1, List.mem_append_left _ h.2⟩
              · rintro (h | h)
                · exact .inl h
                · rcases List.mem_append.1 h.2 with h2 | h2
                  · exact .inr ⟨h.1, h2⟩
                  · exact absurd ⟨h.1, by simpa using h2⟩ e
            simp only [this]
        generalize hgb : (sortTo n ws n).getD q 0 = b at *
        unfold ref_MobiusInverse_l3
        simp (disch := first | assumption | omega) only [cond_true, Option.bind_some, dcT, get_cl, inB_T, Int.toNat_natCast, wrapS, length_cl, hslen, hgb]
        by_cases e : a = b
        · subst e
          have hv : ent n f a a = V64 (G2 n ws f a a) := by
            rw [G2_fix o f ha, if_pos rfl]
            have hu := hall a ha
            unfold unit1 at hu
            rw [Bool.or_eq_true, decide_eq_true_eq, decide_eq_true_eq] at hu
            rcases hu with hu | hu <;> rw [hu] <;> rfl
          simp (disch := first | assumption | omega) only [cond_true, Option.bind_some, Int.toNat_natCast, beqT, idx_wrap ha ha hn, ent_getI hlen ha ha, sq_length, idx_inB ha ha, sq_get _ ha ha]
          rw [hset _ hv]
        · have hv : V64 (V64 (0 - V64 (sumI n fun k => if under ws k b = true then G2 n ws f a k * ent n f k b else 0)) * ent n f b b) = V64 (G2 n ws f a b) := by
            rw [G2_fix o f hb (a := a), if_neg e]
            show IntKind.i64.wrap (IntKind.i64.wrap (0 - IntKind.i64.wrap _) * _) = IntKind.i64.wrap _
            rw [wrap_mulL, ← wrap_mulL, wrap_subR, wrap_mulL, Int.zero_sub]
          simp (disch := first | assumption | omega) only [cond_true, cond_false, Option.bind_some, Sum.elim_inl, Int.toNat_natCast, beqF, ref_MobiusInverse_l2_eq hf hl hn o hlen ha hb (P a q) (fun k hk hu => if_pos (.inr ⟨rfl, hbef k hk hu⟩)), idx_wrap hb hb hn, ent_getI hlen hb hb, idx_wrap ha hb hn, sq_length, idx_inB ha hb, sq_get _ ha hb]
          rw [hset _ hv]
      · have e : sq n (P a n) = sq n (P (a + 1) 0) := sq_congr fun a' b' _ hb' => by
          show (if _ then _ else _) = if _ then _ else _
          have hm : b' ∈ (sortTo n ws n).take n := by rw [List.take_of_length_le (by rw [hslen]; exact Nat.le_refl n)]; exact sortTo_all o hb'
          by_cases h : a' < a + 1
          · have h1 : a' < a ∨ (a' = a ∧ b' ∈ (sortTo n ws n).take n) := by
              by_cases h2 : a' = a
              · exact .inr ⟨h2, hm⟩
              · exact .inl (by omega)
            rw [if_pos h1, if_pos (.inl h)]
          · rw [if_neg (by rintro (h2 | h2) <;> omega), if_neg (by
              rintro (h2 | h2)
              · omega
              · simp at h2)]
        unfold ref_MobiusInverse_l3
        simp (disch := first | assumption | omega) only [cond_false, dcF, Int.toNat_natCast, wrapS, length_cl, hslen, e]
    have l4 := loopM_sim (f := ref_MobiusInverse_l4 (((n : Int), cl ws, ()), f, ()) (cl (sortTo n ws n), ())) n (fun a => ((a : Int), sq n (P a 0), ())) (.inl (sq n fun a b => V64 (G2 n ws f a b), ())) (fun a ha => by
      unfold ref_MobiusInverse_l4
      simp (disch := first | assumption | omega) only [cond_true, Option.bind_some, Sum.elim_inl, dcT, wrapS, l3 a _ ha]) (by
      unfold ref_MobiusInverse_l4
      simp (disch := first | assumption | omega) only [cond_false, dcF, wrapS]
      refine congrArg (fun z => some (Sum.inr (Sum.inl (z, ())))) (sq_congr fun a b ha _ => ?_)
      exact if_pos (.inl ha)) (s0 := (0, sq n (fun _ _ => 0), ())) (by
      refine congrArg (fun z => (_, z, ())) (sq_congr fun a b _ _ => ?_)
      exact if_neg (by
        rintro (h2 | h2)
        · omega
        · simp at h2))
    rw [if_neg (by decide)]
    simp (disch := first | assumption | omega) only [cond_true, Option.bind_some, Sum.elim_inl, Sum.elim_inr, rep_sq, l4]

end Go.Proofs.Tryd
