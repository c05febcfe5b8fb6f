/- The plain law of FixedAdjoints. -/
import Derived.Test.YthohigdbddilmaaDoorD2Funs
import Derived.Test.YthohigdbddilmaaDoorAbsSums
import Derived.Test.YthohigdbddilmaaDoorD2LibAdj
import Derived.Test.YthohigdbddilmaaDoorD2LibWords
namespace Go.Proofs.Tryd
open Go Go.Abs


theorem beq_cast (a b : Nat) : ((a : Int) == (b : Int)) = decide (a = b) := by
  rw [Bool.eq_iff_iff, beq_iff_eq, decide_eq_true_eq]; omega
/-- What is mapped to y or below. -/
def downF (vs fs : List Nat) (y x : Nat) : Bool := below vs (fs.getD x 0) y
def backF (n : Nat) (ws vs fs : List Nat) (y : Nat) : Nat := jn n ws (downF vs fs y) n
noncomputable def adjc (N : Int) (ws : List Nat) (M : Int) (vs : List Nat) (f : List Int) : Int :=
  if latc N ws = 0 then (if latc M vs = 0 then cond (IntoB N.toNat M.toNat f) (cond (keepsB N.toNat ws M.toNat vs (f.map Int.toNat)) 0 5) 2 else latc M vs) else latc N ws

section
variable {n m : Nat} {ws vs fs : List Nat} (hf : Fit ws) (hg : Fit vs) (hws : ws.length = n) (hvs : vs.length = m) (hn : n ≤ 16) (hm : m ≤ 16) (hl : latB n ws = true) (hl' : latB m vs = true) (hfl : fs.length = n) (hlt : ∀ i, i < n → fs.getD i 0 < m)
abbrev xA (n m : Nat) (ws vs fs : List Nat) : (Int × List Int × Unit) × (Int × List Int × Unit) × List Int × Unit := (((n : Int), cl ws, ()), ((m : Int), cl vs, ()), cl fs, ())
abbrev rA (n : Nat) (ws : List Nat) : ((Int × List Int × Unit) × (List Int × List Int × Int × Int × Unit) × Unit) × Int × Unit := ((((n : Int), cl ws, ()), latR n ws, ()), 0, ())
include hn hm hl hl' hfl hlt in
theorem fixed_Adjoint_l1_eq (a : Nat) (ok : Bool) (c : Bool) (ha : a < n) : loopM (fixed_Adjoint_l1 (xA n m ws vs fs) (c, (a : Int), ()) (rA n ws) (rA m vs)) (ok, 0, ()) = some (.inl (ok && (List.range a).all fun b => keepAt n ws m vs fs a b, ())) := by
  refine loopM_sim (f := fixed_Adjoint_l1 (xA n m ws vs fs) (c, (a : Int), ()) (rA n ws) (rA m vs)) a (fun k => (ok && (List.range k).all fun b => keepAt n ws m vs fs a b, (k : Int), ())) _ (fun b hb => ?_) ?_ (by simp)
  · have h1 := (orL_tab hl ha (show b < n by omega)).2
    have h2 := hlt a ha
    have h3 := hlt b (by omega)
    unfold fixed_Adjoint_l1
    rw [all_succ, ← Bool.and_assoc]
    cases (ok && (List.range b).all fun b => keepAt n ws m vs fs a b)
    · simp (disch := first | assumption | omega) only [cond_true, cond_false, Option.bind_some, dcT, getI_cl, wrapS]
      rfl
    · unfold keepAt
      simp (disch := first | assumption | omega) only [cond_true, Option.bind_some, dcT, getI_cl, wrapS, Bool.true_and, table_Or_eq hl hn ha (show b < n by omega), table_Or_eq hl' hm h2 h3, beq_cast]
  · unfold fixed_Adjoint_l1
    simp (disch := first | assumption | omega) only [cond_false, Option.bind_some, dcF, getI_cl, wrapS]
include hn hm hl hl' hfl hlt in
theorem fixed_Adjoint_l2_eq (ok : Bool) : loopM (fixed_Adjoint_l2 (xA n m ws vs fs) (rA n ws) (rA m vs)) (ok, 0, ()) = some (.inl (ok && (List.range n).all fun a => (List.range a).all fun b => keepAt n ws m vs fs a b, ())) := by
  refine loopM_sim (f := fixed_Adjoint_l2 (xA n m ws vs fs) (rA n ws) (rA m vs)) n (fun k => (ok && (List.range k).all fun a => (List.range a).all fun b => keepAt n ws m vs fs a b, (k : Int), ())) _ (fun a ha => ?_) ?_ (by simp)
  · unfold fixed_Adjoint_l2
    rw [all_succ, ← Bool.and_assoc]
    simp (disch := first | assumption | omega) only [cond_true, Option.bind_some, Sum.elim_inl, dcT, wrapS, fixed_Adjoint_l1_eq hn hm hl hl' hfl hlt a _ _ ha]
  · unfold fixed_Adjoint_l2
    simp (disch := first | assumption | omega) only [cond_false, dcF, wrapS]
include hg hvs hn hfl hlt in
theorem fixed_Adjoint_l3_eq {y : Nat} (hy : y < m) (z : List Int × Unit) : loopM (fixed_Adjoint_l3 (xA n m ws vs fs) (rA n ws) (rA m vs) ((y : Int), z)) ([], 0, ()) = some (.inl (cl (listB n (downF vs fs y)), ())) := by
  refine loopM_sim (f := fixed_Adjoint_l3 (xA n m ws vs fs) (rA n ws) (rA m vs) ((y : Int), z)) n (fun k => (cl (listB k (downF vs fs y)), (k : Int), ())) _ (fun x hx => ?_) ?_ rfl
  · have h1 := hlt x hx
    have h2 := listB_len (downF vs fs y) x
    unfold fixed_Adjoint_l3
    rw [listB_succ]
    simp (disch := first | assumption | omega) only [cond_true, Option.bind_some, dcT, getI_cl, wrapS, length_cl, List.length_cons, List.length_nil, room8, Bool.and_self, table_Under_eq hg (latR m vs) (show fs.getD x 0 < vs.length by omega)]
    show cond (downF vs fs y x) _ _ = _
    cases downF vs fs y x
    · rfl
    · simp (disch := first | assumption | omega) only [cond_true, cl_snoc3]
  · unfold fixed_Adjoint_l3
    simp (disch := first | assumption | omega) only [cond_false, dcF, wrapS, length_cl, List.length_cons, List.length_nil, Bool.and_true, Bool.true_and]
include hg hvs hn hm hl hfl hlt in
theorem fixed_Adjoint_l4_eq (hb : botT n ws < n) : loopM (fixed_Adjoint_l4 (xA n m ws vs fs) (rA m vs) (rA n ws)) (0, List.replicate m 0, ()) = some (.inl (cl (tab m (backF n ws vs fs)), ())) := by
  refine loopM_sim (f := fixed_Adjoint_l4 (xA n m ws vs fs) (rA m vs) (rA n ws)) m (fun k => ((k : Int), tab m (fun y => if y < k then ((backF n ws vs fs y : Nat) : Int) else 0), ())) _ (fun y hy => ?_) ?_ (by rw [rep_tab]; rfl)
  · have h2 := listB_len (downF vs fs y) n
    have e : (tab m fun j => if j = y then ((backF n ws vs fs y : Nat) : Int) else if j < y then ((backF n ws vs fs j : Nat) : Int) else 0) = tab m fun j => if j < y + 1 then ((backF n ws vs fs j : Nat) : Int) else 0 := tab_congr fun j _ => by
      by_cases h : j = y
      · subst h; rw [if_pos rfl, if_pos (by omega)]
      · rw [if_neg h]
        by_cases h3 : j < y
        · rw [if_pos h3, if_pos (by omega)]
        · rw [if_neg h3, if_neg (by omega)]
    unfold fixed_Adjoint_l4
    simp (disch := first | assumption | omega) only [cond_true, Option.bind_some, Sum.elim_inl, dcT, get_tab, inB_T, Int.toNat_natCast, wrapS, length_tab, List.length_replicate, fixed_Adjoint_l3_eq hg hvs hn hfl hlt hy, table_Joins_eq hl hn hb (show (listB n (downF vs fs y)).length ≤ 1000000 by omega) (fun x hx => List.mem_range.1 (List.mem_filter.1 hx).1), jn_fold, tab_set]
    rw [← e]
    rfl
  · have e : (tab m fun j => if j < m then ((backF n ws vs fs j : Nat) : Int) else 0) = cl (tab m (backF n ws vs fs)) := by
      rw [cl_tab]
      exact tab_congr fun j hj => if_pos hj
    unfold fixed_Adjoint_l4
    simp (disch := first | assumption | omega) only [cond_false, dcF, Int.toNat_natCast, wrapS, length_cl, length_tab, List.length_replicate, e]

include hn hm hl hl' hfl hlt in
theorem ref_FixedKeeps_eq (o : IsOrder n ws) (o' : IsOrder m vs) (hb : botT n ws < n) : ref_FixedKeeps (((n : Int), cl ws, ()), latR n ws, ((m : Int), cl vs, ()), latR m vs, cl fs, ()) = some (keepsB n ws m vs fs, ()) := by
  let x := ((((n : Int), cl ws, ()), latR n ws, ((m : Int), cl vs, ()), latR m vs, cl fs, ()) : (Int × List Int × Unit) × (List Int × List Int × Int × Int × Unit) × (Int × List Int × Unit) × (List Int × List Int × Int × Int × Unit) × List Int × Unit)
  have l1 : ∀ a : Nat, a < n → loopM (ref_FixedKeeps_l1 x ((a : Int), ())) (0, ()) = some (if (List.range n).any (fun b => !keepAt n ws m vs fs a b) = true then .inl (false, ()) else .inr (.inl ())) := fun a ha => by
    refine loopM_any0 n _ _ _ _ (fun b hb => ?_) ?_
    · have h1 := (orL_tab hl ha hb).2
      have h2 := hlt a ha
      have h3 := hlt b hb
      unfold ref_FixedKeeps_l1
      simp (disch := first | assumption | omega) only [cond_true, Option.bind_some, dcT, getI_cl, wrapS, x, ref_Or_eq hl hn ha hb, ref_Or_eq hl' hm h2 h3, bne, beq_cast]
      unfold keepAt
      cases decide (fs.getD (orL n ws a b) 0 = orL m vs (fs.getD a 0) (fs.getD b 0)) <;> rfl
    · unfold ref_FixedKeeps_l1
      simp (disch := first | assumption | omega) only [cond_false, Option.bind_some, dcF, getI_cl, wrapS, x]
  have l2 : loopM (ref_FixedKeeps_l2 x) (0, ()) = some (if (List.range n).any (fun a => (List.range n).any fun b => !keepAt n ws m vs fs a b) = true then .inl (false, ()) else .inr (.inl ())) := by
    refine loopM_any0 n _ _ _ _ (fun a ha => ?_) ?_
    · unfold ref_FixedKeeps_l2
      simp (disch := first | assumption | omega) only [Option.bind_some, wrapS, l1 a ha]
      simp (disch := first | assumption | omega) only [cond_true, dcT, x]
      cases (List.range n).any (fun b => !keepAt n ws m vs fs a b) <;> rfl
    · unfold ref_FixedKeeps_l2
      simp (disch := first | assumption | omega) only [cond_false, dcF, wrapS, x]
  have e : ((List.range n).any fun a => (List.range n).any fun b => !keepAt n ws m vs fs a b) = !((List.range n).all fun a => (List.range n).all fun b => keepAt n ws m vs fs a b) := by
    rw [List.not_all_eq_any_not]
    exact congrArg (fun p => (List.range n).any p) (funext fun a => by rw [List.not_all_eq_any_not])
  rw [e] at l2
  rw [keeps_all o hl o' hl' hlt]
  unfold ref_FixedKeeps
  show (loopM (ref_FixedKeeps_l2 x) (0, ())).bind _ = _
  rw [l2]
  cases (List.range n).all fun a => (List.range n).all fun b => keepAt n ws m vs fs a b
  · rfl
  · have hb' : topTo n (downW n ws) n < n := hb
    show ((getI (cl fs) (((topTo n (downW n ws) n : Nat) : Int))).bind _) = _
    simp (disch := first | assumption | omega) only [Option.bind_some, getI_cl, Bool.true_and]
    show some (((((fs.getD (botT n ws) 0 : Nat) : Int) == ((botT m vs : Nat) : Int)) : Bool), ()) = _
    rw [beq_cast]

include hf hg hws hvs hn hm hfl hlt in
theorem ref_FixedAdjoint_l1_eq {y : Nat} (hy : y < m) (z : List Int) : loopM (ref_FixedAdjoint_l1 (xA n m ws vs fs) (z, (y : Int), ())) (-1, 0, ()) = some (.inl (orNo (bd ws (downF vs fs y) n), ())) := by
  refine loopM_sim (f := ref_FixedAdjoint_l1 (xA n m ws vs fs) (z, (y : Int), ())) n (fun k => (orNo (bd ws (downF vs fs y) k), (k : Int), ())) _ (fun x hx => ?_) ?_ rfl
  · have h1 := hlt x hx
    unfold ref_FixedAdjoint_l1
    rw [bd]
    simp (disch := first | assumption | omega) only [cond_true, Option.bind_some, dcT, getI_cl, wrapS, ref_Below_eq hg (show fs.getD x 0 < vs.length by omega) (show y < 2 ^ 64 by omega)]
    show cond (downF vs fs y x) _ _ = _
    cases hd : downF vs fs y x
    · rfl
    · cases hb : bd ws (downF vs fs y) x with
      | none => rfl
      | some i =>
        have h2 := (bd_lt hb).1
        show cond (decide ((i : Int) < 0)) (some (Sum.inl ((x : Int), ((x + 1 : Nat) : Int), ()))) ((ref_Below (((n : Int), cl ws, ()), (i : Int), (x : Int), ())).bind fun r => cond r.1 (some (Sum.inl ((x : Int), ((x + 1 : Nat) : Int), ()))) (some (Sum.inl ((i : Int), ((x + 1 : Nat) : Int), ())))) = some (Sum.inl (orNo (cond (below ws i x) (some x) (some i)), ((x + 1 : Nat) : Int), ()))
        simp (disch := first | assumption | omega) only [cond_false, Option.bind_some, dcF, ref_Below_eq hf (show i < ws.length by omega) (show x < 2 ^ 64 by omega)]
        cases below ws i x <;> rfl
  · unfold ref_FixedAdjoint_l1
    simp (disch := first | assumption | omega) only [cond_false, dcF, wrapS]
include hf hg hws hvs hn hm hfl hlt in
theorem ref_FixedAdjoint_eq (hB : ∀ y, y < m → bd ws (downF vs fs y) n = some (backF n ws vs fs y)) : ref_FixedAdjoint (xA n m ws vs fs) = some (cl (tab m (backF n ws vs fs)), ()) := by
  have key := loopM_sim (f := ref_FixedAdjoint_l2 (xA n m ws vs fs)) m (fun k => (cl (tab k (backF n ws vs fs)), (k : Int), ())) (.inl (cl (tab m (backF n ws vs fs)), ())) (fun y hy => by
    unfold ref_FixedAdjoint_l2
    rw [tab_succ]
    simp (disch := first | assumption | omega) only [cond_true, Option.bind_some, Sum.elim_inl, dcT, wrapS, length_cl, length_tab, List.length_cons, List.length_nil, room8, Bool.and_self, ref_FixedAdjoint_l1_eq hf hg hws hvs hn hm hfl hlt hy, hB y hy]
    show some (Sum.inl (cl (tab y (backF n ws vs fs)) ++ [((backF n ws vs fs y : Nat) : Int)], _)) = _
    rw [cl_snoc3]) (by
    unfold ref_FixedAdjoint_l2
    simp (disch := first | assumption | omega) only [cond_true, cond_false, dcF, wrapS, length_cl, length_tab, List.length_cons, List.length_nil, room8, Bool.and_self]) (s0 := ([], 0, ())) rfl
  unfold ref_FixedAdjoint
  rw [key]
  rfl
theorem bot_lt (o : IsOrder n ws) (h0 : 0 < n) (hl : latB n ws = true) : botT n ws < n ∧ ∀ j, j < n → below ws (botT n ws) j = true := (lat_ends o h0 hl).1
include hl hl' hlt in
theorem back_bd (o : IsOrder n ws) (o' : IsOrder m vs) (h0 : 0 < n) (h0' : 0 < m) (hk : keepsB n ws m vs fs = true) : ∀ y, y < m → bd ws (downF vs fs y) n = some (backF n ws vs fs y) := fun y hy => by
  obtain ⟨k1, k2⟩ := keeps_or o hl o' hl' hlt hk
  have hb := bot_lt o h0 hl
  have hb' := bot_lt o' h0' hl'
  have hmax := jn_max (D := downF vs fs y) o hl hb.1 (by unfold downF; rw [k1]; exact hb'.2 y hy) (fun a b ha hb' hda hdb => by
    unfold downF at hda hdb ⊢
    rw [k2 a b ha hb']
    exact (orL_spec hl' (hlt a ha) (hlt b hb')).2.2.2 y hy hda hdb) n (Nat.le_refl n)
  exact bd_max o hmax.1 hmax.2.1 hmax.2.2 n (Nat.le_refl n) hmax.1
end

theorem fixed_Adjoint_eq {N M : Int} {ws vs : List Nat} (hf : Fit ws) (hg : Fit vs) {f : List Int} (hlen : f.length ≤ 9223372036854775807) :
    fixed_Adjoint ((N, cl ws, ()), (M, cl vs, ()), f, ()) = some (if adjc N ws M vs f = 0 then (cl (tab M.toNat (backF N.toNat ws vs (f.map Int.toNat))), 0, ()) else ([], adjc N ws M vs f, ())) := by
  unfold fixed_Adjoint adjc
  rw [lattice_Of_eq hf, lattice_Of_eq hg]
  by_cases h1 : latc N ws = 0
  · obtain ⟨h0, hpos, hl⟩ := latc_zero h1
    obtain ⟨g1, g2, g3, hin, o⟩ := ordc_zero h0
    obtain ⟨n, rfl⟩ := Int.eq_ofNat_of_zero_le g1
    by_cases h2 : latc M vs = 0
    · obtain ⟨h0', hpos', hl'⟩ := latc_zero h2
      obtain ⟨k1, k2, k3, hin', o'⟩ := ordc_zero h0'
      obtain ⟨m, rfl⟩ := Int.eq_ofNat_of_zero_le k1
      have hn : n ≤ 16 := by omega
      have hm : m ≤ 16 := by omega
      simp (disch := first | assumption | omega) only [cond_true, cond_false, Option.bind_some, dcT, Int.toNat_natCast, room8, Bool.and_true, Bool.and_self, if_true, h1, h2, bneF, fixed_Map_into_eq hlen]
      cases hi : IntoB n m f
      · rfl
      · obtain ⟨fs, rfl, hfl, hlt⟩ := into_nat hi
        rw [map_cl]
        have hb := (bot_lt (show IsOrder n ws from o) (by omega) hl).1
        have hb' : topTo n (downW n ws) n < n := hb
        have l2 := fixed_Adjoint_l2_eq hn hm hl hl' hfl hlt (decide (fs.getD (botT n ws) 0 = botT m vs))
        have l4 := fixed_Adjoint_l4_eq hg (show vs.length = m by omega) hn hm hl hfl hlt hb
        unfold keepsB
        simp (disch := first | assumption | omega) only [cond_true, cond_false, Option.bind_some, getI_cl, Bool.not_true, show latR n ws = (sq n (joinT n ws), sq n (meetT n ws), ((botT n ws : Nat) : Int), ((topTo n ws n : Nat) : Int), ()) from rfl]
        simp (disch := first | assumption | omega) only [show latR m vs = (sq m (joinT m vs), sq m (meetT m vs), ((botT m vs : Nat) : Int), ((topTo m vs m : Nat) : Int), ()) from rfl]
        rw [beq_cast]
        show (loopM (fixed_Adjoint_l2 (xA n m ws vs fs) (rA n ws) (rA m vs)) (decide (fs.getD (botT n ws) 0 = botT m vs), 0, ())).bind (Sum.elim (fun z => cond (!z.1) _ ((loopM (fixed_Adjoint_l4 (xA n m ws vs fs) (rA m vs) (rA n ws)) (0, List.replicate m 0, ())).bind _)) _) = _
        rw [l2, l4]
        cases decide (fs.getD (botT n ws) 0 = botT m vs) && (List.range n).all fun a => (List.range a).all fun b => keepAt n ws m vs fs a b <;> rfl
    · simp (disch := first | assumption | omega) only [cond_true, cond_false, Option.bind_some, dcT, Int.toNat_natCast, room8, Bool.and_true, Bool.and_self, if_true, if_false, h1, h2, bneF, bneT]
  · simp (disch := first | assumption | omega) only [cond_true, Option.bind_some, dcT, Bool.and_true, if_false, h1, bneT]

/-- THE LAW. -/
theorem fixedAdjoints {N M : Int} {ws vs : List Nat} (hf : Fit ws) (hg : Fit vs) {f : List Int} (hlen : f.length ≤ 9223372036854775807) : law_FixedAdjoints ((N, cl ws, ()), (M, cl vs, ()), f, ()) = some (true, ()) := by
  unfold law_FixedAdjoints
  rw [fixed_Adjoint_eq hf hg hlen, ref_LatticeMake_eq hf, ref_LatticeMake_eq hg]
  unfold adjc
  by_cases h1 : latc N ws = 0
  · obtain ⟨h0, hpos, hl⟩ := latc_zero h1
    obtain ⟨g1, g2, g3, hin, o⟩ := ordc_zero h0
    obtain ⟨n, rfl⟩ := Int.eq_ofNat_of_zero_le g1
    by_cases h2 : latc M vs = 0
    · obtain ⟨h0', hpos', hl'⟩ := latc_zero h2
      obtain ⟨k1, k2, k3, hin', o'⟩ := ordc_zero h0'
      obtain ⟨m, rfl⟩ := Int.eq_ofNat_of_zero_le k1
      have hn : n ≤ 16 := by omega
      have hm : m ≤ 16 := by omega
      simp (disch := first | assumption | omega) only [cond_true, cond_false, Option.bind_some, Sum.elim_inl, Int.toNat_natCast, if_true, h1, h2, bneF, beqT, ref_MapInto_eq hlen]
      cases hi : IntoB n m f
      · rfl
      · obtain ⟨fs, rfl, hfl, hlt⟩ := into_nat hi
        rw [map_cl]
        have hl : latB n ws = true := hl
        have hl' : latB m vs = true := hl'
        have o : IsOrder n ws := o
        have o' : IsOrder m vs := o'
        have hb := (bot_lt o (by omega) hl).1
        simp (disch := first | assumption | omega) only [cond_true, cond_false, Option.bind_some, Sum.elim_inl, Bool.not_true, ref_FixedKeeps_eq hn hm hl hl' hfl hlt o o' hb]
        cases hk : keepsB n ws m vs fs
        · rfl
        · have q := ref_FixedAdjoint_eq hf hg (show ws.length = n by omega) (show vs.length = m by omega) hn hm hfl hlt (back_bd hl hl' hlt o o' (by omega) (by omega) hk)
          have q' := ref_TimesSame_same (cl (tab m (backF n ws vs fs))) (by rw [cl_length, tab_length]; omega)
          simp (disch := first | assumption | omega) only [cond_true, cond_false, Option.bind_some, Sum.elim_inl, length_cl, length_tab, Bool.not_true, if_true, beqT, bneF, q, q']
    · simp (disch := first | assumption | omega) only [cond_true, cond_false, Option.bind_some, Sum.elim_inl, Int.toNat_natCast, List.length_nil, if_true, if_false, h1, h2, bneT, beqT, beqF]
  · simp (disch := first | assumption | omega) only [cond_true, cond_false, Option.bind_some, Sum.elim_inl, List.length_nil, if_false, h1, bneT, beqT, beqF]

theorem fixedAdjoints_law (x : ADen sp10.args) (h : WfA sp10.args x) : law_FixedAdjoints x = some (true, ()) := by
  obtain ⟨⟨N, l, ⟨⟩⟩, ⟨M, l', ⟨⟩⟩, f, ⟨⟩⟩ := x
  obtain ⟨ws, rfl, hf⟩ := words_of h.1.2.1
  obtain ⟨vs, rfl, hg⟩ := words_of h.2.1.2.1
  exact fixedAdjoints hf hg h.2.2.1.1

end Go.Proofs.Tryd
