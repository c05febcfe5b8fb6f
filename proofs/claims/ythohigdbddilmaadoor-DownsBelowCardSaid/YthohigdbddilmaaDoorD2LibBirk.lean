/- Lemmas on functions of the program, by name: birk. -/
import Derived.Test.YthohigdbddilmaaDoorD2Funs
import Derived.Test.YthohigdbddilmaaDoorAbsSums
import Derived.Test.YthohigdbddilmaaDoorD2LibIrr
import Derived.Test.YthohigdbddilmaaDoorD2LibWords
namespace Go.Proofs.Tryd
open Go Go.Abs


/-- Of a list's elements those below each. -/
def brkW (n : Nat) (ws lo : List Nat) (j : Nat) : Nat := wordOf n fun i => lo.contains i && below ws i j
theorem brkW_lt {n : Nat} (hn : n ≤ 16) (ws lo : List Nat) (j : Nat) : brkW n ws lo j < 2 ^ 32 := wordOf_lt32 _ (by omega)
theorem brkW_snoc {n : Nat} {ws lo : List Nat} {i j : Nat} (hi : i < n) : brkW n ws (lo ++ [i]) j = cond (below ws i j) (brkW n ws lo j ||| 2 ^ i) (brkW n ws lo j) := by
  apply Nat.eq_of_testBit_eq
  intro b
  have hc : (lo ++ [i]).contains b = (lo.contains b || decide (b = i)) := by
    rw [Bool.eq_iff_iff]; simp
  cases hb : below ws i j
  · unfold brkW
    rw [cond_false, wordOf_bit, wordOf_bit, hc]
    by_cases e : b = i
    · subst e; rw [hb]; simp
    · simp [e]
  · unfold brkW
    rw [cond_true, Nat.testBit_or, wordOf_bit, wordOf_bit, Nat.testBit_two_pow, hc]
    by_cases e : b = i
    · subst e; simp [hb, hi]
    · simp [e, Ne.symm e]
theorem take_snoc {l : List Nat} {k : Nat} (hk : k < l.length) : l.take (k + 1) = l.take k ++ [l.getD k 0] := by
  rw [List.take_add_one, getD_get (d := 0) hk]; rfl

theorem downs_Birkhoff_l1_eq {n : Nat} {w i : Nat} (hw : w < 2 ^ 32) (hin : ∀ j, w.testBit j = true → j < n) (hi : i < 32) {g : Nat → Nat} (hg : ∀ j, j < n → g j < 2 ^ 32) :
    loopM (downs_Birkhoff_l1 (i : Int)) ((w : Int), cl (tab n g), ()) = some (.inl (cl (tab n fun j => if w.testBit j = true then g j ||| 2 ^ i else g j), ())) :=
  or_into hw hin (two_pow_32 hi) hg (fun r q l h1 h2 h3 h4 => by
    unfold downs_Birkhoff_l1
    simp (disch := first | assumption | omega) only [cond_true, Option.bind_some, get_cl, inB_T, Int.toNat_natCast, length_cl, nz_eq, tz_eq h1, clr_eq h1, sets_One_eq hi, or_u32 h4 (two_pow_32 hi)]) (fun l => rfl)

theorem irr_lt (n : Nat) (ws : List Nat) : ∀ i ∈ irrTo n ws n, i < n := fun i hi => List.mem_range.1 (List.mem_filter.1 hi).1

theorem downs_Birkhoff_eq {N : Int} {ws : List Nat} (hf : Fit ws) : downs_Birkhoff ((N, cl ws, ()), ()) =
    some (if latc N ws = 0 then (cl (tab N.toNat (brkW N.toNat ws (irrTo N.toNat (downW N.toNat ws) N.toNat))), 0, ()) else ([], latc N ws, ())) := by
  unfold downs_Birkhoff
  simp (disch := first | assumption | omega) only [Option.bind_some, dcT, Bool.and_true, lattice_Irreducible_eq hf]
  by_cases h : latc N ws = 0
  · obtain ⟨h0, -, -⟩ := latc_zero h
    obtain ⟨h1, h2, h3, hin, o⟩ := ordc_zero h0
    obtain ⟨n, rfl⟩ := Int.eq_ofNat_of_zero_le h1
    have hl : ws.length = n := by omega
    have hn : n ≤ 16 := by omega
    have hin : Inside n ws := hin
    have hlo := irr_lt n (downW n ws)
    have hlen := irrTo_len n (downW n ws) n
    generalize hL : irrTo n (downW n ws) n = lo at *
    have key := loopM_sim (f := downs_Birkhoff_l2 (((n : Int), cl ws, ()), ()) (cl lo, cl (irrTo n ws n), 0, ())) lo.length (fun k => ((k : Int), cl (tab n (brkW n ws (lo.take k))), ())) (.inl (cl (tab n (brkW n ws lo)), ())) (fun k hk => by
      have hi : lo.getD k 0 < n := hlo _ (List.mem_of_getElem? (getD_get (d := 0) hk))
      unfold downs_Birkhoff_l2
      simp (disch := first | assumption | omega) only [cond_true, Option.bind_some, Sum.elim_inl, dcT, getI_cl, get_cl, inB_T, Int.toNat_natCast, wrapS, length_cl, wrap_u64 (fitD64 hf (lo.getD k 0)), downs_Birkhoff_l1_eq (fitD hf (lo.getD k 0)) (fun j hj => insideD hin hj) (show lo.getD k 0 < 32 by omega) (fun j _ => brkW_lt hn ws (lo.take k) j)]
      refine congrArg (fun x => some (Sum.inl (_, cl x, ()))) (tab_congr fun j _ => ?_)
      rw [take_snoc hk, brkW_snoc hi]
      unfold below
      cases (ws.getD (lo.getD k 0) 0).testBit j <;> rfl) (by
      unfold downs_Birkhoff_l2
      simp (disch := first | assumption | omega) only [cond_false, dcF, Int.toNat_natCast, wrapS, length_cl, List.take_length]) (s0 := (0, cl (tab n fun _ => 0), ())) (by
      refine congrArg (fun x => (_, cl x, ())) (tab_congr fun j _ => ?_)
      apply Nat.eq_of_testBit_eq; intro b; simp [brkW, wordOf_bit])
    have e3 : List.replicate n (0 : Int) = cl (tab n fun _ => 0) := by rw [cl_rep, rep_tab]
    simp (disch := first | assumption | omega) only [cond_true, cond_false, Option.bind_some, Sum.elim_inl, dcT, Int.toNat_natCast, room4, Bool.and_self, if_true, h, bneF, hL, e3, key]
  · simp (disch := first | assumption | omega) only [cond_true, if_false, h, bneT]

theorem ref_DownsBirkhoff_eq {n : Nat} {ws : List Nat} (hf : Fit ws) (hl : ws.length = n) (hn : n ≤ 16) : ref_DownsBirkhoff (((n : Int), cl ws, ()), ()) = some (cl (tab n (brkW n ws (irrTo n (downW n ws) n))), ()) := by
  have hlo := irr_lt n (downW n ws)
  have hlen := irrTo_len n (downW n ws) n
  unfold ref_DownsBirkhoff
  rw [ref_LatticeIrreducible_eq hf hl hn]
  generalize irrTo n (downW n ws) n = lo at *
  have l1 : ∀ (x : Nat) (u v : List Int), x < n → loopM (ref_DownsBirkhoff_l1 (((n : Int), cl ws, ()), ()) (cl lo, v, ()) (u, (x : Int), ())) (0, 0, ()) = some (.inl (((brkW n ws lo x : Nat) : Int), ())) := fun x u v hx => by
    refine loopM_sim (f := ref_DownsBirkhoff_l1 (((n : Int), cl ws, ()), ()) (cl lo, v, ()) (u, (x : Int), ())) lo.length (fun k => (((brkW n ws (lo.take k) x : Nat) : Int), (k : Int), ())) _ (fun k hk => ?_) ?_ ?_
    · have hi : lo.getD k 0 < n := hlo _ (List.mem_of_getElem? (getD_get (d := 0) hk))
      have hb := brkW_lt hn ws (lo.take k) x
      unfold ref_DownsBirkhoff_l1
      simp (disch := first | assumption | omega) only [cond_true, cond_false, Option.bind_some, dcT, dcF, get_cl, inB_T, Int.toNat_natCast, wrapS, length_cl, ref_Below_eq hf (show lo.getD k 0 < ws.length by omega) (show x < 2 ^ 64 by omega), wrap_u64 (show lo.getD k 0 < 2 ^ 64 by omega), shl_u32 (show lo.getD k 0 < 32 by omega), or_u32 hb (two_pow_32 (show lo.getD k 0 < 32 by omega)), take_snoc hk, brkW_snoc hi]
      cases below ws (lo.getD k 0) x <;> rfl
    · unfold ref_DownsBirkhoff_l1
      simp (disch := first | assumption | omega) only [cond_false, dcF, Int.toNat_natCast, wrapS, length_cl, List.take_length]
    · have : brkW n ws (lo.take 0) x = 0 := by apply Nat.eq_of_testBit_eq; intro b; simp [brkW, wordOf_bit]
      rw [this]; rfl
  have key := loopM_sim (f := ref_DownsBirkhoff_l2 (((n : Int), cl ws, ()), ()) (cl lo, cl (irrTo n ws n), ())) n (fun k => (cl (tab k (brkW n ws lo)), (k : Int), ())) (.inl (cl (tab n (brkW n ws lo)), ())) (fun x hx => by
    unfold ref_DownsBirkhoff_l2
    simp (disch := first | assumption | omega) only [cond_true, Option.bind_some, Sum.elim_inl, dcT, wrapS, length_cl, length_tab, List.length_cons, List.length_nil, room4, Bool.and_self, l1 x _ _ hx, tab_succ, cl_snoc2]) (by
    unfold ref_DownsBirkhoff_l2
    simp (disch := first | assumption | omega) only [cond_true, cond_false, dcF, wrapS, length_cl, length_tab, List.length_cons, List.length_nil, room4, Bool.and_self]) (s0 := ([], 0, ())) rfl
  simp (disch := first | assumption | omega) only [Option.bind_some, Sum.elim_inl, key]

end Go.Proofs.Tryd
