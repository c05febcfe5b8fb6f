/- Lemmas on functions of the program, by name: irr. -/
import Derived.Test.YtofcpghoogaglaaDoorD1Funs
import Derived.Test.YtofcpghoogaglaaDoorAbsSums
import Derived.Test.YtofcpghoogaglaaDoorD1LibSize
import Derived.Test.YtofcpghoogaglaaDoorD1LibAbove
import Derived.Test.YtofcpghoogaglaaDoorD1LibLattice
namespace Go.Proofs.Tryd
open Go Go.Abs


/-- The elements that just one other covers, of the first k. -/
def oneUp (n : Nat) (ws : List Nat) (i : Nat) : Bool := decide (cntB n (covered n ws i) = 1)
def irrTo (n : Nat) (ws : List Nat) (k : Nat) : List Nat := (List.range k).filter (oneUp n ws)
theorem irrTo_succ (n : Nat) (ws : List Nat) (k : Nat) : irrTo n ws (k + 1) = cond (oneUp n ws k) (irrTo n ws k ++ [k]) (irrTo n ws k) := by
  unfold irrTo
  rw [List.range_succ, List.filter_append, List.filter_cons]
  cases oneUp n ws k
  · simp
  · rfl
theorem irrTo_len (n : Nat) (ws : List Nat) (k : Nat) : (irrTo n ws k).length ≤ k := by
  unfold irrTo; exact Nat.le_trans (List.length_filter_le _ _) (by simp)
theorem cl_snoc2 (l : List Nat) (a : Nat) : cl l ++ [(a : Int)] = cl (l ++ [a]) := by simp [cl]
theorem covered_lt {n : Nat} {ws : List Nat} (hin : Inside n ws) {i j : Nat} (h : covered n ws i j = true) : j < n := by
  unfold covered at h
  exact under_lt hin (Bool.and_eq_true_iff.1 h).1
theorem cover_count {n : Nat} {ws : List Nat} (hf : Fit ws) (hl : ws.length = n) (hn : n ≤ 16) (hin : Inside n ws) {i : Nat} (hi : i < n) : (cntB 32 fun b => (aboveW ws i).testBit b) = cntB n (covered n ws i) := by
  rw [cntB_congr (q := covered n ws i) fun b _ => aboveW_bit hf hl hin hi b]
  exact cntB_cut (by omega) fun b hb => by
    cases h : covered n ws i b
    · rfl
    · have := covered_lt hin h; omega

theorem irr_c1_eq {n : Nat} {ws : List Nat} (hf : Fit ws) (hl : ws.length = n) (hn : n ≤ 16) (hin : Inside n ws) : lattice_Irreducible_c1 (((n : Int), cl ws, ()), ()) = some (cl (irrTo n ws n), ()) := by
  have key := loopM_sim (f := lattice_Irreducible_c1_l1 (((n : Int), cl ws, ()), ())) n (fun k => (cl (irrTo n ws k), (k : Int), ())) (.inl (cl (irrTo n ws n), ())) (fun i hi => by
    have ha := order_Above_eq (N := (n : Int)) hf hl hn hin hi
    have := irrTo_len n ws i
    have e : (((cntB n (covered n ws i) : Nat) : Int) == 1) = oneUp n ws i := by
      unfold oneUp; rw [Bool.eq_iff_iff, beq_iff_eq, decide_eq_true_eq]; omega
    unfold lattice_Irreducible_c1_l1
    simp (disch := first | assumption | omega) only [cond_true, Option.bind_some, dcT, wrapS, length_cl, List.length_cons, List.length_nil, room8, Bool.and_self, ha.1, sets_Size_eq ha.2, cover_count hf hl hn hin hi, e, irrTo_succ, cl_snoc2]
    cases oneUp n ws i <;> rfl) (by
    unfold lattice_Irreducible_c1_l1
    simp (disch := first | assumption | omega) only [cond_false, dcF, wrapS, length_cl, List.length_cons, List.length_nil, Bool.and_true, Bool.true_and]) (s0 := ([], 0, ())) rfl
  unfold lattice_Irreducible_c1
  rw [key]; rfl

theorem lattice_Irreducible_eq {N : Int} {ws : List Nat} (hf : Fit ws) : lattice_Irreducible ((N, cl ws, ()), ()) =
    some (if latc N ws = 0 then (cl (irrTo N.toNat (downW N.toNat ws) N.toNat), cl (irrTo N.toNat ws N.toNat), 0, ()) else ([], [], latc N ws, ())) := by
  unfold lattice_Irreducible
  simp (disch := first | assumption | omega) only [Option.bind_some, lattice_Of_eq hf, order_Dual_eq hf]
  by_cases h : latc N ws = 0
  · obtain ⟨h0, -, -⟩ := latc_zero h
    obtain ⟨h1, h2, h3, hin, o⟩ := ordc_zero h0
    obtain ⟨n, rfl⟩ := Int.eq_ofNat_of_zero_le h1
    have hl : ws.length = n := by omega
    have hn : n ≤ 16 := by omega
    simp (disch := first | assumption | omega) only [cond_false, Option.bind_some, Int.toNat_natCast, if_true, h, h0, bneF, irr_c1_eq hf hl hn hin, irr_c1_eq (fit_downW (ws := ws) hn) length_down hn inside_down]
  · simp (disch := first | assumption | omega) only [cond_true, if_false, h, bneT]

theorem covered_down {n : Nat} {ws : List Nat} {i j : Nat} (hi : i < n) (hj : j < n) : covered n (downW n ws) i j = covered n ws j i := by
  have hu : ∀ {a b}, a < n → b < n → under (downW n ws) a b = under ws b a := fun {a b} ha hb => by
    unfold under; rw [below_down ha hb]
    by_cases h : a = b
    · subst h; rfl
    · rw [decide_eq_true h, decide_eq_true (Ne.symm h)]
  unfold covered
  rw [hu hi hj]
  congr 2
  rw [Bool.eq_iff_iff, List.any_eq_true, List.any_eq_true]
  constructor
  · rintro ⟨x, hx, h⟩
    rw [hu hi (List.mem_range.1 hx), hu (List.mem_range.1 hx) hj, Bool.and_comm] at h
    exact ⟨x, hx, h⟩
  · rintro ⟨x, hx, h⟩
    refine ⟨x, hx, ?_⟩
    rw [hu hi (List.mem_range.1 hx), hu (List.mem_range.1 hx) hj, Bool.and_comm]
    exact h

theorem ref_LatticeIrreducible_eq {n : Nat} {ws : List Nat} (hf : Fit ws) (hl : ws.length = n) (hn : n ≤ 16) : ref_LatticeIrreducible (((n : Int), cl ws, ()), ()) = some (cl (irrTo n (downW n ws) n), cl (irrTo n ws n), ()) := by
  have l1 : ∀ (i : Nat) (u v : List Int), i < n → loopM (ref_LatticeIrreducible_l1 (((n : Int), cl ws, ()), ()) (u, v, (i : Int), ())) (0, 0, 0, ()) = some (.inl (((cntB n (covered n (downW n ws) i) : Nat) : Int), ((cntB n (covered n ws i) : Nat) : Int), ())) := fun i u v hi => by
    refine loopM_sim (f := ref_LatticeIrreducible_l1 (((n : Int), cl ws, ()), ()) (u, v, (i : Int), ())) n (fun k => (((cntB k (covered n (downW n ws) i) : Nat) : Int), ((cntB k (covered n ws i) : Nat) : Int), (k : Int), ())) _ (fun j hj => ?_) ?_ rfl
    · have h1 := cntB_le (covered n (downW n ws) i) j
      have h2 := cntB_le (covered n ws i) j
      unfold ref_LatticeIrreducible_l1
      simp (disch := first | assumption | omega) only [cond_true, Option.bind_some, dcT, wrapS, ref_Covered_eq hf hl hn hj hi, ref_Covered_eq hf hl hn hi hj, cntB, covered_down hi hj]
      cases covered n ws j i <;> cases covered n ws i j <;> rfl
    · unfold ref_LatticeIrreducible_l1
      simp (disch := first | assumption | omega) only [cond_false, dcF, wrapS]
  have key := loopM_sim (f := ref_LatticeIrreducible_l2 (((n : Int), cl ws, ()), ())) n (fun k => (cl (irrTo n (downW n ws) k), cl (irrTo n ws k), (k : Int), ())) (.inl (cl (irrTo n (downW n ws) n), cl (irrTo n ws n), ())) (fun i hi => by
    have := irrTo_len n ws i
    have := irrTo_len n (downW n ws) i
    have e : ∀ rs, (((cntB n (covered n rs i) : Nat) : Int) == 1) = oneUp n rs i := fun rs => by
      unfold oneUp; rw [Bool.eq_iff_iff, beq_iff_eq, decide_eq_true_eq]; omega
    unfold ref_LatticeIrreducible_l2
    simp (disch := first | assumption | omega) only [cond_true, Option.bind_some, Sum.elim_inl, dcT, wrapS, length_cl, List.length_cons, List.length_nil, room8, Bool.and_self, l1 i _ _ hi, e, irrTo_succ, cl_snoc2]
    cases oneUp n ws i <;> cases oneUp n (downW n ws) i <;> rfl) (by
    unfold ref_LatticeIrreducible_l2
    simp (disch := first | assumption | omega) only [cond_false, dcF, wrapS, length_cl, List.length_cons, List.length_nil, Bool.and_true, Bool.true_and]) (s0 := ([], [], 0, ())) rfl
  unfold ref_LatticeIrreducible
  rw [key]; rfl

end Go.Proofs.Tryd
