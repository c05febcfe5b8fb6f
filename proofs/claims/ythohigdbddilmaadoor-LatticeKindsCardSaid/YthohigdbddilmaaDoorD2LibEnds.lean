/- Lemmas on functions of the program, by name: ends. -/
import Derived.Test.YthohigdbddilmaaDoorD2Funs
import Derived.Test.YthohigdbddilmaaDoorAbsSums
import Derived.Test.YthohigdbddilmaaDoorD2LibFixed
import Derived.Test.YthohigdbddilmaaDoorD2LibLattice
import Derived.Test.YthohigdbddilmaaDoorD2LibSortf
namespace Go.Proofs.Tryd
open Go Go.Abs


/-- What comes of an element by a map, again and again. -/
def itr (fs : List Nat) (x : Nat) : Nat → Nat
  | 0 => x
  | k + 1 => fs.getD (itr fs x k) 0
/-- It has settled at step K, and not before. -/
def Settles (fs : List Nat) (x K : Nat) : Prop := fs.getD (itr fs x K) 0 = itr fs x K ∧ ∀ j, j < K → fs.getD (itr fs x j) 0 ≠ itr fs x j
theorem settles_ex {fs : List Nat} {x B : Nat} (μ : Nat → Nat) (hB : μ x ≤ B) (hdec : ∀ k, fs.getD (itr fs x k) 0 ≠ itr fs x k → μ (itr fs x (k + 1)) + 1 ≤ μ (itr fs x k)) : ∃ K, K ≤ B ∧ Settles fs x K := by
  have key : ∀ m k, μ (itr fs x k) ≤ m → (∀ j, j < k → fs.getD (itr fs x j) 0 ≠ itr fs x j) → k + μ (itr fs x k) ≤ B → ∃ K, K ≤ B ∧ Settles fs x K := by
    intro m
    induction m with
    | zero =>
      intro k hm hj hb
      by_cases h : fs.getD (itr fs x k) 0 = itr fs x k
      · exact ⟨k, by omega, h, hj⟩
      · have := hdec k h; omega
    | succ m ih =>
      intro k hm hj hb
      by_cases h : fs.getD (itr fs x k) 0 = itr fs x k
      · exact ⟨k, by omega, h, hj⟩
      · have := hdec k h
        refine ih (k + 1) (by omega) (fun j hjk => ?_) (by omega)
        by_cases e : j = k
        · subst e; exact h
        · exact hj j (by omega)
  exact key (μ x) 0 (Nat.le_refl _) (fun j hj => by omega) (by simpa [itr] using hB)
theorem itr_lt {n : Nat} {fs : List Nat} (h : ∀ i, i < n → fs.getD i 0 < n) {x : Nat} (hx : x < n) : ∀ k, itr fs x k < n
  | 0 => hx
  | k + 1 => h _ (itr_lt h hx k)
/-- From the least element on, it settles soon. -/
theorem settles_up {n : Nat} {rs fs : List Nat} (o : IsOrder n rs) (h : ∀ i, i < n → fs.getD i 0 < n) (hm : ∀ a b, a < n → b < n → below rs a b = true → below rs (fs.getD a 0) (fs.getD b 0) = true) {x : Nat} (hx : x < n) (hl : ∀ j, j < n → below rs x j = true) : ∃ K, K ≤ n ∧ Settles fs x K := by
  have hup : ∀ k, below rs (itr fs x k) (itr fs x (k + 1)) = true := fun k => by
    induction k with
    | zero => exact hl _ (itr_lt h hx 1)
    | succ k ih => exact hm _ _ (itr_lt h hx k) (itr_lt h hx (k + 1)) ih
  refine settles_ex (upC n rs) (upC_le n rs x) fun k hne => ?_
  exact upC_step o (itr_lt h hx k) (itr_lt h hx (k + 1)) (under_iff.2 ⟨Ne.symm hne, hup k⟩)
theorem mono_of {n : Nat} {ws fs : List Nat} (h : MonoB n ws fs = true) : ∀ a b, a < n → b < n → below ws a b = true → below ws (fs.getD a 0) (fs.getD b 0) = true := fun a b ha hb hab => by
  unfold MonoB at h
  have := List.all_eq_true.1 (List.all_eq_true.1 h a (List.mem_range.2 ha)) b (List.mem_range.2 hb)
  rw [hab] at this
  simpa using this

theorem fixed_Least_l1_eq {n : Nat} {fs : List Nat} (hn : n ≤ 16) (hlen : fs.length = n) (h : ∀ i, i < n → fs.getD i 0 < n) (c : Int × List Int × Unit) {x K : Nat} (hx : x < n) (hK : K ≤ n) (hs : Settles fs x K) :
    loopM (fixed_Least_l1 (c, cl fs, ())) ((x : Int), 0, ()) = some (.inl (((itr fs x K : Nat) : Int), (K : Int), ())) := by
  refine loopM_sim (f := fixed_Least_l1 (c, cl fs, ())) K (fun k => (((itr fs x k : Nat) : Int), (k : Int), ())) _ (fun k hk => ?_) ?_ rfl
  · have h1 := itr_lt h hx k
    have h2 := hs.2 k hk
    unfold fixed_Least_l1 fixed_Map_To
    simp (disch := first | assumption | omega) only [cond_false, Option.bind_some, getI_cl, wrapS, beqF]
    rfl
  · have h1 := itr_lt h hx K
    have h2 := hs.1
    unfold fixed_Least_l1 fixed_Map_To
    simp (disch := first | assumption | omega) only [cond_true, Option.bind_some, getI_cl, wrapS, beqT]
theorem fixed_Greatest_l1_same : @fixed_Greatest_l1 = @fixed_Least_l1 := rfl
theorem ref_FixedFrom_eq {n : Nat} {fs : List Nat} (hn : n ≤ 16) (hlen : fs.length = n) (h : ∀ i, i < n → fs.getD i 0 < n) {x K : Nat} (hx : x < n) (hK : K ≤ n) (hs : Settles fs x K) :
    ref_FixedFrom (cl fs, (x : Int), ()) = some (((itr fs x K : Nat) : Int), (K : Int), ()) := by
  have key := loopM_sim (f := ref_FixedFrom_l1 (cl fs, (x : Int), ())) K (fun k => (((itr fs x k : Nat) : Int), (k : Int), ())) (.inl (((itr fs x K : Nat) : Int), (K : Int), ())) (fun k hk => by
    have h1 := itr_lt h hx k
    have h2 := hs.2 k hk
    unfold ref_FixedFrom_l1
    simp (disch := first | assumption | omega) only [cond_true, cond_false, Option.bind_some, dcT, getI_cl, wrapS, length_cl, beqF]
    rfl) (by
    have h1 := itr_lt h hx K
    have h2 := hs.1
    unfold ref_FixedFrom_l1
    simp (disch := first | assumption | omega) only [cond_true, Option.bind_some, dcT, getI_cl, wrapS, length_cl, beqT]) (s0 := ((x : Int), 0, ())) rfl
  unfold ref_FixedFrom
  simp (disch := first | assumption | omega) only [Option.bind_some, Sum.elim_inl, key]

/-- What both ends answer. -/
noncomputable def endc (N : Int) (ws : List Nat) (f : List Int) : Int := if latc N ws = 0 then monoc N.toNat ws f else latc N ws
theorem monoc_zero {n : Nat} {ws : List Nat} {f : List Int} (h : monoc n ws f = 0) : IntoB n n f = true ∧ MonoB n ws (f.map Int.toNat) = true := by
  unfold monoc at h
  cases h1 : IntoB n n f
  · rw [h1] at h; cases h
  · cases h2 : MonoB n ws (f.map Int.toNat)
    · rw [h1, h2] at h; cases h
    · exact ⟨rfl, rfl⟩
/-- The least and the greatest element of a lattice. -/
theorem lat_ends {n : Nat} {ws : List Nat} (o : IsOrder n ws) (h0 : 0 < n) (hl : latB n ws = true) : (topTo n (downW n ws) n < n ∧ ∀ j, j < n → below ws (topTo n (downW n ws) n) j = true) ∧ topTo n ws n < n ∧ ∀ j, j < n → below (downW n ws) (topTo n ws n) j = true := by
  have hlat := latB_iff.1 hl
  obtain ⟨t1, t2⟩ := topTo_spec o (fun a b ha hb => (hlat a b ha hb).1) h0 n (Nat.le_refl n)
  obtain ⟨b1, b2⟩ := topTo_spec (order_down o) (fun a b ha hb => (hlat a b ha hb).2) h0 n (Nat.le_refl n)
  exact ⟨⟨b1, fun j hj => by rw [← below_down hj b1]; exact b2 j hj⟩, t1, fun j hj => by rw [below_down t1 hj]; exact t2 j hj⟩

end Go.Proofs.Tryd
