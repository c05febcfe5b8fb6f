/- Lemmas on functions of the program, by name: lsub. -/
import Derived.Test.YthohigdbddilmaaDoorD2Funs
import Derived.Test.YthohigdbddilmaaDoorAbsSums
import Derived.Test.YthohigdbddilmaaDoorD2LibLattice
import Derived.Test.YthohigdbddilmaaDoorD2LibSortf
namespace Go.Proofs.Tryd
open Go Go.Abs


theorem loopM_while {σ β : Type} {f : σ → Option (σ ⊕ β)} (I : σ → Prop) (μ : σ → Nat) (Q : β → Prop) (h : ∀ s, I s → (∃ s', f s = some (.inl s') ∧ I s' ∧ μ s' < μ s) ∨ ∃ b, f s = some (.inr b) ∧ Q b) : ∀ s, I s → ∃ b, loopM f s = some b ∧ Q b := by
  have key : ∀ m s, μ s = m → I s → ∃ b, loopM f s = some b ∧ Q b := by
    intro m
    induction m using Nat.strongRecOn with
    | _ m ih =>
      intro s hm hs
      rcases h s hs with ⟨s', h1, h2, h3⟩ | ⟨b, h1, h2⟩
      · rw [loopM_inl h1]; exact ih (μ s') (by omega) s' rfl h2
      · exact ⟨b, loopM_inr h1, h2⟩
  exact fun s hs => key _ s rfl hs

/-- Joins and meets of a lattice. -/
def orL (n : Nat) (ws : List Nat) (a b : Nat) : Nat := (lub n ws a b).getD 0
def andL (n : Nat) (ws : List Nat) (a b : Nat) : Nat := (lub n (downW n ws) a b).getD 0
theorem orL_tab {n : Nat} {ws : List Nat} (h : latB n ws = true) {a b : Nat} (ha : a < n) (hb : b < n) : joinT n ws a b = ((orL n ws a b : Nat) : Int) ∧ orL n ws a b < n := by
  obtain ⟨x, hx⟩ := (latB_iff.1 h a b ha hb).1
  unfold joinT orL; rw [hx]; exact ⟨rfl, (lub_spec hx).1⟩
theorem andL_tab {n : Nat} {ws : List Nat} (h : latB n ws = true) {a b : Nat} (ha : a < n) (hb : b < n) : meetT n ws a b = ((andL n ws a b : Nat) : Int) ∧ andL n ws a b < n := by
  obtain ⟨x, hx⟩ := (latB_iff.1 h a b ha hb).2
  unfold meetT andL; rw [hx]; exact ⟨rfl, (lub_spec hx).1⟩

/-- Sets of elements that have joins and meets of their own. -/
def ClosedS (n : Nat) (ws : List Nat) (S : Nat → Bool) : Prop := ∀ a b, a < n → b < n → S a = true → S b = true → S (orL n ws a b) = true ∧ S (andL n ws a b) = true
/-- What comes of some elements. -/
structure Makes (n : Nat) (ws : List Nat) (gs : Nat → Bool) (S : Nat → Bool) : Prop where
  has : ∀ i, i < n → gs i = true → S i = true
  closed : ClosedS n ws S
  least : ∀ T, ClosedS n ws T → (∀ i, i < n → gs i = true → T i = true) → ∀ i, i < n → S i = true → T i = true
theorem makes_one {n : Nat} {ws : List Nat} {gs S T : Nat → Bool} (h1 : Makes n ws gs S) (h2 : Makes n ws gs T) : ∀ i, i < n → S i = T i := fun i hi => by
  rw [Bool.eq_iff_iff]
  exact ⟨h1.least T h2.closed h2.has i hi, h2.least S h1.closed h1.has i hi⟩

/-! The program. -/
def inW (n : Nat) (ws : List Nat) (was a : Nat) : Nat → Nat → Nat
  | 0, w => w
  | k + 1, w => cond (was.testBit k) (inW n ws was a k w ||| (2 ^ orL n ws a k ||| 2 ^ andL n ws a k)) (inW n ws was a k w)
def outW (n : Nat) (ws : List Nat) (was : Nat) : Nat → Nat → Nat
  | 0, w => w
  | k + 1, w => cond (was.testBit k) (inW n ws was k n (outW n ws was k w)) (outW n ws was k w)
theorem inW_bit {n : Nat} {ws : List Nat} {was a w i : Nat} : ∀ k, (inW n ws was a k w).testBit i = true ↔ w.testBit i = true ∨ ∃ b, b < k ∧ was.testBit b = true ∧ (i = orL n ws a b ∨ i = andL n ws a b)
  | 0 => ⟨fun h => .inl h, fun h => by rcases h with h | ⟨b, hb, _⟩; exact h; omega⟩
  | k + 1 => by
    have ih := inW_bit (n := n) (ws := ws) (was := was) (a := a) (w := w) (i := i) k
    rw [inW]
    cases hk : was.testBit k
    · rw [cond_false, ih]
      constructor
      · rintro (h | ⟨b, hb, h⟩)
        · exact .inl h
        · exact .inr ⟨b, by omega, h⟩
      · rintro (h | ⟨b, hb, h1, h2⟩)
        · exact .inl h
        · by_cases e : b = k
          · subst e; rw [hk] at h1; cases h1
          · exact .inr ⟨b, by omega, h1, h2⟩
    · rw [cond_true, Nat.testBit_or, Nat.testBit_or, Nat.testBit_two_pow, Nat.testBit_two_pow]
      simp only [Bool.or_eq_true, decide_eq_true_eq]
      rw [ih]
      constructor
      · rintro ((h | ⟨b, hb, h⟩) | (h | h))
        · exact .inl h
        · exact .inr ⟨b, by omega, h⟩
        · exact .inr ⟨k, by omega, hk, .inl h.symm⟩
        · exact .inr ⟨k, by omega, hk, .inr h.symm⟩
      · rintro (h | ⟨b, hb, h1, h2⟩)
        · exact .inl (.inl h)
        · by_cases e : b = k
          · subst e
            rcases h2 with h2 | h2
            · exact .inr (.inl h2.symm)
            · exact .inr (.inr h2.symm)
          · exact .inl (.inr ⟨b, by omega, h1, h2⟩)
theorem outW_bit {n : Nat} {ws : List Nat} {was w i : Nat} : ∀ k, (outW n ws was k w).testBit i = true ↔ w.testBit i = true ∨ ∃ a b, a < k ∧ b < n ∧ was.testBit a = true ∧ was.testBit b = true ∧ (i = orL n ws a b ∨ i = andL n ws a b)
  | 0 => ⟨fun h => .inl h, fun h => by rcases h with h | ⟨a, b, ha, _⟩; exact h; omega⟩
  | k + 1 => by
    have ih := outW_bit (n := n) (ws := ws) (was := was) (w := w) (i := i) k
    rw [outW]
    cases hk : was.testBit k
    · rw [cond_false, ih]
      constructor
      · rintro (h | ⟨a, b, ha, h⟩)
        · exact .inl h
        · exact .inr ⟨a, b, by omega, h⟩
      · rintro (h | ⟨a, b, ha, h1, h2, h3⟩)
        · exact .inl h
        · by_cases e : a = k
          · subst e; rw [hk] at h2; cases h2
          · exact .inr ⟨a, b, by omega, h1, h2, h3⟩
    · rw [cond_true, inW_bit, ih]
      constructor
      · rintro ((h | ⟨a, b, ha, h⟩) | ⟨b, hb, h1, h2⟩)
        · exact .inl h
        · exact .inr ⟨a, b, by omega, h⟩
        · exact .inr ⟨k, b, by omega, hb, hk, h1, h2⟩
      · rintro (h | ⟨a, b, ha, h1, h2, h3, h4⟩)
        · exact .inl (.inl h)
        · by_cases e : a = k
          · subst e; exact .inr ⟨b, h1, h3, h4⟩
          · exact .inl (.inr ⟨a, b, by omega, h1, h2, h3, h4⟩)
theorem inW_lt {n : Nat} {ws : List Nat} (hl : latB n ws = true) {was a w : Nat} (ha : a < n) (hw : w < 2 ^ n) : ∀ k, k ≤ n → inW n ws was a k w < 2 ^ n
  | 0, _ => hw
  | k + 1, hk => by
    have ih := inW_lt hl (was := was) ha hw k (by omega)
    have h1 := (orL_tab hl ha (show k < n by omega)).2
    have h2 := (andL_tab hl ha (show k < n by omega)).2
    rw [inW]
    cases was.testBit k
    · exact ih
    · exact Nat.or_lt_two_pow ih (Nat.or_lt_two_pow (Nat.pow_lt_pow_right (by decide) h1) (Nat.pow_lt_pow_right (by decide) h2))
theorem outW_lt {n : Nat} {ws : List Nat} (hl : latB n ws = true) {was w : Nat} (hw : w < 2 ^ n) : ∀ k, k ≤ n → outW n ws was k w < 2 ^ n
  | 0, _ => hw
  | k + 1, hk => by
    have ih := outW_lt hl (was := was) hw k (by omega)
    rw [outW]
    cases was.testBit k
    · exact ih
    · exact inW_lt hl (by omega) ih n (Nat.le_refl n)

theorem to32 {n w : Nat} (hn : n ≤ 16) (h : w < 2 ^ n) : w < 2 ^ 32 := Nat.lt_of_lt_of_le h (Nat.pow_le_pow_right (by decide) (by omega))

theorem table_Or_eq {n : Nat} {ws : List Nat} (hl : latB n ws = true) (hn : n ≤ 16) {a b : Nat} (ha : a < n) (hb : b < n) : lattice_Table_Or ((((n : Int), cl ws, ()), latR n ws, ()), (a : Int), (b : Int), ()) = some (((orL n ws a b : Nat) : Int), ()) := by
  have e := sq_getI (joinT n ws) ha hb
  rw [(orL_tab hl ha hb).1] at e
  unfold lattice_Table_Or latR
  simp (disch := first | assumption | omega) only [Option.bind_some, idx_wrap ha hb hn, e]
theorem table_And_eq {n : Nat} {ws : List Nat} (hl : latB n ws = true) (hn : n ≤ 16) {a b : Nat} (ha : a < n) (hb : b < n) : lattice_Table_And ((((n : Int), cl ws, ()), latR n ws, ()), (a : Int), (b : Int), ()) = some (((andL n ws a b : Nat) : Int), ()) := by
  have e := sq_getI (meetT n ws) ha hb
  rw [(andL_tab hl ha hb).1] at e
  unfold lattice_Table_And latR
  simp (disch := first | assumption | omega) only [Option.bind_some, idx_wrap ha hb hn, e]

theorem lattice_Sub_l2_eq {n : Nat} {ws : List Nat} (hl : latB n ws = true) (hn : n ≤ 16) {a was w : Nat} (ha : a < n) (hwas : was < 2 ^ n) (hw : w < 2 ^ n) (e : Int) :
    loopM (lattice_Sub_l2 ((((n : Int), cl ws, ()), latR n ws, ()), e, ()) ((a : Int), ())) ((was : Int), ((w : Int), ()), ()) = some (.inl ((((inW n ws was a n w : Nat) : Int), ()), ())) := by
  refine loopM_bits (f := lattice_Sub_l2 ((((n : Int), cl ws, ()), latR n ws, ()), e, ()) ((a : Int), ())) n (fun k => ((((inW n ws was a k w : Nat) : Int), ()), ())) (.inl ((((inW n ws was a n w : Nat) : Int), ()), ())) hwas (by omega) (fun r q h1 h2 h3 => ?_) (fun r _ h2 => by rw [inW, h2]; rfl) rfl
  have hi := to32 hn (inW_lt hl (was := was) ha hw r (by omega))
  have g1 := (orL_tab hl ha h3).2
  have g2 := (andL_tab hl ha h3).2
  have p1 : 2 ^ orL n ws a r < 2 ^ 32 := two_pow_32 (by omega)
  have p2 : 2 ^ andL n ws a r < 2 ^ 32 := two_pow_32 (by omega)
  unfold lattice_Sub_l2
  simp (disch := first | assumption | omega) only [cond_true, Option.bind_some, nz_eq, tz_eq h1, clr_eq h1, table_Or_eq hl hn ha h3, table_And_eq hl hn ha h3, sets_One_eq (show orL n ws a r < 32 by omega), sets_One_eq (show andL n ws a r < 32 by omega), or_u32 p1 p2, or_u32 hi (Nat.or_lt_two_pow p1 p2), inW, h2]
theorem lattice_Sub_l3_eq {n : Nat} {ws : List Nat} (hl : latB n ws = true) (hn : n ≤ 16) {was w : Nat} (hwas : was < 2 ^ n) (hw : w < 2 ^ n) (e c : Int) :
    loopM (lattice_Sub_l3 ((((n : Int), cl ws, ()), latR n ws, ()), e, ()) ((c, ()), ((was : Int), ()), ())) ((was : Int), ((w : Int), ()), ()) = some (.inl ((((outW n ws was n w : Nat) : Int), ()), ())) := by
  refine loopM_bits (f := lattice_Sub_l3 ((((n : Int), cl ws, ()), latR n ws, ()), e, ()) ((c, ()), ((was : Int), ()), ())) n (fun k => ((((outW n ws was k w : Nat) : Int), ()), ())) (.inl ((((outW n ws was n w : Nat) : Int), ()), ())) hwas (by omega) (fun r q h1 h2 h3 => ?_) (fun r _ h2 => by rw [outW, h2]; rfl) rfl
  have ho := outW_lt hl (was := was) hw r (by omega)
  unfold lattice_Sub_l3
  simp (disch := first | assumption | omega) only [cond_true, Option.bind_some, Sum.elim_inl, nz_eq, tz_eq h1, clr_eq h1, wrap_u64 (lt_64 (to32 hn hwas)), lattice_Sub_l2_eq hl hn h3 hwas ho e, outW, h2]

def bitsN (w : Nat) : Nat := cntB 32 fun i => w.testBit i
theorem sub_while {n : Nat} {ws : List Nat} (hl : latB n ws = true) (hn : n ≤ 16) {g : Nat} (hg : g < 2 ^ n) (e : Int) :
    ∃ w, loopM (lattice_Sub_l4 ((((n : Int), cl ws, ()), latR n ws, ()), e, ())) ((0, ()), ((g : Int), ()), ()) = some (.inl ((((w : Nat) : Int), ()), ())) ∧ w < 2 ^ n ∧ Makes n ws (fun i => g.testBit i) (fun i => w.testBit i) := by
  let I := fun (z : (Int × Unit) × (Int × Unit) × Unit) => ∃ was w : Nat, z = (((was : Int), ()), ((w : Int), ()), ()) ∧ was < 2 ^ n ∧ w < 2 ^ n ∧ (∀ i, was.testBit i = true → w.testBit i = true) ∧ (∀ i, g.testBit i = true → w.testBit i = true) ∧
    (∀ a b, a < n → b < n → was.testBit a = true → was.testBit b = true → w.testBit (orL n ws a b) = true ∧ w.testBit (andL n ws a b) = true) ∧
    ∀ T : Nat → Bool, ClosedS n ws T → (∀ i, i < n → g.testBit i = true → T i = true) → ∀ i, i < n → w.testBit i = true → T i = true
  have key := loopM_while (f := lattice_Sub_l4 ((((n : Int), cl ws, ()), latR n ws, ()), e, ())) I (fun z => (64 - bitsN z.1.1.toNat) + (64 - bitsN z.2.1.1.toNat)) (fun b => ∃ w : Nat, b = .inl (((w : Int), ()), ()) ∧ w < 2 ^ n ∧ Makes n ws (fun i => g.testBit i) (fun i => w.testBit i)) (fun z hz => by
    obtain ⟨was, w, rfl, h1, h2, h3, h4, h5, h6⟩ := hz
    by_cases hq : was = w
    · subst hq
      refine .inr ⟨.inl (((was : Int), ()), ()), ?_, was, rfl, h1, fun i _ hi => h4 i hi, fun a b ha hb => h5 a b ha hb, fun T hT hg i hi => h6 T hT hg i hi⟩
      unfold lattice_Sub_l4
      simp (disch := first | assumption | omega) only [cond_false, bneF]
    · have ho := outW_lt hl (was := w) h2 n (Nat.le_refl n)
      have hsub : ∀ i, w.testBit i = true → (outW n ws w n w).testBit i = true := fun i hi => (outW_bit n).2 (.inl hi)
      refine .inl ⟨(((w : Int), ()), (((outW n ws w n w : Nat) : Int), ()), ()), ?_, ⟨w, outW n ws w n w, rfl, h2, ho, hsub, fun i hi => hsub i (h4 i hi), fun a b ha hb haw hbw => ⟨(outW_bit n).2 (.inr ⟨a, b, ha, hb, haw, hbw, .inl rfl⟩), (outW_bit n).2 (.inr ⟨a, b, ha, hb, haw, hbw, .inr rfl⟩)⟩, fun T hT hg i hi hw => ?_⟩, ?_⟩
      · unfold lattice_Sub_l4
        simp (disch := first | assumption | omega) only [cond_true, Option.bind_some, Sum.elim_inl, bneT, wrap_u64 (lt_64 (to32 hn h2)), lattice_Sub_l3_eq hl hn h2 h2 e]
      · rcases (outW_bit n).1 hw with h | ⟨a, b, ha, hb, haw, hbw, h⟩
        · exact h6 T hT hg i hi h
        · have := hT a b ha hb (h6 T hT hg a ha haw) (h6 T hT hg b hb hbw)
          rcases h with rfl | rfl
          · exact this.1
          · exact this.2
      · have hex : ∃ i, w.testBit i = true ∧ was.testBit i = false := Classical.byContradiction fun hno => hq (Nat.eq_of_testBit_eq fun i => by
          cases hw : w.testBit i
          · cases hwas : was.testBit i
            · rfl
            · rw [h3 i hwas] at hw; cases hw
          · cases hwas : was.testBit i
            · exact absurd ⟨i, hw, hwas⟩ hno
            · rfl)
        obtain ⟨i, hi1, hi2⟩ := hex
        have c1 : bitsN was < bitsN w := cntB_lt (fun j _ hj => h3 j hj) ⟨i, bit_lt (to32 hn h2) hi1, hi1, hi2⟩
        have c2 : bitsN w ≤ bitsN (outW n ws w n w) := cntB_mono fun j _ hj => hsub j hj
        have c3 := cntB_le (fun i => w.testBit i) 32
        have c4 := cntB_le (fun i => (outW n ws w n w).testBit i) 32
        show (64 - bitsN ((w : Int)).toNat) + (64 - bitsN (((outW n ws w n w : Nat) : Int)).toNat) < (64 - bitsN ((was : Int)).toNat) + (64 - bitsN ((w : Int)).toNat)
        simp only [Int.toNat_natCast]
        unfold bitsN at c1 c2 ⊢
        omega)
  have hp := Nat.two_pow_pos n
  obtain ⟨b, hb, w, rfl, hw, hm⟩ := key ((0, ()), ((g : Int), ()), ()) ⟨0, g, rfl, hp, hg, fun i hi => by simp at hi, fun i hi => hi, fun a b _ _ ha => by simp at ha, fun T _ hT i hi hi2 => hT i hi hi2⟩
  exact ⟨w, hb, hw, hm⟩

/-- The numbers of a set, rising. -/
def listB (n : Nat) (S : Nat → Bool) : List Nat := (List.range n).filter S
theorem listB_succ (S : Nat → Bool) (k : Nat) : listB (k + 1) S = cond (S k) (listB k S ++ [k]) (listB k S) := by
  unfold listB
  rw [List.range_succ, List.filter_append, List.filter_cons]
  cases S k
  · simp
  · rfl
theorem listB_len (S : Nat → Bool) (k : Nat) : (listB k S).length ≤ k := by
  unfold listB; exact Nat.le_trans (List.length_filter_le _ _) (by simp)
theorem listB_congr {n : Nat} {S T : Nat → Bool} (h : ∀ i, i < n → S i = T i) : listB n S = listB n T := List.filter_congr fun i hi => h i (List.mem_range.1 hi)
theorem cl_snoc3 (l : List Nat) (a : Nat) : cl l ++ [(a : Int)] = cl (l ++ [a]) := by simp [cl]
theorem sets_List_eq {n w : Nat} (hn : n ≤ 16) (hw : w < 2 ^ n) : sets_List_uint32 ((w : Int), ()) = some (cl (listB n fun i => w.testBit i), ()) := by
  have key := loopM_bits (f := sets_List_uint32_l1) n (fun k => (cl (listB k fun i => w.testBit i), (), ())) (.inl (cl (listB n fun i => w.testBit i), (), ())) hw (by omega) (fun r q h1 h2 h3 => by
    have := listB_len (fun i => w.testBit i) r
    unfold sets_List_uint32_l1
    simp (disch := first | assumption | omega) only [cond_true, Option.bind_some, length_cl, List.length_cons, List.length_nil, room8, Bool.and_self, nz_eq, tz_eq h1, clr_eq h1, listB_succ, h2, cl_snoc3]) (fun r _ h2 => by rw [listB_succ, h2]; rfl) rfl
  unfold sets_List_uint32
  simp (disch := first | assumption | omega) only [wrap_u64 (lt_64 (to32 hn hw))]
  rw [show ((w : Int), ([] : List Int), (), ()) = ((w : Int), cl (listB 0 fun i => w.testBit i), (), ()) from rfl, key]
  rfl

/-- Are all of some numbers below n? -/
def gensB (N : Int) (gs : List Int) : Bool := gs.all fun g => decide (0 ≤ g) && decide (g < N)
def genW (gs : List Nat) (k : Nat) : Nat := (gs.take k).foldl (fun w g => w ||| 2 ^ g) 0
theorem genW_succ {gs : List Nat} {k : Nat} (hk : k < gs.length) : genW gs (k + 1) = genW gs k ||| 2 ^ gs.getD k 0 := by
  unfold genW
  rw [List.take_add_one, getD_get (d := 0) hk]
  show List.foldl _ 0 (gs.take k ++ [gs.getD k 0]) = _
  rw [List.foldl_append]; rfl
theorem fold_bit (i : Nat) : ∀ (l : List Nat) (w : Nat), (l.foldl (fun w g => w ||| 2 ^ g) w).testBit i = (w.testBit i || l.contains i)
  | [], w => by simp
  | a :: l, w => by
    have e : decide (a = i) = (i == a) := by
      rw [Bool.eq_iff_iff, decide_eq_true_eq, beq_iff_eq]; exact eq_comm
    rw [List.foldl_cons, fold_bit i l, Nat.testBit_or, Nat.testBit_two_pow, List.contains_cons, Bool.or_assoc, e]
theorem genW_bit (gs : List Nat) (i : Nat) : (genW gs gs.length).testBit i = gs.contains i := by
  unfold genW; rw [fold_bit, List.take_length]; simp
theorem genW_lt {n : Nat} {gs : List Nat} (h : ∀ g ∈ gs, g < n) (k : Nat) : genW gs k < 2 ^ n := Nat.lt_pow_two_of_testBit _ fun i hi => by
  unfold genW
  rw [fold_bit]
  cases hc : (gs.take k).contains i
  · simp
  · rw [List.contains_iff_mem] at hc
    have := h i (List.mem_of_mem_take hc)
    omega

theorem gens_nat {n : Nat} {gs : List Int} (h : gensB (n : Int) gs = true) : ∃ hs : List Nat, gs = cl hs ∧ ∀ g ∈ hs, g < n := by
  unfold gensB at h
  rw [List.all_eq_true] at h
  obtain ⟨hs, rfl⟩ := cl_of (l := gs) fun v hv => by
    have := h v hv
    rw [Bool.and_eq_true, decide_eq_true_eq] at this
    exact this.1
  refine ⟨hs, rfl, fun g hg => ?_⟩
  have := h (g : Int) (List.mem_map.2 ⟨g, hg, rfl⟩)
  rw [Bool.and_eq_true, decide_eq_true_eq, decide_eq_true_eq] at this
  omega
theorem gens_bad {n : Nat} {gs : List Int} (h : gensB (n : Int) gs = false) : ∃ k, k < gs.length ∧ ¬ (0 ≤ gs.getD k 0 ∧ gs.getD k 0 < (n : Int)) := Classical.byContradiction fun hno => by
  have : gensB (n : Int) gs = true := by
    unfold gensB
    rw [List.all_eq_true]
    intro v hv
    obtain ⟨k, hk, rfl⟩ := List.getElem_of_mem hv
    have h2 : 0 ≤ gs.getD k 0 ∧ gs.getD k 0 < (n : Int) := Classical.byContradiction fun h2 => hno ⟨k, hk, h2⟩
    rw [List.getD_eq_getElem?_getD, List.getElem?_eq_getElem hk] at h2
    rw [Bool.and_eq_true, decide_eq_true_eq, decide_eq_true_eq]
    exact h2
  rw [h] at this; cases this
theorem map_clS (fs : List Nat) : (cl fs).map Int.toNat = fs := by
  unfold cl; rw [List.map_map]
  exact List.map_id'' (fun n => rfl) fs

/-- What the program answers. -/
noncomputable def subc (N : Int) (ws : List Nat) (gs : List Int) : Int := if latc N ws = 0 then (if (gs.length : Int) > 16 then 1 else cond (gensB N gs) 0 2) else latc N ws

/-- The way through the elements that are given, up to the first that may not be. -/
theorem sub_gens_bad {n : Nat} {ws : List Nat} (hn : n ≤ 16) {gs : List Int} (hlen : gs.length ≤ 16) (hbad : gensB (n : Int) gs = false) :
    ∃ c, loopM (lattice_Sub_l1 (((n : Int), cl ws, ()), gs, ())) ([], 0, 0, (0, ()), ()) = some (.inl ([], 2, c, ())) := by
  obtain ⟨k0, hk0, hb0⟩ := gens_bad hbad
  have key : ∀ m k w, k + m = k0 → loopM (lattice_Sub_l1 (((n : Int), cl ws, ()), gs, ())) ([], 0, (k : Int), (w, ()), ()) = loopM (lattice_Sub_l1 (((n : Int), cl ws, ()), gs, ())) ([], 0, (k : Int), (w, ()), ()) := fun _ _ _ _ => rfl
  have step : ∀ m k, k + m = gs.length → ∀ w, (∃ j, k ≤ j ∧ j < gs.length ∧ ¬ (0 ≤ gs.getD j 0 ∧ gs.getD j 0 < (n : Int))) → ∃ c, loopM (lattice_Sub_l1 (((n : Int), cl ws, ()), gs, ())) ([], 0, (k : Int), (w, ()), ()) = some (.inl ([], 2, c, ())) := by
    intro m
    induction m with
    | zero => intro k hk w ⟨j, h1, h2, _⟩; omega
    | succ m ih =>
      intro k hk w ⟨j, h1, h2, h3⟩
      have hkl : k < gs.length := by omega
      by_cases hk1 : gs.getD k 0 < 0
      · refine ⟨(w, ()), loopM_inr ?_⟩
        unfold lattice_Sub_l1
        simp (disch := first | assumption | omega) only [decide_true, cond_true, cond_false, Option.bind_some, dcT, dcF, wrapS, getI_int, hk1]
      · by_cases hk2 : gs.getD k 0 ≥ (n : Int)
        · refine ⟨(w, ()), loopM_inr ?_⟩
          unfold lattice_Sub_l1
          simp (disch := first | assumption | omega) only [decide_true, decide_false, cond_true, cond_false, Option.bind_some, dcT, wrapS, getI_int, hk1, hk2]
        · obtain ⟨g, hg⟩ := Int.eq_ofNat_of_zero_le (show 0 ≤ gs.getD k 0 by omega)
          have hj : k ≠ j := fun e => by subst e; omega
          obtain ⟨c, hc⟩ := ih (k + 1) (by omega) (bitsI .or .u32 w ((2 ^ g : Nat) : Int)) ⟨j, by omega, h2, h3⟩
          refine ⟨c, ?_⟩
          rw [← hc]
          refine loopM_inl ?_
          unfold lattice_Sub_l1
          simp (disch := first | assumption | omega) only [cond_true, cond_false, Option.bind_some, dcT, dcF, wrapS, getI_int, hg, sets_One_eq (show g < 32 by omega)]
  exact step gs.length 0 (by omega) 0 ⟨k0, by omega, hk0, hb0⟩

theorem lattice_Sub_eq {N : Int} {ws : List Nat} (hf : Fit ws) (gs : List Int) :
    (subc N ws gs ≠ 0 → lattice_Sub ((N, cl ws, ()), gs, ()) = some ([], subc N ws gs, ())) ∧
    (subc N ws gs = 0 → ∃ S : Nat → Bool, lattice_Sub ((N, cl ws, ()), gs, ()) = some (cl (listB N.toNat S), 0, ()) ∧ Makes N.toNat ws (fun i => (gs.map Int.toNat).contains i) S) := by
  unfold lattice_Sub subc
  rw [lattice_Of_eq hf]
  by_cases h : latc N ws = 0
  · obtain ⟨h0, hpos, hlat⟩ := latc_zero h
    obtain ⟨h1, h2, h3, hin, o⟩ := ordc_zero h0
    obtain ⟨n, rfl⟩ := Int.eq_ofNat_of_zero_le h1
    have hl : ws.length = n := by omega
    have hn : n ≤ 16 := by omega
    have hlat : latB n ws = true := hlat
    rw [if_pos h]
    by_cases hg : (gs.length : Int) > 16
    · rw [if_pos hg]
      refine ⟨fun _ => ?_, fun h => by cases h⟩
      simp (disch := first | assumption | omega) only [cond_true, cond_false, Option.bind_some, dcT, Int.toNat_natCast, if_true, h, bneF]
    · rw [if_neg hg]
      cases hb : gensB (n : Int) gs
      · refine ⟨fun _ => ?_, fun h => by cases h⟩
        obtain ⟨c, hc⟩ := sub_gens_bad (ws := ws) hn (by omega) hb
        simp (disch := first | assumption | omega) only [cond_false, Option.bind_some, Sum.elim_inl, dcF, Int.toNat_natCast, if_true, h, bneF, hc]
      · refine ⟨fun h => absurd rfl h, fun _ => ?_⟩
        obtain ⟨hs, rfl, hlt⟩ := gens_nat hb
        rw [cl_length] at hg
        have l1 := loopM_sim (f := lattice_Sub_l1 (((n : Int), cl ws, ()), cl hs, ())) hs.length (fun k => (([] : List Int), (0 : Int), (k : Int), (((genW hs k : Nat) : Int), ()), ())) (.inr (.inl ([], 0, (((genW hs hs.length : Nat) : Int), ()), ()))) (fun k hk => by
          have hg := hlt _ (List.mem_of_getElem? (getD_get (d := 0) hk))
          have hw := to32 hn (genW_lt hlt k)
          unfold lattice_Sub_l1
          simp (disch := first | assumption | omega) only [cond_true, cond_false, Option.bind_some, dcT, dcF, getI_cl, wrapS, length_cl, sets_One_eq (show hs.getD k 0 < 32 by omega), or_u32 hw (two_pow_32 (show hs.getD k 0 < 32 by omega)), genW_succ hk]) (by
          unfold lattice_Sub_l1
          simp (disch := first | assumption | omega) only [cond_false, dcF, wrapS, length_cl]) (s0 := ([], 0, 0, (0, ()), ())) rfl
        obtain ⟨w, h4, h5, h6⟩ := sub_while hlat hn (genW_lt hlt hs.length) 0
        refine ⟨fun i => w.testBit i, ?_, ?_⟩
        · simp (disch := first | assumption | omega) only [cond_false, Option.bind_some, Sum.elim_inl, Sum.elim_inr, dcF, Int.toNat_natCast, length_cl, if_true, h, bneF, l1, h4, sets_List_eq hn h5]
        · rw [map_clS]
          have e : (fun i => (genW hs hs.length).testBit i) = fun i => hs.contains i := funext fun i => genW_bit hs i
          rw [e] at h6
          exact h6
  · rw [if_neg h]
    refine ⟨fun _ => ?_, fun h' => absurd h' h⟩
    simp (disch := first | assumption | omega) only [cond_true, Option.bind_some, if_false, h, bneT]

/-! The reference: turns over all pairs, in place. -/
def tin (n : Nat) (ws : List Nat) (a : Nat) : Nat → (Nat → Bool) → Nat → Bool
  | 0, S => S
  | k + 1, S => fun i => if tin n ws a k S a = true ∧ tin n ws a k S k = true ∧ (i = orL n ws a k ∨ i = andL n ws a k) then true else tin n ws a k S i
def tout (n : Nat) (ws : List Nat) : Nat → (Nat → Bool) → Nat → Bool
  | 0, S => S
  | k + 1, S => tin n ws k n (tout n ws k S)
def turns (n : Nat) (ws : List Nat) (S : Nat → Bool) : Nat → Nat → Bool
  | 0 => S
  | t + 1 => tout n ws n (turns n ws S t)
theorem tin_up {n : Nat} {ws : List Nat} {a : Nat} {S : Nat → Bool} {i : Nat} (h : S i = true) : ∀ k, tin n ws a k S i = true
  | 0 => h
  | k + 1 => by simp only [tin]; split; rfl; exact tin_up h k
theorem tout_up {n : Nat} {ws : List Nat} {S : Nat → Bool} {i : Nat} (h : S i = true) : ∀ k, tout n ws k S i = true
  | 0 => h
  | k + 1 => tin_up (tout_up h k) n
theorem tin_in {n : Nat} {ws : List Nat} {a : Nat} (ha : a < n) {S T : Nat → Bool} (hT : ClosedS n ws T) (h : ∀ i, i < n → S i = true → T i = true) : ∀ k, k ≤ n → ∀ i, i < n → tin n ws a k S i = true → T i = true
  | 0, _ => h
  | k + 1, hk => fun i hi hx => by
    simp only [tin] at hx
    split at hx
    · rename_i hc
      have := hT a k ha (by omega) (tin_in ha hT h k (by omega) a ha hc.1) (tin_in ha hT h k (by omega) k (by omega) hc.2.1)
      rcases hc.2.2 with e | e
      · rw [e]; exact this.1
      · rw [e]; exact this.2
    · exact tin_in ha hT h k (by omega) i hi hx
theorem tout_in {n : Nat} {ws : List Nat} {S T : Nat → Bool} (hT : ClosedS n ws T) (h : ∀ i, i < n → S i = true → T i = true) : ∀ k, k ≤ n → ∀ i, i < n → tout n ws k S i = true → T i = true
  | 0, _ => h
  | k + 1, hk => tin_in (by omega) hT (tout_in hT h k (by omega)) n (Nat.le_refl n)
theorem turns_in {n : Nat} {ws : List Nat} {S T : Nat → Bool} (hT : ClosedS n ws T) (h : ∀ i, i < n → S i = true → T i = true) : ∀ t, ∀ i, i < n → turns n ws S t i = true → T i = true
  | 0 => h
  | t + 1 => tout_in hT (turns_in hT h t) n (Nat.le_refl n)
theorem tin_hit {n : Nat} {ws : List Nat} {a b : Nat} {S : Nat → Bool} (ha : S a = true) (hb : S b = true) : ∀ k, b < k → tin n ws a k S (orL n ws a b) = true ∧ tin n ws a k S (andL n ws a b) = true
  | 0, h => by omega
  | k + 1, h => by
    by_cases e : b = k
    · subst e
      have h1 := tin_up (n := n) (ws := ws) (a := a) ha b
      have h2 := tin_up (n := n) (ws := ws) (a := a) hb b
      exact ⟨if_pos ⟨h1, h2, .inl rfl⟩, if_pos ⟨h1, h2, .inr rfl⟩⟩
    · obtain ⟨h1, h2⟩ := tin_hit ha hb k (by omega)
      simp only [tin]
      refine ⟨?_, ?_⟩ <;> split <;> first | rfl | assumption
theorem tout_hit {n : Nat} {ws : List Nat} {a b : Nat} {S : Nat → Bool} (hbn : b < n) (ha : S a = true) (hb : S b = true) : ∀ k, a < k → tout n ws k S (orL n ws a b) = true ∧ tout n ws k S (andL n ws a b) = true
  | 0, h => by omega
  | k + 1, h => by
    by_cases e : a = k
    · subst e
      exact tin_hit (tout_up ha a) (tout_up hb a) n hbn
    · obtain ⟨h1, h2⟩ := tout_hit hbn ha hb k (by omega)
      exact ⟨tin_up h1 n, tin_up h2 n⟩
theorem turns_up {n : Nat} {ws : List Nat} {S : Nat → Bool} {i : Nat} (h : S i = true) : ∀ t, turns n ws S t i = true
  | 0 => h
  | t + 1 => tout_up (turns_up h t) n
theorem turn_more {n : Nat} {ws : List Nat} (hl : latB n ws = true) {S : Nat → Bool} (t : Nat) : ClosedS n ws (turns n ws S t) ∨ cntB n (turns n ws S t) < cntB n (turns n ws S (t + 1)) := by
  by_cases h : ∀ i, i < n → turns n ws S (t + 1) i = true → turns n ws S t i = true
  · refine .inl fun a b ha hb h1 h2 => ?_
    have := tout_hit (n := n) (ws := ws) hb h1 h2 n ha
    exact ⟨h _ (orL_tab hl ha hb).2 this.1, h _ (andL_tab hl ha hb).2 this.2⟩
  · refine .inr (cntB_lt (fun i _ hi => tout_up hi n) (Classical.byContradiction fun hno => h fun i hi h1 => ?_))
    cases h2 : turns n ws S t i
    · exact absurd ⟨i, hi, h1, h2⟩ hno
    · rfl
theorem turns_stop {n : Nat} {ws : List Nat} (hl : latB n ws = true) {S : Nat → Bool} : ∀ t, (∃ u, u ≤ t ∧ ClosedS n ws (turns n ws S u)) ∨ t < cntB n (turns n ws S (t + 1))
  | 0 => by
    rcases turn_more hl (S := S) 0 with h | h
    · exact .inl ⟨0, Nat.le_refl 0, h⟩
    · exact .inr (by omega)
  | t + 1 => by
    rcases turns_stop hl (S := S) t with ⟨u, h1, h2⟩ | h1
    · exact .inl ⟨u, by omega, h2⟩
    · rcases turn_more hl (S := S) (t + 1) with h | h
      · exact .inl ⟨t + 1, Nat.le_refl _, h⟩
      · exact .inr (by omega)
theorem turns_later {n : Nat} {ws : List Nat} {S : Nat → Bool} {u : Nat} (h : ClosedS n ws (turns n ws S u)) : ∀ k i, i < n → turns n ws S (u + k) i = true → turns n ws S u i = true
  | 0, _, _, hx => hx
  | k + 1, i, hi, hx => tout_in h (fun j hj => turns_later h k j hj) n (Nat.le_refl n) i hi hx
theorem turns_make {n : Nat} {ws : List Nat} (hl : latB n ws = true) (S : Nat → Bool) : Makes n ws S (turns n ws S n) := by
  refine ⟨fun i _ hi => turns_up hi n, ?_, fun T hT h => turns_in hT h n⟩
  rcases turns_stop hl (S := S) n with ⟨u, h1, h2⟩ | h
  · obtain ⟨k, hk⟩ := Nat.exists_eq_add_of_le h1
    have hdown : ∀ i, i < n → turns n ws S n i = true → turns n ws S u i = true := fun i hi hx => turns_later h2 k i hi (by rw [← hk]; exact hx)
    have hup : ∀ i, turns n ws S u i = true → turns n ws S n i = true := fun i hi => by
      have : ∀ k, turns n ws S (u + k) i = true := fun k => by
        induction k with
        | zero => exact hi
        | succ k ih => exact tout_up ih n
      rw [show turns n ws S n i = turns n ws S (u + k) i from by rw [← hk]]
      exact this k
    intro a b ha hb h3 h4
    have := h2 a b ha hb (hdown a ha h3) (hdown b hb h4)
    exact ⟨hup _ this.1, hup _ this.2⟩
  · have := cntB_le (turns n ws S (n + 1)) n
    omega

theorem ref_Or_eq {n : Nat} {ws : List Nat} (hl : latB n ws = true) (hn : n ≤ 16) {a b : Nat} (ha : a < n) (hb : b < n) : ref_Or (latR n ws, (n : Int), (a : Int), (b : Int), ()) = some (((orL n ws a b : Nat) : Int), ()) := by
  have e := sq_getI (joinT n ws) ha hb
  rw [(orL_tab hl ha hb).1] at e
  unfold ref_Or latR
  simp (disch := first | assumption | omega) only [Option.bind_some, idx_wrap ha hb hn, e]
theorem ref_And_eq {n : Nat} {ws : List Nat} (hl : latB n ws = true) (hn : n ≤ 16) {a b : Nat} (ha : a < n) (hb : b < n) : ref_And (latR n ws, (n : Int), (a : Int), (b : Int), ()) = some (((andL n ws a b : Nat) : Int), ()) := by
  have e := sq_getI (meetT n ws) ha hb
  rw [(andL_tab hl ha hb).1] at e
  unfold ref_And latR
  simp (disch := first | assumption | omega) only [Option.bind_some, idx_wrap ha hb hn, e]
theorem room1 {n : Nat} (h : n ≤ 1000000) : roomOk n 1 = true := by
  unfold roomOk
  rw [Bool.and_eq_true]
  exact ⟨Nat.ble_eq_true_of_le (by omega), Nat.ble_eq_true_of_le (by omega)⟩

theorem ref_LatticeSub_eq {n : Nat} {ws : List Nat} (hl : latB n ws = true) (hn : n ≤ 16) {hs : List Nat} (hlen : hs.length ≤ 16) (hlt : ∀ g ∈ hs, g < n) :
    ref_LatticeSub (((n : Int), cl ws, ()), latR n ws, cl hs, ()) = some (cl (listB n (turns n ws (fun i => hs.contains i) n)), ()) := by
  have l1 := loopM_sim (f := ref_LatticeSub_l1 (((n : Int), cl ws, ()), latR n ws, cl hs, ())) hs.length (fun k => ((k : Int), tab n (fun i => (hs.take k).contains i), ())) (.inl (tab n (fun i => hs.contains i), ())) (fun k hk => by
    have hg := hlt _ (List.mem_of_getElem? (getD_get (d := 0) hk))
    have e : (tab n fun i => if i = hs.getD k 0 then true else (hs.take k).contains i) = tab n fun i => (hs.take (k + 1)).contains i := tab_congr fun i _ => by
      rw [List.take_add_one, getD_get (d := 0) hk]
      by_cases h : i = hs.getD k 0
      · rw [if_pos h, h]; simp
      · rw [if_neg h, Bool.eq_iff_iff]
        simp only [List.contains_iff_mem, List.mem_append, Option.toList, List.mem_singleton]
        exact ⟨.inl, fun h2 => h2.resolve_right h⟩
    unfold ref_LatticeSub_l1
    simp (disch := first | assumption | omega) only [cond_true, Option.bind_some, dcT, getI_cl, get_tab, inB_T, Int.toNat_natCast, wrapS, length_cl, length_tab, tab_set, e]) (by
    unfold ref_LatticeSub_l1
    simp (disch := first | assumption | omega) only [cond_false, dcF, wrapS, length_cl, length_tab, List.take_length]) (s0 := (0, List.replicate n false, ())) (by rw [rep_tab]; rfl)
  have l2 : ∀ (a : Nat) (S : Nat → Bool) (y : List Bool × Unit), a < n → loopM (ref_LatticeSub_l2 (((n : Int), cl ws, ()), latR n ws, cl hs, ()) ((a : Int), y)) (0, tab n S, ()) = some (.inl (tab n (tin n ws a n S), ())) := fun a S y ha => by
    refine loopM_sim (f := ref_LatticeSub_l2 (((n : Int), cl ws, ()), latR n ws, cl hs, ()) ((a : Int), y)) n (fun k => ((k : Int), tab n (tin n ws a k S), ())) _ (fun b hb => ?_) ?_ rfl
    · have g1 := (orL_tab hl ha hb).2
      have g2 := (andL_tab hl ha hb).2
      unfold ref_LatticeSub_l2
      simp (disch := first | assumption | omega) only [cond_true, Option.bind_some, dcT, get_tab, inB_T, Int.toNat_natCast, wrapS, length_tab, ref_Or_eq hl hn ha hb, ref_And_eq hl hn ha hb, tab_set]
      by_cases h1 : tin n ws a b S a = true
      · by_cases h2 : tin n ws a b S b = true
        · simp (disch := first | assumption | omega) only [cond_true, h1, h2]
          refine congrArg (fun x => some (Sum.inl (_, x, ()))) (tab_congr fun i _ => ?_)
          show _ = if _ then _ else _
          by_cases e1 : i = andL n ws a b
          · rw [if_pos e1, if_pos ⟨h1, h2, .inr e1⟩]
          · rw [if_neg e1]
            by_cases e2 : i = orL n ws a b
            · rw [if_pos e2, if_pos ⟨h1, h2, .inl e2⟩]
            · rw [if_neg e2, if_neg (fun c => c.2.2.elim e2 e1)]
        · have h2' : tin n ws a b S b = false := by simpa using h2
          simp (disch := first | assumption | omega) only [cond_true, cond_false, h1, h2']
          refine congrArg (fun x => some (Sum.inl (_, x, ()))) (tab_congr fun i _ => ?_)
          show _ = if _ then _ else _
          rw [if_neg (fun c => h2 c.2.1)]
      · have h1' : tin n ws a b S a = false := by simpa using h1
        simp (disch := first | assumption | omega) only [cond_false, h1']
        refine congrArg (fun x => some (Sum.inl (_, x, ()))) (tab_congr fun i _ => ?_)
        show _ = if _ then _ else _
        rw [if_neg (fun c => h1 c.1)]
    · unfold ref_LatticeSub_l2
      simp (disch := first | assumption | omega) only [cond_true, cond_false, Option.bind_some, dcF, get_tab, inB_T, Int.toNat_natCast, wrapS, length_tab]
  have l3 : ∀ (S : Nat → Bool), loopM (ref_LatticeSub_l3 (((n : Int), cl ws, ()), latR n ws, cl hs, ())) (0, tab n S, ()) = some (.inl (tab n (tout n ws n S), ())) := fun S => by
    refine loopM_sim (f := ref_LatticeSub_l3 (((n : Int), cl ws, ()), latR n ws, cl hs, ())) n (fun k => ((k : Int), tab n (tout n ws k S), ())) _ (fun a ha => ?_) ?_ rfl
    · unfold ref_LatticeSub_l3
      simp (disch := first | assumption | omega) only [cond_true, Option.bind_some, Sum.elim_inl, dcT, wrapS, l2 a _ _ ha]
      rfl
    · unfold ref_LatticeSub_l3
      simp (disch := first | assumption | omega) only [cond_false, dcF, wrapS]
  have l4 := loopM_sim (f := ref_LatticeSub_l4 (((n : Int), cl ws, ()), latR n ws, cl hs, ())) n (fun k => ((k : Int), tab n (turns n ws (fun i => hs.contains i) k), ())) (.inl (tab n (turns n ws (fun i => hs.contains i) n), ())) (fun a ha => by
    unfold ref_LatticeSub_l4
    simp (disch := first | assumption | omega) only [cond_true, Option.bind_some, Sum.elim_inl, dcT, wrapS, l3]
    rfl) (by
    unfold ref_LatticeSub_l4
    simp (disch := first | assumption | omega) only [cond_false, dcF, wrapS]) (s0 := (0, tab n (fun i => hs.contains i), ())) rfl
  have l5 : ∀ (S : Nat → Bool), loopM (ref_LatticeSub_l5 (((n : Int), cl ws, ()), latR n ws, cl hs, ()) (tab n S, ())) ([], 0, ()) = some (.inl (cl (listB n S), ())) := fun S => by
    refine loopM_sim (f := ref_LatticeSub_l5 (((n : Int), cl ws, ()), latR n ws, cl hs, ()) (tab n S, ())) n (fun k => (cl (listB k S), (k : Int), ())) _ (fun a ha => ?_) ?_ rfl
    · have := listB_len S a
      unfold ref_LatticeSub_l5
      simp (disch := first | assumption | omega) only [cond_true, Option.bind_some, dcT, get_tab, inB_T, Int.toNat_natCast, wrapS, length_cl, length_tab, List.length_cons, List.length_nil, room8, Bool.and_self, listB_succ, cl_snoc3]
      cases S a <;> rfl
    · unfold ref_LatticeSub_l5
      simp (disch := first | assumption | omega) only [cond_false, dcF, Int.toNat_natCast, wrapS, length_cl, length_tab, List.length_cons, List.length_nil, Bool.and_true, Bool.true_and]
  unfold ref_LatticeSub
  simp (disch := first | assumption | omega) only [cond_true, Option.bind_some, Sum.elim_inl, dcT, Int.toNat_natCast, Bool.and_self, room1, l1, l4, l5]

end Go.Proofs.Tryd
