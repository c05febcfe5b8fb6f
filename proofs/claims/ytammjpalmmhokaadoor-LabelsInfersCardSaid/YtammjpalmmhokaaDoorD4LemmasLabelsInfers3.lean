/- Lemmas on functions of the program, by name. -/
import Derived.Test.YtammjpalmmhokaaDoorD4Funs
import Derived.Test.YtammjpalmmhokaaDoorAbsSums
import Derived.Test.YtammjpalmmhokaaDoorD4LemmasLabelsInfers2
namespace Go.Proofs.Tryd
section
open Go Go.Abs


theorem edge_ok {N : List Node} {E : List Edge} {i : Nat} (h : edgeC N E i = 0) : 0 ≤ frE E i ∧ frE E i < N.length ∧ 0 ≤ toE E i ∧ toE E i < N.length ∧ 0 ≤ poE E i ∧ poE E i < portsB (N.getD (toE E i).toNat v0) ∧ twiceB E i = false ∧
    outB (N.getD (frE E i).toNat v0) = (N.getD (toE E i).toNat v0).2.1 := by
  unfold edgeC at h
  split at h
  · cases h
  · rename_i h1
    split at h
    · cases h
    · rename_i h2
      split at h
      · cases h
      · rename_i h3
        split at h
        · rename_i h4
          exact ⟨by omega, by omega, by omega, by omega, by omega, by omega, by simpa using h3, h4⟩
        · cases h

abbrev XG := (((List (Int × (Int × ((Int × (Int × (Int × Unit))) × Unit)))) × ((List (Int × (Int × (Int × Unit)))) × Unit)) × Unit)

def edgeG (N : List Node) (E : List Edge) (i : Nat) : Option (List Int × (Int × Int × Unit) × List ((Int × (Int × Unit)) × Int) × Unit) :=
  if edgeC N E i = 0 then none else some (cl (tab N.length (toW E i)), (edgeC N E i, (i : Int), ()), takenM E i, ())

theorem check_l2 {N : List Node} {E : List Edge} (hn : N.length ≤ 12) (hN : N.all mayB = true) (hE : E.length ≤ 20) :
    loopM (graph_Check_l2 ((N, E, ()), ())) ((0 : Int), cl (tab N.length fun _ => 0), ((0 : Int), (0 : Int), ()), ([] : List ((Int × (Int × Unit)) × Int)), ()) =
      some (exitOr ((List.range E.length).findSome? (edgeG N E)) (.inl (cl (tab N.length (toW E E.length)), ((0 : Int), (0 : Int), ()), takenM E E.length, ()))) := by
  refine loopM_exitI (f := graph_Check_l2 ((N, E, ()), ())) E.length (fun i => ((i : Int), cl (tab N.length (toW E i)), ((0 : Int), (0 : Int), ()), takenM E i, ())) (edgeG N E) _ (fun i hi hprev => ?_) (fun _ => ?_)
  · have hok : ∀ j, j < i → edgeC N E j = 0 := fun j hj => by
      have := hprev j hj
      unfold edgeG at this
      split at this
      · assumption
      · cases this
    have hw : ∀ a, toW E i a < 2 ^ 32 := fun a => Nat.lt_of_lt_of_le (toW_lt a i fun j hj => ⟨(edge_ok (hok j hj)).2.2.1, (edge_ok (hok j hj)).2.2.2.1⟩) (Nat.pow_le_pow_right (by decide) (by omega))
    unfold graph_Check_l2 edgeG edgeC
    simp only [dcT (show (i : Int) < (E.length : Int) by omega), cond_true, getI_D e0 (Int.natCast_nonneg i) (show (i : Int) < (E.length : Int) by omega), Int.toNat_natCast, Option.bind_some]
    show (cond (decide ((if toE E i < frE E i then toE E i else frE E i) < 0)) _ (cond (decide ((if toE E i > frE E i then toE E i else frE E i) ≥ (N.length : Int))) _ (cond (decide (poE E i < 0)) _ ((getI N (toE E i)).bind _)))) = _
    by_cases h1 : (if toE E i < frE E i then toE E i else frE E i) < 0
    · have hy : frE E i < 0 ∨ (N.length : Int) ≤ frE E i ∨ toE E i < 0 ∨ (N.length : Int) ≤ toE E i := by split at h1 <;> omega
      rw [dcT h1, cond_true, if_pos hy]
      rfl
    by_cases h2 : (if toE E i > frE E i then toE E i else frE E i) ≥ (N.length : Int)
    · have hy : frE E i < 0 ∨ (N.length : Int) ≤ frE E i ∨ toE E i < 0 ∨ (N.length : Int) ≤ toE E i := by split at h2 <;> omega
      rw [dcF h1, cond_false, dcT h2, cond_true, if_pos hy]
      rfl
    have hno : ¬ (frE E i < 0 ∨ (N.length : Int) ≤ frE E i ∨ toE E i < 0 ∨ (N.length : Int) ≤ toE E i) := by
      split at h1 <;> split at h2 <;> omega
    have f0 : 0 ≤ frE E i := by omega
    have f1 : frE E i < N.length := by omega
    have t0 : 0 ≤ toE E i := by omega
    have t1 : toE E i < N.length := by omega
    rw [dcF h1, cond_false, dcF h2, cond_false]
    simp only [if_neg hno]
    by_cases h5 : poE E i < 0
    · have hy : poE E i < 0 ∨ portsB (N.getD (toE E i).toNat v0) ≤ poE E i := .inl h5
      rw [dcT h5, cond_true]; simp only [if_pos hy]; rfl
    have hto := getI_D (l := N) v0 t0 t1
    rw [dcF h5, cond_false, hto, Option.bind_some, graph_Ports_eq, Option.bind_some]
    show (cond (decide (poE E i ≥ portsB (N.getD (toE E i).toNat v0))) _ _) = _
    by_cases h6 : poE E i ≥ portsB (N.getD (toE E i).toNat v0)
    · have hy : poE E i < 0 ∨ portsB (N.getD (toE E i).toNat v0) ≤ poE E i := .inr h6
      rw [dcT h6, cond_true]; simp only [if_pos hy]; rfl
    have hno2 : ¬ (poE E i < 0 ∨ portsB (N.getD (toE E i).toNat v0) ≤ poE E i) := by omega
    rw [dcF h6, cond_false]
    simp only [if_neg hno2]
    have htk : (mapGet tkT (takenM E i) (toE E i, poE E i, ())).isSome = twiceB E i := taken_has E _ _ i
    show (cond (mapGet tkT (takenM E i) (toE E i, poE E i, ())).isSome _ _) = _
    rw [htk]
    cases h7 : twiceB E i with
    | true => rfl
    | false =>
      rw [cond_false]
      simp only [if_neg (show ¬ (false = true) by simp)]
      have hfr := getI_D (l := N) v0 f0 f1
      show ((getI N (frE E i)).bind _) = _
      rw [hfr, Option.bind_some, graph_Out_eq (may_at hN f0 f1), Option.bind_some]
      show ((getI N (toE E i)).bind _) = _
      rw [hto, Option.bind_some]
      show (cond (outB (N.getD (frE E i).toNat v0) != (N.getD (toE E i).toNat v0).2.1) _ _) = _
      rw [cond_bne]
      by_cases h8 : outB (N.getD (frE E i).toNat v0) = (N.getD (toE E i).toNat v0).2.1
      · rw [if_pos h8]
        simp only [if_pos h8]
        obtain ⟨a, ha⟩ := Int.eq_ofNat_of_zero_le f0
        obtain ⟨b, hb⟩ := Int.eq_ofNat_of_zero_le t0
        have han : a < N.length := by omega
        have hbn : b < N.length := by omega
        have ha' : (E.getD i e0).1 = (a : Int) := ha
        have hb' : (E.getD i e0).2.1 = (b : Int) := hb
        have hg : (cl (tab N.length (toW E i)))[a]? = some ((toW E i a : Nat) : Int) := by
          rw [get_cl (by rw [length_tab]; exact han), getD_tab han]
        simp only [ha', hb', length_cl, length_tab, inB_T han, cond_true, Int.toNat_natCast, hg, Option.bind_some, sets_One_eq (show b < 32 by omega), or_u32 (hw a) (two_pow_32 (show b < 32 by omega)), cl_set, tab_set, wrapS (show i < 9223372036854775807 by omega)]
        have ht : (tab N.length fun j => if j = a then toW E i a ||| 2 ^ b else toW E i j) = tab N.length (toW E (i + 1)) := tab_congr fun j hj => ?_
        · rw [ht]
          show some (Sum.inl (((i + 1 : Nat) : Int), cl (tab N.length (toW E (i + 1))), ((0 : Int), (0 : Int), ()), mapSet tkT (takenM E i) ((b : Int), poE E i, ()) (i : Int), ())) = some (Sum.inl (((i + 1 : Nat) : Int), cl (tab N.length (toW E (i + 1))), ((0 : Int), (0 : Int), ()), mapSet tkT (takenM E i) (toE E i, poE E i, ()) (i : Int), ()))
          rw [hb]
        simp only [toW]
        by_cases hja : j = a
        · subst hja; rw [if_pos rfl, if_pos ha.symm, hb]; rfl
        · rw [if_neg hja, if_neg (by omega)]
      · rw [if_neg h8]
        simp only [if_neg h8]
        rfl
  · unfold graph_Check_l2
    simp only [dcF (show ¬ (E.length : Int) < (E.length : Int) by omega), cond_false]
end

section
open Go Go.Abs


theorem find_const {β : Type} (p : Nat → Bool) (b : β) (l : List Nat) : (l.findSome? fun r => cond (p r) (some b) none) = if l.any p = true then some b else none := by
  induction l with
  | nil => rfl
  | cons a r ih =>
    rw [List.findSome?_cons, List.any_cons]
    cases p a with
    | true => rfl
    | false => rw [cond_false, ih]; simp

theorem ports_cases (v : Node) : portsB v = 0 ∨ portsB v = 1 ∨ portsB v = 2 := by
  unfold portsB
  by_cases h1 : v.1 = 1
  · exact .inl (if_pos h1)
  · rw [if_neg h1]
    by_cases h3 : v.1 = 3
    · exact .inr (.inr (if_pos h3))
    · exact .inr (.inl (if_neg h3))
theorem ports_le (v : Node) : 0 ≤ portsB v ∧ portsB v ≤ 2 := by rcases ports_cases v with h | h | h <;> omega

/-- Is a port of a node without an edge? -/
def hasB (E : List Edge) (t p : Int) : Bool := (List.range E.length).any fun j => toE E j == t && poE E j == p
def missB (N : List Node) (E : List Edge) (i : Nat) : Bool := (List.range (portsB (N.getD i v0)).toNat).any fun p => !hasB E i p

theorem check_l3 (N : List Node) (E : List Edge) (a : List Int) (b : Int × Int × Unit) (i : Nat) (y : Int × Int × Unit) :
    loopM (graph_Check_l3 (portsB (N.getD i v0), ()) (a, b, takenM E E.length, ()) ((i : Int), y, ())) ((0 : Int), ((0 : Int), (0 : Int), ()), ()) = some (if missB N E i = true then .inl (((5 : Int), (i : Int), ()), ()) else .inr (.inl (((0 : Int), (0 : Int), ()), ()))) := by
  have hp : 0 ≤ portsB (N.getD i v0) ∧ portsB (N.getD i v0) ≤ 2 := ports_le _
  have h := loopM_exit (f := graph_Check_l3 (portsB (N.getD i v0), ()) (a, b, takenM E E.length, ()) ((i : Int), y, ())) (portsB (N.getD i v0)).toNat (fun p => ((p : Int), ((0 : Int), (0 : Int), ()), ())) (fun p => cond (!hasB E i p) (some (((5 : Int), (i : Int), ()), ())) none) (.inl (((0 : Int), (0 : Int), ()), ())) (fun p hpl => by
    unfold graph_Check_l3
    simp only [dcT (show (p : Int) < portsB (N.getD i v0) by omega), cond_true]
    rw [wrapS (by omega)]
    have ht : (mapGet tkT (takenM E E.length) ((i : Int), (p : Int), ())).isSome = hasB E i p := taken_has E _ _ _
    show (cond (!(mapGet tkT (takenM E E.length) ((i : Int), (p : Int), ())).isSome) _ _) = _
    rw [ht]
    cases hasB E i p <;> rfl) (by
    unfold graph_Check_l3
    simp only [dcF (show ¬ ((portsB (N.getD i v0)).toNat : Int) < portsB (N.getD i v0) by omega), cond_false]) rfl
  refine Eq.trans h ?_
  rw [find_const]
  show some (exitOr (if missB N E i = true then _ else _) _) = _
  split <;> rfl

theorem check_l4 {N : List Node} (E : List Edge) (hn : N.length ≤ 12) (a : List Int) (b : Int × Int × Unit) :
    loopM (graph_Check_l4 ((N, E, ()), ()) (a, b, takenM E E.length, ())) ((0 : Int), ((0 : Int), (0 : Int), ()), ()) = some (exitOr ((List.range N.length).findSome? fun i => cond (missB N E i) (some (((5 : Int), (i : Int), ()), ())) none) (.inl (((0 : Int), (0 : Int), ()), ()))) := by
  refine loopM_exit (f := graph_Check_l4 ((N, E, ()), ()) (a, b, takenM E E.length, ())) N.length (fun i => ((i : Int), ((0 : Int), (0 : Int), ()), ())) (fun i => cond (missB N E i) (some (((5 : Int), (i : Int), ()), ())) none) _ (fun i hi => ?_) ?_ rfl
  · unfold graph_Check_l4
    simp only [dcT (show (i : Int) < (N.length : Int) by omega), cond_true, getI_D v0 (Int.natCast_nonneg i) (show (i : Int) < (N.length : Int) by omega), Int.toNat_natCast, Option.bind_some, graph_Ports_eq, check_l3]
    rw [wrapS (by omega)]
    cases missB N E i <;> rfl
  · unfold graph_Check_l4
    simp only [dcF (show ¬ (N.length : Int) < (N.length : Int) by omega), cond_false]

/-! The document counts. -/
theorem cntB_one {p : Nat → Bool} : ∀ (m : Nat), (∀ j k, j < m → k < m → p j = true → p k = true → j = k) → cntB m p = if (List.range m).any p = true then 1 else 0
  | 0, _ => rfl
  | m + 1, h => by
    have ih := cntB_one m (fun j k hj hk => h j k (by omega) (by omega))
    rw [List.range_succ, List.any_append]
    simp only [cntB, ih, List.any_cons, List.any_nil, Bool.or_false]
    cases hpm : p m with
    | false => simp
    | true =>
      have hno : (List.range m).any p = false := by
        rw [List.any_eq_false]
        intro j hj hpj
        have := h j m (by have := List.mem_range.1 hj; omega) (by omega) hpj hpm
        have := List.mem_range.1 hj
        omega
      rw [hno]; simp

theorem cntB_split {p q r : Nat → Bool} : ∀ (m : Nat), (∀ j, j < m → p j = (q j || r j) ∧ (q j && r j) = false) → cntB m p = cntB m q + cntB m r
  | 0, _ => rfl
  | m + 1, h => by
    have ih := cntB_split m (fun j hj => h j (by omega))
    obtain ⟨h1, h2⟩ := h m (by omega)
    simp only [cntB, ih, h1]
    cases hq : q m <;> cases hr : r m <;> rw [hq, hr] at h2 <;> simp at h2 ⊢ <;> omega

theorem miss_count {N : List Node} {E : List Edge} (hok : ∀ j, j < E.length → edgeC N E j = 0) (i : Nat) :
    decide (((cntB E.length fun j => toE E j == (i : Int) : Nat) : Int) < portsB (N.getD i v0)) = missB N E i := by
  have hval : ∀ j, j < E.length → toE E j = i → 0 ≤ poE E j ∧ poE E j < portsB (N.getD i v0) := fun j hj ht => by
    have h := edge_ok (hok j hj)
    rw [ht, Int.toNat_natCast] at h
    exact ⟨h.2.2.2.2.1, h.2.2.2.2.2.1⟩
  have huniq : ∀ t p : Int, ∀ j k, j < E.length → k < E.length → (toE E j == t && poE E j == p) = true → (toE E k == t && poE E k == p) = true → j = k := fun t p j k hj hk h1 h2 => by
    simp only [Bool.and_eq_true, beq_iff_eq] at h1 h2
    have key : ∀ j k, j < k → k < E.length → toE E j = toE E k → poE E j = poE E k → False := fun j k hjk hk ht hp => by
      have h := (edge_ok (hok k hk)).2.2.2.2.2.2.1
      unfold twiceB at h
      have := List.any_eq_false.1 h j (List.mem_range.2 hjk)
      simp [ht, hp] at this
    rcases Nat.lt_trichotomy j k with h | h | h
    · exact (key j k h hk (h1.1.trans h2.1.symm) (h1.2.trans h2.2.symm)).elim
    · exact h
    · exact (key k j h hj (h2.1.trans h1.1.symm) (h2.2.trans h1.2.symm)).elim
  have hc : ∀ p : Int, cntB E.length (fun j => toE E j == (i : Int) && poE E j == p) = if hasB E i p = true then 1 else 0 := fun p => cntB_one _ (huniq i p)
  have hp : portsB (N.getD i v0) = 0 ∨ portsB (N.getD i v0) = 1 ∨ portsB (N.getD i v0) = 2 := ports_cases _
  unfold missB
  rcases hp with hp | hp | hp
  · rw [hp]
    simp
  · rw [hp] at hval ⊢
    have : cntB E.length (fun j => toE E j == (i : Int)) = cntB E.length fun j => toE E j == (i : Int) && poE E j == 0 := by
      refine cntB_congr fun j hj => ?_
      by_cases ht : toE E j = i
      · have := hval j hj ht
        have : poE E j = 0 := by omega
        simp [ht, this]
      · simp [ht]
    rw [this, hc 0]
    have e1 : (List.range (1 : Int).toNat).any (fun p : Nat => !hasB E i p) = !hasB E i 0 := by
      show (List.range 1).any _ = _
      simp [List.range_succ]
    rw [e1]
    cases hasB E i 0 <;> simp
  · rw [hp] at hval ⊢
    have : cntB E.length (fun j => toE E j == (i : Int)) = cntB E.length (fun j => toE E j == (i : Int) && poE E j == 0) + cntB E.length fun j => toE E j == (i : Int) && poE E j == 1 := by
      refine cntB_split _ fun j hj => ?_
      by_cases ht : toE E j = i
      · have := hval j hj ht
        have : poE E j = 0 ∨ poE E j = 1 := by omega
        rcases this with h | h <;> simp [ht, h]
      · have : (toE E j == (i : Int)) = false := by simpa using ht
        simp [this]
    rw [this, hc 0, hc 1]
    have e2 : (List.range (2 : Int).toNat).any (fun p : Nat => !hasB E i p) = (!hasB E i 0 || !hasB E i 1) := by
      show (List.range 2).any _ = _
      simp [List.range_succ]
    rw [e2]
    cases hasB E i 0 <;> cases hasB E i 1 <;> simp
end

section
open Go Go.Abs


/-! Which nodes may be come to: by words. -/
/-- One step within a set. -/
def stepA (T : Nat → Nat) (w : Nat) (a b : Nat) : Bool := (T a).testBit b && w.testBit b
def unN (T : Nat → Nat) (w v : Nat) : Nat → Nat
  | 0 => 0
  | r + 1 => if v.testBit r = true then unN T w v r ||| (T r &&& w) else unN T w v r
theorem unN_bit (T : Nat → Nat) (w v b : Nat) : ∀ r, (unN T w v r).testBit b = true ↔ ∃ j, j < r ∧ v.testBit j = true ∧ stepA T w j b = true
  | 0 => by simp [unN]
  | r + 1 => by
    have ih := unN_bit T w v b r
    simp only [unN]
    constructor
    · intro h
      split at h
      · rename_i hv
        rw [Nat.testBit_or, Bool.or_eq_true, Nat.testBit_and] at h
        rcases h with h | h
        · obtain ⟨j, h1, h2⟩ := ih.1 h; exact ⟨j, by omega, h2⟩
        · exact ⟨r, by omega, hv, h⟩
      · obtain ⟨j, h1, h2⟩ := ih.1 h; exact ⟨j, by omega, h2⟩
    · rintro ⟨j, h1, h2, h3⟩
      by_cases hj : j = r
      · subst hj
        rw [if_pos h2, Nat.testBit_or, Nat.testBit_and, Bool.or_eq_true]; exact .inr h3
      · have := ih.2 ⟨j, by omega, h2, h3⟩
        split
        · rw [Nat.testBit_or, this, Bool.true_or]
        · exact this
theorem unN_lt {T : Nat → Nat} {w v n : Nat} (hw : w < 2 ^ n) : ∀ r, unN T w v r < 2 ^ n
  | 0 => Nat.two_pow_pos n
  | r + 1 => by
    simp only [unN]
    split
    · exact Nat.or_lt_two_pow (unN_lt hw r) (Nat.lt_of_le_of_lt Nat.and_le_right hw)
    · exact unN_lt hw r

theorem lt32 {n a : Nat} (hn : n ≤ 12) (h : a < 2 ^ n) : a < 2 ^ 32 := Nat.lt_of_lt_of_le h (Nat.pow_le_pow_right (by decide) (by omega))

theorem check_l6 {n : Nat} (hn : n ≤ 12) {T : Nat → Nat} (hT : ∀ a, T a < 2 ^ n) {w v : Nat} (hw : w < 2 ^ n) (hv : v < 2 ^ n) (b : Int × Int × Unit) :
    loopM (graph_Check_l6 (b, cl (tab n T), ()) (((w : Int), ()), ())) ((v : Int), ((0 : Int), ()), ()) = some (.inl ((((unN T w v n : Nat) : Int), ()), ())) := by
  refine loopM_bits (f := graph_Check_l6 (b, cl (tab n T), ()) (((w : Int), ()), ())) n (fun r => ((((unN T w v r : Nat) : Int), ()), ())) _ hv (by omega) (fun r q hq hb hr => ?_) (fun r hr hb => ?_) ?_
  · unfold graph_Check_l6
    simp only [nz_eq r q, cond_true, tz_eq hq, Option.bind_some, length_cl, length_tab, inB_T hr, Int.toNat_natCast]
    rw [get_cl (by rw [length_tab]; exact hr), getD_tab hr, Option.bind_some, clr_eq hq, and_u32 (lt32 hn (hT r)) (lt32 hn hw), or_u32 (lt32 hn (unN_lt hw r)) (lt32 hn (Nat.lt_of_le_of_lt Nat.and_le_right hw))]
    simp only [unN, if_pos hb]
  · simp only [unN, hb]; simp
  · unfold graph_Check_l6
    rfl

theorem cntB_monoG {p q : Nat → Bool} : ∀ (m : Nat), (∀ j, j < m → p j = true → q j = true) → cntB m p ≤ cntB m q
  | 0, _ => Nat.le_refl _
  | m + 1, h => by
    have ih := cntB_monoG m (fun j hj => h j (by omega))
    have := h m (by omega)
    simp only [cntB]
    cases hp : p m <;> cases hq : q m <;> simp <;> first | omega | (rw [this hp] at hq; cases hq)
theorem cntB_more {p q : Nat → Bool} : ∀ (m : Nat), (∀ j, j < m → p j = true → q j = true) → (∃ j, j < m ∧ p j = false ∧ q j = true) → cntB m p < cntB m q
  | 0, _, ⟨_, h, _⟩ => by omega
  | m + 1, h, ⟨j, hj, h1, h2⟩ => by
    have hm := cntB_monoG m (fun j hj => h j (by omega))
    have := h m (by omega)
    simp only [cntB]
    by_cases hjm : j = m
    · subst hjm; rw [h1, h2]; simp; omega
    · have := cntB_more m (fun j hj => h j (by omega)) ⟨j, by omega, h1, h2⟩
      cases hp : p m <;> cases hq : q m <;> simp <;> first | omega | (rw [h m (by omega) hp] at hq; cases hq)

/-- All that can be come to from a node within a set. -/
noncomputable def behB (T : Nat → Nat) (w n i : Nat) : Nat := wordOf n fun j => @decide (Way (stepA T w) i j) (Classical.propDecidable _)
theorem behB_lt (T : Nat → Nat) (w n i : Nat) : behB T w n i < 2 ^ n := wordOf_lt n _
theorem behB_bit {T : Nat → Nat} {w n i j : Nat} (hw : w < 2 ^ n) : (behB T w n i).testBit j = true ↔ Way (stepA T w) i j := by
  unfold behB
  rw [wordOf_bit, Bool.and_eq_true, decide_eq_true_eq]
  refine ⟨fun h => @of_decide_eq_true _ (Classical.propDecidable _) h.2, fun h => ⟨?_, @decide_eq_true _ (Classical.propDecidable _) h⟩⟩
  cases h with
  | one h => exact bit_lt hw (Bool.and_eq_true_iff.1 h).2
  | more _ h => exact bit_lt hw (Bool.and_eq_true_iff.1 h).2

theorem check_l7_any {n : Nat} (hn : n ≤ 12) {T : Nat → Nat} (hT : ∀ a, T a < 2 ^ n) {w : Nat} (hw : w < 2 ^ n) (b : Int × Int × Unit) (i : Nat) : ∀ (k all next : Nat), all < 2 ^ n → next < 2 ^ n → n ≤ cntB n (fun j => all.testBit j) + k →
    (∀ j, all.testBit j = true ∨ next.testBit j = true → Way (stepA T w) i j) → (∀ j, stepA T w i j = true → all.testBit j = true ∨ next.testBit j = true) →
    (∀ a j, all.testBit a = true → stepA T w a j = true → all.testBit j = true ∨ next.testBit j = true) → (∀ j, next.testBit j = true → all.testBit j = false) →
    loopM (graph_Check_l7 (b, cl (tab n T), ()) (((w : Int), ()), ())) ((all : Int), (next : Int), ()) = some (.inl (((behB T w n i : Nat) : Int), ())) := by
  intro k
  induction k with
  | zero =>
    intro all next ha hx hk h1 h2 h3 h4
    have hz : next = 0 := by
      refine word_ext (k := n) hx (Nat.two_pow_pos n) fun j hj => ?_
      rw [Nat.zero_testBit]
      cases hb : next.testBit j with
      | false => rfl
      | true =>
        exfalso
        have h5 := h4 j hb
        have h6 := cntB_more (p := fun j => all.testBit j) (q := fun _ => true) n (fun _ _ _ => rfl) ⟨j, hj, h5, rfl⟩
        have h7 := cntB_le (fun _ => true) n
        omega
    subst hz
    refine loopM_inr ?_
    unfold graph_Check_l7
    show some (Sum.inr (Sum.inl ((all : Int), ()))) = _
    have : all = behB T w n i := by
      refine word_ext (k := n) ha (behB_lt T w n i) fun j hj => ?_
      rw [Bool.eq_iff_iff, behB_bit hw]
      refine ⟨fun h => h1 j (.inl h), fun h => ?_⟩
      induction h with
      | one h => exact (h2 _ h).resolve_right (by simp)
      | more _ h ih =>
        have hlt : ∀ {c d}, stepA T w c d = true → d < n := fun h => bit_lt hw (Bool.and_eq_true_iff.1 h).2
        rename_i c d hcd
        have hc : c < n := by
          cases hcd with
          | one h => exact hlt h
          | more _ h => exact hlt h
        exact (h3 _ _ (ih hc) h).resolve_right (by simp)
    rw [this]
  | succ k ih =>
    intro all next ha hx hk h1 h2 h3 h4
    by_cases hz : next = 0
    · subst hz
      refine loopM_inr ?_
      unfold graph_Check_l7
      show some (Sum.inr (Sum.inl ((all : Int), ()))) = _
      have : all = behB T w n i := by
        refine word_ext (k := n) ha (behB_lt T w n i) fun j hj => ?_
        rw [Bool.eq_iff_iff, behB_bit hw]
        refine ⟨fun h => h1 j (.inl h), fun h => ?_⟩
        induction h with
        | one h => exact (h2 _ h).resolve_right (by simp)
        | more _ h ih =>
          have hlt : ∀ {c d}, stepA T w c d = true → d < n := fun h => bit_lt hw (Bool.and_eq_true_iff.1 h).2
          rename_i c d hcd
          have hc : c < n := by
            cases hcd with
            | one h => exact hlt h
            | more _ h => exact hlt h
          exact (h3 _ _ (ih hc) h).resolve_right (by simp)
      rw [this]
    · have hor : all ||| next < 2 ^ n := Nat.or_lt_two_pow ha hx
      have hun := unN_lt (T := T) (v := next) hw n
      have hstep : graph_Check_l7 (b, cl (tab n T), ()) (((w : Int), ()), ()) ((all : Int), (next : Int), ()) = some (.inl (((all ||| next : Nat) : Int), ((dif (unN T w next n) (all ||| next) : Nat) : Int), ())) := by
        unfold graph_Check_l7
        have hne : ((next : Int) != 0) = true := by rw [bne_iff_ne]; omega
        simp only [hne, cond_true, wrap_u64 (lt_64 (lt32 hn hx)), check_l6 hn hT hw hx, Option.bind_some, Sum.elim_inl]
        rw [or_u32 (lt32 hn ha) (lt32 hn hx), not_u32 (lt32 hn hun) (lt32 hn hor)]
      rw [loopM_inl hstep]
      have hob : ∀ j, (all ||| next).testBit j = true ↔ all.testBit j = true ∨ next.testBit j = true := fun j => by rw [Nat.testBit_or, Bool.or_eq_true]
      have hun' : ∀ j, (unN T w next n).testBit j = true ↔ ∃ a, next.testBit a = true ∧ stepA T w a j = true := fun j => by
        rw [unN_bit]
        exact ⟨fun ⟨a, _, h⟩ => ⟨a, h⟩, fun ⟨a, h⟩ => ⟨a, bit_lt hx h.1, h⟩⟩
      have hd : ∀ j, (dif (unN T w next n) (all ||| next)).testBit j = true ↔ (unN T w next n).testBit j = true ∧ (all ||| next).testBit j = false := fun j => by rw [dif_bit, Bool.and_eq_true, Bool.not_eq_true']
      refine ih (all ||| next) _ hor (dif_lt hun) ?_ (fun j hj => ?_) (fun j hj => ?_) (fun a j haa hs => ?_) (fun j hj => ((hd j).1 hj).2)
      · obtain ⟨j, hj⟩ := Nat.exists_testBit_of_ne_zero hz
        have := cntB_more (p := fun j => all.testBit j) (q := fun j => (all ||| next).testBit j) n (fun j _ h => (hob j).2 (.inl h)) ⟨j, bit_lt hx hj, h4 j hj, (hob j).2 (.inr hj)⟩
        omega
      · rcases hj with hj | hj
        · exact h1 j ((hob j).1 hj)
        · obtain ⟨a, ha1, ha2⟩ := (hun' j).1 ((hd j).1 hj).1
          exact .more (h1 a (.inr ha1)) ha2
      · exact .inl ((hob j).2 (h2 j hj))
      · rcases (hob a).1 haa with haa | haa
        · exact .inl ((hob j).2 (h3 a j haa hs))
        · cases hq : (all ||| next).testBit j with
          | true => exact .inl rfl
          | false => exact .inr ((hd j).2 ⟨(hun' j).2 ⟨a, haa, hs⟩, hq⟩)

theorem check_l7 {n : Nat} (hn : n ≤ 12) {T : Nat → Nat} (hT : ∀ a, T a < 2 ^ n) {w : Nat} (hw : w < 2 ^ n) (b : Int × Int × Unit) (i : Nat) :
    loopM (graph_Check_l7 (b, cl (tab n T), ()) (((w : Int), ()), ())) ((0 : Int), ((T i &&& w : Nat) : Int), ()) = some (.inl (((behB T w n i : Nat) : Int), ())) := by
  have hx : T i &&& w < 2 ^ n := Nat.lt_of_le_of_lt Nat.and_le_right hw
  refine check_l7_any hn hT hw b i n 0 (T i &&& w) (Nat.two_pow_pos n) hx (by omega) (fun j hj => ?_) (fun j hj => ?_) (fun a j ha => by simp at ha) (fun j _ => Nat.zero_testBit j)
  · rcases hj with hj | hj
    · simp at hj
    · rw [Nat.testBit_and] at hj; exact .one hj
  · exact .inr (by rw [Nat.testBit_and]; exact hj)

theorem l9_eq : graph_Check_l9 = graph_Check_l7 := rfl
end

section
open Go Go.Abs


/-- The bits of a word that are marked, added to a word. -/
def addN (p : Nat → Bool) (v b0 : Nat) : Nat → Nat
  | 0 => b0
  | r + 1 => if v.testBit r = true ∧ p r = true then addN p v b0 r ||| 2 ^ r else addN p v b0 r
theorem addN_lt {p : Nat → Bool} {v b0 n : Nat} (h0 : b0 < 2 ^ n) : ∀ r, r ≤ n → addN p v b0 r < 2 ^ n
  | 0, _ => h0
  | r + 1, hr => by
    simp only [addN]
    split
    · exact Nat.or_lt_two_pow (addN_lt h0 r (by omega)) (Nat.pow_lt_pow_right (by decide) (by omega))
    · exact addN_lt h0 r (by omega)
theorem addN_bit {p : Nat → Bool} {v b0 j : Nat} : ∀ r, (addN p v b0 r).testBit j = true ↔ b0.testBit j = true ∨ (j < r ∧ v.testBit j = true ∧ p j = true)
  | 0 => by simp [addN]
  | r + 1 => by
    have ih := addN_bit (p := p) (v := v) (b0 := b0) (j := j) r
    simp only [addN]
    by_cases h : v.testBit r = true ∧ p r = true
    · rw [if_pos h, Nat.testBit_or, Bool.or_eq_true, ih, Nat.testBit_two_pow, decide_eq_true_eq]
      constructor
      · rintro ((h1 | ⟨h1, h2⟩) | rfl)
        · exact .inl h1
        · exact .inr ⟨by omega, h2⟩
        · exact .inr ⟨by omega, h⟩
      · rintro (h1 | ⟨h1, h2⟩)
        · exact .inl (.inl h1)
        · by_cases hj : r = j
          · exact .inr hj
          · exact .inl (.inr ⟨by omega, h2⟩)
    · rw [if_neg h, ih]
      constructor
      · rintro (h1 | ⟨h1, h2⟩)
        · exact .inl h1
        · exact .inr ⟨by omega, h2⟩
      · rintro (h1 | ⟨h1, h2⟩)
        · exact .inl h1
        · refine .inr ⟨?_, h2⟩
          have : j ≠ r := fun e => h (e ▸ h2)
          omega

section
variable {n : Nat} {T : Nat → Nat}
theorem check_l10 (hn : n ≤ 12) (hT : ∀ a, T a < 2 ^ n) {w : Nat} (hw : w < 2 ^ n) (b : Int × Int × Unit) {i v b0 : Nat} (hv : v < 2 ^ n) (hb0 : b0 < 2 ^ n) :
    loopM (graph_Check_l10 (b, cl (tab n T), ()) (((w : Int), ()), ()) ((i : Int), ())) ((v : Int), ((b0 : Int), ()), ()) = some (.inl ((((addN (fun j => (behB T w n j).testBit i) v b0 n : Nat) : Int), ()), ())) := by
  refine loopM_bits (f := graph_Check_l10 (b, cl (tab n T), ()) (((w : Int), ()), ()) ((i : Int), ())) n (fun r => ((((addN (fun j => (behB T w n j).testBit i) v b0 r : Nat) : Int), ()), ())) _ hv (by omega) (fun r q hq hb hr => ?_) (fun r hr hb => ?_) ?_
  · unfold graph_Check_l10
    simp only [nz_eq r q, cond_true, tz_eq hq, Option.bind_some, length_cl, length_tab, inB_T hr, Int.toNat_natCast]
    rw [get_cl (by rw [length_tab]; exact hr), getD_tab hr, Option.bind_some, and_u32 (lt32 hn (hT r)) (lt32 hn hw), l9_eq, check_l7 hn hT hw, Option.bind_some, Sum.elim_inl, sets_Has_eq i (lt32 hn (behB_lt T w n r)), Option.bind_some]
    simp only [clr_eq hq, addN, hb, true_and]
    cases hh : (behB T w n r).testBit i with
    | false => simp
    | true =>
      simp only [cond_true, sets_One_eq (show r < 32 by omega), Option.bind_some, if_true]
      rw [or_u32 (lt32 hn (addN_lt hb0 r (by omega))) (two_pow_32 (by omega))]
  · simp [addN, hb]
  · unfold graph_Check_l10
    rfl

/-- What a node's rings at a depth add. -/
noncomputable def ringN (T : Nat → Nat) (w n : Nat) (D : Nat → Bool) (b0 : Nat) : Nat → Nat
  | 0 => b0
  | i + 1 => if w.testBit i = true ∧ D i = true then addN (fun j => (behB T w n j).testBit i) (behB T w n i) (ringN T w n D b0 i) n else ringN T w n D b0 i
theorem ringN_lt {w : Nat} {D : Nat → Bool} {b0 : Nat} (h0 : b0 < 2 ^ n) : ∀ i, ringN T w n D b0 i < 2 ^ n
  | 0 => h0
  | i + 1 => by
    simp only [ringN]
    split
    · exact addN_lt (ringN_lt h0 i) n (Nat.le_refl _)
    · exact ringN_lt h0 i
theorem ringN_bit {w : Nat} {D : Nat → Bool} {b0 j : Nat} (hw : w < 2 ^ n) : ∀ m, (ringN T w n D b0 m).testBit j = true ↔ b0.testBit j = true ∨ ∃ i, i < m ∧ w.testBit i = true ∧ D i = true ∧ Way (stepA T w) i j ∧ Way (stepA T w) j i
  | 0 => by simp [ringN]
  | i + 1 => by
    have ih := ringN_bit (D := D) (b0 := b0) (j := j) hw i
    simp only [ringN]
    by_cases h : w.testBit i = true ∧ D i = true
    · rw [if_pos h, addN_bit, ih, behB_bit hw, behB_bit hw]
      constructor
      · rintro ((h1 | ⟨a, h1, h2⟩) | ⟨h1, h2, h3⟩)
        · exact .inl h1
        · exact .inr ⟨a, by omega, h2⟩
        · exact .inr ⟨i, by omega, h.1, h.2, h2, h3⟩
      · rintro (h1 | ⟨a, h1, h2, h3, h4, h5⟩)
        · exact .inl (.inl h1)
        · by_cases ha : a = i
          · subst ha
            exact .inr ⟨bit_lt (behB_lt T w n a) ((behB_bit hw).2 h4), h4, h5⟩
          · exact .inl (.inr ⟨a, by omega, h2, h3, h4, h5⟩)
    · rw [if_neg h, ih]
      constructor
      · rintro (h1 | ⟨a, h1, h2⟩)
        · exact .inl h1
        · exact .inr ⟨a, by omega, h2⟩
      · rintro (h1 | ⟨a, h1, h2, h3, h4⟩)
        · exact .inl h1
        · have : a ≠ i := fun e => h (e ▸ ⟨h2, h3⟩)
          exact .inr ⟨a, by omega, h2, h3, h4⟩
end

def deepAt (N : List Node) (i : Nat) : Int := (N.getD i v0).2.1
def kindAt (N : List Node) (i : Nat) : Int := (N.getD i v0).1

theorem check_l11 {N : List Node} (E : List Edge) (hn : N.length ≤ 12) {T : Nat → Nat} (hT : ∀ a, T a < 2 ^ N.length) {w : Nat} (hw : w < 2 ^ N.length) (b : Int × Int × Unit) (f : Int) (y : (Int × Unit) × Unit) {b0 : Nat} (hb0 : b0 < 2 ^ N.length) :
    loopM (graph_Check_l11 ((N, E, ()), ()) ((f, ()), y) (b, cl (tab N.length T), ()) (((w : Int), ()), ())) ((w : Int), ((b0 : Int), ()), ()) = some (.inl ((((ringN T w N.length (fun i => deepAt N i == f) b0 N.length : Nat) : Int), ()), ())) := by
  refine loopM_bits (f := graph_Check_l11 ((N, E, ()), ()) ((f, ()), y) (b, cl (tab N.length T), ()) (((w : Int), ()), ())) N.length (fun r => ((((ringN T w N.length (fun i => deepAt N i == f) b0 r : Nat) : Int), ()), ())) _ hw (by omega) (fun r q hq hb hr => ?_) (fun r hr hb => ?_) ?_
  · unfold graph_Check_l11
    simp only [nz_eq r q, cond_true, tz_eq hq, Option.bind_some, getI_D v0 (Int.natCast_nonneg r) (show (r : Int) < (N.length : Int) by omega), Int.toNat_natCast]
    show (cond (deepAt N r != f) _ _) = _
    rw [cond_bne]
    by_cases hd : deepAt N r = f
    · rw [if_pos hd]
      simp only [length_cl, length_tab, inB_T hr, cond_true]
      have hbl := behB_lt T w N.length r
      rw [get_cl (by rw [length_tab]; exact hr), getD_tab hr, Option.bind_some, and_u32 (lt32 hn (hT r)) (lt32 hn hw), check_l7 hn hT hw, Option.bind_some, Sum.elim_inl, wrap_u64 (lt_64 (lt32 hn hbl)), check_l10 hn hT hw b hbl (ringN_lt hb0 r), Option.bind_some, Sum.elim_inl, Option.bind_some, Sum.elim_inl, clr_eq hq]
      simp [ringN, hb, hd]
    · rw [if_neg hd, clr_eq hq]
      simp [ringN, hb, hd]
  · simp [ringN, hb]
  · unfold graph_Check_l11
    rfl

/-- The nodes that count at a depth. -/
def insB (N : List Node) (f : Nat) (i : Nat) : Bool := decide ((f : Int) < deepAt N i) || (deepAt N i == (f : Int) && kindAt N i != 6)
def insW (N : List Node) (f : Nat) : Nat := wordOf N.length (insB N f)

theorem check_l5 {N : List Node} (E : List Edge) (hn : N.length ≤ 12) (f : Nat) (y : (Int × Unit) × Unit) :
    loopM (graph_Check_l5 ((N, E, ()), ()) (((f : Int), ()), y)) ((0 : Int), ((0 : Int), ()), ()) = some (.inl ((((insW N f : Nat) : Int), ()), ())) := by
  refine loopM_sim N.length (fun i => ((i : Int), ((((wordOf i (insB N f) : Nat) : Int)), ()), ())) _ (fun i hi => ?_) ?_ rfl
  · unfold graph_Check_l5
    have hw : wordOf i (insB N f) < 2 ^ 32 := wordOf_lt32 _ (by omega)
    simp only [dcT (show (i : Int) < (N.length : Int) by omega), cond_true, getI_D v0 (Int.natCast_nonneg i) (show (i : Int) < (N.length : Int) by omega), Int.toNat_natCast, Option.bind_some, sets_One_eq (show i < 32 by omega), or_u32 hw (two_pow_32 (show i < 32 by omega)), wrapS (show i < 9223372036854775807 by omega), wordOf_step]
    show (cond (decide (deepAt N i > (f : Int))) _ (cond (deepAt N i == (f : Int)) (cond (kindAt N i != 6) _ _) _)) = _
    have hins : insB N f i = (decide (deepAt N i > (f : Int)) || (deepAt N i == (f : Int) && kindAt N i != 6)) := rfl
    rw [hins]
    cases decide (deepAt N i > (f : Int)) <;> cases deepAt N i == (f : Int) <;> cases kindAt N i != 6 <;> rfl
  · unfold graph_Check_l5
    simp only [dcF (show ¬ (N.length : Int) < (N.length : Int) by omega), cond_false]
    rfl

noncomputable def badN (N : List Node) (T : Nat → Nat) : Nat → Nat
  | 0 => 0
  | f + 1 => ringN T (insW N (f + 1)) N.length (fun i => deepAt N i == ((f + 1 : Nat) : Int)) (badN N T f) N.length
theorem insW_lt (N : List Node) (f : Nat) : insW N f < 2 ^ N.length := wordOf_lt _ _
theorem badN_lt (N : List Node) (T : Nat → Nat) : ∀ f, badN N T f < 2 ^ N.length
  | 0 => Nat.two_pow_pos _
  | f + 1 => ringN_lt (badN_lt N T f) _
theorem badN_bit (N : List Node) (T : Nat → Nat) (j : Nat) : ∀ m, (badN N T m).testBit j = true ↔ ∃ f i, 1 ≤ f ∧ f ≤ m ∧ i < N.length ∧ (insW N f).testBit i = true ∧ deepAt N i = (f : Int) ∧ Way (stepA T (insW N f)) i j ∧ Way (stepA T (insW N f)) j i
  | 0 => by simp [badN]; intro f h; omega
  | m + 1 => by
    simp only [badN]
    rw [ringN_bit (insW_lt N (m + 1)), badN_bit N T j m]
    constructor
    · rintro (⟨f, i, h1, h2, h⟩ | ⟨i, h1, h2, h3, h⟩)
      · exact ⟨f, i, h1, by omega, h⟩
      · exact ⟨m + 1, i, by omega, by omega, h1, h2, by simpa using h3, h⟩
    · rintro ⟨f, i, h1, h2, h3, h4, h5, h⟩
      by_cases hf : f = m + 1
      · subst hf; exact .inr ⟨i, h3, h4, by simpa using h5, h⟩
      · exact .inl ⟨f, i, h1, by omega, h3, h4, h5, h⟩

theorem check_l12 {N : List Node} (E : List Edge) (hn : N.length ≤ 12) {T : Nat → Nat} (hT : ∀ a, T a < 2 ^ N.length) (b : Int × Int × Unit) :
    loopM (graph_Check_l12 ((N, E, ()), ()) (b, cl (tab N.length T), ())) (((1 : Int), ()), ((0 : Int), ()), ()) = some (.inl ((((badN N T 4 : Nat) : Int), ()), ())) := by
  refine loopM_sim 4 (fun f => ((((f + 1 : Nat) : Int), ()), ((((badN N T f : Nat) : Int)), ()), ())) _ (fun f hf => ?_) ?_ rfl
  · unfold graph_Check_l12
    simp only [dcT (show ((f + 1 : Nat) : Int) ≤ 4 by omega), cond_true, check_l5 E hn (f + 1), Option.bind_some, Sum.elim_inl, wrap_u64 (lt_64 (lt32 hn (insW_lt N (f + 1))))]
    rw [check_l11 E hn hT (insW_lt N (f + 1)) b _ _ (badN_lt N T f), Option.bind_some, Sum.elim_inl, Option.bind_some, Sum.elim_inl, wrapS (by omega)]
    rfl
  · unfold graph_Check_l12
    rfl

theorem check_l13 {n : Nat} (hn : n ≤ 12) {v : Nat} (hv : v < 2 ^ n) : loopM graph_Check_l13 ((v : Int), ((0 : Int), ()), ()) = some (((List.range n).findSome? fun j => if v.testBit j = true then some (Sum.inl (((j : Int), ()), ())) else none).getD (.inr (.inl (((0 : Int), ()), ())))) := by
  refine loopM_bitsStop (f := graph_Check_l13) n (fun _ => (((0 : Int), ()), ())) (fun j => some (Sum.inl (((j : Int), ()), ()))) _ hv (by omega) (fun r q hq hb hr => ?_) (fun _ _ _ => rfl) ?_
  · unfold graph_Check_l13
    simp only [nz_eq r q, cond_true, tz_eq hq, Option.bind_some]
  · unfold graph_Check_l13
    rfl
end

section
open Go Go.Abs


/-! The document's check. -/
def edM (N : List Node) (E : List Edge) (f k : Nat) (a b : Nat) : Bool := insB N f a && insB N f b && (List.range k).any fun j => frE E j == (a : Int) && toE E j == (b : Int)
def sqT (n : Nat) (w : Nat → Nat → Bool) : List Bool := tab (n * n) fun y => w (y / n) (y % n)
theorem sq_div {n i j : Nat} (hj : j < n) : (i * n + j) / n = i := by rw [Nat.mul_comm, Nat.mul_add_div (by omega), Nat.div_eq_of_lt hj]; rfl
theorem sq_mod {n i j : Nat} (hj : j < n) : (i * n + j) % n = j := by rw [Nat.mul_comm, Nat.mul_add_mod, Nat.mod_eq_of_lt hj]
theorem sqT_get {n i j : Nat} {w : Nat → Nat → Bool} (hi : i < n) (hj : j < n) : (sqT n w)[i * n + j]? = some (w i j) := by
  unfold sqT
  rw [tab_get _ (sq_lt hi hj), sq_div hj, sq_mod hj]
theorem sqT_len {n : Nat} {w : Nat → Nat → Bool} : (sqT n w).length = n * n := tab_length _ _
theorem sq_room {n : Nat} (hn : n ≤ 12) : IntKind.i64.wrap ((n : Int) * (n : Int)) = ((n * n : Nat) : Int) := by
  have h : n * n ≤ 12 * 12 := Nat.mul_le_mul hn hn
  rw [← Int.natCast_mul, wrap64 (by omega) (by omega)]
theorem room1G {n : Nat} (h : n ≤ 1000000) : roomOk n 1 = true := by
  unfold roomOk
  rw [Bool.and_eq_true]
  exact ⟨Nat.ble_eq_true_of_le (by omega), Nat.ble_eq_true_of_le (by omega)⟩

section
variable {N : List Node} {E : List Edge}

theorem comes_l1 (hn : N.length ≤ 12) (f : Nat) : loopM (ref_comes_l1 ((N, E, ()), (f : Int), ())) ((0 : Int), List.replicate N.length false, ()) = some (.inl (tab N.length (insB N f), ())) := by
  have h0 : List.replicate N.length false = tab N.length fun j => if j < 0 then insB N f j else false := by rw [rep_tab]; exact tab_congr fun j _ => by simp
  rw [h0]
  have hend : (tab N.length fun j => if j < N.length then insB N f j else false) = tab N.length (insB N f) := tab_congr fun j hj => by rw [if_pos hj]
  rw [← hend]
  refine loopM_sim N.length (fun i => ((i : Int), (tab N.length fun j => if j < i then insB N f j else false), ())) _ (fun i hi => ?_) ?_ rfl
  · unfold ref_comes_l1
    have hset : ∀ b : Bool, b = insB N f i → (tab N.length fun j => if j < i then insB N f j else false).set i b = tab N.length fun j => if j < i + 1 then insB N f j else false := fun b hb => by
      rw [tab_set]
      refine tab_congr fun j _ => ?_
      by_cases hj : j = i
      · subst hj; rw [if_pos rfl, if_pos (by omega), hb]
      · rw [if_neg hj]
        by_cases h : j < i
        · rw [if_pos h, if_pos (by omega)]
        · rw [if_neg h, if_neg (by omega)]
    simp only [dcT (show (i : Int) < (N.length : Int) by omega), cond_true, getI_D v0 (Int.natCast_nonneg i) (show (i : Int) < (N.length : Int) by omega), Int.toNat_natCast, Option.bind_some, length_tab, inB_T hi, tab_get _ hi, wrapS (show i < 9223372036854775807 by omega)]
    show (cond (decide (deepAt N i > (f : Int))) _ (cond (deepAt N i == (f : Int)) _ _)) = _
    have hins : insB N f i = (decide (deepAt N i > (f : Int)) || (deepAt N i == (f : Int) && kindAt N i != 6)) := rfl
    cases h1 : decide (deepAt N i > (f : Int)) with
    | true => rw [h1] at hins; rw [cond_true, hset true hins.symm]
    | false =>
      rw [h1] at hins
      rw [cond_false]
      cases h2 : deepAt N i == (f : Int) with
      | true =>
        rw [h2] at hins
        rw [cond_true]
        show some (Sum.inl (((i + 1 : Nat) : Int), (tab N.length fun j => if j < i then insB N f j else false).set i (kindAt N i != 6), ())) = _
        rw [hset _ (by rw [hins]; rfl)]
      | false => rw [h2] at hins; rw [cond_false, hset false hins.symm]
  · unfold ref_comes_l1
    simp only [dcF (show ¬ (N.length : Int) < (N.length : Int) by omega), cond_false]

theorem comes_l2 (hn : N.length ≤ 12) (hE : E.length ≤ 20) (hok : ∀ j, j < E.length → edgeC N E j = 0) (f : Nat) :
    loopM (ref_comes_l2 ((N, E, ()), (f : Int), ()) (tab N.length (insB N f), ())) ((0 : Int), List.replicate (N.length * N.length) false, ()) = some (.inl (sqT N.length (edM N E f E.length), ())) := by
  have h0 : List.replicate (N.length * N.length) false = sqT N.length (edM N E f 0) := by
    rw [rep_tab]; exact tab_congr fun j _ => by simp [edM]
  rw [h0]
  refine loopM_sim E.length (fun i => ((i : Int), sqT N.length (edM N E f i), ())) _ (fun i hi => ?_) ?_ rfl
  · have hv := edge_ok (hok i hi)
    obtain ⟨a, ha⟩ := Int.eq_ofNat_of_zero_le hv.1
    obtain ⟨b, hb⟩ := Int.eq_ofNat_of_zero_le hv.2.2.1
    have han : a < N.length := by have := hv.2.1; omega
    have hbn : b < N.length := by have := hv.2.2.2.1; omega
    have ha' : (E.getD i e0).1 = (a : Int) := ha
    have hb' : (E.getD i e0).2.1 = (b : Int) := hb
    have hsame : (insB N f a && insB N f b) = false → sqT N.length (edM N E f i) = sqT N.length (edM N E f (i + 1)) := fun h => tab_congr fun y _ => by
      unfold edM
      rw [List.range_succ, List.any_append, List.any_cons, List.any_nil, Bool.or_false]
      show _ = (_ && _ && (_ || (frE E i == _ && toE E i == _)))
      rw [ha, hb]
      by_cases hy : ((a : Nat) : Int) = ((y / N.length : Nat) : Int) ∧ ((b : Nat) : Int) = ((y % N.length : Nat) : Int)
      · have h1 : a = y / N.length := Int.ofNat.inj hy.1
        have h2 : b = y % N.length := Int.ofNat.inj hy.2
        rw [← h1, ← h2, h]; simp
      · have : ((((a : Nat) : Int) == ((y / N.length : Nat) : Int)) && (((b : Nat) : Int) == ((y % N.length : Nat) : Int))) = false := by
          cases hq : ((((a : Nat) : Int) == ((y / N.length : Nat) : Int)) && (((b : Nat) : Int) == ((y % N.length : Nat) : Int))) with
          | false => rfl
          | true => simp only [Bool.and_eq_true, beq_iff_eq] at hq; exact absurd hq hy
        rw [this, Bool.or_false]
    have hset : (insB N f a && insB N f b) = true → (sqT N.length (edM N E f i)).set (a * N.length + b) true = sqT N.length (edM N E f (i + 1)) := fun h => by
      unfold sqT
      rw [tab_set]
      refine tab_congr fun y hy => ?_
      unfold edM
      rw [List.range_succ, List.any_append, List.any_cons, List.any_nil, Bool.or_false]
      show _ = (_ && _ && (_ || (frE E i == _ && toE E i == _)))
      rw [ha, hb]
      by_cases hyy : y = a * N.length + b
      · subst hyy
        rw [if_pos rfl, sq_div hbn, sq_mod hbn, h]; simp
      · rw [if_neg hyy]
        have : ((((a : Nat) : Int) == ((y / N.length : Nat) : Int)) && (((b : Nat) : Int) == ((y % N.length : Nat) : Int))) = false := by
          cases hq : ((((a : Nat) : Int) == ((y / N.length : Nat) : Int)) && (((b : Nat) : Int) == ((y % N.length : Nat) : Int))) with
          | false => rfl
          | true =>
            simp only [Bool.and_eq_true, beq_iff_eq] at hq
            exfalso
            have h1 : a = y / N.length := Int.ofNat.inj hq.1
            have h2 : b = y % N.length := Int.ofNat.inj hq.2
            have := Nat.div_add_mod y N.length
            rw [← h1, ← h2, Nat.mul_comm] at this
            exact hyy this.symm
        rw [this, Bool.or_false]
    unfold ref_comes_l2
    simp only [dcT (show (i : Int) < (E.length : Int) by omega), cond_true, getI_D e0 (Int.natCast_nonneg i) (show (i : Int) < (E.length : Int) by omega), Int.toNat_natCast, Option.bind_some, ha', hb', length_tab, inB_T han, inB_T hbn, tab_get _ han, tab_get _ hbn, sq_wrapG (show N.length ≤ 64 by omega) han hbn, sqT_len, inB_T (sq_lt han hbn), sqT_get han hbn, wrapS (show i < 9223372036854775807 by omega)]
    cases h1 : insB N f a with
    | false => rw [cond_false, hsame (by rw [h1]; rfl)]
    | true =>
      rw [cond_true]
      cases h2 : insB N f b with
      | false => rw [cond_false, hsame (by rw [h1, h2]; rfl)]
      | true => rw [cond_true, hset (by rw [h1, h2]; rfl)]
  · unfold ref_comes_l2
    simp only [dcF (show ¬ (E.length : Int) < (E.length : Int) by omega), cond_false]

/-- One round of closure, in place. -/
def fwL (w : Nat → Nat → Bool) (n k x : Nat) : List Bool := tab (n * n) (fwAt w n k x)
theorem fwL_len {w : Nat → Nat → Bool} {n k x : Nat} : (fwL w n k x).length = n * n := tab_length _ _
theorem fwL_get {w : Nat → Nat → Bool} {n k x i j : Nat} (hi : i < n) (hj : j < n) : (fwL w n k x)[i * n + j]? = some (fwAt w n k x (i * n + j)) := tab_get _ (sq_lt hi hj)
theorem fwL_zero (w : Nat → Nat → Bool) (n k : Nat) : sqT n w = fwL w n k 0 := tab_congr fun y _ => by simp [fwAt]
theorem fwL_end (w : Nat → Nat → Bool) (n k : Nat) : fwL w n k (n * n) = sqT n (fwR w k) := tab_congr fun y hy => by simp [fwAt, hy]

theorem comes_l3 (hn : N.length ≤ 12) (f : Nat) (w : Nat → Nat → Bool) {k i : Nat} (hk : k < N.length) (hi : i < N.length) (y1 y2 : List Bool × Unit) :
    loopM (ref_comes_l3 ((N, E, ()), (f : Int), ()) ((i : Int), y1) ((k : Int), y2)) ((0 : Int), fwL w N.length k (i * N.length), ()) = some (.inl (fwL w N.length k ((i + 1) * N.length), ())) := by
  have hend : (i + 1) * N.length = i * N.length + N.length := by rw [Nat.add_mul, Nat.one_mul]
  rw [hend]
  refine loopM_sim N.length (fun j => ((j : Int), fwL w N.length k (i * N.length + j), ())) _ (fun j hj => ?_) ?_ rfl
  · have hn64 : N.length ≤ 64 := by omega
    have hset : ∀ b : Bool, b = fwR w k i j → (fwL w N.length k (i * N.length + j)).set (i * N.length + j) b = fwL w N.length k (i * N.length + (j + 1)) := fun b hb => by
      unfold fwL
      rw [tab_set]
      exact tab_congr fun y _ => by rw [fwAt_step hj, hb]
    have hsame : w i j = fwR w k i j → fwL w N.length k (i * N.length + j) = fwL w N.length k (i * N.length + (j + 1)) := fun h => tab_congr fun y _ => by
      rw [fwAt_step hj]
      split
      · rename_i hy; rw [hy, fwAt_here hj, h]
      · rfl
    unfold ref_comes_l3
    simp only [dcT (show (j : Int) < (N.length : Int) by omega), cond_true, sq_wrapG hn64 hi hk, sq_wrapG hn64 hk hj, sq_wrapG hn64 hi hj, fwL_len, inB_T (sq_lt hi hk), inB_T (sq_lt hk hj), inB_T (sq_lt hi hj), Int.toNat_natCast, fwL_get hi hk, fwL_get hk hj, fwL_get hi hj, fwAt_col hk, fwAt_row hj, Option.bind_some, wrapS (show j < 9223372036854775807 by omega)]
    cases h1 : w i k with
    | false => rw [cond_false, hsame (by simp [fwR, h1])]
    | true =>
      rw [cond_true]
      cases h2 : w k j with
      | false => rw [cond_false, hsame (by simp [fwR, h1, h2])]
      | true => rw [cond_true, hset true (by simp [fwR, h1, h2])]
  · unfold ref_comes_l3
    simp only [dcF (show ¬ (N.length : Int) < (N.length : Int) by omega), cond_false]

theorem comes_l4 (hn : N.length ≤ 12) (f : Nat) (w : Nat → Nat → Bool) {k : Nat} (hk : k < N.length) (y : List Bool × Unit) :
    loopM (ref_comes_l4 ((N, E, ()), (f : Int), ()) ((k : Int), y)) ((0 : Int), sqT N.length w, ()) = some (.inl (sqT N.length (fwR w k), ())) := by
  rw [fwL_zero w N.length k, ← fwL_end]
  refine loopM_sim N.length (fun i => ((i : Int), fwL w N.length k (i * N.length), ())) _ (fun i hi => ?_) ?_ (by simp)
  · unfold ref_comes_l4
    simp only [dcT (show (i : Int) < (N.length : Int) by omega), cond_true, comes_l3 hn f w hk hi, Option.bind_some, Sum.elim_inl, wrapS (show i < 9223372036854775807 by omega)]
  · unfold ref_comes_l4
    simp only [dcF (show ¬ (N.length : Int) < (N.length : Int) by omega), cond_false]

theorem ref_comes_eq (hn : N.length ≤ 12) (hE : E.length ≤ 20) (hok : ∀ j, j < E.length → edgeC N E j = 0) (f : Nat) :
    ref_comes ((N, E, ()), (f : Int), ()) = some (sqT N.length (fwN (edM N E f E.length) N.length), ()) := by
  have hnn : N.length * N.length ≤ 12 * 12 := Nat.mul_le_mul hn hn
  unfold ref_comes
  simp only [sq_room hn, Int.toNat_natCast]
  rw [dcT (show (0 : Int) ≤ ((N.length * N.length : Nat) : Int) by omega), dcT (show ((N.length * N.length : Nat) : Int) ≤ ((N.length * N.length : Nat) : Int) by omega), room1G (by omega), dcT (show ((N.length * N.length : Nat) : Int) ≤ 9223372036854775807 by omega),
    dcT (show (0 : Int) ≤ (N.length : Int) by omega), dcT (show (N.length : Int) ≤ (N.length : Int) by omega), room1G (show N.length ≤ 1000000 by omega), dcT (show (N.length : Int) ≤ 9223372036854775807 by omega)]
  simp only [Bool.and_self, cond_true, comes_l1 hn f, Option.bind_some, Sum.elim_inl, comes_l2 hn hE hok f]
  have h5 : loopM (ref_comes_l5 ((N, E, ()), (f : Int), ())) ((0 : Int), sqT N.length (edM N E f E.length), ()) = some (.inl (sqT N.length (fwN (edM N E f E.length) N.length), ())) := by
    refine loopM_sim N.length (fun k => ((k : Int), sqT N.length (fwN (edM N E f E.length) k), ())) _ (fun k hk => ?_) ?_ rfl
    · unfold ref_comes_l5
      simp only [dcT (show (k : Int) < (N.length : Int) by omega), cond_true, comes_l4 hn f _ hk, Option.bind_some, Sum.elim_inl, wrapS (show k < 9223372036854775807 by omega)]
      rfl
    · unfold ref_comes_l5
      simp only [dcF (show ¬ (N.length : Int) < (N.length : Int) by omega), cond_false]
  rw [h5]
  rfl
end
end

section
open Go Go.Abs


/-! Rings, in both. -/
theorem find_map {β : Type} (p : Nat → Bool) (g : Nat → β) (l : List Nat) : (l.findSome? fun i => cond (p i) (some (g i)) none) = (l.find? p).map g := by
  induction l with
  | nil => rfl
  | cons a r ih =>
    rw [List.findSome?_cons, List.find?_cons]
    cases p a with
    | true => rfl
    | false => exact ih
theorem find_congrG {p q : Nat → Bool} {n : Nat} (h : ∀ i, i < n → p i = q i) : (List.range n).find? p = (List.range n).find? q := by
  have key : ∀ l : List Nat, (∀ i, i ∈ l → p i = q i) → l.find? p = l.find? q := by
    intro l
    induction l with
    | nil => intro _; rfl
    | cons a r ih =>
      intro hl
      rw [List.find?_cons, List.find?_cons, hl a (by simp), ih fun i hi => hl i (by simp [hi])]
  exact key _ fun i hi => h i (List.mem_range.1 hi)
theorem find_none_all {p : Nat → Bool} {n : Nat} (h : (List.range n).find? p = none) : ∀ i, i < n → p i = false := fun i hi => by
  have := List.find?_eq_none.1 h i (List.mem_range.2 hi)
  simpa using this

def ringR (N : List Node) (E : List Edge) (j : Nat) : Bool := (List.range N.length).any fun i => fwN (edM N E (deepAt N i).toNat E.length) N.length j i && fwN (edM N E (deepAt N i).toNat E.length) N.length i j

section
variable {N : List Node} {E : List Edge}
theorem edM_iff {f a b : Nat} : edM N E f E.length a b = true ↔ insB N f a = true ∧ insB N f b = true ∧ ∃ j, j < E.length ∧ frE E j = a ∧ toE E j = b := by
  unfold edM
  rw [Bool.and_eq_true, Bool.and_eq_true, List.any_eq_true]
  constructor
  · rintro ⟨⟨h1, h2⟩, j, h3, h4⟩
    rw [Bool.and_eq_true, beq_iff_eq, beq_iff_eq] at h4
    exact ⟨h1, h2, j, List.mem_range.1 h3, h4⟩
  · rintro ⟨h1, h2, j, h3, h4, h5⟩
    exact ⟨⟨h1, h2⟩, j, List.mem_range.2 h3, by rw [h4, h5]; simp⟩
theorem ins_bit (f a : Nat) : (insW N f).testBit a = true ↔ a < N.length ∧ insB N f a = true := by
  unfold insW
  rw [wordOf_bit, Bool.and_eq_true, decide_eq_true_eq]
theorem edM_lt (hok : ∀ j, j < E.length → edgeC N E j = 0) {f a b : Nat} (h : edM N E f E.length a b = true) : a < N.length ∧ b < N.length := by
  obtain ⟨_, _, j, hj, h1, h2⟩ := edM_iff.1 h
  have he := edge_ok (hok j hj)
  rw [h1, h2] at he
  exact ⟨by have := he.2.1; omega, by have := he.2.2.2.1; omega⟩
theorem step_iff (hok : ∀ j, j < E.length → edgeC N E j = 0) {f a b : Nat} : stepA (toW E E.length) (insW N f) a b = true ↔ (∃ j, j < E.length ∧ frE E j = a ∧ toE E j = b) ∧ (insW N f).testBit b = true := by
  unfold stepA
  rw [Bool.and_eq_true, toW_bit E a b E.length fun j hj => (edge_ok (hok j hj)).2.2.1]
theorem way_ed (hok : ∀ j, j < E.length → edgeC N E j = 0) {f i j : Nat} (h : Way (stepA (toW E E.length) (insW N f)) i j) : (insW N f).testBit i = true → Way (edM N E f E.length) i j ∧ (insW N f).testBit j = true := by
  intro hi
  induction h with
  | one h =>
    obtain ⟨h1, h2⟩ := (step_iff hok).1 h
    exact ⟨.one (edM_iff.2 ⟨((ins_bit _ _).1 hi).2, ((ins_bit _ _).1 h2).2, h1⟩), h2⟩
  | more _ h2 ih =>
    obtain ⟨h1, h2⟩ := (step_iff hok).1 h2
    exact ⟨.more ih.1 (edM_iff.2 ⟨((ins_bit _ _).1 ih.2).2, ((ins_bit _ _).1 h2).2, h1⟩), h2⟩
theorem ed_way (hok : ∀ j, j < E.length → edgeC N E j = 0) {f i j : Nat} (h : Way (edM N E f E.length) i j) : Way (stepA (toW E E.length) (insW N f)) i j ∧ (insW N f).testBit i = true := by
  have key : ∀ {a b}, edM N E f E.length a b = true → stepA (toW E E.length) (insW N f) a b = true ∧ (insW N f).testBit a = true := fun {a b} h => by
    have hl := edM_lt hok h
    obtain ⟨h1, h2, h3⟩ := edM_iff.1 h
    exact ⟨(step_iff hok).2 ⟨h3, (ins_bit _ _).2 ⟨hl.2, h2⟩⟩, (ins_bit _ _).2 ⟨hl.1, h1⟩⟩
  induction h with
  | one h => exact ⟨.one (key h).1, (key h).2⟩
  | more _ h2 ih => exact ⟨.more ih.1 (key h2).1, ih.2⟩

theorem ring_same (hN : N.all mayB = true) (hok : ∀ j, j < E.length → edgeC N E j = 0) (j : Nat) : (badN N (toW E E.length) 4).testBit j = ringR N E j := by
  rw [Bool.eq_iff_iff, badN_bit]
  unfold ringR
  rw [List.any_eq_true]
  constructor
  · rintro ⟨f, i, h1, h2, h3, h4, h5, h6, h7⟩
    have hf : (deepAt N i).toNat = f := by omega
    have e1 := way_ed hok h6 h4
    have e2 := way_ed hok h7 e1.2
    refine ⟨i, List.mem_range.2 h3, ?_⟩
    rw [hf, Bool.and_eq_true]
    exact ⟨(fwN_all (fun a b h => edM_lt hok h) _ _).2 e2.1, (fwN_all (fun a b h => edM_lt hok h) _ _).2 e1.1⟩
  · rintro ⟨i, hi, h⟩
    have hi := List.mem_range.1 hi
    rw [Bool.and_eq_true] at h
    have hm := may_deep (may_at hN (Int.natCast_nonneg i) (by omega))
    have hm' : 1 ≤ deepAt N i ∧ deepAt N i ≤ 4 := hm
    have w1 := ed_way hok ((fwN_all (fun a b h => edM_lt hok h) _ _).1 h.1)
    have w2 := ed_way hok ((fwN_all (fun a b h => edM_lt hok h) _ _).1 h.2)
    exact ⟨(deepAt N i).toNat, i, by omega, by omega, hi, w2.2, by omega, w2.1, w1.1⟩

/-! The document's loops. -/
def waysR (N : List Node) (E : List Edge) : List (List Bool) := tab 4 fun f => sqT N.length (fwN (edM N E (f + 1) E.length) N.length)

theorem refc_l1 (hn : N.length ≤ 12) (z : Int × Int × Unit) : loopM (ref_GraphCheck_l1 ((N, E, ()), ())) ((0 : Int), z, ()) = some (exitOr (((List.range N.length).find? fun i => !mayB (N.getD i v0)).map fun i : Nat => (((2 : Int), (i : Int), ()), ())) (.inl (z, ()))) := by
  rw [← find_map]
  refine loopM_exit (f := ref_GraphCheck_l1 ((N, E, ()), ())) N.length (fun i => ((i : Int), z, ())) _ _ (fun i hi => ?_) ?_ rfl
  · unfold ref_GraphCheck_l1
    simp only [dcT (show (i : Int) < (N.length : Int) by omega), cond_true, getI_D v0 (Int.natCast_nonneg i) (show (i : Int) < (N.length : Int) by omega), Int.toNat_natCast, Option.bind_some, ref_NodeMay_eq]
    rw [wrapS (by omega)]
    cases mayB (N.getD i v0) <;> rfl
  · unfold ref_GraphCheck_l1
    simp only [dcF (show ¬ (N.length : Int) < (N.length : Int) by omega), cond_false]

theorem refc_l2 (hN : N.all mayB = true) (hE : E.length ≤ 20) (z : Int × Int × Unit) : loopM (ref_GraphCheck_l2 ((N, E, ()), ())) ((0 : Int), z, ()) = some (exitOr (((List.range E.length).find? fun i => edgeC N E i != 0).map fun i : Nat => ((edgeC N E i, (i : Int), ()), ())) (.inl (z, ()))) := by
  rw [← find_map]
  refine loopM_exit (f := ref_GraphCheck_l2 ((N, E, ()), ())) E.length (fun i => ((i : Int), z, ())) _ _ (fun i hi => ?_) ?_ rfl
  · unfold ref_GraphCheck_l2
    simp only [dcT (show (i : Int) < (E.length : Int) by omega), cond_true, ref_edge_eq hN hE hi, Option.bind_some]
    rw [wrapS (by omega)]
    cases edgeC N E i != 0 <;> rfl
  · unfold ref_GraphCheck_l2
    simp only [dcF (show ¬ (E.length : Int) < (E.length : Int) by omega), cond_false]

theorem refc_l3 (hE : E.length ≤ 20) (i : Nat) (z : (Int × Int × Unit) × Unit) : loopM (ref_GraphCheck_l3 ((N, E, ()), ()) ((i : Int), z)) ((0 : Int), (0 : Int), ()) = some (.inl (((cntB E.length fun j => toE E j == (i : Int) : Nat) : Int), ())) := by
  refine loopM_sim E.length (fun j => (((cntB j fun j => toE E j == (i : Int) : Nat) : Int), (j : Int), ())) _ (fun j hj => ?_) ?_ rfl
  · unfold ref_GraphCheck_l3
    have hc := cntB_le (fun j => toE E j == (i : Int)) j
    simp only [dcT (show (j : Int) < (E.length : Int) by omega), cond_true, getI_D e0 (Int.natCast_nonneg j) (show (j : Int) < (E.length : Int) by omega), Int.toNat_natCast, Option.bind_some]
    rw [wrapS (show j < 9223372036854775807 by omega), wrapS (show cntB j _ < 9223372036854775807 by omega)]
    show (cond (toE E j == (i : Int)) _ _) = some (Sum.inl (((cntB j _ + cond (toE E j == (i : Int)) 1 0 : Nat) : Int), _))
    cases toE E j == (i : Int) <;> rfl
  · unfold ref_GraphCheck_l3
    simp only [dcF (show ¬ (E.length : Int) < (E.length : Int) by omega), cond_false]

theorem refc_l4 (hn : N.length ≤ 12) (hE : E.length ≤ 20) (hok : ∀ j, j < E.length → edgeC N E j = 0) (z : Int × Int × Unit) : loopM (ref_GraphCheck_l4 ((N, E, ()), ())) ((0 : Int), z, ()) = some (exitOr (((List.range N.length).find? fun i => missB N E i).map fun i : Nat => (((5 : Int), (i : Int), ()), ())) (.inl (z, ()))) := by
  rw [← find_map]
  refine loopM_exit (f := ref_GraphCheck_l4 ((N, E, ()), ())) N.length (fun i => ((i : Int), z, ())) _ _ (fun i hi => ?_) ?_ rfl
  · unfold ref_GraphCheck_l4
    simp only [dcT (show (i : Int) < (N.length : Int) by omega), cond_true, refc_l3 hE i (z, ()), Sum.elim_inl, getI_D v0 (Int.natCast_nonneg i) (show (i : Int) < (N.length : Int) by omega), Int.toNat_natCast, Option.bind_some, ref_Ports_eq]
    rw [wrapS (by omega), miss_count hok]
    cases missB N E i <;> rfl
  · unfold ref_GraphCheck_l4
    simp only [dcF (show ¬ (N.length : Int) < (N.length : Int) by omega), cond_false]

theorem refc_l5 (hn : N.length ≤ 12) (hE : E.length ≤ 20) (hok : ∀ j, j < E.length → edgeC N E j = 0) : loopM (ref_GraphCheck_l5 ((N, E, ()), ())) (([] : List (List Bool)), (1 : Int), ()) = some (.inl (waysR N E, ())) := by
  refine loopM_sim 4 (fun f => (tab f fun f => sqT N.length (fwN (edM N E (f + 1) E.length) N.length), ((f + 1 : Nat) : Int), ())) _ (fun f hf => ?_) ?_ rfl
  · unfold ref_GraphCheck_l5
    simp only [dcT (show ((f + 1 : Nat) : Int) ≤ 4 by omega), cond_true, ref_comes_eq hn hE hok (f + 1), Option.bind_some, length_tab, List.length_cons, List.length_nil]
    have hr : roomOk (f + (0 + 1)) 24 = true := by
      unfold roomOk
      rw [Bool.and_eq_true]
      exact ⟨Nat.ble_eq_true_of_le (by omega), Nat.ble_eq_true_of_le (by omega)⟩
    rw [hr, wrapS (by omega), ← tab_succ]
    rfl
  · unfold ref_GraphCheck_l5
    rfl

theorem refc_l6 (hn : N.length ≤ 12) (hN : N.all mayB = true) {j : Nat} (hj : j < N.length) (z w : Int × Int × Unit) :
    loopM (ref_GraphCheck_l6 ((N, E, ()), ()) (waysR N E, ()) ((j : Int), z, ())) ((0 : Int), w, ()) = some (if ringR N E j = true then .inl (((9 : Int), (j : Int), ()), ()) else .inr (.inl (w, ()))) := by
  have h := loopM_exit (f := ref_GraphCheck_l6 ((N, E, ()), ()) (waysR N E, ()) ((j : Int), z, ())) N.length (fun i => ((i : Int), w, ())) (fun i => cond (fwN (edM N E (deepAt N i).toNat E.length) N.length j i && fwN (edM N E (deepAt N i).toNat E.length) N.length i j) (some (((9 : Int), (j : Int), ()), ())) none) (.inl (w, ())) (fun i hi => by
    have hm := may_deep (may_at hN (Int.natCast_nonneg i) (show (i : Int) < (N.length : Int) by omega))
    have hm' : 1 ≤ deepAt N i ∧ deepAt N i ≤ 4 := hm
    obtain ⟨f, hf⟩ := Int.eq_ofNat_of_zero_le (show 0 ≤ deepAt N i - 1 by omega)
    have hd : deepAt N i = ((f + 1 : Nat) : Int) := by omega
    have hd' : (N.getD i v0).2.1 = ((f + 1 : Nat) : Int) := hd
    have hw : IntKind.i64.wrap (((f + 1 : Nat) : Int) - 1) = (f : Int) := by rw [wrap64 (by omega) (by omega)]; omega
    have hf4 : f < 4 := by omega
    have hg : (waysR N E)[f]? = some (sqT N.length (fwN (edM N E (f + 1) E.length) N.length)) := tab_get _ hf4
    have hl : (waysR N E).length = 4 := length_tab
    have hn64 : N.length ≤ 64 := by omega
    unfold ref_GraphCheck_l6
    simp only [dcT (show (i : Int) < (N.length : Int) by omega), cond_true, getI_D v0 (Int.natCast_nonneg i) (show (i : Int) < (N.length : Int) by omega), Int.toNat_natCast, Option.bind_some, hd', hw, hl, inB_T hf4, hg, sq_wrapG hn64 hj hi, sq_wrapG hn64 hi hj, getI_nat, sqT_get hj hi, sqT_get hi hj, wrapS (show i < 9223372036854775807 by omega), hd]
    cases fwN (edM N E (f + 1) E.length) N.length j i <;> cases fwN (edM N E (f + 1) E.length) N.length i j <;> rfl) (by
    unfold ref_GraphCheck_l6
    simp only [dcF (show ¬ (N.length : Int) < (N.length : Int) by omega), cond_false]) rfl
  refine Eq.trans h ?_
  rw [find_const]
  show some (exitOr (if ringR N E j = true then _ else _) _) = _
  split <;> rfl

theorem refc_l7 (hn : N.length ≤ 12) (hN : N.all mayB = true) (z : Int × Int × Unit) : loopM (ref_GraphCheck_l7 ((N, E, ()), ()) (waysR N E, ())) ((0 : Int), z, ()) = some (exitOr (((List.range N.length).find? fun j => ringR N E j).map fun j : Nat => (((9 : Int), (j : Int), ()), ())) (.inl (z, ()))) := by
  rw [← find_map]
  refine loopM_exit (f := ref_GraphCheck_l7 ((N, E, ()), ()) (waysR N E, ())) N.length (fun i => ((i : Int), z, ())) _ _ (fun j hj => ?_) ?_ rfl
  · unfold ref_GraphCheck_l7
    simp only [dcT (show (j : Int) < (N.length : Int) by omega), cond_true, refc_l6 hn hN hj z z, Option.bind_some]
    rw [wrapS (by omega)]
    cases ringR N E j <;> rfl
  · unfold ref_GraphCheck_l7
    simp only [dcF (show ¬ (N.length : Int) < (N.length : Int) by omega), cond_false]
end

/-! One value. -/
def gval (N : List Node) (E : List Edge) : Int × Int × Unit :=
  if 12 < N.length ∨ 20 < E.length then (1, 0, ())
  else match (List.range N.length).find? fun i => !mayB (N.getD i v0) with
  | some i => (2, (i : Int), ())
  | none => match (List.range E.length).find? fun i => edgeC N E i != 0 with
    | some i => (edgeC N E i, (i : Int), ())
    | none => match (List.range N.length).find? fun i => missB N E i with
      | some i => (5, (i : Int), ())
      | none => match (List.range N.length).find? fun j => ringR N E j with
        | some j => (9, (j : Int), ())
        | none => (0, 0, ())

theorem all_may {N : List Node} (h : (List.range N.length).find? (fun i => !mayB (N.getD i v0)) = none) : N.all mayB = true := by
  rw [List.all_eq_true]
  intro v hv
  obtain ⟨i, hi, rfl⟩ := List.mem_iff_getElem.1 hv
  have := find_none_all h i hi
  rw [List.getD_eq_getElem?_getD, List.getElem?_eq_getElem hi] at this
  simpa using this

theorem ref_GraphCheck_eq (N : List Node) (E : List Edge) : ref_GraphCheck ((N, E, ()), ()) = some (gval N E, ()) := by
  unfold ref_GraphCheck gval
  by_cases h1 : 12 < N.length
  · simp only [dcT (show (N.length : Int) > 12 by omega), cond_true, if_pos (Or.inl h1 : 12 < N.length ∨ 20 < E.length)]
  by_cases h2 : 20 < E.length
  · simp only [dcF (show ¬ (N.length : Int) > 12 by omega), dcT (show (E.length : Int) > 20 by omega), cond_true, cond_false, if_pos (Or.inr h2 : 12 < N.length ∨ 20 < E.length)]
  have hn : N.length ≤ 12 := by omega
  have hE : E.length ≤ 20 := by omega
  simp only [dcF (show ¬ (N.length : Int) > 12 by omega), dcF (show ¬ (E.length : Int) > 20 by omega), cond_false, if_neg (show ¬ (12 < N.length ∨ 20 < E.length) by omega), refc_l1 hn, Option.bind_some]
  cases hf1 : (List.range N.length).find? fun i => !mayB (N.getD i v0) with
  | some i => rfl
  | none =>
    have hN := all_may hf1
    simp only [Option.map_none, exitOr_none, Sum.elim_inr, Sum.elim_inl, refc_l2 hN hE, Option.bind_some]
    cases hf2 : (List.range E.length).find? fun i => edgeC N E i != 0 with
    | some i => rfl
    | none =>
      have hok : ∀ j, j < E.length → edgeC N E j = 0 := fun j hj => by simpa using find_none_all hf2 j hj
      simp only [Option.map_none, exitOr_none, Sum.elim_inr, Sum.elim_inl, refc_l4 hn hE hok, Option.bind_some]
      cases hf3 : (List.range N.length).find? fun i => missB N E i with
      | some i => rfl
      | none =>
        simp only [Option.map_none, exitOr_none, Sum.elim_inr, Sum.elim_inl, refc_l5 hn hE hok, refc_l7 hn hN, Option.bind_some]
        cases hf4 : (List.range N.length).find? fun j => ringR N E j <;> rfl
end

section
open Go Go.Abs


/-! The program's check. -/
theorem graph_fault_eq (a b : Int) : graph_fault (a, b, ()) = some ((a, b, ()), ()) := rfl
theorem replic_cl (n : Nat) : List.replicate n (0 : Int) = cl (tab n fun _ => 0) := by
  unfold cl
  rw [show (tab n fun _ => 0) = List.replicate n 0 from (rep_tab ..).symm, List.map_replicate]
  rfl

section
variable {N : List Node} {E : List Edge}
theorem check_l1 (hn : N.length ≤ 12) : loopM (graph_Check_l1 ((N, E, ()), ())) ((0 : Int), ()) = some (exitOr (((List.range N.length).find? fun i => !mayB (N.getD i v0)).map fun i : Nat => ((i : Int), ())) (.inl ())) := by
  rw [← find_map]
  refine loopM_exit (f := graph_Check_l1 ((N, E, ()), ())) N.length (fun i => ((i : Int), ())) _ _ (fun i hi => ?_) ?_ rfl
  · unfold graph_Check_l1
    simp only [dcT (show (i : Int) < (N.length : Int) by omega), cond_true, getI_D v0 (Int.natCast_nonneg i) (show (i : Int) < (N.length : Int) by omega), Int.toNat_natCast, Option.bind_some, graph_Check_c1_eq]
    rw [wrapS (by omega)]
    cases mayB (N.getD i v0) <;> rfl
  · unfold graph_Check_l1
    simp only [dcF (show ¬ (N.length : Int) < (N.length : Int) by omega), cond_false]

theorem edge_find : (List.range E.length).findSome? (edgeG N E) = ((List.range E.length).find? fun i => edgeC N E i != 0).map fun i => (cl (tab N.length (toW E i)), (edgeC N E i, (i : Int), ()), takenM E i, ()) := by
  rw [← find_map]
  refine congrArg (fun f => (List.range E.length).findSome? f) (funext fun i => ?_)
  unfold edgeG
  rw [cond_bne]

theorem bits_find {n v : Nat} (hv : v < 2 ^ n) : ((List.range n).findSome? fun j => if v.testBit j = true then some (Sum.inl (((j : Int), ()), ()) : (((Int × Unit) × Unit) ⊕ ((Int × Unit) × Unit) ⊕ Empty)) else none) = ((List.range n).find? fun j => v.testBit j).map fun j : Nat => Sum.inl (((j : Int), ()), ()) := by
  rw [← find_map]
  refine congrArg (fun f => (List.range n).findSome? f) (funext fun i => ?_)
  cases v.testBit i <;> rfl

theorem graph_Check_eq (N : List Node) (E : List Edge) : graph_Check ((N, E, ()), ()) = some (gval N E, ()) := by
  unfold graph_Check gval
  by_cases h1 : 12 < N.length
  · simp only [dcT (show (N.length : Int) > 12 by omega), cond_true, if_pos (Or.inl h1 : 12 < N.length ∨ 20 < E.length), graph_fault_eq, Option.bind_some]
  by_cases h2 : 20 < E.length
  · simp only [dcF (show ¬ (N.length : Int) > 12 by omega), dcT (show (E.length : Int) > 20 by omega), cond_true, cond_false, if_pos (Or.inr h2 : 12 < N.length ∨ 20 < E.length), graph_fault_eq, Option.bind_some]
  have hn : N.length ≤ 12 := by omega
  have hE : E.length ≤ 20 := by omega
  simp only [dcF (show ¬ (N.length : Int) > 12 by omega), dcF (show ¬ (E.length : Int) > 20 by omega), cond_false, if_neg (show ¬ (12 < N.length ∨ 20 < E.length) by omega), check_l1 hn, Option.bind_some]
  cases hf1 : (List.range N.length).find? fun i => !mayB (N.getD i v0) with
  | some i =>
    simp only [Option.map_some, exitOr_some, Sum.elim_inl, Option.bind_some, dcT (show (i : Int) ≥ 0 by omega), cond_true, graph_fault_eq]
  | none =>
    have hN := all_may hf1
    have hr4 : roomOk N.length 4 = true := by
      unfold roomOk
      rw [Bool.and_eq_true]
      exact ⟨Nat.ble_eq_true_of_le (by omega), Nat.ble_eq_true_of_le (by omega)⟩
    have d1 : decide ((-1 : Int) ≥ 0) = false := by decide
    simp only [Option.map_none, exitOr_none, Sum.elim_inr, Sum.elim_inl, Option.bind_some, d1, cond_false, dcT (show (0 : Int) ≤ (N.length : Int) by omega), dcT (show (N.length : Int) ≤ (N.length : Int) by omega), Int.toNat_natCast, hr4, dcT (show (N.length : Int) ≤ 9223372036854775807 by omega), Bool.and_self, cond_true, replic_cl, check_l2 hn hN hE, edge_find]
    cases hf2 : (List.range E.length).find? fun i => edgeC N E i != 0 with
    | some i =>
      have hne : (edgeC N E i != 0) = true := by have := List.find?_some hf2; exact this
      simp only [Option.map_some, exitOr_some, Sum.elim_inl, Option.bind_some, hne, cond_true]
    | none =>
      have hok : ∀ j, j < E.length → edgeC N E j = 0 := fun j hj => by simpa using find_none_all hf2 j hj
      have hT : ∀ a, toW E E.length a < 2 ^ N.length := fun a => toW_lt a E.length fun j hj => ⟨(edge_ok (hok j hj)).2.2.1, (edge_ok (hok j hj)).2.2.2.1⟩
      simp only [Option.map_none, exitOr_none, Sum.elim_inr, Sum.elim_inl, Option.bind_some, check_l4 E hn, find_map]
      cases hf3 : (List.range N.length).find? fun i => missB N E i with
      | some i => rfl
      | none =>
        have hb := badN_lt N (toW E E.length) 4
        have h0 : ((0 : Int) != 0) = false := rfl
        have hs : (List.range N.length).find? (fun j => (badN N (toW E E.length) 4).testBit j) = (List.range N.length).find? fun j => ringR N E j := find_congrG fun j _ => ring_same hN hok j
        simp only [Option.map_none, exitOr_none, Sum.elim_inr, Sum.elim_inl, Option.bind_some, h0, cond_false, check_l12 E hn hT, wrap_u64 (lt_64 (lt32 hn hb)), check_l13 hn hb, bits_find hb, hs]
        cases hf4 : (List.range N.length).find? fun j => ringR N E j with
        | some j =>
          simp only [Option.map_some, Option.getD_some, Sum.elim_inl, Option.bind_some, dcT (show (j : Int) ≥ 0 by omega), cond_true, graph_fault_eq]
        | none =>
          simp only [Option.map_none, Option.getD_none, Sum.elim_inr, Sum.elim_inl, Option.bind_some, d1, cond_false]
end
end

section
open Go Go.Abs


/-! A graph without faults: no node waits for itself; so among those that are not done one is ready. -/
section
variable {N : List Node} {E : List Edge}
theorem gval_zero {N : List Node} {E : List Edge} (h : (gval N E).1 = 0) : gval N E = (0, 0, ()) ∧ N.length ≤ 12 ∧ E.length ≤ 20 ∧ N.all mayB = true ∧ (∀ j, j < E.length → edgeC N E j = 0) ∧ ∀ j, j < N.length → ringR N E j = false := by
  unfold gval at h ⊢
  by_cases h1 : 12 < N.length ∨ 20 < E.length
  · rw [if_pos h1] at h; cases h
  rw [if_neg h1] at h ⊢
  cases hf1 : (List.range N.length).find? fun i => !mayB (N.getD i v0) with
  | some i => rw [hf1] at h; cases h
  | none =>
    rw [hf1] at h
    simp only at h ⊢
    cases hf2 : (List.range E.length).find? fun i => edgeC N E i != 0 with
    | some i =>
      rw [hf2] at h
      have := List.find?_some hf2
      simp only [bne_iff_ne] at this
      exact absurd h this
    | none =>
      rw [hf2] at h
      simp only at h ⊢
      cases hf3 : (List.range N.length).find? fun i => missB N E i with
      | some i => rw [hf3] at h; cases h
      | none =>
        rw [hf3] at h
        simp only at h ⊢
        cases hf4 : (List.range N.length).find? fun j => ringR N E j with
        | some j => rw [hf4] at h; cases h
        | none => exact ⟨rfl, by omega, by omega, all_may hf1, fun j hj => by simpa using find_none_all hf2 j hj, find_none_all hf4⟩

/-- b waits for a. -/
def waitB (N : List Node) (E : List Edge) (m : Nat) (a b : Nat) : Bool := kindAt N a != 6 && (List.range m).any fun j => frE E j == (a : Int) && toE E j == (b : Int)
theorem wait_iff {a b : Nat} : waitB N E E.length a b = true ↔ kindAt N a ≠ 6 ∧ ∃ j, j < E.length ∧ frE E j = a ∧ toE E j = b := by
  unfold waitB
  rw [Bool.and_eq_true, List.any_eq_true, bne_iff_ne]
  constructor
  · rintro ⟨h1, j, h3, h4⟩
    rw [Bool.and_eq_true, beq_iff_eq, beq_iff_eq] at h4
    exact ⟨h1, j, List.mem_range.1 h3, h4⟩
  · rintro ⟨h1, j, h3, h4, h5⟩
    exact ⟨h1, j, List.mem_range.2 h3, by rw [h4, h5]; simp⟩
theorem wait_lt (hok : ∀ j, j < E.length → edgeC N E j = 0) {a b : Nat} (h : waitB N E E.length a b = true) : a < N.length ∧ b < N.length := by
  obtain ⟨_, j, hj, h1, h2⟩ := wait_iff.1 h
  have he := edge_ok (hok j hj)
  rw [h1, h2] at he
  exact ⟨by have := he.2.1; omega, by have := he.2.2.2.1; omega⟩
theorem way_first {A : Nat → Nat → Bool} {i j : Nat} (h : Way A i j) : ∃ k, A i k = true := by
  induction h with
  | one h => exact ⟨_, h⟩
  | more _ _ ih => exact ih

theorem least_of {n : Nat} {p : Nat → Prop} (f : Nat → Nat) (h : ∃ i, p i) (hb : ∀ i, p i → f i ≤ n) : ∃ i, p i ∧ ∀ j, p j → f i ≤ f j := by
  have key : ∀ m i, p i → f i ≤ m → ∃ i, p i ∧ ∀ j, p j → f i ≤ f j := by
    intro m
    induction m with
    | zero => intro i hi h0; exact ⟨i, hi, fun j _ => by omega⟩
    | succ m ih =>
      intro i hi hm
      by_cases hx : ∃ j, p j ∧ f j ≤ m
      · obtain ⟨j, h1, h2⟩ := hx; exact ih j h1 h2
      · refine ⟨i, hi, fun j hj => ?_⟩
        by_cases hjm : f j ≤ m
        · exact absurd ⟨j, hj, hjm⟩ hx
        · omega
  obtain ⟨i, hi⟩ := h
  exact key n i hi (hb i hi)

theorem no_wait (hN : N.all mayB = true) (hok : ∀ j, j < E.length → edgeC N E j = 0) (hr : ∀ j, j < N.length → ringR N E j = false) (i : Nat) : ¬ Way (waitB N E E.length) i i := by
  intro hw
  have hcyc : ∀ j, (Way (waitB N E E.length) i j ∧ Way (waitB N E E.length) j i) → j < N.length ∧ kindAt N j ≠ 6 := fun j h => by
    obtain ⟨k, hk⟩ := way_first h.2
    exact ⟨(wait_lt hok hk).1, (wait_iff.1 hk).1⟩
  have hdeep : ∀ j, j < N.length → 1 ≤ deepAt N j ∧ deepAt N j ≤ 4 := fun j hj => may_deep (may_at hN (Int.natCast_nonneg j) (by omega))
  obtain ⟨j, hj, hmin⟩ := least_of (n := 4) (p := fun j => Way (waitB N E E.length) i j ∧ Way (waitB N E E.length) j i) (fun j => (deepAt N j).toNat) ⟨i, hw, hw⟩ fun j h => by have := hdeep j (hcyc j h).1; omega
  have hjn := (hcyc j hj).1
  have hjd := hdeep j hjn
  have hin : ∀ k, Way (waitB N E E.length) j k → Way (waitB N E E.length) k j → insB N (deepAt N j).toNat k = true := fun k h1 h2 => by
    have hk : Way (waitB N E E.length) i k ∧ Way (waitB N E E.length) k i := ⟨hj.1.trans h1, h2.trans hj.2⟩
    have hkd := hdeep k (hcyc k hk).1
    have hle : (deepAt N j).toNat ≤ (deepAt N k).toNat := hmin k hk
    unfold insB
    rw [Bool.or_eq_true, Bool.and_eq_true, decide_eq_true_eq, beq_iff_eq, bne_iff_ne]
    by_cases he : deepAt N k = ((deepAt N j).toNat : Int)
    · exact .inr ⟨he, (hcyc k hk).2⟩
    · exact .inl (by omega)
  have hall : ∀ k, Way (waitB N E E.length) j k → Way (waitB N E E.length) k j → Way (edM N E (deepAt N j).toNat E.length) j k := fun k h1 => by
    have hjj : Way (waitB N E E.length) j j := hj.2.trans hj.1
    induction h1 with
    | one h => exact fun h2 => .one (edM_iff.2 ⟨hin j hjj hjj, hin _ (.one h) h2, (wait_iff.1 h).2⟩)
    | more h1 h ih =>
      rename_i a b
      exact fun h2 => by
        have hb : Way (waitB N E E.length) a j := (Way.one h).trans h2
        exact .more (ih hb) (edM_iff.2 ⟨hin _ h1 hb, hin _ (.more h1 h) h2, (wait_iff.1 h).2⟩)
  have hjj : Way (waitB N E E.length) j j := hj.2.trans hj.1
  have h1 := (fwN_all (fun a b h => edM_lt hok h) j j).2 (hall j hjj hjj)
  have : ringR N E j = true := by
    unfold ringR
    rw [List.any_eq_true]
    exact ⟨j, List.mem_range.2 hjn, by rw [h1]; rfl⟩
  rw [hr j hjn] at this
  cases this

/-- Ready: not done, and all it waits for is done. -/
def readyB (N : List Node) (E : List Edge) (out : List Nat) (i : Nat) : Bool := !out.contains i && (List.range N.length).all fun a => !waitB N E E.length a i || out.contains a

theorem ready_ex (hN : N.all mayB = true) (hok : ∀ j, j < E.length → edgeC N E j = 0) (hr : ∀ j, j < N.length → ringR N E j = false) {out : List Nat} (h : ∃ i, i < N.length ∧ out.contains i = false) : ∃ i, i < N.length ∧ readyB N E out i = true := by
  have hclass : ∀ a b : Nat, Decidable (Way (waitB N E E.length) a b) := fun a b => Classical.propDecidable _
  obtain ⟨i, ⟨hi, hout⟩, hmin⟩ := least_of (n := N.length) (p := fun i => i < N.length ∧ out.contains i = false) (fun i => cntB N.length fun a => @decide (Way (waitB N E E.length) a i) (hclass a i)) h fun i _ => cntB_le _ _
  refine ⟨i, hi, ?_⟩
  unfold readyB
  rw [hout, Bool.not_false, Bool.true_and, List.all_eq_true]
  intro a ha
  have han := List.mem_range.1 ha
  cases hw : waitB N E E.length a i with
  | false => rfl
  | true =>
    cases ho : out.contains a with
    | true => rfl
    | false =>
      exfalso
      have hle := hmin a ⟨han, ho⟩
      have := cntB_more (p := fun b => @decide (Way (waitB N E E.length) b a) (hclass b a)) (q := fun b => @decide (Way (waitB N E E.length) b i) (hclass b i)) N.length (fun b _ hb => decide_eq_true (.more (of_decide_eq_true hb) hw)) ⟨a, han, decide_eq_false (no_wait hN hok hr a), decide_eq_true (.one hw)⟩
      omega
end
end

section
open Go Go.Abs


/-! Labels checked. -/
def badL (N : Int) (v : Int) : Bool := !(decide (0 ≤ v) && decide (v < N))
section
variable {Nd : List Node} {Ed : List Edge} {l : List Int} {N : Int} {ws : List Nat}
abbrev LR := (((Int × ((List Int) × Unit)) × (((List Int) × ((List Int) × (Int × (Int × Unit)))) × Unit)) × Int × Unit)

theorem lab_l1 (hl : l.length ≤ 12) (r1 : LR) (o : Int × List Int × Unit) (z : Int × Int × Unit) : loopM (labels_Legal_l1 (o, (Nd, Ed, ()), l, ()) r1) ((0 : Int), z, ()) = some (exitOr (((List.range l.length).find? fun i => badL r1.1.1.1 (l.getD i 0)).map fun i : Nat => (((2 : Int), (i : Int), ()), ())) (.inl (z, ()))) := by
  rw [← find_map]
  refine loopM_exit (f := labels_Legal_l1 (o, (Nd, Ed, ()), l, ()) r1) l.length (fun i => ((i : Int), z, ())) _ _ (fun i hi => ?_) ?_ rfl
  · unfold labels_Legal_l1 badL
    simp only [dcT (show (i : Int) < (l.length : Int) by omega), cond_true, getI_D (0 : Int) (Int.natCast_nonneg i) (show (i : Int) < (l.length : Int) by omega), Int.toNat_natCast, Option.bind_some]
    rw [wrapS (by omega)]
    by_cases h : 0 ≤ l.getD i 0
    · rw [dcT h]
      cases decide (l.getD i 0 < r1.1.1.1) <;> rfl
    · rw [dcF h]; rfl
  · unfold labels_Legal_l1
    simp only [dcF (show ¬ (l.length : Int) < (l.length : Int) by omega), cond_false]
theorem rlab_l1 (hl : l.length ≤ 12) (rs : List Int) (z : Int × Int × Unit) : loopM (ref_LabelsCheck_l1 ((N, rs, ()), (Nd, Ed, ()), l, ())) ((0 : Int), z, ()) = some (exitOr (((List.range l.length).find? fun i => badL N (l.getD i 0)).map fun i : Nat => (((2 : Int), (i : Int), ()), ())) (.inl (z, ()))) := by
  rw [← find_map]
  refine loopM_exit (f := ref_LabelsCheck_l1 ((N, rs, ()), (Nd, Ed, ()), l, ())) l.length (fun i => ((i : Int), z, ())) _ _ (fun i hi => ?_) ?_ rfl
  · unfold ref_LabelsCheck_l1 badL
    simp only [dcT (show (i : Int) < (l.length : Int) by omega), cond_true, getI_D (0 : Int) (Int.natCast_nonneg i) (show (i : Int) < (l.length : Int) by omega), Int.toNat_natCast, Option.bind_some]
    rw [wrapS (by omega)]
    by_cases h : 0 ≤ l.getD i 0
    · rw [dcF (show ¬ l.getD i 0 < 0 by omega), dcT h, cond_false]
      by_cases h2 : l.getD i 0 < N
      · rw [dcF (show ¬ l.getD i 0 ≥ N by omega), dcT h2]; rfl
      · rw [dcT (show l.getD i 0 ≥ N by omega), dcF h2]; rfl
    · rw [dcT (show l.getD i 0 < 0 by omega), dcF h]; rfl
  · unfold ref_LabelsCheck_l1
    simp only [dcF (show ¬ (l.length : Int) < (l.length : Int) by omega), cond_false]

/-- What is wrong with labels. -/
noncomputable def lcv (N : Int) (ws : List Nat) (Nd : List Node) (Ed : List Edge) (l : List Int) : Int × Int × Unit :=
  if latc N ws ≠ 0 then (latc N ws, 0, ()) else if (gval Nd Ed).1 ≠ 0 then gval Nd Ed else if (l.length : Int) ≠ (Nd.length : Int) then (2, 0, ()) else
    match (List.range l.length).find? fun i => badL N (l.getD i 0) with
    | some i => (2, (i : Int), ())
    | none => (0, 0, ())
theorem ref_LabelsCheck_eq (hf : Fit ws) : ref_LabelsCheck ((N, cl ws, ()), (Nd, Ed, ()), l, ()) = some (lcv N ws Nd Ed l, ()) := by
  unfold ref_LabelsCheck lcv
  simp only [ref_LatticeMake_eq hf, ref_GraphCheck_eq, Option.bind_some, cond_bne]
  by_cases h1 : latc N ws = 0
  · simp only [h1, if_true, ne_eq, not_true_eq_false, if_false]
    by_cases h2 : (gval Nd Ed).1 = 0
    · obtain ⟨hz, hn, -, -, -, -⟩ := gval_zero h2
      simp only [h2, if_true, not_true_eq_false, if_false]
      by_cases h3 : (l.length : Int) = (Nd.length : Int)
      · simp only [h3, if_true, not_true_eq_false, if_false, rlab_l1 (l := l) (show l.length ≤ 12 by omega), Option.bind_some]
        cases (List.range l.length).find? fun i => badL N (l.getD i 0) with
        | some i => rfl
        | none => rw [hz]; rfl
      · simp only [h3, if_false, not_false_eq_true, if_true]
    · simp only [h2, if_false, not_false_eq_true, if_true]
  · simp only [h1, if_false, ne_eq, not_false_eq_true, if_true]

/-- Labels without faults. -/
theorem lcv_zero (h : (lcv N ws Nd Ed l).1 = 0) : lcv N ws Nd Ed l = (0, 0, ()) ∧ latc N ws = 0 ∧ (gval Nd Ed).1 = 0 ∧ l.length = Nd.length ∧ ∃ ls : List Nat, l = cl ls ∧ (∀ x ∈ ls, (x : Int) < N) ∧ (List.range l.length).find? (fun i => badL N (l.getD i 0)) = none := by
  unfold lcv at h ⊢
  by_cases h1 : latc N ws = 0
  · rw [if_neg (by simpa using h1)] at h ⊢
    by_cases h2 : (gval Nd Ed).1 = 0
    · rw [if_neg (by simpa using h2)] at h ⊢
      by_cases h3 : (l.length : Int) = (Nd.length : Int)
      · rw [if_neg (by simpa using h3)] at h ⊢
        cases hf : (List.range l.length).find? fun i => badL N (l.getD i 0) with
        | some i => rw [hf] at h; cases h
        | none =>
          have hb : ∀ v ∈ l, 0 ≤ v ∧ v < N := fun v hv => by
            obtain ⟨i, hi, rfl⟩ := List.mem_iff_getElem.1 hv
            have := find_none_all hf i hi
            rw [List.getD_eq_getElem?_getD, List.getElem?_eq_getElem hi] at this
            unfold badL at this
            simp only [Option.getD_some, Bool.not_eq_false', Bool.and_eq_true, decide_eq_true_eq] at this
            exact this
          obtain ⟨ls, rfl⟩ := cl_of fun v hv => (hb v hv).1
          refine ⟨rfl, h1, h2, by omega, ls, rfl, fun x hx => (hb (x : Int) (List.mem_map.2 ⟨x, hx, rfl⟩)).2, rfl⟩
      · rw [if_pos (by simpa using h3)] at h; cases h
    · rw [if_pos (by simpa using h2)] at h; exact absurd h h2
  · rw [if_pos (by simpa using h1)] at h; exact absurd h h1

/-- Does an edge not rise? -/
def offB (ws ls : List Nat) (Ed : List Edge) (i : Nat) : Bool := !below ws (ls.getD (frE Ed i).toNat 0) (ls.getD (toE Ed i).toNat 0)
theorem lab_in {ls : List Nat} {n : Nat} (h : ∀ x ∈ ls, (x : Int) < (n : Int)) {i : Nat} (hi : i < ls.length) : ls.getD i 0 < n := by
  rw [List.getD_eq_getElem?_getD, List.getElem?_eq_getElem hi]
  have := h _ (List.getElem_mem hi)
  simp only [Option.getD_some]
  omega

theorem flow_step {ls : List Nat} {n : Nat} (hok : ∀ j, j < Ed.length → edgeC Nd Ed j = 0) (hlen : ls.length = Nd.length) {i : Nat} (hi : i < Ed.length) :
    getI (cl ls) (Ed.getD i e0).1 = some ((ls.getD (frE Ed i).toNat 0 : Nat) : Int) ∧ getI (cl ls) (Ed.getD i e0).2.1 = some ((ls.getD (toE Ed i).toNat 0 : Nat) : Int) ∧ (frE Ed i).toNat < ls.length ∧ (toE Ed i).toNat < ls.length := by
  have hv := edge_ok (hok i hi)
  obtain ⟨a, ha⟩ := Int.eq_ofNat_of_zero_le hv.1
  obtain ⟨b, hb⟩ := Int.eq_ofNat_of_zero_le hv.2.2.1
  have han : a < ls.length := by have := hv.2.1; omega
  have hbn : b < ls.length := by have := hv.2.2.2.1; omega
  refine ⟨?_, ?_, by rw [ha, Int.toNat_natCast]; exact han, by rw [hb, Int.toNat_natCast]; exact hbn⟩
  · show getI (cl ls) (frE Ed i) = _
    rw [ha, Int.toNat_natCast]; exact getI_cl han
  · show getI (cl ls) (toE Ed i) = _
    rw [hb, Int.toNat_natCast]; exact getI_cl hbn

theorem flow_l2 {ls : List Nat} {n : Nat} (hf : Fit ws) (hw : ws.length = n) (hls : ∀ x ∈ ls, (x : Int) < (n : Int)) (hE : Ed.length ≤ 20) (hok : ∀ j, j < Ed.length → edgeC Nd Ed j = 0) (hlen : ls.length = Nd.length) (o : Int × List Int × Unit) (t : List Int × List Int × Int × Int × Unit) (e : Int × Unit) :
    loopM (labels_Legal_l2 (o, (Nd, Ed, ()), cl ls, ()) ((((n : Int), cl ws, ()), t, ()), e)) ((0 : Int), ()) = some (exitOr (((List.range Ed.length).find? fun i => offB ws ls Ed i).map fun i : Nat => ((i : Int), ())) (.inl ())) := by
  rw [← find_map]
  refine loopM_exit (f := labels_Legal_l2 (o, (Nd, Ed, ()), cl ls, ()) ((((n : Int), cl ws, ()), t, ()), e)) Ed.length (fun i => ((i : Int), ())) _ _ (fun i hi => ?_) ?_ rfl
  · obtain ⟨g1, g2, g3, g4⟩ := flow_step (n := n) hok hlen hi
    have u := table_Under_eq (n := n) hf t (a := ls.getD (frE Ed i).toNat 0) (b := ls.getD (toE Ed i).toNat 0) (by rw [hw]; exact lab_in hls g3)
    unfold labels_Legal_l2 offB
    simp only [dcT (show (i : Int) < (Ed.length : Int) by omega), cond_true, getI_D e0 (Int.natCast_nonneg i) (show (i : Int) < (Ed.length : Int) by omega), Int.toNat_natCast, Option.bind_some, g1, g2, u]
    rw [wrapS (by omega)]
    cases below ws (ls.getD (frE Ed i).toNat 0) (ls.getD (toE Ed i).toNat 0) <;> rfl
  · unfold labels_Legal_l2
    simp only [dcF (show ¬ (Ed.length : Int) < (Ed.length : Int) by omega), cond_false]
theorem rflow_l1 {ls : List Nat} {n : Nat} (hf : Fit ws) (hw : ws.length = n) (hls : ∀ x ∈ ls, (x : Int) < (n : Int)) (hn16 : n ≤ 16) (hE : Ed.length ≤ 20) (hok : ∀ j, j < Ed.length → edgeC Nd Ed j = 0) (hlen : ls.length = Nd.length) (z : Int × Int × Unit) :
    loopM (ref_LabelsFlow_l1 (((n : Int), cl ws, ()), (Nd, Ed, ()), cl ls, ())) ((0 : Int), z, ()) = some (exitOr (((List.range Ed.length).find? fun i => offB ws ls Ed i).map fun i : Nat => (((12 : Int), (i : Int), ()), ())) (.inl (z, ()))) := by
  rw [← find_map]
  refine loopM_exit (f := ref_LabelsFlow_l1 (((n : Int), cl ws, ()), (Nd, Ed, ()), cl ls, ())) Ed.length (fun i => ((i : Int), z, ())) _ _ (fun i hi => ?_) ?_ rfl
  · obtain ⟨g1, g2, g3, g4⟩ := flow_step (n := n) hok hlen hi
    have u := ref_Below_eq hf (N := (n : Int)) (i := ls.getD (frE Ed i).toNat 0) (j := ls.getD (toE Ed i).toNat 0) (by rw [hw]; exact lab_in hls g3) (by have := lab_in hls g4; omega)
    unfold ref_LabelsFlow_l1 offB
    simp only [dcT (show (i : Int) < (Ed.length : Int) by omega), cond_true, getI_D e0 (Int.natCast_nonneg i) (show (i : Int) < (Ed.length : Int) by omega), Int.toNat_natCast, Option.bind_some, g1, g2, u]
    rw [wrapS (by omega)]
    cases below ws (ls.getD (frE Ed i).toNat 0) (ls.getD (toE Ed i).toNat 0) <;> rfl
  · unfold ref_LabelsFlow_l1
    simp only [dcF (show ¬ (Ed.length : Int) < (Ed.length : Int) by omega), cond_false]

/-- The fault of a flow. -/
def fval (ws ls : List Nat) (Ed : List Edge) : Int × Int × Unit := match (List.range Ed.length).find? fun i => offB ws ls Ed i with
  | some i => (12, (i : Int), ())
  | none => (0, 0, ())

/-- The list of those below a level. -/
theorem sees_l3 {ls : List Nat} {n : Nat} (hf : Fit ws) (hw : ws.length = n) (hls : ∀ x ∈ ls, (x : Int) < (n : Int)) (hl12 : ls.length ≤ 12) (v : Nat) (o : Int × List Int × Unit) (g : List Node × List Edge × Unit) (t : List Int × List Int × Int × Int × Unit) (e : Int × Unit) :
    loopM (labels_Sees_l3 (o, g, cl ls, (v : Int), ()) ((((n : Int), cl ws, ()), t, ()), e)) (([] : List Int), (0 : Int), ()) = some (.inl (cl ((List.range ls.length).filter fun i => below ws (ls.getD i 0) v), ())) := by
  refine loopM_sim ls.length (fun k => (cl ((List.range k).filter fun i => below ws (ls.getD i 0) v), (k : Int), ())) _ (fun i hi => ?_) ?_ rfl
  · have u := table_Under_eq (n := n) hf t (a := ls.getD i 0) (b := v) (by rw [hw]; exact lab_in hls hi)
    have hfl : ((List.range i).filter fun i => below ws (ls.getD i 0) v).length ≤ i := Nat.le_trans (List.length_filter_le _ _) (by rw [List.length_range]; exact Nat.le_refl _)
    unfold labels_Sees_l3
    simp only [length_cl, dcT (show (i : Int) < (ls.length : Int) by omega), cond_true, getI_cl hi, Option.bind_some, u, List.length_cons, List.length_nil, wrapS (show i < 9223372036854775807 by omega)]
    rw [room8 (by omega), List.range_succ, List.filter_append]
    cases hb : below ws (ls.getD i 0) v with
    | true => simp only [List.filter_cons, List.filter_nil, hb, if_true, cond_true, Bool.and_true]; rw [show cl ((List.range i).filter fun i => below ws (ls.getD i 0) v) ++ [(i : Int)] = cl (((List.range i).filter fun i => below ws (ls.getD i 0) v) ++ [i]) by simp [cl]]
    | false => simp only [List.filter_cons, List.filter_nil, hb, Bool.false_eq_true, if_false, cond_false, List.append_nil]
  · unfold labels_Sees_l3
    simp only [length_cl, dcF (show ¬ (ls.length : Int) < (ls.length : Int) by omega), cond_false]
theorem rsees_l1 {ls : List Nat} {n : Nat} (hf : Fit ws) (hw : ws.length = n) (hls : ∀ x ∈ ls, (x : Int) < (n : Int)) (hl12 : ls.length ≤ 12) {v : Nat} (hv : v < 2 ^ 64) (g : List Node × List Edge × Unit) :
    loopM (law_LabelsTells_l1 (((n : Int), cl ws, ()), g, cl ls, (v : Int), ())) (([] : List Int), (0 : Int), ()) = some (.inl (cl ((List.range ls.length).filter fun i => below ws (ls.getD i 0) v), ())) := by
  refine loopM_sim ls.length (fun k => (cl ((List.range k).filter fun i => below ws (ls.getD i 0) v), (k : Int), ())) _ (fun i hi => ?_) ?_ rfl
  · have u := ref_Below_eq hf (N := (n : Int)) (i := ls.getD i 0) (j := v) (by rw [hw]; exact lab_in hls hi) hv
    have hfl : ((List.range i).filter fun i => below ws (ls.getD i 0) v).length ≤ i := Nat.le_trans (List.length_filter_le _ _) (by rw [List.length_range]; exact Nat.le_refl _)
    unfold law_LabelsTells_l1
    simp only [length_cl, dcT (show (i : Int) < (ls.length : Int) by omega), cond_true, getI_cl hi, Option.bind_some, u, List.length_cons, List.length_nil, wrapS (show i < 9223372036854775807 by omega)]
    rw [room8 (by omega), List.range_succ, List.filter_append]
    cases hb : below ws (ls.getD i 0) v with
    | true => simp only [List.filter_cons, List.filter_nil, hb, if_true, cond_true, Bool.and_true]; rw [show cl ((List.range i).filter fun i => below ws (ls.getD i 0) v) ++ [(i : Int)] = cl (((List.range i).filter fun i => below ws (ls.getD i 0) v) ++ [i]) by simp [cl]]
    | false => simp only [List.filter_cons, List.filter_nil, hb, Bool.false_eq_true, if_false, cond_false, List.append_nil]
  · unfold law_LabelsTells_l1
    simp only [length_cl, dcF (show ¬ (ls.length : Int) < (ls.length : Int) by omega), cond_false]
end
end

section
open Go Go.Abs


/-! The least labels. -/
section
variable {Nd : List Node} {Ed : List Edge} {n : Nat} {ws : List Nat}
def frN (Ed : List Edge) (i : Nat) : Nat := (frE Ed i).toNat
def toN (Ed : List Edge) (i : Nat) : Nat := (toE Ed i).toNat
/-- One step: to itself, or along an edge. -/
def st0 (m : Nat) (Ed : List Edge) (k : Nat) (a b : Nat) : Bool := (decide (a < m) && a == b) || (List.range k).any fun j => frE Ed j == (a : Int) && toE Ed j == (b : Int)
/-- The join of the floors that come to a node. -/
def jnL (n : Nat) (ws : List Nat) (F : Nat → Nat) (W : Nat → Nat → Bool) (j : Nat) : Nat → Nat
  | 0 => F j
  | k + 1 => if W k j = true then orL n ws (jnL n ws F W j k) (F k) else jnL n ws F W j k

theorem jnL_lt (hl : latB n ws = true) {F : Nat → Nat} {W : Nat → Nat → Bool} {m j : Nat} (hF : ∀ i, i < m → F i < n) (hj : j < m) : ∀ k, k ≤ m → jnL n ws F W j k < n
  | 0, _ => hF j hj
  | k + 1, hk => by
    have ih := jnL_lt hl (W := W) hF hj k (by omega)
    simp only [jnL]
    split
    · exact (orL_tab hl ih (hF k (by omega))).2
    · exact ih
theorem jnL_ge (o : IsOrder n ws) (hl : latB n ws = true) {F : Nat → Nat} {W : Nat → Nat → Bool} {m j : Nat} (hF : ∀ i, i < m → F i < n) (hj : j < m) : ∀ k, k ≤ m → below ws (F j) (jnL n ws F W j k) = true ∧ ∀ i, i < k → W i j = true → below ws (F i) (jnL n ws F W j k) = true
  | 0, _ => ⟨o.refl _ (hF j hj), fun i h => by omega⟩
  | k + 1, hk => by
    have ih := jnL_ge o hl (W := W) hF hj k (by omega)
    have h1 := jnL_lt hl (W := W) hF hj k (by omega)
    have h2 := hF k (by omega)
    obtain ⟨s1, s2, s3, s4⟩ := orL_spec hl h1 h2
    simp only [jnL]
    split
    · refine ⟨o.trans _ _ _ (hF j hj) h1 s1 ih.1 s2, fun i hi hw => ?_⟩
      by_cases e : i = k
      · subst e; exact s3
      · exact o.trans _ _ _ (hF i (by omega)) h1 s1 (ih.2 i (by omega) hw) s2
    · rename_i hw
      refine ⟨ih.1, fun i hi hwi => ?_⟩
      by_cases e : i = k
      · subst e; exact absurd hwi hw
      · exact ih.2 i (by omega) hwi
theorem jnL_le (hl : latB n ws = true) {F : Nat → Nat} {W : Nat → Nat → Bool} {m j y : Nat} (hF : ∀ i, i < m → F i < n) (hj : j < m) (hy : y < n) (h0 : below ws (F j) y = true) : ∀ k, k ≤ m → (∀ i, i < k → W i j = true → below ws (F i) y = true) → below ws (jnL n ws F W j k) y = true
  | 0, _, _ => h0
  | k + 1, hk, h => by
    have ih := jnL_le hl (W := W) hF hj hy h0 k (by omega) fun i hi => h i (by omega)
    have h1 := jnL_lt hl (W := W) hF hj k (by omega)
    simp only [jnL]
    split
    · rename_i hw
      exact (orL_spec hl h1 (hF k (by omega))).2.2.2 y hy ih (h k (by omega) hw)
    · exact ih

variable {m : Nat} {F : Nat → Nat}
/-- The labels that the document gives. -/
def bestF (n : Nat) (ws : List Nat) (m : Nat) (Ed : List Edge) (F : Nat → Nat) (j : Nat) : Nat := jnL n ws F (fwN (st0 m Ed Ed.length) m) j m

theorem st0_lt (hm : Nd.length = m) (hok : ∀ j, j < Ed.length → edgeC Nd Ed j = 0) {a b : Nat} (h : st0 m Ed Ed.length a b = true) : a < m ∧ b < m := by
  unfold st0 at h
  rw [Bool.or_eq_true, Bool.and_eq_true, decide_eq_true_eq, beq_iff_eq, List.any_eq_true] at h
  rcases h with ⟨h, rfl⟩ | ⟨j, hj, h⟩
  · exact ⟨h, h⟩
  · rw [Bool.and_eq_true, beq_iff_eq, beq_iff_eq] at h
    have he := edge_ok (hok j (List.mem_range.1 hj))
    rw [h.1, h.2] at he
    exact ⟨by have := he.2.1; omega, by have := he.2.2.2.1; omega⟩
theorem st0_edge (hok : ∀ j, j < Ed.length → edgeC Nd Ed j = 0) {i : Nat} (hi : i < Ed.length) : st0 m Ed Ed.length (frN Ed i) (toN Ed i) = true := by
  have he := edge_ok (hok i hi)
  unfold st0 frN toN
  rw [Bool.or_eq_true]
  refine .inr (List.any_eq_true.2 ⟨i, List.mem_range.2 hi, ?_⟩)
  rw [Bool.and_eq_true, beq_iff_eq, beq_iff_eq]
  omega
theorem edge_in (hm : Nd.length = m) (hok : ∀ j, j < Ed.length → edgeC Nd Ed j = 0) {i : Nat} (hi : i < Ed.length) : frN Ed i < m ∧ toN Ed i < m ∧ frE Ed i = ((frN Ed i : Nat) : Int) ∧ toE Ed i = ((toN Ed i : Nat) : Int) := by
  have he := edge_ok (hok i hi)
  unfold frN toN
  omega

theorem bestF_lt (hl : latB n ws = true) (hF : ∀ i, i < m → F i < n) {j : Nat} (hj : j < m) : bestF n ws m Ed F j < n := jnL_lt hl hF hj m (Nat.le_refl _)
theorem bestF_edge (o : IsOrder n ws) (hl : latB n ws = true) (hm : Nd.length = m) (hok : ∀ j, j < Ed.length → edgeC Nd Ed j = 0) (hF : ∀ i, i < m → F i < n) {i : Nat} (hi : i < Ed.length) : below ws (bestF n ws m Ed F (frN Ed i)) (bestF n ws m Ed F (toN Ed i)) = true := by
  obtain ⟨ha, hb, -, -⟩ := edge_in hm hok hi
  have hA := fun a b => st0_lt (a := a) (b := b) hm hok
  have hg := jnL_ge o hl (W := fwN (st0 m Ed Ed.length) m) hF hb m (Nat.le_refl _)
  refine jnL_le hl hF ha (bestF_lt hl hF hb) (hg.2 _ ha ((fwN_all hA _ _).2 (.one (st0_edge hok hi)))) m (Nat.le_refl _) fun k hk hw => ?_
  exact hg.2 k hk ((fwN_all hA _ _).2 (((fwN_all hA _ _).1 hw).more (st0_edge hok hi)))

/-- What stands while the program works. -/
structure Mid (n : Nat) (ws : List Nat) (m : Nat) (Ed : List Edge) (F g : Nat → Nat) : Prop where
  lt : ∀ j, j < m → g j < n
  lo : ∀ j, j < m → below ws (F j) (g j) = true
  hi : ∀ j, j < m → below ws (g j) (bestF n ws m Ed F j) = true

theorem mid_start (o : IsOrder n ws) (hl : latB n ws = true) (hF : ∀ i, i < m → F i < n) : Mid n ws m Ed F F :=
  ⟨hF, fun j hj => o.refl _ (hF j hj), fun j hj => (jnL_ge o hl hF hj m (Nat.le_refl _)).1⟩
theorem mid_end (o : IsOrder n ws) (hl : latB n ws = true) (hm : Nd.length = m) (hok : ∀ j, j < Ed.length → edgeC Nd Ed j = 0) (hF : ∀ i, i < m → F i < n) {g : Nat → Nat} (h : Mid n ws m Ed F g)
    (hleg : ∀ i, i < Ed.length → below ws (g (frN Ed i)) (g (toN Ed i)) = true) {j : Nat} (hj : j < m) : g j = bestF n ws m Ed F j := by
  have hA := fun a b => st0_lt (a := a) (b := b) hm hok
  have hstep : ∀ a b, st0 m Ed Ed.length a b = true → below ws (g a) (g b) = true := fun a b hab => by
    obtain ⟨hla, hlb⟩ := hA a b hab
    unfold st0 at hab
    rw [Bool.or_eq_true, Bool.and_eq_true, decide_eq_true_eq, beq_iff_eq, List.any_eq_true] at hab
    rcases hab with ⟨_, rfl⟩ | ⟨i, hi, hi2⟩
    · exact o.refl _ (h.lt a hla)
    · rw [Bool.and_eq_true, beq_iff_eq, beq_iff_eq] at hi2
      obtain ⟨-, -, e1, e2⟩ := edge_in hm hok (List.mem_range.1 hi)
      have := hleg i (List.mem_range.1 hi)
      rw [show frN Ed i = a by omega, show toN Ed i = b by omega] at this
      exact this
  have hway : ∀ a b, Way (st0 m Ed Ed.length) a b → a < m ∧ b < m ∧ below ws (g a) (g b) = true := fun a b hw => by
    induction hw with
    | one h1 => exact ⟨(hA _ _ h1).1, (hA _ _ h1).2, hstep _ _ h1⟩
    | more _ h2 ih => exact ⟨ih.1, (hA _ _ h2).2, o.trans _ _ _ (h.lt _ ih.1) (h.lt _ ih.2.1) (h.lt _ (hA _ _ h2).2) ih.2.2 (hstep _ _ h2)⟩
  have hle : below ws (bestF n ws m Ed F j) (g j) = true := jnL_le hl hF hj (h.lt j hj) (h.lo j hj) m (Nat.le_refl _) fun i hi hw => by
    obtain ⟨w1, w2, w3⟩ := hway _ _ ((fwN_all hA _ _).1 hw)
    exact o.trans _ _ _ (hF i hi) (h.lt i hi) (h.lt j hj) (h.lo i hi) w3
  exact order_anti o (h.lt j hj) (bestF_lt hl hF hj) (h.hi j hj) hle

/-- One round. -/
def turn (n : Nat) (ws : List Nat) (Ed : List Edge) (g : Nat → Nat) (i : Nat) : Nat → Nat := fun j => if j = toN Ed i then orL n ws (g (frN Ed i)) (g (toN Ed i)) else g j
theorem mid_turn (o : IsOrder n ws) (hl : latB n ws = true) (hm : Nd.length = m) (hok : ∀ j, j < Ed.length → edgeC Nd Ed j = 0) (hF : ∀ i, i < m → F i < n) {g : Nat → Nat} (h : Mid n ws m Ed F g) {i : Nat} (hi : i < Ed.length) : Mid n ws m Ed F (turn n ws Ed g i) := by
  obtain ⟨ha, hb, -, -⟩ := edge_in hm hok hi
  obtain ⟨s1, s2, s3, s4⟩ := orL_spec hl (h.lt _ ha) (h.lt _ hb)
  refine ⟨fun j hj => ?_, fun j hj => ?_, fun j hj => ?_⟩
  · unfold turn; split
    · exact s1
    · exact h.lt j hj
  · unfold turn; split
    · rename_i e; subst e; exact o.trans _ _ _ (hF _ hj) (h.lt _ hj) s1 (h.lo _ hj) s3
    · exact h.lo j hj
  · unfold turn; split
    · rename_i e; subst e
      exact s4 _ (bestF_lt hl hF hj) (o.trans _ _ _ (h.lt _ ha) (bestF_lt hl hF ha) (bestF_lt hl hF hj) (h.hi _ ha) (bestF_edge o hl hm hok hF hi)) (h.hi _ hj)
    · exact h.hi j hj

/-- How far there is to go. -/
def meas (n : Nat) (ws : List Nat) (g : Nat → Nat) : Nat → Nat
  | 0 => 0
  | j + 1 => meas n ws g j + cntB n fun y => below ws (g j) y
theorem meas_same {g g' : Nat → Nat} : ∀ m, (∀ j, j < m → g' j = g j) → meas n ws g' m = meas n ws g m
  | 0, _ => rfl
  | m + 1, h => by rw [meas, meas, meas_same m fun j hj => h j (by omega), h m (by omega)]
theorem meas_less (n : Nat) (ws : List Nat) {g g' : Nat → Nat} {b : Nat} (hd : ∀ j, j ≠ b → g' j = g j) (hlt : (cntB n fun y => below ws (g' b) y) < cntB n fun y => below ws (g b) y) : ∀ m, b < m → meas n ws g' m < meas n ws g m
  | 0, h => by omega
  | m + 1, h => by
    rw [meas, meas]
    by_cases e : b = m
    · subst e
      rw [meas_same b fun j hj => hd j (by omega)]
      omega
    · have := meas_less n ws hd hlt m (by omega)
      rw [hd m (fun e2 => e e2.symm)]
      omega
theorem turn_less (o : IsOrder n ws) (hl : latB n ws = true) (hm : Nd.length = m) (hok : ∀ j, j < Ed.length → edgeC Nd Ed j = 0) {g : Nat → Nat} (hg : ∀ j, j < m → g j < n) {i : Nat} (hi : i < Ed.length) (hoff : below ws (g (frN Ed i)) (g (toN Ed i)) = false) : meas n ws (turn n ws Ed g i) m < meas n ws g m := by
  obtain ⟨ha, hb, -, -⟩ := edge_in hm hok hi
  obtain ⟨s1, s2, s3, s4⟩ := orL_spec hl (hg _ ha) (hg _ hb)
  refine meas_less n ws (b := toN Ed i) (fun j hj => by unfold turn; rw [if_neg hj]) ?_ m hb
  have et : turn n ws Ed g i (toN Ed i) = orL n ws (g (frN Ed i)) (g (toN Ed i)) := by unfold turn; rw [if_pos rfl]
  rw [et]
  refine cntB_more n (fun y hy hby => o.trans _ _ _ (hg _ hb) s1 hy s3 hby) ⟨g (toN Ed i), hg _ hb, ?_, o.refl _ (hg _ hb)⟩
  cases hc : below ws (orL n ws (g (frN Ed i)) (g (toN Ed i))) (g (toN Ed i)) with
  | false => rfl
  | true => rw [o.trans _ _ _ (hg _ ha) s1 (hg _ hb) s2 hc] at hoff; cases hoff
end
end

end Go.Proofs.Tryd
