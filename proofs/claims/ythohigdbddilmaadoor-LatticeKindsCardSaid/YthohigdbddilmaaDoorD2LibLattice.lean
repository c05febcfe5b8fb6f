/- Lemmas on functions of the program, by name: lattice. -/
import Derived.Test.YthohigdbddilmaaDoorD2Funs
import Derived.Test.YthohigdbddilmaaDoorAbsSums
import Derived.Test.YthohigdbddilmaaDoorD2LibDualo
import Derived.Test.YthohigdbddilmaaDoorD2LibSquare
namespace Go.Proofs.Tryd
open Go Go.Abs


theorem find_congr {α : Type} {p q : α → Bool} : ∀ {l : List α}, (∀ x ∈ l, p x = q x) → l.find? p = l.find? q
  | [], _ => rfl
  | a :: l, h => by rw [List.find?_cons, List.find?_cons, h a (List.mem_cons_self ..), find_congr fun x hx => h x (List.mem_cons_of_mem _ hx)]
theorem findSome_if' {β : Type} (p : Nat → Bool) (b : Nat → β) : ∀ (l : List Nat), (l.findSome? fun r => cond (p r) (some (b r)) none) = (l.find? p).map b
  | [] => rfl
  | a :: l => by
    rw [List.findSome?_cons, List.find?_cons, findSome_if' p b l]
    cases p a <;> rfl
theorem fsome_congr {β : Type} {f g : Nat → Option β} : ∀ {l : List Nat}, (∀ x ∈ l, f x = g x) → l.findSome? f = l.findSome? g
  | [], _ => rfl
  | a :: l, h => by
    rw [List.findSome?_cons, List.findSome?_cons, h a (List.mem_cons_self ..), fsome_congr fun x hx => h x (List.mem_cons_of_mem _ hx)]
theorem find_range {n i : Nat} {p : Nat → Bool} (h : (List.range n).find? p = some i) : i < n ∧ p i = true := ⟨List.mem_range.1 (List.mem_of_find?_eq_some h), List.find?_some h⟩
theorem word_lt' {n : Nat} {w : Nat} (h : ∀ j, w.testBit j = true → j < n) : w < 2 ^ n :=
  Nat.lt_pow_two_of_testBit _ fun j hj => by
    cases hb : w.testBit j
    · rfl
    · have := h j hb; omega

/-- A place that may be missing, as the program tells it. -/
def orNo : Option Nat → Int
  | some i => (i : Int)
  | none => -1
/-- The least common upper bound. -/
def lubAt (n : Nat) (ws : List Nat) (a b x : Nat) : Bool := (below ws a x && below ws b x) && (List.range n).all fun y => !(below ws a y && below ws b y) || below ws x y
def lub (n : Nat) (ws : List Nat) (a b : Nat) : Option Nat := (List.range n).find? (lubAt n ws a b)
def bestOf (n : Nat) (set : Nat) (rs : List Nat) : Option Nat := (List.range n).find? fun i => set.testBit i && decide (dif set (rs.getD i 0) = 0)

theorem lattice_best_eq {n : Nat} {rs : List Nat} (hf : Fit rs) (hl : rs.length = n) (hn : n ≤ 16) {set : Nat} (hs : set < 2 ^ n) : lattice_best ((set : Int), cl rs, ()) = some (orNo (bestOf n set rs), ()) := by
  have h32 : set < 2 ^ 32 := Nat.lt_of_lt_of_le hs (Nat.pow_le_pow_right (by decide) (by omega))
  have key := loopM_bitsStop (f := lattice_best_l1 ((set : Int), cl rs, ())) n (fun _ => (((0 : Int), ()), ())) (fun r => cond (decide (dif set (rs.getD r 0) = 0)) (some (.inl (((r : Int), ()), ()))) none) (.inr (.inl ((0, ()), ()))) hs (by omega) (fun r q h1 h2 h3 => by
    have e : (((dif set (rs.getD r 0) : Nat) : Int) == 0) = decide (dif set (rs.getD r 0) = 0) := by rw [Bool.eq_iff_iff, beq_iff_eq, decide_eq_true_eq]; omega
    unfold lattice_best_l1
    simp (disch := first | assumption | omega) only [cond_true, Option.bind_some, getI_cl, nz_eq, tz_eq h1, clr_eq h1, not_u32 h32 (fitD hf r), e]
    cases decide (dif set (rs.getD r 0) = 0) <;> rfl) (fun _ _ _ => rfl) rfl
  have e : ((List.range n).findSome? fun r => if set.testBit r = true then cond (decide (dif set (rs.getD r 0) = 0)) (some (Sum.inl (((r : Int), ()), ()))) none else none) =
      (bestOf n set rs).map fun r : Nat => ((Sum.inl (((r : Int), ()), ())) : ((Int × Unit) × Unit) ⊕ (((Int × Unit) × Unit) ⊕ Empty)) := by
    unfold bestOf
    rw [← findSome_if']
    refine fsome_congr fun r hr => ?_
    cases set.testBit r <;> rfl
  unfold lattice_best
  rw [e] at key
  simp (disch := first | assumption | omega) only [Option.bind_some, wrap_u64 (lt_64 h32), key]
  cases bestOf n set rs <;> rfl

theorem best_lub {n : Nat} {ws : List Nat} (hin : Inside n ws) {a b : Nat} : bestOf n (ws.getD a 0 &&& ws.getD b 0) ws = lub n ws a b := by
  refine find_congr fun x hx => ?_
  unfold lubAt
  rw [Nat.testBit_and]
  have e : decide (dif (ws.getD a 0 &&& ws.getD b 0) (ws.getD x 0) = 0) = (List.range n).all fun y => !(below ws a y && below ws b y) || below ws x y := ?_
  · rw [e]; rfl
  rw [Bool.eq_iff_iff, decide_eq_true_eq, dif_zero, List.all_eq_true]
  constructor
  · intro h y hy
    cases h1 : below ws a y
    · rfl
    · cases h2 : below ws b y
      · rfl
      · have := h y (by rw [Nat.testBit_and]; unfold below at h1 h2; rw [h1, h2]; rfl)
        unfold below; rw [this]; rfl
  · intro h y hy
    rw [Nat.testBit_and, Bool.and_eq_true] at hy
    have := h y (List.mem_range.2 (insideD hin hy.1))
    unfold below at this
    rw [hy.1, hy.2] at this
    simpa using this

theorem ref_join_eq {n : Nat} {ws : List Nat} (hf : Fit ws) (hl : ws.length = n) (hn : n ≤ 16) {a b : Nat} (ha : a < n) (hb : b < n) : ref_join (((n : Int), cl ws, ()), (a : Int), (b : Int), ()) = some (orNo (lub n ws a b), ()) := by
  have l1 : ∀ (x : Nat) (c : Bool), x < n → loopM (ref_join_l1 (((n : Int), cl ws, ()), (a : Int), (b : Int), ()) ((x : Int), ())) (c, 0, ()) = some (.inl (c && (List.range n).all fun y => !(below ws a y && below ws b y) || below ws x y, ())) := fun x c hx => by
    refine loopM_sim (f := ref_join_l1 (((n : Int), cl ws, ()), (a : Int), (b : Int), ()) ((x : Int), ())) n (fun k => (c && (List.range k).all fun y => !(below ws a y && below ws b y) || below ws x y, (k : Int), ())) _ (fun y hy => ?_) ?_ (by simp)
    · unfold ref_join_l1
      simp (disch := first | assumption | omega) only [cond_true, Option.bind_some, dcT, wrapS, ref_Below_eq hf (show a < ws.length by omega) (show y < 2 ^ 64 by omega), ref_Below_eq hf (show b < ws.length by omega) (show y < 2 ^ 64 by omega), ref_Below_eq hf (show x < ws.length by omega) (show y < 2 ^ 64 by omega), all_succ]
      cases below ws a y <;> cases below ws b y <;> cases below ws x y <;> simp
    · unfold ref_join_l1
      simp (disch := first | assumption | omega) only [cond_false, dcF, wrapS]
  have l2 : ref_join_l2 = ref_join_l1 := rfl
  have key := loopM_stop (f := ref_join_l3 (((n : Int), cl ws, ()), (a : Int), (b : Int), ())) n (fun k => ((k : Int), ())) (fun x => cond (lubAt n ws a b x) (some (.inl ((x : Int), ()))) none) (.inr (.inl ())) (fun x hx => by
    unfold ref_join_l3
    rw [l2]
    simp (disch := first | assumption | omega) only [cond_true, Option.bind_some, Sum.elim_inl, dcT, wrapS, ref_Below_eq hf (show a < ws.length by omega) (show x < 2 ^ 64 by omega), ref_Below_eq hf (show b < ws.length by omega) (show x < 2 ^ 64 by omega), l1 x _ hx]
    unfold lubAt
    cases below ws a x
    · rfl
    · cases below ws b x
      · rfl
      · cases (List.range n).all fun y => !(below ws a y && below ws b y) || below ws x y <;> rfl) (by
    unfold ref_join_l3
    simp (disch := first | assumption | omega) only [cond_false, dcF, wrapS])
  rw [findSome_if'] at key
  unfold ref_join lub
  rw [show ((0 : Int), ()) = (((0 : Nat) : Int), ()) from rfl, key]
  cases (List.range n).find? (lubAt n ws a b) <;> rfl

/-- Joins and meets as tables; which pairs lack one. -/
def joinT (n : Nat) (ws : List Nat) (a b : Nat) : Int := orNo (lub n ws a b)
def meetT (n : Nat) (ws : List Nat) (a b : Nat) : Int := orNo (lub n (downW n ws) a b)
def lacks (n : Nat) (ws : List Nat) (a b : Nat) : Bool := decide (joinT n ws a b < 0) || decide (meetT n ws a b < 0)
/-- Is an order a lattice? -/
def latB (n : Nat) (ws : List Nat) : Bool := (List.range n).all fun a => (List.range n).all fun b => !lacks n ws a b

theorem rows_find {β : Type} (n : Nat) (bad : Nat → Nat → Bool) (V : Nat → Nat → β) :
    ((List.range n).all (fun a => (List.range n).all fun b => !bad a b) = true ∧ ((List.range n).findSome? fun a => (List.range n).findSome? fun b => cond (bad a b) (some (V a b)) none) = none) ∨
    ((List.range n).all (fun a => (List.range n).all fun b => !bad a b) = false ∧ ∃ a b, ((List.range n).findSome? fun a => (List.range n).findSome? fun b => cond (bad a b) (some (V a b)) none) = some (V a b)) := by
  cases h : (List.range n).findSome? fun a => (List.range n).findSome? fun b => cond (bad a b) (some (V a b)) none with
  | none =>
    left
    refine ⟨?_, rfl⟩
    rw [List.all_eq_true]
    intro a ha
    rw [List.all_eq_true]
    intro b hb
    have := List.findSome?_eq_none_iff.1 (List.findSome?_eq_none_iff.1 h a ha) b hb
    cases hb : bad a b
    · rfl
    · rw [hb] at this; cases this
  | some v =>
    right
    obtain ⟨a, ha, h1⟩ := List.exists_of_findSome?_eq_some h
    obtain ⟨b, hb, h2⟩ := List.exists_of_findSome?_eq_some h1
    cases hbad : bad a b
    · rw [hbad] at h2; cases h2
    · rw [hbad] at h2
      have hv : V a b = v := Option.some.inj h2
      refine ⟨?_, a, b, by rw [hv]⟩
      rw [← Bool.not_eq_true, List.all_eq_true]
      intro hall
      have := List.all_eq_true.1 (hall a ha) b hb
      rw [hbad] at this; cases this

/-- The joins of all up to k, from the first on. -/
def topTo (n : Nat) (ws : List Nat) : Nat → Nat
  | 0 => 0
  | k + 1 => (lub n ws (topTo n ws k) k).getD 0
theorem lub_spec {n : Nat} {ws : List Nat} {a b x : Nat} (h : lub n ws a b = some x) : x < n ∧ below ws a x = true ∧ below ws b x = true ∧ ∀ y, y < n → below ws a y = true → below ws b y = true → below ws x y = true := by
  obtain ⟨h1, h2⟩ := find_range h
  unfold lubAt at h2
  rw [Bool.and_eq_true, Bool.and_eq_true, List.all_eq_true] at h2
  refine ⟨h1, h2.1.1, h2.1.2, fun y hy h3 h4 => ?_⟩
  have := h2.2 y (List.mem_range.2 hy)
  rw [h3, h4] at this
  simpa using this
theorem topTo_spec {n : Nat} {ws : List Nat} (o : IsOrder n ws) (hlat : ∀ a b, a < n → b < n → ∃ x, lub n ws a b = some x) (h0 : 0 < n) : ∀ k, k ≤ n → topTo n ws k < n ∧ ∀ j, j < k → below ws j (topTo n ws k) = true
  | 0, _ => ⟨h0, fun j hj => by omega⟩
  | k + 1, hk => by
    obtain ⟨h1, h2⟩ := topTo_spec o hlat h0 k (by omega)
    obtain ⟨x, hx⟩ := hlat (topTo n ws k) k h1 (by omega)
    obtain ⟨h3, h4, h5, -⟩ := lub_spec hx
    have e : topTo n ws (k + 1) = x := by rw [topTo, hx]; rfl
    rw [e]
    refine ⟨h3, fun j hj => ?_⟩
    by_cases h : j = k
    · subst h; exact h5
    · exact o.trans j _ x (by omega) h1 h3 (h2 j (by omega)) h4
/-- The program finds that element at once. -/
theorem best_all {n : Nat} {ws rs : List Nat} (o : IsOrder n ws) (hrs : ∀ i j, i < n → j < n → below rs i j = below ws j i) {t : Nat} (ht : t < n) (hall : ∀ j, j < n → below ws j t = true) : bestOf n (2 ^ n - 1) rs = some t := by
  have hp : ∀ i, i < n → ((2 ^ n - 1).testBit i && decide (dif (2 ^ n - 1) (rs.getD i 0) = 0)) = decide (i = t) := fun i hi => by
    rw [all_bit, decide_eq_true hi, Bool.true_and, Bool.eq_iff_iff, decide_eq_true_eq, decide_eq_true_eq, dif_zero]
    constructor
    · intro h
      have h1 := h t (by rw [all_bit]; simpa using ht)
      have h2 : below rs i t = true := h1
      rw [hrs i t hi ht] at h2
      exact order_anti o hi ht (hall i hi) h2
    · rintro rfl j hj
      rw [all_bit, decide_eq_true_eq] at hj
      have := hrs i j hi hj
      rw [hall j hj] at this
      exact this
  unfold bestOf
  rw [find_congr (q := fun i => decide (i = t)) fun i hi => hp i (List.mem_range.1 hi)]
  cases h : (List.range n).find? fun i => decide (i = t) with
  | none => exact absurd (List.find?_eq_none.1 h t (List.mem_range.2 ht)) (by simp)
  | some j =>
    have := (find_range h).2
    rw [decide_eq_true_eq] at this
    rw [this]

theorem latB_iff {n : Nat} {ws : List Nat} : latB n ws = true ↔ ∀ a b, a < n → b < n → (∃ x, lub n ws a b = some x) ∧ ∃ x, lub n (downW n ws) a b = some x := by
  have hno : ∀ (q : Option Nat), ¬ orNo q < 0 ↔ ∃ x, q = some x := fun q => by
    cases q with
    | none => exact ⟨fun h => absurd (show (-1 : Int) < 0 by decide) h, fun ⟨x, h⟩ => by cases h⟩
    | some i => exact ⟨fun _ => ⟨i, rfl⟩, fun _ h => by have : (i : Int) < 0 := h; omega⟩
  unfold latB
  rw [List.all_eq_true]
  constructor
  · intro h a b ha hb
    have h1 := List.all_eq_true.1 (h a (List.mem_range.2 ha)) b (List.mem_range.2 hb)
    unfold lacks at h1
    rw [Bool.not_eq_true', Bool.or_eq_false_iff, decide_eq_false_iff_not, decide_eq_false_iff_not] at h1
    exact ⟨(hno _).1 h1.1, (hno _).1 h1.2⟩
  · intro h a ha
    rw [List.all_eq_true]
    intro b hb
    obtain ⟨h1, h2⟩ := h a b (List.mem_range.1 ha) (List.mem_range.1 hb)
    unfold lacks
    rw [Bool.not_eq_true', Bool.or_eq_false_iff, decide_eq_false_iff_not, decide_eq_false_iff_not]
    exact ⟨(hno _).2 h1, (hno _).2 h2⟩

/-- What making a lattice answers, and what it makes. -/
noncomputable def latc (N : Int) (ws : List Nat) : Int := if ordc N ws = 0 then cond (decide (N ≠ 0) && latB N.toNat ws) 0 5 else ordc N ws
def latR (n : Nat) (ws : List Nat) : List Int × List Int × Int × Int × Unit := (sq n (joinT n ws), sq n (meetT n ws), ((topTo n (downW n ws) n : Nat) : Int), ((topTo n ws n : Nat) : Int), ())

theorem latc_zero {N : Int} {ws : List Nat} (h : latc N ws = 0) : ordc N ws = 0 ∧ 0 < N ∧ latB N.toNat ws = true := by
  unfold latc at h
  by_cases h0 : ordc N ws = 0
  · rw [if_pos h0] at h
    have := (ordc_zero h0).1
    cases h1 : (decide (N ≠ 0) && latB N.toNat ws)
    · rw [h1] at h; cases h
    · rw [Bool.and_eq_true, decide_eq_true_eq] at h1
      exact ⟨h0, by omega, h1.2⟩
  · rw [if_neg h0] at h; exact absurd h h0

/-- Where the program leaves a row, and with what. -/
abbrev LatT : Type := (Int × List Int × List Int × List Int × Int × Int × Unit)
abbrev LatU : Type := (Int × LatT × List Int × List Int × (Int × List Int × Int × Int × Unit) × Unit)
def latG (n : Nat) (ws : List Nat) (t : Int × List Int × Int × Int × Unit) (a : Nat) : Option LatU :=
  (List.range n).findSome? fun b => cond (lacks n ws a b) (some (5, (0, [], [], [], 0, 0, ()), sqTo n (joinT n ws) (a * n + b), sqTo n (meetT n ws) (a * n + b), t, ())) none

theorem lattice_Of_l1_eq {n : Nat} {ws : List Nat} (hf : Fit ws) (hl : ws.length = n) (hn : n ≤ 16) (hin : Inside n ws) (t : Int × List Int × Int × Int × Unit) {a : Nat} (ha : a < n) (y : LatT × List Int × List Int × (Int × List Int × Int × Int × Unit) × Unit) :
    loopM (lattice_Of_l1 (((n : Int), cl ws, ()), ()) ((a : Int), y) (cl (downW n ws), ())) (0, (0, [], [], [], 0, 0, ()), sqTo n (joinT n ws) (a * n + 0), sqTo n (meetT n ws) (a * n + 0), t, ()) =
      some (exitOr (latG n ws t a) (.inl ((0, [], [], [], 0, 0, ()), sqTo n (joinT n ws) ((a + 1) * n + 0), sqTo n (meetT n ws) ((a + 1) * n + 0), t, ()))) := by
  have hsq := sq_le hn
  have fd : Fit (downW n ws) := fit_downW hn
  have hld : (downW n ws).length = n := length_down
  have wl : ∀ {rs : List Nat}, Inside n rs → ∀ a b, rs.getD a 0 &&& rs.getD b 0 < 2 ^ n := fun hi a b => word_lt' fun j hj => by
    rw [Nat.testBit_and, Bool.and_eq_true] at hj; exact insideD hi hj.1
  refine loopM_exit (f := lattice_Of_l1 (((n : Int), cl ws, ()), ()) ((a : Int), y) (cl (downW n ws), ())) n (fun b => ((b : Int), (0, [], [], [], 0, 0, ()), sqTo n (joinT n ws) (a * n + b), sqTo n (meetT n ws) (a * n + b), t, ())) _ _ (fun b hb => ?_) ?_ rfl
  · have := idx_lt ha hb
    unfold lattice_Of_l1
    simp (disch := first | assumption | omega) only [cond_true, Option.bind_some, dcT, getI_cl, get_cl, inB_T, Int.toNat_natCast, wrapS, length_cl, List.length_cons, List.length_nil, room8, Bool.and_self, and_u32 (fitD hf a) (fitD hf b), and_u32 (fitD fd a) (fitD fd b), lattice_best_eq hf hl hn (wl hin a b), lattice_best_eq fd hld hn (wl inside_down a b), best_lub hin, best_lub (inside_down (n := n) (ws := ws)), sqTo_length]
    unfold lacks
    show cond (decide (joinT n ws a b < 0)) _ (cond (decide (meetT n ws a b < 0)) _ (some (Sum.inl (_, _, sqTo n (joinT n ws) (a * n + b) ++ [joinT n ws a b], sqTo n (meetT n ws) (a * n + b) ++ [meetT n ws a b], _)))) = _
    rw [sqTo_succ (joinT n ws) hb, sqTo_succ (meetT n ws) hb]
    cases decide (joinT n ws a b < 0) <;> cases decide (meetT n ws a b < 0) <;> rfl
  · unfold lattice_Of_l1
    simp (disch := first | assumption | omega) only [cond_true, cond_false, Option.bind_some, dcF, getI_cl, get_cl, inB_T, Int.toNat_natCast, wrapS, length_cl, List.length_cons, List.length_nil, Bool.and_true, Bool.true_and, sqTo_row]

theorem lattice_Of_l2_eq {n : Nat} {ws : List Nat} (hf : Fit ws) (hl : ws.length = n) (hn : n ≤ 16) (hin : Inside n ws) (t : Int × List Int × Int × Int × Unit) :
    loopM (lattice_Of_l2 (((n : Int), cl ws, ()), ()) (cl (downW n ws), ())) (0, (0, [], [], [], 0, 0, ()), [], [], t, ()) =
      some (exitOr ((List.range n).findSome? (latG n ws t)) (.inl ((0, [], [], [], 0, 0, ()), sq n (joinT n ws), sq n (meetT n ws), t, ()))) := by
  refine loopM_exit (f := lattice_Of_l2 (((n : Int), cl ws, ()), ()) (cl (downW n ws), ())) n (fun a => ((a : Int), (0, [], [], [], 0, 0, ()), sqTo n (joinT n ws) (a * n + 0), sqTo n (meetT n ws) (a * n + 0), t, ())) _ _ (fun a ha => ?_) ?_ (by rw [Nat.zero_mul]; rfl)
  · unfold lattice_Of_l2
    simp (disch := first | assumption | omega) only [cond_true, dcT, wrapS]
    rw [lattice_Of_l1_eq hf hl hn hin t ha]
    cases latG n ws t a <;> rfl
  · unfold lattice_Of_l2
    simp (disch := first | assumption | omega) only [cond_false, dcF, wrapS]
    rfl

theorem lattice_Of_eq {N : Int} {ws : List Nat} (hf : Fit ws) : lattice_Of ((N, cl ws, ()), ()) =
    some (if latc N ws = 0 then (((N, cl ws, ()), latR N.toNat ws, ()), 0, ()) else (((0, [], ()), ([], [], 0, 0, ()), ()), latc N ws, ())) := by
  unfold lattice_Of latc
  simp (disch := first | assumption | omega) only [Option.bind_some, order_Check_eq hf]
  by_cases h : ordc N ws = 0
  · obtain ⟨h1, h2, h3, hin, o⟩ := ordc_zero h
    obtain ⟨n, rfl⟩ := Int.eq_ofNat_of_zero_le h1
    have hl : ws.length = n := by omega
    have hn : n ≤ 16 := by omega
    have o : IsOrder n ws := o
    have hin : Inside n ws := hin
    by_cases h0 : n = 0
    · subst h0
      simp (disch := first | assumption | omega) only [cond_true, cond_false, dcF, Int.toNat_natCast, if_true, h, bneF, beqT]
      rfl
    · have fd : Fit (downW n ws) := fit_downW hn
      have hld : (downW n ws).length = n := length_down
      simp (disch := first | assumption | omega) only [cond_false, Option.bind_some, dcT, Int.toNat_natCast, Bool.true_and, if_true, h, bneF, beqF, order_Down_eq hf hl hn hin]
      rw [lattice_Of_l2_eq hf hl hn hin]
      rcases rows_find n (lacks n ws) (fun a b => ((5, (0, [], [], [], 0, 0, ()), sqTo n (joinT n ws) (a * n + b), sqTo n (meetT n ws) (a * n + b), ((n : Int), cl ws, 0, 0, ()), ()) : LatU)) with ⟨hb, he⟩ | ⟨hb, a, b, he⟩
      · have hb : latB n ws = true := hb
        have hlat := latB_iff.1 hb
        have hp : 2 ^ n - 1 < 2 ^ n := by have := Nat.two_pow_pos n; omega
        have h0' : 0 < n := by omega
        obtain ⟨t1, t2⟩ := topTo_spec o (fun a b ha hb => (hlat a b ha hb).1) h0' n (Nat.le_refl n)
        obtain ⟨b1, b2⟩ := topTo_spec (order_down o) (fun a b ha hb => (hlat a b ha hb).2) h0' n (Nat.le_refl n)
        have e1 := best_all (rs := ws) (order_down o) (fun i j hi hj => (below_down hj hi).symm) b1 b2
        have e2 := best_all (rs := downW n ws) o (fun i j hi hj => below_down hi hj) t1 t2
        have he : (List.range n).findSome? (latG n ws ((n : Int), cl ws, 0, 0, ())) = none := he
        rw [he]
        simp (disch := first | assumption | omega) only [exitOr_none, cond_true, Option.bind_some, Sum.elim_inl, Sum.elim_inr, if_true, sets_All_eq (show n ≤ 32 by omega), lattice_best_eq hf hl hn hp, lattice_best_eq fd hld hn hp, e1, e2, hb]
        rfl
      · have hb : latB n ws = false := hb
        have he : (List.range n).findSome? (latG n ws ((n : Int), cl ws, 0, 0, ())) = _ := he
        rw [he, hb]
        rfl
  · simp (disch := first | assumption | omega) only [cond_true, if_false, h, bneT]

/-- The same of the reference. -/
abbrev RLatT : Type := (List Int × List Int × Int × Int × Unit)
abbrev RLatU : Type := (Int × RLatT × List Int × List Int × (Int × Int × Unit) × Unit)
def rlatG (n : Nat) (ws : List Nat) (a : Nat) : Option RLatU :=
  (List.range n).findSome? fun b => cond (lacks n ws a b) (some (5, ([], [], 0, 0, ()), sqTo n (joinT n ws) (a * n + b), sqTo n (meetT n ws) (a * n + b), (0, 0, ()), ())) none

theorem ref_LatticeMake_l1_eq {n : Nat} {ws : List Nat} (hf : Fit ws) (hl : ws.length = n) (hn : n ≤ 16) {a : Nat} (ha : a < n) (y : RLatT × List Int × List Int × (Int × Int × Unit) × Unit) :
    loopM (ref_LatticeMake_l1 (((n : Int), cl ws, ()), ()) ((a : Int), y) (((n : Int), cl (downW n ws), ()), ())) (0, ([], [], 0, 0, ()), sqTo n (joinT n ws) (a * n + 0), sqTo n (meetT n ws) (a * n + 0), (0, 0, ()), ()) =
      some (exitOr (rlatG n ws a) (.inl (([], [], 0, 0, ()), sqTo n (joinT n ws) ((a + 1) * n + 0), sqTo n (meetT n ws) ((a + 1) * n + 0), (0, 0, ()), ()))) := by
  have hsq := sq_le hn
  have fd : Fit (downW n ws) := fit_downW hn
  have hld : (downW n ws).length = n := length_down
  refine loopM_exit (f := ref_LatticeMake_l1 (((n : Int), cl ws, ()), ()) ((a : Int), y) (((n : Int), cl (downW n ws), ()), ())) n (fun b => ((b : Int), ([], [], 0, 0, ()), sqTo n (joinT n ws) (a * n + b), sqTo n (meetT n ws) (a * n + b), (0, 0, ()), ())) _ _ (fun b hb => ?_) ?_ rfl
  · have := idx_lt ha hb
    unfold ref_LatticeMake_l1
    simp (disch := first | assumption | omega) only [cond_true, Option.bind_some, dcT, wrapS, List.length_cons, List.length_nil, room8, Bool.and_self, ref_join_eq hf hl hn ha hb, ref_join_eq fd hld hn ha hb, sqTo_length]
    unfold lacks
    show cond (decide (joinT n ws a b < 0)) _ (cond (decide (meetT n ws a b < 0)) _ (some (Sum.inl (_, _, sqTo n (joinT n ws) (a * n + b) ++ [joinT n ws a b], sqTo n (meetT n ws) (a * n + b) ++ [meetT n ws a b], _)))) = _
    rw [sqTo_succ (joinT n ws) hb, sqTo_succ (meetT n ws) hb]
    cases decide (joinT n ws a b < 0) <;> cases decide (meetT n ws a b < 0) <;> rfl
  · unfold ref_LatticeMake_l1
    simp (disch := first | assumption | omega) only [cond_false, dcF, wrapS, List.length_cons, List.length_nil, Bool.and_true, Bool.true_and, sqTo_row]

theorem ref_LatticeMake_l2_eq {n : Nat} {ws : List Nat} (hf : Fit ws) (hl : ws.length = n) (hn : n ≤ 16) :
    loopM (ref_LatticeMake_l2 (((n : Int), cl ws, ()), ()) (((n : Int), cl (downW n ws), ()), ())) (0, ([], [], 0, 0, ()), [], [], (0, 0, ()), ()) =
      some (exitOr ((List.range n).findSome? (rlatG n ws)) (.inl (([], [], 0, 0, ()), sq n (joinT n ws), sq n (meetT n ws), (0, 0, ()), ()))) := by
  refine loopM_exit (f := ref_LatticeMake_l2 (((n : Int), cl ws, ()), ()) (((n : Int), cl (downW n ws), ()), ())) n (fun a => ((a : Int), ([], [], 0, 0, ()), sqTo n (joinT n ws) (a * n + 0), sqTo n (meetT n ws) (a * n + 0), (0, 0, ()), ())) _ _ (fun a ha => ?_) ?_ (by rw [Nat.zero_mul]; rfl)
  · unfold ref_LatticeMake_l2
    simp (disch := first | assumption | omega) only [cond_true, dcT, wrapS]
    rw [ref_LatticeMake_l1_eq hf hl hn ha]
    cases rlatG n ws a <;> rfl
  · unfold ref_LatticeMake_l2
    simp (disch := first | assumption | omega) only [cond_false, dcF, wrapS]
    rfl

theorem ref_LatticeMake_l3_eq {n : Nat} {ws : List Nat} (o : IsOrder n ws) (hn : n ≤ 16) (h0 : 0 < n) (hlat : ∀ a b, a < n → b < n → (∃ x, lub n ws a b = some x) ∧ ∃ x, lub n (downW n ws) a b = some x) (c : RLatT) (d : (Int × Int × Unit) × Unit) :
    loopM (ref_LatticeMake_l3 (((n : Int), cl ws, ()), ()) (c, sq n (joinT n ws), sq n (meetT n ws), d)) (0, (0, 0, ()), ()) = some (.inl ((((topTo n (downW n ws) n : Nat) : Int), ((topTo n ws n : Nat) : Int), ()), ())) := by
  refine loopM_sim (f := ref_LatticeMake_l3 (((n : Int), cl ws, ()), ()) (c, sq n (joinT n ws), sq n (meetT n ws), d)) n (fun k => ((k : Int), (((topTo n (downW n ws) k : Nat) : Int), ((topTo n ws k : Nat) : Int), ()), ())) _ (fun k hk => ?_) ?_ rfl
  · obtain ⟨t1, -⟩ := topTo_spec o (fun a b ha hb => (hlat a b ha hb).1) h0 k (by omega)
    obtain ⟨b1, -⟩ := topTo_spec (order_down o) (fun a b ha hb => (hlat a b ha hb).2) h0 k (by omega)
    obtain ⟨x, hx⟩ := (hlat _ k t1 hk).1
    obtain ⟨y, hy⟩ := (hlat _ k b1 hk).2
    unfold ref_LatticeMake_l3
    simp (disch := first | assumption | omega) only [cond_true, Option.bind_some, dcT, Int.toNat_natCast, wrapS, idx_wrap t1 hk hn, idx_wrap b1 hk hn, sq_length, idx_inB t1 hk, idx_inB b1 hk, sq_get _ t1 hk, sq_get _ b1 hk]
    unfold joinT meetT
    rw [hx, hy, topTo, topTo, hx, hy]
    rfl
  · unfold ref_LatticeMake_l3
    simp (disch := first | assumption | omega) only [cond_false, dcF, wrapS]

theorem ref_LatticeMake_eq {N : Int} {ws : List Nat} (hf : Fit ws) : ref_LatticeMake ((N, cl ws, ()), ()) =
    some (if latc N ws = 0 then (latR N.toNat ws, 0, ()) else (([], [], 0, 0, ()), latc N ws, ())) := by
  unfold ref_LatticeMake latc
  simp (disch := first | assumption | omega) only [Option.bind_some, ref_OrderCheck_eq hf]
  by_cases h : ordc N ws = 0
  · obtain ⟨h1, h2, h3, hin, o⟩ := ordc_zero h
    obtain ⟨n, rfl⟩ := Int.eq_ofNat_of_zero_le h1
    have hl : ws.length = n := by omega
    have hn : n ≤ 16 := by omega
    have o : IsOrder n ws := o
    by_cases h0 : n = 0
    · subst h0
      simp (disch := first | assumption | omega) only [cond_true, cond_false, dcF, Int.toNat_natCast, if_true, h, bneF, beqT]
      rfl
    · simp (disch := first | assumption | omega) only [cond_false, Option.bind_some, dcT, Int.toNat_natCast, Bool.true_and, if_true, h, bneF, beqF, ref_OrderDual_eq hf hl hn]
      rw [ref_LatticeMake_l2_eq hf hl hn]
      rcases rows_find n (lacks n ws) (fun a b => ((5, ([], [], 0, 0, ()), sqTo n (joinT n ws) (a * n + b), sqTo n (meetT n ws) (a * n + b), (0, 0, ()), ()) : RLatU)) with ⟨hb, he⟩ | ⟨hb, a, b, he⟩
      · have hb : latB n ws = true := hb
        have hlat := latB_iff.1 hb
        have he : (List.range n).findSome? (rlatG n ws) = none := he
        rw [he]
        simp (disch := first | assumption | omega) only [exitOr_none, cond_true, Option.bind_some, Sum.elim_inl, Sum.elim_inr, if_true, ref_LatticeMake_l3_eq o hn (show 0 < n by omega) hlat, hb]
        rfl
      · have hb : latB n ws = false := hb
        have he : (List.range n).findSome? (rlatG n ws) = _ := he
        rw [he, hb]
        rfl
  · simp (disch := first | assumption | omega) only [cond_true, if_false, h, bneT]

end Go.Proofs.Tryd
