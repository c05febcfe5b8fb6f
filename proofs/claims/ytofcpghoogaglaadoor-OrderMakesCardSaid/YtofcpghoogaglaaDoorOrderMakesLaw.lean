/- The plain law of OrderMakes. -/
import Derived.Test.YtofcpghoogaglaaDoorD1Funs
import Derived.Test.YtofcpghoogaglaaDoorAbsWords
namespace Go.Proofs.Tryd
open Go Go.Abs

theorem tz_table : ∀ r : Fin 64, getI lit0 (shrI .u64 (IntKind.u64.wrap (((2 ^ r.val : Nat) : Int) * (285870213051353865 : Int))) (58 : Int)) = some (r.val : Int) := by decide +kernel

theorem tz_eq {r q : Nat} (h : 2 ^ r * (2 * q + 1) < 2 ^ 64) : math_bits_TrailingZeros64 (((2 ^ r * (2 * q + 1) : Nat) : Int), ()) = some ((r : Int), ()) := by
  have hr : r < 64 := bit_lt h (by rw [odd_bit]; simp)
  have hp : 0 < 2 ^ r * (2 * q + 1) := Nat.mul_pos (Nat.two_pow_pos r) (by omega)
  unfold math_bits_TrailingZeros64
  have e0 : ((((2 ^ r * (2 * q + 1) : Nat) : Int), ()).1 == (0 : Int)) = false := by
    simp only [beq_eq_false_iff_ne]; omega
  have e1 : IntKind.u64.wrap (0 - ((2 ^ r * (2 * q + 1) : Nat) : Int)) = ((2 ^ 64 - 2 ^ r * (2 * q + 1) : Nat) : Int) := by
    unfold IntKind.wrap; simp only [IntKind.bits, IntKind.signed]
    generalize 2 ^ r * (2 * q + 1) = v at *
    simp; omega
  simp only [e0, cond_false]
  rw [e1, and_u64 h (by omega), low_one h, getS_eq, tab0_eq, tz_table ⟨r, hr⟩]
  simp only [Option.bind_some]
  rw [wrap64 (by omega) (by omega)]

theorem sets_One_eq {i : Nat} (h : i < 32) : sets_One ((i : Int), ()) = some (((2 ^ i : Nat) : Int), ()) := by
  unfold sets_One
  have : decide ((i : Int) < 0) = false := decide_eq_false (by omega)
  simp only [this, cond_false]
  rw [shl_u32 h]

theorem sets_All_eq {n : Nat} (h : n ≤ 32) : sets_All ((n : Int), ()) = some (((2 ^ n - 1 : Nat) : Int), ()) := by
  unfold sets_All
  have : decide ((n : Int) < 0) = false := decide_eq_false (by omega)
  simp only [this, cond_false]
  rw [all_u32 h]

theorem sets_Has_eq {a : Nat} (i : Nat) (h : a < 2 ^ 32) : sets_Has_uint32 ((a : Int), (i : Int), ()) = some (a.testBit i, ()) := by
  unfold sets_Has_uint32
  have : decide ((i : Int) < 0) = false := decide_eq_false (by omega)
  simp only [this, cond_false]
  rw [has_u32 i h]

theorem ref_Bit_eq {a : Nat} {i : Nat} (h : a < 2 ^ 32) (hi : i < 2 ^ 64) : ref_Bit ((a : Int), (i : Int), ()) = some (a.testBit i, ()) := by
  unfold ref_Bit
  have : decide (IntKind.u64.wrap (i : Int) < 0) = false := by rw [wrap_u64 hi]; exact decide_eq_false (by omega)
  simp only [this, cond_false]
  rw [wrap_u64 hi, bit_u32 i h]

/-- The words of an order: each fits. -/
def Fit (ws : List Nat) : Prop := ∀ w ∈ ws, w < 2 ^ 32
/-- Is i below j? -/
def below (ws : List Nat) (i j : Nat) : Bool := (ws.getD i 0).testBit j

theorem below_eq {ws : List Nat} {i j w : Nat} (h : ws[i]? = some w) : below ws i j = w.testBit j := by
  unfold below; rw [List.getD_eq_getElem?_getD, h]; rfl

theorem ref_Below_eq {ws : List Nat} (hf : Fit ws) {N : Int} {i j : Nat} (hi : i < ws.length) (hj : j < 2 ^ 64) : ref_Below ((N, cl ws, ()), (i : Int), (j : Int), ()) = some (below ws i j, ()) := by
  unfold ref_Below
  have e : ws[i]? = some ws[i] := List.getElem?_eq_getElem hi
  simp only [cl_getI, e, Option.map_some, Option.bind_some]
  rw [ref_Bit_eq (hf _ (List.getElem_mem hi)) hj, below_eq e]
  rfl

theorem wf_u32 {x : Int} (h : (Lit.int .u32 x).wf = true) : 0 ≤ x ∧ x < 4294967296 := by
  simp [Lit.wf, IntKind.min, IntKind.max, IntKind.bits, IntKind.signed] at h
  omega
theorem words_of {l : List Int} (h : Wf (.list (.int .u32)) l) : ∃ ws, l = cl ws ∧ Fit ws := by
  obtain ⟨ws, rfl⟩ := cl_of (l := l) fun v hv => (wf_u32 (h.2 v hv)).1
  refine ⟨ws, rfl, fun w hw => ?_⟩
  have := (wf_u32 (h.2 (w : Int) (List.mem_map.2 ⟨w, hw, rfl⟩))).2
  omega

theorem fit_tab {n : Nat} {g : Nat → Nat} (h : ∀ i, i < n → g i < 2 ^ 32) : Fit (tab n g) := fun w hw => by
  obtain ⟨i, hi, rfl⟩ := mem_tab.1 hw
  exact h i hi

theorem ref_Words_same {l : List Int} (h : l.length ≤ 1000000) : ref_Words (l, l, ()) = some (true, ()) := by
  unfold ref_Words
  rw [cond_bne, if_pos rfl, loopM_any0 l.length () (fun _ => false) (.inl (false, ())) (.inr (.inl ())) (fun i hi => ?_) ?_]
  · simp
  · unfold ref_Words_l1
    simp
  · unfold ref_Words_l1
    have e0 : decide ((i : Int) < (l.length : Int)) = true := decide_eq_true (by omega)
    simp only [e0, cond_true, getI_nat, List.getElem?_eq_getElem hi, Option.bind_some, cond_bne, if_true]
    rw [wrap64 (by omega) (by omega)]
    rfl

theorem ref_Orders_same {N : Int} {l : List Int} (h : l.length ≤ 1000000) : ref_Orders ((N, l, ()), (N, l, ()), ()) = some (true, ()) := by
  unfold ref_Orders
  simp only [cond_beq, if_true, ref_Words_same h, Option.bind_some]

/-- A pair may be. -/
def okP (N : Int) (p : Int × Int × Unit) : Bool := decide (0 ≤ p.1 ∧ p.1 < N ∧ 0 ≤ p.2.1 ∧ p.2.1 < N)

/-- Reached by pairs. -/
inductive Reach (ps : List (Int × Int × Unit)) (i : Nat) : Nat → Prop
  | refl : Reach ps i i
  | step {a b : Nat} : Reach ps i a → ((a : Int), (b : Int), ()) ∈ ps → Reach ps i b
theorem Reach.trans {ps : List (Int × Int × Unit)} {i j k : Nat} (h : Reach ps i j) (h2 : Reach ps j k) : Reach ps i k := by
  induction h2 with
  | refl => exact h
  | step _ hm ih => exact .step ih hm

open Classical in
/-- The closure's words. -/
noncomputable def cloW (ps : List (Int × Int × Unit)) (n i : Nat) : Nat := wordOf n fun j => decide (Reach ps i j)
theorem cloW_bit {ps : List (Int × Int × Unit)} {n i j : Nat} : (cloW ps n i).testBit j = true ↔ j < n ∧ Reach ps i j := by
  unfold cloW; rw [wordOf_bit]; simp
def Ring (ps : List (Int × Int × Unit)) (n : Nat) : Prop := ∃ i j, i < n ∧ j < n ∧ i ≠ j ∧ Reach ps i j ∧ Reach ps j i

open Classical in
/-- What both make. -/
noncomputable def made (N : Int) (ps : List (Int × Int × Unit)) : (Int × List Int × Unit) × Int × Unit :=
  if N < 0 then ((0, [], ()), 1, ()) else if N > 16 then ((0, [], ()), 1, ()) else if (ps.length : Int) > 256 then ((0, [], ()), 1, ()) else
    if ps.all (okP N) = false then ((0, [], ()), 2, ()) else if Ring ps N.toNat then ((0, [], ()), 4, ()) else ((N, cl (tab N.toNat (cloW ps N.toNat)), ()), 0, ())

theorem of_l1 {n : Nat} (hn : n ≤ 16) (ps : List (Int × Int × Unit)) : loopM (order_Of_l1 ((n : Int), ps, ())) (0, cl (tab n fun _ => 0), ()) = some (.inl (cl (tab n fun j => 2 ^ j), ())) := by
  have h := loopM_up (f := order_Of_l1 ((n : Int), ps, ())) n (fun k => (cl (tab n fun j => if j < k then 2 ^ j else 0), ())) (.inl (cl (tab n fun j => 2 ^ j), ())) (fun i hi => by
    unfold order_Of_l1
    have e0 : decide ((i : Int) < ((List.replicate ((n : Int)).toNat (0 : Int)).length : Int)) = true := by rw [List.length_replicate]; exact decide_eq_true (by omega)
    simp only [e0, cond_true]
    rw [sets_One_eq (by omega), wrap64 (by omega) (by omega)]
    simp only [Option.bind_some, inB_nat, cl_length, tab_length, decide_eq_true hi, cond_true, Int.toNat_natCast, cl_get, tab_get _ hi, Option.map_some, cl_set, tab_set]
    have : tab n (fun j => if j = i then 2 ^ i else if j < i then 2 ^ j else 0) = tab n (fun j => if j < i + 1 then 2 ^ j else 0) := tab_congr fun j _ => by
      by_cases h : j = i
      · subst h; simp
      · by_cases h2 : j < i
        · rw [if_neg h, if_pos h2, if_pos (by omega)]
        · rw [if_neg h, if_neg h2, if_neg (by omega)]
    rw [this]
    rfl) (by
    unfold order_Of_l1
    have e0 : decide ((n : Int) < ((List.replicate ((n : Int)).toNat (0 : Int)).length : Int)) = false := by rw [List.length_replicate]; exact decide_eq_false (by omega)
    simp only [e0, cond_false]
    have : tab n (fun j => if j < n then 2 ^ j else 0) = tab n (fun j => 2 ^ j) := tab_congr fun j hj => by simp [hj]
    rw [this])
  have e1 : tab n (fun j => if j < 0 then 2 ^ j else 0) = tab n fun _ => 0 := tab_congr fun j _ => by simp
  have h' : loopM (order_Of_l1 ((n : Int), ps, ())) (0, cl (tab n fun j => if j < 0 then 2 ^ j else 0), ()) = some (.inl (cl (tab n fun j => 2 ^ j), ())) := h
  rw [e1] at h'
  exact h'

def addP (g : Nat → Nat) (p : Int × Int × Unit) : Nat → Nat := fun j => if j = p.1.toNat then g j ||| 2 ^ p.2.1.toNat else g j

theorem okP_nat {n : Nat} {p : Int × Int × Unit} (h : okP n p = true) : ∃ a b : Nat, p = ((a : Int), (b : Int), ()) ∧ a < n ∧ b < n := by
  obtain ⟨x, y, ⟨⟩⟩ := p
  unfold okP at h
  simp only [decide_eq_true_eq] at h
  obtain ⟨a, rfl⟩ := Int.eq_ofNat_of_zero_le h.1
  obtain ⟨b, rfl⟩ := Int.eq_ofNat_of_zero_le h.2.2.1
  exact ⟨a, b, rfl, by omega, by omega⟩

theorem of_l2 {n : Nat} (hn : n ≤ 16) {ps : List (Int × Int × Unit)} (hp : ps.length ≤ 256) (g : Nat → Nat) (hg : ∀ j, j < n → g j < 2 ^ 32) :
    (ps.all (okP n) = true → loopM (order_Of_l2 ((n : Int), ps, ())) (0, (0, [], ()), (0, ()), cl (tab n g), ()) = some (.inr (.inl ((0, [], ()), (0, ()), cl (tab n (ps.foldl addP g)), ()))) ∧ ∀ j, j < n → ps.foldl addP g j < 2 ^ 32) ∧
    (ps.all (okP n) = false → ∃ u, loopM (order_Of_l2 ((n : Int), ps, ())) (0, (0, [], ()), (0, ()), cl (tab n g), ()) = some (.inl ((0, [], ()), (2, ()), u, ()))) := by
  have h := loopM_list (f := order_Of_l2 ((n : Int), ps, ())) ps (fun g : Nat → Nat => (((0 : Int), ([] : List Int), ()), ((0 : Int), ()), cl (tab n g), ())) addP (fun g => ∀ j, j < n → g j < 2 ^ 32) (okP n)
    (fun b => ∃ u, b = .inl ((0, [], ()), (2, ()), u, ())) (fun g => .inr (.inl ((0, [], ()), (0, ()), cl (tab n g), ()))) (fun i x g hx hg hok => by
      obtain ⟨a, b, rfl, ha, hb⟩ := okP_nat hok
      have hi := (List.getElem?_eq_some_iff.1 hx).1
      refine ⟨?_, fun j hj => ?_⟩
      · unfold order_Of_l2
        have e0 : decide ((i : Int) < (ps.length : Int)) = true := decide_eq_true (by omega)
        have e1 : decide ((if (b : Int) < (a : Int) then (b : Int) else (a : Int)) < 0) = false := decide_eq_false (by split <;> omega)
        have e2 : decide ((if (b : Int) > (a : Int) then (b : Int) else (a : Int)) ≥ (n : Int)) = false := decide_eq_false (by split <;> omega)
        simp only [e0, cond_true, getI_nat, hx, Option.bind_some, e1, e2, cond_false]
        rw [sets_One_eq (by omega), wrap64 (by omega) (by omega)]
        simp only [Option.bind_some, inB_nat, cl_length, tab_length, decide_eq_true ha, cond_true, Int.toNat_natCast, cl_get, tab_get _ ha, Option.map_some]
        rw [or_u32 (hg a ha) (Nat.pow_lt_pow_right (by decide) (by omega)), cl_set, tab_set]
        have : tab n (fun j => if j = a then g a ||| 2 ^ b else g j) = tab n (addP g ((a : Int), (b : Int), ())) := tab_congr fun j _ => by
          unfold addP
          by_cases h : j = a
          · subst h; simp
          · simp [h]
        rw [this]
        rfl
      · unfold addP
        dsimp only
        split
        · exact Nat.or_lt_two_pow (hg j hj) (Nat.pow_lt_pow_right (by decide) (by rw [Int.toNat_natCast]; omega))
        · exact hg j hj) (fun i x g hx hg hok => by
      obtain ⟨a, b, ⟨⟩⟩ := x
      have hi := (List.getElem?_eq_some_iff.1 hx).1
      refine ⟨.inl ((0, [], ()), (2, ()), cl (tab n g), ()), ?_, _, rfl⟩
      have e0 : decide ((i : Int) < (ps.length : Int)) = true := decide_eq_true (by omega)
      unfold okP at hok
      simp only [decide_eq_false_iff_not] at hok
      unfold order_Of_l2
      simp only [e0, cond_true, getI_nat, hx, Option.bind_some]
      by_cases h1 : (if b < a then b else a) < 0
      · simp only [decide_eq_true h1, cond_true]
      · have h2 : (if b > a then b else a) ≥ (n : Int) := by
          split at h1 <;> split <;> omega
        simp only [decide_eq_false h1, decide_eq_true h2, cond_true, cond_false]) (fun g _ => by
      unfold order_Of_l2
      have e0 : decide ((ps.length : Int) < (ps.length : Int)) = false := decide_eq_false (by omega)
      simp only [e0, cond_false]) g hg
  exact ⟨h.1, fun hf => by
    obtain ⟨b, h1, u, rfl⟩ := h.2 hf
    exact ⟨u, h1⟩⟩

theorem foldl_addP {n : Nat} : ∀ (ps : List (Int × Int × Unit)), ps.all (okP n) = true → ∀ (g : Nat → Nat) (i j : Nat), (ps.foldl addP g i).testBit j = true ↔ (g i).testBit j = true ∨ ((i : Int), (j : Int), ()) ∈ ps
  | [], _, g, i, j => by simp
  | p :: ps, h, g, i, j => by
    rw [List.all_cons, Bool.and_eq_true] at h
    obtain ⟨a, b, rfl, ha, hb⟩ := okP_nat h.1
    rw [List.foldl_cons, foldl_addP ps h.2]
    have e : (addP g ((a : Int), (b : Int), ()) i).testBit j = true ↔ (g i).testBit j = true ∨ (i = a ∧ j = b) := by
      unfold addP
      simp only [Int.toNat_natCast]
      by_cases hi : i = a
      · rw [if_pos hi, Nat.testBit_or, Nat.testBit_two_pow, Bool.or_eq_true, decide_eq_true_eq]
        constructor
        · rintro (h | h)
          · exact .inl h
          · exact .inr ⟨hi, h.symm⟩
        · rintro (h | h)
          · exact .inl h
          · exact .inr h.2.symm
      · rw [if_neg hi]; simp [hi]
    rw [e, List.mem_cons]
    have e2 : (((i : Int), (j : Int), ()) : Int × Int × Unit) = ((a : Int), (b : Int), ()) ↔ i = a ∧ j = b := by
      simp only [Prod.mk.injEq, and_true]; omega
    rw [e2]
    constructor
    · rintro ((h | h) | h)
      · exact .inl h
      · exact .inr (.inl h)
      · exact .inr (.inr h)
    · rintro (h | h | h)
      · exact .inl (.inl h)
      · exact .inl (.inr h)
      · exact .inr h

/-- One turn of the closing. -/
def turnW (g : Nat → Nat) (k : Nat) : Nat → Nat := fun j => if (g j).testBit k = true then g j ||| g k else g j
def turns (g : Nat → Nat) : Nat → Nat → Nat
  | 0 => g
  | k + 1 => turnW (turns g k) k
theorem turnW_self (g : Nat → Nat) (k : Nat) : turnW g k k = g k := by unfold turnW; split <;> simp
theorem turnW_bit (g : Nat → Nat) (k i j : Nat) : (turnW g k i).testBit j = ((g i).testBit j || (g i).testBit k && (g k).testBit j) := by
  unfold turnW
  cases h : (g i).testBit k <;> simp
theorem turns_lt {n : Nat} {g : Nat → Nat} (hg : ∀ j, j < n → g j < 2 ^ 32) : ∀ k, k ≤ n → ∀ j, j < n → turns g k j < 2 ^ 32
  | 0, _, j, hj => hg j hj
  | k + 1, hk, j, hj => by
    show turnW _ _ _ < _
    unfold turnW
    split
    · exact Nat.or_lt_two_pow (turns_lt hg k (by omega) j hj) (turns_lt hg k (by omega) k (by omega))
    · exact turns_lt hg k (by omega) j hj

theorem of_l3 {n : Nat} (hn : n ≤ 16) (g : Nat → Nat) (hg : ∀ j, j < n → g j < 2 ^ 32) {k : Nat} (hk : k < n) :
    loopM (order_Of_l3 ((k : Int), cl (tab n g), ())) (0, cl (tab n g), ()) = some (.inl (cl (tab n (turnW g k)), ())) := by
  have h := loopM_up (f := order_Of_l3 ((k : Int), cl (tab n g), ())) n (fun i => (cl (tab n fun j => if j < i then turnW g k j else g j), ())) (.inl (cl (tab n (turnW g k)), ())) (fun i hi => by
    unfold order_Of_l3
    have e0 : decide ((i : Int) < (n : Int)) = true := decide_eq_true (by omega)
    have ek : (if k < i then turnW g k k else g k) = g k := by rw [turnW_self]; simp
    have ei : (if i < i then turnW g k i else g i) = g i := by simp
    simp only [e0, cond_true, inB_nat, cl_length, tab_length, decide_eq_true hi, decide_eq_true hk, Int.toNat_natCast, cl_get, tab_get _ hi, tab_get _ hk, Option.map_some, Option.bind_some, ek, ei]
    rw [sets_Has_eq k (hg i hi), wrap64 (by omega) (by omega)]
    simp only [Option.bind_some]
    rw [or_u32 (hg i hi) (hg k hk), cl_set, tab_set]
    have e1 : tab n (fun j => if j = i then g i ||| g k else if j < i then turnW g k j else g j) = tab n (fun j => if j < i + 1 then (if j = i then g i ||| g k else turnW g k j) else g j) := tab_congr fun j _ => by
      by_cases h : j = i
      · subst h; simp
      · by_cases h2 : j < i
        · rw [if_neg h, if_pos h2, if_pos (by omega), if_neg h]
        · rw [if_neg h, if_neg h2, if_neg (by omega)]
    cases hb : (g i).testBit k with
    | true =>
      have e2 : tab n (fun j => if j < i + 1 then (if j = i then g i ||| g k else turnW g k j) else g j) = tab n (fun j => if j < i + 1 then turnW g k j else g j) := tab_congr fun j _ => by
        by_cases h : j = i
        · subst h; simp [turnW, hb]
        · simp [h]
      rw [e1, e2]; rfl
    | false =>
      have e2 : tab n (fun j => if j < i then turnW g k j else g j) = tab n (fun j => if j < i + 1 then turnW g k j else g j) := tab_congr fun j _ => by
        by_cases h : j = i
        · subst h; simp [turnW, hb]
        · by_cases h2 : j < i
          · rw [if_pos h2, if_pos (by omega)]
          · rw [if_neg h2, if_neg (by omega)]
      rw [e2]; rfl) (by
    unfold order_Of_l3
    have e0 : decide ((n : Int) < ((cl (tab n g)).length : Int)) = false := by rw [cl_length, tab_length]; exact decide_eq_false (by omega)
    simp only [e0, cond_false]
    have : tab n (fun j => if j < n then turnW g k j else g j) = tab n (turnW g k) := tab_congr fun j hj => by simp [hj]
    rw [this])
  have e1 : tab n (fun j => if j < 0 then turnW g k j else g j) = tab n g := tab_congr fun j _ => by simp
  have h' : loopM (order_Of_l3 ((k : Int), cl (tab n g), ())) (0, cl (tab n fun j => if j < 0 then turnW g k j else g j), ()) = some (.inl (cl (tab n (turnW g k)), ())) := h
  rw [e1] at h'
  exact h'

theorem of_l4 {n : Nat} (hn : n ≤ 16) (g g0 : Nat → Nat) (hg : ∀ j, j < n → g j < 2 ^ 32) (p : Int × List Int × Unit) (q : Int × Unit) :
    loopM (order_Of_l4 (p, q, cl (tab n g0), ())) (0, cl (tab n g), ()) = some (.inl (cl (tab n (turns g n)), ())) := by
  refine loopM_up (f := order_Of_l4 (p, q, cl (tab n g0), ())) n (fun k => (cl (tab n (turns g k)), ())) (.inl (cl (tab n (turns g n)), ())) (fun k hk => ?_) ?_
  · unfold order_Of_l4
    have e0 : decide ((k : Int) < ((cl (tab n g0)).length : Int)) = true := by rw [cl_length, tab_length]; exact decide_eq_true (by omega)
    simp only [e0, cond_true]
    rw [of_l3 hn _ (fun j hj => turns_lt hg k (by omega) j hj) hk, wrap64 (by omega) (by omega)]
    rfl
  · unfold order_Of_l4
    have e0 : decide ((n : Int) < ((cl (tab n g0)).length : Int)) = false := by rw [cl_length, tab_length]; exact decide_eq_false (by omega)
    simp only [e0, cond_false]

/-- The words with the pairs laid in. -/
def laidW (ps : List (Int × Int × Unit)) : Nat → Nat := ps.foldl addP fun j => 2 ^ j
theorem laidW_bit {n : Nat} {ps : List (Int × Int × Unit)} (h : ps.all (okP n) = true) (i j : Nat) : (laidW ps i).testBit j = true ↔ i = j ∨ ((i : Int), (j : Int), ()) ∈ ps := by
  unfold laidW
  rw [foldl_addP ps h, Nat.testBit_two_pow, decide_eq_true_eq]

theorem turns_sound {n : Nat} {ps : List (Int × Int × Unit)} (h : ps.all (okP n) = true) : ∀ k i j, (turns (laidW ps) k i).testBit j = true → Reach ps i j
  | 0, i, j, hb => by
    rcases (laidW_bit h i j).1 hb with rfl | hm
    · exact .refl
    · exact .step .refl hm
  | k + 1, i, j, hb => by
    have hb' : (turnW (turns (laidW ps) k) k i).testBit j = true := hb
    rw [turnW_bit, Bool.or_eq_true, Bool.and_eq_true] at hb'
    rcases hb' with h1 | ⟨h1, h2⟩
    · exact turns_sound h k i j h1
    · exact (turns_sound h k i k h1).trans (turns_sound h k k j h2)

theorem turns_keep (g : Nat → Nat) (k i j : Nat) (h : (g i).testBit j = true) : (turns g k i).testBit j = true := by
  induction k with
  | zero => exact h
  | succ k ih => show (turnW _ _ _).testBit j = true; rw [turnW_bit, ih]; rfl

theorem turns_trans (g : Nat → Nat) : ∀ k m, m < k → ∀ i j, (turns g k i).testBit m = true → (turns g k m).testBit j = true → (turns g k i).testBit j = true
  | 0, m, hm, _, _, _, _ => absurd hm (by omega)
  | k + 1, m, hm, i, j, h1, h2 => by
    have e : ∀ i j, (turns g (k + 1) i).testBit j = ((turns g k i).testBit j || (turns g k i).testBit k && (turns g k k).testBit j) := fun i j => turnW_bit _ k i j
    have ih := turns_trans g k
    rw [e, Bool.or_eq_true, Bool.and_eq_true] at h1 h2 ⊢
    by_cases hk : m = k
    · subst hk
      have h1' : (turns g m i).testBit m = true := by
        rcases h1 with h | h
        · exact h
        · exact h.1
      have h2' : (turns g m m).testBit j = true := by
        rcases h2 with h | h
        · exact h
        · exact h.2
      exact .inr ⟨h1', h2'⟩
    · have hm' : m < k := by omega
      rcases h1 with h1 | ⟨h1, h1'⟩
      · rcases h2 with h2 | ⟨h2, h2'⟩
        · exact .inl (ih m hm' i j h1 h2)
        · exact .inr ⟨ih m hm' i k h1 h2, h2'⟩
      · rcases h2 with h2 | ⟨h2, h2'⟩
        · exact .inr ⟨h1, ih m hm' k j h1' h2⟩
        · exact .inr ⟨h1, h2'⟩

theorem reach_lt {n : Nat} {ps : List (Int × Int × Unit)} (h : ps.all (okP n) = true) {i j : Nat} (hi : i < n) (hr : Reach ps i j) : j < n := by
  induction hr with
  | refl => exact hi
  | step _ hm _ =>
    obtain ⟨a, b, e, _, hb⟩ := okP_nat (List.all_eq_true.1 h _ hm)
    simp only [Prod.mk.injEq, and_true] at e
    omega
theorem pair_lt {n : Nat} {ps : List (Int × Int × Unit)} (h : ps.all (okP n) = true) {i j : Nat} (hm : ((i : Int), (j : Int), ()) ∈ ps) : i < n ∧ j < n := by
  obtain ⟨a, b, e, ha, hb⟩ := okP_nat (List.all_eq_true.1 h _ hm)
  simp only [Prod.mk.injEq, and_true] at e
  omega

theorem turns_all {n : Nat} {ps : List (Int × Int × Unit)} (h : ps.all (okP n) = true) (i j : Nat) : (turns (laidW ps) n i).testBit j = true ↔ Reach ps i j := by
  refine ⟨turns_sound h n i j, fun hr => ?_⟩
  induction hr with
  | refl => exact turns_keep _ _ _ _ ((laidW_bit h i i).2 (.inl rfl))
  | @step a b _ hm ih => exact turns_trans _ n a (pair_lt h hm).1 i b ih (turns_keep _ _ _ _ ((laidW_bit h a b).2 (.inr hm)))

theorem turns_clo {n : Nat} {ps : List (Int × Int × Unit)} (h : ps.all (okP n) = true) {i : Nat} (hi : i < n) : turns (laidW ps) n i = cloW ps n i := by
  apply Nat.eq_of_testBit_eq
  intro j
  rw [Bool.eq_iff_iff, turns_all h, cloW_bit]
  exact ⟨fun hr => ⟨reach_lt h hi hr, hr⟩, fun hr => hr.2⟩

def badR (G : Nat → Nat) (i j : Nat) : Bool := !decide (j = i) && (G j).testBit i
theorem of_l5 {n : Nat} (_ : n ≤ 16) (G : Nat → Nat) (hG : ∀ j, j < n → G j < 2 ^ 32) {i w : Nat} (hw : w < 2 ^ 32) (hin : ∀ j, w.testBit j = true → j < n) (y s : (Int × List Int × Unit) × (Int × Unit) × Unit) :
    loopM (order_Of_l5 ((i : Int), y) (cl (tab n G), ())) ((w : Int), s) = some (if (bitsL w).any (badR G i) = true then .inl ((0, [], ()), (4, ()), ()) else .inr (.inl (s.1, s.2.1, ()))) := by
  have hw64 : w < 2 ^ 64 := Nat.lt_of_lt_of_le hw (by decide)
  refine loopM_each (g := fun r s => some (if badR G i r = true then .inr (.inl ((0, [], ()), (4, ()), ())) else .inl s)) (e := fun s => .inr (.inl (s.1, s.2.1, ()))) hw64 (fun r q s h hb => ?_) (fun s => ?_) s _
    (eachM_any (badR G i) _ _ _ fun r _ => rfl)
  · have hr := hin r hb
    unfold order_Of_l5
    simp only [nz_eq, cond_true, tz_eq h, Option.bind_some, inB_nat, cl_length, tab_length, decide_eq_true hr, Int.toNat_natCast, cl_get, tab_get _ hr, Option.map_some, clr_eq h]
    rw [sets_Has_eq i (hG r hr), cast_bne]
    unfold badR
    cases decide (r = i) <;> cases (G r).testBit i <;> rfl
  · unfold order_Of_l5
    rfl
theorem of_l6 {n : Nat} (hn : n ≤ 16) (G : Nat → Nat) (hG : ∀ j, j < n → G j < 2 ^ 32) (hin : ∀ i j, i < n → (G i).testBit j = true → j < n) :
    loopM (order_Of_l6 (cl (tab n G), ())) (0, (0, [], ()), (0, ()), ()) = some (if (List.range n).any (fun i => (bitsL (G i)).any (badR G i)) = true then .inl ((0, [], ()), (4, ()), ()) else .inr (.inl ((0, [], ()), (0, ()), ()))) := by
  refine loopM_any0 n _ _ _ _ (fun i hi => ?_) ?_
  · unfold order_Of_l6
    have e0 : decide ((i : Int) < (n : Int)) = true := decide_eq_true (by omega)
    simp only [cl_length, tab_length, e0, cond_true, inB_nat, decide_eq_true hi, Int.toNat_natCast, cl_get, tab_get _ hi, Option.map_some, Option.bind_some]
    rw [wrap_u64 (Nat.lt_of_lt_of_le (hG i hi) (by decide)), of_l5 hn G hG (hG i hi) (hin i · hi), wrap64 (by omega) (by omega)]
    cases (bitsL (G i)).any (badR G i) <;> rfl
  · unfold order_Of_l6
    have e0 : decide ((n : Int) < (n : Int)) = false := decide_eq_false (by omega)
    simp only [cl_length, tab_length, e0, cond_false]

theorem ring_any {n : Nat} (hn : n ≤ 16) {ps : List (Int × Int × Unit)} : (List.range n).any (fun i => (bitsL (cloW ps n i)).any (badR (cloW ps n) i)) = true ↔ Ring ps n := by
  have hlt : ∀ i, cloW ps n i < 2 ^ 64 := fun i => Nat.lt_of_lt_of_le (wordOf_lt n _) (Nat.pow_le_pow_right (by decide) (by omega))
  rw [List.any_eq_true]
  constructor
  · rintro ⟨i, hi, hb⟩
    rw [List.any_eq_true] at hb
    obtain ⟨j, hj, hb⟩ := hb
    have hj' : (cloW ps n i).testBit j = true := by
      unfold bitsL at hj; exact (List.mem_filter.1 hj).2
    unfold badR at hb
    rw [Bool.and_eq_true, Bool.not_eq_true', decide_eq_false_iff_not] at hb
    obtain ⟨h1, h2⟩ := cloW_bit.1 hj'
    exact ⟨i, j, List.mem_range.1 hi, h1, fun e => hb.1 e.symm, h2, (cloW_bit.1 hb.2).2⟩
  · rintro ⟨i, j, hi, hj, hne, h1, h2⟩
    refine ⟨i, List.mem_range.2 hi, List.any_eq_true.2 ⟨j, (mem_bitsL (hlt i)).2 (cloW_bit.2 ⟨hj, h1⟩), ?_⟩⟩
    unfold badR
    rw [cloW_bit.2 ⟨hi, h2⟩, decide_eq_false (Ne.symm hne)]
    rfl

theorem order_Of_eq {N : Int} {ps : List (Int × Int × Unit)} : order_Of (N, ps, ()) = some (made N ps) := by
  unfold order_Of made
  by_cases h1 : N < 0
  · simp only [decide_eq_true h1, cond_true, if_pos h1]
  by_cases h2 : N > 16
  · simp only [decide_eq_false h1, cond_false, decide_eq_true h2, cond_true, if_neg h1, if_pos h2]
  by_cases h3 : (ps.length : Int) > 256
  · simp only [decide_eq_false h1, cond_false, decide_eq_false h2, decide_eq_true h3, cond_true, if_neg h1, if_neg h2, if_pos h3]
  obtain ⟨n, rfl⟩ := Int.eq_ofNat_of_zero_le (show 0 ≤ N by omega)
  have hn : n ≤ 16 := by omega
  have hl : ps.length ≤ 256 := by omega
  have c1 : (decide (0 ≤ (n : Int)) && decide ((n : Int) ≤ (n : Int)) && roomOk n 4 && decide ((n : Int) ≤ 9223372036854775807) && true && true) = true := by
    rw [room4 (by omega)]
    simp; omega
  have e1 : List.replicate n (0 : Int) = cl (tab n fun _ => 0) := by rw [cl_rep, rep_tab]
  simp only [decide_eq_false h1, cond_false, decide_eq_false h2, decide_eq_false h3, if_neg h1, if_neg h2, if_neg h3, Int.toNat_natCast, c1, cond_true, e1]
  rw [of_l1 hn]
  simp only [Option.bind_some, Sum.elim_inl]
  have hp : ∀ j, j < n → 2 ^ j < 2 ^ 32 := fun j hj => Nat.pow_lt_pow_right (by decide) (by omega)
  have h2' := of_l2 hn hl (fun j => 2 ^ j) hp
  cases hok : ps.all (okP n) with
  | false =>
    obtain ⟨u, hu⟩ := h2'.2 hok
    rw [hu]; rfl
  | true =>
    obtain ⟨hu, hlt⟩ := h2'.1 hok
    have hG : ∀ j, j < n → turns (laidW ps) n j < 2 ^ 32 := fun j hj => turns_lt hlt n (Nat.le_refl _) j hj
    have e4 : tab n (turns (laidW ps) n) = tab n (cloW ps n) := tab_congr fun i hi => turns_clo hok hi
    rw [hu]
    simp only [Option.bind_some, Sum.elim_inl, Sum.elim_inr]
    rw [of_l4 hn _ _ hlt]
    simp only [Option.bind_some, Sum.elim_inl]
    have e5 : tab n (turns (ps.foldl addP fun j => 2 ^ j) n) = tab n (cloW ps n) := e4
    rw [e5, of_l6 hn (cloW ps n) (fun j hj => by rw [← turns_clo hok hj]; exact hG j hj) (fun i j _ hb => (cloW_bit.1 hb).1)]
    have hr := ring_any hn (ps := ps)
    by_cases hring : Ring ps n
    · rw [if_pos (hr.2 hring), if_pos hring]; rfl
    · rw [if_neg (fun h => hring (hr.1 h)), if_neg hring]; rfl

/-! The reference. -/
def stepP (w : Nat) (p : Int × Int × Unit) : Nat := if w.testBit p.1.toNat = true then w ||| 2 ^ p.2.1.toNat else w
def roundW (ps : List (Int × Int × Unit)) (w : Nat) : Nat := ps.foldl stepP w
def iterW (ps : List (Int × Int × Unit)) (w : Nat) : Nat → Nat
  | 0 => w
  | t + 1 => roundW ps (iterW ps w t)

theorem stepP_lt {n : Nat} (hn : n ≤ 16) {w : Nat} {p : Int × Int × Unit} (hw : w < 2 ^ 32) (h : okP n p = true) : stepP w p < 2 ^ 32 := by
  obtain ⟨a, b, rfl, ha, hb⟩ := okP_nat h
  unfold stepP
  split
  · exact Nat.or_lt_two_pow hw (Nat.pow_lt_pow_right (by decide) (by rw [Int.toNat_natCast]; omega))
  · exact hw
theorem roundW_lt {n : Nat} (hn : n ≤ 16) : ∀ (ps : List (Int × Int × Unit)) (w : Nat), w < 2 ^ 32 → ps.all (okP n) = true → roundW ps w < 2 ^ 32
  | [], w, hw, _ => hw
  | p :: ps, w, hw, h => by
    rw [List.all_cons, Bool.and_eq_true] at h
    exact roundW_lt hn ps _ (stepP_lt hn hw h.1) h.2
theorem iterW_lt {n : Nat} (hn : n ≤ 16) {ps : List (Int × Int × Unit)} (h : ps.all (okP n) = true) {w : Nat} (hw : w < 2 ^ 32) : ∀ t, iterW ps w t < 2 ^ 32
  | 0 => hw
  | t + 1 => roundW_lt hn ps _ (iterW_lt hn h hw t) h

theorem stepP_keep {w : Nat} {p : Int × Int × Unit} {j : Nat} (h : w.testBit j = true) : (stepP w p).testBit j = true := by
  unfold stepP
  split
  · rw [Nat.testBit_or, h]; rfl
  · exact h
theorem roundW_keep : ∀ (ps : List (Int × Int × Unit)) {w j : Nat}, w.testBit j = true → (roundW ps w).testBit j = true
  | [], _, _, h => h
  | _ :: ps, _, _, h => roundW_keep ps (stepP_keep h)
theorem iterW_keep (ps : List (Int × Int × Unit)) {w j : Nat} (h : w.testBit j = true) : ∀ t, (iterW ps w t).testBit j = true
  | 0 => h
  | t + 1 => roundW_keep ps (iterW_keep ps h t)
theorem roundW_adds : ∀ (ps : List (Int × Int × Unit)) {w a b : Nat}, ((a : Int), (b : Int), ()) ∈ ps → w.testBit a = true → (roundW ps w).testBit b = true
  | p :: ps, w, a, b, hm, h => by
    rcases List.mem_cons.1 hm with rfl | hm
    · refine roundW_keep ps ?_
      unfold stepP
      simp only [Int.toNat_natCast]
      rw [if_pos h, Nat.testBit_or, Nat.testBit_two_pow]; simp
    · exact roundW_adds ps hm (stepP_keep h)
theorem stepP_sound {n : Nat} {qs : List (Int × Int × Unit)} {i w j : Nat} {p : Int × Int × Unit} (hp : okP n p = true) (hm : p ∈ qs) (hw : ∀ j, w.testBit j = true → Reach qs i j) (h : (stepP w p).testBit j = true) : Reach qs i j := by
  obtain ⟨a, b, rfl, ha, hb⟩ := okP_nat hp
  unfold stepP at h
  simp only [Int.toNat_natCast] at h
  by_cases hwa : w.testBit a = true
  · rw [if_pos hwa, Nat.testBit_or, Nat.testBit_two_pow, Bool.or_eq_true, decide_eq_true_eq] at h
    rcases h with h | rfl
    · exact hw j h
    · exact .step (hw a hwa) hm
  · rw [if_neg hwa] at h; exact hw j h
theorem roundW_sound {n : Nat} {qs : List (Int × Int × Unit)} {i : Nat} : ∀ (ps : List (Int × Int × Unit)) (w : Nat), ps.all (okP n) = true → (∀ p ∈ ps, p ∈ qs) → (∀ j, w.testBit j = true → Reach qs i j) → ∀ j, (roundW ps w).testBit j = true → Reach qs i j
  | [], w, _, _, hw, j, h => hw j h
  | p :: ps, w, h, hm, hw, j, hj => by
    rw [List.all_cons, Bool.and_eq_true] at h
    exact roundW_sound ps _ h.2 (fun q hq => hm q (List.mem_cons_of_mem _ hq)) (fun j hj => stepP_sound h.1 (hm p (List.mem_cons_self ..)) hw hj) j hj
theorem iterW_sound {n : Nat} {ps : List (Int × Int × Unit)} (h : ps.all (okP n) = true) (i : Nat) : ∀ t j, (iterW ps (2 ^ i) t).testBit j = true → Reach ps i j
  | 0, j, hj => by
    have hj' : (2 ^ i).testBit j = true := hj
    rw [Nat.testBit_two_pow, decide_eq_true_eq] at hj'
    subst hj'; exact .refl
  | t + 1, j, hj => roundW_sound ps _ h (fun _ hp => hp) (iterW_sound h i t) j hj

def Shut (ps : List (Int × Int × Unit)) (w : Nat) : Prop := ∀ a b : Nat, ((a : Int), (b : Int), ()) ∈ ps → w.testBit a = true → w.testBit b = true
theorem shut_of_same {ps : List (Int × Int × Unit)} {w : Nat} (h : roundW ps w = w) : Shut ps w := fun a b hm ha => by rw [← h]; exact roundW_adds ps hm ha
theorem round_shut {n : Nat} {ps : List (Int × Int × Unit)} (h : ps.all (okP n) = true) {w : Nat} (hs : Shut ps w) : roundW ps w = w := by
  have key : ∀ qs : List (Int × Int × Unit), (∀ p ∈ qs, p ∈ ps) → roundW qs w = w := by
    intro qs
    induction qs with
    | nil => intro _; rfl
    | cons p qs ih =>
      intro hm
      obtain ⟨a, b, rfl, ha, hb⟩ := okP_nat (List.all_eq_true.1 h p (hm p (List.mem_cons_self ..)))
      have e : stepP w ((a : Int), (b : Int), ()) = w := by
        unfold stepP
        simp only [Int.toNat_natCast]
        by_cases hwa : w.testBit a = true
        · rw [if_pos hwa]
          have hwb := hs a b (hm _ (List.mem_cons_self ..)) hwa
          apply Nat.eq_of_testBit_eq
          intro j
          rw [Nat.testBit_or, Nat.testBit_two_pow]
          by_cases hj : b = j
          · subst hj; simp [hwb]
          · simp [hj]
        · rw [if_neg hwa]
      show roundW qs (stepP w _) = w
      rw [e]
      exact ih fun q hq => hm q (List.mem_cons_of_mem _ hq)
  exact key ps fun _ h => h

theorem iter_grows {n : Nat} (hn : n ≤ 16) {ps : List (Int × Int × Unit)} (h : ps.all (okP n) = true) {i : Nat} (hi : i < n) : ∀ t, Shut ps (iterW ps (2 ^ i) t) ∨ t + 1 ≤ (List.range n).countP fun j => (iterW ps (2 ^ i) t).testBit j
  | 0 => by
    right
    refine List.countP_pos_iff.2 ⟨i, List.mem_range.2 hi, ?_⟩
    show (2 ^ i).testBit i = true
    rw [Nat.testBit_two_pow]; simp
  | t + 1 => by
    rcases iter_grows hn h hi t with hs | hc
    · left
      have : iterW ps (2 ^ i) (t + 1) = iterW ps (2 ^ i) t := round_shut h hs
      rw [this]; exact hs
    · by_cases e : iterW ps (2 ^ i) (t + 1) = iterW ps (2 ^ i) t
      · left; rw [e]; exact shut_of_same e
      · right
        refine Nat.lt_of_le_of_lt hc (countP_lt (fun j _ hj => roundW_keep ps hj) ?_)
        apply Classical.byContradiction
        intro hne
        refine e (Nat.eq_of_testBit_eq fun j => ?_)
        cases h1 : (iterW ps (2 ^ i) (t + 1)).testBit j with
        | false =>
          cases h2 : (iterW ps (2 ^ i) t).testBit j with
          | false => rfl
          | true => 
            have : (iterW ps (2 ^ i) (t + 1)).testBit j = true := roundW_keep ps h2
            rw [this] at h1; cases h1
        | true =>
          cases h2 : (iterW ps (2 ^ i) t).testBit j with
          | true => rfl
          | false => exact absurd ⟨j, List.mem_range.2 (reach_lt h hi (iterW_sound h i _ j h1)), h1, h2⟩ hne

theorem iter_clo {n : Nat} (hn : n ≤ 16) {ps : List (Int × Int × Unit)} (h : ps.all (okP n) = true) {i : Nat} (hi : i < n) : iterW ps (2 ^ i) n = cloW ps n i := by
  have hs : Shut ps (iterW ps (2 ^ i) n) := by
    rcases iter_grows hn h hi n with hs | hc
    · exact hs
    · have := List.countP_le_length (p := fun j => (iterW ps (2 ^ i) n).testBit j) (l := List.range n)
      rw [List.length_range] at this
      omega
  apply Nat.eq_of_testBit_eq
  intro j
  rw [Bool.eq_iff_iff, cloW_bit]
  refine ⟨fun hb => ⟨reach_lt h hi (iterW_sound h i n j hb), iterW_sound h i n j hb⟩, fun hr => ?_⟩
  have key : ∀ j, Reach ps i j → (iterW ps (2 ^ i) n).testBit j = true := by
    intro j hr
    induction hr with
    | refl => exact iterW_keep ps (by rw [Nat.testBit_two_pow]; simp) n
    | step _ hm ih => exact hs _ _ hm ih
  exact key j hr.2

theorem refOf_l1 {n : Nat} {ps : List (Int × Int × Unit)} (hl : ps.length ≤ 256) :
    loopM (ref_OrderOf_l1 ((n : Int), ps, ())) (0, (0, [], ()), ()) = some (if ps.all (okP n) = true then .inr (.inl ((0, [], ()), ())) else .inl (2, (0, [], ()), ())) := by
  have h := loopM_list (f := ref_OrderOf_l1 ((n : Int), ps, ())) ps (fun _ : Unit => (((0 : Int), ([] : List Int), ()), ())) (fun _ _ => ()) (fun _ => True) (okP n)
    (fun b => b = .inl (2, (0, [], ()), ())) (fun _ => .inr (.inl ((0, [], ()), ()))) (fun i x _ hx _ hok => by
      obtain ⟨a, b, rfl, ha, hb⟩ := okP_nat hok
      have hi := (List.getElem?_eq_some_iff.1 hx).1
      refine ⟨?_, trivial⟩
      unfold ref_OrderOf_l1
      have e0 : decide ((i : Int) < (ps.length : Int)) = true := decide_eq_true (by omega)
      have e1 : decide ((a : Int) < 0) = false := decide_eq_false (by omega)
      have e2 : decide ((a : Int) ≥ (n : Int)) = false := decide_eq_false (by omega)
      have e3 : decide ((b : Int) < 0) = false := decide_eq_false (by omega)
      have e4 : decide ((b : Int) ≥ (n : Int)) = false := decide_eq_false (by omega)
      simp only [e0, cond_true, getI_nat, hx, Option.bind_some, e1, e2, e3, e4, cond_false]
      rw [wrap64 (by omega) (by omega)]
      rfl) (fun i x _ hx _ hok => by
      obtain ⟨a, b, ⟨⟩⟩ := x
      have hi := (List.getElem?_eq_some_iff.1 hx).1
      refine ⟨_, ?_, rfl⟩
      have e0 : decide ((i : Int) < (ps.length : Int)) = true := decide_eq_true (by omega)
      unfold okP at hok
      simp only [decide_eq_false_iff_not] at hok
      unfold ref_OrderOf_l1
      simp only [e0, cond_true, getI_nat, hx, Option.bind_some]
      by_cases h1 : a < 0
      · simp only [decide_eq_true h1, cond_true]
      · by_cases h2 : a ≥ (n : Int)
        · simp only [decide_eq_false h1, decide_eq_true h2, cond_true, cond_false]
        · by_cases h3 : b < 0
          · simp only [decide_eq_false h1, decide_eq_false h2, decide_eq_true h3, cond_true, cond_false]
          · have h4 : b ≥ (n : Int) := by omega
            simp only [decide_eq_false h1, decide_eq_false h2, decide_eq_false h3, decide_eq_true h4, cond_true, cond_false]) (fun _ _ => by
      unfold ref_OrderOf_l1
      have e0 : decide ((ps.length : Int) < (ps.length : Int)) = false := decide_eq_false (by omega)
      simp only [e0, cond_false]) () trivial
  cases hok : ps.all (okP n) with
  | true => exact (h.1 hok).1
  | false =>
    obtain ⟨b, h1, rfl⟩ := h.2 hok
    exact h1

theorem refOf_l2 {n : Nat} (hn : n ≤ 16) {ps : List (Int × Int × Unit)} (hl : ps.length ≤ 256) (hok : ps.all (okP n) = true) {w : Nat} (hw : w < 2 ^ 32) :
    loopM (ref_OrderOf_l2 ((n : Int), ps, ())) ((w : Int), 0, ()) = some (.inl (((roundW ps w : Nat) : Int), ())) := by
  have hlt : ∀ k, roundW (ps.take k) w < 2 ^ 32 := fun k => roundW_lt hn _ _ hw (by
    rw [List.all_eq_true] at hok ⊢
    exact fun p hp => hok p (List.mem_of_mem_take hp))
  refine loopM_fold' ps.length (fun k => ((roundW (ps.take k) w : Nat) : Int)) _ (fun i hi => ?_) ?_
  · have hx : ps[i]? = some ps[i] := List.getElem?_eq_getElem hi
    have hop := List.all_eq_true.1 hok ps[i] (List.getElem_mem hi)
    have et : roundW (ps.take (i + 1)) w = stepP (roundW (ps.take i) w) ps[i] := by
      unfold roundW
      rw [List.take_add_one, hx, List.foldl_append]; rfl
    rw [et]
    obtain ⟨a, b, e, ha, hb⟩ := okP_nat hop
    rw [e] at hx ⊢
    have hwi := hlt i
    unfold ref_OrderOf_l2
    have e0 : decide ((i : Int) < (ps.length : Int)) = true := decide_eq_true (by omega)
    have e3 : decide (IntKind.u64.wrap (b : Int) < 0) = false := by rw [wrap_u64 (by omega)]; exact decide_eq_false (by omega)
    simp only [e0, cond_true, getI_nat, hx, Option.bind_some]
    rw [ref_Bit_eq hwi (by omega), wrap64 (by omega) (by omega)]
    simp only [Option.bind_some, e3, cond_false]
    rw [wrap_u64 (by omega), shl_u32 (by omega), or_u32 hwi (Nat.pow_lt_pow_right (by decide) (by omega))]
    unfold stepP
    simp only [Int.toNat_natCast]
    cases (roundW (ps.take i) w).testBit a <;> rfl
  · unfold ref_OrderOf_l2
    have e0 : decide ((ps.length : Int) < (ps.length : Int)) = false := decide_eq_false (by omega)
    simp only [e0, cond_false, List.take_length]

theorem refOf_l3 {n : Nat} (hn : n ≤ 16) {ps : List (Int × Int × Unit)} (hl : ps.length ≤ 256) (hok : ps.all (okP n) = true) {w : Nat} (hw : w < 2 ^ 32) :
    loopM (ref_OrderOf_l3 ((n : Int), ps, ())) ((w : Int), 0, ()) = some (.inl (((iterW ps w n : Nat) : Int), ())) := by
  refine loopM_fold' n (fun k => ((iterW ps w k : Nat) : Int)) _ (fun i hi => ?_) ?_
  · unfold ref_OrderOf_l3
    have e0 : decide ((i : Int) < (n : Int)) = true := decide_eq_true (by omega)
    simp only [e0, cond_true]
    rw [refOf_l2 hn hl hok (iterW_lt hn hok hw i), wrap64 (by omega) (by omega)]
    rfl
  · unfold ref_OrderOf_l3
    have e0 : decide ((n : Int) < (n : Int)) = false := decide_eq_false (by omega)
    simp only [e0, cond_false]

theorem refOf_l4 {n : Nat} (hn : n ≤ 16) {ps : List (Int × Int × Unit)} (hl : ps.length ≤ 256) (hok : ps.all (okP n) = true) :
    loopM (ref_OrderOf_l4 ((n : Int), ps, ())) (0, [], ((n : Int), ()), ()) = some (.inl (cl (tab n (cloW ps n)), ((n : Int), ()), ())) := by
  have h := loopM_up (f := ref_OrderOf_l4 ((n : Int), ps, ())) n (fun k => (cl (tab k (cloW ps n)), ((n : Int), ()), ())) (.inl (cl (tab n (cloW ps n)), ((n : Int), ()), ())) (fun i hi => by
    unfold ref_OrderOf_l4
    have e0 : decide ((i : Int) < (n : Int)) = true := decide_eq_true (by omega)
    have e3 : decide (IntKind.u64.wrap (i : Int) < 0) = false := by rw [wrap_u64 (by omega)]; exact decide_eq_false (by omega)
    simp only [e0, cond_true, e3, cond_false]
    rw [wrap_u64 (by omega), shl_u32 (by omega), refOf_l3 hn hl hok (Nat.pow_lt_pow_right (by decide) (by omega)), iter_clo hn hok hi, wrap64 (by omega) (by omega)]
    simp only [Option.bind_some, Sum.elim_inl, cl_length, tab_length, List.length_singleton]
    rw [room4 (by omega), tab_succ, ← cl_app]
    rfl) (by
    unfold ref_OrderOf_l4
    have e0 : decide ((n : Int) < (n : Int)) = false := decide_eq_false (by omega)
    simp only [e0, cond_false])
  exact h

theorem below_tab {n : Nat} {g : Nat → Nat} {i : Nat} (hi : i < n) (j : Nat) : below (tab n g) i j = (g i).testBit j := below_eq (tab_get g hi)

def badS (g : Nat → Nat) (i j : Nat) : Bool := (g i).testBit j && (g j).testBit i
theorem refOf_l5 {n : Nat} (hn : n ≤ 16) {g : Nat → Nat} (hg : ∀ j, j < n → g j < 2 ^ 32) {i : Nat} (hi : i < n) (y s : (Int × List Int × Unit) × Unit) :
    loopM (ref_OrderOf_l5 ((i : Int), y) (cl (tab n g), ((n : Int), ()), ())) (0, s) = some (if (List.range i).any (badS g i) = true then .inl (4, (0, [], ()), ()) else .inr (.inl (s.1, ()))) := by
  refine loopM_any0 i _ _ _ _ (fun j hj => ?_) ?_
  · unfold ref_OrderOf_l5
    have e0 : decide ((j : Int) < (i : Int)) = true := decide_eq_true (by omega)
    simp only [e0, cond_true]
    rw [ref_Below_eq (fit_tab hg) (by rw [tab_length]; omega) (by omega), ref_Below_eq (fit_tab hg) (by rw [tab_length]; omega) (by omega), below_tab hi, below_tab (by omega), wrap64 (by omega) (by omega)]
    unfold badS
    cases (g i).testBit j <;> cases (g j).testBit i <;> rfl
  · unfold ref_OrderOf_l5
    have e0 : decide ((i : Int) < (i : Int)) = false := decide_eq_false (by omega)
    simp only [e0, cond_false]

theorem refOf_l6 {n : Nat} (hn : n ≤ 16) {g : Nat → Nat} (hg : ∀ j, j < n → g j < 2 ^ 32) (ps : List (Int × Int × Unit)) (s : (Int × List Int × Unit) × Unit) :
    loopM (ref_OrderOf_l6 ((n : Int), ps, ()) (cl (tab n g), ((n : Int), ()), ())) (0, s) = some (if (List.range n).any (fun i => (List.range i).any (badS g i)) = true then .inl (4, (0, [], ()), ()) else .inr (.inl (s.1, ()))) := by
  refine loopM_any0 n _ _ _ _ (fun i hi => ?_) ?_
  · unfold ref_OrderOf_l6
    have e0 : decide ((i : Int) < (n : Int)) = true := decide_eq_true (by omega)
    simp only [e0, cond_true]
    rw [refOf_l5 hn hg hi, wrap64 (by omega) (by omega)]
    cases (List.range i).any (badS g i) <;> rfl
  · unfold ref_OrderOf_l6
    have e0 : decide ((n : Int) < (n : Int)) = false := decide_eq_false (by omega)
    simp only [e0, cond_false]

theorem ring_any2 {n : Nat} {ps : List (Int × Int × Unit)} : (List.range n).any (fun i => (List.range i).any (badS (cloW ps n) i)) = true ↔ Ring ps n := by
  rw [List.any_eq_true]
  constructor
  · rintro ⟨i, hi, hb⟩
    rw [List.any_eq_true] at hb
    obtain ⟨j, hj, hb⟩ := hb
    unfold badS at hb
    rw [Bool.and_eq_true] at hb
    have hi := List.mem_range.1 hi
    have hj := List.mem_range.1 hj
    exact ⟨i, j, hi, by omega, by omega, (cloW_bit.1 hb.1).2, (cloW_bit.1 hb.2).2⟩
  · rintro ⟨i, j, hi, hj, hne, h1, h2⟩
    by_cases h : j < i
    · refine ⟨i, List.mem_range.2 hi, List.any_eq_true.2 ⟨j, List.mem_range.2 h, ?_⟩⟩
      unfold badS
      rw [cloW_bit.2 ⟨hj, h1⟩, cloW_bit.2 ⟨hi, h2⟩]; rfl
    · refine ⟨j, List.mem_range.2 hj, List.any_eq_true.2 ⟨i, List.mem_range.2 (by omega), ?_⟩⟩
      unfold badS
      rw [cloW_bit.2 ⟨hj, h1⟩, cloW_bit.2 ⟨hi, h2⟩]; rfl

theorem ref_OrderOf_eq {N : Int} {ps : List (Int × Int × Unit)} : ref_OrderOf (N, ps, ()) = some (made N ps) := by
  unfold ref_OrderOf made
  by_cases h1 : N < 0
  · simp only [decide_eq_true h1, cond_true, if_pos h1]
  by_cases h2 : N > 16
  · simp only [decide_eq_false h1, cond_false, decide_eq_true h2, cond_true, if_neg h1, if_pos h2]
  by_cases h3 : (ps.length : Int) > 256
  · simp only [decide_eq_false h1, cond_false, decide_eq_false h2, decide_eq_true h3, cond_true, if_neg h1, if_neg h2, if_pos h3]
  obtain ⟨n, rfl⟩ := Int.eq_ofNat_of_zero_le (show 0 ≤ N by omega)
  have hn : n ≤ 16 := by omega
  have hl : ps.length ≤ 256 := by omega
  simp only [decide_eq_false h1, cond_false, decide_eq_false h2, decide_eq_false h3, if_neg h1, if_neg h2, if_neg h3, Int.toNat_natCast]
  rw [refOf_l1 hl]
  cases hok : ps.all (okP n) with
  | false => rfl
  | true =>
    simp only [if_true, Option.bind_some, Sum.elim_inl, Sum.elim_inr]
    rw [refOf_l4 hn hl hok]
    simp only [Option.bind_some, Sum.elim_inl]
    rw [refOf_l6 hn (g := cloW ps n) (fun j hj => wordOf_lt32 (n := n) _ (by omega))]
    have hr := ring_any2 (n := n) (ps := ps)
    by_cases hring : Ring ps n
    · rw [if_pos (hr.2 hring), if_pos hring]; rfl
    · rw [if_neg (fun h => hring (hr.1 h)), if_neg hring]; rfl


/-- THE LAW. -/
theorem orderMakes (N : Int) (ps : List (Int × Int × Unit)) : law_OrderMakes (N, ps, ()) = some (true, ()) := by
  unfold law_OrderMakes
  simp only [order_Of_eq, ref_OrderOf_eq, Option.bind_some, cond_beq, if_true]
  have hlen : (made N ps).1.2.1.length ≤ 1000000 := by
    unfold made
    by_cases h1 : N < 0
    · rw [if_pos h1]; simp
    by_cases h2 : N > 16
    · rw [if_neg h1, if_pos h2]; simp
    rw [if_neg h1, if_neg h2]
    split
    · simp
    · split
      · simp
      · split
        · simp
        · dsimp only; rw [cl_length, tab_length]; omega
  have e : (made N ps).1 = ((made N ps).1.1, (made N ps).1.2.1, ()) := rfl
  rw [e, ref_Orders_same hlen]
  rfl

theorem orderMakes_law (x : ADen sp3.args) (_ : WfA sp3.args x) : law_OrderMakes x = some (true, ()) := by
  obtain ⟨N, l, ⟨⟩⟩ := x
  exact orderMakes N l

end Go.Proofs.Tryd
