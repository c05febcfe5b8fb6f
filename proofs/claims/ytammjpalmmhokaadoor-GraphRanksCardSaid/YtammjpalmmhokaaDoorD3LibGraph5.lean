/- Lemmas on functions of the program, by name: graph5. -/
import Derived.Test.YtammjpalmmhokaaDoorD3Funs
import Derived.Test.YtammjpalmmhokaaDoorAbsSums
import Derived.Test.YtammjpalmmhokaaDoorD3LibGraph4
namespace Go.Proofs.Tryd
open Go Go.Abs


/-! Which nodes may be come to: by words. -/
/-- One step within a set. -/
def stepA (T : Nat → Nat) (w : Nat) (a b : Nat) : Bool := (T a).testBit b && w.testBit b
def unN (T : Nat → Nat) (w v : Nat) : Nat → Nat
  | 0 => 0
  | r + 1 => if v.testBit r = true then unN T w v r ||| (T r &&& w) else unN T w v r
theorem unN_bit (T : Nat → Nat) (w v b : Nat) : ∀ r, (unN T w v r).testBit b = true ↔ ∃ j, j < r ∧ v.testBit j = true ∧ stepA T w j b = true
  | 0 => by simp [unN]
  | r + 1 => by
    have ih := unN_bit T w v b r
    simp only [unN]
    constructor
    · intro h
      split at h
      · rename_i hv
        rw [Nat.testBit_or, Bool.or_eq_true, Nat.testBit_and] at h
        rcases h with h | h
        · obtain ⟨j, h1, h2⟩ := ih.1 h; exact ⟨j, by omega, h2⟩
        · exact ⟨r, by omega, hv, h⟩
      · obtain ⟨j, h1, h2⟩ := ih.1 h; exact ⟨j, by omega, h2⟩
    · rintro ⟨j, h1, h2, h3⟩
      by_cases hj : j = r
      · subst hj
        rw [if_pos h2, Nat.testBit_or, Nat.testBit_and, Bool.or_eq_true]; exact .inr h3
      · have := ih.2 ⟨j, by omega, h2, h3⟩
        split
        · rw [Nat.testBit_or, this, Bool.true_or]
        · exact this
theorem unN_lt {T : Nat → Nat} {w v n : Nat} (hw : w < 2 ^ n) : ∀ r, unN T w v r < 2 ^ n
  | 0 => Nat.two_pow_pos n
  | r + 1 => by
    simp only [unN]
    split
    · exact Nat.or_lt_two_pow (unN_lt hw r) (Nat.lt_of_le_of_lt Nat.and_le_right hw)
    · exact unN_lt hw r

theorem lt32 {n a : Nat} (hn : n ≤ 12) (h : a < 2 ^ n) : a < 2 ^ 32 := Nat.lt_of_lt_of_le h (Nat.pow_le_pow_right (by decide) (by omega))

theorem check_l6 {n : Nat} (hn : n ≤ 12) {T : Nat → Nat} (hT : ∀ a, T a < 2 ^ n) {w v : Nat} (hw : w < 2 ^ n) (hv : v < 2 ^ n) (b : Int × Int × Unit) :
    loopM (graph_Check_l6 (b, cl (tab n T), ()) (((w : Int), ()), ())) ((v : Int), ((0 : Int), ()), ()) = some (.inl ((((unN T w v n : Nat) : Int), ()), ())) := by
  refine loopM_bits (f := graph_Check_l6 (b, cl (tab n T), ()) (((w : Int), ()), ())) n (fun r => ((((unN T w v r : Nat) : Int), ()), ())) _ hv (by omega) (fun r q hq hb hr => ?_) (fun r hr hb => ?_) ?_
  · unfold graph_Check_l6
    simp only [nz_eq r q, cond_true, tz_eq hq, Option.bind_some, length_cl, length_tab, inB_T hr, Int.toNat_natCast]
    rw [get_cl (by rw [length_tab]; exact hr), getD_tab hr, Option.bind_some, clr_eq hq, and_u32 (lt32 hn (hT r)) (lt32 hn hw), or_u32 (lt32 hn (unN_lt hw r)) (lt32 hn (Nat.lt_of_le_of_lt Nat.and_le_right hw))]
    simp only [unN, if_pos hb]
  · simp only [unN, hb]; simp
  · unfold graph_Check_l6
    rfl

theorem cntB_mono {p q : Nat → Bool} : ∀ (m : Nat), (∀ j, j < m → p j = true → q j = true) → cntB m p ≤ cntB m q
  | 0, _ => Nat.le_refl _
  | m + 1, h => by
    have ih := cntB_mono m (fun j hj => h j (by omega))
    have := h m (by omega)
    simp only [cntB]
    cases hp : p m <;> cases hq : q m <;> simp <;> first | omega | (rw [this hp] at hq; cases hq)
theorem cntB_more {p q : Nat → Bool} : ∀ (m : Nat), (∀ j, j < m → p j = true → q j = true) → (∃ j, j < m ∧ p j = false ∧ q j = true) → cntB m p < cntB m q
  | 0, _, ⟨_, h, _⟩ => by omega
  | m + 1, h, ⟨j, hj, h1, h2⟩ => by
    have hm := cntB_mono m (fun j hj => h j (by omega))
    have := h m (by omega)
    simp only [cntB]
    by_cases hjm : j = m
    · subst hjm; rw [h1, h2]; simp; omega
    · have := cntB_more m (fun j hj => h j (by omega)) ⟨j, by omega, h1, h2⟩
      cases hp : p m <;> cases hq : q m <;> simp <;> first | omega | (rw [h m (by omega) hp] at hq; cases hq)

/-- All that can be come to from a node within a set. -/
noncomputable def behB (T : Nat → Nat) (w n i : Nat) : Nat := wordOf n fun j => @decide (Way (stepA T w) i j) (Classical.propDecidable _)
theorem behB_lt (T : Nat → Nat) (w n i : Nat) : behB T w n i < 2 ^ n := wordOf_lt n _
theorem behB_bit {T : Nat → Nat} {w n i j : Nat} (hw : w < 2 ^ n) : (behB T w n i).testBit j = true ↔ Way (stepA T w) i j := by
  unfold behB
  rw [wordOf_bit, Bool.and_eq_true, decide_eq_true_eq]
  refine ⟨fun h => @of_decide_eq_true _ (Classical.propDecidable _) h.2, fun h => ⟨?_, @decide_eq_true _ (Classical.propDecidable _) h⟩⟩
  cases h with
  | one h => exact bit_lt hw (Bool.and_eq_true_iff.1 h).2
  | more _ h => exact bit_lt hw (Bool.and_eq_true_iff.1 h).2

theorem check_l7_any {n : Nat} (hn : n ≤ 12) {T : Nat → Nat} (hT : ∀ a, T a < 2 ^ n) {w : Nat} (hw : w < 2 ^ n) (b : Int × Int × Unit) (i : Nat) : ∀ (k all next : Nat), all < 2 ^ n → next < 2 ^ n → n ≤ cntB n (fun j => all.testBit j) + k →
    (∀ j, all.testBit j = true ∨ next.testBit j = true → Way (stepA T w) i j) → (∀ j, stepA T w i j = true → all.testBit j = true ∨ next.testBit j = true) →
    (∀ a j, all.testBit a = true → stepA T w a j = true → all.testBit j = true ∨ next.testBit j = true) → (∀ j, next.testBit j = true → all.testBit j = false) →
    loopM (graph_Check_l7 (b, cl (tab n T), ()) (((w : Int), ()), ())) ((all : Int), (next : Int), ()) = some (.inl (((behB T w n i : Nat) : Int), ())) := by
  intro k
  induction k with
  | zero =>
    intro all next ha hx hk h1 h2 h3 h4
    have hz : next = 0 := by
      refine word_ext (k := n) hx (Nat.two_pow_pos n) fun j hj => ?_
      rw [Nat.zero_testBit]
      cases hb : next.testBit j with
      | false => rfl
      | true =>
        exfalso
        have h5 := h4 j hb
        have h6 := cntB_more (p := fun j => all.testBit j) (q := fun _ => true) n (fun _ _ _ => rfl) ⟨j, hj, h5, rfl⟩
        have h7 := cntB_le (fun _ => true) n
        omega
    subst hz
    refine loopM_inr ?_
    unfold graph_Check_l7
    show some (Sum.inr (Sum.inl ((all : Int), ()))) = _
    have : all = behB T w n i := by
      refine word_ext (k := n) ha (behB_lt T w n i) fun j hj => ?_
      rw [Bool.eq_iff_iff, behB_bit hw]
      refine ⟨fun h => h1 j (.inl h), fun h => ?_⟩
      induction h with
      | one h => exact (h2 _ h).resolve_right (by simp)
      | more _ h ih =>
        have hlt : ∀ {c d}, stepA T w c d = true → d < n := fun h => bit_lt hw (Bool.and_eq_true_iff.1 h).2
        rename_i c d hcd
        have hc : c < n := by
          cases hcd with
          | one h => exact hlt h
          | more _ h => exact hlt h
        exact (h3 _ _ (ih hc) h).resolve_right (by simp)
    rw [this]
  | succ k ih =>
    intro all next ha hx hk h1 h2 h3 h4
    by_cases hz : next = 0
    · subst hz
      refine loopM_inr ?_
      unfold graph_Check_l7
      show some (Sum.inr (Sum.inl ((all : Int), ()))) = _
      have : all = behB T w n i := by
        refine word_ext (k := n) ha (behB_lt T w n i) fun j hj => ?_
        rw [Bool.eq_iff_iff, behB_bit hw]
        refine ⟨fun h => h1 j (.inl h), fun h => ?_⟩
        induction h with
        | one h => exact (h2 _ h).resolve_right (by simp)
        | more _ h ih =>
          have hlt : ∀ {c d}, stepA T w c d = true → d < n := fun h => bit_lt hw (Bool.and_eq_true_iff.1 h).2
          rename_i c d hcd
          have hc : c < n := by
            cases hcd with
            | one h => exact hlt h
            | more _ h => exact hlt h
          exact (h3 _ _ (ih hc) h).resolve_right (by simp)
      rw [this]
    · have hor : all ||| next < 2 ^ n := Nat.or_lt_two_pow ha hx
      have hun := unN_lt (T := T) (v := next) hw n
      have hstep : graph_Check_l7 (b, cl (tab n T), ()) (((w : Int), ()), ()) ((all : Int), (next : Int), ()) = some (.inl (((all ||| next : Nat) : Int), ((dif (unN T w next n) (all ||| next) : Nat) : Int), ())) := by
        unfold graph_Check_l7
        have hne : ((next : Int) != 0) = true := by rw [bne_iff_ne]; omega
        simp only [hne, cond_true, wrap_u64 (lt_64 (lt32 hn hx)), check_l6 hn hT hw hx, Option.bind_some, Sum.elim_inl]
        rw [or_u32 (lt32 hn ha) (lt32 hn hx), not_u32 (lt32 hn hun) (lt32 hn hor)]
      rw [loopM_inl hstep]
      have hob : ∀ j, (all ||| next).testBit j = true ↔ all.testBit j = true ∨ next.testBit j = true := fun j => by rw [Nat.testBit_or, Bool.or_eq_true]
      have hun' : ∀ j, (unN T w next n).testBit j = true ↔ ∃ a, next.testBit a = true ∧ stepA T w a j = true := fun j => by
        rw [unN_bit]
        exact ⟨fun ⟨a, _, h⟩ => ⟨a, h⟩, fun ⟨a, h⟩ => ⟨a, bit_lt hx h.1, h⟩⟩
      have hd : ∀ j, (dif (unN T w next n) (all ||| next)).testBit j = true ↔ (unN T w next n).testBit j = true ∧ (all ||| next).testBit j = false := fun j => by rw [dif_bit, Bool.and_eq_true, Bool.not_eq_true']
      refine ih (all ||| next) _ hor (dif_lt hun) ?_ (fun j hj => ?_) (fun j hj => ?_) (fun a j haa hs => ?_) (fun j hj => ((hd j).1 hj).2)
      · obtain ⟨j, hj⟩ := Nat.exists_testBit_of_ne_zero hz
        have := cntB_more (p := fun j => all.testBit j) (q := fun j => (all ||| next).testBit j) n (fun j _ h => (hob j).2 (.inl h)) ⟨j, bit_lt hx hj, h4 j hj, (hob j).2 (.inr hj)⟩
        omega
      · rcases hj with hj | hj
        · exact h1 j ((hob j).1 hj)
        · obtain ⟨a, ha1, ha2⟩ := (hun' j).1 ((hd j).1 hj).1
          exact .more (h1 a (.inr ha1)) ha2
      · exact .inl ((hob j).2 (h2 j hj))
      · rcases (hob a).1 haa with haa | haa
        · exact .inl ((hob j).2 (h3 a j haa hs))
        · cases hq : (all ||| next).testBit j with
          | true => exact .inl rfl
          | false => exact .inr ((hd j).2 ⟨(hun' j).2 ⟨a, haa, hs⟩, hq⟩)

theorem check_l7 {n : Nat} (hn : n ≤ 12) {T : Nat → Nat} (hT : ∀ a, T a < 2 ^ n) {w : Nat} (hw : w < 2 ^ n) (b : Int × Int × Unit) (i : Nat) :
    loopM (graph_Check_l7 (b, cl (tab n T), ()) (((w : Int), ()), ())) ((0 : Int), ((T i &&& w : Nat) : Int), ()) = some (.inl (((behB T w n i : Nat) : Int), ())) := by
  have hx : T i &&& w < 2 ^ n := Nat.lt_of_le_of_lt Nat.and_le_right hw
  refine check_l7_any hn hT hw b i n 0 (T i &&& w) (Nat.two_pow_pos n) hx (by omega) (fun j hj => ?_) (fun j hj => ?_) (fun a j ha => by simp at ha) (fun j _ => Nat.zero_testBit j)
  · rcases hj with hj | hj
    · simp at hj
    · rw [Nat.testBit_and] at hj; exact .one hj
  · exact .inr (by rw [Nat.testBit_and]; exact hj)

theorem l9_eq : graph_Check_l9 = graph_Check_l7 := rfl

end Go.Proofs.Tryd
