/- Lemmas on functions of the program, by name: graph6. -/
import Derived.Test.YtammjpalmmhokaaDoorD3Funs
import Derived.Test.YtammjpalmmhokaaDoorAbsSums
import Derived.Test.YtammjpalmmhokaaDoorD3LibGraph5
namespace Go.Proofs.Tryd
open Go Go.Abs


/-- The bits of a word that are marked, added to a word. -/
def addN (p : Nat → Bool) (v b0 : Nat) : Nat → Nat
  | 0 => b0
  | r + 1 => if v.testBit r = true ∧ p r = true then addN p v b0 r ||| 2 ^ r else addN p v b0 r
theorem addN_lt {p : Nat → Bool} {v b0 n : Nat} (h0 : b0 < 2 ^ n) : ∀ r, r ≤ n → addN p v b0 r < 2 ^ n
  | 0, _ => h0
  | r + 1, hr => by
    simp only [addN]
    split
    · exact Nat.or_lt_two_pow (addN_lt h0 r (by omega)) (Nat.pow_lt_pow_right (by decide) (by omega))
    · exact addN_lt h0 r (by omega)
theorem addN_bit {p : Nat → Bool} {v b0 j : Nat} : ∀ r, (addN p v b0 r).testBit j = true ↔ b0.testBit j = true ∨ (j < r ∧ v.testBit j = true ∧ p j = true)
  | 0 => by simp [addN]
  | r + 1 => by
    have ih := addN_bit (p := p) (v := v) (b0 := b0) (j := j) r
    simp only [addN]
    by_cases h : v.testBit r = true ∧ p r = true
    · rw [if_pos h, Nat.testBit_or, Bool.or_eq_true, ih, Nat.testBit_two_pow, decide_eq_true_eq]
      constructor
      · rintro ((h1 | ⟨h1, h2⟩) | rfl)
        · exact .inl h1
        · exact .inr ⟨by omega, h2⟩
        · exact .inr ⟨by omega, h⟩
      · rintro (h1 | ⟨h1, h2⟩)
        · exact .inl (.inl h1)
        · by_cases hj : r = j
          · exact .inr hj
          · exact .inl (.inr ⟨by omega, h2⟩)
    · rw [if_neg h, ih]
      constructor
      · rintro (h1 | ⟨h1, h2⟩)
        · exact .inl h1
        · exact .inr ⟨by omega, h2⟩
      · rintro (h1 | ⟨h1, h2⟩)
        · exact .inl h1
        · refine .inr ⟨?_, h2⟩
          have : j ≠ r := fun e => h (e ▸ h2)
          omega

section
variable {n : Nat} {T : Nat → Nat}
theorem check_l10 (hn : n ≤ 12) (hT : ∀ a, T a < 2 ^ n) {w : Nat} (hw : w < 2 ^ n) (b : Int × Int × Unit) {i v b0 : Nat} (hv : v < 2 ^ n) (hb0 : b0 < 2 ^ n) :
    loopM (graph_Check_l10 (b, cl (tab n T), ()) (((w : Int), ()), ()) ((i : Int), ())) ((v : Int), ((b0 : Int), ()), ()) = some (.inl ((((addN (fun j => (behB T w n j).testBit i) v b0 n : Nat) : Int), ()), ())) := by
  refine loopM_bits (f := graph_Check_l10 (b, cl (tab n T), ()) (((w : Int), ()), ()) ((i : Int), ())) n (fun r => ((((addN (fun j => (behB T w n j).testBit i) v b0 r : Nat) : Int), ()), ())) _ hv (by omega) (fun r q hq hb hr => ?_) (fun r hr hb => ?_) ?_
  · unfold graph_Check_l10
    simp only [nz_eq r q, cond_true, tz_eq hq, Option.bind_some, length_cl, length_tab, inB_T hr, Int.toNat_natCast]
    rw [get_cl (by rw [length_tab]; exact hr), getD_tab hr, Option.bind_some, and_u32 (lt32 hn (hT r)) (lt32 hn hw), l9_eq, check_l7 hn hT hw, Option.bind_some, Sum.elim_inl, sets_Has_eq i (lt32 hn (behB_lt T w n r)), Option.bind_some]
    simp only [clr_eq hq, addN, hb, true_and]
    cases hh : (behB T w n r).testBit i with
    | false => simp
    | true =>
      simp only [cond_true, sets_One_eq (show r < 32 by omega), Option.bind_some, if_true]
      rw [or_u32 (lt32 hn (addN_lt hb0 r (by omega))) (two_pow_32 (by omega))]
  · simp [addN, hb]
  · unfold graph_Check_l10
    rfl

/-- What a node's rings at a depth add. -/
noncomputable def ringN (T : Nat → Nat) (w n : Nat) (D : Nat → Bool) (b0 : Nat) : Nat → Nat
  | 0 => b0
  | i + 1 => if w.testBit i = true ∧ D i = true then addN (fun j => (behB T w n j).testBit i) (behB T w n i) (ringN T w n D b0 i) n else ringN T w n D b0 i
theorem ringN_lt {w : Nat} {D : Nat → Bool} {b0 : Nat} (h0 : b0 < 2 ^ n) : ∀ i, ringN T w n D b0 i < 2 ^ n
  | 0 => h0
  | i + 1 => by
    simp only [ringN]
    split
    · exact addN_lt (ringN_lt h0 i) n (Nat.le_refl _)
    · exact ringN_lt h0 i
theorem ringN_bit {w : Nat} {D : Nat → Bool} {b0 j : Nat} (hw : w < 2 ^ n) : ∀ m, (ringN T w n D b0 m).testBit j = true ↔ b0.testBit j = true ∨ ∃ i, i < m ∧ w.testBit i = true ∧ D i = true ∧ Way (stepA T w) i j ∧ Way (stepA T w) j i
  | 0 => by simp [ringN]
  | i + 1 => by
    have ih := ringN_bit (D := D) (b0 := b0) (j := j) hw i
    simp only [ringN]
    by_cases h : w.testBit i = true ∧ D i = true
    · rw [if_pos h, addN_bit, ih, behB_bit hw, behB_bit hw]
      constructor
      · rintro ((h1 | ⟨a, h1, h2⟩) | ⟨h1, h2, h3⟩)
        · exact .inl h1
        · exact .inr ⟨a, by omega, h2⟩
        · exact .inr ⟨i, by omega, h.1, h.2, h2, h3⟩
      · rintro (h1 | ⟨a, h1, h2, h3, h4, h5⟩)
        · exact .inl (.inl h1)
        · by_cases ha : a = i
          · subst ha
            exact .inr ⟨bit_lt (behB_lt T w n a) ((behB_bit hw).2 h4), h4, h5⟩
          · exact .inl (.inr ⟨a, by omega, h2, h3, h4, h5⟩)
    · rw [if_neg h, ih]
      constructor
      · rintro (h1 | ⟨a, h1, h2⟩)
        · exact .inl h1
        · exact .inr ⟨a, by omega, h2⟩
      · rintro (h1 | ⟨a, h1, h2, h3, h4⟩)
        · exact .inl h1
        · have : a ≠ i := fun e => h (e ▸ ⟨h2, h3⟩)
          exact .inr ⟨a, by omega, h2, h3, h4⟩
end

def deepAt (N : List Node) (i : Nat) : Int := (N.getD i v0).2.1
def kindAt (N : List Node) (i : Nat) : Int := (N.getD i v0).1

theorem check_l11 {N : List Node} (E : List Edge) (hn : N.length ≤ 12) {T : Nat → Nat} (hT : ∀ a, T a < 2 ^ N.length) {w : Nat} (hw : w < 2 ^ N.length) (b : Int × Int × Unit) (f : Int) (y : (Int × Unit) × Unit) {b0 : Nat} (hb0 : b0 < 2 ^ N.length) :
    loopM (graph_Check_l11 ((N, E, ()), ()) ((f, ()), y) (b, cl (tab N.length T), ()) (((w : Int), ()), ())) ((w : Int), ((b0 : Int), ()), ()) = some (.inl ((((ringN T w N.length (fun i => deepAt N i == f) b0 N.length : Nat) : Int), ()), ())) := by
  refine loopM_bits (f := graph_Check_l11 ((N, E, ()), ()) ((f, ()), y) (b, cl (tab N.length T), ()) (((w : Int), ()), ())) N.length (fun r => ((((ringN T w N.length (fun i => deepAt N i == f) b0 r : Nat) : Int), ()), ())) _ hw (by omega) (fun r q hq hb hr => ?_) (fun r hr hb => ?_) ?_
  · unfold graph_Check_l11
    simp only [nz_eq r q, cond_true, tz_eq hq, Option.bind_some, getI_D v0 (Int.natCast_nonneg r) (show (r : Int) < (N.length : Int) by omega), Int.toNat_natCast]
    show (cond (deepAt N r != f) _ _) = _
    rw [cond_bne]
    by_cases hd : deepAt N r = f
    · rw [if_pos hd]
      simp only [length_cl, length_tab, inB_T hr, cond_true]
      have hbl := behB_lt T w N.length r
      rw [get_cl (by rw [length_tab]; exact hr), getD_tab hr, Option.bind_some, and_u32 (lt32 hn (hT r)) (lt32 hn hw), check_l7 hn hT hw, Option.bind_some, Sum.elim_inl, wrap_u64 (lt_64 (lt32 hn hbl)), check_l10 hn hT hw b hbl (ringN_lt hb0 r), Option.bind_some, Sum.elim_inl, Option.bind_some, Sum.elim_inl, clr_eq hq]
      simp [ringN, hb, hd]
    · rw [if_neg hd, clr_eq hq]
      simp [ringN, hb, hd]
  · simp [ringN, hb]
  · unfold graph_Check_l11
    rfl

/-- The nodes that count at a depth. -/
def insB (N : List Node) (f : Nat) (i : Nat) : Bool := decide ((f : Int) < deepAt N i) || (deepAt N i == (f : Int) && kindAt N i != 6)
def insW (N : List Node) (f : Nat) : Nat := wordOf N.length (insB N f)

theorem check_l5 {N : List Node} (E : List Edge) (hn : N.length ≤ 12) (f : Nat) (y : (Int × Unit) × Unit) :
    loopM (graph_Check_l5 ((N, E, ()), ()) (((f : Int), ()), y)) ((0 : Int), ((0 : Int), ()), ()) = some (.inl ((((insW N f : Nat) : Int), ()), ())) := by
  refine loopM_sim N.length (fun i => ((i : Int), ((((wordOf i (insB N f) : Nat) : Int)), ()), ())) _ (fun i hi => ?_) ?_ rfl
  · unfold graph_Check_l5
    have hw : wordOf i (insB N f) < 2 ^ 32 := wordOf_lt32 _ (by omega)
    simp only [dcT (show (i : Int) < (N.length : Int) by omega), cond_true, getI_D v0 (Int.natCast_nonneg i) (show (i : Int) < (N.length : Int) by omega), Int.toNat_natCast, Option.bind_some, sets_One_eq (show i < 32 by omega), or_u32 hw (two_pow_32 (show i < 32 by omega)), wrapS (show i < 9223372036854775807 by omega), wordOf_step]
    show (cond (decide (deepAt N i > (f : Int))) _ (cond (deepAt N i == (f : Int)) (cond (kindAt N i != 6) _ _) _)) = _
    have hins : insB N f i = (decide (deepAt N i > (f : Int)) || (deepAt N i == (f : Int) && kindAt N i != 6)) := rfl
    rw [hins]
    cases decide (deepAt N i > (f : Int)) <;> cases deepAt N i == (f : Int) <;> cases kindAt N i != 6 <;> rfl
  · unfold graph_Check_l5
    simp only [dcF (show ¬ (N.length : Int) < (N.length : Int) by omega), cond_false]
    rfl

noncomputable def badN (N : List Node) (T : Nat → Nat) : Nat → Nat
  | 0 => 0
  | f + 1 => ringN T (insW N (f + 1)) N.length (fun i => deepAt N i == ((f + 1 : Nat) : Int)) (badN N T f) N.length
theorem insW_lt (N : List Node) (f : Nat) : insW N f < 2 ^ N.length := wordOf_lt _ _
theorem badN_lt (N : List Node) (T : Nat → Nat) : ∀ f, badN N T f < 2 ^ N.length
  | 0 => Nat.two_pow_pos _
  | f + 1 => ringN_lt (badN_lt N T f) _
theorem badN_bit (N : List Node) (T : Nat → Nat) (j : Nat) : ∀ m, (badN N T m).testBit j = true ↔ ∃ f i, 1 ≤ f ∧ f ≤ m ∧ i < N.length ∧ (insW N f).testBit i = true ∧ deepAt N i = (f : Int) ∧ Way (stepA T (insW N f)) i j ∧ Way (stepA T (insW N f)) j i
  | 0 => by simp [badN]; intro f h; omega
  | m + 1 => by
    simp only [badN]
    rw [ringN_bit (insW_lt N (m + 1)), badN_bit N T j m]
    constructor
    · rintro (⟨f, i, h1, h2, h⟩ | ⟨i, h1, h2, h3, h⟩)
      · exact ⟨f, i, h1, by omega, h⟩
      · exact ⟨m + 1, i, by omega, by omega, h1, h2, by simpa using h3, h⟩
    · rintro ⟨f, i, h1, h2, h3, h4, h5, h⟩
      by_cases hf : f = m + 1
      · subst hf; exact .inr ⟨i, h3, h4, by simpa using h5, h⟩
      · exact .inl ⟨f, i, h1, by omega, h3, h4, h5, h⟩

theorem check_l12 {N : List Node} (E : List Edge) (hn : N.length ≤ 12) {T : Nat → Nat} (hT : ∀ a, T a < 2 ^ N.length) (b : Int × Int × Unit) :
    loopM (graph_Check_l12 ((N, E, ()), ()) (b, cl (tab N.length T), ())) (((1 : Int), ()), ((0 : Int), ()), ()) = some (.inl ((((badN N T 4 : Nat) : Int), ()), ())) := by
  refine loopM_sim 4 (fun f => ((((f + 1 : Nat) : Int), ()), ((((badN N T f : Nat) : Int)), ()), ())) _ (fun f hf => ?_) ?_ rfl
  · unfold graph_Check_l12
    simp only [dcT (show ((f + 1 : Nat) : Int) ≤ 4 by omega), cond_true, check_l5 E hn (f + 1), Option.bind_some, Sum.elim_inl, wrap_u64 (lt_64 (lt32 hn (insW_lt N (f + 1))))]
    rw [check_l11 E hn hT (insW_lt N (f + 1)) b _ _ (badN_lt N T f), Option.bind_some, Sum.elim_inl, Option.bind_some, Sum.elim_inl, wrapS (by omega)]
    rfl
  · unfold graph_Check_l12
    rfl

theorem check_l13 {n : Nat} (hn : n ≤ 12) {v : Nat} (hv : v < 2 ^ n) : loopM graph_Check_l13 ((v : Int), ((0 : Int), ()), ()) = some (((List.range n).findSome? fun j => if v.testBit j = true then some (Sum.inl (((j : Int), ()), ())) else none).getD (.inr (.inl (((0 : Int), ()), ())))) := by
  refine loopM_bitsStop (f := graph_Check_l13) n (fun _ => (((0 : Int), ()), ())) (fun j => some (Sum.inl (((j : Int), ()), ()))) _ hv (by omega) (fun r q hq hb hr => ?_) (fun _ _ _ => rfl) ?_
  · unfold graph_Check_l13
    simp only [nz_eq r q, cond_true, tz_eq hq, Option.bind_some]
  · unfold graph_Check_l13
    rfl

end Go.Proofs.Tryd
