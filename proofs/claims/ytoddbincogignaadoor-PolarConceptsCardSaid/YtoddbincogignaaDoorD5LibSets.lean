/- Lemmas on functions of the program, by name: sets. -/
import Derived.Test.YtoddbincogignaaDoorD5Funs
import Derived.Test.YtoddbincogignaaDoorAbsSums
namespace Go.Proofs.Tryd
open Go Go.Abs


theorem tz_table : ∀ r : Fin 64, getI lit0 (shrI .u64 (IntKind.u64.wrap (((2 ^ r.val : Nat) : Int) * (285870213051353865 : Int))) (58 : Int)) = some (r.val : Int) := by decide +kernel

theorem tz_eq {r q : Nat} (h : 2 ^ r * (2 * q + 1) < 2 ^ 64) : math_bits_TrailingZeros64 (((2 ^ r * (2 * q + 1) : Nat) : Int), ()) = some ((r : Int), ()) := by
  have hr : r < 64 := bit_lt h (by rw [odd_bit]; simp)
  have hp : 0 < 2 ^ r * (2 * q + 1) := Nat.mul_pos (Nat.two_pow_pos r) (by omega)
  unfold math_bits_TrailingZeros64
  have e0 : ((((2 ^ r * (2 * q + 1) : Nat) : Int), ()).1 == (0 : Int)) = false := by
    simp only [beq_eq_false_iff_ne]; omega
  have e1 : IntKind.u64.wrap (0 - ((2 ^ r * (2 * q + 1) : Nat) : Int)) = ((2 ^ 64 - 2 ^ r * (2 * q + 1) : Nat) : Int) := by
    unfold IntKind.wrap; simp only [IntKind.bits, IntKind.signed]
    generalize 2 ^ r * (2 * q + 1) = v at *
    simp; omega
  simp only [e0, cond_false]
  rw [e1, and_u64 h (by omega), low_one h, getS_eq, tab0_eq, tz_table ⟨r, hr⟩]
  simp only [Option.bind_some]
  rw [wrap64 (by omega) (by omega)]

theorem sets_One_eq {i : Nat} (h : i < 32) : sets_One ((i : Int), ()) = some (((2 ^ i : Nat) : Int), ()) := by
  unfold sets_One
  have : decide ((i : Int) < 0) = false := decide_eq_false (by omega)
  simp only [this, cond_false]
  rw [shl_u32 h]

theorem sets_All_eq {n : Nat} (h : n ≤ 32) : sets_All ((n : Int), ()) = some (((2 ^ n - 1 : Nat) : Int), ()) := by
  unfold sets_All
  have : decide ((n : Int) < 0) = false := decide_eq_false (by omega)
  simp only [this, cond_false]
  rw [all_u32 h]
theorem sets_Has_eq {a : Nat} (i : Nat) (h : a < 2 ^ 32) : sets_Has_uint32 ((a : Int), (i : Int), ()) = some (a.testBit i, ()) := by
  unfold sets_Has_uint32
  have : decide ((i : Int) < 0) = false := decide_eq_false (by omega)
  simp only [this, cond_false]
  rw [has_u32 i h]

theorem ref_Bit_eq {a : Nat} {i : Nat} (h : a < 2 ^ 32) (hi : i < 2 ^ 64) : ref_Bit ((a : Int), (i : Int), ()) = some (a.testBit i, ()) := by
  unfold ref_Bit
  have : decide (IntKind.u64.wrap (i : Int) < 0) = false := by rw [wrap_u64 hi]; exact decide_eq_false (by omega)
  simp only [this, cond_false]
  rw [wrap_u64 hi, bit_u32 i h]
/-- The words of an order: each fits. -/
def Fit (ws : List Nat) : Prop := ∀ w ∈ ws, w < 2 ^ 32
/-- Is i below j? -/
def below (ws : List Nat) (i j : Nat) : Bool := (ws.getD i 0).testBit j

theorem below_eq {ws : List Nat} {i j w : Nat} (h : ws[i]? = some w) : below ws i j = w.testBit j := by
  unfold below; rw [List.getD_eq_getElem?_getD, h]; rfl

theorem wf_u32 {x : Int} (h : (Lit.int .u32 x).wf = true) : 0 ≤ x ∧ x < 4294967296 := by
  simp [Lit.wf, IntKind.min, IntKind.max, IntKind.bits, IntKind.signed] at h
  omega
theorem words_of {l : List Int} (h : Wf (.list (.int .u32)) l) : ∃ ws, l = cl ws ∧ Fit ws := by
  obtain ⟨ws, rfl⟩ := cl_of (l := l) fun v hv => (wf_u32 (h.2 v hv)).1
  refine ⟨ws, rfl, fun w hw => ?_⟩
  have := (wf_u32 (h.2 (w : Int) (List.mem_map.2 ⟨w, hw, rfl⟩))).2
  omega

theorem fit_tab {n : Nat} {g : Nat → Nat} (h : ∀ i, i < n → g i < 2 ^ 32) : Fit (tab n g) := fun w hw => by
  obtain ⟨i, hi, rfl⟩ := mem_tab.1 hw
  exact h i hi

theorem below_tab {n : Nat} {g : Nat → Nat} {i : Nat} (hi : i < n) (j : Nat) : below (tab n g) i j = (g i).testBit j := below_eq (tab_get g hi)

end Go.Proofs.Tryd
