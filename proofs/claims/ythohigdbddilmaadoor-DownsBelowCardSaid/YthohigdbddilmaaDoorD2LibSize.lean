/- Lemmas on functions of the program, by name: size. -/
import Derived.Test.YthohigdbddilmaaDoorD2Funs
import Derived.Test.YthohigdbddilmaaDoorAbsSums
import Derived.Test.YthohigdbddilmaaDoorD2LibStep
namespace Go.Proofs.Tryd
open Go Go.Abs


theorem ones_table : ∀ b : Fin 256, getI (textI txt0) (b.val : Int) = some ((cntB 8 fun i => b.val.testBit i : Nat) : Int) := by decide +kernel
theorem ones_at {b : Nat} (h : b < 256) : getS (textI txt0) (b : Int) = some ((cntB 8 fun i => b.testBit i : Nat) : Int) := by
  rw [getS_eq]; exact ones_table ⟨b, h⟩
theorem byte_bit (x k i : Nat) (hi : i < 8) : ((x >>> k) &&& 255).testBit i = x.testBit (k + i) := by
  rw [Nat.testBit_and, Nat.testBit_shiftRight, show 255 = 2 ^ 8 - 1 from rfl, Nat.testBit_two_pow_sub_one, decide_eq_true hi, Bool.and_true]
theorem byte_lt (x : Nat) : x &&& 255 < 256 := Nat.lt_of_le_of_lt Nat.and_le_right (by decide)
theorem ones_eq {x : Nat} (h : x < 2 ^ 32) : math_bits_OnesCount32 ((x : Int), ()) = some (((cntB 32 fun i => x.testBit i : Nat) : Int), ()) := by
  have hs : ∀ k, x >>> k < 2 ^ 32 := fun k => Nat.lt_of_le_of_lt (by rw [Nat.shiftRight_eq_div_pow]; exact Nat.div_le_self _ _) h
  have h24 : x >>> 24 < 256 := by rw [Nat.shiftRight_eq_div_pow]; exact Nat.div_lt_of_lt_mul (by omega)
  have e24 : x >>> 24 = (x >>> 24) &&& 255 := by
    rw [show 255 = 2 ^ 8 - 1 from rfl, Nat.and_two_pow_sub_one_eq_mod, Nat.mod_eq_of_lt h24]
  have a16 : bitsI .and .u32 (((x >>> 16 : Nat) : Int)) 255 = (((x >>> 16) &&& 255 : Nat) : Int) := and_u32 (hs 16) (by decide)
  have a8 : bitsI .and .u32 (((x >>> 8 : Nat) : Int)) 255 = (((x >>> 8) &&& 255 : Nat) : Int) := and_u32 (hs 8) (by decide)
  have a0 : bitsI .and .u32 (x : Int) 255 = ((x &&& 255 : Nat) : Int) := and_u32 h (by decide)
  have s24 : shrI .u32 (x : Int) 24 = ((x >>> 24 : Nat) : Int) := shr_u32 x 24 h
  have s16 : shrI .u32 (x : Int) 16 = ((x >>> 16 : Nat) : Int) := shr_u32 x 16 h
  have s8 : shrI .u32 (x : Int) 8 = ((x >>> 8 : Nat) : Int) := shr_u32 x 8 h
  have c24 : (cntB 8 fun i => ((x >>> 24) &&& 255).testBit i) = cntB 8 fun i => x.testBit (24 + i) := cntB_congr fun i hi => byte_bit x 24 i hi
  have c16 : (cntB 8 fun i => ((x >>> 16) &&& 255).testBit i) = cntB 8 fun i => x.testBit (16 + i) := cntB_congr fun i hi => byte_bit x 16 i hi
  have c8 : (cntB 8 fun i => ((x >>> 8) &&& 255).testBit i) = cntB 8 fun i => x.testBit (8 + i) := cntB_congr fun i hi => byte_bit x 8 i hi
  have c0 : (cntB 8 fun i => (x &&& 255).testBit i) = cntB 8 fun i => x.testBit i := cntB_congr fun i hi => by
    have := byte_bit x 0 i hi
    rwa [Nat.shiftRight_zero, Nat.zero_add] at this
  have hsum : cntB 32 (fun i => x.testBit i) = cntB 8 (fun i => x.testBit i) + cntB 8 (fun i => x.testBit (8 + i)) + cntB 8 (fun i => x.testBit (16 + i)) + cntB 8 (fun i => x.testBit (24 + i)) := by
    rw [show 32 = 24 + 8 from rfl, cntB_add, show 24 = 16 + 8 from rfl, cntB_add, show 16 = 8 + 8 from rfl, cntB_add]
  have l24 := cntB_le (fun i => x.testBit (24 + i)) 8
  have l16 := cntB_le (fun i => x.testBit (16 + i)) 8
  have l8 := cntB_le (fun i => x.testBit (8 + i)) 8
  have l0 := cntB_le (fun i => x.testBit i) 8
  unfold math_bits_OnesCount32
  simp only [s24, s16, s8, a16, a8, a0]
  rw [ones_at h24, ones_at (byte_lt _), ones_at (byte_lt _), ones_at (byte_lt _)]
  rw [e24, c24, c16, c8, c0, hsum]
  simp only [Option.bind_some]
  generalize cntB 8 (fun i => x.testBit (24 + i)) = d at *
  generalize cntB 8 (fun i => x.testBit (16 + i)) = c at *
  generalize cntB 8 (fun i => x.testBit (8 + i)) = b at *
  generalize cntB 8 (fun i => x.testBit i) = a at *
  rw [IntWalk.u8_in ((d : Int) + (c : Int)) (by omega), IntWalk.u8_in ((d : Int) + (c : Int) + (b : Int)) (by omega), IntWalk.u8_in ((d : Int) + (c : Int) + (b : Int) + (a : Int)) (by omega), wrap64 (by omega) (by omega)]
  congr 2
  omega
theorem sets_Size_eq {x : Nat} (h : x < 2 ^ 32) : sets_Size ((x : Int), ()) = some (((cntB 32 fun i => x.testBit i : Nat) : Int), ()) := by
  unfold sets_Size; rw [ones_eq h]; rfl

end Go.Proofs.Tryd
