/- Lemmas on functions of the program, by name. -/
import Derived.Test.YtgepgleagefmeaaP20Funs
import Derived.Test.YtgepgleagefmeaaAbsSums
import Derived.Test.YtgepgleagefmeaaP20LemmasWirePuts2
namespace Go.Proofs.Try
section
open Go Go.Abs


/-! Histories: times moved to a frontier. -/
end

section
open Go Go.Abs


/-! Histories: moved, and told. -/
end

section
open Go Go.Abs


/-! Numbers as bytes. -/
def zz (n : Int) : Int := if n < 0 then -2 * n - 1 else 2 * n
def leb (x : Nat) : List Int := if x < 128 then [(x : Int)] else ((x % 128 + 128 : Nat) : Int) :: leb (x / 128)
termination_by x
decreasing_by omega
theorem leb_lt {x : Nat} (h : x < 128) : leb x = [(x : Int)] := by rw [leb, if_pos h]
theorem leb_ge {x : Nat} (h : ¬ x < 128) : leb x = ((x % 128 + 128 : Nat) : Int) :: leb (x / 128) := by rw [leb, if_neg h]
theorem wrap_u8 (x : Int) : IntKind.u8.wrap x = x % 256 := by unfold IntKind.wrap; simp [IntKind.bits, IntKind.signed]
theorem wrap_u64z (x : Int) : IntKind.u64.wrap x = x % 18446744073709551616 := by unfold IntKind.wrap; simp [IntKind.bits, IntKind.signed]
theorem or128 : ∀ a : Fin 256, bitsI .or .u8 ((a.1 : Nat) : Int) 128 = ((a.1 % 128 + 128 : Nat) : Int) := by decide +kernel
theorem or_128 (x : Nat) : bitsI .or .u8 (IntKind.u8.wrap (x : Int)) 128 = ((x % 128 + 128 : Nat) : Int) := by
  have h := or128 ⟨x % 256, Nat.mod_lt _ (by decide)⟩
  have e : IntKind.u8.wrap (x : Int) = ((x % 256 : Nat) : Int) := by rw [wrap_u8]; omega
  rw [e]
  have h : bitsI .or .u8 ((x % 256 : Nat) : Int) 128 = ((x % 256 % 128 + 128 : Nat) : Int) := h
  rw [h]
  congr 2
  omega
theorem shr7 (x : Nat) : shrI .u64 (x : Int) 7 = ((x / 128 : Nat) : Int) := by
  show Int.fdiv (x : Int) (2 ^ (min (7 : Int).toNat 64)) = _
  rw [show (2 : Int) ^ (min (7 : Int).toNat 64) = 128 by decide, Int.fdiv_eq_ediv_of_nonneg _ (by decide)]
  omega
theorem num_loop : ∀ (k x : Nat) (acc : List Int), x < 128 ^ (k + 1) → acc.length + k ≤ 1000 → ∃ z l, loopM wire_Num_l1 ((x : Int), acc, ()) = some (.inl (z, l, ())) ∧ l ++ [IntKind.u8.wrap z] = acc ++ leb x ∧ l.length ≤ acc.length + k
  | 0, x, acc, hx, ha => by
    have hx : x < 128 := by simpa using hx
    refine ⟨(x : Int), acc, loopM_inr (by
      unfold wire_Num_l1
      simp only [dcF (show ¬ (x : Int) ≥ 128 by omega), cond_false]), ?_, by omega⟩
    rw [leb_lt hx, wrap_u8, show (x : Int) % 256 = x by omega]
  | k + 1, x, acc, hx, ha => by
    by_cases h : x < 128
    · refine ⟨(x : Int), acc, loopM_inr (by
        unfold wire_Num_l1
        simp only [dcF (show ¬ (x : Int) ≥ 128 by omega), cond_false]), ?_, by omega⟩
      rw [leb_lt h, wrap_u8, show (x : Int) % 256 = x by omega]
    · have hd : x / 128 < 128 ^ (k + 1) := by
        rw [Nat.pow_succ] at hx
        exact Nat.div_lt_of_lt_mul (by rw [Nat.mul_comm]; exact hx)
      obtain ⟨z, l, h1, h2, h3⟩ := num_loop k (x / 128) (acc ++ [((x % 128 + 128 : Nat) : Int)]) hd (by rw [List.length_append, List.length_singleton]; omega)
      refine ⟨z, l, ?_, ?_, by rw [List.length_append, List.length_singleton] at h3; omega⟩
      · rw [loopM_inl (s' := (((x / 128 : Nat) : Int), acc ++ [((x % 128 + 128 : Nat) : Int)], ())) (by
          unfold wire_Num_l1
          simp only [dcT (show (x : Int) ≥ 128 by omega), cond_true, or_128, shr7]
          rw [room_ok (show acc.length + ([((x % 128 + 128 : Nat) : Int)] : List Int).length ≤ 140737488355328 by simp; omega) (show (acc.length + ([((x % 128 + 128 : Nat) : Int)] : List Int).length) * 1 ≤ 140737488355328 by simp; omega)]
          rfl)]
        exact h1
      · rw [h2, leb_ge h, List.append_assoc]; rfl
theorem ref_num_loop : ∀ (k x : Nat) (acc : List Int), x < 128 ^ (k + 1) → x < 18446744073709551616 → acc.length + k ≤ 1000 → ∃ z l, loopM ref_WireNum_l1 ((x : Int), acc, ()) = some (.inl (z, l, ())) ∧ l ++ [IntKind.u8.wrap z] = acc ++ leb x ∧ l.length ≤ acc.length + k
  | 0, x, acc, hx, _, ha => by
    have hx : x < 128 := by simpa using hx
    refine ⟨(x : Int), acc, loopM_inr (by
      unfold ref_WireNum_l1
      simp only [dcF (show ¬ (x : Int) > 127 by omega), cond_false]), ?_, by omega⟩
    rw [leb_lt hx, wrap_u8, show (x : Int) % 256 = x by omega]
  | k + 1, x, acc, hx, hx2, ha => by
    by_cases h : x < 128
    · refine ⟨(x : Int), acc, loopM_inr (by
        unfold ref_WireNum_l1
        simp only [dcF (show ¬ (x : Int) > 127 by omega), cond_false]), ?_, by omega⟩
      rw [leb_lt h, wrap_u8, show (x : Int) % 256 = x by omega]
    · have hd : x / 128 < 128 ^ (k + 1) := by
        rw [Nat.pow_succ] at hx
        exact Nat.div_lt_of_lt_mul (by rw [Nat.mul_comm]; exact hx)
      obtain ⟨z, l, h1, h2, h3⟩ := ref_num_loop k (x / 128) (acc ++ [((x % 128 + 128 : Nat) : Int)]) hd (by omega) (by rw [List.length_append, List.length_singleton]; omega)
      refine ⟨z, l, ?_, ?_, by rw [List.length_append, List.length_singleton] at h3; omega⟩
      · have e1 : IntKind.u8.wrap (IntKind.u64.wrap ((x : Int).tmod 128 + 128)) = ((x % 128 + 128 : Nat) : Int) := by
          rw [wrap_u8, wrap_u64z, Int.tmod_eq_emod_of_nonneg (by omega)]
          omega
        have e2 : IntKind.u64.wrap ((x : Int).tdiv 128) = ((x / 128 : Nat) : Int) := by
          rw [wrap_u64z, Int.tdiv_eq_ediv_of_nonneg (by omega)]
          omega
        rw [loopM_inl (s' := (((x / 128 : Nat) : Int), acc ++ [((x % 128 + 128 : Nat) : Int)], ())) (by
          unfold ref_WireNum_l1
          simp only [dcT (show (x : Int) > 127 by omega), cond_true, e1, e2]
          rw [room_ok (show acc.length + ([((x % 128 + 128 : Nat) : Int)] : List Int).length ≤ 140737488355328 by simp; omega) (show (acc.length + ([((x % 128 + 128 : Nat) : Int)] : List Int).length) * 1 ≤ 140737488355328 by simp; omega)]
          rfl)]
        exact h1
      · rw [h2, leb_ge h, List.append_assoc]; rfl
/-- A number of 64 bits. -/
def I64 (n : Int) : Prop := -9223372036854775808 ≤ n ∧ n ≤ 9223372036854775807
def numB (n : Int) : List Int := leb (zz n).toNat
theorem xor_zero (a : Int) : bitsI .xor .u64 (IntKind.u64.wrap a) 0 = IntKind.u64.wrap a := by
  show IntKind.u64.wrap ((BitVec.ofInt 64 (IntKind.u64.wrap a) ^^^ BitVec.ofInt 64 0).toNat : Int) = _
  rw [show BitVec.ofInt 64 0 = 0#64 from rfl, BitVec.xor_zero, BitVec.toNat_ofInt, wrap_u64z, wrap_u64z]
  omega
theorem xor_ones (a : Int) : bitsI .xor .u64 (IntKind.u64.wrap a) 18446744073709551615 = 18446744073709551615 - IntKind.u64.wrap a := by
  show IntKind.u64.wrap ((BitVec.ofInt 64 (IntKind.u64.wrap a) ^^^ BitVec.ofInt 64 18446744073709551615).toNat : Int) = _
  rw [show BitVec.ofInt 64 18446744073709551615 = BitVec.allOnes 64 by decide, BitVec.xor_allOnes, BitVec.toNat_not, BitVec.toNat_ofInt, wrap_u64z, wrap_u64z]
  omega
theorem xor_ones' (a : Int) : bitsI .xor .u64 18446744073709551615 (IntKind.u64.wrap a) = 18446744073709551615 - IntKind.u64.wrap a := by
  show IntKind.u64.wrap ((BitVec.ofInt 64 18446744073709551615 ^^^ BitVec.ofInt 64 (IntKind.u64.wrap a)).toNat : Int) = _
  rw [show BitVec.ofInt 64 18446744073709551615 = BitVec.allOnes 64 by decide, BitVec.allOnes_xor, BitVec.toNat_not, BitVec.toNat_ofInt, wrap_u64z, wrap_u64z]
  omega
theorem shl1 (a : Int) : shlI .u64 a 1 = IntKind.u64.wrap (a * 2) := by
  show IntKind.u64.wrap (a * 2 ^ (min (1 : Int).toNat 64)) = _
  rw [show (2 : Int) ^ (min (1 : Int).toNat 64) = 2 by decide]
theorem shr63 {n : Int} (h : I64 n) : shrI .i64 n 63 = if n < 0 then -1 else 0 := by
  obtain ⟨h1, h2⟩ := h
  show Int.fdiv n (2 ^ (min (63 : Int).toNat 64)) = _
  rw [show (2 : Int) ^ (min (63 : Int).toNat 64) = 9223372036854775808 by decide, Int.fdiv_eq_ediv_of_nonneg _ (by decide)]
  split <;> omega
theorem zz_prog {n : Int} (h : I64 n) : bitsI .xor .u64 (shlI .u64 (IntKind.u64.wrap n) 1) (IntKind.u64.wrap (shrI .i64 n 63)) = zz n := by
  rw [shl1, shr63 h]
  obtain ⟨h1, h2⟩ := h
  unfold zz
  split
  · rw [show IntKind.u64.wrap (-1) = 18446744073709551615 by decide, xor_ones, wrap_u64z, wrap_u64z]
    omega
  · rw [show IntKind.u64.wrap 0 = 0 by decide, xor_zero, wrap_u64z, wrap_u64z]
    omega
theorem zz_ref {n : Int} (h : I64 n) : IntKind.u64.wrap (IntKind.u64.wrap n * 2) = if n < 0 then 18446744073709551615 - zz n else zz n := by
  obtain ⟨h1, h2⟩ := h
  unfold zz
  rw [wrap_u64z, wrap_u64z]
  split <;> omega
theorem zz_nat {n : Int} (h : I64 n) : zz n = ((zz n).toNat : Int) ∧ (zz n).toNat < 18446744073709551616 := by
  obtain ⟨h1, h2⟩ := h
  unfold zz
  split <;> omega
theorem wire_num_eq {n : Int} (h : I64 n) : wire_Num (n, ()) = some (numB n, ()) := by
  obtain ⟨h1, h2⟩ := zz_nat h
  obtain ⟨z, l, e1, e2, e3⟩ := num_loop 9 (zz n).toNat [] (Nat.lt_of_lt_of_le h2 (by decide)) (by simp)
  unfold wire_Num
  simp only [zz_prog h]
  rw [h1, e1]
  simp only [Option.bind_some, Sum.elim_inl]
  rw [List.length_nil] at e3
  rw [room_ok (show l.length + ([IntKind.u8.wrap z] : List Int).length ≤ 140737488355328 by simp; omega) (show (l.length + ([IntKind.u8.wrap z] : List Int).length) * 1 ≤ 140737488355328 by simp; omega), e2]
  rfl
theorem ref_num_eq {n : Int} (h : I64 n) : ref_WireNum (n, ()) = some (numB n, ()) := by
  obtain ⟨h1, h2⟩ := zz_nat h
  obtain ⟨z, l, e1, e2, e3⟩ := ref_num_loop 9 (zz n).toNat [] (Nat.lt_of_lt_of_le h2 (by decide)) h2 (by simp)
  have hz := zz_ref h
  unfold ref_WireNum
  have hx : (((cond (decide (n < (0 : Int))) (some (Sum.inl ((bitsI .xor .u64 (if IntKind.u64.signed then -1 else IntKind.u64.max) (IntKind.u64.wrap ((IntKind.u64.wrap n) * (2 : Int)))), ()))) (some (Sum.inl ((IntKind.u64.wrap ((IntKind.u64.wrap n) * (2 : Int))), ())))) : Option ((Int × Unit) ⊕ Empty))) = some (.inl (zz n, ())) := by
    have hm : (if IntKind.u64.signed then (-1 : Int) else IntKind.u64.max) = 18446744073709551615 := by decide
    by_cases hn : n < 0
    · rw [dcT hn, cond_true, hm, xor_ones', hz, if_pos hn, show (18446744073709551615 - (18446744073709551615 - zz n)) = zz n by omega]
    · rw [dcF hn, cond_false, hz, if_neg hn]
  rw [hx]
  simp only [Option.bind_some, Sum.elim_inl]
  rw [h1, e1]
  simp only [Option.bind_some, Sum.elim_inl]
  rw [List.length_nil] at e3
  rw [room_ok (show l.length + ([IntKind.u8.wrap z] : List Int).length ≤ 140737488355328 by simp; omega) (show (l.length + ([IntKind.u8.wrap z] : List Int).length) * 1 ≤ 140737488355328 by simp; omega), e2]
  rfl
/-- A byte. -/
def B8 (n : Int) : Prop := 0 ≤ n ∧ n ≤ 255
theorem leb_b8 : ∀ (k x : Nat), x < 128 ^ (k + 1) → (∀ b ∈ leb x, B8 b) ∧ (leb x).length ≤ k + 1
  | 0, x, hx => by
    have hx : x < 128 := by simpa using hx
    rw [leb_lt hx]
    exact ⟨fun b hb => by rw [List.mem_singleton.1 hb]; unfold B8; omega, by simp⟩
  | k + 1, x, hx => by
    by_cases h : x < 128
    · rw [leb_lt h]
      exact ⟨fun b hb => by rw [List.mem_singleton.1 hb]; unfold B8; omega, by simp⟩
    · have hd : x / 128 < 128 ^ (k + 1) := by
        rw [Nat.pow_succ] at hx
        exact Nat.div_lt_of_lt_mul (by rw [Nat.mul_comm]; exact hx)
      obtain ⟨h1, h2⟩ := leb_b8 k _ hd
      rw [leb_ge h]
      refine ⟨fun b hb => ?_, by rw [List.length_cons]; omega⟩
      rcases List.mem_cons.1 hb with e | hb
      · rw [e]; unfold B8; omega
      · exact h1 b hb
theorem numB_b8 {n : Int} (h : I64 n) : (∀ b ∈ numB n, B8 b) ∧ (numB n).length ≤ 10 := leb_b8 9 _ (Nat.lt_of_lt_of_le (zz_nat h).2 (by decide))
end

section
open Go Go.Abs


/-! The sum of bytes. -/
def ws : Nat → List Int → Int
  | _, [] => 0
  | k, b :: l => ((k : Int) + 1) * b + ws (k + 1) l
theorem ws_snoc (b : Int) : ∀ (l : List Int) (k : Nat), ws k (l ++ [b]) = ws k l + ((k : Int) + (l.length : Int) + 1) * b
  | [], k => by
    show ((k : Int) + 1) * b + 0 = 0 + ((k : Int) + ((0 : Nat) : Int) + 1) * b
    rw [show (k : Int) + ((0 : Nat) : Int) + 1 = (k : Int) + 1 by omega]; omega
  | a :: l, k => by
    rw [List.cons_append, ws, ws, ws_snoc b l (k + 1), List.length_cons, show (((k + 1 : Nat) : Int) + (l.length : Int) + 1) = ((k : Int) + ((l.length + 1 : Nat) : Int) + 1) by omega]
    omega
theorem ws_up : ∀ (l : List Int) (k : Nat), ws (k + 1) l = ws k l + l.sum
  | [], _ => by rfl
  | b :: l, k => by
    rw [ws, ws, List.sum_cons, ws_up l (k + 1), show (((k + 1 : Nat) : Int) + 1) * b = ((k : Int) + 1) * b + b by rw [show (((k + 1 : Nat) : Int) + 1) = ((k : Int) + 1) + 1 by omega, Int.add_mul, Int.one_mul]]
    omega
theorem ws_nn : ∀ (l : List Int) (k : Nat), (∀ b ∈ l, B8 b) → 0 ≤ ws k l
  | [], _, _ => Int.le_refl _
  | b :: l, k, h => by
    have h1 := ws_nn l (k + 1) fun x hx => h x (List.mem_cons_of_mem _ hx)
    have h2 := (h b List.mem_cons_self).1
    have h3 : 0 ≤ ((k : Int) + 1) * b := Int.mul_nonneg (by omega) h2
    rw [ws]; omega
theorem sum_nn : ∀ (l : List Int), (∀ b ∈ l, B8 b) → 0 ≤ l.sum
  | [], _ => Int.le_refl _
  | b :: l, h => by
    have h1 := sum_nn l fun x hx => h x (List.mem_cons_of_mem _ hx)
    have h2 := (h b List.mem_cons_self).1
    rw [List.sum_cons]; omega
def sumB (l : List Int) : Int := ws 0 l % 65521
theorem wrapB {b : Int} (h : B8 b) : IntKind.i64.wrap b = b := by obtain ⟨h1, h2⟩ := h; exact wrap64 (by omega) (by omega)
theorem wire_sum_eq {l : List Int} (hb : ∀ b ∈ l, B8 b) (hl : l.length ≤ 140737488355328) : wire_Sum (l, ()) = some (sumB l, ()) := by
  have h := loopM_sim (f := wire_Sum_l1 (l, ())) (s0 := ((0 : Int), (0 : Int), IntKind.i64.wrap ((l.length : Int) - 1), ())) l.length (fun m => ((l.drop (l.length - m)).sum % 65521, ws 0 (l.drop (l.length - m)) % 65521, (l.length : Int) - 1 - (m : Int), ())) (.inl (sumB l, ())) (fun m hm => by
    have hk : l.length - (m + 1) < l.length := by omega
    obtain ⟨k, hkd⟩ : ∃ k, k = l.length - (m + 1) := ⟨_, rfl⟩
    have hk' : k < l.length := by omega
    have e1 : l.length - m = k + 1 := by omega
    have e2 : (l.length : Int) - 1 - (m : Int) = (k : Int) := by omega
    have e3 : (l.length : Int) - 1 - ((m + 1 : Nat) : Int) = (k : Int) - 1 := by omega
    have hd : l.drop k = l[k] :: l.drop (k + 1) := List.drop_eq_getElem_cons hk'
    have hB := hb _ (List.getElem_mem hk')
    have n1 := sum_nn (l.drop (k + 1)) fun x hx => hb x (List.mem_of_mem_drop hx)
    have n2 := ws_nn (l.drop (k + 1)) 0 fun x hx => hb x (List.mem_of_mem_drop hx)
    have hu := ws_up (l.drop (k + 1)) 0
    have hw : ws 0 (l.drop k) = l[k] + (ws 0 (l.drop (k + 1)) + (l.drop (k + 1)).sum) := by
      rw [hd, ws, hu]
      show ((0 : Nat) + 1 : Int) * l[k] + _ = _
      rw [show (((0 : Nat) : Int) + 1) = 1 by decide, Int.one_mul]
    have hs : (l.drop k).sum = l[k] + (l.drop (k + 1)).sum := by rw [hd, List.sum_cons]
    rw [← hkd, e1, e2, e3, hw, hs]
    generalize (l.drop (k + 1)).sum = s at n1
    generalize ws 0 (l.drop (k + 1)) = a at n2
    obtain ⟨b1, b2⟩ := hB
    unfold wire_Sum_l1
    simp only [dcT (show (k : Int) ≥ 0 by omega), cond_true, getI_nat, List.getElem?_eq_getElem hk', Option.bind_some, wrapB (show B8 l[k] from ⟨b1, b2⟩)]
    generalize l[k] = b at b1 b2
    have w1 : IntKind.i64.wrap (s % 65521 + b) = s % 65521 + b := wrap64 (by omega) (by omega)
    have t1 : (s % 65521 + b).tmod 65521 = (b + s) % 65521 := by
      rw [Int.tmod_eq_emod_of_nonneg (by omega)]; omega
    rw [w1, t1]
    have w2 : IntKind.i64.wrap (a % 65521 + (b + s) % 65521) = a % 65521 + (b + s) % 65521 := wrap64 (by omega) (by omega)
    have t2 : (a % 65521 + (b + s) % 65521).tmod 65521 = (b + (a + s)) % 65521 := by
      rw [Int.tmod_eq_emod_of_nonneg (by omega)]; omega
    have w3 : IntKind.i64.wrap ((k : Int) - 1) = (k : Int) - 1 := wrap64 (by omega) (by omega)
    rw [w2, t2, w3]) (by
    unfold wire_Sum_l1
    simp only [dcF (show ¬ (l.length : Int) - 1 - (l.length : Int) ≥ 0 by omega), cond_false, Nat.sub_self, List.drop_zero]; rfl) (by
    have w : IntKind.i64.wrap ((l.length : Int) - 1) = (l.length : Int) - 1 := wrap64 (by omega) (by omega)
    show (_, _, (l.length : Int) - 1 - ((0 : Nat) : Int), ()) = _
    rw [w, Nat.sub_zero, List.drop_length, show (l.length : Int) - 1 - ((0 : Nat) : Int) = (l.length : Int) - 1 by omega]; rfl)
  unfold wire_Sum
  rw [h]; rfl
theorem ref_sum_eq {l : List Int} (hb : ∀ b ∈ l, B8 b) (hl : l.length ≤ 140737488355328) : ref_WireSum (l, ()) = some (sumB l, ()) := by
  have h := loopM_sim (f := ref_WireSum_l1 (l, ())) (s0 := ((0 : Int), (0 : Int), ())) l.length (fun i => (ws 0 (l.take i) % 65521, (i : Int), ())) (.inl (sumB l, ())) (fun i hi => by
    have hB := hb _ (List.getElem_mem hi)
    have n2 := ws_nn (l.take i) 0 fun x hx => hb x (List.mem_of_mem_take hx)
    have hlen : (l.take i).length = i := by rw [List.length_take]; omega
    have hsn : ws 0 (l.take (i + 1)) = ws 0 (l.take i) + ((i : Int) + 1) * l[i] := by
      rw [List.take_succ_eq_append_getElem hi, ws_snoc, hlen, show (((0 : Nat) : Int) + (i : Int) + 1) = (i : Int) + 1 by omega]
    rw [hsn]
    unfold ref_WireSum_l1
    simp only [dcT (show (i : Int) < (l.length : Int) by omega), cond_true, getI_nat, List.getElem?_eq_getElem hi, Option.bind_some, wrapB hB, wrapS (show i < 9223372036854775807 by omega)]
    generalize ws 0 (l.take i) = a at n2
    obtain ⟨b1, b2⟩ := hB
    generalize l[i] = b at b1 b2
    have t0 : (((i + 1 : Nat) : Int)).tmod 65521 = ((i + 1 : Nat) : Int) % 65521 := Int.tmod_eq_emod_of_nonneg (by omega)
    rw [t0]
    have m1 : 0 ≤ ((i + 1 : Nat) : Int) % 65521 := Int.emod_nonneg _ (by decide)
    have m2 : ((i + 1 : Nat) : Int) % 65521 ≤ 65520 := by omega
    have p1 : 0 ≤ ((i + 1 : Nat) : Int) % 65521 * b := Int.mul_nonneg m1 b1
    have p2 : ((i + 1 : Nat) : Int) % 65521 * b ≤ 65520 * 255 := Int.mul_le_mul m2 b2 b1 (by decide)
    have w1 : IntKind.i64.wrap (((i + 1 : Nat) : Int) % 65521 * b) = ((i + 1 : Nat) : Int) % 65521 * b := wrap64 (by omega) (by omega)
    rw [w1]
    have w2 : IntKind.i64.wrap (a % 65521 + ((i + 1 : Nat) : Int) % 65521 * b) = a % 65521 + ((i + 1 : Nat) : Int) % 65521 * b := wrap64 (by omega) (by omega)
    rw [w2, Int.tmod_eq_emod_of_nonneg (by omega)]
    have e : (a % 65521 + ((i + 1 : Nat) : Int) % 65521 * b) % 65521 = (a + ((i : Int) + 1) * b) % 65521 := by
      rw [Int.add_emod, Int.emod_emod_of_dvd _ (Int.dvd_refl _), Int.mul_emod, Int.emod_emod_of_dvd _ (Int.dvd_refl _), ← Int.mul_emod, ← Int.add_emod]; rfl
    rw [e]) (by
    unfold ref_WireSum_l1
    simp only [dcF (show ¬ (l.length : Int) < (l.length : Int) by omega), cond_false, List.take_length]; rfl) rfl
  unfold ref_WireSum
  rw [h]; rfl
theorem sumB_rng {l : List Int} : 0 ≤ sumB l ∧ sumB l < 65521 := by unfold sumB; omega
end

section
open Go Go.Abs


/-! Histories as bytes. -/
def numsD (d : Df) : List Int := ((d.1.length : Int) :: d.1) ++ ((d.2.1.length : Int) :: d.2.1.flatMap fun r => [r.1, r.2.1, r.2.2.1])
def numsH (h : List Df) : List Int := (h.length : Int) :: h.flatMap numsD
def bytesL (l : List Int) : List Int := l.flatMap numB
theorem bytesL_app (a b : List Int) : bytesL (a ++ b) = bytesL a ++ bytesL b := by unfold bytesL; rw [List.flatMap_append]
theorem bytesL_len : ∀ {l : List Int}, (∀ n ∈ l, I64 n) → (bytesL l).length ≤ 10 * l.length
  | [], _ => Nat.le_refl _
  | n :: l, h => by
    have h1 := bytesL_len fun m hm => h m (List.mem_cons_of_mem _ hm)
    have h2 := (numB_b8 (h n List.mem_cons_self)).2
    unfold bytesL at h1 ⊢
    rw [List.flatMap_cons, List.length_append, List.length_cons]; omega
theorem bytesL_b8 {l : List Int} (h : ∀ n ∈ l, I64 n) : ∀ b ∈ bytesL l, B8 b := fun b hb => by
  obtain ⟨n, hn, hb⟩ := List.mem_flatMap.1 hb
  exact (numB_b8 (h n hn)).1 b hb
theorem room1w {n : Nat} (h : n ≤ 100000000) : roomOk n 1 = true := room_ok (by omega) (by omega)
abbrev NS := List Int × Int × Unit
abbrev NR := Option (NS ⊕ ((List Int × Unit) ⊕ Empty))
/-- A loop that puts numbers behind bytes. -/
theorem nums_loop {f : NS → NR} (L : List Int) (acc : List Int) (hL : ∀ n ∈ L, I64 n)
    (hf : ∀ (i : Nat) (hi : i < L.length) (b : List Int), b.length ≤ acc.length + 10 * L.length → f (b, (i : Int), ()) = some (.inl (b ++ numB L[i], ((i + 1 : Nat) : Int), ())))
    (he : ∀ b : List Int, f (b, (L.length : Int), ()) = some (.inr (.inl (b, ())))) : loopM f (acc, (0 : Int), ()) = some (.inl (acc ++ bytesL L, ())) := by
  refine loopM_sim L.length (fun i => (acc ++ bytesL (L.take i), (i : Int), ())) _ (fun i hi => ?_) ?_ (by simp [bytesL])
  · have hlen := bytesL_len (l := L.take i) fun n hn => hL n (List.mem_of_mem_take hn)
    rw [List.length_take] at hlen
    rw [hf i hi _ (by rw [List.length_append]; omega), List.take_succ_eq_append_getElem hi, bytesL_app, List.append_assoc]
    simp [bytesL]
  · rw [he, List.take_length]
theorem put_loop1 (n : Int) (acc : List Int) (hn : I64 n) (ha : acc.length ≤ 50000000) {f : NS → NR}
    (hf : f = fun y4 => (cond (decide (y4.2.1 < (([n] : List Int).length : Int))) (cond (inB y4.2.1 ([n] : List Int).length) ((([n] : List Int)[y4.2.1.toNat]?).bind fun v5 => ((wire_Num (v5, ())).bind fun r6 => (cond (true && roomOk (y4.1.length + r6.1.length) 1 && true && true) (some (Sum.inl ((y4.1 ++ r6.1), (IntKind.i64.wrap (y4.2.1 + (1 : Int))), ()))) none))) none) (some (Sum.inr (Sum.inl (y4.1, ())))))) :
    loopM f (acc, (0 : Int), ()) = some (.inl (acc ++ numB n, ())) := by
  have h := nums_loop (f := f) [n] acc (fun m hm => by rw [List.mem_singleton.1 hm]; exact hn) (fun i hi b hb => by
    have hi0 : i = 0 := by simpa using hi
    subst hi0
    have h2 := (numB_b8 hn).2
    subst hf
    simp only [show decide (((0 : Nat) : Int) < (([n] : List Int).length : Int)) = true from rfl, cond_true, show inB ((0 : Nat) : Int) ([n] : List Int).length = true from rfl, show ([n] : List Int)[((0 : Nat) : Int).toNat]? = some n from rfl, Option.bind_some, wire_num_eq hn]
    rw [room1w (by simp at hb; omega)]
    rfl) (fun b => by subst hf; rfl)
  rw [h]
  simp [bytesL]
theorem put_loop3 (v : Rw) (acc : List Int) (h1 : I64 v.1) (h2 : I64 v.2.1) (h3 : I64 v.2.2.1) (ha : acc.length ≤ 50000000) :
    loopM (wire_bytesOf_l5 v) (acc, (0 : Int), ()) = some (.inl (acc ++ bytesL [v.1, v.2.1, v.2.2.1], ())) :=
  nums_loop [v.1, v.2.1, v.2.2.1] acc (fun m hm => by
    simp at hm
    rcases hm with rfl | rfl | rfl <;> assumption) (fun i hi b hb => by
    have hm : I64 ([v.1, v.2.1, v.2.2.1] : List Int)[i] := by
      have hm := List.getElem_mem hi
      generalize ([v.1, v.2.1, v.2.2.1] : List Int)[i] = y at hm
      rcases List.mem_cons.1 hm with e | hm
      · rw [e]; exact h1
      · rcases List.mem_cons.1 hm with e | hm
        · rw [e]; exact h2
        · rw [List.mem_singleton.1 hm]; exact h3
    have hl := (numB_b8 hm).2
    unfold wire_bytesOf_l5
    simp only [dcT (show (i : Int) < (([v.1, v.2.1, v.2.2.1] : List Int).length : Int) by omega), cond_true, inB_T hi, Int.toNat_natCast, List.getElem?_eq_getElem hi, Option.bind_some, wire_num_eq hm, wrapS (show i < 9223372036854775807 by simp at hi; omega)]
    rw [room1w (by simp at hb; omega)]
    rfl) (fun b => by
    unfold wire_bytesOf_l5
    simp only [dcF (show ¬ ((([v.1, v.2.1, v.2.2.1] : List Int).length : Int)) < (([v.1, v.2.1, v.2.2.1] : List Int).length : Int) by omega), cond_false])
theorem put_loopT (v : Df) (acc : List Int) (h : ∀ n ∈ v.1, I64 n) (hl : v.1.length ≤ 1000) (ha : acc.length ≤ 50000000) : loopM (wire_bytesOf_l3 v) (acc, (0 : Int), ()) = some (.inl (acc ++ bytesL v.1, ())) :=
  nums_loop v.1 acc h (fun i hi b hb => by
    have hm := h _ (List.getElem_mem hi)
    have hl2 := (numB_b8 hm).2
    unfold wire_bytesOf_l3
    simp only [dcT (show (i : Int) < (v.1.length : Int) by omega), cond_true, getI_nat, List.getElem?_eq_getElem hi, Option.bind_some, wire_num_eq hm, wrapS (show i < 9223372036854775807 by omega)]
    rw [room1w (by omega)]
    rfl) (fun b => by
    unfold wire_bytesOf_l3
    simp only [dcF (show ¬ (v.1.length : Int) < (v.1.length : Int) by omega), cond_false])
def rowN (r : Rw) : List Int := [r.1, r.2.1, r.2.2.1]
structure RowOK (r : Rw) : Prop where
  k : I64 r.1
  v : I64 r.2.1
  n : I64 r.2.2.1
theorem rowN_ok {l : List Rw} (h : ∀ r ∈ l, RowOK r) : ∀ n ∈ l.flatMap rowN, I64 n := fun n hn => by
  obtain ⟨r, hr, hn⟩ := List.mem_flatMap.1 hn
  have := h r hr
  unfold rowN at hn
  simp at hn
  rcases hn with rfl | rfl | rfl
  · exact this.k
  · exact this.v
  · exact this.n
theorem rowN_len (l : List Rw) : (l.flatMap rowN).length = 3 * l.length := by
  induction l with
  | nil => rfl
  | cons r l ih => rw [List.flatMap_cons, List.length_append, ih, List.length_cons]; simp [rowN]; omega
theorem put_loopR (v : Df) (acc : List Int) (h : ∀ r ∈ v.2.1, RowOK r) (hl : v.2.1.length ≤ 1000) (ha : acc.length ≤ 40000000) : loopM (wire_bytesOf_l6 v) (acc, (0 : Int), ()) = some (.inl (acc ++ bytesL (v.2.1.flatMap rowN), ())) := by
  refine loopM_sim v.2.1.length (fun i => (acc ++ bytesL ((v.2.1.take i).flatMap rowN), (i : Int), ())) _ (fun i hi => ?_) ?_ (by simp [bytesL])
  · have hm := h _ (List.getElem_mem hi)
    have hlen := bytesL_len (rowN_ok (l := v.2.1.take i) fun r hr => h r (List.mem_of_mem_take hr))
    rw [rowN_len, List.length_take] at hlen
    unfold wire_bytesOf_l6
    simp only [dcT (show (i : Int) < (v.2.1.length : Int) by omega), cond_true, getI_nat, List.getElem?_eq_getElem hi, Option.bind_some, wrapS (show i < 9223372036854775807 by omega)]
    rw [put_loop3 _ _ hm.k hm.v hm.n (by rw [List.length_append]; omega)]
    simp only [Option.bind_some, Sum.elim_inl]
    rw [List.take_succ_eq_append_getElem hi, List.flatMap_append, bytesL_app, List.append_assoc]
    simp [rowN]
  · unfold wire_bytesOf_l6
    simp only [dcF (show ¬ (v.2.1.length : Int) < (v.2.1.length : Int) by omega), cond_false, List.take_length]
/-- What may be put. -/
structure PutOK (h : List Df) : Prop where
  len : h.length ≤ 64
  num : numD h ≤ 128
  dim : ∀ d ∈ h, d.1.length ≤ 4
  time : ∀ d ∈ h, ∀ n ∈ d.1, I64 n
  rows : ∀ d ∈ h, ∀ r ∈ d.2.1, RowOK r
theorem small_i64 {n : Nat} (h : n ≤ 1000000) : I64 (n : Int) := ⟨by omega, by omega⟩
theorem numsD_eq (d : Df) : numsD d = ([(d.1.length : Int)] ++ d.1) ++ ([(d.2.1.length : Int)] ++ d.2.1.flatMap rowN) := rfl
theorem numsD_ok {h : List Df} (p : PutOK h) {d : Df} (hd : d ∈ h) : (∀ n ∈ numsD d, I64 n) ∧ (numsD d).length ≤ 400 := by
  have h1 := p.dim d hd
  have h2 := len_le_num hd
  have h3 := p.num
  constructor
  · intro n hn
    rw [numsD_eq, List.mem_append, List.mem_append, List.mem_append] at hn
    rcases hn with (hn | hn) | (hn | hn)
    · rw [List.mem_singleton.1 hn]; exact small_i64 (by omega)
    · exact p.time d hd n hn
    · rw [List.mem_singleton.1 hn]; exact small_i64 (by omega)
    · exact rowN_ok (p.rows d hd) n hn
  · rw [numsD_eq, List.length_append, List.length_append, List.length_append, rowN_len, List.length_singleton, List.length_singleton]; omega
theorem numsT_len : ∀ {h : List Df}, (∀ d ∈ h, (∀ n ∈ numsD d, I64 n) ∧ (numsD d).length ≤ 400) → (∀ n ∈ h.flatMap numsD, I64 n) ∧ (h.flatMap numsD).length ≤ 400 * h.length
  | [], _ => ⟨fun n hn => (by cases hn), Nat.le_refl _⟩
  | d :: h, hp => by
    obtain ⟨h1, h2⟩ := numsT_len (h := h) fun e he => hp e (List.mem_cons_of_mem _ he)
    obtain ⟨h3, h4⟩ := hp d List.mem_cons_self
    rw [List.flatMap_cons]
    refine ⟨fun n hn => (List.mem_append.1 hn).elim (h3 n) (h1 n), ?_⟩
    rw [List.length_append, List.length_cons]; omega
theorem bytes_l7 {h : List Df} (p : PutOK h) (acc : List Int) (ha : acc.length ≤ 1000) : loopM (wire_bytesOf_l7 (h, ())) (acc, (0 : Int), ()) = some (.inl (acc ++ bytesL (h.flatMap numsD), ())) := by
  have p1 := p.len
  refine loopM_sim h.length (fun i => (acc ++ bytesL ((h.take i).flatMap numsD), (i : Int), ())) _ (fun i hi => ?_) ?_ (by simp [bytesL])
  · have hd := List.getElem_mem hi
    have h1 := p.dim _ hd
    have h2 := len_le_num hd
    have h3 := p.num
    obtain ⟨q1, q2⟩ := numsT_len (h := h.take i) fun d hd => numsD_ok p (List.mem_of_mem_take hd)
    have hlen := bytesL_len q1
    rw [List.length_take] at q2
    generalize hA : acc ++ bytesL ((h.take i).flatMap numsD) = A
    have hAl : A.length ≤ 1000000 := by rw [← hA, List.length_append]; omega
    have b1 := (numB_b8 (small_i64 (n := h[i].1.length) (by omega))).2
    have b2 := (numB_b8 (small_i64 (n := h[i].2.1.length) (by omega))).2
    have b3 := bytesL_len (p.time _ hd)
    unfold wire_bytesOf_l7
    simp only [dcT (show (i : Int) < (h.length : Int) by omega), cond_true, getI_nat, List.getElem?_eq_getElem hi, Option.bind_some, wrapS (show i < 9223372036854775807 by omega)]
    rw [put_loop1 (h[i].1.length : Int) A (small_i64 (by omega)) (by omega) (f := wire_bytesOf_l2 h[i]) rfl]
    simp only [Option.bind_some, Sum.elim_inl]
    rw [put_loopT _ _ (p.time _ hd) (by omega) (by rw [List.length_append]; omega)]
    simp only [Option.bind_some, Sum.elim_inl]
    rw [put_loop1 (h[i].2.1.length : Int) _ (small_i64 (by omega)) (by rw [List.length_append, List.length_append]; omega) (f := wire_bytesOf_l4 h[i]) rfl]
    simp only [Option.bind_some, Sum.elim_inl]
    rw [put_loopR _ _ (p.rows _ hd) (by omega) (by rw [List.length_append, List.length_append, List.length_append]; omega)]
    simp only [Option.bind_some, Sum.elim_inl]
    rw [List.take_succ_eq_append_getElem hi, List.flatMap_append, bytesL_app, ← List.append_assoc, hA]
    have e : bytesL ([h[i]].flatMap numsD) = numB (h[i].1.length : Int) ++ bytesL h[i].1 ++ numB (h[i].2.1.length : Int) ++ bytesL (h[i].2.1.flatMap rowN) := by
      rw [List.flatMap_singleton, numsD_eq, bytesL_app, bytesL_app, bytesL_app]
      simp [bytesL]
    rw [e]
    simp only [List.append_assoc]
  · unfold wire_bytesOf_l7
    simp only [dcF (show ¬ (h.length : Int) < (h.length : Int) by omega), cond_false, List.take_length]
def wireB (h : List Df) : List Int := bytesL (numsH h) ++ [sumB (bytesL (numsH h)) % 256, sumB (bytesL (numsH h)) / 256]
theorem numsH_ok {h : List Df} (p : PutOK h) : (∀ n ∈ numsH h, I64 n) ∧ (numsH h).length ≤ 30000 := by
  have p1 := p.len
  obtain ⟨q1, q2⟩ := numsT_len (h := h) fun d hd => numsD_ok p hd
  refine ⟨fun n hn => ?_, by unfold numsH; rw [List.length_cons]; omega⟩
  rcases List.mem_cons.1 hn with e | hn
  · rw [e]; exact small_i64 (by omega)
  · exact q1 n hn
theorem wire_bytes_eq {h : List Df} (p : PutOK h) : wire_bytesOf (h, ()) = some (wireB h, ()) := by
  have p1 := p.len
  obtain ⟨q1, q2⟩ := numsH_ok p
  have b1 := (numB_b8 (small_i64 (n := h.length) (by omega))).2
  have hlen := bytesL_len q1
  unfold wire_bytesOf
  rw [put_loop1 (h.length : Int) [] (small_i64 (by omega)) (by simp) (f := wire_bytesOf_l1 (h, ())) rfl]
  simp only [Option.bind_some, Sum.elim_inl, List.nil_append]
  rw [bytes_l7 p _ (by omega)]
  simp only [Option.bind_some, Sum.elim_inl]
  have e : numB (h.length : Int) ++ bytesL (h.flatMap numsD) = bytesL (numsH h) := by
    unfold numsH bytesL
    rw [List.flatMap_cons]
  rw [e, wire_sum_eq (bytesL_b8 q1) (by omega)]
  obtain ⟨s1, s2⟩ := sumB_rng (l := bytesL (numsH h))
  have e1 : IntKind.u8.wrap (sumB (bytesL (numsH h))) = sumB (bytesL (numsH h)) % 256 := wrap_u8 _
  have e2 : IntKind.u8.wrap (shrI .i64 (sumB (bytesL (numsH h))) 8) = sumB (bytesL (numsH h)) / 256 := by
    show IntKind.u8.wrap (Int.fdiv (sumB (bytesL (numsH h))) (2 ^ (min (8 : Int).toNat 64))) = _
    rw [show (2 : Int) ^ (min (8 : Int).toNat 64) = 256 by decide, Int.fdiv_eq_ediv_of_nonneg _ (by decide), wrap_u8]
    omega
  simp only [Option.bind_some, e1, e2]
  rw [room1w (by simp only [List.length_cons, List.length_nil]; omega)]
  rfl
/-! The document's. -/
theorem ref_l1 (v : Df) (acc : List Int) (hl : v.1.length ≤ 1000) (ha : acc.length ≤ 1000000) : loopM (ref_WireBytes_l1 v) (acc, (0 : Int), ()) = some (.inl (acc ++ v.1, ())) := by
  refine loopM_sim v.1.length (fun i => (acc ++ v.1.take i, (i : Int), ())) _ (fun i hi => ?_) ?_ (by simp)
  · unfold ref_WireBytes_l1
    simp only [dcT (show (i : Int) < (v.1.length : Int) by omega), cond_true, getI_nat, List.getElem?_eq_getElem hi, Option.bind_some, wrapS (show i < 9223372036854775807 by omega)]
    rw [room_ok (show (acc ++ v.1.take i).length + ([v.1[i]] : List Int).length ≤ 140737488355328 by rw [List.length_append, List.length_take, List.length_singleton]; omega) (show ((acc ++ v.1.take i).length + ([v.1[i]] : List Int).length) * 8 ≤ 140737488355328 by rw [List.length_append, List.length_take, List.length_singleton]; omega), List.take_succ_eq_append_getElem hi, ← List.append_assoc]
    rfl
  · unfold ref_WireBytes_l1
    simp only [dcF (show ¬ (v.1.length : Int) < (v.1.length : Int) by omega), cond_false, List.take_length]
theorem ref_l2 (v : Df) (acc : List Int) (hl : v.2.1.length ≤ 1000) (ha : acc.length ≤ 1000000) : loopM (ref_WireBytes_l2 v) (acc, (0 : Int), ()) = some (.inl (acc ++ v.2.1.flatMap rowN, ())) := by
  refine loopM_sim v.2.1.length (fun i => (acc ++ (v.2.1.take i).flatMap rowN, (i : Int), ())) _ (fun i hi => ?_) ?_ (by simp)
  · have hq := rowN_len (v.2.1.take i)
    rw [List.length_take] at hq
    have hA : (acc ++ (v.2.1.take i).flatMap rowN).length ≤ 1004000 := by rw [List.length_append]; omega
    rw [List.take_succ_eq_append_getElem hi, List.flatMap_append, ← List.append_assoc]
    generalize acc ++ (v.2.1.take i).flatMap rowN = A at hA
    have r8 : ∀ n : Nat, n ≤ 2000000 → roomOk n 8 = true := fun n hn => room_ok (by omega) (by omega)
    unfold ref_WireBytes_l2
    simp only [dcT (show (i : Int) < (v.2.1.length : Int) by omega), cond_true, getI_nat, List.getElem?_eq_getElem hi, Option.bind_some, wrapS (show i < 9223372036854775807 by omega)]
    rw [r8 _ (by simp only [List.length_cons, List.length_nil]; omega), r8 _ (by simp only [List.length_append, List.length_cons, List.length_nil]; omega), r8 _ (by simp only [List.length_append, List.length_cons, List.length_nil]; omega)]
    simp [rowN]
  · unfold ref_WireBytes_l2
    simp only [dcF (show ¬ (v.2.1.length : Int) < (v.2.1.length : Int) by omega), cond_false, List.take_length]
theorem ref_l3 {h : List Df} (p : PutOK h) : loopM (ref_WireBytes_l3 (h, ())) ([(h.length : Int)], (0 : Int), ()) = some (.inl (numsH h, ())) := by
  have p1 := p.len
  refine loopM_sim h.length (fun i => ([(h.length : Int)] ++ (h.take i).flatMap numsD, (i : Int), ())) _ (fun i hi => ?_) ?_ (by simp)
  · have hd := List.getElem_mem hi
    have h1 := p.dim _ hd
    have h2 := len_le_num hd
    have h3 := p.num
    obtain ⟨q1, q2⟩ := numsT_len (h := h.take i) fun d hd => numsD_ok p (List.mem_of_mem_take hd)
    rw [List.length_take] at q2
    rw [List.take_succ_eq_append_getElem hi, List.flatMap_append, ← List.append_assoc]
    have hA : ([(h.length : Int)] ++ (h.take i).flatMap numsD).length ≤ 30000 := by rw [List.length_append, List.length_singleton]; omega
    generalize [(h.length : Int)] ++ (h.take i).flatMap numsD = A at hA
    have r8 : ∀ n : Nat, n ≤ 2000000 → roomOk n 8 = true := fun n hn => room_ok (by omega) (by omega)
    unfold ref_WireBytes_l3
    simp only [dcT (show (i : Int) < (h.length : Int) by omega), cond_true, getI_nat, List.getElem?_eq_getElem hi, Option.bind_some, wrapS (show i < 9223372036854775807 by omega)]
    rw [r8 _ (by simp only [List.length_cons, List.length_nil]; omega)]
    simp only [Bool.and_self, cond_true]
    rw [ref_l1 _ _ (by omega) (by rw [List.length_append, List.length_singleton]; omega)]
    simp only [Option.bind_some, Sum.elim_inl]
    rw [r8 _ (by simp only [List.length_append, List.length_cons, List.length_nil]; omega)]
    simp only [Bool.and_self, cond_true]
    rw [ref_l2 _ _ (by omega) (by simp only [List.length_append, List.length_cons, List.length_nil]; omega)]
    simp only [Option.bind_some, Sum.elim_inl]
    rw [List.flatMap_singleton, numsD_eq]
    simp only [List.append_assoc]
  · unfold ref_WireBytes_l3
    simp only [dcF (show ¬ (h.length : Int) < (h.length : Int) by omega), cond_false, List.take_length]
    rfl
theorem ref_l4 {L : List Int} (hL : ∀ n ∈ L, I64 n) (hl : L.length ≤ 1000000) : loopM (ref_WireBytes_l4 (L, ())) (([] : List Int), (0 : Int), ()) = some (.inl (bytesL L, ())) := by
  have h := nums_loop (f := ref_WireBytes_l4 (L, ())) L [] hL (fun i hi b hb => by
    have hm := hL _ (List.getElem_mem hi)
    have hl2 := (numB_b8 hm).2
    rw [List.length_nil] at hb
    unfold ref_WireBytes_l4
    simp only [dcT (show (i : Int) < (L.length : Int) by omega), cond_true, inB_T hi, Int.toNat_natCast, List.getElem?_eq_getElem hi, Option.bind_some, ref_num_eq hm, wrapS (show i < 9223372036854775807 by omega)]
    rw [room1w (by omega)]
    rfl) (fun b => by
    unfold ref_WireBytes_l4
    simp only [dcF (show ¬ (L.length : Int) < (L.length : Int) by omega), cond_false])
  rw [h, List.nil_append]
theorem ref_bytes_eq {h : List Df} (p : PutOK h) : ref_WireBytes (h, ()) = some (wireB h, ()) := by
  obtain ⟨q1, q2⟩ := numsH_ok p
  have hlen := bytesL_len q1
  unfold ref_WireBytes
  rw [ref_l3 p]
  simp only [Option.bind_some, Sum.elim_inl]
  rw [ref_l4 q1 (by omega)]
  simp only [Option.bind_some, Sum.elim_inl]
  rw [ref_sum_eq (bytesL_b8 q1) (by omega)]
  obtain ⟨s1, s2⟩ := sumB_rng (l := bytesL (numsH h))
  have e1 : IntKind.u8.wrap ((sumB (bytesL (numsH h))).tmod 256) = sumB (bytesL (numsH h)) % 256 := by
    rw [wrap_u8, Int.tmod_eq_emod_of_nonneg s1]; omega
  have e2 : IntKind.u8.wrap (IntKind.i64.wrap ((sumB (bytesL (numsH h))).tdiv 256)) = sumB (bytesL (numsH h)) / 256 := by
    rw [Int.tdiv_eq_ediv_of_nonneg s1, wrap64 (by omega) (by omega), wrap_u8]; omega
  simp only [Option.bind_some, e1, e2]
  rw [room1w (by simp only [List.length_cons, List.length_nil]; omega)]
  rfl
theorem bytes_same (l : List Int) (hl : l.length ≤ 1000000) : ref_Bytes (l, l, ()) = some (true, ()) := by
  unfold ref_Bytes
  rw [bneF rfl, cond_false]
  have h := loopM_for (f := ref_Bytes_l1 (l, l, ())) l.length (fun _ => none) (.inr (.inl ())) (fun i hi => by
    unfold ref_Bytes_l1
    simp only [dcT (show (i : Int) < (l.length : Int) by omega), cond_true, getI_nat, List.getElem?_eq_getElem hi, Option.bind_some, wrapS (show i < 9223372036854775807 by omega), bneF rfl, cond_false]) (by
    unfold ref_Bytes_l1
    simp only [dcF (show ¬ (l.length : Int) < (l.length : Int) by omega), cond_false])
  rw [h]
  have hf : (List.range l.length).findSome? (fun _ => (none : Option ((Bool × Unit) ⊕ (Unit ⊕ Empty)))) = none := List.findSome?_eq_none_iff.2 fun _ _ => rfl
  rw [hf]; rfl
end

section
open Go Go.Abs


/-! Bags: what is poured adds up. -/
def sumK (l : List Rw) (k : Ky) : Int := (l.map fun r => if kyOf r = k then r.2.2.1 else 0).sum
theorem sumK_cons (r : Rw) (l : List Rw) (k : Ky) : sumK (r :: l) k = (if kyOf r = k then r.2.2.1 else 0) + sumK l k := by unfold sumK; rw [List.map_cons, List.sum_cons]
theorem tot_lin (k : Ky) : ∀ (l : List Rw) (T : Ky → Int), InR (T k) → tot l T k = W (T k + sumK l k)
  | [], T, h => by
    show T k = W (T k + 0)
    rw [Int.add_zero]; exact h.symm
  | r :: l, T, h => by
    rw [sumK_cons]
    show tot l (fun j => if j = kyOf r then W (T (kyOf r) + r.2.2.1) else T j) k = _
    by_cases e : kyOf r = k
    · subst e
      rw [tot_lin (kyOf r) l _ (by simp only [if_true]; exact inR_W _)]
      simp only [if_true]
      rw [W_add, Int.add_assoc]
    · rw [tot_lin k l _ (by simp only [if_neg (Ne.symm e)]; exact h), if_neg e, Int.zero_add]
      simp only [if_neg (Ne.symm e)]
theorem bag0 (l : List Rw) : BagIs (bagOf l []) (tot l fun _ => 0) := bagOf_is l (T := fun _ => 0) ⟨List.Pairwise.nil, fun _ => rfl, fun p hp => by cases hp⟩
end

section
open Go Go.Abs


/-! Histories: of what does it stand. -/
theorem sumK_out {k : Ky} : ∀ {l : List Rw}, k ∉ l.map kyOf → sumK l k = 0
  | [], _ => rfl
  | r :: l, h => by
    rw [List.map_cons, List.mem_cons, not_or] at h
    rw [sumK_cons, if_neg (fun e => h.1 e.symm), sumK_out h.2]; rfl
theorem bag_keys {l : List Rw} {p : Ky × Int} (h : p ∈ bagOf l []) : p.1 ∈ l.map kyOf := by
  have h1 := (bag_mem (bag0 l) p).1 h
  rw [tot_lin p.1 l (fun _ => 0) (show InR 0 from W_zero)] at h1
  rcases Classical.em (p.1 ∈ l.map kyOf) with hm | hm
  · exact hm
  · rw [sumK_out hm] at h1
    exact absurd h1.2.symm h1.1
def undoB (out : List Df) (t : List Int) (R : List Rw) : Bg := bagOf (R.map (sc 1) ++ ((standB out t).map toR).map (sc (-1))) []
def undoN (out : List Df) (d : Df) : Df := (d.1, (undoB out d.1 d.2.1).map toR, ())
def undoI (S : List Df) (i : Nat) : List Df := (S.take i).foldl (fun out d => out ++ [undoN out d]) []
theorem undoI_succ {S : List Df} {i : Nat} (hi : i < S.length) : undoI S (i + 1) = undoI S i ++ [undoN (undoI S i) S[i]] := by
  unfold undoI
  rw [List.take_succ_eq_append_getElem hi, List.foldl_append]; rfl
theorem undoI_times (S : List Df) : ∀ i, i ≤ S.length → (undoI S i).map (·.1) = (S.take i).map (·.1)
  | 0, _ => rfl
  | i + 1, h => by
    rw [undoI_succ h, List.take_succ_eq_append_getElem h, List.map_append, List.map_append, undoI_times S i (by omega)]; rfl
/-- What stands at times that rise. -/
structure SOK (S : List Df) : Prop where
  len : S.length ≤ 2000
  num : numD S ≤ 300000
  chk : ∀ d ∈ S, chk d.1 = 0
  same : ∃ n, ∀ d ∈ S, d.1.length = n
  up : S.Pairwise fun a b => cmpL a.1 b.1 < 0
theorem SOK.nd {S : List Df} (s : SOK S) : (S.map (·.1)).Nodup := by
  unfold List.Nodup
  rw [List.pairwise_map]
  exact s.up.imp fun {a b} hab e => by rw [e] at hab; exact cmpL_irr _ hab
theorem fresh {S : List Df} (s : SOK S) {i : Nat} (hi : i < S.length) : S[i].1 ∉ (undoI S i).map (·.1) := by
  rw [undoI_times S i (by omega)]
  intro hm
  obtain ⟨e, he, hq⟩ := List.mem_map.1 hm
  obtain ⟨j, hj, hje⟩ := List.mem_iff_getElem.1 he
  rw [List.length_take] at hj
  rw [List.getElem_take] at hje
  have := List.pairwise_iff_getElem.1 s.up j i (by omega) hi (by omega)
  rw [hje, hq] at this
  exact cmpL_irr _ this
end

end Go.Proofs.Try
