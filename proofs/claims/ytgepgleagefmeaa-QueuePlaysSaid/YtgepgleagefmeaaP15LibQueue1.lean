/- Lemmas on functions of the program, by name: queue1. -/
import Derived.Test.YtgepgleagefmeaaP15Funs
import Derived.Test.YtgepgleagefmeaaAbsSums
namespace Go.Proofs.Try
open Go Go.Abs


/-! Rings of sixteen places. -/
abbrev T16 := Int × Int × Int × Int × Int × Int × Int × Int × Int × Int × Int × Int × Int × Int × Int × Int × Unit
abbrev RT := T16 × Int × Int × Int × Unit
abbrev Stq := Int × Int × Int × Unit
theorem roomB {n b : Nat} (h : n ≤ 200000) (hb : b ≤ 64) : roomOk n b = true := by
  unfold roomOk
  have : n * b ≤ 200000 * 64 := Nat.mul_le_mul h hb
  simp []
  omega
theorem set_get {α : Type} : ∀ {l : List α} {i : Nat} {a : α}, l[i]? = some a → l.set i a = l
  | [], i, a, h => rfl
  | b :: l, 0, a, h => by simp at h; rw [h]; rfl
  | b :: l, i + 1, a, h => by
    simp only [List.getElem?_cons_succ] at h
    rw [List.set_cons_succ, set_get h]
theorem set_mid {α : Type} (x y : α) (r : List α) : ∀ (l : List α), (l ++ x :: r).set l.length y = l ++ y :: r
  | [] => rfl
  | a :: l => by
    show a :: ((l ++ x :: r).set l.length y) = _
    rw [set_mid x y r l]; rfl
def tupB (B : List Int) : T16 := (B.getD 0 0, B.getD 1 0, B.getD 2 0, B.getD 3 0, B.getD 4 0, B.getD 5 0, B.getD 6 0, B.getD 7 0, B.getD 8 0, B.getD 9 0, B.getD 10 0, B.getD 11 0, B.getD 12 0, B.getD 13 0, B.getD 14 0, B.getD 15 0, ())
theorem sixteen {B : List Int} (h : B.length = 16) : ∃ b0 b1 b2 b3 b4 b5 b6 b7 b8 b9 b10 b11 b12 b13 b14 b15, B = [b0, b1, b2, b3, b4, b5, b6, b7, b8, b9, b10, b11, b12, b13, b14, b15] := by
  match B, h with
  | [b0, b1, b2, b3, b4, b5, b6, b7, b8, b9, b10, b11, b12, b13, b14, b15], _ => exact ⟨b0, b1, b2, b3, b4, b5, b6, b7, b8, b9, b10, b11, b12, b13, b14, b15, rfl⟩
theorem tupB_set {B : List Int} (h : B.length = 16) {k : Nat} (hk : k < 16) (v : Int) :
    ((cond (Nat.beq (0 + k) 0) v (tupB B).1, cond (Nat.beq (0 + k) 1) v (tupB B).2.1, cond (Nat.beq (0 + k) 2) v (tupB B).2.2.1, cond (Nat.beq (0 + k) 3) v (tupB B).2.2.2.1, cond (Nat.beq (0 + k) 4) v (tupB B).2.2.2.2.1, cond (Nat.beq (0 + k) 5) v (tupB B).2.2.2.2.2.1, cond (Nat.beq (0 + k) 6) v (tupB B).2.2.2.2.2.2.1, cond (Nat.beq (0 + k) 7) v (tupB B).2.2.2.2.2.2.2.1, cond (Nat.beq (0 + k) 8) v (tupB B).2.2.2.2.2.2.2.2.1, cond (Nat.beq (0 + k) 9) v (tupB B).2.2.2.2.2.2.2.2.2.1, cond (Nat.beq (0 + k) 10) v (tupB B).2.2.2.2.2.2.2.2.2.2.1, cond (Nat.beq (0 + k) 11) v (tupB B).2.2.2.2.2.2.2.2.2.2.2.1, cond (Nat.beq (0 + k) 12) v (tupB B).2.2.2.2.2.2.2.2.2.2.2.2.1, cond (Nat.beq (0 + k) 13) v (tupB B).2.2.2.2.2.2.2.2.2.2.2.2.2.1, cond (Nat.beq (0 + k) 14) v (tupB B).2.2.2.2.2.2.2.2.2.2.2.2.2.2.1, cond (Nat.beq (0 + k) 15) v (tupB B).2.2.2.2.2.2.2.2.2.2.2.2.2.2.2.1, ()) : T16) = tupB (B.set k v) := by
  obtain ⟨b0, b1, b2, b3, b4, b5, b6, b7, b8, b9, b10, b11, b12, b13, b14, b15, rfl⟩ := sixteen h
  have : k = 0 ∨ k = 1 ∨ k = 2 ∨ k = 3 ∨ k = 4 ∨ k = 5 ∨ k = 6 ∨ k = 7 ∨ k = 8 ∨ k = 9 ∨ k = 10 ∨ k = 11 ∨ k = 12 ∨ k = 13 ∨ k = 14 ∨ k = 15 := by omega
  rcases this with rfl | rfl | rfl | rfl | rfl | rfl | rfl | rfl | rfl | rfl | rfl | rfl | rfl | rfl | rfl | rfl <;> rfl
theorem tupB_get {B : List Int} (h : B.length = 16) {k : Nat} (hk : k < 16) (f n c : Int) :
    ([(tupB B).1, (tupB B).2.1, (tupB B).2.2.1, (tupB B).2.2.2.1, (tupB B).2.2.2.2.1, (tupB B).2.2.2.2.2.1, (tupB B).2.2.2.2.2.2.1, (tupB B).2.2.2.2.2.2.2.1, (tupB B).2.2.2.2.2.2.2.2.1, (tupB B).2.2.2.2.2.2.2.2.2.1, (tupB B).2.2.2.2.2.2.2.2.2.2.1, (tupB B).2.2.2.2.2.2.2.2.2.2.2.1, (tupB B).2.2.2.2.2.2.2.2.2.2.2.2.1, (tupB B).2.2.2.2.2.2.2.2.2.2.2.2.2.1, (tupB B).2.2.2.2.2.2.2.2.2.2.2.2.2.2.1, (tupB B).2.2.2.2.2.2.2.2.2.2.2.2.2.2.2.1, f, n, c] : List Int)[0 + k]? = some (B.getD k 0) := by
  obtain ⟨b0, b1, b2, b3, b4, b5, b6, b7, b8, b9, b10, b11, b12, b13, b14, b15, rfl⟩ := sixteen h
  have : k = 0 ∨ k = 1 ∨ k = 2 ∨ k = 3 ∨ k = 4 ∨ k = 5 ∨ k = 6 ∨ k = 7 ∨ k = 8 ∨ k = 9 ∨ k = 10 ∨ k = 11 ∨ k = 12 ∨ k = 13 ∨ k = 14 ∨ k = 15 := by omega
  rcases this with rfl | rfl | rfl | rfl | rfl | rfl | rfl | rfl | rfl | rfl | rfl | rfl | rfl | rfl | rfl | rfl <;> rfl
theorem beq_no {k j : Nat} (hk : k < 16) (hj : 16 ≤ j) : Nat.beq (0 + k) j = false := by
  cases hq : Nat.beq (0 + k) j with
  | false => rfl
  | true => have := Nat.eq_of_beq_eq_true hq; omega
structure Rg where
  B : List Int
  f : Nat
  n : Nat
def rt (c : Nat) (r : Rg) : RT := (tupB r.B, (r.f : Int), (r.n : Int), (c : Int), ())
def cont (r : Rg) : List Int := (List.range r.n).map fun i => r.B.getD ((r.f + i) % 16) 0
structure RgOK (c : Nat) (r : Rg) : Prop where
  b : r.B.length = 16
  f : r.f < 16
  n : r.n ≤ c
theorem cont_length (r : Rg) : (cont r).length = r.n := by unfold cont; rw [List.length_map, List.length_range]
def put (r : Rg) (v : Int) : Rg := { B := r.B.set ((r.f + r.n) % 16) v, f := r.f, n := r.n + 1 }
def tak (r : Rg) : Rg := { B := r.B, f := (r.f + 1) % 16, n := r.n - 1 }
theorem getD_set_self {B : List Int} {k : Nat} (h : k < B.length) (v : Int) : (B.set k v).getD k 0 = v := by
  rw [List.getD_eq_getElem?_getD, List.getElem?_set_self h]; rfl
theorem getD_set_ne {B : List Int} {k j : Nat} (h : k ≠ j) (v : Int) : (B.set k v).getD j 0 = B.getD j 0 := by
  rw [List.getD_eq_getElem?_getD, List.getElem?_set_ne h, ← List.getD_eq_getElem?_getD]
theorem cont_put {r : Rg} (hb : r.B.length = 16) (hn : r.n < 16) (v : Int) : cont (put r v) = cont r ++ [v] := by
  unfold cont put
  simp only [List.range_succ, List.map_append, List.map_cons, List.map_nil]
  congr 1
  · refine List.map_congr_left fun i hi => ?_
    have := List.mem_range.1 hi
    exact getD_set_ne (by omega) v
  · rw [getD_set_self (by omega)]
theorem cont_tak {r : Rg} (hf : r.f < 16) (hn : 0 < r.n) : cont r = r.B.getD r.f 0 :: cont (tak r) := by
  unfold cont tak
  have e : r.n = (r.n - 1) + 1 := by omega
  conv => lhs; rw [e, List.range_succ_eq_map, List.map_cons, List.map_map]
  congr 1
  · rw [Nat.add_zero, Nat.mod_eq_of_lt hf]
  · refine List.map_congr_left fun i _ => ?_
    show r.B.getD ((r.f + (i + 1)) % 16) 0 = r.B.getD (((r.f + 1) % 16 + i) % 16) 0
    congr 1
    omega
theorem put_ok {c : Nat} {r : Rg} (h : RgOK c r) (hn : r.n < c) (v : Int) : RgOK c (put r v) := ⟨by unfold put; simp [h.b], h.f, hn⟩
theorem tak_ok {c : Nat} {r : Rg} (h : RgOK c r) : RgOK c (tak r) := ⟨h.b, Nat.mod_lt _ (by omega), Nat.le_trans (Nat.sub_le _ _) h.n⟩

structure Qst where
  C : List Int
  V : List Int
  A : List Rg
def rg0 : Rg := ⟨List.replicate 16 0, 0, 0⟩
def qstp (n c : Nat) (e : Stq) (s : Qst) : Qst :=
  if e.1 = 1 ∨ e.1 = 2 then (if 0 ≤ e.2.1 ∧ e.2.1 < n then
    (if e.1 = 1 then (if ((s.A[e.2.1.toNat]?).getD rg0).n = c then { C := s.C ++ [14], V := s.V ++ [0], A := s.A } else { C := s.C ++ [0], V := s.V ++ [0], A := s.A.set e.2.1.toNat (put ((s.A[e.2.1.toNat]?).getD rg0) e.2.2.1) })
     else (if ((s.A[e.2.1.toNat]?).getD rg0).n = 0 then { C := s.C ++ [5], V := s.V ++ [0], A := s.A } else { C := s.C ++ [0], V := s.V ++ [((s.A[e.2.1.toNat]?).getD rg0).B.getD ((s.A[e.2.1.toNat]?).getD rg0).f 0], A := s.A.set e.2.1.toNat (tak ((s.A[e.2.1.toNat]?).getD rg0)) }))
    else { C := s.C ++ [2], V := s.V ++ [0], A := s.A })
  else { C := s.C ++ [17], V := s.V ++ [0], A := s.A }
structure QInv (n c i : Nat) (s : Qst) : Prop where
  len : s.A.length = n
  cl : s.C.length = i
  vl : s.V.length = i
  run : ∀ r ∈ s.A, RgOK c r
theorem rg0_ok (c : Nat) : RgOK c rg0 := ⟨rfl, by decide, Nat.zero_le _⟩
theorem q_get {n c i : Nat} {s : Qst} (h : QInv n c i s) (p : Nat) : RgOK c ((s.A[p]?).getD rg0) := by
  cases hp : s.A[p]? with
  | none => exact rg0_ok c
  | some l => exact h.run l (List.mem_of_getElem? hp)
theorem q_set {c : Nat} {A : List Rg} (h : ∀ r ∈ A, RgOK c r) (p : Nat) {a : Rg} (ha : RgOK c a) : ∀ r ∈ A.set p a, RgOK c r := fun r hr => by
  rcases List.mem_or_eq_of_mem_set hr with hr | hr
  · exact h r hr
  · rw [hr]; exact ha
theorem q_step {n c i : Nat} {s : Qst} (h : QInv n c i s) (e : Stq) : QInv n c (i + 1) (qstp n c e s) := by
  have hc : ∀ v, (s.C ++ [v]).length = i + 1 := fun v => by rw [List.length_append, h.cl]; rfl
  have hv : ∀ v, (s.V ++ [v]).length = i + 1 := fun v => by rw [List.length_append, h.vl]; rfl
  have hg := q_get h e.2.1.toNat
  unfold qstp
  split
  · split
    · split
      · split
        · exact ⟨h.len, hc _, hv _, h.run⟩
        · rename_i hn
          have := hg.n
          exact ⟨by simpa using h.len, hc _, hv _, q_set h.run _ (put_ok hg (by omega) _)⟩
      · split
        · exact ⟨h.len, hc _, hv _, h.run⟩
        · exact ⟨by simpa using h.len, hc _, hv _, q_set h.run _ (tak_ok hg)⟩
    · exact ⟨h.len, hc _, hv _, h.run⟩
  · exact ⟨h.len, hc _, hv _, h.run⟩
def qsts (n c : Nat) (E : List Stq) : Nat → Qst
  | 0 => { C := [], V := [], A := List.replicate n rg0 }
  | i + 1 => match E[i]? with
    | some e => qstp n c e (qsts n c E i)
    | none => qsts n c E i
theorem qsts_inv (n c : Nat) (E : List Stq) : ∀ i, i ≤ E.length → QInv n c i (qsts n c E i)
  | 0, _ => ⟨List.length_replicate, rfl, rfl, fun l hl => by rw [(List.mem_replicate.1 hl).2]; exact rg0_ok c⟩
  | i + 1, h => by
    have hi : i < E.length := h
    have ih := qsts_inv n c E i (by omega)
    unfold qsts
    rw [List.getElem?_eq_getElem hi]
    exact q_step ih _

end Go.Proofs.Try
