/- Lemmas on functions of the program, by name: slots1. -/
import Derived.Test.YtgepgleagefmeaaP14Funs
import Derived.Test.YtgepgleagefmeaaAbsSums
namespace Go.Proofs.Try
open Go Go.Abs


/-! Lanes of runs. -/
abbrev Rn := Int × Int × Unit
abbrev Ot := Int × Int × Bool × Unit
abbrev Stp := Int × Int × Int × Int × Unit
theorem roomB {n b : Nat} (h : n ≤ 200000) (hb : b ≤ 64) : roomOk n b = true := by
  unfold roomOk
  have : n * b ≤ 200000 * 64 := Nat.mul_le_mul h hb
  simp []
  omega
theorem set_get {α : Type} : ∀ {l : List α} {i : Nat} {a : α}, l[i]? = some a → l.set i a = l
  | [], i, a, h => rfl
  | b :: l, 0, a, h => by simp at h; rw [h]; rfl
  | b :: l, i + 1, a, h => by
    simp only [List.getElem?_cons_succ] at h
    rw [List.set_cons_succ, set_get h]
def flatL (l : List Rn) : List Int := l.flatMap fun r => List.replicate r.1.toNat r.2.1
def runOK (r : Rn) : Prop := 1 ≤ r.1 ∧ r.1 ≤ 1000
theorem flatL_length : ∀ {l : List Rn}, (∀ r ∈ l, runOK r) → (flatL l).length ≤ 1000 * l.length
  | [], _ => by simp [flatL]
  | r :: l, h => by
    have h1 := flatL_length fun q hq => h q (List.mem_cons_of_mem _ hq)
    have h2 := (h r List.mem_cons_self).2
    unfold flatL at h1 ⊢
    rw [List.flatMap_cons, List.length_append, List.length_replicate, List.length_cons]
    omega
theorem flatL_app (l l' : List Rn) : flatL (l ++ l') = flatL l ++ flatL l' := by unfold flatL; rw [List.flatMap_append]
theorem flatL_one (r : Rn) : flatL [r] = List.replicate r.1.toNat r.2.1 := by unfold flatL; simp
theorem flatL_cons (r : Rn) (l : List Rn) : flatL (r :: l) = List.replicate r.1.toNat r.2.1 ++ flatL l := by unfold flatL; rw [List.flatMap_cons]
/-- The first of a lane goes. -/
def dec (r : Rn) (l : List Rn) : List Rn := if r.1 = 1 then l else (r.1 - 1, r.2.1, ()) :: l
theorem flat_dec {r : Rn} (h : runOK r) (l : List Rn) : flatL (r :: l) = r.2.1 :: flatL (dec r l) := by
  rw [flatL_cons]
  unfold dec
  obtain ⟨h1, h2⟩ := h
  by_cases h : r.1 = 1
  · rw [if_pos h, h]; rfl
  · rw [if_neg h, flatL_cons]
    have e : r.1.toNat = (r.1 - 1).toNat + 1 := by omega
    rw [e, List.replicate_succ]; rfl

structure Pst where
  C : List Int
  O : List Ot
  A : List (List Rn)
def stp (n m : Nat) (S : List Int) (e : Stp) (s : Pst) : Pst :=
  if e.1 = 1 then (if 0 ≤ e.2.1 ∧ e.2.1 < n ∧ 1 ≤ e.2.2.1 ∧ e.2.2.1 ≤ 1000 then { C := s.C ++ [0], O := s.O, A := s.A.set e.2.1.toNat ((s.A[e.2.1.toNat]?).getD [] ++ [(e.2.2.1, e.2.2.2.1, ())]) } else { C := s.C ++ [2], O := s.O, A := s.A })
  else if e.1 = 2 then (match (s.A[((S[s.O.length % m]?).getD 0).toNat]?).getD [] with
    | [] => { C := s.C ++ [0], O := s.O ++ [((S[s.O.length % m]?).getD 0, 0, true, ())], A := s.A }
    | r :: l => { C := s.C ++ [0], O := s.O ++ [((S[s.O.length % m]?).getD 0, r.2.1, false, ())], A := s.A.set ((S[s.O.length % m]?).getD 0).toNat (dec r l) })
  else { C := s.C ++ [17], O := s.O, A := s.A }
structure Inv (n i : Nat) (s : Pst) : Prop where
  len : s.A.length = n
  c : s.C.length = i
  o : s.O.length ≤ i
  run : ∀ l ∈ s.A, l.length ≤ i ∧ ∀ r ∈ l, runOK r
theorem inv_put {n i : Nat} {C : List Int} {O : List Ot} {A : List (List Rn)} (hl : A.length = n) (hc : C.length = i + 1) (ho : O.length ≤ i + 1) (hr : ∀ l ∈ A, l.length ≤ i ∧ ∀ r ∈ l, runOK r) (p : Nat) {a : List Rn} (ha : a.length ≤ i + 1 ∧ ∀ r ∈ a, runOK r) : Inv n (i + 1) { C := C, O := O, A := A.set p a } where
  len := by simpa using hl
  c := hc
  o := ho
  run l h := by
    rcases List.mem_or_eq_of_mem_set h with h | h
    · exact ⟨Nat.le_succ_of_le (hr l h).1, (hr l h).2⟩
    · rw [h]; exact ha
theorem inv_same {n i : Nat} {C : List Int} {O : List Ot} {A : List (List Rn)} (hl : A.length = n) (hc : C.length = i + 1) (ho : O.length ≤ i + 1) (hr : ∀ l ∈ A, l.length ≤ i ∧ ∀ r ∈ l, runOK r) : Inv n (i + 1) { C := C, O := O, A := A } where
  len := hl
  c := hc
  o := ho
  run l h := ⟨Nat.le_succ_of_le (hr l h).1, (hr l h).2⟩
theorem get_run {n i : Nat} {s : Pst} (h : Inv n i s) (p : Nat) : ((s.A[p]?).getD []).length ≤ i ∧ ∀ r ∈ (s.A[p]?).getD [], runOK r := by
  cases hp : s.A[p]? with
  | none => exact ⟨Nat.zero_le _, fun r hr => by cases hr⟩
  | some l => exact h.run l (List.mem_of_getElem? hp)
theorem inv_step {n m i : Nat} {S : List Int} {s : Pst} (h : Inv n i s) (e : Stp) : Inv n (i + 1) (stp n m S e s) := by
  unfold stp
  have hc : ∀ v, (s.C ++ [v]).length = i + 1 := fun v => by rw [List.length_append, h.c]; rfl
  have ho : ∀ v, (s.O ++ [v]).length ≤ i + 1 := fun v => by rw [List.length_append]; have := h.o; simp; omega
  split
  · split
    · rename_i hb
      refine inv_put h.len (hc _) (Nat.le_succ_of_le h.o) h.run _ ⟨?_, fun r hr => ?_⟩
      · rw [List.length_append]; have := (get_run h e.2.1.toNat).1; simp; omega
      · rcases List.mem_append.1 hr with hr | hr
        · exact (get_run h e.2.1.toNat).2 r hr
        · rw [List.mem_singleton.1 hr]; exact ⟨hb.2.2.1, hb.2.2.2⟩
    · exact inv_same h.len (hc _) (Nat.le_succ_of_le h.o) h.run
  · split
    · split
      · exact inv_same h.len (hc _) (ho _) h.run
      · rename_i r l hl
        have hg := get_run h ((S[s.O.length % m]?).getD 0).toNat
        rw [hl] at hg
        refine inv_put h.len (hc _) (ho _) h.run _ ⟨?_, fun q hq => ?_⟩
        · unfold dec; have := hg.1; split <;> simp only [List.length_cons] at * <;> omega
        · unfold dec at hq
          have h0 := hg.2 r List.mem_cons_self
          split at hq
          · exact hg.2 q (List.mem_cons_of_mem _ hq)
          · rename_i h1
            rcases List.mem_cons.1 hq with hq | hq
            · rw [hq]; unfold runOK at h0 ⊢; simp only; omega
            · exact hg.2 q (List.mem_cons_of_mem _ hq)
    · exact inv_same h.len (hc _) (Nat.le_succ_of_le h.o) h.run
def sts (n m : Nat) (S : List Int) (E : List Stp) : Nat → Pst
  | 0 => { C := [], O := [], A := List.replicate n [] }
  | i + 1 => match E[i]? with
    | some e => stp n m S e (sts n m S E i)
    | none => sts n m S E i
theorem sts_inv (n m : Nat) (S : List Int) (E : List Stp) : ∀ i, i ≤ E.length → Inv n i (sts n m S E i)
  | 0, _ => ⟨List.length_replicate, rfl, Nat.le_refl _, fun l hl => by rw [(List.mem_replicate.1 hl).2]; exact ⟨Nat.le_refl _, fun r hr => by cases hr⟩⟩
  | i + 1, h => by
    have hi : i < E.length := h
    have ih := sts_inv n m S E i (by omega)
    unfold sts
    rw [List.getElem?_eq_getElem hi]
    exact inv_step ih _

end Go.Proofs.Try
