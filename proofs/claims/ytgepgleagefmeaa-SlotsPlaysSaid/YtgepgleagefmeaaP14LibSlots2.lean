/- Lemmas on functions of the program, by name: slots2. -/
import Derived.Test.YtgepgleagefmeaaP14Funs
import Derived.Test.YtgepgleagefmeaaAbsSums
import Derived.Test.YtgepgleagefmeaaP14LibSlots1
namespace Go.Proofs.Try
open Go Go.Abs


/-! Lanes: what the two functions come to. -/
theorem wrapW {x : Int} (h : -1000000 ≤ x ∧ x ≤ 1000000) : IntKind.i64.wrap x = x := wrap64 (by omega) (by omega)
theorem play_step {n m : Nat} {S : List Int} {E : List Stp} (hm : S.length = m) (h1m : 1 ≤ m) (hm16 : m ≤ 16) (hS : ∀ j (hj : j < m), 0 ≤ (S[j]?).getD 0 ∧ (S[j]?).getD 0 < n) (hE : E.length ≤ 60) {i : Nat} (hi : i < E.length) {s : Pst} (h : Inv n i s) :
    slots_Play_l1 ((n : Int), S, E, ()) (S, ()) (s.C, s.O, (i : Int), s.A, (((s.O.length % m : Nat) : Int), ()), ()) =
      some (.inl ((stp n m S E[i] s).C, (stp n m S E[i] s).O, ((i + 1 : Nat) : Int), (stp n m S E[i] s).A, ((((stp n m S E[i] s).O.length % m : Nat) : Int), ()), ())) := by
  have hc := h.c
  have ho := h.o
  have hA := h.len
  have r8 : ∀ v : Int, (true && roomOk (s.C.length + ([v]).length) 8 && true && true) = true := fun v => by
    rw [roomB (show s.C.length + ([v]).length ≤ 200000 by simp; omega) (by omega)]; rfl
  have r24 : ∀ v : Ot, (true && roomOk (s.O.length + ([v]).length) 24 && true && true) = true := fun v => by
    rw [roomB (show s.O.length + ([v]).length ≤ 200000 by simp; omega) (by omega)]; rfl
  unfold slots_Play_l1
  generalize hee : E[i] = e
  simp only [dcT (show (i : Int) < (E.length : Int) by omega), cond_true, getI_nat, List.getElem?_eq_getElem hi, hee, Option.bind_some, wrapS (show i < 9223372036854775807 by omega)]
  unfold stp
  by_cases k1 : e.1 = 1
  · rw [beqT k1, cond_true, if_pos k1]
    by_cases hb : 0 ≤ e.2.1 ∧ e.2.1 < n ∧ 1 ≤ e.2.2.1 ∧ e.2.2.1 ≤ 1000
    · obtain ⟨b1, b2, b3, b4⟩ := hb
      rw [if_pos ⟨b1, b2, b3, b4⟩]
      obtain ⟨p, hp⟩ : ∃ p : Nat, e.2.1 = (p : Int) := ⟨e.2.1.toNat, by omega⟩
      have hpn : p < s.A.length := by omega
      have hg : s.A[p]? = some ((s.A[p]?).getD []) := by rw [List.getElem?_eq_getElem hpn]; rfl
      have hl := (get_run h p).1
      rw [dcF (show ¬ e.2.1 < 0 by omega), dcF (show ¬ e.2.1 ≥ n by omega), dcF (show ¬ e.2.2.1 < 1 by omega), dcF (show ¬ e.2.2.1 > 1000 by omega)]
      simp only [cond_false, hp, inB_T hpn, cond_true, Int.toNat_natCast]
      rw [hg]
      simp only [Option.bind_some, Option.getD_some, Nat.beq_refl, cond_true, r8]
      rw [roomB (show ((s.A[p]?).getD []).length + ([(e.2.2.1, e.2.2.2.1, ())] : List Rn).length ≤ 200000 by simp; omega) (by omega)]
      rfl
    · rw [if_neg hb]
      by_cases a1 : e.2.1 < 0
      · rw [dcT a1, cond_true, r8, cond_true]
      · by_cases a2 : e.2.1 ≥ n
        · rw [dcF a1, dcT a2, cond_false, cond_true, r8, cond_true]
        · by_cases a3 : e.2.2.1 < 1
          · rw [dcF a1, dcF a2, dcT a3, cond_false, cond_false, cond_true, r8, cond_true]
          · rw [dcF a1, dcF a2, dcF a3, dcT (show e.2.2.1 > 1000 by omega), cond_false, cond_false, cond_false, cond_true, r8, cond_true]
  · rw [beqF k1, cond_false, if_neg k1]
    by_cases k2 : e.1 = 2
    · rw [beqT k2, cond_true, if_pos k2]
      have hw : s.O.length % m < m := Nat.mod_lt _ (by omega)
      obtain ⟨q1, q2⟩ := hS _ hw
      have hwS : s.O.length % m < S.length := by omega
      have hgS : S[s.O.length % m]? = some ((S[s.O.length % m]?).getD 0) := by rw [List.getElem?_eq_getElem hwS]; rfl
      generalize hq : (S[s.O.length % m]?).getD 0 = q at q1 q2 hgS ⊢
      obtain ⟨p, rfl⟩ : ∃ p : Nat, q = (p : Int) := ⟨q.toNat, by omega⟩
      have hpn : p < s.A.length := by omega
      have hg : s.A[p]? = some ((s.A[p]?).getD []) := by rw [List.getElem?_eq_getElem hpn]; rfl
      have hrun := get_run h p
      have hmod : ∀ v : Ot, ((s.O ++ [v]).length % m) = if s.O.length % m + 1 = m then 0 else s.O.length % m + 1 := fun v => by
        rw [List.length_append, List.length_cons, List.length_nil, Nat.zero_add, Nat.add_mod]
        by_cases hm1 : m = 1
        · subst hm1; simp [Nat.mod_one]
        · rw [Nat.mod_eq_of_lt (show 1 < m by omega)]
          by_cases he : s.O.length % m + 1 = m
          · rw [if_pos he, he, Nat.mod_self]
          · rw [if_neg he, Nat.mod_eq_of_lt (by omega)]
      have hwrap : IntKind.i64.wrap (((s.O.length % m : Nat) : Int) + 1) = ((s.O.length % m + 1 : Nat) : Int) := wrapS (by omega)
      simp only [inB_T hwS, cond_true, Int.toNat_natCast, hgS, Option.bind_some, hwrap, inB_T hpn]
      rw [hg]
      simp only [Option.bind_some]
      generalize hL : (s.A[p]?).getD [] = L at hrun hg ⊢
      have key : ∀ w : Int, (cond (decide ((L.length : Int) > (0 : Int))) (cond (inB (0 : Int) L.length) ((L[(0 : Int).toNat]?).bind fun v8 => (cond (inB (0 : Int) L.length) ((L[(0 : Int).toNat]?).bind fun v9 => (cond (inB (0 : Int) L.length) ((L[(0 : Int).toNat]?).bind fun v10 => (cond (inB (0 : Int) (L.set ((0 : Int).toNat) ((IntKind.i64.wrap (v9.1 - (1 : Int))), v10.2.1, ())).length) (((L.set ((0 : Int).toNat) ((IntKind.i64.wrap (v9.1 - (1 : Int))), v10.2.1, ()))[(0 : Int).toNat]?).bind fun v11 => (cond (v11.1 == (0 : Int)) (cond (true && decide (0 ≤ (1 : Int)) && decide ((1 : Int) ≤ (L.set ((0 : Int).toNat) ((IntKind.i64.wrap (v9.1 - (1 : Int))), v10.2.1, ())).length)) ((some L).bind fun _ => (cond (Nat.beq p p) (cond (true && roomOk (s.O.length + ([((p : Int), v8.2.1, false, ())]).length) 24 && true && true) (cond (true && roomOk (s.C.length + ([(0 : Int)]).length) 8 && true && true) (some (Sum.inl ((s.C ++ [(0 : Int)]), (s.O ++ [((p : Int), v8.2.1, false, ())]), ((i + 1 : Nat) : Int), (s.A.set p ((L.set ((0 : Int).toNat) ((IntKind.i64.wrap (v9.1 - (1 : Int))), v10.2.1, ())).drop (1 : Int).toNat)), (w, ()), ()))) none) none) none)) none) (cond (true && roomOk (s.O.length + ([((p : Int), v8.2.1, false, ())]).length) 24 && true && true) (cond (true && roomOk (s.C.length + ([(0 : Int)]).length) 8 && true && true) (some (Sum.inl ((s.C ++ [(0 : Int)]), (s.O ++ [((p : Int), v8.2.1, false, ())]), ((i + 1 : Nat) : Int), (s.A.set p (L.set ((0 : Int).toNat) ((IntKind.i64.wrap (v9.1 - (1 : Int))), v10.2.1, ()))), (w, ()), ()))) none) none))) none)) none)) none)) none) (cond (true && roomOk (s.O.length + ([((p : Int), (0 : Int), true, ())]).length) 24 && true && true) (cond (true && roomOk (s.C.length + ([(0 : Int)]).length) 8 && true && true) (some (Sum.inl ((s.C ++ [(0 : Int)]), (s.O ++ [((p : Int), (0 : Int), true, ())]), ((i + 1 : Nat) : Int), (s.A.set p L), (w, ()), ()))) none) none) : Option ((List Int × List Ot × Int × List (List Rn) × (Int × Unit) × Unit) ⊕ ((List Int × List Ot × List (List Rn) × (Int × Unit) × Unit) ⊕ Empty))) =
          some (Sum.inl (match L with
            | [] => (s.C ++ [(0 : Int)], s.O ++ [((p : Int), (0 : Int), true, ())], ((i + 1 : Nat) : Int), s.A, (w, ()), ())
            | r :: l => (s.C ++ [(0 : Int)], s.O ++ [((p : Int), r.2.1, false, ())], ((i + 1 : Nat) : Int), s.A.set p (dec r l), (w, ()), ()))) := by
        intro w
        cases L with
        | nil =>
          rw [dcF (show ¬ (([] : List Rn).length : Int) > 0 by simp), cond_false, r24, cond_true, r8, cond_true, set_get hg]
        | cons r l =>
          have hr := hrun.2 r List.mem_cons_self
          unfold runOK at hr
          have hwr : IntKind.i64.wrap (r.1 - 1) = r.1 - 1 := wrapW (by omega)
          have h0 : inB (0 : Int) (r :: l).length = true := inB_T (i := 0) (by simp)
          have h0' : ∀ x : Rn, inB (0 : Int) (x :: l).length = true := fun x => inB_T (i := 0) (by simp)
          rw [dcT (show ((r :: l).length : Int) > 0 by simp only [List.length_cons]; omega), cond_true, h0, cond_true]
          have e0 : (r :: l)[(0 : Int).toNat]? = some r := rfl
          have es : ∀ x : Rn, (r :: l).set ((0 : Int).toNat) x = x :: l := fun x => rfl
          have ex : ∀ x : Rn, (x :: l)[(0 : Int).toNat]? = some x := fun x => rfl
          simp only [e0, Option.bind_some, cond_true, es, h0', ex, hwr, r24, r8, Nat.beq_refl]
          unfold dec
          by_cases hk : r.1 = 1
          · rw [beqT (show r.1 - 1 = 0 by omega), cond_true, if_pos hk]
            have hd : (true && decide (0 ≤ (1 : Int)) && decide ((1 : Int) ≤ (((r.1 - 1, r.2.1, ()) : Rn) :: l).length)) = true := by
              rw [dcT (show (1 : Int) ≤ (((r.1 - 1, r.2.1, ()) : Rn) :: l).length by simp only [List.length_cons]; omega)]; rfl
            rw [hd, cond_true]; rfl
          · rw [beqF (show r.1 - 1 ≠ 0 by omega), cond_false, if_neg hk]
      by_cases he : s.O.length % m + 1 = m
      · rw [beqT (show ((s.O.length % m + 1 : Nat) : Int) = (S.length : Int) by omega), cond_true]
        refine (key 0).trans ?_
        cases L with
        | nil => simp only [Option.getD_some, hmod, if_pos he]; rfl
        | cons r l => simp only [Option.getD_some, hmod, if_pos he]; rfl
      · rw [beqF (show ((s.O.length % m + 1 : Nat) : Int) ≠ (S.length : Int) by omega), cond_false]
        refine (key ((s.O.length % m + 1 : Nat) : Int)).trans ?_
        cases L with
        | nil => simp only [Option.getD_some, hmod, if_neg he]
        | cons r l => simp only [Option.getD_some, hmod, if_neg he]
    · rw [beqF k2, cond_false, if_neg k2, r8, cond_true]

end Go.Proofs.Try
