/- Lemmas on functions of the program, by name: slots3. -/
import Derived.Test.YtgepgleagefmeaaP14Funs
import Derived.Test.YtgepgleagefmeaaAbsSums
import Derived.Test.YtgepgleagefmeaaP14LibSlots2
namespace Go.Proofs.Try
open Go Go.Abs


/-! Lanes: the reference's plays. -/
theorem refput_l1 {e : Stp} {p k : Nat} (hp : e.2.1 = (p : Int)) (hk : e.2.2.1 = (k : Int)) {B : List (List Int)} {b : List Int} (hb : B[p]? = some b) (hlen : b.length + k ≤ 199999) :
    loopM (ref_SlotsPlay_l1 e) ((0 : Int), B, ()) = some (.inl (B.set p (b ++ List.replicate k e.2.2.2.1), ())) := by
  have hpB : p < B.length := (List.getElem?_eq_some_iff.1 hb).1
  refine loopM_sim k (fun i => ((i : Int), B.set p (b ++ List.replicate i e.2.2.2.1), ())) _ (fun i hi => ?_) ?_ (by rw [List.replicate_zero, List.append_nil, set_get hb]; rfl)
  · have hg : (B.set p (b ++ List.replicate i e.2.2.2.1))[p]? = some (b ++ List.replicate i e.2.2.2.1) := List.getElem?_set_self hpB
    unfold ref_SlotsPlay_l1
    simp only [hp, hk, dcT (show (i : Int) < (k : Int) by omega), cond_true, List.length_set, inB_T hpB, Int.toNat_natCast, hg, Option.bind_some, Nat.beq_refl, wrapS (show i < 9223372036854775807 by omega), List.set_set]
    rw [roomB (show (b ++ List.replicate i e.2.2.2.1).length + ([e.2.2.2.1] : List Int).length ≤ 200000 by simp; omega) (by omega), List.append_assoc, ← List.replicate_succ']
    rfl
  · unfold ref_SlotsPlay_l1
    simp only [hk, dcF (show ¬ (k : Int) < (k : Int) by omega), cond_false]

theorem ref_step {n m : Nat} {S : List Int} {E : List Stp} (hm : S.length = m) (h1m : 1 ≤ m) (hS : ∀ j (hj : j < m), 0 ≤ (S[j]?).getD 0 ∧ (S[j]?).getD 0 < n) (hE : E.length ≤ 60) {i : Nat} (hi : i < E.length) {s : Pst} (h : Inv n i s) :
    ref_SlotsPlay_l2 (S, E, (n : Int), ()) (s.C, s.O, (i : Int), s.A.map flatL, ()) =
      some (.inl ((stp n m S E[i] s).C, (stp n m S E[i] s).O, ((i + 1 : Nat) : Int), (stp n m S E[i] s).A.map flatL, ())) := by
  have hc := h.c
  have ho := h.o
  have hA := h.len
  have r8 : ∀ v : Int, (true && roomOk (s.C.length + ([v]).length) 8 && true && true) = true := fun v => by
    rw [roomB (show s.C.length + ([v]).length ≤ 200000 by simp; omega) (by omega)]; rfl
  have r24 : ∀ v : Ot, (true && roomOk (s.O.length + ([v]).length) 24 && true && true) = true := fun v => by
    rw [roomB (show s.O.length + ([v]).length ≤ 200000 by simp; omega) (by omega)]; rfl
  unfold ref_SlotsPlay_l2
  generalize hee : E[i] = e
  simp only [dcT (show (i : Int) < (E.length : Int) by omega), cond_true, getI_nat, List.getElem?_eq_getElem hi, hee, Option.bind_some, wrapS (show i < 9223372036854775807 by omega)]
  unfold stp
  have hmapg : ∀ p : Nat, p < s.A.length → (s.A.map flatL)[p]? = some (flatL ((s.A[p]?).getD [])) := fun p hp => by
    rw [List.getElem?_map, List.getElem?_eq_getElem hp]; rfl
  by_cases k1 : e.1 = 1
  · rw [beqT k1, cond_true, if_pos k1]
    by_cases hb : 0 ≤ e.2.1 ∧ e.2.1 < n ∧ 1 ≤ e.2.2.1 ∧ e.2.2.1 ≤ 1000
    · obtain ⟨b1, b2, b3, b4⟩ := hb
      rw [if_pos ⟨b1, b2, b3, b4⟩]
      obtain ⟨p, hp⟩ : ∃ p : Nat, e.2.1 = (p : Int) := ⟨e.2.1.toNat, by omega⟩
      obtain ⟨k, hk⟩ : ∃ k : Nat, e.2.2.1 = (k : Int) := ⟨e.2.2.1.toNat, by omega⟩
      have hpn : p < s.A.length := by omega
      have hrun := get_run h p
      have hfl := flatL_length hrun.2
      rw [dcF (show ¬ e.2.1 < 0 by omega), dcF (show ¬ e.2.1 ≥ n by omega), dcF (show ¬ e.2.2.1 < 1 by omega), dcF (show ¬ e.2.2.1 > 1000 by omega)]
      simp only [cond_false]
      rw [refput_l1 hp hk (hmapg p hpn) (by omega)]
      simp only [Option.bind_some, Sum.elim_inl, r8, cond_true, hp, Int.toNat_natCast]
      rw [List.map_set, flatL_app, flatL_one, hk, Int.toNat_natCast]
    · rw [if_neg hb]
      by_cases a1 : e.2.1 < 0
      · rw [dcT a1, cond_true, r8, cond_true]
      · by_cases a2 : e.2.1 ≥ n
        · rw [dcF a1, dcT a2, cond_false, cond_true, r8, cond_true]
        · by_cases a3 : e.2.2.1 < 1
          · rw [dcF a1, dcF a2, dcT a3, cond_false, cond_false, cond_true, r8, cond_true]
          · rw [dcF a1, dcF a2, dcF a3, dcT (show e.2.2.1 > 1000 by omega), cond_false, cond_false, cond_false, cond_true, r8, cond_true]
  · rw [beqF k1, cond_false, if_neg k1]
    by_cases k2 : e.1 = 2
    · rw [beqT k2, cond_true, if_pos k2]
      have hw : s.O.length % m < m := Nat.mod_lt _ (by omega)
      obtain ⟨q1, q2⟩ := hS _ hw
      have hwS : s.O.length % m < S.length := by omega
      have hgS : S[s.O.length % m]? = some ((S[s.O.length % m]?).getD 0) := by rw [List.getElem?_eq_getElem hwS]; rfl
      have htm : ((s.O.length : Int).tmod (S.length : Int)) = ((s.O.length % m : Nat) : Int) := by rw [hm]; rfl
      generalize hq : (S[s.O.length % m]?).getD 0 = q at q1 q2 hgS ⊢
      obtain ⟨p, rfl⟩ : ∃ p : Nat, q = (p : Int) := ⟨q.toNat, by omega⟩
      have hpn : p < s.A.length := by omega
      have hpm : p < (s.A.map flatL).length := by rw [List.length_map]; exact hpn
      have hrun := get_run h p
      have hg := hmapg p hpn
      have hset : (s.A.map flatL).set p (flatL ((s.A[p]?).getD [])) = s.A.map flatL := set_get hg
      rw [beqF (show (S.length : Int) ≠ 0 by omega), cond_false, htm, getI_nat, hgS]
      simp only [Option.bind_some, inB_T hpm, cond_true, Int.toNat_natCast, hg, hset]
      cases hL : (s.A[p]?).getD [] with
      | nil =>
        simp only [show flatL [] = [] from rfl, List.length_nil, beqT (show ((0 : Nat) : Int) = 0 from rfl), cond_true, r24, r8]
      | cons r l =>
        rw [hL] at hrun hset hg
        have hf := flat_dec (hrun.2 r List.mem_cons_self) l
        rw [hf] at hset hg ⊢
        have hne : (((r.2.1 :: flatL (dec r l)).length : Int) == (0 : Int)) = false := beqF (by simp only [List.length_cons]; omega)
        have h0 : inB (0 : Int) (r.2.1 :: flatL (dec r l)).length = true := inB_T (i := 0) (by simp)
        have e0 : (r.2.1 :: flatL (dec r l))[(0 : Int).toNat]? = some r.2.1 := rfl
        have hd : (true && decide (0 ≤ (1 : Int)) && decide ((1 : Int) ≤ (r.2.1 :: flatL (dec r l)).length)) = true := by
          rw [dcT (show (1 : Int) ≤ (r.2.1 :: flatL (dec r l)).length by simp only [List.length_cons]; omega)]; rfl
        simp only [hne, cond_false, Option.bind_some, h0, cond_true, e0, hd, Nat.beq_refl, r24, r8]
        rw [List.map_set]; rfl
    · rw [beqF k2, cond_false, if_neg k2, r8, cond_true]

end Go.Proofs.Try
