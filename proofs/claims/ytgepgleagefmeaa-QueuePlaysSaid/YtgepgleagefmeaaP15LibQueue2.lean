/- Lemmas on functions of the program, by name: queue2. -/
import Derived.Test.YtgepgleagefmeaaP15Funs
import Derived.Test.YtgepgleagefmeaaAbsSums
import Derived.Test.YtgepgleagefmeaaP15LibQueue1
namespace Go.Proofs.Try
open Go Go.Abs


/-! Queues: what the two functions come to. -/
theorem wrapN {k : Nat} (h : k ≤ 1000000) : IntKind.i64.wrap (k : Int) = (k : Int) := wrap64 (by omega) (by omega)
theorem modN (k : Nat) : ((k : Int)).tmod (16 : Int) = ((k % 16 : Nat) : Int) := rfl
theorem play_l1 {n : Nat} (h8 : n ≤ 8) (c : Nat) (E : List Stq) : loopM (queue_Play_l1 ((n : Int), (c : Int), E, ())) ((0 : Int), List.replicate n (none : Option RT), ()) = some (.inl (List.replicate n (some (rt c rg0)), ())) := by
  refine loopM_sim n (fun i => ((i : Int), List.replicate i (some (rt c rg0)) ++ List.replicate (n - i) (none : Option RT), ())) _ (fun i hi => ?_) ?_ rfl
  · have hc : n - i = (n - (i + 1)) + 1 := by omega
    have hr : List.replicate (n - i) (none : Option RT) = none :: List.replicate (n - (i + 1)) none := by rw [hc]; rfl
    have hlen : (List.replicate i (some (rt c rg0)) ++ List.replicate (n - i) (none : Option RT)).length = n := by rw [List.length_append, List.length_replicate, List.length_replicate]; omega
    have hs : (List.replicate i (some (rt c rg0)) ++ List.replicate (n - i) (none : Option RT)).set i (some (rt c rg0)) = List.replicate (i + 1) (some (rt c rg0)) ++ List.replicate (n - (i + 1)) none := by
      have h1 := set_mid (none : Option RT) (some (rt c rg0)) (List.replicate (n - (i + 1)) none) (List.replicate i (some (rt c rg0)))
      rw [List.length_replicate] at h1
      rw [hr, h1, List.replicate_succ', List.append_assoc]; rfl
    have hg : (List.replicate i (some (rt c rg0)) ++ List.replicate (n - i) (none : Option RT))[i]? = some none := by
      rw [List.getElem?_append_right (by simp), hr]; simp
    unfold queue_Play_l1
    simp only [Int.toNat_natCast, List.length_replicate, dcT (show (i : Int) < (n : Int) by omega), cond_true]
    rw [hlen, inB_T hi, cond_true, hg, Option.bind_some, wrapS (show i < 9223372036854775807 by omega), ← hs]
    rfl
  · unfold queue_Play_l1
    simp only [Int.toNat_natCast, List.length_replicate, dcF (show ¬ (n : Int) < (n : Int) by omega), cond_false, Nat.sub_self, List.replicate_zero, List.append_nil]

abbrev qA (c : Nat) (A : List Rg) : List (Option RT) := A.map fun r => some (rt c r)
theorem qA_get (c : Nat) {A : List Rg} {p : Nat} (hp : p < A.length) : (qA c A)[p]? = some (some (rt c ((A[p]?).getD rg0))) := by
  unfold qA
  rw [List.getElem?_map, List.getElem?_eq_getElem hp]; rfl
theorem qA_set (c : Nat) (A : List Rg) (p : Nat) (r : Rg) : qA c (A.set p r) = (qA c A).set p (some (rt c r)) := by unfold qA; rw [List.map_set]
theorem play_step {n c : Nat} (hc16 : c ≤ 16) {E : List Stq} (hE : E.length ≤ 60) {i : Nat} (hi : i < E.length) {s : Qst} (h : QInv n c i s) (X : List (List Int)) :
    queue_Play_l2 ((n : Int), (c : Int), E, ()) ((i : Int), s.C, s.V, X, (), qA c s.A, ()) =
      some (.inl (((i + 1 : Nat) : Int), (qstp n c E[i] s).C, (qstp n c E[i] s).V, X, (), qA c (qstp n c E[i] s).A, ())) := by
  have hcl := h.cl
  have hvl := h.vl
  have hA := h.len
  have rC : ∀ v : Int, (true && roomOk (s.C.length + ([v]).length) 8 && true && true) = true := fun v => by
    rw [roomB (show s.C.length + ([v]).length ≤ 200000 by simp; omega) (by omega)]; rfl
  have rV : ∀ v : Int, (true && roomOk (s.V.length + ([v]).length) 8 && true && true) = true := fun v => by
    rw [roomB (show s.V.length + ([v]).length ≤ 200000 by simp; omega) (by omega)]; rfl
  unfold queue_Play_l2
  generalize hee : E[i] = e
  simp only [dcT (show (i : Int) < (E.length : Int) by omega), cond_true, getI_nat, List.getElem?_eq_getElem hi, hee, Option.bind_some, wrapS (show i < 9223372036854775807 by omega)]
  unfold qstp
  by_cases hb : 0 ≤ e.2.1 ∧ e.2.1 < n
  · obtain ⟨b1, b2⟩ := hb
    obtain ⟨p, hp⟩ : ∃ p : Nat, e.2.1 = (p : Int) := ⟨e.2.1.toNat, by omega⟩
    have hpn : p < s.A.length := by omega
    have hpm : p < (qA c s.A).length := by rw [List.length_map]; exact hpn
    have hg := qA_get c hpn
    have hok := q_get h p
    have hset : (qA c s.A).set p (some (rt c ((s.A[p]?).getD rg0))) = qA c s.A := set_get hg
    have e0 : e.2.1.toNat = p := by omega
    rw [e0]
    generalize hr : (s.A[p]?).getD rg0 = r at hg hok hset ⊢
    obtain ⟨ob, of, on⟩ := hok
    by_cases k1 : e.1 = 1
    · rw [bneF k1, cond_false, dcF (show ¬ e.2.1 < 0 by omega), dcF (show ¬ e.2.1 ≥ n by omega), beqT k1, if_pos (.inl k1), if_pos ⟨b1, b2⟩, if_pos k1]
      simp only [cond_true, cond_false, hp, inB_T hpm, hg, Option.bind_some, optK]
      by_cases hn : r.n = c
      · rw [if_pos hn]
        simp only [hset]
        rw [show ((rt c r).2.2.1 == (rt c r).2.2.2.1) = true from beqT (show (r.n : Int) = (c : Int) by omega)]
        simp only [cond_true, rC, rV]
      · rw [if_neg hn]
        have hk : (r.f + r.n) % 16 < 16 := Nat.mod_lt _ (by omega)
        have hw : (IntKind.i64.wrap ((rt c r).2.1 + (rt c r).2.2.1)).tmod (16 : Int) = (((r.f + r.n) % 16 : Nat) : Int) := by
          show (IntKind.i64.wrap ((r.f : Int) + (r.n : Int))).tmod (16 : Int) = _
          rw [show (r.f : Int) + (r.n : Int) = ((r.f + r.n : Nat) : Int) by omega, wrapN (by omega), modN]
        rw [show ((rt c r).2.2.1 == (rt c r).2.2.2.1) = false from beqF (show (r.n : Int) ≠ (c : Int) by omega)]
        simp only [cond_false, hw, inB_T hk, cond_true, Int.toNat_natCast, beq_no hk (show 16 ≤ 16 by omega), beq_no hk (show 16 ≤ 17 by omega), beq_no hk (show 16 ≤ 18 by omega)]
        have hble : Nat.ble (0 + (r.f + r.n) % 16 + 1) 19 = true := Nat.ble_eq_true_of_le (by omega)
        have hw2 : IntKind.i64.wrap ((rt c r).2.2.1 + 1) = ((r.n + 1 : Nat) : Int) := wrapS (i := r.n) (by omega)
        simp only [hble, cond_true, rC, rV, hw2]
        have hts := tupB_set ob hk e.2.2.1
        simp only [show (rt c r).1 = tupB r.B from rfl, hts]
        rw [qA_set]; rfl
    · by_cases k2 : e.1 = 2
      · rw [bneT k1, cond_true, bneF k2, cond_false, dcF (show ¬ e.2.1 < 0 by omega), dcF (show ¬ e.2.1 ≥ n by omega), beqF k1, if_pos (.inr k2), if_pos ⟨b1, b2⟩, if_neg k1]
        simp only [cond_false, hp, inB_T hpm, cond_true, hg, Option.bind_some, optK]
        by_cases hn : r.n = 0
        · rw [if_pos hn]
          simp only [hset]
          rw [show ((rt c r).2.2.1 == (0 : Int)) = true from beqT (show (r.n : Int) = 0 by omega)]
          simp only [cond_true, rC, rV]
        · rw [if_neg hn]
          rw [show ((rt c r).2.2.1 == (0 : Int)) = false from beqF (show (r.n : Int) ≠ 0 by omega)]
          have hgt := tupB_get ob of (r.f : Int) (r.n : Int) (c : Int)
          have hw1 : (IntKind.i64.wrap ((rt c r).2.1 + 1)).tmod (16 : Int) = (((r.f + 1) % 16 : Nat) : Int) := by
            rw [show IntKind.i64.wrap ((rt c r).2.1 + 1) = ((r.f + 1 : Nat) : Int) from wrapS (i := r.f) (by omega), modN]
          have hw2 : IntKind.i64.wrap ((rt c r).2.2.1 - 1) = ((r.n - 1 : Nat) : Int) := by
            show IntKind.i64.wrap ((r.n : Int) - 1) = _
            rw [show (r.n : Int) - 1 = ((r.n - 1 : Nat) : Int) by omega, wrapN (by omega)]
          have hin : inB (rt c r).2.1 16 = true := inB_T of
          simp only [cond_false, hin, cond_true, hw1, hw2]
          simp only [show (rt c r).1 = tupB r.B from rfl, show (rt c r).2.1 = (r.f : Int) from rfl, show (rt c r).2.2.1 = (r.n : Int) from rfl, show (rt c r).2.2.2.1 = (c : Int) from rfl, Int.toNat_natCast, hgt, Option.bind_some, rC, rV, cond_true]
          rw [qA_set]; rfl
      · rw [bneT k1, cond_true, bneT k2, cond_true, if_neg (by omega), rC, rV]; rfl
  · by_cases k1 : e.1 = 1
    · rw [bneF k1, cond_false, if_pos (.inl k1), if_neg hb]
      by_cases a1 : e.2.1 < 0
      · rw [dcT a1, cond_true, rC, rV]; rfl
      · rw [dcF a1, cond_false, dcT (show e.2.1 ≥ n by omega), cond_true, rC, rV]; rfl
    · by_cases k2 : e.1 = 2
      · rw [bneT k1, cond_true, bneF k2, cond_false, if_pos (.inr k2), if_neg hb]
        by_cases a1 : e.2.1 < 0
        · rw [dcT a1, cond_true, rC, rV]; rfl
        · rw [dcF a1, cond_false, dcT (show e.2.1 ≥ n by omega), cond_true, rC, rV]; rfl
      · rw [bneT k1, cond_true, bneT k2, cond_true, if_neg (by omega), rC, rV]; rfl

theorem all_eq {c : Nat} (hc16 : c ≤ 16) {r : Rg} (h : RgOK c r) : loopM (queue_Play_l3 (rt c r)) ((0 : Int), ([] : List Int), (), ()) = some (.inl (cont r, (), ())) := by
  obtain ⟨ob, of, on⟩ := h
  refine loopM_sim r.n (fun i => ((i : Int), (List.range i).map (fun j => r.B.getD ((r.f + j) % 16) 0), (), ())) _ (fun i hi => ?_) ?_ rfl
  · have hk : (r.f + i) % 16 < 16 := Nat.mod_lt _ (by omega)
    have hw : (IntKind.i64.wrap ((rt c r).2.1 + (i : Int))).tmod (16 : Int) = (((r.f + i) % 16 : Nat) : Int) := by
      show (IntKind.i64.wrap ((r.f : Int) + (i : Int))).tmod (16 : Int) = _
      rw [show (r.f : Int) + (i : Int) = ((r.f + i : Nat) : Int) by omega, wrapN (by omega), modN]
    have hgt := tupB_get ob hk (r.f : Int) (r.n : Int) (c : Int)
    have hlen : ((List.range i).map (fun j => r.B.getD ((r.f + j) % 16) 0)).length = i := by rw [List.length_map, List.length_range]
    unfold queue_Play_l3
    simp only [hw, inB_T hk, Int.toNat_natCast]
    simp only [show (rt c r).1 = tupB r.B from rfl, show (rt c r).2.1 = (r.f : Int) from rfl, show (rt c r).2.2.1 = (r.n : Int) from rfl, show (rt c r).2.2.2.1 = (c : Int) from rfl, hgt, dcT (show (i : Int) < (r.n : Int) by omega), cond_true, Option.bind_some, hlen]
    rw [roomB (show i + ([r.B.getD ((r.f + i) % 16) 0] : List Int).length ≤ 200000 by simp; omega) (by omega), wrapS (show i < 9223372036854775807 by omega), List.range_succ, List.map_append]
    rfl
  · unfold queue_Play_l3
    simp only [show (rt c r).2.2.1 = (r.n : Int) from rfl, dcF (show ¬ (r.n : Int) < (r.n : Int) by omega), cond_false]
    rfl

theorem left_eq {c : Nat} (hc16 : c ≤ 16) {A : List Rg} (hA : A.length ≤ 8) (h : ∀ r ∈ A, RgOK c r) (C V : List Int) : loopM (queue_Play_l4 (C, V, [], (), qA c A, ())) ((0 : Int), ([] : List (List Int)), (), qA c A, ()) = some (.inl (A.map cont, (), qA c A, ())) := by
  refine loopM_sim A.length (fun i => ((i : Int), (A.take i).map cont, (), qA c A, ())) _ (fun i hi => ?_) ?_ rfl
  · have hg := qA_get c hi
    have hset : (qA c A).set i (some (rt c ((A[i]?).getD rg0))) = qA c A := set_get hg
    have hr : (A[i]?).getD rg0 = A[i] := by rw [List.getElem?_eq_getElem hi]; rfl
    rw [hr] at hg hset
    have hl : (qA c A).length = A.length := List.length_map _
    have hlen : ((A.take i).map cont).length = i := by rw [List.length_map, List.length_take]; omega
    unfold queue_Play_l4
    simp only [hl, dcT (show (i : Int) < (A.length : Int) by omega), cond_true, inB_T hi, Int.toNat_natCast, hg, Option.bind_some, optK]
    rw [all_eq hc16 (h _ (List.getElem_mem hi))]
    simp only [Option.bind_some, Sum.elim_inl, hlen, hset]
    rw [roomB (show i + ([cont A[i]] : List (List Int)).length ≤ 200000 by simp; omega) (by omega), wrapS (show i < 9223372036854775807 by omega), List.take_succ_eq_append_getElem hi, List.map_append]
    rfl
  · unfold queue_Play_l4
    have hl : (qA c A).length = A.length := List.length_map _
    simp only [hl, dcF (show ¬ (A.length : Int) < (A.length : Int) by omega), cond_false, List.take_length]

end Go.Proofs.Try
