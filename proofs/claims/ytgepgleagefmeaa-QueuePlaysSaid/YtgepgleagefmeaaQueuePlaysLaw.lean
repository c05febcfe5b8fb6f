/- The plain law of QueuePlays. -/
import Derived.Test.YtgepgleagefmeaaP15Funs
import Derived.Test.YtgepgleagefmeaaAbsSums
import Derived.Test.YtgepgleagefmeaaP15LibQueue2
namespace Go.Proofs.Try
open Go Go.Abs


theorem cont_get {A : List Rg} {p : Nat} (hp : p < A.length) : (A.map cont)[p]? = some (cont ((A[p]?).getD rg0)) := by
  rw [List.getElem?_map, List.getElem?_eq_getElem hp]; rfl
theorem cont_set (A : List Rg) (p : Nat) (r : Rg) : (A.set p r).map cont = (A.map cont).set p (cont r) := by rw [List.map_set]
theorem ref_step {n c : Nat} (hc16 : c ≤ 16) {E : List Stq} (hE : E.length ≤ 60) {i : Nat} (hi : i < E.length) {s : Qst} (h : QInv n c i s) :
    ref_QueuePlay_l1 ((n : Int), (c : Int), E, ()) ((i : Int), s.C, s.V, (), s.A.map cont, ()) =
      some (.inl (((i + 1 : Nat) : Int), (qstp n c E[i] s).C, (qstp n c E[i] s).V, (), (qstp n c E[i] s).A.map cont, ())) := by
  have hcl := h.cl
  have hvl := h.vl
  have hA := h.len
  have rC : ∀ v : Int, (true && roomOk (s.C.length + ([v]).length) 8 && true && true) = true := fun v => by
    rw [roomB (show s.C.length + ([v]).length ≤ 200000 by simp; omega) (by omega)]; rfl
  have rV : ∀ v : Int, (true && roomOk (s.V.length + ([v]).length) 8 && true && true) = true := fun v => by
    rw [roomB (show s.V.length + ([v]).length ≤ 200000 by simp; omega) (by omega)]; rfl
  unfold ref_QueuePlay_l1
  generalize hee : E[i] = e
  simp only [dcT (show (i : Int) < (E.length : Int) by omega), cond_true, getI_nat, List.getElem?_eq_getElem hi, hee, Option.bind_some, wrapS (show i < 9223372036854775807 by omega)]
  unfold qstp
  by_cases hb : 0 ≤ e.2.1 ∧ e.2.1 < n
  · obtain ⟨b1, b2⟩ := hb
    obtain ⟨p, hp⟩ : ∃ p : Nat, e.2.1 = (p : Int) := ⟨e.2.1.toNat, by omega⟩
    have hpn : p < s.A.length := by omega
    have hpm : p < (s.A.map cont).length := by rw [List.length_map]; exact hpn
    have hg := cont_get hpn
    have hok := q_get h p
    have hset : (s.A.map cont).set p (cont ((s.A[p]?).getD rg0)) = s.A.map cont := set_get hg
    have e0 : e.2.1.toNat = p := by omega
    rw [e0]
    generalize hr : (s.A[p]?).getD rg0 = r at hg hok hset ⊢
    obtain ⟨ob, of, on⟩ := hok
    have hlen := cont_length r
    by_cases k1 : e.1 = 1
    · rw [bneF k1, cond_false, dcF (show ¬ e.2.1 < 0 by omega), dcF (show ¬ e.2.1 ≥ n by omega), beqT k1, if_pos (.inl k1), if_pos ⟨b1, b2⟩, if_pos k1]
      simp only [cond_true, cond_false, hp, inB_T hpm, hg, Option.bind_some, hset, hlen, Nat.beq_refl]
      by_cases hn : r.n = c
      · rw [if_pos hn, dcF (show ¬ (r.n : Int) < (c : Int) by omega)]
        simp only [cond_false, Option.bind_some, Sum.elim_inl, rC, rV, cond_true]
      · rw [if_neg hn, dcT (show (r.n : Int) < (c : Int) by omega)]
        have hrm : (true && roomOk (r.n + ([e.2.2.1] : List Int).length) 8 && true && true) = true := by
          rw [roomB (show r.n + ([e.2.2.1] : List Int).length ≤ 200000 by simp; omega) (by omega)]; rfl
        simp only [hrm, cond_true, Option.bind_some, Sum.elim_inl, rC, rV]
        rw [cont_set, cont_put ob (by omega)]
    · by_cases k2 : e.1 = 2
      · rw [bneT k1, cond_true, bneF k2, cond_false, dcF (show ¬ e.2.1 < 0 by omega), dcF (show ¬ e.2.1 ≥ n by omega), beqF k1, if_pos (.inr k2), if_pos ⟨b1, b2⟩, if_neg k1]
        simp only [cond_false, hp, inB_T hpm, cond_true, hg, Option.bind_some, hset, hlen, Nat.beq_refl]
        by_cases hn : r.n = 0
        · rw [if_pos hn, beqT (show (r.n : Int) = 0 by omega)]
          simp only [Option.bind_some, Sum.elim_inl, rC, rV, cond_true]
        · rw [if_neg hn, beqF (show (r.n : Int) ≠ 0 by omega)]
          have hct := cont_tak of (show 0 < r.n by omega)
          have h0 : inB (0 : Int) r.n = true := inB_T (i := 0) (by omega)
          have hd : (true && decide (0 ≤ (1 : Int)) && decide ((1 : Int) ≤ (r.n : Int))) = true := by
            rw [dcT (show (1 : Int) ≤ (r.n : Int) by omega)]; rfl
          have e1 : (cont r)[(0 : Int).toNat]? = some (r.B.getD r.f 0) := by rw [hct]; rfl
          have e2 : (cont r).drop (1 : Int).toNat = cont (tak r) := by rw [hct]; rfl
          simp only [cond_false, h0, cond_true, e1, Option.bind_some, hd, e2, Sum.elim_inl, rC, rV]
          rw [cont_set]
      · rw [bneT k1, cond_true, bneT k2, cond_true, if_neg (by omega), Option.bind_some, Sum.elim_inl, rC, rV]; rfl
  · by_cases k1 : e.1 = 1
    · rw [bneF k1, cond_false, if_pos (.inl k1), if_neg hb]
      by_cases a1 : e.2.1 < 0
      · rw [dcT a1, cond_true, Option.bind_some, Sum.elim_inl, rC, rV]; rfl
      · rw [dcF a1, cond_false, dcT (show e.2.1 ≥ n by omega), cond_true, Option.bind_some, Sum.elim_inl, rC, rV]; rfl
    · by_cases k2 : e.1 = 2
      · rw [bneT k1, cond_true, bneF k2, cond_false, if_pos (.inr k2), if_neg hb]
        by_cases a1 : e.2.1 < 0
        · rw [dcT a1, cond_true, Option.bind_some, Sum.elim_inl, rC, rV]; rfl
        · rw [dcF a1, cond_false, dcT (show e.2.1 ≥ n by omega), cond_true, Option.bind_some, Sum.elim_inl, rC, rV]; rfl
      · rw [bneT k1, cond_true, bneT k2, cond_true, if_neg (by omega), Option.bind_some, Sum.elim_inl, rC, rV]; rfl

theorem codes_eq (m : List Int) (hl : m.length ≤ 3000000) : ref_Codes (m, m, ()) = some (true, ()) := by
  unfold ref_Codes
  rw [bneF rfl, cond_false]
  have h := loopM_for (f := ref_Codes_l1 (m, m, ())) m.length (fun _ => none) (.inr (.inl ())) (fun i hi => by
    unfold ref_Codes_l1
    simp only [dcT (show (i : Int) < (m.length : Int) by omega), cond_true, getI_nat, List.getElem?_eq_getElem hi, Option.bind_some, wrapS (show i < 9223372036854775807 by omega), bneF rfl, cond_false]) (by
    unfold ref_Codes_l1
    simp only [dcF (show ¬ (m.length : Int) < (m.length : Int) by omega), cond_false])
  rw [h]
  have hf : (List.range m.length).findSome? (fun _ => (none : Option ((Bool × Unit) ⊕ (Unit ⊕ Empty)))) = none := List.findSome?_eq_none_iff.2 fun _ _ => rfl
  rw [hf]; rfl
theorem longs_eq (m : List Int) (hl : m.length ≤ 3000000) : ref_Longs (m, m, ()) = some (true, ()) := codes_eq m hl
theorem law_same (o : List Int × List Int × List (List Int) × Unit) (c d : Int) (hl : o.2.2.1.length ≤ 3000000) (hm : ∀ m ∈ o.2.2.1, m.length ≤ 3000000) : loopM (law_QueuePlays_l1 (o, c, ()) (o, d, ())) ((0 : Int), ()) = some (.inr (.inl ())) := by
  have h := loopM_for (f := law_QueuePlays_l1 (o, c, ()) (o, d, ())) o.2.2.1.length (fun _ => none) (.inr (.inl ())) (fun i hi => by
    unfold law_QueuePlays_l1
    simp only [dcT (show (i : Int) < (o.2.2.1.length : Int) by omega), cond_true, getI_nat, List.getElem?_eq_getElem hi, Option.bind_some, wrapS (show i < 9223372036854775807 by omega), longs_eq _ (hm _ (List.getElem_mem hi)), Bool.not_true, cond_false]) (by
    unfold law_QueuePlays_l1
    simp only [dcF (show ¬ (o.2.2.1.length : Int) < (o.2.2.1.length : Int) by omega), cond_false])
  rw [h]
  have hf : (List.range o.2.2.1.length).findSome? (fun _ => (none : Option ((Bool × Unit) ⊕ (Unit ⊕ Empty)))) = none := List.findSome?_eq_none_iff.2 fun _ _ => rfl
  rw [hf]; rfl

abbrev QO := (List Int × List Int × List (List Int) × Unit) × Int × Unit
/-- Both play the same. -/
theorem plays (n c : Int) (E : List Stq) : ∃ o : QO, queue_Play (n, c, E, ()) = some o ∧ ref_QueuePlay (n, c, E, ()) = some o ∧ o.1.1.length ≤ 3000000 ∧ o.1.2.1.length ≤ 3000000 ∧ o.1.2.2.1.length ≤ 3000000 ∧ ∀ m ∈ o.1.2.2.1, m.length ≤ 3000000 := by
  unfold queue_Play ref_QueuePlay
  have no : ∃ o : QO, (some (([], [], [], ()), 1, ()) : Option QO) = some o ∧ (some (([], [], [], ()), 1, ()) : Option QO) = some o ∧ o.1.1.length ≤ 3000000 ∧ o.1.2.1.length ≤ 3000000 ∧ o.1.2.2.1.length ≤ 3000000 ∧ ∀ m ∈ o.1.2.2.1, m.length ≤ 3000000 :=
    ⟨_, rfl, rfl, by simp, by simp, by simp, fun m hm => by cases hm⟩
  by_cases h1 : n < 1
  · simp only [dcT h1, cond_true]; exact no
  by_cases h2 : n > 8
  · simp only [dcF h1, dcT h2, cond_true, cond_false]; exact no
  by_cases h3 : c < 0
  · simp only [dcF h1, dcF h2, dcT h3, cond_true, cond_false]; exact no
  by_cases h4 : c > 16
  · simp only [dcF h1, dcF h2, dcF h3, dcT h4, cond_true, cond_false]; exact no
  by_cases h5 : (E.length : Int) > 60
  · simp only [dcF h1, dcF h2, dcF h3, dcF h4, dcT h5, cond_true, cond_false]; exact no
  obtain ⟨N, rfl⟩ : ∃ N : Nat, n = (N : Int) := ⟨n.toNat, by omega⟩
  obtain ⟨c', rfl⟩ : ∃ c' : Nat, c = (c' : Int) := ⟨c.toNat, by omega⟩
  have hc16 : c' ≤ 16 := by omega
  have hE : E.length ≤ 60 := by omega
  have hg : ∀ b, b ≤ 64 → (decide (0 ≤ (N : Int)) && decide ((N : Int) ≤ (N : Int)) && roomOk N b && decide ((N : Int) ≤ 9223372036854775807) && true && true) = true := fun b hb => by
    rw [dcT (show 0 ≤ (N : Int) by omega), dcT (Int.le_refl (N : Int)), roomB (show N ≤ 200000 by omega) hb, dcT (show (N : Int) ≤ 9223372036854775807 by omega)]; rfl
  have hiv := qsts_inv N c' E E.length (Nat.le_refl _)
  have hsucc : ∀ i (hi : i < E.length), qsts N c' E (i + 1) = qstp N c' E[i] (qsts N c' E i) := fun i hi => by
    show (match E[i]? with
      | some e => qstp N c' e (qsts N c' E i)
      | none => qsts N c' E i) = _
    rw [List.getElem?_eq_getElem hi]
  have hp := loopM_sim (f := queue_Play_l2 ((N : Int), (c' : Int), E, ())) (s0 := ((0 : Int), ([] : List Int), ([] : List Int), ([] : List (List Int)), (), List.replicate N (some (rt c' rg0)), ())) E.length
    (fun i => ((i : Int), (qsts N c' E i).C, (qsts N c' E i).V, ([] : List (List Int)), (), qA c' (qsts N c' E i).A, ()))
    (.inl ((qsts N c' E E.length).C, (qsts N c' E E.length).V, ([] : List (List Int)), (), qA c' (qsts N c' E E.length).A, ()))
    (fun i hi => by
      rw [hsucc i hi]
      exact play_step hc16 hE hi (qsts_inv N c' E i (by omega)) []) (by
      unfold queue_Play_l2
      simp only [dcF (show ¬ (E.length : Int) < (E.length : Int) by omega), cond_false]) (by
      show (_, _, _, _, _, (List.replicate N rg0).map (fun r => some (rt c' r)), ()) = _
      rw [List.map_replicate]; rfl)
  have hr := loopM_sim (f := ref_QueuePlay_l1 ((N : Int), (c' : Int), E, ())) (s0 := ((0 : Int), ([] : List Int), ([] : List Int), (), List.replicate N ([] : List Int), ())) E.length
    (fun i => ((i : Int), (qsts N c' E i).C, (qsts N c' E i).V, (), (qsts N c' E i).A.map cont, ()))
    (.inl ((qsts N c' E E.length).C, (qsts N c' E E.length).V, (), (qsts N c' E E.length).A.map cont, ()))
    (fun i hi => by
      rw [hsucc i hi]
      exact ref_step hc16 hE hi (qsts_inv N c' E i (by omega))) (by
      unfold ref_QueuePlay_l1
      simp only [dcF (show ¬ (E.length : Int) < (E.length : Int) by omega), cond_false]) (by
      show (_, _, _, _, (List.replicate N rg0).map cont, ()) = _
      rw [List.map_replicate]; rfl)
  have hl := hiv.len
  have hcl := hiv.cl
  have hvl := hiv.vl
  refine ⟨(((qsts N c' E E.length).C, (qsts N c' E E.length).V, (qsts N c' E E.length).A.map cont, ()), 0, ()), ?_, ?_, by show (qsts N c' E E.length).C.length ≤ _; omega, by show (qsts N c' E E.length).V.length ≤ _; omega, by show ((qsts N c' E E.length).A.map cont).length ≤ _; rw [List.length_map]; omega, fun m hm => ?_⟩
  · simp only [dcF h1, dcF h2, dcF h3, dcF h4, dcF h5, cond_false, Int.toNat_natCast, hg 8 (by omega), cond_true]
    rw [play_l1 (by omega) c' E]
    simp only [Option.bind_some, Sum.elim_inl]
    rw [hp]
    simp only [Option.bind_some, Sum.elim_inl]
    rw [left_eq hc16 (by omega) hiv.run]
    rfl
  · simp only [dcF h1, dcF h2, dcF h3, dcF h4, dcF h5, cond_false, Int.toNat_natCast, hg 24 (by omega), cond_true]
    rw [hr]; rfl
  · obtain ⟨r, hr1, rfl⟩ := List.mem_map.1 hm
    have := (hiv.run r hr1).n
    rw [cont_length]; omega

theorem queuePlays (n c : Int) (E : List Stq) : law_QueuePlays (n, c, E, ()) = some (true, ()) := by
  obtain ⟨⟨o, d, ⟨⟩⟩, p1, p2, l1, l2, l3, l4⟩ := plays n c E
  unfold law_QueuePlays
  simp only [p1, p2, Option.bind_some, bneF rfl, cond_false, codes_eq _ l1, longs_eq _ l2, Bool.not_true, law_same o d d l3 l4, Sum.elim_inr, Sum.elim_inl]

theorem queuePlays_law (x : ADen sp3.args) (wf : WfA sp3.args x) : law_QueuePlays x = some (true, ()) := by
  obtain ⟨n, c, E, ⟨⟩⟩ := x
  exact queuePlays n c E

end Go.Proofs.Try
