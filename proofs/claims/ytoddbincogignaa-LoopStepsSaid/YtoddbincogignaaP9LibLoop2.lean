/- Lemmas on functions of the program, by name: loop2. -/
import Derived.Test.YtoddbincogignaaP9Funs
import Derived.Test.YtoddbincogignaaAbsSums
import Derived.Test.YtoddbincogignaaP9LibLoop1
namespace Go.Proofs.Try
open Go Go.Abs


/-! Going round: the reference. -/
def oneR (r : Rw) : Rw := (r.1, r.2.1, 1, ())
def posB (r : Rw) : Bool := decide (r.2.2.1 > 0)
theorem take_map_filter {z : List Rw} {i : Nat} (h : i < z.length) : ((z.take (i + 1)).filter posB).map oneR = ((z.take i).filter posB).map oneR ++ (if posB z[i] = true then [oneR z[i]] else []) := by
  rw [List.take_succ_eq_append_getElem h, List.filter_append, List.map_append]
  congr 1
  by_cases hz : posB z[i] = true
  · rw [if_pos hz, List.filter_cons_of_pos hz]; rfl
  · rw [if_neg hz, List.filter_cons_of_neg hz]; rfl
theorem ref_There_eq {l : List Rw} (hw : ∀ r ∈ l, InR r.2.2.1) (hl : l.length ≤ 2900000) : ref_There (l, ()) = some ((thereB (bagOf l [])).map toR, ()) := by
  have hlen := bag_length l []
  rw [List.length_nil, Nat.zero_add] at hlen
  have hz : ((bagOf l []).map toR).length ≤ 2900000 := by rw [List.length_map]; omega
  generalize hzz : (bagOf l []).map toR = z at hz
  have h1 := loopM_fold' (f := ref_There_l1 (z, ())) z.length (fun i => ((z.take i).filter posB).map oneR) (.inl ((z.filter posB).map oneR, ())) (fun i hi => by
    have hfl := List.length_filter_le posB (z.take i)
    rw [List.length_take] at hfl
    have hll : (((z.take i).filter posB).map oneR).length + 1 ≤ 4000000 := by rw [List.length_map]; omega
    unfold ref_There_l1
    rw [take_map_filter hi]
    simp only [dcT (show (i : Int) < (z.length : Int) by omega), cond_true, inB_T hi, Int.toNat_natCast, List.getElem?_eq_getElem hi, Option.bind_some, wrapS (show i < 9223372036854775807 by omega), show ∀ x : Rw, ([x] : List Rw).length = 1 from fun _ => rfl, room24 hll, Bool.and_true]
    unfold posB
    cases decide (z[i].2.2.1 > 0) with
    | true => rfl
    | false => simp only [cond_false, Bool.false_eq_true, if_false, List.append_nil]) (by
    unfold ref_There_l1
    simp only [dcF (show ¬ (z.length : Int) < (z.length : Int) by omega), cond_false, List.take_length])
  have h1' : loopM (ref_There_l1 (z, ())) (([] : List Rw), (0 : Int), ()) = _ := h1
  have hb : ref_Bag (l, ()) = some (z, ()) := by rw [ref_Bag_eq hl, rows_bag hw, hzz]
  unfold ref_There
  rw [hb]
  simp only [Option.bind_some]
  rw [h1']
  simp only [Option.bind_some, Sum.elim_inl]
  congr 2
  rw [← hzz, List.filter_map, List.map_map]
  unfold thereB
  rw [List.map_map]
  rfl

def genR (E : List Rw) (r : Rw) : List Rw := (E.filter fun e => e.1 == r.1).map fun e => (e.2.1, r.2.1, 1, ())
def genL (E X : List Rw) : List Rw := X.flatMap fun r => r :: genR E r
theorem genR_take {E : List Rw} {r : Rw} {j : Nat} (h : j < E.length) : genR (E.take (j + 1)) r = genR (E.take j) r ++ (if (E[j].1 == r.1) = true then [(E[j].2.1, r.2.1, 1, ())] else []) := by
  unfold genR
  rw [List.take_succ_eq_append_getElem h, List.filter_append, List.map_append]
  congr 1
  have hfc : List.filter (fun e : Rw => e.1 == r.1) [E[j]] = if (E[j].1 == r.1) = true then [E[j]] else [] := by rw [List.filter_cons, List.filter_nil]
  rw [hfc]
  by_cases hz : (E[j].1 == r.1) = true
  · rw [if_pos hz, if_pos hz]; rfl
  · rw [if_neg hz, if_neg hz]; rfl
theorem genR_length (E : List Rw) (r : Rw) : (genR E r).length ≤ E.length := by
  unfold genR
  rw [List.length_map]; exact List.length_filter_le _ _
theorem genL_length (E X : List Rw) : (genL E X).length ≤ X.length * (E.length + 1) := by
  unfold genL
  induction X with
  | nil => simp
  | cons r X ih =>
    have := genR_length E r
    rw [List.flatMap_cons, List.length_append, List.length_cons, List.length_cons, Nat.add_one_mul]
    omega
theorem genL_take {E X : List Rw} {i : Nat} (h : i < X.length) : genL E (X.take (i + 1)) = genL E (X.take i) ++ (X[i] :: genR E X[i]) := by
  unfold genL
  rw [List.take_succ_eq_append_getElem h, List.flatMap_append]
  simp
theorem ref_gen_l1 {E X : List Rw} {r : Rw} {y : List Rw} (he : E.length ≤ 1000) (hy : y.length ≤ 2000000) : loopM (ref_LoopStep_l1 (E, X, ()) r) (y, (0 : Int), ()) = some (.inl (y ++ genR E r, ())) := by
  have h := loopM_fold' (f := ref_LoopStep_l1 (E, X, ()) r) E.length (fun j => y ++ genR (E.take j) r) (.inl (y ++ genR E r, ())) (fun j hj => by
    have hg := genR_length (E.take j) r
    rw [List.length_take] at hg
    have hll : (y ++ genR (E.take j) r).length + 1 ≤ 4000000 := by rw [List.length_append]; omega
    unfold ref_LoopStep_l1
    rw [genR_take hj]
    simp only [dcT (show (j : Int) < (E.length : Int) by omega), cond_true, getI_nat, List.getElem?_eq_getElem hj, Option.bind_some, wrapS (show j < 9223372036854775807 by omega), show ∀ x : Rw, ([x] : List Rw).length = 1 from fun _ => rfl, room24 hll, Bool.and_true]
    cases (E[j].1 == r.1) with
    | true => simp only [cond_true, if_true, List.append_assoc]
    | false => simp only [cond_false, Bool.false_eq_true, if_false, List.append_nil]) (by
    unfold ref_LoopStep_l1
    simp only [dcF (show ¬ (E.length : Int) < (E.length : Int) by omega), cond_false, List.take_length])
  have h0 : y ++ genR (E.take 0) r = y := by simp [genR]
  simp only [h0] at h
  exact h
theorem ref_gen {E X : List Rw} (he : E.length ≤ 1000) (hx : X.length ≤ 1000) : loopM (ref_LoopStep_l2 (E, X, ())) (([] : List Rw), (0 : Int), ()) = some (.inl (genL E X, ())) := by
  exact loopM_fold' (f := ref_LoopStep_l2 (E, X, ())) X.length (fun i => genL E (X.take i)) (.inl (genL E X, ())) (fun i hi => by
    have hg := genL_length E (X.take i)
    rw [List.length_take] at hg
    have hm : min i X.length * (E.length + 1) ≤ 1000 * 1001 := Nat.mul_le_mul (by omega) (by omega)
    have hll : (genL E (X.take i)).length + 1 ≤ 4000000 := by omega
    unfold ref_LoopStep_l2
    rw [genL_take hi]
    simp only [dcT (show (i : Int) < (X.length : Int) by omega), cond_true, getI_nat, List.getElem?_eq_getElem hi, Option.bind_some, wrapS (show i < 9223372036854775807 by omega), show ∀ x : Rw, ([x] : List Rw).length = 1 from fun _ => rfl, room24 hll, Bool.and_true]
    rw [ref_gen_l1 he (by rw [List.length_append, List.length_singleton]; omega)]
    simp only [Option.bind_some, Sum.elim_inl, List.append_assoc]
    rfl) (by
    unfold ref_LoopStep_l2
    simp only [dcF (show ¬ (X.length : Int) < (X.length : Int) by omega), cond_false, List.take_length])

theorem tot_pos (k : Ky) : ∀ (L : List Rw) (T : Ky → Int), (∀ r ∈ L, r.2.2.1 = 1) → 0 ≤ T k → T k + L.length ≤ 1000000000 → (0 < tot L T k ↔ 0 < T k ∨ ∃ r ∈ L, kyOf r = k)
  | [], T, _, _, _ => ⟨.inl, fun h => h.elim id fun ⟨r, hr, _⟩ => (nomatch hr)⟩
  | r :: L, T, h1, h0, hb => by
    have hr := h1 r List.mem_cons_self
    simp only [List.length_cons] at hb
    have hT : (if k = kyOf r then W (T (kyOf r) + r.2.2.1) else T k) = if k = kyOf r then T k + 1 else T k := by
      by_cases hk : k = kyOf r
      · rw [if_pos hk, if_pos hk, ← hk, hr]
        exact wrap64 (by omega) (by omega)
      · rw [if_neg hk, if_neg hk]
    have ih := tot_pos k L (fun j => if j = kyOf r then W (T (kyOf r) + r.2.2.1) else T j) (fun q hq => h1 q (List.mem_cons_of_mem _ hq)) (by
      show 0 ≤ (if k = kyOf r then W (T (kyOf r) + r.2.2.1) else T k)
      rw [hT]; split <;> omega) (by
      show (if k = kyOf r then W (T (kyOf r) + r.2.2.1) else T k) + _ ≤ _
      rw [hT]; split <;> omega)
    show 0 < tot L _ k ↔ _
    rw [ih]
    show (0 < (if k = kyOf r then W (T (kyOf r) + r.2.2.1) else T k) ∨ _) ↔ _
    rw [hT]
    by_cases hk : k = kyOf r
    · rw [if_pos hk]
      exact ⟨fun _ => .inr ⟨r, List.mem_cons_self, hk.symm⟩, fun _ => .inl (by omega)⟩
    · rw [if_neg hk]
      constructor
      · rintro (h | ⟨q, hq, e⟩)
        · exact .inl h
        · exact .inr ⟨q, List.mem_cons_of_mem _ hq, e⟩
      · rintro (h | ⟨q, hq, e⟩)
        · exact .inl h
        · rcases List.mem_cons.1 hq with rfl | hq
          · exact absurd e.symm hk
          · exact .inr ⟨q, hq, e⟩

theorem inR_one {n : Int} (h : n = 1) : InR n := by subst h; unfold InR W; decide

/-- The reference's round is the program's. -/
theorem ref_step_eq {E X : Bg} {S : Ky → Prop} (hX : Set1 X S) (he : E.length ≤ 1000) (hx : X.length ≤ 1000) : ref_LoopStep (E.map toR, X.map toR, ()) = some ((stepB E X).map toR, ()) := by
  have hlen := genL_length (E.map toR) (X.map toR)
  rw [List.length_map, List.length_map] at hlen
  have hm : X.length * (E.length + 1) ≤ 1000 * 1001 := Nat.mul_le_mul hx (by omega)
  have hone : ∀ r ∈ genL (E.map toR) (X.map toR), r.2.2.1 = 1 := by
    intro r hr
    unfold genL at hr
    obtain ⟨q, hq, hr⟩ := List.mem_flatMap.1 hr
    rcases List.mem_cons.1 hr with rfl | hr
    · obtain ⟨p, hp, rfl⟩ := List.mem_map.1 hq
      exact ((hX.mem p).1 hp).2
    · unfold genR at hr
      obtain ⟨e, -, rfl⟩ := List.mem_map.1 hr
      rfl
  unfold ref_LoopStep
  rw [ref_gen (by rw [List.length_map]; omega) (by rw [List.length_map]; omega)]
  simp only [Option.bind_some, Sum.elim_inl]
  rw [ref_There_eq (fun r hr => inR_one (hone r hr)) (by omega)]
  simp only [Option.bind_some]
  congr 3
  have hT := bagOf_is (genL (E.map toR) (X.map toR)) (m := []) (T := fun _ => 0) ⟨List.Pairwise.nil, fun _ => rfl, fun p hp => (nomatch hp)⟩
  refine set1_ext (there_is hT.rise) (stepB_is hX) fun k => ?_
  rw [hT.num k, tot_pos k _ _ hone (Int.le_refl _) (by show (0 : Int) + _ ≤ _; omega)]
  constructor
  · rintro (h | ⟨r, hr, rfl⟩)
    · exact absurd h (by simp)
    · unfold genL at hr
      obtain ⟨q, hq, hr⟩ := List.mem_flatMap.1 hr
      obtain ⟨p, hp, rfl⟩ := List.mem_map.1 hq
      rcases List.mem_cons.1 hr with rfl | hr
      · exact .inl ((hX.mem p).1 hp).1
      · unfold genR at hr
        obtain ⟨e, he', rfl⟩ := List.mem_map.1 hr
        obtain ⟨h1, h2⟩ := List.mem_filter.1 he'
        obtain ⟨e0, h3, rfl⟩ := List.mem_map.1 h1
        exact .inr ⟨p, hp, e0, h3, (eq_of_beq h2 : (toR e0).1 = (toR p).1), rfl⟩
  · rintro (h | ⟨p, hp, e, he', h1, rfl⟩)
    · refine .inr ⟨toR (k, 1), ?_, rfl⟩
      unfold genL
      exact List.mem_flatMap.2 ⟨toR (k, 1), List.mem_map.2 ⟨(k, 1), (hX.mem (k, 1)).2 ⟨h, rfl⟩, rfl⟩, List.mem_cons_self⟩
    · refine .inr ⟨(e.1.2.1, p.1.2.1, 1, ()), ?_, rfl⟩
      unfold genL
      refine List.mem_flatMap.2 ⟨toR p, List.mem_map.2 ⟨p, hp, rfl⟩, List.mem_cons_of_mem _ ?_⟩
      unfold genR
      exact List.mem_map.2 ⟨toR e, List.mem_filter.2 ⟨List.mem_map.2 ⟨e, he', rfl⟩, beq_iff_eq.2 (show (toR e).1 = (toR p).1 from h1)⟩, rfl⟩

end Go.Proofs.Try
