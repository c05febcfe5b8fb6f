/- The plain law of LoopSteps. -/
import Derived.Test.YtoddbincogignaaP9Funs
import Derived.Test.YtoddbincogignaaAbsSums
import Derived.Test.YtoddbincogignaaP9LibLoop2
namespace Go.Proofs.Try
open Go Go.Abs


theorem l1_l2 (a b : List Rw) (m : Bg) (ha : a.length ≤ 2000000) : loopM (loop_Step_l1 (a, b, ())) ((0 : Int), m, ()) = some (.inl (bagOf a m, ())) := by
  have htk : ∀ i (h : i < a.length), bagOf (a.take (i + 1)) m = pour (bagOf (a.take i) m) (kyOf a[i]) a[i].2.2.1 := fun i h => by
    rw [List.take_succ_eq_append_getElem h, bagOf_append]; rfl
  have h := loopM_fold (f := loop_Step_l1 (a, b, ())) a.length (fun i => bagOf (a.take i) m) (.inl (bagOf a m, ())) (fun i hi => ?_) ?_
  · exact h
  · unfold loop_Step_l1
    simp only [dcT (show (i : Int) < (a.length : Int) by omega), cond_true, getI_nat, List.getElem?_eq_getElem hi, Option.bind_some, wrapS (show i < 9223372036854775807 by omega), htk i hi]
    unfold pour nOf W kyOf
    cases hq : (((mapGet KT (mapSet KT (mapEnt KT (bagOf (a.take i) m) (a[i].1, a[i].2.1, ()) 0) (a[i].1, a[i].2.1, ()) (IntKind.i64.wrap (((mapGet KT (bagOf (a.take i) m) (a[i].1, a[i].2.1, ())).getD 0) + a[i].2.2.1))) (a[i].1, a[i].2.1, ())).getD 0) == 0) with
    | true => simp only [cond_true, Option.bind_some, Sum.elim_inl]
    | false => simp only [cond_false, Option.bind_some, Sum.elim_inl]
  · unfold loop_Step_l1
    simp only [dcF (show ¬ (a.length : Int) < (a.length : Int) by omega), cond_false, List.take_length]
theorem l2_eq (a b : List Rw) (m : Bg) (hb : b.length ≤ 2000000) : loopM (loop_Step_l2 (a, b, ())) ((0 : Int), m, ()) = some (.inl (bagOf b m, ())) := by
  have : loop_Step_l2 (a, b, ()) = loop_Step_l1 (b, a, ()) := rfl
  rw [this, l1_l2 b a m hb]
theorem limit_l1 : loop_Limit_l1 = loop_Step_l1 := rfl
theorem limit_l2 : loop_Limit_l2 = loop_Step_l2 := rfl

def Prod1 (m : Bg) : Prop := ∃ S, Set1 m S
theorem step_sub {E X : Bg} {S : Ky → Prop} (h : Set1 X S) : ∀ p ∈ X, p ∈ stepB E X := fun p hp => by
  rw [(stepB_is (E := E) h).mem]
  exact ⟨.inl ((h.mem p).1 hp).1, ((h.mem p).1 hp).2⟩
theorem nd_split {α : Type} [DecidableEq α] : ∀ (X Y : List α), X.Nodup → (∀ p ∈ X, p ∈ Y) → ∃ Z, Y.Perm (X ++ Z)
  | [], Y, _, _ => ⟨Y, List.Perm.refl _⟩
  | x :: X, Y, hn, hs => by
    obtain ⟨h1, h2⟩ := List.nodup_cons.1 hn
    obtain ⟨Z, hz⟩ := nd_split X (Y.erase x) h2 fun p hp => (List.mem_erase_of_ne (show p ≠ x from fun e => h1 (by rw [← e]; exact hp))).2 (hs p (List.mem_cons_of_mem _ hp))
    exact ⟨Z, (List.perm_cons_erase (hs x List.mem_cons_self)).trans (hz.cons x)⟩
theorem step_length {E X : Bg} {S : Ky → Prop} (h : Set1 X S) : X.length ≤ (stepB E X).length := by
  obtain ⟨Z, hz⟩ := nd_split X (stepB E X) (bag_nodup h.rise) (step_sub h)
  rw [hz.length_eq, List.length_append]; omega
theorem step_same {E X : Bg} {S : Ky → Prop} (h : Set1 X S) (hl : (stepB E X).length = X.length) : stepB E X = X := by
  obtain ⟨Z, hz⟩ := nd_split X (stepB E X) (bag_nodup h.rise) (step_sub h)
  have hlz := hz.length_eq
  rw [List.length_append] at hlz
  have hz0 : Z = [] := List.eq_nil_of_length_eq_zero (by omega)
  rw [hz0, List.append_nil] at hz
  have hp : X.Perm (stepB E X) := hz.symm
  exact (rise_ext kt_flat h.rise (stepB_is (E := E) h).rise hp).symm

theorem same_neq (a b : List Rw) (h : a.length ≠ b.length) : ref_BagsSame (a, b, ()) = some (false, ()) := by
  unfold ref_BagsSame
  rw [bneT (show ¬ ((a.length : Int) = (b.length : Int)) by omega), cond_true]

/-- Both go round alike. -/
theorem limit_both {E : Bg} (he : E.length ≤ 128) (a0 x0 : List Rw) : ∀ (d : Nat) (X : Bg) (n : Nat), Prod1 X → X.length ≤ 128 → 128 < X.length + d → n + d ≤ 1000 →
    ∃ res : List Rw × Int × Int × Unit, loopM (loop_Limit_l3 (E, ())) (X, (n : Int), ()) = some (.inl res) ∧ loopM (ref_LoopLimit_l1 (E.map toR, x0, ())) (X.map toR, (n : Int), ()) = some (.inl res) ∧ res.1.length ≤ 1000
  | 0, X, n, _, h1, h2, _ => by omega
  | d + 1, X, n, hX, h1, h2, h3 => by
    obtain ⟨S, hS⟩ := hX
    have s1 := loop_step_eq (E := E) hS
    have s2 := ref_step_eq (E := E) hS (by omega) (by omega)
    have hle := step_length (E := E) hS
    have hd : decide (((stepB E X).length : Int) > 128) = decide ((stepB E X).length > 128) := decide_eq_decide.2 (by omega)
    by_cases hbig : (stepB E X).length > 128
    · refine ⟨([], 0, 1, ()), loopM_inr ?_, loopM_inr ?_, by simp⟩
      · unfold loop_Limit_l3
        simp only [s1, Option.bind_some, hd, dcT hbig, cond_true]
      · unfold ref_LoopLimit_l1 ref_Large
        simp only [s2, Option.bind_some, List.length_map, hd, dcT hbig, cond_true]
    · by_cases heq : (stepB E X).length = X.length
      · have hst := step_same hS heq
        refine ⟨(X.map toR, (n : Int), 0, ()), loopM_inr ?_, loopM_inr ?_, by rw [List.length_map]; omega⟩
        · unfold loop_Limit_l3
          simp only [s1, Option.bind_some, hd, dcF hbig, cond_false, beqT (show ((stepB E X).length : Int) = (X.length : Int) by omega), cond_true, rows_eq hS.rise (show X.length ≤ 3000000 by omega)]
        · unfold ref_LoopLimit_l1 ref_Large
          simp only [s2, Option.bind_some, List.length_map, hd, dcF hbig, cond_false]
          rw [hst, same_eq _ (by rw [List.length_map]; omega)]
          rfl
      · obtain ⟨res, r1, r2, r3⟩ := limit_both he a0 x0 d (stepB E X) (n + 1) ⟨_, stepB_is hS⟩ (by omega) (by omega) (by omega)
        refine ⟨res, ?_, ?_, r3⟩
        · rw [loopM_inl (s' := (stepB E X, ((n + 1 : Nat) : Int), ())) (by
            unfold loop_Limit_l3
            simp only [s1, Option.bind_some, hd, dcF hbig, cond_false, beqF (show ¬ ((stepB E X).length : Int) = (X.length : Int) by omega), wrapS (show n < 9223372036854775807 by omega)])]
          exact r1
        · rw [loopM_inl (s' := ((stepB E X).map toR, ((n + 1 : Nat) : Int), ())) (by
            unfold ref_LoopLimit_l1 ref_Large
            simp only [s2, Option.bind_some, List.length_map, hd, dcF hbig, cond_false, same_neq ((stepB E X).map toR) (X.map toR) (by rw [List.length_map, List.length_map]; exact heq), wrapS (show n < 9223372036854775807 by omega)])]
          exact r2

theorem loopSteps {a b : List Rw} (wa : ∀ r ∈ a, InR r.2.2.1) (wb : ∀ r ∈ b, InR r.2.2.1) : law_LoopSteps (a, b, ()) = some (true, ()) := by
  have d1 : decide ((a.length : Int) > 128) = decide (a.length > 128) := decide_eq_decide.2 (by omega)
  have d2 : decide ((b.length : Int) > 128) = decide (b.length > 128) := decide_eq_decide.2 (by omega)
  have e1 : ref_Large (a, ()) = some (decide (a.length > 128), ()) := by unfold ref_Large; rw [d1]
  have e2 : ref_Large (b, ()) = some (decide (b.length > 128), ()) := by unfold ref_Large; rw [d2]
  by_cases ha : a.length > 128
  · have hs : loop_Step (a, b, ()) = some ([], 1, ()) := by
      unfold loop_Step
      simp only [large_eq, Option.bind_some, dcT ha, Bool.true_or, cond_true]
    have hl : loop_Limit (a, b, ()) = some ([], 0, 1, ()) := by
      unfold loop_Limit
      simp only [large_eq, Option.bind_some, dcT ha, Bool.true_or, cond_true]
    unfold law_LoopSteps
    simp only [hs, hl, e1, Option.bind_some, dcT ha, cond_true]
    rfl
  by_cases hb : b.length > 128
  · have hs : loop_Step (a, b, ()) = some ([], 1, ()) := by
      unfold loop_Step
      simp only [large_eq, Option.bind_some, dcT hb, Bool.or_true, cond_true]
    have hl : loop_Limit (a, b, ()) = some ([], 0, 1, ()) := by
      unfold loop_Limit
      simp only [large_eq, Option.bind_some, dcT hb, Bool.or_true, cond_true]
    unfold law_LoopSteps
    simp only [hs, hl, e1, e2, Option.bind_some, dcF ha, cond_false, dcT hb, cond_true]
    rfl
  have la := bag_length a []
  have lb := bag_length b []
  rw [List.length_nil, Nat.zero_add] at la lb
  have ta := thereB_length (bagOf a [])
  have tb := thereB_length (bagOf b [])
  have hE := there_is (bag_rise a)
  have hX := there_is (bag_rise b)
  have t1 := loop_there_eq (bag_rise a)
  have t2 := loop_there_eq (bag_rise b)
  have s1 := loop_step_eq (E := thereB (bagOf a [])) hX
  have s2 := ref_step_eq (E := thereB (bagOf a [])) hX (by omega) (by omega)
  have q1 := ref_There_eq wa (by omega)
  have q2 := ref_There_eq wb (by omega)
  have hsl : (stepB (thereB (bagOf a [])) (thereB (bagOf b []))).length ≤ 2900000 := by
    have hg := bag_length (genL ((thereB (bagOf a [])).map toR) ((thereB (bagOf b [])).map toR)) []
    have hg2 := genL_length ((thereB (bagOf a [])).map toR) ((thereB (bagOf b [])).map toR)
    rw [List.length_map, List.length_map] at hg2
    have hm : (thereB (bagOf b [])).length * ((thereB (bagOf a [])).length + 1) ≤ 128 * 129 := Nat.mul_le_mul (by omega) (by omega)
    have hgen : ∀ (o : Bg) (x : Ky × Int) (E : Bg), (addE E x o).length ≤ o.length + E.length := by
      intro o x E
      induction E generalizing o with
      | nil => exact Nat.le_refl _
      | cons e r ih =>
        have hset : ∀ (m : Bg) (k : Ky) (v : Int), (mapSet KT m k v).length ≤ m.length + 1 := by
          intro m
          induction m with
          | nil => intro k v; simp [mapSet]
          | cons p r ih =>
            intro k v
            have := ih k v
            simp only [mapSet]
            cases KT.eqb k p.1 with
            | true => simp
            | false =>
              cases KT.lt k p.1 with
              | true => simp
              | false => simp only [cond_false, List.length_cons]; omega
        unfold addE
        simp only [List.foldl_cons]
        have h1 := ih (if e.1.1 = x.1.1 then mapSet KT o (e.1.2.1, x.1.2.1, ()) 1 else o)
        unfold addE at h1
        have h2 : (if e.1.1 = x.1.1 then mapSet KT o (e.1.2.1, x.1.2.1, ()) 1 else o).length ≤ o.length + 1 := by
          split
          · exact hset _ _ _
          · omega
        simp only [List.length_cons]
        omega
    have hfold : ∀ (l : List (Ky × Int)) (o E : Bg), (l.foldl (fun y a => addE E a y) o).length ≤ o.length + l.length * E.length := by
      intro l
      induction l with
      | nil => intro o E; simp
      | cons x r ih =>
        intro o E
        have h1 := ih (addE E x o) E
        have h2 := hgen o x E
        simp only [List.foldl_cons, List.length_cons, Nat.add_one_mul]
        omega
    have := hfold (thereB (bagOf b [])) (thereB (bagOf b [])) (thereB (bagOf a []))
    have hm2 : (thereB (bagOf b [])).length * (thereB (bagOf a [])).length ≤ 128 * 128 := Nat.mul_le_mul (by omega) (by omega)
    unfold stepB
    omega
  have hrows := rows_eq (stepB_is (E := thereB (bagOf a [])) hX).rise (show (stepB (thereB (bagOf a [])) (thereB (bagOf b []))).length ≤ 3000000 by omega)
  have hstep : loop_Step (a, b, ()) = some (cond (decide (((stepB (thereB (bagOf a [])) (thereB (bagOf b []))).map toR).length > 128)) ([], 1, ()) ((stepB (thereB (bagOf a [])) (thereB (bagOf b []))).map toR, 0, ())) := by
    have hd : decide (((stepB (thereB (bagOf a [])) (thereB (bagOf b []))).length : Int) > 128) = decide (((stepB (thereB (bagOf a [])) (thereB (bagOf b []))).map toR).length > 128) := decide_eq_decide.2 (by rw [List.length_map]; omega)
    unfold loop_Step
    simp only [large_eq, Option.bind_some, dcF ha, dcF hb, Bool.or_self, cond_false]
    rw [l1_l2 a b [] (by omega)]
    simp only [Option.bind_some, Sum.elim_inl, t1]
    rw [l2_eq a b [] (by omega)]
    simp only [Option.bind_some, Sum.elim_inl, t2, s1, hd]
    cases decide (((stepB (thereB (bagOf a [])) (thereB (bagOf b []))).map toR).length > 128) with
    | true => rfl
    | false => simp only [cond_false, hrows, Option.bind_some, Sum.elim_inl]
  obtain ⟨res, r1, r2, r3⟩ := limit_both (E := thereB (bagOf a [])) (by omega) a ((thereB (bagOf b [])).map toR) 200 (thereB (bagOf b [])) 0 ⟨_, hX⟩ (by omega) (by omega) (by omega)
  have hlim : loop_Limit (a, b, ()) = some res := by
    unfold loop_Limit
    simp only [large_eq, Option.bind_some, dcF ha, dcF hb, Bool.or_self, cond_false, limit_l1, limit_l2]
    rw [l1_l2 a b [] (by omega)]
    simp only [Option.bind_some, Sum.elim_inl, t1]
    rw [l2_eq a b [] (by omega)]
    simp only [Option.bind_some, Sum.elim_inl, t2]
    have r1' : loopM (loop_Limit_l3 (thereB (bagOf a []), ())) (thereB (bagOf b []), (0 : Int), ()) = some (.inl res) := r1
    rw [r1']
    simp only [Option.bind_some, Sum.elim_inl]
  have href : ref_LoopLimit ((thereB (bagOf a [])).map toR, (thereB (bagOf b [])).map toR, ()) = some res := by
    unfold ref_LoopLimit
    have r2' : loopM (ref_LoopLimit_l1 ((thereB (bagOf a [])).map toR, (thereB (bagOf b [])).map toR, ())) ((thereB (bagOf b [])).map toR, (0 : Int), ()) = some (.inl res) := r2
    rw [r2']
    simp only [Option.bind_some, Sum.elim_inl]
  have ht := told_eq false ((stepB (thereB (bagOf a [])) (thereB (bagOf b []))).map toR) (by rw [List.length_map]; omega)
  rw [cond_false] at ht
  unfold law_LoopSteps
  simp only [hstep, hlim, e1, e2, Option.bind_some, dcF ha, dcF hb, cond_false, q1, q2, s2, ht, Bool.not_true, href, beqT rfl, cond_true, same_eq res.1 (show res.1.length ≤ 3000000 by omega)]

theorem wf_i64' {x : Int} (h : (Lit.int .i64 x).wf = true) : IntKind.i64.wrap x = x := by
  refine IntWalk.i64_in x ?_
  simp [Lit.wf, IntKind.signed, IntKind.bits, IntKind.min, IntKind.max] at h
  omega
theorem loopSteps_law (x : ADen sp13.args) (wf : WfA sp13.args x) : law_LoopSteps x = some (true, ()) := by
  obtain ⟨a, b, ⟨⟩⟩ := x
  exact loopSteps (fun r hr => wf_i64' (wf.1.2 r hr).2.2.1) (fun r hr => wf_i64' (wf.2.1.2 r hr).2.2.1)

end Go.Proofs.Try
