/- Lemmas on functions of the program, by name. -/
import Derived.Test.YtgepgleagefmeaaP18Funs
import Derived.Test.YtgepgleagefmeaaAbsSums
import Derived.Test.YtgepgleagefmeaaP18LemmasDiffsAdvances2
namespace Go.Proofs.Try
section
open Go Go.Abs


/-! Histories: times moved to a frontier. -/
theorem zip_bad {g : Int → Int → Int} (hg : ∀ x y, g x y = x ∨ g x y = y) : ∀ {a b : List Int}, a.any bad = false → b.any bad = false → (List.zipWith g a b).any bad = false
  | [], _, _, _ => by simp
  | _ :: _, [], _, _ => by simp
  | x :: a, y :: b, h1, h2 => by
    rw [List.any_cons, Bool.or_eq_false_iff] at h1 h2
    rw [List.zipWith_cons_cons, List.any_cons, zip_bad hg h1.2 h2.2, Bool.or_false]
    rcases hg x y with e | e
    · rw [e]; exact h1.1
    · rw [e]; exact h2.1
theorem chk_zip {g : Int → Int → Int} (hg : ∀ x y, g x y = x ∨ g x y = y) {a b : List Int} (hl : a.length = b.length) (ha : chk a = 0) (hb : chk b = 0) : chk (List.zipWith g a b) = 0 := by
  obtain ⟨h1, h2⟩ := chk_any ha
  obtain ⟨-, h3⟩ := chk_any hb
  have hlen : (List.zipWith g a b).length = a.length := by rw [List.length_zipWith, hl, Nat.min_self]
  unfold chk
  rw [hlen, if_neg h1, zip_bad hg h2 h3]; rfl
theorem chk_join {a b : List Int} (hl : a.length = b.length) (ha : chk a = 0) (hb : chk b = 0) : chk (joinL a b) = 0 := chk_zip (fun x y => by unfold mx; split <;> simp) hl ha hb
theorem chk_meet {a b : List Int} (hl : a.length = b.length) (ha : chk a = 0) (hb : chk b = 0) : chk (meetL a b) = 0 := chk_zip (fun x y => by unfold mn; split <;> simp) hl ha hb
theorem meet_self : ∀ a : List Int, meetL a a = a
  | [] => rfl
  | x :: a => by
    have ih := meet_self a
    unfold meetL at ih ⊢
    rw [List.zipWith_cons_cons, ih]
    congr 1
    unfold mn
    simp
def advS (t : List Int) (a f : List Int) : List Int := meetL a (joinL t f)
def advT (t f0 : List Int) (F : List (List Int)) : List Int := F.foldl (advS t) (joinL t f0)
structure FOK (d : Nat) (t : List Int) : Prop where
  len : t.length = d
  chk : chk t = 0
theorem advS_ok {d : Nat} {t a f : List Int} (ht : FOK d t) (ha : FOK d a) (hf : FOK d f) : FOK d (advS t a f) := by
  have hj : (joinL t f).length = d := (joinL_length (ht.len.trans hf.len.symm)).trans ht.len
  exact ⟨(meetL_length (ha.len.trans hj.symm)).trans ha.len, chk_meet (ha.len.trans hj.symm) ha.chk (chk_join (ht.len.trans hf.len.symm) ht.chk hf.chk)⟩
theorem adv_ok {d : Nat} {t : List Int} (ht : FOK d t) : ∀ {F : List (List Int)} {a : List Int}, FOK d a → (∀ f ∈ F, FOK d f) → FOK d (F.foldl (advS t) a)
  | [], _, ha, _ => ha
  | f :: F, a, ha, hF => by
    show FOK d (F.foldl (advS t) (advS t a f))
    exact adv_ok ht (advS_ok ht ha (hF f List.mem_cons_self)) fun g hg => hF g (List.mem_cons_of_mem _ hg)
theorem join_ok {d : Nat} {t f : List Int} (ht : FOK d t) (hf : FOK d f) : FOK d (joinL t f) :=
  ⟨(joinL_length (ht.len.trans hf.len.symm)).trans ht.len, chk_join (ht.len.trans hf.len.symm) ht.chk hf.chk⟩
theorem foldl_take {t a : List Int} {F : List (List Int)} {i : Nat} (h : i < F.length) : (F.take (i + 1)).foldl (advS t) a = advS t ((F.take i).foldl (advS t) a) F[i] := by
  rw [List.take_succ_eq_append_getElem h, List.foldl_append]; rfl
theorem le_four {d : Nat} {t : List Int} (h : FOK d t) : t.length ≤ 4 := (chk_zero h.chk).2.1
theorem adv_loop {d : Nat} {D : List Df} {f0 : List Int} {F : List (List Int)} {e : Df} (ht : FOK d e.1) (hf0 : FOK d f0) (hF : ∀ f ∈ F, FOK d f) (hl : F.length ≤ 100000) : loopM (diffs_Advance_l1 (D, f0 :: F, ()) e) (joinL e.1 f0, (0 : Int), ()) = some (.inl (advT e.1 f0 F, ())) := by
  have hdt : (((f0 :: F).drop (1 : Int).toNat).take (((f0 :: F).length : Int).toNat - (1 : Int).toNat)) = F := by
    rw [Int.toNat_natCast]
    show (F.take ((F.length + 1) - 1)) = F
    rw [Nat.add_sub_cancel, List.take_length]
  refine loopM_sim F.length (fun i => ((F.take i).foldl (advS e.1) (joinL e.1 f0), (i : Int), ())) _ (fun i hi => ?_) ?_ rfl
  · have hfi := hF F[i] (List.getElem_mem hi)
    have ha := adv_ok ht (join_ok ht hf0) (F := F.take i) fun g hg => hF g (List.mem_of_mem_take hg)
    have h4 := le_four ht
    have hj := join_ok ht hfi
    unfold diffs_Advance_l1
    simp only [hdt, dcT (show (i : Int) < (F.length : Int) by omega), cond_true, getI_nat, List.getElem?_eq_getElem hi, Option.bind_some, over_eq (ht.len.trans hfi.len.symm) (show e.1.length ≤ 1000000 by omega), meet_run (ha.len.trans hj.len.symm) ha.chk hj.chk, wrapS (show i < 9223372036854775807 by omega)]
    rw [foldl_take hi]; rfl
  · unfold diffs_Advance_l1
    simp only [hdt, dcF (show ¬ (F.length : Int) < (F.length : Int) by omega), cond_false, List.take_length]
    rfl
theorem ref_adv {d : Nat} {t f0 : List Int} {F : List (List Int)} (ht : FOK d t) (hf0 : FOK d f0) (hF : ∀ f ∈ F, FOK d f) (hl : F.length ≤ 100000) : ref_DiffsAdvance (t, f0 :: F, ()) = some (advT t f0 F, ()) := by
  have h4 := le_four ht
  have hall : ∀ f ∈ f0 :: F, FOK d f := fun f hf => by
    rcases List.mem_cons.1 hf with h | h
    · rw [h]; exact hf0
    · exact hF f h
  have hloop := loopM_sim (f := ref_DiffsAdvance_l1 (t, f0 :: F, ())) (s0 := (joinL t f0, (0 : Int), ())) (f0 :: F).length (fun i => (((f0 :: F).take i).foldl (advS t) (joinL t f0), (i : Int), ())) (.inl (advT t f0 F, ())) (fun i hi => by
    have hfi := hall (f0 :: F)[i] (List.getElem_mem hi)
    have ha := adv_ok ht (join_ok ht hf0) (F := (f0 :: F).take i) fun g hg => hall g (List.mem_of_mem_take hg)
    have hj := join_ok ht hfi
    have h5 := le_four ha
    have h6 : i ≤ 200000 := by simp only [List.length_cons] at hi; omega
    unfold ref_DiffsAdvance_l1
    simp only [dcT (show (i : Int) < ((f0 :: F).length : Int) by omega), cond_true, getI_nat, List.getElem?_eq_getElem hi, Option.bind_some, join_eq (ht.len.trans hfi.len.symm) (show t.length ≤ 900000 by omega), meet_eq (ha.len.trans hj.len.symm) (show (((f0 :: F).take i).foldl (advS t) (joinL t f0)).length ≤ 900000 by omega), wrapS (show i < 9223372036854775807 by omega)]
    rw [foldl_take hi]; rfl) (by
    unfold ref_DiffsAdvance_l1
    simp only [dcF (show ¬ ((f0 :: F).length : Int) < ((f0 :: F).length : Int) by omega), cond_false, List.take_length]
    show some (Sum.inr (Sum.inl (F.foldl (advS t) (advS t (joinL t f0) f0), ()))) = _
    unfold advS
    rw [meet_self]; rfl) rfl
  unfold ref_DiffsAdvance
  rw [show getI (f0 :: F) (0 : Int) = some f0 from rfl]
  simp only [Option.bind_some, join_eq (ht.len.trans hf0.len.symm) (show t.length ≤ 900000 by omega)]
  rw [hloop]; rfl
end

section
open Go Go.Abs


/-! Histories: moved, and told. -/
def movD (D : List Df) (f0 : List Int) (F : List (List Int)) : List Df := D.map fun e => (advT e.1 f0 F, e.2.1, ())
theorem movD_take (D : List Df) (f0 : List Int) (F : List (List Int)) (i : Nat) : movD (D.take i) f0 F = (movD D f0 F).take i := by unfold movD; rw [List.map_take]
theorem movD_num (D : List Df) (f0 : List Int) (F : List (List Int)) : numD (movD D f0 F) = numD D := by
  unfold movD numD
  rw [List.map_map]; rfl
theorem movD_good {D : List Df} (g : Good D) {d : Nat} {f0 : List Int} {F : List (List Int)} (hD : ∀ e ∈ D, FOK d e.1) (hf0 : FOK d f0) (hF : ∀ f ∈ F, FOK d f) : Good (movD D f0 F) where
  len := by unfold movD; rw [List.length_map]; exact g.len
  num := by rw [movD_num]; exact g.num
  chk e he := by
    obtain ⟨u, hu, rfl⟩ := List.mem_map.1 he
    exact (adv_ok (hD u hu) (join_ok (hD u hu) hf0) hF).chk
  same := ⟨d, fun e he => by
    obtain ⟨u, hu, rfl⟩ := List.mem_map.1 he
    exact (adv_ok (hD u hu) (join_ok (hD u hu) hf0) hF).len⟩
theorem ref_told_eq {D : List Df} (g : Good D) : ref_DiffsTold (D, ()) = some (told (tidyL D)) := by
  have g1 := g.len
  have g2 := g.num
  have t1 := tidy_len D
  have t2 := tidy_num D
  unfold ref_DiffsTold
  rw [ref_tidy_eq g]
  simp only [Option.bind_some]
  have hl := loopM_sim (f := ref_DiffsTold_l1 (tidyL D, ())) (s0 := ((0 : Int), (0 : Int), ())) (tidyL D).length (fun i => ((numD ((tidyL D).take i) : Int), (i : Int), ())) (.inl ((numD (tidyL D) : Int), ())) (fun i hi => by
    have h1 := num_take (tidyL D) i
    have h2 := len_le_num (List.getElem_mem hi)
    have hw : IntKind.i64.wrap ((numD ((tidyL D).take i) : Int) + ((tidyL D)[i].2.1.length : Int)) = ((numD ((tidyL D).take i) + (tidyL D)[i].2.1.length : Nat) : Int) := by
      rw [wrap64 (by omega) (by omega)]; omega
    unfold ref_DiffsTold_l1
    simp only [dcT (show (i : Int) < ((tidyL D).length : Int) by omega), cond_true, inB_T hi, Int.toNat_natCast, List.getElem?_eq_getElem hi, Option.bind_some, wrapS (show i < 9223372036854775807 by omega), hw, numD_take _ hi]) (by
    unfold ref_DiffsTold_l1
    simp only [dcF (show ¬ ((tidyL D).length : Int) < ((tidyL D).length : Int) by omega), cond_false, List.take_length]) rfl
  rw [hl]
  simp only [Option.bind_some, Sum.elim_inl]
  unfold told
  rw [if_neg (by omega), if_neg (by omega), dcF (show ¬ ((tidyL D).length : Int) > 64 by omega), dcF (show ¬ (numD (tidyL D) : Int) > 128 by omega)]
  rfl
theorem hisT_len (D : List Df) : ∀ i, i ≤ D.length → (hisT D i).length ≤ i
  | 0, _ => Nat.le_refl _
  | i + 1, hi2 => by
    have := hisT_len D i (by omega)
    unfold hisT
    rw [List.getElem?_eq_getElem hi2]
    have ml : ∀ (m : Hm) (k : HKy) (v : Option Bg), (mapSet HT m k v).length ≤ m.length + 1 := by
      intro m
      induction m with
      | nil => intro k v; simp [mapSet]
      | cons p r ih =>
        intro k v
        have := ih k v
        simp only [mapSet]
        cases HT.eqb k p.1 with
        | true => simp
        | false =>
          cases HT.lt k p.1 with
          | true => simp
          | false => simp only [cond_false, List.length_cons]; omega
    have := ml (hisT D i) (keyT D[i].1) (some (bagOf (D[i].2.1.map (sc 1)) (bagAt (D.take i) D[i].1)))
    show (mapSet HT (hisT D i) (keyT D[i].1) (some (bagOf (D[i].2.1.map (sc 1)) (bagAt (D.take i) D[i].1)))).length ≤ i + 1
    omega
theorem his_told {D : List Df} (g : Good D) : (allSome (hisT D D.length)).bind (fun v => (diffs_History_Tells (v, ())).bind fun r => some r) = some (told (tidyL D)) := by
  have g1 := g.len
  have g2 := g.num
  have h4 := good_times g
  have hi := hisT_is (D := D) (fun d hd => h4 d.1 (List.mem_map_of_mem hd)) D.length (Nat.le_refl _)
  rw [List.take_length] at hi
  rw [his_allB h4 hi]
  simp only [Option.bind_some]
  have hlen : (allB (hisT D D.length)).length ≤ 1000 := by
    have := hisT_len D D.length (Nat.le_refl _)
    unfold allB
    rw [List.length_map]; omega
  rw [tells_eq (by omega) h4 (fun t => by have := bag_rows D t; have := rows_le D t; omega) (his_mis h4 hi) hlen]; rfl
theorem adv_pour (d : Df) (m : Bg) (hl : d.2.1.length ≤ 3000000) : loopM (diffs_Advance_l2 d) ((0 : Int), m, ()) = some (.inl (bagOf (d.2.1.map (sc 1)) m, ())) := by
  refine loopM_sim d.2.1.length (fun i => ((i : Int), bagOf ((d.2.1.take i).map (sc 1)) m, ())) _ (fun i hi => ?_) ?_ rfl
  · unfold diffs_Advance_l2
    simp only [dcT (show (i : Int) < (d.2.1.length : Int) by omega), cond_true, getI_nat, List.getElem?_eq_getElem hi, Option.bind_some, wrapS (show i < 9223372036854775807 by omega)]
    rw [show bagOf ((d.2.1.take (i + 1)).map (sc 1)) m = pour (bagOf ((d.2.1.take i).map (sc 1)) m) (kyOf d.2.1[i]) (W (1 * d.2.1[i].2.2.1)) from bagOf_take d.2.1 1 m hi]
    unfold pour nOf W kyOf
    cases hq : (((mapGet KT (mapSet KT (mapEnt KT (bagOf ((d.2.1.take i).map (sc 1)) m) (d.2.1[i].1, d.2.1[i].2.1, ()) 0) (d.2.1[i].1, d.2.1[i].2.1, ()) (IntKind.i64.wrap (((mapGet KT (bagOf ((d.2.1.take i).map (sc 1)) m) (d.2.1[i].1, d.2.1[i].2.1, ())).getD 0) + IntKind.i64.wrap (1 * d.2.1[i].2.2.1)))) (d.2.1[i].1, d.2.1[i].2.1, ())).getD 0) == 0) with
    | true => simp only [cond_true]
    | false => simp only [cond_false]
  · unfold diffs_Advance_l2
    simp only [dcF (show ¬ (d.2.1.length : Int) < (d.2.1.length : Int) by omega), cond_false, List.take_length]
theorem adv_step {d : Nat} {D : List Df} {f0 : List Int} {F : List (List Int)} (hD : ∀ e ∈ D, FOK d e.1 ∧ e.2.1.length ≤ 3000000) (hf0 : FOK d f0) (hF : ∀ f ∈ F, FOK d f) (hFl : F.length ≤ 100000) {i : Nat} (hi : i < D.length) (hl : D.length ≤ 3000000) {E : List Df} {H : Hm} (h : HIs E H) :
    diffs_Advance_l4 (D, f0 :: F, ()) ((i : Int), H, ()) = some (.inl (((i + 1 : Nat) : Int), mapSet HT H (keyT (advT D[i].1 f0 F)) (some (bagOf (D[i].2.1.map (sc 1)) (bagAt E (advT D[i].1 f0 F)))), ())) := by
  obtain ⟨hk, hrl⟩ := hD D[i] (List.getElem_mem hi)
  have ha : FOK d (advT D[i].1 f0 F) := adv_ok hk (join_ok hk hf0) hF
  have h4 := le_four ha
  have h44 := le_four hk
  have hg := h.get (advT D[i].1 f0 F) h4
  have hcut : (decide (0 ≤ (1 : Int)) && decide ((1 : Int) ≤ ((f0 :: F).length : Int)) && decide (((f0 :: F).length : Int) ≤ (f0 :: F).length)) = true := by
    rw [dcT (show (1 : Int) ≤ ((f0 :: F).length : Int) by simp only [List.length_cons]; omega), dcT (Int.le_refl _)]; rfl
  unfold diffs_Advance_l4
  simp only [dcT (show (i : Int) < (D.length : Int) by omega), cond_true, getI_nat, List.getElem?_eq_getElem hi, Option.bind_some, wrapS (show i < 9223372036854775807 by omega)]
  rw [show getI (f0 :: F) (0 : Int) = some f0 from rfl]
  simp only [Option.bind_some, over_eq (hk.len.trans hf0.len.symm) (show D[i].1.length ≤ 1000000 by omega), hcut, cond_true]
  rw [adv_loop (D := D) hk hf0 hF hFl]
  simp only [Option.bind_some, Sum.elim_inl, keyOf_eq]
  by_cases hm : advT D[i].1 f0 F ∈ E.map (·.1)
  · rw [if_pos hm] at hg
    rw [show mapGet HT H (keyT (advT D[i].1 f0 F)) = _ from hg]
    simp only [Option.getD_some, optK]
    rw [show mapPut HT H (keyT (advT D[i].1 f0 F)) (some (bagAt E (advT D[i].1 f0 F))) = H from mapPut_same ht_flat h.rise hg, show mapGet HT H (keyT (advT D[i].1 f0 F)) = _ from hg]
    simp only [Option.getD_some]
    rw [show diffs_Advance_l3 = diffs_Advance_l2 from rfl, adv_pour _ _ hrl]
    simp only [Option.bind_some, Sum.elim_inl]
    rw [show mapPut HT H (keyT (advT D[i].1 f0 F)) (some (bagOf (D[i].2.1.map (sc 1)) (bagAt E (advT D[i].1 f0 F)))) = _ from put_there ht_flat h.rise hg _]
  · rw [if_neg hm] at hg
    rw [show mapGet HT H (keyT (advT D[i].1 f0 F)) = _ from hg]
    simp only [Option.getD_none, optK]
    rw [show mapGet HT (mapSet HT H (keyT (advT D[i].1 f0 F)) (some ([] : Bg))) (keyT (advT D[i].1 f0 F)) = _ from mapGet_self ht_flat _ _ _]
    simp only [Option.getD_some]
    rw [adv_pour _ _ hrl]
    simp only [Option.bind_some, Sum.elim_inl]
    rw [show mapPut HT (mapSet HT H (keyT (advT D[i].1 f0 F)) (some ([] : Bg))) (keyT (advT D[i].1 f0 F)) (some (bagOf (D[i].2.1.map (sc 1)) [])) = _ from put_set ht_flat h.rise _ _ _, bagAt_none hm]
theorem adv_main {d : Nat} {D : List Df} {f0 : List Int} {F : List (List Int)} (hD : ∀ e ∈ D, FOK d e.1 ∧ e.2.1.length ≤ 3000000) (hf0 : FOK d f0) (hF : ∀ f ∈ F, FOK d f) (hFl : F.length ≤ 100000) (hl : D.length ≤ 3000000) :
    loopM (diffs_Advance_l4 (D, f0 :: F, ())) ((0 : Int), ([] : Hm), ()) = some (.inl (hisT (movD D f0 F) D.length, ())) := by
  have hml : (movD D f0 F).length = D.length := by unfold movD; rw [List.length_map]
  have h4 : ∀ e ∈ movD D f0 F, e.1.length ≤ 4 := fun e he => by
    obtain ⟨u, hu, rfl⟩ := List.mem_map.1 he
    exact le_four (adv_ok (hD u hu).1 (join_ok (hD u hu).1 hf0) hF)
  refine loopM_sim D.length (fun i => ((i : Int), hisT (movD D f0 F) i, ())) _ (fun i hi => ?_) ?_ rfl
  · rw [adv_step hD hf0 hF hFl hi hl (hisT_is h4 i (by omega))]
    show _ = some (Sum.inl (_, (match (movD D f0 F)[i]? with
      | some d => mapSet HT (hisT (movD D f0 F) i) (keyT d.1) (some (bagOf (d.2.1.map (sc 1)) (bagAt ((movD D f0 F).take i) d.1)))
      | none => hisT (movD D f0 F) i), ()))
    rw [show (movD D f0 F)[i]? = some (advT D[i].1 f0 F, D[i].2.1, ()) from by unfold movD; rw [List.getElem?_map, List.getElem?_eq_getElem hi]; rfl]
  · unfold diffs_Advance_l4
    simp only [dcF (show ¬ (D.length : Int) < (D.length : Int) by omega), cond_false]
end

end Go.Proofs.Try
