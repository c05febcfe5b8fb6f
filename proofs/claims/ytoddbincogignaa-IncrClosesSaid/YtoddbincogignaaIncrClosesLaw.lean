/- The plain law of IncrCloses. -/
import Derived.Test.YtoddbincogignaaP12Funs
import Derived.Test.YtoddbincogignaaAbsSums
import Derived.Test.YtoddbincogignaaP12LemmasIncrCloses2
namespace Go.Proofs.Try
open Go Go.Abs


theorem nd_split {α : Type} [DecidableEq α] : ∀ (X Y : List α), X.Nodup → (∀ p ∈ X, p ∈ Y) → ∃ Z, Y.Perm (X ++ Z)
  | [], Y, _, _ => ⟨Y, List.Perm.refl _⟩
  | x :: X, Y, hn, hs => by
    obtain ⟨h1, h2⟩ := List.nodup_cons.1 hn
    obtain ⟨Z, hz⟩ := nd_split X (Y.erase x) h2 fun p hp => (List.mem_erase_of_ne (show p ≠ x from fun e => h1 (by rw [← e]; exact hp))).2 (hs p (List.mem_cons_of_mem _ hp))
    exact ⟨Z, (List.perm_cons_erase (hs x List.mem_cons_self)).trans (hz.cons x)⟩
theorem nd_le {α : Type} [DecidableEq α] {X Y : List α} (hn : X.Nodup) (hs : ∀ p ∈ X, p ∈ Y) : X.length ≤ Y.length := by
  obtain ⟨Z, hz⟩ := nd_split X Y hn hs
  rw [hz.length_eq, List.length_append]; omega
theorem nd_all {α : Type} [DecidableEq α] {X Y : List α} (hn : X.Nodup) (hs : ∀ p ∈ X, p ∈ Y) (hl : Y.length = X.length) : ∀ p ∈ Y, p ∈ X := by
  obtain ⟨Z, hz⟩ := nd_split X Y hn hs
  have hlz := hz.length_eq
  rw [List.length_append] at hlz
  have hz0 : Z = [] := List.eq_nil_of_length_eq_zero (by omega)
  rw [hz0, List.append_nil] at hz
  exact fun p hp => hz.mem_iff.1 hp
theorem up_nodup {l : List (List Int)} (h : up l) : l.Nodup := List.Pairwise.imp (fun {a b} hab e => by rw [e] at hab; exact cmpL_irr b hab) h

theorem closure_run {ts : List (List Int)} {d : Nat} (hd : d ≤ 4) (hts : ∀ t ∈ ts, chk t = 0 ∧ t.length = d) (hn : ts.length ≤ 64) : ∀ (k : Nat) (out : List (List Int)), up out → (∀ x ∈ out, Jall ts x) → (∀ t ∈ ts, t ∈ out) → out.length ≤ 64 → 64 < out.length + k →
    (loopM (ref_Closure_l1 (ts, ())) (out, ()) = some (.inl ([], false, ())) ∧ ∃ big : List (List Int), 64 < big.length ∧ big.Nodup ∧ ∀ x ∈ big, Jall ts x) ∨
    ∃ out', loopM (ref_Closure_l1 (ts, ())) (out, ()) = some (.inl (out', true, ())) ∧ up out' ∧ out'.length ≤ 64 ∧ ∀ x, x ∈ out' ↔ Jall ts x
  | 0, out, _, _, _, h1, h2 => by omega
  | k + 1, out, hup, hsub, hin, h1, h2 => by
    have hq : ∀ x, Jall ts x → chk x = 0 ∧ x.length = d := jall_all (Q := fun x => chk x = 0 ∧ x.length = d) (fun a b ha hb => ⟨chk_join (by omega) ha.1 hb.1, by rw [joinL_length (by omega)]; exact ha.2⟩) ts (S := fun _ => False) (fun x h => h.elim) hts
    have hc := jall_clos ts
    have hall : ∀ x ∈ out ++ joins ts out, Jall ts x := fun x hx => by
      rcases List.mem_append.1 hx with hx | hx
      · exact hsub x hx
      · unfold joins at hx
        obtain ⟨t, ht, hx⟩ := List.mem_flatMap.1 hx
        obtain ⟨y, hy, rfl⟩ := List.mem_map.1 hx
        exact hc.join t ht y (hsub y hy)
    have hjl := joins_length ts out
    have hm : ts.length * out.length ≤ 64 * 64 := Nat.mul_le_mul hn h1
    have hlen : (out ++ joins ts out).length ≤ 100000 := by rw [List.length_append]; omega
    obtain ⟨s1, s2, s3⟩ := sort_facts (out ++ joins ts out)
    have e1 := ref_joins_eq hd (fun t ht => (hts t ht).2) (fun x hx => (hq x (hsub x hx)).2) hn h1
    have e2 := ref_all_eq (a := out) (b := joins ts out) (by omega) (by omega)
    have e3 := ref_TimesSorted_eq hlen d (fun t ht => hq t (hall t ht))
    have hnx : ∀ x ∈ out, x ∈ sortT (out ++ joins ts out) := fun x hx => (s2 x).2 (List.mem_append_left _ hx)
    have hsn : ∀ x ∈ sortT (out ++ joins ts out), Jall ts x := fun x hx => hall x ((s2 x).1 hx)
    have hle := nd_le (up_nodup hup) hnx
    by_cases hbig : (sortT (out ++ joins ts out)).length > 64
    · left
      refine ⟨loopM_inr ?_, _, hbig, up_nodup s3, hsn⟩
      unfold ref_Closure_l1
      simp only [e1, e2, e3, Option.bind_some, dcT (show ((sortT (out ++ joins ts out)).length : Int) > 64 by omega), cond_true]
    · by_cases heq : (sortT (out ++ joins ts out)).length = out.length
      · right
        refine ⟨out, loopM_inr ?_, hup, h1, fun x => ⟨hsub x, ?_⟩⟩
        · unfold ref_Closure_l1
          simp only [e1, e2, e3, Option.bind_some, dcF (show ¬ ((sortT (out ++ joins ts out)).length : Int) > 64 by omega), cond_false, beqT (show ((sortT (out ++ joins ts out)).length : Int) = (out.length : Int) by omega), cond_true]
        · have hback := nd_all (up_nodup hup) hnx heq
          have hj : ∀ t ∈ ts, ∀ y ∈ out, joinL t y ∈ out := fun t ht y hy => hback _ ((s2 _).2 (List.mem_append_right _ (List.mem_flatMap.2 ⟨t, ht, List.mem_map.2 ⟨y, hy, rfl⟩⟩)))
          have key : ∀ (r : List (List Int)) {S : List Int → Prop}, (∀ y, S y → y ∈ out) → (∀ t ∈ r, t ∈ ts) → ∀ x, r.foldl Jn S x → x ∈ out := by
            intro r
            induction r with
            | nil => intro S hS _ x hx; exact hS x hx
            | cons t r ih =>
              intro S hS hr x hx
              refine ih (S := Jn S t) (fun y hy => ?_) (fun s hs => hr s (List.mem_cons_of_mem _ hs)) x hx
              rcases hy with hy | rfl | ⟨z, hz, rfl⟩
              · exact hS y hy
              · exact hin _ (hr _ List.mem_cons_self)
              · exact hj _ (hr _ List.mem_cons_self) z (hS z hz)
          exact key ts (S := fun _ => False) (fun y h => h.elim) (fun t ht => ht) x
      · have hst : ref_Closure_l1 (ts, ()) (out, ()) = some (.inl (sortT (out ++ joins ts out), ())) := by
          unfold ref_Closure_l1
          simp only [e1, e2, e3, Option.bind_some, dcF (show ¬ ((sortT (out ++ joins ts out)).length : Int) > 64 by omega), cond_false, beqF (show ¬ ((sortT (out ++ joins ts out)).length : Int) = (out.length : Int) by omega)]
        rw [loopM_inl hst]
        exact closure_run hd hts hn k (sortT (out ++ joins ts out)) s3 hsn (fun t ht => hnx t (hin t ht)) (by omega) (by omega)

theorem sortD_up {l : List (List Int)} (hn : l.Nodup) : up (sortD l) := by
  have h1 := sortD_srt l
  have h2 : (sortD l).Nodup := (sortD_perm l).nodup_iff.2 hn
  have h3 := h1.and h2
  refine List.Pairwise.imp (fun {a b} h => ?_) h3
  obtain ⟨g1, g2⟩ := h
  have hneg := cmpL_neg a b
  by_cases h0 : cmpL a b = 0
  · exact absurd (cmpL_eq.1 h0) g2
  · omega

theorem incrCloses (ts : List (List Int)) : law_IncrCloses (ts, ()) = some (true, ()) := by
  unfold law_IncrCloses incr_Closure
  simp only [times_List_eq, ref_TimesList_eq, Option.bind_some]
  by_cases h0 : tlist ts = 0
  · obtain ⟨hn, hall⟩ := tlist_zero h0
    have hd : (ts.getD 0 []).length ≤ 4 := by
      cases ts with
      | nil => simp
      | cons t r =>
        have := (chk_zero (hall t List.mem_cons_self).1).2.1
        have h2 := (hall t List.mem_cons_self).2
        omega
    obtain ⟨s1, s2, s3⟩ := sort_facts ts
    have hc := jall_clos ts
    have e0 := ref_TimesSorted_eq (l := ts) (by omega) _ hall
    have hcl : ∀ r, loopM (ref_Closure_l1 (ts, ())) (sortT ts, ()) = some (.inl r) → ref_Closure (ts, ()) = some r := fun r hr => by
      unfold ref_Closure
      simp only [e0, Option.bind_some]
      rw [hr]; rfl
    simp only [h0, bneF rfl, cond_false]
    rcases closed_run hd (fun t ht => (hall t ht).2) hn with ⟨p1, big, p2, p3, p4⟩ | ⟨l, p1, p2, p3, p4⟩ <;>
      rcases closure_run hd hall hn 66 (sortT ts) s3 (fun x hx => hc.mem x ((s2 x).1 hx)) (fun t ht => (s2 t).2 ht) (by omega) (by omega) with ⟨q1, big', q2, q3, q4⟩ | ⟨out', q1, q2, q3, q4⟩
    · simp only [p1, hcl _ q1, Option.bind_some, Bool.not_false, cond_true]
      rfl
    · have := nd_le p3 (fun x hx => (q4 x).2 (p4 x hx))
      omega
    · have := nd_le q3 (fun x hx => (p4 x).2 (q4 x hx))
      omega
    · have hsame : sortD l = out' := up_same (sortD_up p3) q2 fun t => by rw [(sortD_perm l).mem_iff, p4, q4]
      have hq : ∀ x, Jall ts x → x.length ≤ 1000000 := fun x hx => by
        have := jall_all (Q := fun x => x.length = (ts.getD 0 []).length) (fun a b ha hb => by rw [joinL_length (by omega)]; exact ha) ts (S := fun _ => False) (fun x h => h.elim) (fun t ht => (hall t ht).2) x hx
        omega
      simp only [p1, hcl _ q1, Option.bind_some, Bool.not_true, cond_false, hsame, beqT rfl, cond_true]
      rw [ref_Lists_same (by omega) fun x hx => hq x ((q4 x).1 hx)]
      rfl
  · simp only [bneT h0, cond_true, Option.bind_some, beqT rfl]
    rfl

theorem incrCloses_law (x : ADen sp12.args) (_ : WfA sp12.args x) : law_IncrCloses x = some (true, ()) := by
  obtain ⟨ts, ⟨⟩⟩ := x
  exact incrCloses ts

end Go.Proofs.Try
