/- The plain law of PolarConcepts. -/
import Derived.Test.YtoddbincogignaaDoorD5Funs
import Derived.Test.YtoddbincogignaaDoorAbsSums
import Derived.Test.YtoddbincogignaaDoorD5LibConc
namespace Go.Proofs.Tryd
open Go Go.Abs


section
variable {rs : List Nat} {C : Nat}
theorem cmp_u32 (v w : Int) : cmp_Compare_uint32 (v, w, ()) = some (if v < w then -1 else if v > w then 1 else 0, ()) := by
  unfold cmp_Compare_uint32 cmp_isNaN_uint32
  have h : ∀ a : Int, (a != a) = false := fun a => bneF rfl
  simp only [Option.bind_some, h, cond_false]
  by_cases h1 : v < w
  · simp [h1]
  · by_cases h2 : v > w
    · simp [h1, h2]
    · simp [h1, h2]
theorem conc_sorted {l : List Nat} (hup : l.Pairwise (· < ·)) : sortP (fun a b => (polar_Concepts_c1 (a, b, ())).map fun r => r.1) (l.map (conc rs C)) = some (l.map (conc rs C)) := by
  have hc : ∀ a b : Cp, (polar_Concepts_c1 (a, b, ())).map (fun r => r.1) = some (if a.1 < b.1 then -1 else if a.1 > b.1 then 1 else 0) := fun a b => by
    unfold polar_Concepts_c1
    simp only [cmp_u32, Option.bind_some, Option.map_some]
  have hlt : ∀ a b : Cp, ltF (fun a b => (polar_Concepts_c1 (a, b, ())).map fun r => r.1) a b ↔ a.1 < b.1 := fun a b => by
    unfold ltF
    simp only [hc]
    constructor
    · rintro ⟨v, h1, h2⟩
      cases h1
      split at h2
      · assumption
      · split at h2 <;> omega
    · intro h
      exact ⟨-1, by rw [if_pos h], by decide⟩
  refine sortP_eq ⟨fun x _ y _ => ⟨_, hc x y⟩, fun x _ h => by rw [hlt] at h; omega, fun x _ y _ z _ h1 h2 => by rw [hlt] at *; omega, fun x hx y hy h1 h2 => ?_⟩ (List.Perm.refl _) ?_
  · rw [hlt] at h1 h2
    obtain ⟨a, -, rfl⟩ := List.mem_map.1 hx
    obtain ⟨b, -, rfl⟩ := List.mem_map.1 hy
    have h1 : ¬ (a : Int) < (b : Int) := h1
    have h2 : ¬ (b : Int) < (a : Int) := h2
    rw [show a = b from by omega]
  · unfold Srt
    rw [List.pairwise_map]
    refine hup.imp fun {a b} hab h => ?_
    rw [hlt] at h
    have h : (b : Int) < (a : Int) := h
    omega
theorem clFrom_up (w : Nat) : (clFrom rs C w).Pairwise (· < ·) := by
  unfold clFrom
  exact (List.pairwise_lt_range' (s := w) (n := 2 ^ rs.length - w)).filter _
theorem polar_Concepts_eq (hf : Fit rs) (C : Int) : polar_Concepts ((cl rs, C, ()), ()) = some (if polc rs C = 0 then (if (clFrom rs C.toNat 0).length > 256 then ([], 1, ()) else ((clFrom rs C.toNat 0).map (conc rs C.toNat), 0, ())) else ([], polc rs C, ())) := by
  unfold polar_Concepts
  simp only [polar_open_eq hf, Option.bind_some, cond_bne]
  by_cases h : polc rs C = 0
  · obtain ⟨h1, h2, h3, h4⟩ := polc_zero h
    obtain ⟨c, rfl⟩ := Int.eq_ofNat_of_zero_le h2
    have hc : c ≤ 16 := by omega
    have hp : 0 < 2 ^ rs.length := Nat.pow_pos (by decide)
    have hup : polar_sides_up ((cl rs, cl (tab c (colW rs rs.length)), ()), (0 : Int), ()) = some (((upW rs c 0 : Nat) : Int), ()) := sides_up_eq (w := 0) hf hc hp h1
    have hdn : polar_sides_down ((cl rs, cl (tab c (colW rs rs.length)), ()), ((upW rs c 0 : Nat) : Int), ()) = some (((clo rs c 0 : Nat) : Int), ()) := sides_down_eq (C := c) hf hc (wordOf_lt ..) h1
    have hcc : clo rs c (clo rs c 0) = clo rs c 0 := clo_clo _ _ _ fun i hi => by rw [Nat.zero_testBit] at hi; cases hi
    have hfirst : clFrom rs c 0 = clFrom rs c (clo rs c 0) := clFrom_skip (clo rs c 0) 0 _ (by omega) fun x _ hx hx2 hcx => by
      have : clo rs c 0 ≤ x := sub_le rs.length (clo_lt ..) hx2 fun j hj => by
        rw [← hcx]
        exact clo_mono (fun k hk => by rw [Nat.zero_testBit] at hk; cases hk) j hj
      omega
    have key := conc_loop (C := c) hf hc h1 ((0 : Int), ()) (2 ^ rs.length) (clo rs c 0) [] (by omega) (clo_lt ..) hcc (by simp)
    simp only [h, if_true, Int.toNat_natCast, hup, hdn, Option.bind_some, key, List.length_nil, Nat.zero_add, List.nil_append, ← hfirst]
    by_cases hm : (clFrom rs c 0).length > 256
    · simp only [if_pos hm, Sum.elim_inl]
    · simp only [if_neg hm, Sum.elim_inr, Sum.elim_inl]
      rw [room_ok (by rw [List.length_map]; omega) (by rw [List.length_map]; omega)]
      simp only [cond_true, conc_sorted (clFrom_up 0), Option.bind_some]
  · simp only [h, if_false]
theorem law_loop {l : List Cp} (hl : l.length ≤ 1000) (z : Int × Unit) (z2 : Unit) : loopM (law_PolarConcepts_l1 (l, z) (l, z2)) ((0 : Int), ()) = some (.inr (.inl ())) := by
  have k := loopM_exit (f := law_PolarConcepts_l1 (l, z) (l, z2)) l.length (fun i => ((i : Int), ())) (fun _ => (none : Option (Bool × Unit))) (.inl ()) (fun i hi => by
    unfold law_PolarConcepts_l1
    simp only [dcT (show (i : Int) < (l.length : Int) by omega), cond_true, getI_lt hi, Option.bind_some, inB_T hi, Int.toNat_natCast, List.getElem?_eq_getElem hi, beqT rfl, Bool.and_true, Bool.not_true, cond_false, wrapS (show i < 9223372036854775807 by omega)]
    rfl) (by
    unfold law_PolarConcepts_l1
    simp only [dcF (show ¬ (l.length : Int) < (l.length : Int) by omega), cond_false]) (s0 := ((0 : Int), ())) rfl
  rw [k, show (List.range l.length).findSome? (fun _ => (none : Option (Bool × Unit))) = none by simp]
  rfl
/-- THE LAW. -/
theorem polarConcepts (hf : Fit rs) (C : Int) : law_PolarConcepts ((cl rs, C, ()), ()) = some (true, ()) := by
  unfold law_PolarConcepts
  simp only [polar_Concepts_eq hf, ref_PolarCheck_eq hf, Option.bind_some, cond_bne]
  by_cases h : polc rs C = 0
  · obtain ⟨h1, h2, h3, h4⟩ := polc_zero h
    obtain ⟨c, rfl⟩ := Int.eq_ofNat_of_zero_le h2
    have hc : c ≤ 16 := by omega
    obtain ⟨r, r1, r2, r3⟩ := rconc_loop (rs := rs) (C := c) hf hc h1 256 (2 ^ rs.length) 0 [] (Nat.sub_le _ _) (Nat.zero_le _) (by simp) (by decide)
    have e0 : ((0 : Nat) : Int) = 0 := rfl
    have e1 : ((256 : Nat) : Int) = 256 := rfl
    rw [e0, e1] at r1
    have hr : ref_PolarConcepts ((cl rs, (c : Int), ()), (256 : Int), ()) = some (r, ()) := by
      unfold ref_PolarConcepts
      rw [r1]; rfl
    rw [List.length_nil, Nat.zero_add, List.nil_append] at r2
    rw [List.length_nil, Nat.zero_add] at r3
    simp only [h, if_true, Int.toNat_natCast, hr, Option.bind_some]
    by_cases hm : (clFrom rs c 0).length > 256
    · have := r3 hm
      simp only [if_pos hm, dcT (show (r.length : Int) > 256 by omega), cond_true, beqT rfl, List.length_nil]
      rfl
    · have hre := r2 (by omega)
      have hlen : r.length = (clFrom rs c 0).length := by rw [hre, List.length_map]
      simp only [if_neg hm, dcF (show ¬ (r.length : Int) > 256 by omega), cond_false, if_true, ← hre, law_loop (show r.length ≤ 1000 by omega), Option.bind_some, Sum.elim_inr, Sum.elim_inl]
  · simp only [h, if_false, beqT rfl, cond_true, List.length_nil]
    rfl
end

theorem polarConcepts_law (x : ADen sp3.args) (h : WfA sp3.args x) : law_PolarConcepts x = some (true, ()) := by
  obtain ⟨⟨l, C, ⟨⟩⟩, ⟨⟩⟩ := x
  obtain ⟨ws, rfl, hf⟩ := words_of h.1.1
  exact polarConcepts hf C

end Go.Proofs.Tryd
