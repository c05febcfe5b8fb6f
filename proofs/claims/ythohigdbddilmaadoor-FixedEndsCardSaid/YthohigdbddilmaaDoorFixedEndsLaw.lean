/- The plain law of FixedEnds. -/
import Derived.Test.YthohigdbddilmaaDoorD2Funs
import Derived.Test.YthohigdbddilmaaDoorAbsSums
import Derived.Test.YthohigdbddilmaaDoorD2LibEnds
import Derived.Test.YthohigdbddilmaaDoorD2LibWords
namespace Go.Proofs.Tryd
open Go Go.Abs


theorem ends_bad {N : Int} {ws : List Nat} (hf : Fit ws) {f : List Int} (hlen : f.length ≤ 9223372036854775807) (h : endc N ws f ≠ 0) :
    fixed_Least ((N, cl ws, ()), f, ()) = some (0, 0, endc N ws f, ()) ∧ fixed_Greatest ((N, cl ws, ()), f, ()) = some (0, 0, endc N ws f, ()) := by
  unfold fixed_Least fixed_Greatest
  rw [lattice_Of_eq hf]
  unfold endc at h ⊢
  by_cases hl : latc N ws = 0
  · obtain ⟨h0, hpos, hlat⟩ := latc_zero hl
    obtain ⟨h1, h2, h3, hin, o⟩ := ordc_zero h0
    obtain ⟨n, rfl⟩ := Int.eq_ofNat_of_zero_le h1
    rw [if_pos hl] at h ⊢
    have h : ¬ monoc n ws f = 0 := h
    have hm := fixed_monotone_eq hf (show ws.length = n by omega) (show n ≤ 16 by omega) hin hlen
    constructor <;> simp (disch := first | assumption | omega) only [cond_true, Option.bind_some, Sum.elim_inl, Int.toNat_natCast, if_true, hl, beqT, bneT, hm]
  · rw [if_neg hl] at h ⊢
    constructor <;> simp (disch := first | assumption | omega) only [cond_true, cond_false, Option.bind_some, Sum.elim_inl, if_false, hl, beqF, bneT]

/-- THE LAW. -/
theorem fixedEnds {N : Int} {ws : List Nat} (hf : Fit ws) {f : List Int} (hlen : f.length ≤ 9223372036854775807) : law_FixedEnds ((N, cl ws, ()), f, ()) = some (true, ()) := by
  unfold law_FixedEnds
  rw [ref_LatticeMake_eq hf]
  by_cases he : endc N ws f = 0
  · unfold endc at he
    by_cases hl : latc N ws = 0
    · obtain ⟨h0, hpos, hlat⟩ := latc_zero hl
      obtain ⟨h1, h2, h3, hin, o⟩ := ordc_zero h0
      obtain ⟨n, rfl⟩ := Int.eq_ofNat_of_zero_le h1
      have hws : ws.length = n := by omega
      have hn : n ≤ 16 := by omega
      have o : IsOrder n ws := o
      rw [if_pos hl] at he
      have he : monoc n ws f = 0 := he
      obtain ⟨hi, hm⟩ := monoc_zero he
      obtain ⟨fs, rfl, hfl, hlt⟩ := into_nat hi
      rw [map_cl] at hm
      have hmono := mono_of hm
      have hlat : latB n ws = true := hlat
      obtain ⟨⟨b1, b2⟩, t1, t2⟩ := lat_ends o (show 0 < n by omega) hlat
      obtain ⟨K, hK, hs⟩ := settles_up o hlt hmono b1 b2
      obtain ⟨J, hJ, ht⟩ := settles_up (order_down o) hlt (fun a c ha hc h => by
        rw [below_down ha hc] at h
        rw [below_down (hlt a ha) (hlt c hc)]
        exact hmono c a hc ha h) t1 t2
      have q1 := fixed_monotone_eq hf hws hn hin hlen
      have q2 := ref_FixedCheck_eq hf hws hn hlen
      have p1 : fixed_Least (((n : Int), cl ws, ()), cl fs, ()) = some (((itr fs (topTo n (downW n ws) n) K : Nat) : Int), (K : Int), 0, ()) := by
        unfold fixed_Least fixed_Least_c1
        rw [lattice_Of_eq hf]
        unfold latR
        simp (disch := first | assumption | omega) only [cond_true, cond_false, Option.bind_some, Sum.elim_inl, Int.toNat_natCast, if_true, hl, beqT, bneF, q1, he, fixed_Least_l1_eq hn hfl hlt _ b1 hK hs]
      have p2 : fixed_Greatest (((n : Int), cl ws, ()), cl fs, ()) = some (((itr fs (topTo n ws n) J : Nat) : Int), (J : Int), 0, ()) := by
        unfold fixed_Greatest fixed_Greatest_c1
        rw [fixed_Greatest_l1_same, lattice_Of_eq hf]
        unfold latR
        simp (disch := first | assumption | omega) only [cond_true, cond_false, Option.bind_some, Sum.elim_inl, Int.toNat_natCast, if_true, hl, beqT, bneF, q1, he, fixed_Least_l1_eq hn hfl hlt _ t1 hJ ht]
      unfold latR
      simp (disch := first | assumption | omega) only [cond_true, cond_false, Option.bind_some, Sum.elim_inl, Int.toNat_natCast, if_true, p1, p2, hl, beqT, bneF, q2, he, ref_FixedFrom_eq hn hfl hlt b1 hK hs, ref_FixedFrom_eq hn hfl hlt t1 hJ ht]
    · rw [if_neg hl] at he; exact absurd he hl
  · obtain ⟨p1, p2⟩ := ends_bad hf hlen he
    rw [p1, p2]
    unfold endc at he ⊢
    by_cases hl : latc N ws = 0
    · obtain ⟨h0, hpos, hlat⟩ := latc_zero hl
      obtain ⟨h1, h2, h3, hin, o⟩ := ordc_zero h0
      obtain ⟨n, rfl⟩ := Int.eq_ofNat_of_zero_le h1
      rw [if_pos hl] at he ⊢
      have he : ¬ monoc n ws f = 0 := he
      have q2 := ref_FixedCheck_eq hf (show ws.length = n by omega) (show n ≤ 16 by omega) hlen
      simp (disch := first | assumption | omega) only [cond_true, Option.bind_some, Sum.elim_inl, Int.toNat_natCast, if_true, hl, beqT, bneT, q2]
    · rw [if_neg hl]
      simp (disch := first | assumption | omega) only [cond_true, cond_false, Option.bind_some, Sum.elim_inl, if_false, hl, beqF, bneT, beqT]

theorem fixedEnds_law (x : ADen sp9.args) (h : WfA sp9.args x) : law_FixedEnds x = some (true, ()) := by
  obtain ⟨⟨N, l, ⟨⟩⟩, f, ⟨⟩⟩ := x
  obtain ⟨ws, rfl, hf⟩ := words_of h.1.2.1
  exact fixedEnds hf h.2.1.1

end Go.Proofs.Tryd
