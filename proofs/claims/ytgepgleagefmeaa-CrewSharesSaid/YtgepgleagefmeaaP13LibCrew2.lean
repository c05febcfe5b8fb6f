/- Lemmas on functions of the program, by name: crew2. -/
import Derived.Test.YtgepgleagefmeaaP13Funs
import Derived.Test.YtgepgleagefmeaaAbsSums
import Derived.Test.YtgepgleagefmeaaP13LibCrew1
namespace Go.Proofs.Try
open Go Go.Abs


/-! Bags, split: what the functions come to. -/
abbrev OB := List (Option Bg)
theorem crew_l1 {n : Nat} (h4 : n ≤ 4) (a : List Rw) : loopM (crew_Shares_l1 ((n : Int), a, ())) ((0 : Int), List.replicate n (none : Option Bg), ()) = some (.inl (List.replicate n (some []), ())) := by
  refine loopM_sim n (fun i => ((i : Int), List.replicate i (some []) ++ List.replicate (n - i) (none : Option Bg), ())) _ (fun i hi => ?_) ?_ rfl
  · have hc : n - i = (n - (i + 1)) + 1 := by omega
    have hr : List.replicate (n - i) (none : Option Bg) = none :: List.replicate (n - (i + 1)) none := by rw [hc]; rfl
    have hlen : (List.replicate i (some ([] : Bg)) ++ List.replicate (n - i) (none : Option Bg)).length = n := by rw [List.length_append, List.length_replicate, List.length_replicate]; omega
    have hs : (List.replicate i (some ([] : Bg)) ++ List.replicate (n - i) (none : Option Bg)).set i (some []) = List.replicate (i + 1) (some []) ++ List.replicate (n - (i + 1)) none := by
      have h1 := set_mid (none : Option Bg) (some []) (List.replicate (n - (i + 1)) none) (List.replicate i (some []))
      rw [List.length_replicate] at h1
      rw [hr, h1, List.replicate_succ', List.append_assoc]; rfl
    have hg : (List.replicate i (some ([] : Bg)) ++ List.replicate (n - i) (none : Option Bg))[i]? = some none := by
      rw [List.getElem?_append_right (by simp), hr]; simp
    unfold crew_Shares_l1
    simp only [Int.toNat_natCast, List.length_replicate, dcT (show (i : Int) < (n : Int) by omega), cond_true]
    rw [hlen, inB_T hi, cond_true, hg, hs, wrapS (show i < 9223372036854775807 by omega)]
    rfl
  · unfold crew_Shares_l1
    simp only [Int.toNat_natCast, List.length_replicate, dcF (show ¬ (n : Int) < (n : Int) by omega), cond_false, Nat.sub_self, List.replicate_zero, List.append_nil]

theorem crew_l2 {n : Nat} (h1 : 1 ≤ n) (h4 : n ≤ 4) (a : List Rw) (hl : a.length ≤ 3000000) : loopM (crew_Shares_l2 ((n : Int), a, ())) ((0 : Int), List.replicate n (some []), ()) = some (.inl (shPs n a, ())) := by
  refine loopM_sim a.length (fun i => ((i : Int), shPs n (a.take i), ())) _ (fun i hi => ?_) ?_ (by rw [List.take_zero, shPs_nil]; rfl)
  · obtain ⟨s1, s2⟩ := sh_spec h1 h4 a[i].1
    have hz : (((cond (decide ((a[i].1.tmod (n : Int)) < (0 : Int))) (some (Sum.inl ((IntKind.i64.wrap ((a[i].1.tmod (n : Int)) + (n : Int))), ()))) (some (Sum.inl ((a[i].1.tmod (n : Int)), ())))) : Option ((Int × Unit) ⊕ Empty))) = some (Sum.inl ((sh n a[i].1 : Int), ())) := by
      rw [← s2]
      unfold shI
      by_cases h : a[i].1.tmod (n : Int) < 0
      · rw [dcT h, cond_true, if_pos h]; rfl
      · rw [dcF h, cond_false, if_neg h]
    unfold crew_Shares_l2
    have hn0 : (((n : Int)) == 0) = false := by simp; omega
    simp only [dcT (show (i : Int) < (a.length : Int) by omega), cond_true, getI_nat, List.getElem?_eq_getElem hi, Option.bind_some, hn0, cond_false]
    rw [hz]
    simp only [Option.bind_some, Sum.elim_inl, shPs_length, inB_T s1, cond_true, Int.toNat_natCast, shPs_get _ s1, optK, wrapS (show i < 9223372036854775807 by omega)]
    rw [← shPs_step hi]
    unfold pour nOf W kyOf
    cases hq : (((mapGet KT (mapSet KT (mapEnt KT (bagOf (part n (a.take i) (sh n a[i].1)) []) (a[i].1, a[i].2.1, ()) 0) (a[i].1, a[i].2.1, ()) (IntKind.i64.wrap (((mapGet KT (bagOf (part n (a.take i) (sh n a[i].1)) []) (a[i].1, a[i].2.1, ())).getD 0) + a[i].2.2.1))) (a[i].1, a[i].2.1, ())).getD 0) == 0) with
    | true => simp only [cond_true]
    | false => simp only [cond_false]
  · unfold crew_Shares_l2
    simp only [dcF (show ¬ (a.length : Int) < (a.length : Int) by omega), cond_false, List.take_length]

def outs (n : Nat) (a : List Rw) (i : Nat) : List (List Rw) := (List.range i).map fun j => (bagOf (part n a j) []).map toR
theorem part_length (n : Nat) (a : List Rw) (j : Nat) : (bagOf (part n a j) []).length ≤ a.length := by
  have h1 := bag_length (part n a j) []
  have h2 : (part n a j).length ≤ a.length := List.length_filter_le _ _
  rw [List.length_nil] at h1
  omega
theorem crew_l3 {n : Nat} (h4 : n ≤ 4) (a : List Rw) (hl : a.length ≤ 3000000) : loopM (crew_Shares_l3 (shPs n a, ())) (([] : List (List Rw)), (0 : Int), shPs n a, ()) = some (.inl (outs n a n, shPs n a, ())) := by
  refine loopM_sim n (fun i => (outs n a i, (i : Int), shPs n a, ())) _ (fun i hi => ?_) ?_ rfl
  · have hset : (shPs n a).set i (some (bagOf (part n a i) [])) = shPs n a := by
      refine List.ext_getElem (by rw [List.length_set]) fun j h1 h2 => ?_
      rw [List.getElem_set]
      split
      · rename_i h; subst h
        have := shPs_get a hi
        rw [List.getElem?_eq_getElem h2] at this
        exact (Option.some.inj this).symm
      · rfl
    have hout : (outs n a i).length = i := by unfold outs; rw [List.length_map, List.length_range]
    unfold crew_Shares_l3
    simp only [shPs_length, dcT (show (i : Int) < (n : Int) by omega), inB_T hi, cond_true, Int.toNat_natCast, shPs_get a hi, Option.bind_some, optK]
    rw [rows_eq (bag_rise _) (Nat.le_trans (part_length n a i) hl)]
    simp only [Option.bind_some, hset, hout, show ∀ x : List Rw, ([x] : List (List Rw)).length = 1 from fun _ => rfl, room24 (show i + 1 ≤ 4000000 by omega), Bool.and_true, cond_true, wrapS (show i < 9223372036854775807 by omega)]
    unfold outs
    rw [List.range_succ, List.map_append]; rfl
  · unfold crew_Shares_l3
    simp only [shPs_length, dcF (show ¬ (n : Int) < (n : Int) by omega), cond_false]

theorem share_eq {n : Nat} (h1 : 1 ≤ n) (h4 : n ≤ 4) (j : Nat) (R : List Rw) (hl : R.length ≤ 3000000) : ref_Share ((n : Int), (j : Int), R, ()) = some (R.filter (fun r => sh n r.1 == j), ()) := by
  have h := loopM_sim (f := ref_Share_l1 ((n : Int), (j : Int), R, ())) (s0 := (([] : List Rw), (0 : Int), ())) R.length (fun i => ((R.take i).filter (fun r => sh n r.1 == j), (i : Int), ())) (.inl (R.filter (fun r => sh n r.1 == j), ())) (fun i hi => by
    obtain ⟨s1, s2⟩ := sh_spec h1 h4 R[i].1
    have hn0 : (((n : Int)) == 0) = false := by simp; omega
    have hfl := List.length_filter_le (fun r => sh n r.1 == j) (R.take i)
    rw [List.length_take] at hfl
    have heq : (shI n R[i].1 == (j : Int)) = (sh n R[i].1 == j) := by
      rw [s2]
      by_cases e : sh n R[i].1 = j
      · rw [e]; simp
      · rw [beqF (show (sh n R[i].1 : Int) ≠ (j : Int) by omega)]; exact (by simpa using e)
    have htk : (R.take (i + 1)).filter (fun r => sh n r.1 == j) = (R.take i).filter (fun r => sh n r.1 == j) ++ (cond (sh n R[i].1 == j) [R[i]] []) := by
      rw [List.take_succ_eq_append_getElem hi, List.filter_append]
      cases hq : (sh n R[i].1 == j) with
      | true => rw [List.filter_cons_of_pos (by simpa using hq)]; rfl
      | false => rw [List.filter_cons_of_neg (by simp [hq])]; rfl
    unfold ref_Share_l1
    simp only [dcT (show (i : Int) < (R.length : Int) by omega), cond_true, getI_nat, List.getElem?_eq_getElem hi, Option.bind_some, hn0, cond_false, wrapS (show i < 9223372036854775807 by omega), show ∀ x : Rw, ([x] : List Rw).length = 1 from fun _ => rfl, room24 (show ((R.take i).filter (fun r => sh n r.1 == j)).length + 1 ≤ 4000000 by omega), Bool.and_true]
    rw [htk]
    by_cases h : R[i].1.tmod (n : Int) < 0
    · have e : IntKind.i64.wrap (R[i].1.tmod (n : Int) + (n : Int)) = shI n R[i].1 := by unfold shI; rw [if_pos h]; rfl
      rw [dcT h, cond_true, e, heq]
      cases (sh n R[i].1 == j) with
      | true => rfl
      | false => simp only [cond_false, List.append_nil]
    · have e : R[i].1.tmod (n : Int) = shI n R[i].1 := by unfold shI; rw [if_neg h]
      rw [dcF h, cond_false, e, heq]
      cases (sh n R[i].1 == j) with
      | true => rfl
      | false => simp only [cond_false, List.append_nil]) (by
    unfold ref_Share_l1
    simp only [dcF (show ¬ (R.length : Int) < (R.length : Int) by omega), cond_false, List.take_length]) rfl
  unfold ref_Share
  rw [h]; rfl

end Go.Proofs.Try
