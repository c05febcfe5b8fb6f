/- Lemmas on functions of the program, by name: pair1. -/
import Derived.Test.YtgepgleagefmeaaP13Funs
import Derived.Test.YtgepgleagefmeaaAbsSums
import Derived.Test.YtgepgleagefmeaaP13LibOps1
namespace Go.Proofs.Try
open Go Go.Abs


/-! Operators on two bags. -/
abbrev IT : Ty := .int .i64
theorem it_flat : IT.flat = true := rfl
abbrev Gm := List (Int × List Rw)
def gAdd (G : Gm) (s : Rw) : Gm := mapSet IT G s.1 ((mapGet IT G s.1).getD [] ++ [s])
def grp (S : List Rw) : Gm := S.foldl gAdd []
theorem grp_take (S : List Rw) {i : Nat} (h : i < S.length) : grp (S.take (i + 1)) = gAdd (grp (S.take i)) S[i] := by
  unfold grp
  rw [List.take_succ_eq_append_getElem h, List.foldl_append]; rfl
theorem grp_is : ∀ (S P : List Rw) (G : Gm), Rise IT G → (∀ k, (mapGet IT G k).getD [] = P.filter fun s => k == s.1) →
    Rise IT (S.foldl gAdd G) ∧ ∀ k, (mapGet IT (S.foldl gAdd G) k).getD [] = (P ++ S).filter fun s => k == s.1
  | [], P, G, h1, h2 => ⟨h1, fun k => by rw [List.append_nil]; exact h2 k⟩
  | s :: S, P, G, h1, h2 => by
    have ih := grp_is S (P ++ [s]) (gAdd G s) (mapSet_rise it_flat h1) (fun k => by
      unfold gAdd
      rw [List.filter_append]
      by_cases e : k = s.1
      · subst e
        rw [mapGet_self it_flat, Option.getD_some, h2, List.filter_cons_of_pos (by simp)]; rfl
      · rw [mapGet_other it_flat _ _ _ _ e, h2, List.filter_cons_of_neg (by simpa using e)]
        exact (List.append_nil _).symm)
    rw [List.append_assoc] at ih
    exact ih
theorem grp_rise (S : List Rw) : Rise IT (grp S) := (grp_is S [] [] List.Pairwise.nil (fun k => rfl)).1
theorem grp_get (S : List Rw) (k : Int) : (mapGet IT (grp S) k).getD [] = S.filter fun s => k == s.1 := by
  have := (grp_is S [] [] List.Pairwise.nil (fun k => rfl)).2 k
  rw [List.nil_append] at this
  exact this
theorem grp_put (S : List Rw) (k : Int) : mapPut IT (grp S) k ((mapGet IT (grp S) k).getD []) = grp S := by
  cases hg : mapGet IT (grp S) k with
  | some x => rw [Option.getD_some]; exact mapPut_same it_flat (grp_rise S) hg
  | none =>
    have hn := (mapGet_none it_flat).1 hg
    unfold mapPut
    have : ∀ p ∈ grp S, (cond (IT.eqb k p.1) (p.1, (none : Option (List Rw)).getD []) p) = p := fun p hp => by
      have h2 := hn p hp
      cases he : IT.eqb k p.1 with
      | true => exact absurd ((IT.eqb_iff it_flat _ _).1 he).symm h2
      | false => rfl
    rw [List.map_congr_left this, List.map_id']

def pr (op : Op3) (r s : Rw) : Rw := (r.1, W (W (op.2.1 * r.2.1) + W (op.2.2.1 * s.2.1)), W (r.2.2.1 * s.2.2.1), ())
def joinR (op : Op3) (S : List Rw) (r : Rw) : List Rw := (S.filter fun s => r.1 == s.1).map (pr op r)
def joinL (op : Op3) (R S : List Rw) : List Rw := R.flatMap (joinR op S)
theorem joinR_length (op : Op3) (S : List Rw) (r : Rw) : (joinR op S r).length ≤ S.length := by
  unfold joinR
  rw [List.length_map]
  exact List.length_filter_le _ _
theorem joinL_length (op : Op3) (S : List Rw) : ∀ R : List Rw, (joinL op R S).length ≤ R.length * S.length
  | [] => by simp [joinL]
  | r :: R => by
    have h1 := joinL_length op S R
    have h2 := joinR_length op S r
    unfold joinL at h1 ⊢
    rw [List.flatMap_cons, List.length_append, List.length_cons, Nat.add_mul, Nat.one_mul]
    omega
theorem joinL_take (op : Op3) {R S : List Rw} {i : Nat} (h : i < R.length) : joinL op (R.take (i + 1)) S = joinL op (R.take i) S ++ joinR op S R[i] := by
  unfold joinL
  rw [List.take_succ_eq_append_getElem h, List.flatMap_append]
  simp

theorem pour_take (f : Rw → Rw) (R : List Rw) (m : Bg) {i : Nat} (h : i < R.length) : bagOf ((R.take (i + 1)).map f) m = pour (bagOf ((R.take i).map f) m) (kyOf (f R[i])) (f R[i]).2.2.1 := by
  rw [List.take_succ_eq_append_getElem h, List.map_append, bagOf_app]; rfl
theorem pair_l1 (R : List Rw) (m : Bg) (hl : R.length ≤ 3000000) : loopM (ops_Pair_l1 (R, ())) ((0 : Int), m, ()) = some (.inl (bagOf (R.map (sc 1)) m, ())) := by
  refine loopM_sim R.length (fun i => ((i : Int), bagOf ((R.take i).map (sc 1)) m, ())) _ (fun i hi => ?_) ?_ rfl
  · unfold ops_Pair_l1
    simp only [dcT (show (i : Int) < (R.length : Int) by omega), cond_true, inB_T hi, Int.toNat_natCast, List.getElem?_eq_getElem hi, Option.bind_some, wrapS (show i < 9223372036854775807 by omega), pour_take _ _ _ hi]
    exact pour_join (bagOf ((R.take i).map (sc 1)) m) (kyOf (sc 1 R[i])) (sc 1 R[i]).2.2.1 fun z => (some (Sum.inl (((i + 1 : Nat) : Int), z, ())) : LR)
  · unfold ops_Pair_l1
    simp only [dcF (show ¬ (R.length : Int) < (R.length : Int) by omega), cond_false, List.take_length]
theorem pair_l2 (R : List Rw) (m : Bg) (hl : R.length ≤ 3000000) : loopM (ops_Pair_l2 (R, ())) ((0 : Int), m, ()) = some (.inl (bagOf (R.map (sc 1)) m, ())) := pair_l1 R m hl
theorem pair_l3 (S : List Rw) (hl : S.length ≤ 3000000) : loopM (ops_Pair_l3 (S, ())) ((0 : Int), ([] : Gm), ()) = some (.inl (grp S, ())) := by
  refine loopM_sim S.length (fun i => ((i : Int), grp (S.take i), ())) _ (fun i hi => ?_) ?_ rfl
  · have hfl := List.length_filter_le (fun s : Rw => S[i].1 == s.1) (S.take i)
    rw [List.length_take] at hfl
    have hg : ((mapGet (.int .i64) (grp (S.take i)) S[i].1).getD ([] : List Rw)).length = _ := congrArg List.length (grp_get (S.take i) S[i].1)
    unfold ops_Pair_l3
    simp only [dcT (show (i : Int) < (S.length : Int) by omega), cond_true, inB_T hi, Int.toNat_natCast, List.getElem?_eq_getElem hi, Option.bind_some, wrapS (show i < 9223372036854775807 by omega), show ∀ x : Rw, ([x] : List Rw).length = 1 from fun _ => rfl, grp_take S hi]
    rw [room24 (by omega), show Ty.eqb (.int .i64) S[i].1 S[i].1 = true from IT.eqb_self it_flat _]
    rfl
  · unfold ops_Pair_l3
    simp only [dcF (show ¬ (S.length : Int) < (S.length : Int) by omega), cond_false, List.take_length]
theorem pair_l4 (op : Op3) (ma mb : Bg) (r : Rw) (i : Int) (m0 m : Bg) (S : List Rw) (hl : S.length ≤ 3000000) : loopM (ops_Pair_l4 (op, ma, mb, ()) (i, m0, grp S, ()) r) ((0 : Int), m, ()) = some (.inl (bagOf (joinR op S r) m, ())) := by
  have hg := grp_get S r.1
  have hfl := List.length_filter_le (fun s : Rw => r.1 == s.1) S
  unfold joinR
  generalize hF : S.filter (fun s : Rw => r.1 == s.1) = F at hg hfl
  refine loopM_sim F.length (fun j => ((j : Int), bagOf ((F.take j).map (pr op r)) m, ())) _ (fun j hj => ?_) ?_ rfl
  · unfold ops_Pair_l4
    simp only [show ∀ k, mapGet (.int .i64) (grp S) k = mapGet IT (grp S) k from fun _ => rfl, hg, dcT (show (j : Int) < (F.length : Int) by omega), cond_true, inB_T hj, Int.toNat_natCast, List.getElem?_eq_getElem hj, Option.bind_some, wrapS (show j < 9223372036854775807 by omega), pour_take _ _ _ hj]
    exact pour_join (bagOf ((F.take j).map (pr op r)) m) (kyOf (pr op r F[j])) (pr op r F[j]).2.2.1 fun z => (some (Sum.inl (((j + 1 : Nat) : Int), z, ())) : LR)
  · unfold ops_Pair_l4
    simp only [show ∀ k, mapGet (.int .i64) (grp S) k = mapGet IT (grp S) k from fun _ => rfl, hg, dcF (show ¬ (F.length : Int) < (F.length : Int) by omega), cond_false, List.take_length]
theorem pair_l5 (op : Op3) (ma mb : Bg) (R S : List Rw) (hR : R.length ≤ 3000000) (hl : S.length ≤ 3000000) : loopM (ops_Pair_l5 (op, ma, mb, ()) (R, ())) ((0 : Int), ([] : Bg), grp S, ()) = some (.inl (bagOf (joinL op R S) [], grp S, ())) := by
  refine loopM_sim R.length (fun i => ((i : Int), bagOf (joinL op (R.take i) S) [], grp S, ())) _ (fun i hi => ?_) ?_ rfl
  · unfold ops_Pair_l5
    simp only [dcT (show (i : Int) < (R.length : Int) by omega), cond_true, inB_T hi, Int.toNat_natCast, List.getElem?_eq_getElem hi, Option.bind_some, wrapS (show i < 9223372036854775807 by omega)]
    rw [pair_l4 op ma mb R[i] (i : Int) _ _ S hl]
    simp only [Option.bind_some, Sum.elim_inl]
    rw [show mapPut (.int .i64) (grp S) R[i].1 ((mapGet (.int .i64) (grp S) R[i].1).getD []) = grp S from grp_put S R[i].1, joinL_take op hi, bagOf_app]
  · unfold ops_Pair_l5
    simp only [dcF (show ¬ (R.length : Int) < (R.length : Int) by omega), cond_false, List.take_length]

/-- What the two bags come to. -/
def twoL (op : Op3) (R S : List Rw) : List Rw := if op.1 = 9 then R.map (sc 1) ++ S.map (sc 1) else joinL op R S
theorem pair_eq (op : Op3) {ma mb : Bg} (ha : Rise KT ma) (hb : Rise KT mb) (la : ma.length ≤ 3000000) (lb : mb.length ≤ 3000000) : ops_Pair (op, ma, mb, ()) = some (bagOf (twoL op (ma.map toR) (mb.map toR)) [], ()) := by
  unfold ops_Pair twoL
  by_cases h9 : op.1 = 9
  · rw [if_pos h9]
    simp only [beqT h9, cond_true]
    rw [rows_eq ha la]
    simp only [Option.bind_some]
    rw [pair_l1 _ _ (by rw [List.length_map]; exact la)]
    simp only [Option.bind_some, Sum.elim_inl]
    rw [rows_eq hb lb]
    simp only [Option.bind_some]
    rw [pair_l2 _ _ (by rw [List.length_map]; exact lb), bagOf_app]; rfl
  · rw [if_neg h9]
    simp only [beqF h9, cond_false]
    rw [rows_eq hb lb]
    simp only [Option.bind_some]
    rw [pair_l3 _ (by rw [List.length_map]; exact lb)]
    simp only [Option.bind_some, Sum.elim_inl]
    rw [rows_eq ha la]
    simp only [Option.bind_some]
    rw [pair_l5 op ma mb _ _ (by rw [List.length_map]; exact la) (by rw [List.length_map]; exact lb)]; rfl

theorem opTwo_l1 (op : Op3) (R S : List Rw) (r : Rw) (out : List Rw) (hl : out.length + S.length ≤ 2900000) : loopM (ref_OpTwo_l1 (op, R, S, ()) r) (out, (0 : Int), ()) = some (.inl (out ++ joinR op S r, ())) := by
  refine loopM_sim S.length (fun i => (out ++ joinR op (S.take i) r, (i : Int), ())) _ (fun i hi => ?_) ?_ (by unfold joinR; simp)
  · have hj := joinR_length op (S.take i) r
    rw [List.length_take] at hj
    have htk : joinR op (S.take (i + 1)) r = joinR op (S.take i) r ++ cond (r.1 == S[i].1) [pr op r S[i]] [] := by
      unfold joinR
      rw [List.take_succ_eq_append_getElem hi, List.filter_append, List.map_append]
      cases hq : (r.1 == S[i].1) with
      | true => rw [List.filter_cons_of_pos (by simpa using hq)]; rfl
      | false => rw [List.filter_cons_of_neg (by simp [hq])]; rfl
    unfold ref_OpTwo_l1
    simp only [dcT (show (i : Int) < (S.length : Int) by omega), cond_true, getI_nat, List.getElem?_eq_getElem hi, Option.bind_some, wrapS (show i < 9223372036854775807 by omega), show ∀ x : Rw, ([x] : List Rw).length = 1 from fun _ => rfl, List.length_append, room24 (show out.length + (joinR op (S.take i) r).length + 1 ≤ 4000000 by omega), Bool.and_true]
    rw [htk]
    cases (r.1 == S[i].1) with
    | true => rw [cond_true, cond_true, ← List.append_assoc]; rfl
    | false => simp only [cond_false, List.append_nil]
  · unfold ref_OpTwo_l1
    simp only [dcF (show ¬ (S.length : Int) < (S.length : Int) by omega), cond_false, List.take_length]
theorem opTwo_l2 (op : Op3) (R S : List Rw) (hR : R.length ≤ 1000) (hS : S.length ≤ 1000) : loopM (ref_OpTwo_l2 (op, R, S, ())) (([] : List Rw), (0 : Int), ()) = some (.inl (joinL op R S, ())) := by
  refine loopM_sim R.length (fun i => (joinL op (R.take i) S, (i : Int), ())) _ (fun i hi => ?_) ?_ rfl
  · have h1 := joinL_length op S (R.take i)
    rw [List.length_take] at h1
    have h2 : min i R.length * S.length ≤ 1000 * 1000 := Nat.mul_le_mul (by omega) hS
    unfold ref_OpTwo_l2
    simp only [dcT (show (i : Int) < (R.length : Int) by omega), cond_true, getI_nat, List.getElem?_eq_getElem hi, Option.bind_some, wrapS (show i < 9223372036854775807 by omega)]
    rw [opTwo_l1 op R S R[i] _ (by omega)]
    simp only [Option.bind_some, Sum.elim_inl]
    rw [joinL_take op hi]
  · unfold ref_OpTwo_l2
    simp only [dcF (show ¬ (R.length : Int) < (R.length : Int) by omega), cond_false, List.take_length]

end Go.Proofs.Try
