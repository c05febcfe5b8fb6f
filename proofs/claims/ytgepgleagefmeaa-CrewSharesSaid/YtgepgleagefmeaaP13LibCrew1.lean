/- Lemmas on functions of the program, by name: crew1. -/
import Derived.Test.YtgepgleagefmeaaP13Funs
import Derived.Test.YtgepgleagefmeaaAbsSums
import Derived.Test.YtgepgleagefmeaaP13LibBags3
namespace Go.Proofs.Try
open Go Go.Abs


/-! Bags, split by a key's residue. -/
def bagP (p : Ky → Bool) (l : List Rw) : List Rw := l.filter fun r => p (kyOf r)
theorem tot_at {k : Ky} : ∀ (l : List Rw) {T T' : Ky → Int}, T k = T' k → tot l T k = tot l T' k
  | [], _, _, h => h
  | r :: l, T, T', h => tot_at l (by
      show (if k = kyOf r then W (T (kyOf r) + r.2.2.1) else T k) = (if k = kyOf r then W (T' (kyOf r) + r.2.2.1) else T' k)
      by_cases e : k = kyOf r
      · rw [if_pos e, if_pos e, ← e, h]
      · rw [if_neg e, if_neg e, h])
theorem tot_filter (p : Ky → Bool) (k : Ky) : ∀ (l : List Rw) (T : Ky → Int), tot (bagP p l) T k = if p k = true then tot l T k else T k
  | [], T => by unfold bagP; simp [tot]
  | r :: l, T => by
    have ih := tot_filter p k l
    unfold bagP at ih ⊢
    cases hp : p (kyOf r) with
    | true =>
      rw [List.filter_cons_of_pos (by simpa using hp)]
      show tot (l.filter _) (fun j => if j = kyOf r then W (T (kyOf r) + r.2.2.1) else T j) k = _
      rw [ih]
      by_cases hk : p k = true
      · rw [if_pos hk, if_pos hk]; rfl
      · rw [if_neg hk, if_neg hk, if_neg (fun e => hk (by rw [e]; exact hp))]
    | false =>
      rw [List.filter_cons_of_neg (by simp [hp]), ih]
      by_cases hk : p k = true
      · rw [if_pos hk, if_pos hk]
        exact tot_at l (by
          show T k = (if k = kyOf r then W (T (kyOf r) + r.2.2.1) else T k)
          rw [if_neg (fun e => by rw [e, hp] at hk; cases hk)])
      · rw [if_neg hk, if_neg hk]
theorem is_filter {m : Bg} {T : Ky → Int} (h : BagIs m T) (p : Ky → Bool) : BagIs (m.filter fun e => p e.1) (fun k => if p k = true then T k else 0) := by
  have hr : Rise KT (m.filter fun e => p e.1) := List.Pairwise.filter _ h.rise
  refine ⟨hr, fun k => ?_, fun e he => h.nz e (List.mem_filter.1 he).1⟩
  rw [← h.num k]
  unfold nOf
  by_cases hk : p k = true
  · rw [if_pos hk]
    cases hg : mapGet KT m k with
    | none =>
      rw [(mapGet_none kt_flat).2]
      exact fun e he => (mapGet_none kt_flat).1 hg e (List.mem_filter.1 he).1
    | some v => rw [(mapGet_some kt_flat hr).2 (List.mem_filter.2 ⟨(mapGet_some kt_flat h.rise).1 hg, hk⟩)]
  · rw [if_neg hk, (mapGet_none kt_flat).2]
    · rfl
    · intro e he e2
      exact hk (by rw [← e2]; exact (List.mem_filter.1 he).2)
theorem bag_filter (p : Ky → Bool) (l : List Rw) : bagOf (bagP p l) [] = (bagOf l []).filter fun e => p e.1 := by
  have h0 : BagIs [] (fun _ => 0) := ⟨List.Pairwise.nil, fun _ => rfl, fun p hp => by cases hp⟩
  have h1 := bagOf_is (bagP p l) h0
  have h2 := is_filter (bagOf_is l h0) p
  have he : tot (bagP p l) (fun _ => 0) = fun k => if p k = true then tot l (fun _ => 0) k else 0 := funext fun k => tot_filter p k l _
  rw [he] at h1
  exact bag_ext h1 h2

def shI (n k : Int) : Int := if k.tmod n < 0 then W (k.tmod n + n) else k.tmod n
def sh (n : Nat) (k : Int) : Nat := (shI n k).toNat
theorem sh_spec {n : Nat} (h1 : 1 ≤ n) (h4 : n ≤ 4) (k : Int) : sh n k < n ∧ shI n k = (sh n k : Int) := by
  have a1 := Int.tmod_lt_of_pos k (show (0 : Int) < n by omega)
  have a2 := Int.lt_tmod_of_pos k (show (0 : Int) < n by omega)
  unfold sh shI
  by_cases h : k.tmod n < 0
  · rw [if_pos h]
    have : W (k.tmod n + n) = k.tmod n + n := wrap64 (by omega) (by omega)
    rw [this]; omega
  · rw [if_neg h]; omega
def pt (n j : Nat) (k : Ky) : Bool := sh n k.1 == j
def part (n : Nat) (a : List Rw) (j : Nat) : List Rw := bagP (pt n j) a
def shPs (n : Nat) (a : List Rw) : List (Option Bg) := (List.range n).map fun j => some (bagOf (part n a j) [])
theorem shPs_length (n : Nat) (a : List Rw) : (shPs n a).length = n := by unfold shPs; rw [List.length_map, List.length_range]
theorem shPs_get {n : Nat} (a : List Rw) {j : Nat} (hj : j < n) : (shPs n a)[j]? = some (some (bagOf (part n a j) [])) := by
  unfold shPs
  rw [List.getElem?_map, List.getElem?_range hj]; rfl
theorem part_take (n : Nat) {a : List Rw} {i : Nat} (hi : i < a.length) (j : Nat) : part n (a.take (i + 1)) j = if sh n a[i].1 = j then part n (a.take i) j ++ [a[i]] else part n (a.take i) j := by
  unfold part bagP
  rw [List.take_succ_eq_append_getElem hi, List.filter_append]
  by_cases h : sh n a[i].1 = j
  · rw [if_pos h, List.filter_cons_of_pos (by show (sh n a[i].1 == j) = true; rw [h]; exact beq_self_eq_true j)]; rfl
  · rw [if_neg h, List.filter_cons_of_neg (by show ¬ (sh n a[i].1 == j) = true; simpa using h)]
    exact List.append_nil _
theorem shPs_step {n : Nat} {a : List Rw} {i : Nat} (hi : i < a.length) :
    (shPs n (a.take i)).set (sh n a[i].1) (some (pour (bagOf (part n (a.take i) (sh n a[i].1)) []) (kyOf a[i]) a[i].2.2.1)) = shPs n (a.take (i + 1)) := by
  refine List.ext_getElem (by rw [List.length_set, shPs_length, shPs_length]) fun j h1 h2 => ?_
  rw [List.getElem_set]
  have hj : j < n := by rw [shPs_length] at h2; exact h2
  have e : (shPs n (a.take (i + 1)))[j] = some (bagOf (part n (a.take (i + 1)) j) []) := by
    have := shPs_get (a.take (i + 1)) hj
    rw [List.getElem?_eq_getElem h2] at this
    exact Option.some.inj this
  rw [e, part_take n hi]
  split
  · rename_i h
    rw [show ∀ (l l' : List Rw) (m : Bg), bagOf (l ++ l') m = bagOf l' (bagOf l m) from fun _ _ _ => List.foldl_append, h]; rfl
  · rename_i h
    have hj' : j < (shPs n (a.take i)).length := by rw [shPs_length]; exact hj
    have := shPs_get (a.take i) hj
    rw [List.getElem?_eq_getElem hj'] at this
    exact Option.some.inj this
theorem shPs_nil (n : Nat) : shPs n [] = List.replicate n (some []) := by
  unfold shPs
  refine List.ext_getElem (by simp) fun j h1 h2 => ?_
  simp [part, bagP, bagOf]
theorem part_rows (n : Nat) (a : List Rw) (j : Nat) : (bagOf (part n a j) []).map toR = ((bagOf a []).map toR).filter fun r => sh n r.1 == j := by
  unfold part
  rw [bag_filter, List.filter_map]; rfl

end Go.Proofs.Try
