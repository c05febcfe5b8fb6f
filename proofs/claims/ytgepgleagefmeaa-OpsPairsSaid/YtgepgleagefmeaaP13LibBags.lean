/- Lemmas on functions of the program, by name: bags. -/
import Derived.Test.YtgepgleagefmeaaP13Funs
import Derived.Test.YtgepgleagefmeaaAbsSums
namespace Go.Proofs.Try
open Go Go.Abs


/-! Bags: rows by their keys. -/
abbrev Rw := Int × Int × Int × Unit
abbrev Ky := Int × Int × Unit
abbrev KT : Ty := .cons (.int .i64) (.cons (.int .i64) .nil)
abbrev Bg := List (Ky × Int)
theorem kt_flat : KT.flat = true := rfl
def kyOf (r : Rw) : Ky := (r.1, r.2.1, ())
def toE (r : Rw) : Ky × Int := (kyOf r, r.2.2.1)
def toR (p : Ky × Int) : Rw := (p.1.1, p.1.2.1, p.2, ())
theorem toR_toE (r : Rw) : toR (toE r) = r := rfl
theorem toE_toR (p : Ky × Int) : toE (toR p) = p := rfl
def W (n : Int) : Int := IntKind.i64.wrap n

/-- The number of an entry. -/
def nOf (m : Bg) (k : Ky) : Int := (mapGet KT m k).getD 0
structure BagIs (m : Bg) (T : Ky → Int) : Prop where
  rise : Rise KT m
  num : ∀ k, nOf m k = T k
  nz : ∀ p ∈ m, p.2 ≠ 0

def pour (m : Bg) (k : Ky) (n : Int) : Bg :=
  cond (nOf (mapSet KT (mapEnt KT m k 0) k (W (nOf m k + n))) k == 0) (mapDel KT (mapSet KT (mapEnt KT m k 0) k (W (nOf m k + n))) k) (mapSet KT (mapEnt KT m k 0) k (W (nOf m k + n)))

theorem nOf_set (m : Bg) (k j : Ky) (v : Int) : nOf (mapSet KT m k v) j = if j = k then v else nOf m j := by
  unfold nOf
  by_cases h : j = k
  · subst h; rw [mapGet_self kt_flat, if_pos rfl]; rfl
  · rw [mapGet_other kt_flat _ _ _ _ h, if_neg h]

theorem ent_rise {m : Bg} (h : Rise KT m) (k : Ky) : Rise KT (mapEnt KT m k 0) := mapSet_rise kt_flat h

theorem nOf_ent (m : Bg) (k j : Ky) : nOf (mapEnt KT m k 0) j = nOf m j := by
  unfold mapEnt
  rw [nOf_set]
  split
  · rename_i h; subst h; rfl
  · rfl

theorem pour_is {m : Bg} {T : Ky → Int} (h : BagIs m T) (k : Ky) (n : Int) : BagIs (pour m k n) (fun j => if j = k then W (T k + n) else T j) := by
  have hr := mapSet_rise kt_flat (k := k) (v := W (nOf m k + n)) (ent_rise h.rise k)
  have hn : ∀ j, nOf (mapSet KT (mapEnt KT m k 0) k (W (nOf m k + n))) j = if j = k then W (T k + n) else T j := fun j => by
    rw [nOf_set, nOf_ent, h.num, h.num]
  have hmem : ∀ p ∈ mapSet KT (mapEnt KT m k 0) k (W (nOf m k + n)), p = (k, W (T k + n)) ∨ (p ∈ m ∧ p.1 ≠ k) := fun p hp => by
    by_cases hk : p.1 = k
    · have h1 : mapGet KT (mapSet KT (mapEnt KT m k 0) k (W (nOf m k + n))) p.1 = some p.2 := (mapGet_some kt_flat hr).2 hp
      rw [hk, mapGet_self kt_flat] at h1
      left
      exact Prod.ext hk ((Option.some.inj h1).symm.trans (by rw [h.num]))
    · have h1 : mapGet KT (mapSet KT (mapEnt KT m k 0) k (W (nOf m k + n))) p.1 = some p.2 := (mapGet_some kt_flat hr).2 hp
      unfold mapEnt at h1
      rw [mapGet_other kt_flat _ _ _ _ hk, mapGet_other kt_flat _ _ _ _ hk] at h1
      exact .inr ⟨(mapGet_some kt_flat h.rise).1 h1, hk⟩
  unfold pour
  generalize mapSet KT (mapEnt KT m k 0) k (W (nOf m k + n)) = M at hr hn hmem ⊢
  have hz := hn k
  rw [if_pos rfl] at hz
  rw [hz]
  by_cases h0 : W (T k + n) = 0
  · rw [h0]
    simp only [beq_self_eq_true, cond_true]
    refine ⟨mapDel_rise hr, fun j => ?_, fun p hp => ?_⟩
    · unfold nOf
      by_cases hj : j = k
      · subst hj; rw [mapDel_self kt_flat, if_pos rfl]; rfl
      · rw [mapDel_other kt_flat hr hj, if_neg hj]
        have := hn j
        rw [if_neg hj] at this
        exact this
    · have hp1 : p ∈ M ∧ ¬ KT.eqb k p.1 = true := by
        simpa [mapDel] using hp
      rcases hmem p hp1.1 with h2 | ⟨h2, -⟩
      · exact absurd ((KT.eqb_iff kt_flat k p.1).2 (by rw [h2])) hp1.2
      · exact h.nz p h2
  · have hb : (W (T k + n) == 0) = false := by simpa using h0
    rw [hb, cond_false]
    refine ⟨hr, hn, fun p hp => ?_⟩
    rcases hmem p hp with h2 | ⟨h2, -⟩
    · rw [h2]; exact h0
    · exact h.nz p h2

theorem bag_mem {m : Bg} {T : Ky → Int} (h : BagIs m T) (p : Ky × Int) : p ∈ m ↔ p.2 ≠ 0 ∧ T p.1 = p.2 := by
  constructor
  · intro hp
    refine ⟨h.nz p hp, ?_⟩
    rw [← h.num]
    unfold nOf
    rw [(mapGet_some kt_flat h.rise).2 hp]; rfl
  · rintro ⟨h0, h1⟩
    rw [← h.num] at h1
    unfold nOf at h1
    cases hg : mapGet KT m p.1 with
    | none => rw [hg] at h1; exact absurd h1.symm h0
    | some v =>
      rw [hg] at h1
      have h1 : v = p.2 := h1
      subst h1
      exact (mapGet_some kt_flat h.rise).1 hg

theorem bag_nodup {m : Bg} (h : Rise KT m) : m.Nodup := List.Pairwise.imp (fun {a b} hab e => hab (by rw [e])) (h.ne kt_flat)

theorem bag_ext {m m' : Bg} {T : Ky → Int} (h : BagIs m T) (h' : BagIs m' T) : m = m' :=
  rise_ext kt_flat h.rise h'.rise ((List.perm_ext_iff_of_nodup (bag_nodup h.rise) (bag_nodup h'.rise)).2 fun p => (bag_mem h p).trans (bag_mem h' p).symm)

/-- What comes of rows, one behind the other. -/
def tot : List Rw → (Ky → Int) → (Ky → Int)
  | [], T => T
  | r :: l, T => tot l (fun j => if j = kyOf r then W (T (kyOf r) + r.2.2.1) else T j)
def bagOf (l : List Rw) (m : Bg) : Bg := l.foldl (fun m r => pour m (kyOf r) r.2.2.1) m
theorem bagOf_is : ∀ (l : List Rw) {m : Bg} {T : Ky → Int}, BagIs m T → BagIs (bagOf l m) (tot l T)
  | [], _, _, h => h
  | r :: l, _, _, h => bagOf_is l (pour_is h (kyOf r) r.2.2.1)

/-- A row comes among rising rows. -/
def insR : List Rw → Rw → List Rw
  | [], r => [r]
  | p :: o, r => if KT.lt (kyOf p) (kyOf r) = true then p :: insR o r else if kyOf p = kyOf r then (p.1, p.2.1, W (p.2.2.1 + r.2.2.1), ()) :: o else r :: p :: o

def InR (n : Int) : Prop := W n = n
theorem inR_W (n : Int) : InR (W n) := by unfold InR W; rw [IntKind.wrap_i64, IntKind.wrap_i64]; omega

structure RowsAre (o : List Rw) (T : Ky → Int) : Prop where
  rise : Rise KT (o.map toE)
  num : ∀ k, nOf (o.map toE) k = T k

theorem insR_map : ∀ (o : List Rw) (r : Rw), Rise KT (o.map toE) → InR r.2.2.1 → (insR o r).map toE = mapSet KT (o.map toE) (kyOf r) (W (nOf (o.map toE) (kyOf r) + r.2.2.1))
  | [], r, _, hw => by
    show [toE r] = [(kyOf r, W (0 + r.2.2.1))]
    rw [Int.zero_add, hw]; rfl
  | p :: o, r, h, hw => by
    obtain ⟨h1, h2⟩ := List.pairwise_cons.1 h
    have ih := insR_map o r h2 hw
    unfold insR
    have e1 : (List.map toE (p :: o)) = toE p :: o.map toE := rfl
    by_cases hlt : KT.lt (kyOf p) (kyOf r) = true
    · rw [if_pos hlt, e1]
      have hne : kyOf r ≠ kyOf p := fun e => by rw [e, KT.lt_irr kt_flat] at hlt; cases hlt
      have hng : KT.lt (kyOf r) (kyOf p) = false := by
        cases hq : KT.lt (kyOf r) (kyOf p) with
        | false => rfl
        | true => have := KT.lt_trans kt_flat _ _ _ hlt hq; rw [KT.lt_irr kt_flat] at this; cases this
      have hn : nOf (toE p :: o.map toE) (kyOf r) = nOf (o.map toE) (kyOf r) := by
        unfold nOf mapGet
        rw [List.find?_cons, show KT.eqb (kyOf r) (toE p).1 = false from KT.eqb_false kt_flat hne]
      rw [hn, List.map_cons, ih]
      show _ = mapSet KT (toE p :: o.map toE) _ _
      rw [mapSet, show KT.eqb (kyOf r) (toE p).1 = false from KT.eqb_false kt_flat hne, cond_false, show KT.lt (kyOf r) (toE p).1 = false from hng, cond_false]
    · rw [if_neg hlt, e1]
      by_cases he : kyOf p = kyOf r
      · rw [if_pos he]
        have heq : KT.eqb (kyOf r) (toE p).1 = true := (KT.eqb_iff kt_flat _ _).2 he.symm
        have hn : nOf (toE p :: o.map toE) (kyOf r) = p.2.2.1 := by
          unfold nOf mapGet
          rw [List.find?_cons, heq]; rfl
        rw [hn, mapSet, heq, cond_true, ← he]; rfl
      · rw [if_neg he]
        have hrp : KT.lt (kyOf r) (kyOf p) = true := by
          rcases KT.lt_tri kt_flat (kyOf p) (kyOf r) with h3 | h3 | h3
          · exact absurd h3 hlt
          · exact absurd h3 he
          · exact h3
        have heq : KT.eqb (kyOf r) (toE p).1 = false := KT.eqb_false kt_flat (fun e => he e.symm)
        have hn : nOf (toE p :: o.map toE) (kyOf r) = 0 := by
          unfold nOf
          rw [(mapGet_none kt_flat).2]
          · rfl
          · intro q hq e
            rcases List.mem_cons.1 hq with rfl | hq
            · exact he e
            · have h4 := h1 q hq
              rw [e] at h4
              have := KT.lt_trans kt_flat _ _ _ hrp h4
              rw [KT.lt_irr kt_flat] at this; cases this
        rw [hn, mapSet, heq, cond_false, show KT.lt (kyOf r) (toE p).1 = true from hrp, cond_true, Int.zero_add, hw]; rfl

theorem insR_are {o : List Rw} {T : Ky → Int} (h : RowsAre o T) {r : Rw} (hw : InR r.2.2.1) : RowsAre (insR o r) (fun j => if j = kyOf r then W (T (kyOf r) + r.2.2.1) else T j) where
  rise := by rw [insR_map o r h.rise hw]; exact mapSet_rise kt_flat h.rise
  num k := by rw [insR_map o r h.rise hw, nOf_set, h.num, h.num]

def rowsOf (l : List Rw) (o : List Rw) : List Rw := l.foldl insR o
theorem rowsOf_are : ∀ (l : List Rw) {o : List Rw} {T : Ky → Int}, RowsAre o T → (∀ r ∈ l, InR r.2.2.1) → RowsAre (rowsOf l o) (tot l T)
  | [], _, _, h, _ => h
  | r :: l, _, _, h, hw => rowsOf_are l (insR_are h (hw r List.mem_cons_self)) fun q hq => hw q (List.mem_cons_of_mem _ hq)

def nzB (r : Rw) : Bool := r.2.2.1 != 0
theorem filter_is {o : List Rw} {T : Ky → Int} (h : RowsAre o T) : BagIs ((o.filter nzB).map toE) T := by
  have hm : (o.filter nzB).map toE = (o.map toE).filter fun p => p.2 != 0 := by
    rw [List.filter_map]; rfl
  rw [hm]
  have hr : Rise KT ((o.map toE).filter fun p => p.2 != 0) := List.Pairwise.filter _ h.rise
  refine ⟨hr, fun k => ?_, fun p hp => by have := (List.mem_filter.1 hp).2; simpa using this⟩
  rw [← h.num k]
  unfold nOf
  cases hg : mapGet KT (o.map toE) k with
  | none =>
    rw [(mapGet_none kt_flat).2]
    exact fun p hp => (mapGet_none kt_flat).1 hg p (List.mem_filter.1 hp).1
  | some v =>
    have hmem := (mapGet_some kt_flat h.rise).1 hg
    by_cases hv : v = 0
    · subst hv
      rw [(mapGet_none kt_flat).2]
      · rfl
      · intro p hp e
        have h1 := List.mem_filter.1 hp
        have h2 := nodup_uniq (h.rise.ne kt_flat) h1.1 hmem e
        rw [h2] at h1
        simp at h1
    · rw [(mapGet_some kt_flat hr).2 (List.mem_filter.2 ⟨hmem, by simpa using hv⟩)]

/-- The told bag is the same, however it is made. -/
theorem rows_bag {l : List Rw} (hw : ∀ r ∈ l, InR r.2.2.1) : (rowsOf l []).filter nzB = (bagOf l []).map toR := by
  have h0 : BagIs [] (fun _ => 0) := ⟨List.Pairwise.nil, fun _ => rfl, fun p hp => by cases hp⟩
  have h1 : RowsAre [] (fun _ => 0) := ⟨List.Pairwise.nil, fun _ => rfl⟩
  have h2 := bag_ext (filter_is (rowsOf_are l h1 hw)) (bagOf_is l h0)
  rw [← h2, List.map_map]
  have : toR ∘ toE = id := funext fun r => rfl
  rw [this, List.map_id]

theorem bag_rise (l : List Rw) : Rise KT (bagOf l []) := (bagOf_is l (T := fun _ => 0) ⟨List.Pairwise.nil, fun _ => rfl, fun p hp => by cases hp⟩).rise
theorem pour_length (m : Bg) (k : Ky) (n : Int) : (pour m k n).length ≤ m.length + 1 := by
  have key : ∀ (m : Bg) (k : Ky) (v : Int), (mapSet KT m k v).length ≤ m.length + 1 := by
    intro m
    induction m with
    | nil => intro k v; simp [mapSet]
    | cons p r ih =>
      intro k v
      have := ih k v
      simp only [mapSet]
      cases KT.eqb k p.1 with
      | true => simp
      | false =>
        cases KT.lt k p.1 with
        | true => simp
        | false => simp only [cond_false, List.length_cons]; omega
  have ent : (mapSet KT (mapEnt KT m k 0) k (W (nOf m k + n))).length = (mapEnt KT m k 0).length := by
    have k2 : ∀ (m : Bg) (k : Ky) (v w : Int), (mapSet KT (mapSet KT m k v) k w).length = (mapSet KT m k v).length := by
      intro m
      induction m with
      | nil => intro k v w; simp [mapSet, KT.eqb_self kt_flat]
      | cons p r ih =>
        intro k v w
        simp only [mapSet]
        cases h1 : KT.eqb k p.1 with
        | true => simp only [cond_true, mapSet, KT.eqb_self kt_flat]; rfl
        | false =>
          cases h2 : KT.lt k p.1 with
          | true => simp only [cond_true, cond_false, mapSet, KT.eqb_self kt_flat]; rfl
          | false => simp only [cond_false, mapSet, h1, h2, List.length_cons, ih]
    exact k2 _ _ _ _
  have h1 := key m k ((mapGet KT m k).getD 0)
  unfold pour
  cases (nOf (mapSet KT (mapEnt KT m k 0) k (W (nOf m k + n))) k == 0) with
  | true =>
    simp only [cond_true]
    refine Nat.le_trans (List.length_filter_le _ _) ?_
    rw [ent]; exact h1
  | false =>
    simp only [cond_false]
    rw [ent]; exact h1
theorem bag_length : ∀ (l : List Rw) (m : Bg), (bagOf l m).length ≤ m.length + l.length
  | [], m => Nat.le_refl _
  | r :: l, m => by
    have h1 := bag_length l (pour m (kyOf r) r.2.2.1)
    have h2 := pour_length m (kyOf r) r.2.2.1
    show (bagOf l (pour m (kyOf r) r.2.2.1)).length ≤ _
    simp only [List.length_cons]; omega

end Go.Proofs.Try
