/- How much a plain value holds: a list of a reading of small bulk is short. -/
import Derived.Test.YtgepgleagefmeaaAbsLaw
namespace Go.Abs
open Go
variable {H : Type}

/-- A count of what a reading holds: each list and each struct counts one beside its parts. -/
structure BulkFn (H : Type) (b : DataW H → Nat) (bs : List (DataW H) → Nat) : Prop where
  lit : ∀ l, 1 ≤ b (.lit l)
  nil : 1 ≤ b .nil
  slice : ∀ es sp, bs es + 1 ≤ b (.slice es sp)
  agg : ∀ ps, b (.agg ps) = bs ps + 1
  none : bs [] = 0
  cons : ∀ d r, bs (d :: r) = b d + bs r

def tyBulk : (t : Ty) → t.den → Nat
  | .int _, _ => 1
  | .bool, _ => 1
  | .list e, x => (List.map (tyBulk e) x).sum + 1
  | .nil, _ => 1
  | .cons a b, x => tyBulk a x.1 + tyBulk b x.2
  | .map _ _ _ _, _ => 1

def bulkA : (as : List (Bool × Ty)) → ADen as → Nat
  | [], _ => 0
  | a :: r, x => tyBulk a.2 x.1 + bulkA r x.2

theorem tyBulk_pos : ∀ (t : Ty) (x : t.den), 1 ≤ tyBulk t x
  | .int _, _ => Nat.le_refl _
  | .bool, _ => Nat.le_refl _
  | .list _, _ => Nat.succ_pos _
  | .nil, _ => Nat.le_refl _
  | .cons a _, x => Nat.le_trans (tyBulk_pos a x.1) (Nat.le_add_right _ _)
  | .map _ _ _ _, _ => Nat.le_refl _

theorem bulk_le {b : DataW H → Nat} {bs : List (DataW H) → Nat} (hb : BulkFn H b bs) : ∀ (t : Ty) (d : DataW H) (x : t.den), DatIs t d x → tyBulk t x ≤ b d
  | .int _, d, x, h => by rw [show d = _ from h]; exact hb.lit _
  | .bool, d, x, h => by rw [show d = _ from h]; exact hb.lit _
  | .list e, d, x, h => by
    rcases h with ⟨rfl, hx⟩ | ⟨es, sp, rfl, hl, hi⟩
    · rw [hx]; exact hb.nil
    · refine Nat.le_trans ?_ (hb.slice es sp)
      show (List.map (tyBulk e) x).sum + 1 ≤ _
      refine Nat.succ_le_succ ?_
      have key : ∀ (es : List (DataW H)) (x : List e.den), es.length = x.length → (∀ (i : Nat) (d' : DataW H) (y : e.den), es[i]? = some d' → x[i]? = some y → DatIs e d' y) → (List.map (tyBulk e) x).sum ≤ bs es := by
        intro es
        induction es with
        | nil =>
          intro x hl _
          cases x with
          | nil => simp
          | cons _ _ => simp at hl
        | cons d r ih =>
          intro x hl hi
          cases x with
          | nil => simp at hl
          | cons y ys =>
            rw [hb.cons, List.map_cons, List.sum_cons]
            exact Nat.add_le_add (bulk_le hb e d y (hi 0 d y rfl rfl)) (ih ys (by simpa using hl) fun i d' y' h1 h2 => hi (i + 1) d' y' (by simpa using h1) (by simpa using h2))
      exact key es x hl hi
  | .nil, d, x, h => by rw [show d = _ from h, hb.agg]; exact Nat.succ_pos _
  | .cons a c, d, x, h => by
    obtain ⟨d1, ds, rfl, h1, h2⟩ := h
    have i1 := bulk_le hb a d1 x.1 h1
    have i2 := bulk_le hb c (.agg ds) x.2 h2
    rw [hb.agg] at i2
    rw [hb.agg, hb.cons]
    show tyBulk a x.1 + tyBulk c x.2 ≤ _
    omega
  | .map _ _ _ _, d, x, h => h.elim

theorem bulkA_le {b : DataW H → Nat} {bs : List (DataW H) → Nat} (hb : BulkFn H b bs) : ∀ (as : List (Bool × Ty)) (ds : List (DataW H)) (x : ADen as), DatA as ds x → bulkA as x ≤ bs ds
  | [], ds, x, h => by rw [show ds = _ from h, hb.none]; exact Nat.le_refl _
  | _ :: _, [], x, h => h.elim
  | a :: r, d :: ds, x, h => by
    rw [hb.cons]
    exact Nat.add_le_add (bulk_le hb a.2 d x.1 h.1) (bulkA_le hb r ds x.2 h.2)

/-- A list is no longer than its count. -/
theorem length_bulk (e : Ty) (x : List e.den) : x.length + 1 ≤ tyBulk (.list e) x := by
  show x.length + 1 ≤ (List.map (tyBulk e) x).sum + 1
  refine Nat.succ_le_succ ?_
  induction x with
  | nil => simp
  | cons y r ih =>
    rw [List.map_cons, List.sum_cons, List.length_cons]
    have := tyBulk_pos e y
    omega

end Go.Abs
