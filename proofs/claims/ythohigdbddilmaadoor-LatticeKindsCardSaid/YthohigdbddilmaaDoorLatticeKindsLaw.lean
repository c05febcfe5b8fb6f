/- The plain law of LatticeKinds. -/
import Derived.Test.YthohigdbddilmaaDoorD2Funs
import Derived.Test.YthohigdbddilmaaDoorAbsSums
import Derived.Test.YthohigdbddilmaaDoorD2LibAdj
import Derived.Test.YthohigdbddilmaaDoorD2LibWords
namespace Go.Proofs.Tryd
open Go Go.Abs


theorem beq_cast (a b : Nat) : ((a : Int) == (b : Int)) = decide (a = b) := by
  rw [Bool.eq_iff_iff, beq_iff_eq, decide_eq_true_eq]; omega
theorem bne_cast (a b : Nat) : ((a : Int) != (b : Int)) = !decide (a = b) := by rw [bne, beq_cast]
abbrev KT : Type := Bool × Bool × Bool × Int × Int × Int × Unit
theorem fs_succ {β : Type} (g : Nat → Option β) (k : Nat) : (List.range (k + 1)).findSome? g = ((List.range k).findSome? g).or (g k) := by
  rw [List.range_succ, List.findSome?_append]
  congr 1
  rw [List.findSome?_cons]
  cases g k <;> rfl
theorem fs_map {β γ : Type} (φ : β → γ) (g : Nat → Option β) (l : List Nat) : (l.findSome? fun x => (g x).map φ) = (l.findSome? g).map φ := by
  induction l with
  | nil => rfl
  | cons a l ih => rw [List.findSome?_cons, List.findSome?_cons, ih]; cases g a <;> rfl
theorem fs_const {β : Type} (u : β) (p : Nat → Bool) (l : List Nat) : (l.findSome? fun x => cond (p x) (some u) none) = cond (l.any p) (some u) none := by
  induction l with
  | nil => rfl
  | cons a l ih => rw [List.findSome?_cons, List.any_cons, ih]; cases p a <;> rfl

/-- Where a lattice is not distributive, and not modular; and what is complemented. -/
def dG (n : Nat) (ws : List Nat) (a b c : Nat) : Option (Nat × Nat × Nat) := cond (!decide (andL n ws a (orL n ws b c) = orL n ws (andL n ws a b) (andL n ws a c))) (some (a, b, c)) none
def mB (n : Nat) (ws : List Nat) (a b c : Nat) : Bool := below ws a c && !decide (orL n ws a (andL n ws b c) = andL n ws (orL n ws a b) c)
def hB (n : Nat) (ws : List Nat) (a b : Nat) : Bool := decide (orL n ws a b = topTo n ws n) && decide (andL n ws a b = topTo n (downW n ws) n)
def toK : Option (Nat × Nat × Nat) → Bool → Bool → KT
  | none, m, h => (true, m, h, 0, 0, 0, ())
  | some t, m, h => (false, m, h, (t.1 : Int), (t.2.1 : Int), (t.2.2 : Int), ())
def badD (k : KT) (t : Nat × Nat × Nat) : KT × Unit := ((false, k.2.1, k.2.2.1, (t.1 : Int), (t.2.1 : Int), (t.2.2 : Int), ()), ())
def badM (k : KT) : KT × Unit := ((k.1, false, k.2.2.1, k.2.2.2.1, k.2.2.2.2.1, k.2.2.2.2.2.1, ()), ())
def dG2 (n : Nat) (ws : List Nat) (a b : Nat) : Option (Nat × Nat × Nat) := (List.range n).findSome? (dG n ws a b)
def dG3 (n : Nat) (ws : List Nat) (a : Nat) : Option (Nat × Nat × Nat) := (List.range n).findSome? (dG2 n ws a)
def mB2 (n : Nat) (ws : List Nat) (a b : Nat) : Bool := (List.range n).any (mB n ws a b)
def mB3 (n : Nat) (ws : List Nat) (a : Nat) : Bool := (List.range n).any (mB2 n ws a)
def hB2 (n : Nat) (ws : List Nat) (a : Nat) : Bool := (List.range n).any (hB n ws a)

section
variable {n : Nat} {ws : List Nat} (hf : Fit ws) (hws : ws.length = n) (hn : n ≤ 16) (hl : latB n ws = true)
abbrev rK (n : Nat) (ws : List Nat) : ((Int × List Int × Unit) × (List Int × List Int × Int × Int × Unit) × Unit) × Int × Unit := ((((n : Int), cl ws, ()), latR n ws, ()), 0, ())
include hn hl in
theorem kind_l1_eq {a b : Nat} (ha : a < n) (hb : b < n) (k k1 k2 : KT) : loopM (lattice_Kind_l1 (rK n ws) ((b : Int), k1, ()) ((a : Int), k2, ())) (0, k, ()) = some (exitOr ((dG2 n ws a b).map (badD k)) (.inl (k, ()))) := by
  unfold dG2
  rw [← fs_map]
  refine loopM_exit (f := lattice_Kind_l1 (rK n ws) ((b : Int), k1, ()) ((a : Int), k2, ())) n (fun c => ((c : Int), k, ())) (fun c => (dG n ws a b c).map (badD k)) (.inl (k, ())) (fun c hc => ?_) ?_ rfl
  · have h1 := (orL_tab hl hb hc).2
    have h2 := (andL_tab hl ha hb).2
    have h3 := (andL_tab hl ha hc).2
    unfold lattice_Kind_l1 dG
    simp (disch := first | assumption | omega) only [cond_true, Option.bind_some, dcT, wrapS, table_Or_eq hl hn hb hc, table_And_eq hl hn ha h1, table_And_eq hl hn ha hb, table_And_eq hl hn ha hc, table_Or_eq hl hn h2 h3, bne_cast]
    cases decide (andL n ws a (orL n ws b c) = orL n ws (andL n ws a b) (andL n ws a c)) <;> rfl
  · unfold lattice_Kind_l1
    simp (disch := first | assumption | omega) only [cond_false, dcF, wrapS]
include hn hl in
theorem kind_l2_eq {a : Nat} (ha : a < n) (k k2 : KT) : loopM (lattice_Kind_l2 (rK n ws) ((a : Int), k2, ())) (0, k, ()) = some (exitOr ((dG3 n ws a).map (badD k)) (.inl (k, ()))) := by
  unfold dG3
  rw [← fs_map]
  refine loopM_exit (f := lattice_Kind_l2 (rK n ws) ((a : Int), k2, ())) n (fun c => ((c : Int), k, ())) (fun b => (dG2 n ws a b).map (badD k)) (.inl (k, ())) (fun b hb => ?_) ?_ rfl
  · unfold lattice_Kind_l2
    simp (disch := first | assumption | omega) only [cond_true, Option.bind_some, dcT, wrapS, kind_l1_eq hn hl ha hb]
    cases dG2 n ws a b <;> rfl
  · unfold lattice_Kind_l2
    simp (disch := first | assumption | omega) only [cond_false, dcF, wrapS]
include hn hl in
theorem kind_l3_eq (k : KT) : loopM (lattice_Kind_l3 (rK n ws)) (0, k, ()) = some (exitOr (((List.range n).findSome? (dG3 n ws)).map (badD k)) (.inl (k, ()))) := by
  rw [← fs_map]
  refine loopM_exit (f := lattice_Kind_l3 (rK n ws)) n (fun c => ((c : Int), k, ())) (fun a => (dG3 n ws a).map (badD k)) (.inl (k, ())) (fun a ha => ?_) ?_ rfl
  · unfold lattice_Kind_l3
    simp (disch := first | assumption | omega) only [cond_true, Option.bind_some, dcT, wrapS, kind_l2_eq hn hl ha]
    cases dG3 n ws a <;> rfl
  · unfold lattice_Kind_l3
    simp (disch := first | assumption | omega) only [cond_false, dcF, wrapS]
include hf hws hn hl in
theorem kind_l4_eq {a b : Nat} (ha : a < n) (hb : b < n) (k k1 k2 : KT) : loopM (lattice_Kind_l4 (rK n ws) ((a : Int), k1, ()) ((b : Int), k2, ())) (0, k, ()) = some (exitOr (cond (mB2 n ws a b) (some (badM k)) none) (.inl (k, ()))) := by
  unfold mB2
  rw [← fs_const]
  refine loopM_exit (f := lattice_Kind_l4 (rK n ws) ((a : Int), k1, ()) ((b : Int), k2, ())) n (fun c => ((c : Int), k, ())) (fun c => cond (mB n ws a b c) (some (badM k)) none) (.inl (k, ())) (fun c hc => ?_) ?_ rfl
  · have h1 := (andL_tab hl hb hc).2
    have h2 := (orL_tab hl ha hb).2
    unfold lattice_Kind_l4 mB
    simp (disch := first | assumption | omega) only [cond_true, Option.bind_some, dcT, wrapS, table_Under_eq hf (latR n ws) (show a < ws.length by omega), table_And_eq hl hn hb hc, table_Or_eq hl hn ha h1, table_Or_eq hl hn ha hb, table_And_eq hl hn h2 hc, bne_cast]
    cases below ws a c <;> cases decide (orL n ws a (andL n ws b c) = andL n ws (orL n ws a b) c) <;> rfl
  · unfold lattice_Kind_l4
    simp (disch := first | assumption | omega) only [cond_false, dcF, wrapS]
include hf hws hn hl in
theorem kind_l5_eq {a : Nat} (ha : a < n) (k k2 : KT) : loopM (lattice_Kind_l5 (rK n ws) ((a : Int), k2, ())) (0, k, ()) = some (exitOr (cond (mB3 n ws a) (some (badM k)) none) (.inl (k, ()))) := by
  unfold mB3
  rw [← fs_const]
  refine loopM_exit (f := lattice_Kind_l5 (rK n ws) ((a : Int), k2, ())) n (fun c => ((c : Int), k, ())) (fun b => cond (mB2 n ws a b) (some (badM k)) none) (.inl (k, ())) (fun b hb => ?_) ?_ rfl
  · unfold lattice_Kind_l5
    simp (disch := first | assumption | omega) only [cond_true, Option.bind_some, dcT, wrapS, kind_l4_eq hf hws hn hl ha hb]
    cases mB2 n ws a b <;> rfl
  · unfold lattice_Kind_l5
    simp (disch := first | assumption | omega) only [cond_false, dcF, wrapS]
include hf hws hn hl in
theorem kind_l6_eq (k : KT) : loopM (lattice_Kind_l6 (rK n ws)) (0, k, ()) = some (exitOr (cond ((List.range n).any (mB3 n ws)) (some (badM k)) none) (.inl (k, ()))) := by
  rw [← fs_const]
  refine loopM_exit (f := lattice_Kind_l6 (rK n ws)) n (fun c => ((c : Int), k, ())) (fun a => cond (mB3 n ws a) (some (badM k)) none) (.inl (k, ())) (fun a ha => ?_) ?_ rfl
  · unfold lattice_Kind_l6
    simp (disch := first | assumption | omega) only [cond_true, Option.bind_some, dcT, wrapS, kind_l5_eq hf hws hn hl ha]
    cases mB3 n ws a <;> rfl
  · unfold lattice_Kind_l6
    simp (disch := first | assumption | omega) only [cond_false, dcF, wrapS]
include hn hl in
theorem kind_l7_eq {a : Nat} (ha : a < n) (k : KT) : loopM (lattice_Kind_l7 (rK n ws) ((a : Int), k, ())) (false, 0, ()) = some (.inl (hB2 n ws a, ())) := by
  refine loopM_sim (f := lattice_Kind_l7 (rK n ws) ((a : Int), k, ())) n (fun b => ((List.range b).any (hB n ws a), (b : Int), ())) _ (fun b hb => ?_) ?_ rfl
  · unfold lattice_Kind_l7
    rw [any_succ]
    simp (disch := first | assumption | omega) only [cond_true, Option.bind_some, dcT, wrapS, table_Or_eq hl hn ha hb, table_And_eq hl hn ha hb]
    show cond _ _ (cond (((orL n ws a b : Nat) : Int) == ((topTo n ws n : Nat) : Int)) (some (Sum.inl (((andL n ws a b : Nat) : Int) == ((topTo n (downW n ws) n : Nat) : Int), _))) _) = _
    unfold hB
    rw [beq_cast, beq_cast]
    cases (List.range b).any fun b => decide (orL n ws a b = topTo n ws n) && decide (andL n ws a b = topTo n (downW n ws) n) <;> cases decide (orL n ws a b = topTo n ws n) <;> rfl
  · unfold lattice_Kind_l7
    simp (disch := first | assumption | omega) only [cond_false, dcF, wrapS]
    rfl
include hn hl in
theorem kind_l8_eq (d : Option (Nat × Nat × Nat)) (m : Bool) : loopM (lattice_Kind_l8 (rK n ws)) (0, toK d m true, ()) = some (.inl (toK d m ((List.range n).all (hB2 n ws)), ())) := by
  refine loopM_sim (f := lattice_Kind_l8 (rK n ws)) n (fun a => ((a : Int), toK d m ((List.range a).all (hB2 n ws)), ())) _ (fun a ha => ?_) ?_ rfl
  · unfold lattice_Kind_l8
    rw [all_succ]
    simp (disch := first | assumption | omega) only [cond_true, Option.bind_some, Sum.elim_inl, dcT, wrapS, kind_l7_eq hn hl ha]
    cases d <;> cases (List.range a).all (hB2 n ws) <;> rfl
  · unfold lattice_Kind_l8
    simp (disch := first | assumption | omega) only [cond_false, dcF, wrapS]
end
theorem lattice_Kind_eq {N : Int} {ws : List Nat} (hf : Fit ws) : lattice_Kind ((N, cl ws, ()), ()) = some (if latc N ws = 0 then (toK ((List.range N.toNat).findSome? (dG3 N.toNat ws)) (!(List.range N.toNat).any (mB3 N.toNat ws)) ((List.range N.toNat).all (hB2 N.toNat ws)), 0, ()) else ((false, false, false, 0, 0, 0, ()), latc N ws, ())) := by
  unfold lattice_Kind
  rw [lattice_Of_eq hf]
  by_cases h1 : latc N ws = 0
  · obtain ⟨h0, hpos, hl⟩ := latc_zero h1
    obtain ⟨g1, g2, g3, hin, o⟩ := ordc_zero h0
    obtain ⟨n, rfl⟩ := Int.eq_ofNat_of_zero_le g1
    have hn : n ≤ 16 := by omega
    have hws : ws.length = n := by omega
    have hl : latB n ws = true := hl
    simp (disch := first | assumption | omega) only [cond_false, Option.bind_some, Int.toNat_natCast, if_true, h1, bneF, kind_l3_eq hn hl]
    have e1 : (exitOr (((List.range n).findSome? (dG3 n ws)).map (badD (true, true, true, 0, 0, 0, ()))) (.inl ((true, true, true, 0, 0, 0, ()), ())) : (KT × Unit) ⊕ ((KT × Unit) ⊕ Empty)) = exitOr (((List.range n).findSome? (dG3 n ws)).map fun t => (toK (some t) true true, ())) (.inl (toK none true true, ())) := rfl
    rw [e1]
    have e2 : ∀ d : Option (Nat × Nat × Nat), badM (toK d true true) = (toK d false true, ()) := fun d => by cases d <;> rfl
    cases (List.range n).findSome? (dG3 n ws) with
    | none =>
      simp (disch := first | assumption | omega) only [exitOr_none, Option.bind_some, Sum.elim_inl, Sum.elim_inr, Option.map_none, kind_l6_eq hf hws hn hl]
      rw [e2]
      cases (List.range n).any (mB3 n ws)
      · simp (disch := first | assumption | omega) only [exitOr_none, cond_false, Option.bind_some, Sum.elim_inl, Sum.elim_inr, Bool.not_false, kind_l8_eq hn hl]
      · simp (disch := first | assumption | omega) only [exitOr_some, cond_true, Option.bind_some, Sum.elim_inl, Bool.not_true, kind_l8_eq hn hl]
    | some t =>
      simp (disch := first | assumption | omega) only [exitOr_some, Option.bind_some, Option.map_some, Sum.elim_inl, Option.map_some, kind_l6_eq hf hws hn hl]
      rw [e2]
      cases (List.range n).any (mB3 n ws)
      · simp (disch := first | assumption | omega) only [exitOr_none, cond_false, Option.bind_some, Sum.elim_inl, Sum.elim_inr, Bool.not_false, kind_l8_eq hn hl]
      · simp (disch := first | assumption | omega) only [exitOr_some, cond_true, Option.bind_some, Sum.elim_inl, Bool.not_true, kind_l8_eq hn hl]
  · simp (disch := first | assumption | omega) only [cond_true, Option.bind_some, if_false, h1, bneT]

/-! The reference. -/
theorem ref_kind_l2_same : @ref_LatticeKind_l2 = @ref_LatticeKind_l1 := rfl
theorem ref_kind_l3_same : @ref_LatticeKind_l3 = @ref_LatticeKind_l1 := rfl
section
variable {n : Nat} {ws : List Nat} (hf : Fit ws) (hws : ws.length = n) (hn : n ≤ 16) (hl : latB n ws = true)
abbrev xK (n : Nat) (ws : List Nat) : (Int × List Int × Unit) × (List Int × List Int × Int × Int × Unit) × Unit := (((n : Int), cl ws, ()), latR n ws, ())
include hf hws hn hl in
theorem ref_kind_l1_eq {a b : Nat} (ha : a < n) (hb : b < n) (y : Bool) (k1 k2 : KT) (d : Option (Nat × Nat × Nat)) (m h : Bool) :
    loopM (ref_LatticeKind_l1 (xK n ws) (y, (b : Int), k1, ()) ((a : Int), k2, ())) (0, toK d m h, ()) = some (.inl (toK (d.or (dG2 n ws a b)) (m && !mB2 n ws a b) h, ())) := by
  refine loopM_sim (f := ref_LatticeKind_l1 (xK n ws) (y, (b : Int), k1, ()) ((a : Int), k2, ())) n (fun c => ((c : Int), toK (d.or ((List.range c).findSome? (dG n ws a b))) (m && !(List.range c).any (mB n ws a b)) h, ())) _ (fun c hc => ?_) ?_ (by cases d <;> cases m <;> rfl)
  · have h1 := (orL_tab hl hb hc).2
    have h2 := (andL_tab hl ha hb).2
    have h3 := (andL_tab hl ha hc).2
    have h4 := (andL_tab hl hb hc).2
    have h5 := (orL_tab hl ha hb).2
    unfold ref_LatticeKind_l1
    rw [fs_succ, any_succ, Bool.not_or, ← Bool.and_assoc, ← Option.or_assoc]
    generalize d.or ((List.range c).findSome? (dG n ws a b)) = dd
    generalize (m && !(List.range c).any (mB n ws a b)) = mm
    unfold dG mB
    simp (disch := first | assumption | omega) only [cond_true, Option.bind_some, dcT, wrapS, ref_Or_eq hl hn hb hc, ref_And_eq hl hn ha h1, ref_And_eq hl hn ha hb, ref_And_eq hl hn ha hc, ref_Or_eq hl hn h2 h3, ref_Below_eq hf (show a < ws.length by omega) (show c < 2 ^ 64 by omega), ref_And_eq hl hn hb hc, ref_Or_eq hl hn ha h4, ref_Or_eq hl hn ha hb, ref_And_eq hl hn h5 hc, bne_cast]
    cases decide (andL n ws a (orL n ws b c) = orL n ws (andL n ws a b) (andL n ws a c)) <;> cases below ws a c <;> cases decide (orL n ws a (andL n ws b c) = andL n ws (orL n ws a b) c) <;> cases dd <;> cases mm <;> rfl
  · unfold ref_LatticeKind_l1
    simp (disch := first | assumption | omega) only [cond_false, dcF, wrapS]
    rfl
include hf hws hn hl in
theorem ref_kind_l4_eq {a : Nat} (ha : a < n) (k2 : KT) (d : Option (Nat × Nat × Nat)) (m h : Bool) :
    loopM (ref_LatticeKind_l4 (xK n ws) ((a : Int), k2, ())) (false, 0, toK d m h, ()) = some (.inl (hB2 n ws a, toK (d.or (dG3 n ws a)) (m && !mB3 n ws a) h, ())) := by
  refine loopM_sim (f := ref_LatticeKind_l4 (xK n ws) ((a : Int), k2, ())) n (fun b => ((List.range b).any (hB n ws a), (b : Int), toK (d.or ((List.range b).findSome? (dG2 n ws a))) (m && !(List.range b).any (mB2 n ws a)) h, ())) _ (fun b hb => ?_) ?_ (by cases d <;> cases m <;> rfl)
  · unfold ref_LatticeKind_l4
    rw [ref_kind_l2_same, ref_kind_l3_same, fs_succ, any_succ, any_succ, Bool.not_or, ← Bool.and_assoc, ← Option.or_assoc]
    simp (disch := first | assumption | omega) only [cond_true, Option.bind_some, Sum.elim_inl, dcT, wrapS, ref_kind_l1_eq hf hws hn hl ha hb, ref_Or_eq hl hn ha hb, ref_And_eq hl hn ha hb]
    show cond _ _ (cond (((orL n ws a b : Nat) : Int) == ((topTo n ws n : Nat) : Int)) (some (Sum.inl (((andL n ws a b : Nat) : Int) == ((topTo n (downW n ws) n : Nat) : Int), _))) _) = _
    rw [beq_cast, beq_cast]
    have e : hB n ws a b = (decide (orL n ws a b = topTo n ws n) && decide (andL n ws a b = topTo n (downW n ws) n)) := rfl
    rw [e]
    cases (List.range b).any (hB n ws a) <;> cases decide (orL n ws a b = topTo n ws n) <;> rfl
  · unfold ref_LatticeKind_l4
    simp (disch := first | assumption | omega) only [cond_false, dcF, wrapS]
    rfl
include hf hws hn hl in
theorem ref_kind_l5_eq : loopM (ref_LatticeKind_l5 (xK n ws)) (0, toK none true true, ()) = some (.inl (toK ((List.range n).findSome? (dG3 n ws)) (!(List.range n).any (mB3 n ws)) ((List.range n).all (hB2 n ws)), ())) := by
  refine loopM_sim (f := ref_LatticeKind_l5 (xK n ws)) n (fun a => ((a : Int), toK ((List.range a).findSome? (dG3 n ws)) (!(List.range a).any (mB3 n ws)) ((List.range a).all (hB2 n ws)), ())) _ (fun a ha => ?_) ?_ rfl
  · unfold ref_LatticeKind_l5
    rw [fs_succ, any_succ, all_succ, Bool.not_or]
    simp (disch := first | assumption | omega) only [cond_true, Option.bind_some, Sum.elim_inl, dcT, wrapS, ref_kind_l4_eq hf hws hn hl ha]
    cases hB2 n ws a
    · cases (List.range a).findSome? (dG3 n ws) <;> cases dG3 n ws a <;> cases (List.range a).all (hB2 n ws) <;> rfl
    · cases (List.range a).all (hB2 n ws) <;> rfl
  · unfold ref_LatticeKind_l5
    simp (disch := first | assumption | omega) only [cond_false, dcF, wrapS]
end
/-- THE LAW. -/
theorem latticeKinds {N : Int} {ws : List Nat} (hf : Fit ws) : law_LatticeKinds ((N, cl ws, ()), ()) = some (true, ()) := by
  unfold law_LatticeKinds
  rw [lattice_Kind_eq hf, ref_LatticeMake_eq hf]
  by_cases h1 : latc N ws = 0
  · obtain ⟨h0, hpos, hl⟩ := latc_zero h1
    obtain ⟨g1, g2, g3, hin, o⟩ := ordc_zero h0
    obtain ⟨n, rfl⟩ := Int.eq_ofNat_of_zero_le g1
    have hn : n ≤ 16 := by omega
    have hws : ws.length = n := by omega
    have hl : latB n ws = true := hl
    have q : ref_LatticeKind (((n : Int), cl ws, ()), latR n ws, ()) = some (toK ((List.range n).findSome? (dG3 n ws)) (!(List.range n).any (mB3 n ws)) ((List.range n).all (hB2 n ws)), ()) := by
      have := ref_kind_l5_eq hf hws hn hl
      unfold ref_LatticeKind
      show (loopM (ref_LatticeKind_l5 (xK n ws)) (0, toK none true true, ())).bind _ = _
      rw [this]; rfl
    simp (disch := first | assumption | omega) only [cond_true, cond_false, Option.bind_some, Int.toNat_natCast, Bool.and_true, Bool.and_self, if_true, h1, bneF, beqT, q]
    simp only [beq_self_eq_true, Bool.and_self]
  · simp (disch := first | assumption | omega) only [cond_true, Option.bind_some, Bool.and_true, Bool.and_self, if_false, h1, bneT, beqT] <;> rfl

theorem latticeKinds_law (x : ADen sp6.args) (h : WfA sp6.args x) : law_LatticeKinds x = some (true, ()) := by
  obtain ⟨⟨N, l, ⟨⟩⟩, ⟨⟩⟩ := x
  obtain ⟨ws, rfl, hf⟩ := words_of h.1.2.1
  exact latticeKinds hf

end Go.Proofs.Tryd
