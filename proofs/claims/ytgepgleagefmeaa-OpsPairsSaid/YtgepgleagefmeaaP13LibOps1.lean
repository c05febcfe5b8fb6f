/- Lemmas on functions of the program, by name: ops1. -/
import Derived.Test.YtgepgleagefmeaaP13Funs
import Derived.Test.YtgepgleagefmeaaAbsSums
import Derived.Test.YtgepgleagefmeaaP13LibBags3
import Derived.Test.YtgepgleagefmeaaP13LibFindm
namespace Go.Proofs.Try
open Go Go.Abs


/-! Operators on one bag: plainly, and what the program's functions come to. -/
abbrev Op3 := Int × Int × Int × Unit
def oprow (op : Op3) (r : Rw) : List Rw :=
  if op.1 = 1 then [(W (r.1 + op.2.1), W (r.2.1 + op.2.2.1), r.2.2.1, ())]
  else if op.1 = 2 then [(r.2.1, r.1, r.2.2.1, ())]
  else if op.1 = 4 then [(r.1, r.2.1, W (0 - r.2.2.1), ())]
  else if bitsI .and .i64 r.1 op.2.1 = op.2.2.1 then [r] else []
/-- What a key's rows come to. -/
def heapL (kind : Int) (g : List Rw) : List Int :=
  if kind = 5 then [W ((g.map fun r => W (r.2.1 * r.2.2.1)).sum)]
  else if kind = 6 then [W ((g.map fun r => r.2.2.1).sum)]
  else if kind = 8 then (match g.find? fun r => decide (r.2.2.1 > 0) with
    | some r => [r.2.1]
    | none => [])
  else [0]
/-- What a row's place gives. -/
def opG (op : Op3) (R : List Rw) (i : Nat) : List Rw := match R[i]? with
  | none => []
  | some r =>
    if op.1 ≤ 4 then oprow op r
    else if op.1 = 7 then (if r.2.2.1 > 0 then [(r.1, r.2.1, 1, ())] else [])
    else if 0 < i ∧ (R[i - 1]?).map (·.1) = some r.1 then [] else (heapL op.1 ((R.drop i).filter fun x => x.1 == r.1)).map fun v => (r.1, v, 1, ())
def opL (op : Op3) (R : List Rw) : List Rw := (List.range R.length).flatMap (opG op R)
def opA (op : Op3) (R : List Rw) (i : Nat) : Bg := bagOf ((List.range i).flatMap (opG op R)) []

theorem bagOf_app (l l' : List Rw) (m : Bg) : bagOf (l ++ l') m = bagOf l' (bagOf l m) := List.foldl_append
theorem opA_succ (op : Op3) (R : List Rw) (i : Nat) : opA op R (i + 1) = bagOf (opG op R i) (opA op R i) := by
  unfold opA
  rw [List.range_succ, List.flatMap_append, bagOf_app]
  simp
theorem opA_zero (op : Op3) (R : List Rw) : opA op R 0 = [] := rfl

/-- An entry comes to be there, or goes; and on. -/
theorem pour_join {β : Type} (m : Bg) (k : Ky) (n : Int) (F : Bg → Option β) :
    (((cond (((mapGet KT (mapSet KT (mapEnt KT m k (0 : Int)) k (IntKind.i64.wrap (((mapGet KT m k).getD (0 : Int)) + n))) k).getD (0 : Int)) == (0 : Int)) (some (Sum.inl ((mapDel KT (mapSet KT (mapEnt KT m k (0 : Int)) k (IntKind.i64.wrap (((mapGet KT m k).getD (0 : Int)) + n))) k), ()))) (some (Sum.inl ((mapSet KT (mapEnt KT m k (0 : Int)) k (IntKind.i64.wrap (((mapGet KT m k).getD (0 : Int)) + n))), ())))) : Option ((Bg × Unit) ⊕ Empty)).bind (Sum.elim (fun z => F z.1) Empty.elim)) = F (pour m k n) := by
  unfold pour nOf W
  cases hq : (((mapGet KT (mapSet KT (mapEnt KT m k (0 : Int)) k (IntKind.i64.wrap (((mapGet KT m k).getD (0 : Int)) + n))) k).getD (0 : Int)) == (0 : Int)) with
  | true => rfl
  | false => rfl

abbrev LR := Option ((Int × Bg × Unit) ⊕ ((Bg × Unit) ⊕ Empty))
/-- A loop that pours what each row gives. -/
theorem pour_loop {f : (Int × Bg × Unit) → Option ((Int × Bg × Unit) ⊕ ((Bg × Unit) ⊕ Empty))} {op : Op3} {R : List Rw} (h : ∀ (i : Nat) (hi : i < R.length) (m : Bg), f ((i : Int), m, ()) = some (.inl (((i + 1 : Nat) : Int), bagOf (opG op R i) m, ())))
    (hend : ∀ m, f ((R.length : Int), m, ()) = some (.inr (.inl (m, ())))) : loopM f ((0 : Int), ([] : Bg), ()) = some (.inl (bagOf (opL op R) [], ())) := by
  have := loopM_fold (f := f) R.length (opA op R) (.inl (bagOf (opL op R) [], ())) (fun i hi => by rw [h i hi, opA_succ]) (hend _)
  exact this

theorem of_loop (l : List Rw) (hl : l.length ≤ 3000000) : bags_Of (l, ()) = some (bagOf l [], ()) := by
  have htk : ∀ i (h : i < l.length), bagOf (l.take (i + 1)) [] = pour (bagOf (l.take i) []) (kyOf l[i]) l[i].2.2.1 := fun i h => by
    rw [List.take_succ_eq_append_getElem h, bagOf_app]; rfl
  have h := loopM_fold (f := bags_Of_l1 (l, ())) l.length (fun i => bagOf (l.take i) []) (.inl (bagOf l [], ())) (fun i hi => ?_) ?_
  · have h' : loopM (bags_Of_l1 (l, ())) ((0 : Int), ([] : Bg), ()) = _ := h
    unfold bags_Of
    rw [h']; rfl
  · unfold bags_Of_l1
    simp only [dcT (show (i : Int) < (l.length : Int) by omega), cond_true, getI_nat, List.getElem?_eq_getElem hi, Option.bind_some, wrapS (show i < 9223372036854775807 by omega), htk i hi]
    exact pour_join (bagOf (l.take i) []) (kyOf l[i]) l[i].2.2.1 fun z => (some (Sum.inl (((i + 1 : Nat) : Int), z, ())) : LR)
  · unfold bags_Of_l1
    simp only [dcF (show ¬ (l.length : Int) < (l.length : Int) by omega), cond_false, List.take_length]

theorem opG_lin {op : Op3} {R : List Rw} {i : Nat} (hi : i < R.length) (h : op.1 ≤ 4) : opG op R i = oprow op R[i] := by
  unfold opG
  rw [List.getElem?_eq_getElem hi]
  simp only [if_pos h]

section
variable {op : Op3} {m : Bg} {R : List Rw}
end

/-! ### Key by key -/
/-- Rows by rising keys. -/
def KeysUp (R : List Rw) : Prop := R.Pairwise fun a b => a.1 ≤ b.1
theorem keysUp_of {m : Bg} (h : Rise KT m) : KeysUp (m.map toR) := by
  unfold KeysUp
  rw [List.pairwise_map]
  refine List.Pairwise.imp (fun {a b} hab => ?_) h
  have hab : (decide (a.1.1 < b.1.1) || ((a.1.1 == b.1.1) && (decide (a.1.2.1 < b.1.2.1) || ((a.1.2.1 == b.1.2.1) && false)))) = true := hab
  show a.1.1 ≤ b.1.1
  rw [Bool.or_eq_true, decide_eq_true_eq] at hab
  rcases hab with hab | hab
  · omega
  · rw [Bool.and_eq_true, beq_iff_eq] at hab; omega

theorem seg_filter {R : List Rw} (hu : KeysUp R) {i j : Nat} (hi : i < R.length) (hij : i ≤ j) (hj : j ≤ R.length) (h1 : ∀ p (hp : p < R.length), i ≤ p → p < j → R[p].1 = R[i].1) (h2 : ∀ (hj : j < R.length), R[j].1 ≠ R[i].1) :
    (R.drop i).filter (fun x => x.1 == R[i].1) = (R.drop i).take (j - i) := by
  have hs : R.drop i = (R.drop i).take (j - i) ++ R.drop j := by
    have := (List.take_append_drop (j - i) (R.drop i)).symm
    rw [List.drop_drop, show i + (j - i) = j from by omega] at this
    exact this
  have ha : ((R.drop i).take (j - i)).filter (fun x => x.1 == R[i].1) = (R.drop i).take (j - i) := by
    rw [List.filter_eq_self]
    intro x hx
    obtain ⟨p, hp⟩ := List.getElem?_of_mem hx
    rw [List.getElem?_take] at hp
    split at hp
    · rename_i hlt
      rw [List.getElem?_drop] at hp
      obtain ⟨hpl, rfl⟩ := List.getElem?_eq_some_iff.1 hp
      simpa using h1 (i + p) hpl (by omega) (by omega)
    · cases hp
  have hb : (R.drop j).filter (fun x => x.1 == R[i].1) = [] := by
    rw [List.filter_eq_nil_iff]
    intro x hx
    obtain ⟨p, hp⟩ := List.getElem?_of_mem hx
    rw [List.getElem?_drop] at hp
    obtain ⟨hpl, rfl⟩ := List.getElem?_eq_some_iff.1 hp
    have hjl : j < R.length := by omega
    have hle : R[j].1 ≤ R[j + p].1 := by
      by_cases h0 : p = 0
      · subst h0; exact Int.le_refl _
      · exact (List.pairwise_iff_getElem.1 hu) j (j + p) hjl hpl (by omega)
    have hle2 : R[i].1 ≤ R[j].1 := by
      by_cases h0 : i = j
      · subst h0; exact Int.le_refl _
      · exact (List.pairwise_iff_getElem.1 hu) i j hi hjl (by omega)
    have hne := h2 hjl
    have : R[j + p].1 ≠ R[i].1 := by omega
    simpa using this
  conv => lhs; rw [hs]
  rw [List.filter_append, ha, hb, List.append_nil]

/-! ### A key's rows -/
theorem W_add (a b : Int) : W (W a + b) = W (a + b) := by unfold W; rw [IntKind.wrap_i64, IntKind.wrap_i64, IntKind.wrap_i64]; omega
theorem W_add' (a b : Int) : W (a + W b) = W (a + b) := by unfold W; rw [IntKind.wrap_i64, IntKind.wrap_i64, IntKind.wrap_i64]; omega
theorem W_zero : W 0 = 0 := by decide

/-! ### All keys -/
section
variable {op : Op3} {m0 : Bg} {R : List Rw}
theorem opA_seg {i j : Nat} (hij : i < j) (hj : j ≤ R.length) (hk : 4 < op.1) (h7 : op.1 ≠ 7) (h1 : ∀ p (hp : p < R.length), i ≤ p → p < j → R[p].1 = (R[i]'(by omega)).1) : opA op R j = bagOf (opG op R i) (opA op R i) := by
  have key : ∀ d, i + 1 + d ≤ j → opA op R (i + 1 + d) = bagOf (opG op R i) (opA op R i) := by
    intro d
    induction d with
    | zero => intro _; exact opA_succ op R i
    | succ d ih =>
      intro hd
      rw [show i + 1 + (d + 1) = (i + 1 + d) + 1 from rfl, opA_succ, ih (by omega)]
      have hq : i + 1 + d < R.length := by omega
      have hq' : i + d < R.length := by omega
      have : opG op R (i + 1 + d) = [] := by
        unfold opG
        rw [List.getElem?_eq_getElem hq]
        have e1 := h1 (i + 1 + d) hq (by omega) (by omega)
        have e2 := h1 (i + d) hq' (by omega) (by omega)
        have hpv : R[i + 1 + d - 1]? = some R[i + d] := by
          rw [show i + 1 + d - 1 = i + d from by omega]; exact List.getElem?_eq_getElem hq'
        simp only [if_neg (show ¬ op.1 ≤ 4 by omega), if_neg h7, hpv, Option.map_some, e1, e2, show 0 < i + 1 + d from by omega, true_and, if_true]
      rw [this]; rfl
  have := key (j - (i + 1)) (by omega)
  rw [show i + 1 + (j - (i + 1)) = j from by omega] at this
  exact this

end

end Go.Proofs.Try
