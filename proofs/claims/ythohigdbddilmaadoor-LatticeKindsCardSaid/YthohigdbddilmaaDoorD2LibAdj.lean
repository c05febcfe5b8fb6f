/- Lemmas on functions of the program, by name: adj. -/
import Derived.Test.YthohigdbddilmaaDoorD2Funs
import Derived.Test.YthohigdbddilmaaDoorAbsSums
import Derived.Test.YthohigdbddilmaaDoorD2LibEnds
import Derived.Test.YthohigdbddilmaaDoorD2LibLsub
import Derived.Test.YthohigdbddilmaaDoorD2LibSame
namespace Go.Proofs.Tryd
open Go Go.Abs


theorem orL_spec {n : Nat} {ws : List Nat} (hl : latB n ws = true) {a b : Nat} (ha : a < n) (hb : b < n) : orL n ws a b < n ∧ below ws a (orL n ws a b) = true ∧ below ws b (orL n ws a b) = true ∧ ∀ y, y < n → below ws a y = true → below ws b y = true → below ws (orL n ws a b) y = true := by
  obtain ⟨x, hx⟩ := (latB_iff.1 hl a b ha hb).1
  have := lub_spec hx
  unfold orL
  rw [hx]
  exact this
theorem orL_comm {n : Nat} {ws : List Nat} (o : IsOrder n ws) (hl : latB n ws = true) {a b : Nat} (ha : a < n) (hb : b < n) : orL n ws a b = orL n ws b a := by
  obtain ⟨h1, h2, h3, h4⟩ := orL_spec hl ha hb
  obtain ⟨g1, g2, g3, g4⟩ := orL_spec hl hb ha
  exact order_anti o h1 g1 (h4 _ g1 g3 g2) (g4 _ h1 h3 h2)
theorem orL_self {n : Nat} {ws : List Nat} (o : IsOrder n ws) (hl : latB n ws = true) {a : Nat} (ha : a < n) : orL n ws a a = a := by
  obtain ⟨h1, h2, h3, h4⟩ := orL_spec hl ha ha
  exact order_anti o h1 ha (h4 _ ha (o.refl a ha) (o.refl a ha)) h2

/-- The least element. -/
def botT (n : Nat) (ws : List Nat) : Nat := topTo n (downW n ws) n
/-- Is the join of two mapped to the join of what they are mapped to? -/
def keepAt (n : Nat) (ws : List Nat) (m : Nat) (vs fs : List Nat) (a b : Nat) : Bool := decide (fs.getD (orL n ws a b) 0 = orL m vs (fs.getD a 0) (fs.getD b 0))
def keepsB (n : Nat) (ws : List Nat) (m : Nat) (vs fs : List Nat) : Bool := decide (fs.getD (botT n ws) 0 = botT m vs) && (List.range n).all fun a => (List.range a).all fun b => keepAt n ws m vs fs a b
theorem keeps_all {n m : Nat} {ws vs fs : List Nat} (o : IsOrder n ws) (hl : latB n ws = true) (o' : IsOrder m vs) (hl' : latB m vs = true) (h : ∀ i, i < n → fs.getD i 0 < m) : keepsB n ws m vs fs = (((List.range n).all fun a => (List.range n).all fun b => keepAt n ws m vs fs a b) && decide (fs.getD (botT n ws) 0 = botT m vs)) := by
  have hs : ∀ a b, a < n → b < n → keepAt n ws m vs fs a b = keepAt n ws m vs fs b a := fun a b ha hb => by
    unfold keepAt
    rw [orL_comm o hl ha hb, orL_comm o' hl' (h a ha) (h b hb)]
  have hself : ∀ a, a < n → keepAt n ws m vs fs a a = true := fun a ha => by
    unfold keepAt
    rw [orL_self o hl ha, orL_self o' hl' (h a ha)]
    exact decide_eq_true rfl
  unfold keepsB
  rw [Bool.and_comm]
  refine congrArg (fun p => p && decide (fs.getD (botT n ws) 0 = botT m vs)) ?_
  rw [Bool.eq_iff_iff, List.all_eq_true, List.all_eq_true]
  constructor
  · intro hh a ha
    have ha' := List.mem_range.1 ha
    refine List.all_eq_true.2 fun b hb => ?_
    have hb' := List.mem_range.1 hb
    by_cases e : a = b
    · subst e; exact hself a ha'
    · by_cases e2 : b < a
      · exact List.all_eq_true.1 (hh a ha) b (List.mem_range.2 e2)
      · rw [hs a b ha' hb']
        exact List.all_eq_true.1 (hh b hb) a (List.mem_range.2 (by omega))
  · intro hh a ha
    have ha' := List.mem_range.1 ha
    exact List.all_eq_true.2 fun b hb => List.all_eq_true.1 (hh a ha) b (List.mem_range.2 (by have := List.mem_range.1 hb; omega))
theorem keeps_or {n m : Nat} {ws vs fs : List Nat} (o : IsOrder n ws) (hl : latB n ws = true) (o' : IsOrder m vs) (hl' : latB m vs = true) (h : ∀ i, i < n → fs.getD i 0 < m) (hk : keepsB n ws m vs fs = true) : fs.getD (botT n ws) 0 = botT m vs ∧ ∀ a b, a < n → b < n → fs.getD (orL n ws a b) 0 = orL m vs (fs.getD a 0) (fs.getD b 0) := by
  rw [keeps_all o hl o' hl' h, Bool.and_eq_true, decide_eq_true_eq, List.all_eq_true] at hk
  exact ⟨hk.2, fun a b ha hb => of_decide_eq_true (List.all_eq_true.1 (hk.1 a (List.mem_range.2 ha)) b (List.mem_range.2 hb))⟩

/-- The joins of some elements. -/
def jn (n : Nat) (ws : List Nat) (D : Nat → Bool) : Nat → Nat
  | 0 => botT n ws
  | k + 1 => cond (D k) (orL n ws (jn n ws D k) k) (jn n ws D k)
theorem jn_fold (n : Nat) (ws : List Nat) (D : Nat → Bool) (k : Nat) : (listB k D).foldl (orL n ws) (botT n ws) = jn n ws D k := by
  induction k with
  | zero => rfl
  | succ k ih =>
    rw [listB_succ, jn]
    cases D k
    · exact ih
    · show (listB k D ++ [k]).foldl _ _ = orL n ws (jn n ws D k) k
      rw [List.foldl_append, ih]; rfl
/-- They are the greatest of a set that holds its joins. -/
theorem jn_max {n : Nat} {ws : List Nat} (o : IsOrder n ws) (hl : latB n ws = true) {D : Nat → Bool} (hbn : botT n ws < n) (hb : D (botT n ws) = true) (hor : ∀ a b, a < n → b < n → D a = true → D b = true → D (orL n ws a b) = true) : ∀ k, k ≤ n → jn n ws D k < n ∧ D (jn n ws D k) = true ∧ ∀ x, x < k → D x = true → below ws x (jn n ws D k) = true
  | 0, _ => ⟨hbn, hb, fun x hx => by omega⟩
  | k + 1, hk => by
    obtain ⟨h1, h2, h3⟩ := jn_max o hl hbn hb hor k (by omega)
    rw [jn]
    cases hd : D k
    · refine ⟨h1, h2, fun x hx hx2 => ?_⟩
      by_cases e : x = k
      · subst e; rw [hd] at hx2; cases hx2
      · exact h3 x (by omega) hx2
    · obtain ⟨g1, g2, g3, -⟩ := orL_spec hl h1 (show k < n by omega)
      refine ⟨g1, hor _ _ h1 (by omega) h2 hd, fun x hx hx2 => ?_⟩
      by_cases e : x = k
      · subst e; exact g3
      · exact o.trans x _ _ (by omega) h1 g1 (h3 x (by omega) hx2) g2
/-- What the reference finds. -/
def bd (ws : List Nat) (D : Nat → Bool) : Nat → Option Nat
  | 0 => none
  | k + 1 => cond (D k) (match bd ws D k with
    | none => some k
    | some i => cond (below ws i k) (some k) (some i)) (bd ws D k)
theorem bd_lt {ws : List Nat} {D : Nat → Bool} {i : Nat} : ∀ {k}, bd ws D k = some i → i < k ∧ D i = true
  | 0, h => by cases h
  | k + 1, h => by
    rw [bd] at h
    cases hd : D k
    · rw [hd] at h
      have := bd_lt (k := k) h
      exact ⟨by omega, this.2⟩
    · rw [hd] at h
      cases hb : bd ws D k with
      | none =>
        rw [hb] at h
        cases h
        exact ⟨by omega, hd⟩
      | some j =>
        rw [hb] at h
        have hj := bd_lt (k := k) hb
        have h : cond (below ws j k) (some k) (some j) = some i := h
        cases hc : below ws j k
        · rw [hc] at h; cases h; exact ⟨by omega, hj.2⟩
        · rw [hc] at h; cases h; exact ⟨by omega, hd⟩
theorem bd_max {n : Nat} {ws : List Nat} (o : IsOrder n ws) {D : Nat → Bool} {t : Nat} (ht : t < n) (hD : D t = true) (hmax : ∀ x, x < n → D x = true → below ws x t = true) : ∀ k, k ≤ n → t < k → bd ws D k = some t
  | 0, _, h => by omega
  | k + 1, hk, h => by
    rw [bd]
    by_cases e : t = k
    · subst e
      rw [hD, cond_true]
      cases hb : bd ws D t with
      | none => rfl
      | some i =>
        obtain ⟨h1, h2⟩ := bd_lt hb
        show cond (below ws i t) _ _ = _
        rw [hmax i (by omega) h2]; rfl
    · rw [bd_max o ht hD hmax k (by omega) (by omega)]
      cases hd : D k
      · rfl
      · show cond (below ws t k) _ _ = _
        have h1 := hmax k (by omega) hd
        have : below ws t k = false := by
          cases h2 : below ws t k
          · rfl
          · exact absurd (order_anti o ht (by omega) h2 h1) e
        rw [this]; rfl

theorem foldl_lt {n : Nat} {ws : List Nat} (hl : latB n ws = true) : ∀ (l : List Nat) (a : Nat), a < n → (∀ x ∈ l, x < n) → l.foldl (orL n ws) a < n
  | [], a, ha, _ => ha
  | x :: l, a, ha, h => foldl_lt hl l _ (orL_tab hl ha (h x (List.mem_cons_self ..))).2 fun y hy => h y (List.mem_cons_of_mem _ hy)
theorem table_Joins_eq {n : Nat} {ws : List Nat} (hl : latB n ws = true) (hn : n ≤ 16) (hb : botT n ws < n) {l : List Nat} (hlen : l.length ≤ 1000000) (h : ∀ x ∈ l, x < n) : lattice_Table_Joins ((((n : Int), cl ws, ()), latR n ws, ()), cl l, ()) = some (((l.foldl (orL n ws) (botT n ws) : Nat) : Int), ()) := by
  have key := loopM_sim (f := lattice_Table_Joins_l1 ((((n : Int), cl ws, ()), latR n ws, ()), cl l, ())) l.length (fun k => ((((l.take k).foldl (orL n ws) (botT n ws) : Nat) : Int), (k : Int), ())) (.inl (((l.foldl (orL n ws) (botT n ws) : Nat) : Int), ())) (fun k hk => by
    have h1 := foldl_lt hl (l.take k) _ hb fun x hx => h x (List.mem_of_mem_take hx)
    have h2 := h _ (List.mem_of_getElem? (getD_get (d := 0) hk))
    have e : (l.take (k + 1)).foldl (orL n ws) (botT n ws) = orL n ws ((l.take k).foldl (orL n ws) (botT n ws)) (l.getD k 0) := by
      rw [List.take_add_one, getD_get (d := 0) hk, List.foldl_append]; rfl
    unfold lattice_Table_Joins_l1
    simp (disch := first | assumption | omega) only [cond_true, Option.bind_some, dcT, getI_cl, wrapS, length_cl, table_Or_eq hl hn h1 h2, e]) (by
    unfold lattice_Table_Joins_l1
    simp (disch := first | assumption | omega) only [cond_false, dcF, wrapS, length_cl, List.take_length]) (s0 := (((botT n ws : Nat) : Int), 0, ())) rfl
  unfold lattice_Table_Joins
  show (loopM _ (((botT n ws : Nat) : Int), 0, ())).bind _ = _
  rw [key]
  rfl
theorem table_Under_eq {n : Nat} {ws : List Nat} (hf : Fit ws) (t : List Int × List Int × Int × Int × Unit) {a b : Nat} (ha : a < ws.length) : lattice_Table_Under ((((n : Int), cl ws, ()), t, ()), (a : Int), (b : Int), ()) = some (below ws a b, ()) := by
  unfold lattice_Table_Under
  simp (disch := first | assumption | omega) only [Option.bind_some, getI_cl, has_D hf]

end Go.Proofs.Tryd
