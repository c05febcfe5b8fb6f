/- Lemmas on functions of the program, by name: step. -/
import Derived.Test.YtoddbincogignaaDoorD5Funs
import Derived.Test.YtoddbincogignaaDoorAbsSums
import Derived.Test.YtoddbincogignaaDoorD5LibOrder2
namespace Go.Proofs.Tryd
open Go Go.Abs


theorem fitD {ws : List Nat} (hf : Fit ws) (i : Nat) : ws.getD i 0 < 2 ^ 32 := by
  rw [List.getD_eq_getElem?_getD]
  by_cases h : i < ws.length
  · rw [List.getElem?_eq_getElem h]; exact hf _ (List.getElem_mem h)
  · rw [List.getElem?_eq_none (by omega)]; decide
theorem fitD64 {ws : List Nat} (hf : Fit ws) (i : Nat) : ws.getD i 0 < 2 ^ 64 := lt_64 (fitD hf i)
theorem insideD {n : Nat} {ws : List Nat} (hin : Inside n ws) {i j : Nat} (h : (ws.getD i 0).testBit j = true) : j < n := by
  by_cases hi : i < ws.length
  · exact below_lt hin hi h
  · rw [List.getD_eq_getElem?_getD, List.getElem?_eq_none (by omega)] at h; simp at h
theorem has_D {ws : List Nat} (hf : Fit ws) (i j : Nat) : sets_Has_uint32 (((ws.getD i 0 : Nat) : Int), (j : Int), ()) = some (below ws i j, ()) := sets_Has_eq j (fitD hf i)
theorem all_succ (k : Nat) (p : Nat → Bool) : (List.range (k + 1)).all p = ((List.range k).all p && p k) := by simp [List.range_succ]
theorem any_succ (k : Nat) (p : Nat → Bool) : (List.range (k + 1)).any p = ((List.range k).any p || p k) := by simp [List.range_succ]
theorem if_lt_succ {α : Type} (i k : Nat) (p : Bool) (x y : α) : (if (decide (i < k + 1) && p) = true then x else y) = if i = k then (if p = true then x else y) else (if (decide (i < k) && p) = true then x else y) := by
  by_cases h : i = k
  · subst h; simp
  · have : decide (i < k + 1) = decide (i < k) := by simp; omega
    rw [this, if_neg h]
/-- A word's bits, each put into the table's place that it names. -/
theorem or_into {f : Int × List Int × Unit → Option ((Int × List Int × Unit) ⊕ ((List Int × Unit) ⊕ Empty))} {n : Nat} {w m : Nat} (hw : w < 2 ^ 32) (hin : ∀ j, w.testBit j = true → j < n) (hm : m < 2 ^ 32) {g : Nat → Nat} (hg : ∀ j, j < n → g j < 2 ^ 32)
    (h : ∀ r q (l : List Nat), 2 ^ r * (2 * q + 1) < 2 ^ 64 → r < l.length → r < n → l.getD r 0 < 2 ^ 32 → f (((2 ^ r * (2 * q + 1) : Nat) : Int), cl l, ()) = some (.inl (((2 ^ r * (2 * q) : Nat) : Int), (cl l).set r (((l.getD r 0) ||| m : Nat) : Int), ())))
    (hend : ∀ l, f (0, l, ()) = some (.inr (.inl (l, ())))) :
    loopM f ((w : Int), cl (tab n g), ()) = some (.inl (cl (tab n fun j => if w.testBit j = true then g j ||| m else g j), ())) := by
  have key := loopM_bits (f := f) (v := w) 32 (fun k => (cl (tab n fun j => if (decide (j < k) && w.testBit j) = true then g j ||| m else g j), ())) (.inl (cl (tab n fun j => if w.testBit j = true then g j ||| m else g j), ())) hw (by decide) (fun r q h1 h2 h3 => ?_) (fun r _ h2 => ?_) ?_
  · simpa using key
  · have hr := hin r h2
    rw [h r q _ h1 (by rw [length_tab]; exact hr) hr (by rw [getD_tab hr]; simpa using hg r hr), getD_tab hr, cl_set, tab_set]
    congr 5
    refine tab_congr fun j _ => ?_
    rw [if_lt_succ]
    by_cases e : j = r
    · subst e; simp [h2]
    · simp [e]
  · refine congrArg (fun x => (cl x, ())) (tab_congr fun j _ => ?_)
    rw [if_lt_succ]
    by_cases e : j = r
    · subst e; simp [h2]
    · simp [e]
  · rw [hend]
    refine congrArg (fun x => some (Sum.inr (Sum.inl (cl x, ())))) (tab_congr fun j _ => ?_)
    cases h : w.testBit j
    · simp
    · have := bit_lt hw h; simp [this]
theorem u32_nat {x : Int} (h : (Lit.int .u32 x).wf = true) : ∃ n : Nat, x = (n : Int) ∧ n < 2 ^ 32 := by
  have h1 := wf_u32 h
  exact ⟨x.toNat, by omega, by omega⟩

end Go.Proofs.Tryd
