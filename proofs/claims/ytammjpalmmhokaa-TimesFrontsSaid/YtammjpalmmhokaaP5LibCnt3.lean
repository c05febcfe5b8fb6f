/- Lemmas on functions of the program, by name: cnt3. -/
import Derived.Test.YtammjpalmmhokaaP5Funs
import Derived.Test.YtammjpalmmhokaaAbsSums
import Derived.Test.YtammjpalmmhokaaP5LibCnt2
namespace Go.Proofs.Try
open Go Go.Abs


/-! Two tallies merged. -/
def mergeM : List Cn → List Cn → List Cn
  | [], d => d
  | x :: c, [] => x :: c
  | x :: c, y :: d => if cmpL x.1 y.1 < 0 then x :: mergeM c (y :: d) else if 0 < cmpL x.1 y.1 then y :: mergeM (x :: c) d else (x.1, x.2.1 + y.2.1, ()) :: mergeM c d
termination_by c d => c.length + d.length

def emit (acc : List Cn) : List Cn → List Cn × Int × Unit
  | [] => if 64 < acc.length then ([], 1, ()) else (acc, 0, ())
  | x :: M => if overB x.2.1 = true then ([], 6, ()) else emit (if x.2.1 = 0 then acc else acc ++ [x]) M

theorem clone_eq {t : List Int} (h : t.length ≤ 1000000) : slices_Clone_s_int_int (t, ()) = some (t, ()) := by
  unfold slices_Clone_s_int_int
  simp only [List.length_nil, Nat.zero_add, room_ok (show t.length ≤ 140737488355328 by omega) (show t.length * 8 ≤ 140737488355328 by omega), Bool.and_true, cond_true, List.nil_append]

theorem take_tail {α : Type} (x : α) (c : List α) : (((x :: c).drop (1 : Int).toNat).take (((x :: c).length : Int).toNat - (1 : Int).toNat)) = c := by
  show (c.take _) = c
  rw [List.take_of_length_le]
  simp
theorem getI_0 {α : Type} (x : α) (c : List α) : getI (x :: c) (0 : Int) = some x := rfl
theorem cut_ok {α : Type} (x : α) (c : List α) : (decide (0 ≤ (1 : Int)) && decide ((1 : Int) ≤ ((x :: c).length : Int)) && decide (((x :: c).length : Int) ≤ (x :: c).length)) = true := by
  simp
  omega

theorem cut_ok2 {α : Type} (x : α) (c : List α) : (true && decide ((1 : Int) ≤ ((x :: c).length : Int)) && decide (((x :: c).length : Int) ≤ (x :: c).length)) = true := by
  simp
  omega
def okC (c : List Cn) : Prop := ∀ x ∈ c, x.1.length ≤ 4 ∧ -1099511627776 ≤ x.2.1 ∧ x.2.1 ≤ 1099511627776
theorem okC_tail {x : Cn} {c : List Cn} (h : okC (x :: c)) : okC c := fun y hy => h y (List.mem_cons_of_mem _ hy)
theorem okC_head {x : Cn} {c : List Cn} (h : okC (x :: c)) : x.1.length ≤ 4 ∧ -1099511627776 ≤ x.2.1 ∧ x.2.1 ≤ 1099511627776 := h x (List.mem_cons_self ..)

/-- What one round does. -/
theorem len_pos {α : Type} (x : α) (c : List α) : decide (((x :: c).length : Int) > 0) = true := decide_eq_true (by rw [List.length_cons]; omega)
theorem len_nz {α : Type} (x : α) (c : List α) : (((x :: c).length : Int) == 0) = false := beq_eq_false_iff_ne.2 (by rw [List.length_cons]; omega)
theorem mergeM_nil (d : List Cn) : mergeM [] d = d := by rw [mergeM]
theorem mergeM_nil2 (c : List Cn) : mergeM c [] = c := by cases c <;> rw [mergeM]

end Go.Proofs.Try
