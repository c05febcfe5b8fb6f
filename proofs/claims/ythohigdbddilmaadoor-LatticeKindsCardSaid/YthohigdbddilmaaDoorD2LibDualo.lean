/- Lemmas on functions of the program, by name: dualo. -/
import Derived.Test.YthohigdbddilmaaDoorD2Funs
import Derived.Test.YthohigdbddilmaaDoorAbsSums
import Derived.Test.YthohigdbddilmaaDoorD2LibDual
import Derived.Test.YthohigdbddilmaaDoorD2LibStep
namespace Go.Proofs.Tryd
open Go Go.Abs


theorem downW_bit {n : Nat} {ws : List Nat} {i : Nat} (hi : i < n) (j : Nat) : ((downW n ws).getD i 0).testBit j = (decide (j < n) && below ws j i) := by
  unfold downW; rw [getD_tab hi, wordOf_bit]
theorem fit_downW {n : Nat} {ws : List Nat} (hn : n ≤ 16) : Fit (downW n ws) := fit_tab fun i _ => wordOf_lt32 _ (by omega)
theorem below_down {n : Nat} {ws : List Nat} {i j : Nat} (hi : i < n) (hj : j < n) : below (downW n ws) i j = below ws j i := by
  unfold below; rw [downW_bit hi, decide_eq_true hj, Bool.true_and]; rfl
theorem inside_down {n : Nat} {ws : List Nat} : Inside n (downW n ws) := fun w hw i hi => by
  obtain ⟨j, hj, rfl⟩ := mem_tab.1 hw
  rw [wordOf_bit, decide_eq_false (by omega)]; rfl
theorem length_down {n : Nat} {ws : List Nat} : (downW n ws).length = n := tab_length ..
theorem order_down {n : Nat} {ws : List Nat} (o : IsOrder n ws) : IsOrder n (downW n ws) where
  refl i hi := by rw [below_down hi hi]; exact o.refl i hi
  anti i j hi hj hne h := by
    rw [below_down hi hj] at h
    rw [below_down hj hi]
    exact o.anti j i hj hi (Ne.symm hne) h
  trans i j k hi hj hk h1 h2 := by
    rw [below_down hi hj] at h1
    rw [below_down hj hk] at h2
    rw [below_down hi hk]
    exact o.trans k j i hk hj hi h2 h1
theorem order_anti {n : Nat} {ws : List Nat} (o : IsOrder n ws) {i j : Nat} (hi : i < n) (hj : j < n) (h1 : below ws i j = true) (h2 : below ws j i = true) : i = j :=
  Classical.byContradiction fun hne => by rw [o.anti i j hi hj hne h1] at h2; cases h2

end Go.Proofs.Tryd
