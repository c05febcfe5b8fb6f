/- The plain law of BagsTells. -/
import Derived.Test.YtoddbincogignaaP9Funs
import Derived.Test.YtoddbincogignaaAbsSums
import Derived.Test.YtoddbincogignaaP9LibBags3
namespace Go.Proofs.Try
open Go Go.Abs


def telB (l : List Rw) : List Rw := (bagOf l []).map toR
def tl (lg : Bool) (m : List Rw) : List Rw × Int × Unit := cond lg ([], 1, ()) (cond (decide (m.length > 128)) ([], 1, ()) (m, 0, ()))
def RowsIn (l : List Rw) : Prop := ∀ r ∈ l, InR r.2.2.1
theorem sc_one {l : List Rw} (h : RowsIn l) : l.map (sc 1) = l := by
  have : ∀ r ∈ l, sc 1 r = r := fun r hr => by
    unfold sc
    rw [Int.one_mul, h r hr]
  rw [List.map_congr_left this, List.map_id']
theorem sc_in (l : List Rw) (n : Int) : RowsIn (l.map (sc n)) := fun r hr => by
  obtain ⟨q, -, rfl⟩ := List.mem_map.1 hr
  exact inR_W _
theorem in_append {l l' : List Rw} (h : RowsIn l) (h' : RowsIn l') : RowsIn (l ++ l') := fun r hr => (List.mem_append.1 hr).elim (h r) (h' r)
theorem ref_tel {l : List Rw} (h : RowsIn l) (hl : l.length ≤ 2900000) : ref_Bag (l, ()) = some (telB l, ()) := by
  rw [ref_Bag_eq hl, rows_bag h]; rfl
theorem telB_length (l : List Rw) : (telB l).length ≤ l.length := by
  have := bag_length l []
  rw [List.length_nil, Nat.zero_add] at this
  unfold telB
  rw [List.length_map]; exact this
theorem mixed_tl {a b : List Rw} {na nb : Int} (ha : a.length ≤ 1048576) (hb : b.length ≤ 1048576) : bags_mixed (a, b, na, nb, ()) = some (tl (decide (a.length > 128) || decide (b.length > 128)) (telB (a.map (sc na) ++ b.map (sc nb)))) := by
  rw [mixed_eq a b na nb ha hb]
  unfold tl telB mixB
  rw [List.length_map]
theorem told_tl {lg : Bool} {m : List Rw} (hl : m.length ≤ 3000000) : law_told ((tl lg m).1, (tl lg m).2.1, lg, m, ()) = some (true, ()) := told_eq lg m hl

theorem bagsTells {a b : List Rw} {n : Int} (wa : RowsIn a) (wb : RowsIn b) (ha : a.length ≤ 1048576) (hb : b.length ≤ 1048576) : law_BagsTells (a, b, n, ()) = some (true, ()) := by
  have d1 : decide ((a.length : Int) > 128) = decide (a.length > 128) := decide_eq_decide.2 (by omega)
  have d2 : decide ((b.length : Int) > 128) = decide (b.length > 128) := decide_eq_decide.2 (by omega)
  have t1 : bags_Tidy (a, ()) = some (tl (decide (a.length > 128)) (telB a)) := by
    unfold bags_Tidy
    rw [mixed_tl ha (by simp), sc_one wa]
    simp
  have t2 : bags_Plus (a, b, ()) = some (tl (decide (a.length > 128) || decide (b.length > 128)) (telB (a ++ b.map (sc 1)))) := by
    unfold bags_Plus
    rw [mixed_tl ha hb, sc_one wa]; rfl
  have t3 : bags_Minus (a, b, ()) = some (tl (decide (a.length > 128) || decide (b.length > 128)) (telB (a ++ b.map (sc (-1))))) := by
    unfold bags_Minus
    rw [mixed_tl ha hb, sc_one wa]; rfl
  have t4 : bags_Scale (n, a, ()) = some (tl (decide (a.length > 128)) (telB (a.map (sc n)))) := by
    unfold bags_Scale
    rw [mixed_tl ha (by simp)]
    simp
  have p0 : ref_Poured ([], n, a, ()) = some (a.map (sc n), ()) := by
    rw [poured_eq [] a n (by simp) ha]; rfl
  have l1 : (a.map (sc n)).length ≤ 1048576 := by rw [List.length_map]; exact ha
  have l2 : ∀ k, (a ++ b.map (sc k)).length ≤ 2900000 := fun k => by rw [List.length_append, List.length_map]; omega
  have r1 := ref_tel (sc_in a n) (Nat.le_trans l1 (by omega))
  have r2 := ref_tel wa (Nat.le_trans ha (by omega))
  have r3 := ref_tel (in_append wa (sc_in b 1)) (l2 1)
  have r4 := ref_tel (in_append wa (sc_in b (-1))) (l2 (-1))
  have q1 : ∀ lg, law_told ((tl lg (telB (a.map (sc n)))).1, (tl lg (telB (a.map (sc n)))).2.1, lg, telB (a.map (sc n)), ()) = some (true, ()) := fun lg => told_tl (Nat.le_trans (telB_length _) (by omega))
  have q2 : ∀ lg, law_told ((tl lg (telB a)).1, (tl lg (telB a)).2.1, lg, telB a, ()) = some (true, ()) := fun lg => told_tl (Nat.le_trans (telB_length _) (by omega))
  have q3 : ∀ lg k, law_told ((tl lg (telB (a ++ b.map (sc k)))).1, (tl lg (telB (a ++ b.map (sc k)))).2.1, lg, telB (a ++ b.map (sc k)), ()) = some (true, ()) := fun lg k => told_tl (Nat.le_trans (telB_length _) (Nat.le_trans (l2 k) (by omega)))
  unfold law_BagsTells
  have e1 : ref_Large (a, ()) = some (decide (a.length > 128), ()) := by unfold ref_Large; rw [d1]
  have e2 : ref_Large (b, ()) = some (decide (b.length > 128), ()) := by unfold ref_Large; rw [d2]
  simp only [t1, t2, t3, t4, e1, e2, Option.bind_some, p0, poured_eq a b 1 ha hb, poured_eq a b (-1) ha hb, r1, r2, r3, r4]
  cases decide (a.length > 128) with
  | true => simp only [cond_true, Bool.true_or, q1, q2, q3, Option.bind_some, Bool.not_true, cond_false]
  | false => simp only [cond_false, Bool.false_or, q1, q2, q3, Option.bind_some, Bool.not_true, cond_true]

theorem wf_i64 {x : Int} (h : (Lit.int .i64 x).wf = true) : IntKind.i64.wrap x = x := by
  refine IntWalk.i64_in x ?_
  simp [Lit.wf, IntKind.signed, IntKind.bits, IntKind.min, IntKind.max] at h
  omega
theorem wf_rows {l : List Rw} (h : ∀ y ∈ l, Wf (.cons (.int .i64) (.cons (.int .i64) (.cons (.int .i64) .nil))) y) : RowsIn l := fun r hr => by
  have h1 : (Lit.int .i64 r.2.2.1).wf = true := (h r hr).2.2.1
  unfold InR W
  exact wf_i64 h1

theorem bagsTells_law (x : ADen sp6.args) (wf : WfA sp6.args x) (hb : bulkA sp6.args x ≤ 1048576) : law_BagsTells x = some (true, ()) := by
  obtain ⟨a, b, n, ⟨⟩⟩ := x
  have ba := length_bulk (.cons (.int .i64) (.cons (.int .i64) (.cons (.int .i64) .nil))) a
  have bb := length_bulk (.cons (.int .i64) (.cons (.int .i64) (.cons (.int .i64) .nil))) b
  have hs : bulkA sp6.args (a, b, n, ()) = tyBulk (.list (.cons (.int .i64) (.cons (.int .i64) (.cons (.int .i64) .nil)))) a + (tyBulk (.list (.cons (.int .i64) (.cons (.int .i64) (.cons (.int .i64) .nil)))) b + (1 + 0)) := rfl
  rw [hs] at hb
  exact bagsTells (wf_rows wf.1.2) (wf_rows wf.2.1.2) (by omega) (by omega)

end Go.Proofs.Try
