/- Lemmas on functions of the program, by name. -/
import Derived.Test.YtammjpalmmhokaaDoorD4Funs
import Derived.Test.YtammjpalmmhokaaDoorAbsSums
import Derived.Test.YtammjpalmmhokaaDoorD4LemmasLabelsInfers3
namespace Go.Proofs.Tryd
section
open Go Go.Abs


/-! The program's loop. -/
section
variable {Nd : List Node} {Ed : List Edge} {n : Nat} {ws : List Nat}
theorem inf_l1 (o : Int × List Int × Unit) (g : List Node × List Edge × Unit) (l : List Int) : labels_Infer_l1 (o, g, l, ()) = labels_Legal_l1 (o, g, l, ()) := rfl
theorem inf_l3 (o : Int × List Int × Unit) (g : List Node × List Edge × Unit) (l : List Int) (z : Int) (L : List Int) (e : Edge) (r : Int × Unit) (r1 : LR) : labels_Infer_l3 (o, g, l, ()) (z, L, ()) e r r1 = labels_Infer_l2 (o, g, L.set e.2.1.toNat r.1, ()) r1 := rfl
theorem inf_l2 {ls : List Nat} (hf : Fit ws) (hw : ws.length = n) (hls : ∀ x ∈ ls, (x : Int) < (n : Int)) (hE : Ed.length ≤ 20) (hok : ∀ j, j < Ed.length → edgeC Nd Ed j = 0) (hlen : ls.length = Nd.length) (o : Int × List Int × Unit) (t : List Int × List Int × Int × Int × Unit) (e : Int × Unit) :
    loopM (labels_Infer_l2 (o, (Nd, Ed, ()), cl ls, ()) ((((n : Int), cl ws, ()), t, ()), e)) ((0 : Int), ()) = some (exitOr (((List.range Ed.length).find? fun i => offB ws ls Ed i).map fun i : Nat => ((i : Int), ())) (.inl ())) := by
  rw [← find_map]
  refine loopM_exit (f := labels_Infer_l2 (o, (Nd, Ed, ()), cl ls, ()) ((((n : Int), cl ws, ()), t, ()), e)) Ed.length (fun i => ((i : Int), ())) _ _ (fun i hi => ?_) ?_ rfl
  · obtain ⟨g1, g2, g3, g4⟩ := flow_step (n := n) hok hlen hi
    obtain ⟨ha, hb, e1, e2⟩ := edge_in (m := Nd.length) rfl hok hi
    have u := table_Under_eq (n := n) hf t (a := ls.getD (frN Ed i) 0) (b := ls.getD (toN Ed i) 0) (by rw [hw]; exact lab_in hls (by rw [hlen]; exact ha))
    have e1' : (Ed.getD i e0).1 = ((frN Ed i : Nat) : Int) := e1
    have e2' : (Ed.getD i e0).2.1 = ((toN Ed i : Nat) : Int) := e2
    have i1 : frN Ed i < ls.length := by omega
    have i2 : toN Ed i < ls.length := by omega
    unfold labels_Infer_l2 offB
    simp only [dcT (show (i : Int) < (Ed.length : Int) by omega), cond_true, getI_D e0 (Int.natCast_nonneg i) (show (i : Int) < (Ed.length : Int) by omega), Int.toNat_natCast, Option.bind_some, e1', e2', length_cl, inB_T i1, inB_T i2, get_cl i1, get_cl i2, u]
    rw [wrapS (by omega)]
    show _ = some (stepOr (cond (!below ws (ls.getD (frN Ed i) 0) (ls.getD (toN Ed i) 0)) _ _) _)
    cases below ws (ls.getD (frN Ed i) 0) (ls.getD (toN Ed i) 0) <;> rfl
  · unfold labels_Infer_l2
    simp only [dcF (show ¬ (Ed.length : Int) < (Ed.length : Int) by omega), cond_false]

def idxV (ws ls : List Nat) (Ed : List Edge) : Int := match (List.range Ed.length).find? fun i => offB ws ls Ed i with
  | some i => (i : Int)
  | none => -1
theorem idxv_of {ws ls : List Nat} {Ed : List Edge} : (((some (exitOr (((List.range Ed.length).find? fun i => offB ws ls Ed i).map fun i : Nat => ((i : Int), ())) (.inl ())) : Option ((Int × Unit) ⊕ Unit ⊕ Empty)).bind (Sum.elim (fun z12 => (some (Sum.inl z12))) (Sum.elim (fun z13 => (some (Sum.inl ((-1 : Int), ())))) Empty.elim))) : Option ((Int × Unit) ⊕ Empty)) = some (.inl (idxV ws ls Ed, ())) := by
  unfold idxV
  cases (List.range Ed.length).find? fun i => offB ws ls Ed i <;> rfl

theorem tab_in {m : Nat} {g : Nat → Nat} (h : ∀ j, j < m → g j < n) : ∀ x ∈ tab m g, (x : Int) < (n : Int) := fun x hx => by
  obtain ⟨i, hi, rfl⟩ := mem_tab.1 hx
  have := h i hi
  omega

theorem inf_l4 {F : Nat → Nat} (o : IsOrder n ws) (hl : latB n ws = true) (hf : Fit ws) (hw : ws.length = n) (hn : n ≤ 16) (hE : Ed.length ≤ 20) (hok : ∀ j, j < Ed.length → edgeC Nd Ed j = 0) (hF : ∀ i, i < Nd.length → F i < n) (ob : Int × List Int × Unit) (l : List Int) (e : Int × Unit) :
    ∀ (M : Nat) (g : Nat → Nat), meas n ws g Nd.length ≤ M → Mid n ws Nd.length Ed F g →
      loopM (labels_Infer_l4 (ob, (Nd, Ed, ()), l, ()) ((((n : Int), cl ws, ()), latR n ws, ()), e)) (idxV ws (tab Nd.length g) Ed, cl (tab Nd.length g), ()) = some (.inl (cl (tab Nd.length (bestF n ws Nd.length Ed F)), ())) := by
  intro M
  induction M with
  | zero =>
    intro g hM hmid
    cases hq : (List.range Ed.length).find? fun i => offB ws (tab Nd.length g) Ed i with
    | none =>
      have hleg : ∀ i, i < Ed.length → below ws (g (frN Ed i)) (g (toN Ed i)) = true := fun i hi => by
        have := find_none_all hq i hi
        obtain ⟨ha, hb, -, -⟩ := edge_in (m := Nd.length) rfl hok hi
        unfold offB at this
        rw [show (frE Ed i).toNat = frN Ed i from rfl, show (toE Ed i).toNat = toN Ed i from rfl, getD_tab ha, getD_tab hb] at this
        simpa using this
      have hb : tab Nd.length g = tab Nd.length (bestF n ws Nd.length Ed F) := tab_congr fun j hj => mid_end o hl rfl hok hF hmid hleg hj
      have hi : idxV ws (tab Nd.length g) Ed = -1 := by unfold idxV; rw [hq]
      rw [hi, hb]
      exact loopM_inr rfl
    | some i =>
      have hi := List.mem_range.1 (List.mem_of_find?_eq_some hq)
      have hoff : offB ws (tab Nd.length g) Ed i = true := by have := List.find?_some hq; exact this
      obtain ⟨ha, hb, -, -⟩ := edge_in (m := Nd.length) rfl hok hi
      unfold offB at hoff
      rw [show (frE Ed i).toNat = frN Ed i from rfl, show (toE Ed i).toNat = toN Ed i from rfl, getD_tab ha, getD_tab hb] at hoff
      have := turn_less o hl rfl hok hmid.lt hi (by simpa using hoff)
      omega
  | succ M ih =>
    intro g hM hmid
    cases hq : (List.range Ed.length).find? fun i => offB ws (tab Nd.length g) Ed i with
    | none =>
      have hleg : ∀ i, i < Ed.length → below ws (g (frN Ed i)) (g (toN Ed i)) = true := fun i hi => by
        have := find_none_all hq i hi
        obtain ⟨ha, hb, -, -⟩ := edge_in (m := Nd.length) rfl hok hi
        unfold offB at this
        rw [show (frE Ed i).toNat = frN Ed i from rfl, show (toE Ed i).toNat = toN Ed i from rfl, getD_tab ha, getD_tab hb] at this
        simpa using this
      have hb : tab Nd.length g = tab Nd.length (bestF n ws Nd.length Ed F) := tab_congr fun j hj => mid_end o hl rfl hok hF hmid hleg hj
      have hi : idxV ws (tab Nd.length g) Ed = -1 := by unfold idxV; rw [hq]
      rw [hi, hb]
      exact loopM_inr rfl
    | some i =>
      have hi := List.mem_range.1 (List.mem_of_find?_eq_some hq)
      have hoff : offB ws (tab Nd.length g) Ed i = true := by have := List.find?_some hq; exact this
      obtain ⟨ha, hb, e1, e2⟩ := edge_in (m := Nd.length) rfl hok hi
      unfold offB at hoff
      rw [show (frE Ed i).toNat = frN Ed i from rfl, show (toE Ed i).toNat = toN Ed i from rfl, getD_tab ha, getD_tab hb] at hoff
      have hlt := turn_less o hl rfl hok hmid.lt hi (by simpa using hoff)
      have hmid2 := mid_turn o hl rfl hok hF hmid hi
      have e1' : (Ed.getD i e0).1 = ((frN Ed i : Nat) : Int) := e1
      have e2' : (Ed.getD i e0).2.1 = ((toN Ed i : Nat) : Int) := e2
      have hix : idxV ws (tab Nd.length g) Ed = (i : Int) := by unfold idxV; rw [hq]
      have hg : ∀ j, j < Nd.length → (cl (tab Nd.length g))[j]? = some ((g j : Nat) : Int) := fun j hj => by
        rw [get_cl (by rw [length_tab]; exact hj), getD_tab hj]
      have hset : (cl (tab Nd.length g)).set (toN Ed i) ((orL n ws (g (frN Ed i)) (g (toN Ed i)) : Nat) : Int) = cl (tab Nd.length (turn n ws Ed g i)) := by
        rw [cl_set, tab_set]; rfl
      have hst : labels_Infer_l4 (ob, (Nd, Ed, ()), l, ()) ((((n : Int), cl ws, ()), latR n ws, ()), e) (idxV ws (tab Nd.length g) Ed, cl (tab Nd.length g), ()) = some (.inl (idxV ws (tab Nd.length (turn n ws Ed g i)) Ed, cl (tab Nd.length (turn n ws Ed g i)), ())) := by
        rw [hix]
        unfold labels_Infer_l4
        simp only [dcT (show (i : Int) ≥ 0 by omega), cond_true, getI_D e0 (Int.natCast_nonneg i) (show (i : Int) < (Ed.length : Int) by omega), Int.toNat_natCast, Option.bind_some, inf_l3, e1', e2', length_cl, length_tab, inB_T ha, inB_T hb, hg _ ha, hg _ hb, table_Or_eq hl hn (hmid.lt _ ha) (hmid.lt _ hb), hset]
        rw [inf_l2 hf hw (tab_in hmid2.lt) hE hok length_tab, idxv_of]
        rfl
      rw [loopM_inl hst]
      exact ih _ (by omega) hmid2

/-! The document's closure. -/
theorem li_l1 {m : Nat} (hm : Nd.length = m) (hm12 : m ≤ 12) (o : Int × List Int × Unit) (l : List Int) : loopM (ref_LabelsInfer_l1 (o, (Nd, Ed, ()), l, ())) ((0 : Int), List.replicate (m * m) false, ()) = some (.inl (sqT m (st0 m Ed 0), ())) := by
  have h0 : List.replicate (m * m) false = sqT m fun a b => decide (a < 0) && a == b := by
    rw [rep_tab]; exact tab_congr fun j _ => by simp
  have h1 : sqT m (st0 m Ed 0) = sqT m fun a b => decide (a < m) && a == b := tab_congr fun y hy => by simp [st0]
  rw [h0, h1]
  refine loopM_sim m (fun i => ((i : Int), sqT m fun a b => decide (a < i) && a == b, ())) _ (fun i hi => ?_) ?_ rfl
  · have hm64 : m ≤ 64 := by omega
    have hset : (sqT m fun a b => decide (a < i) && a == b).set (i * m + i) true = sqT m fun a b => decide (a < i + 1) && a == b := by
      unfold sqT
      rw [tab_set]
      refine tab_congr fun y hy => ?_
      by_cases hyy : y = i * m + i
      · subst hyy; rw [if_pos rfl, sq_div hi, sq_mod hi]; simp
      · rw [if_neg hyy]
        show (decide (y / m < i) && y / m == y % m) = (decide (y / m < i + 1) && y / m == y % m)
        by_cases hq : y / m = i ∧ y % m = i
        · exfalso
          have := Nat.div_add_mod y m
          rw [hq.1, hq.2, Nat.mul_comm] at this
          exact hyy this.symm
        · by_cases h1 : y / m < i
          · rw [decide_eq_true h1, decide_eq_true (show y / m < i + 1 by omega)]
          · rw [decide_eq_false h1]
            by_cases h2 : y / m = i
            · have : y % m ≠ i := fun e => hq ⟨h2, e⟩
              rw [decide_eq_true (show y / m < i + 1 by omega), h2]
              have : (i == y % m) = false := beq_eq_false_iff_ne.2 fun e => this e.symm
              rw [this]; rfl
            · rw [decide_eq_false (show ¬ y / m < i + 1 by omega)]
    unfold ref_LabelsInfer_l1
    simp only [hm, dcT (show (i : Int) < (m : Int) by omega), cond_true, sq_wrapG hm64 hi hi, sqT_len, inB_T (sq_lt hi hi), Int.toNat_natCast, sqT_get hi hi, Option.bind_some, hset, wrapS (show i < 9223372036854775807 by omega)]
  · unfold ref_LabelsInfer_l1
    simp only [hm, dcF (show ¬ (m : Int) < (m : Int) by omega), cond_false]

theorem li_l2 {m : Nat} (hm : Nd.length = m) (hm12 : m ≤ 12) (hE : Ed.length ≤ 20) (hok : ∀ j, j < Ed.length → edgeC Nd Ed j = 0) (o : Int × List Int × Unit) (l : List Int) :
    loopM (ref_LabelsInfer_l2 (o, (Nd, Ed, ()), l, ())) ((0 : Int), sqT m (st0 m Ed 0), ()) = some (.inl (sqT m (st0 m Ed Ed.length), ())) := by
  refine loopM_sim Ed.length (fun i => ((i : Int), sqT m (st0 m Ed i), ())) _ (fun i hi => ?_) ?_ rfl
  · obtain ⟨ha, hb, e1, e2⟩ := edge_in hm hok hi
    have e1' : (Ed.getD i e0).1 = ((frN Ed i : Nat) : Int) := e1
    have e2' : (Ed.getD i e0).2.1 = ((toN Ed i : Nat) : Int) := e2
    have hm64 : m ≤ 64 := by omega
    have hset : (sqT m (st0 m Ed i)).set (frN Ed i * m + toN Ed i) true = sqT m (st0 m Ed (i + 1)) := by
      unfold sqT
      rw [tab_set]
      refine tab_congr fun y hy => ?_
      unfold st0
      rw [List.range_succ, List.any_append, List.any_cons, List.any_nil, Bool.or_false, e1, e2]
      by_cases hyy : y = frN Ed i * m + toN Ed i
      · subst hyy
        rw [if_pos rfl, sq_div hb, sq_mod hb]; simp
      · rw [if_neg hyy]
        have : ((((frN Ed i : Nat) : Int) == ((y / m : Nat) : Int)) && (((toN Ed i : Nat) : Int) == ((y % m : Nat) : Int))) = false := by
          cases hq : ((((frN Ed i : Nat) : Int) == ((y / m : Nat) : Int)) && (((toN Ed i : Nat) : Int) == ((y % m : Nat) : Int))) with
          | false => rfl
          | true =>
            simp only [Bool.and_eq_true, beq_iff_eq] at hq
            exfalso
            have h1 : frN Ed i = y / m := Int.ofNat.inj hq.1
            have h2 : toN Ed i = y % m := Int.ofNat.inj hq.2
            have := Nat.div_add_mod y m
            rw [← h1, ← h2, Nat.mul_comm] at this
            exact hyy this.symm
        rw [this, Bool.or_false]
    unfold ref_LabelsInfer_l2
    simp only [hm, dcT (show (i : Int) < (Ed.length : Int) by omega), cond_true, getI_D e0 (Int.natCast_nonneg i) (show (i : Int) < (Ed.length : Int) by omega), Int.toNat_natCast, Option.bind_some, e1', e2', sq_wrapG hm64 ha hb, sqT_len, inB_T (sq_lt ha hb), sqT_get ha hb, hset, wrapS (show i < 9223372036854775807 by omega)]
  · unfold ref_LabelsInfer_l2
    simp only [dcF (show ¬ (Ed.length : Int) < (Ed.length : Int) by omega), cond_false]

theorem li_l3 {m : Nat} (hm : Nd.length = m) (hm12 : m ≤ 12) (w : Nat → Nat → Bool) {k i : Nat} (hk : k < m) (hi : i < m) (o : Int × List Int × Unit) (l : List Int) (y1 y2 : List Bool × Unit) :
    loopM (ref_LabelsInfer_l3 (o, (Nd, Ed, ()), l, ()) ((i : Int), y1) ((k : Int), y2)) ((0 : Int), fwL w m k (i * m), ()) = some (.inl (fwL w m k ((i + 1) * m), ())) := by
  have hend : (i + 1) * m = i * m + m := by rw [Nat.add_mul, Nat.one_mul]
  rw [hend]
  refine loopM_sim m (fun j => ((j : Int), fwL w m k (i * m + j), ())) _ (fun j hj => ?_) ?_ rfl
  · have hm64 : m ≤ 64 := by omega
    have hset : ∀ b : Bool, b = fwR w k i j → (fwL w m k (i * m + j)).set (i * m + j) b = fwL w m k (i * m + (j + 1)) := fun b hb => by
      unfold fwL
      rw [tab_set]
      exact tab_congr fun y _ => by rw [fwAt_step hj, hb]
    have hsame : w i j = fwR w k i j → fwL w m k (i * m + j) = fwL w m k (i * m + (j + 1)) := fun h => tab_congr fun y _ => by
      rw [fwAt_step hj]
      split
      · rename_i hy; rw [hy, fwAt_here hj, h]
      · rfl
    unfold ref_LabelsInfer_l3
    simp only [hm, dcT (show (j : Int) < (m : Int) by omega), cond_true, sq_wrapG hm64 hi hk, sq_wrapG hm64 hk hj, sq_wrapG hm64 hi hj, fwL_len, inB_T (sq_lt hi hk), inB_T (sq_lt hk hj), inB_T (sq_lt hi hj), Int.toNat_natCast, fwL_get hi hk, fwL_get hk hj, fwL_get hi hj, fwAt_col hk, fwAt_row hj, Option.bind_some, wrapS (show j < 9223372036854775807 by omega)]
    cases h1 : w i k with
    | false => rw [cond_false, hsame (by simp [fwR, h1])]
    | true =>
      rw [cond_true]
      cases h2 : w k j with
      | false => rw [cond_false, hsame (by simp [fwR, h1, h2])]
      | true => rw [cond_true, hset true (by simp [fwR, h1, h2])]
  · unfold ref_LabelsInfer_l3
    simp only [hm, dcF (show ¬ (m : Int) < (m : Int) by omega), cond_false]
theorem li_l4 {m : Nat} (hm : Nd.length = m) (hm12 : m ≤ 12) (w : Nat → Nat → Bool) {k : Nat} (hk : k < m) (o : Int × List Int × Unit) (l : List Int) (y : List Bool × Unit) :
    loopM (ref_LabelsInfer_l4 (o, (Nd, Ed, ()), l, ()) ((k : Int), y)) ((0 : Int), sqT m w, ()) = some (.inl (sqT m (fwR w k), ())) := by
  rw [fwL_zero w m k, ← fwL_end]
  refine loopM_sim m (fun i => ((i : Int), fwL w m k (i * m), ())) _ (fun i hi => ?_) ?_ (by simp)
  · unfold ref_LabelsInfer_l4
    simp only [hm, dcT (show (i : Int) < (m : Int) by omega), cond_true, li_l3 hm hm12 w hk hi, Option.bind_some, Sum.elim_inl, wrapS (show i < 9223372036854775807 by omega)]
  · unfold ref_LabelsInfer_l4
    simp only [hm, dcF (show ¬ (m : Int) < (m : Int) by omega), cond_false]
theorem li_l5 {m : Nat} (hm : Nd.length = m) (hm12 : m ≤ 12) (A : Nat → Nat → Bool) (o : Int × List Int × Unit) (l : List Int) :
    loopM (ref_LabelsInfer_l5 (o, (Nd, Ed, ()), l, ())) ((0 : Int), sqT m A, ()) = some (.inl (sqT m (fwN A m), ())) := by
  refine loopM_sim m (fun k => ((k : Int), sqT m (fwN A k), ())) _ (fun k hk => ?_) ?_ rfl
  · unfold ref_LabelsInfer_l5
    simp only [hm, dcT (show (k : Int) < (m : Int) by omega), cond_true, li_l4 hm hm12 _ hk, Option.bind_some, Sum.elim_inl, wrapS (show k < 9223372036854775807 by omega)]
    rfl
  · unfold ref_LabelsInfer_l5
    simp only [hm, dcF (show ¬ (m : Int) < (m : Int) by omega), cond_false]

theorem li_l6 {m : Nat} (hm : Nd.length = m) (hm12 : m ≤ 12) {F : Nat → Nat} (hl : latB n ws = true) (hf : Fit ws) (hw : ws.length = n) (hn : n ≤ 16) (hF : ∀ i, i < m → F i < n) (W : Nat → Nat → Bool) {j : Nat} (hj : j < m) (y : List Int) :
    loopM (ref_LabelsInfer_l6 (((n : Int), cl ws, ()), (Nd, Ed, ()), cl (tab m F), ()) (y, (j : Int), ()) (sqT m W, ())) (((F j : Nat) : Int), (0 : Int), ()) = some (.inl (((jnL n ws F W j m : Nat) : Int), ())) := by
  refine loopM_sim m (fun k => (((jnL n ws F W j k : Nat) : Int), (k : Int), ())) _ (fun k hk => ?_) ?_ rfl
  · have hm64 : m ≤ 64 := by omega
    have hjl := jnL_lt hl (W := W) hF hj k (by omega)
    have hjo : ref_join (((n : Int), cl ws, ()), ((jnL n ws F W j k : Nat) : Int), ((F k : Nat) : Int), ()) = some (((orL n ws (jnL n ws F W j k) (F k) : Nat) : Int), ()) := by
      rw [ref_join_eq hf hw hn hjl (hF k hk)]
      obtain ⟨x, hx⟩ := (latB_iff.1 hl _ _ hjl (hF k hk)).1
      unfold orL
      rw [hx]; rfl
    unfold ref_LabelsInfer_l6
    simp only [hm, dcT (show (k : Int) < (m : Int) by omega), cond_true, sq_wrapG hm64 hk hj, sqT_len, inB_T (sq_lt hk hj), Int.toNat_natCast, sqT_get hk hj, Option.bind_some, getI_cl (show k < (tab m F).length by rw [length_tab]; exact hk), getD_tab hk, hjo, wrapS (show k < 9223372036854775807 by omega)]
    simp only [jnL]
    cases W k j <;> rfl
  · unfold ref_LabelsInfer_l6
    simp only [hm, dcF (show ¬ (m : Int) < (m : Int) by omega), cond_false]

theorem ref_LabelsInfer_eq {m : Nat} (hm : Nd.length = m) (hm12 : m ≤ 12) (hE : Ed.length ≤ 20) (hok : ∀ j, j < Ed.length → edgeC Nd Ed j = 0) {F : Nat → Nat} (hl : latB n ws = true) (hf : Fit ws) (hw : ws.length = n) (hn : n ≤ 16) (hF : ∀ i, i < m → F i < n) :
    ref_LabelsInfer (((n : Int), cl ws, ()), (Nd, Ed, ()), cl (tab m F), ()) = some (cl (tab m (bestF n ws m Ed F)), ()) := by
  have hmm : m * m ≤ 12 * 12 := Nat.mul_le_mul hm12 hm12
  have k7 : loopM (ref_LabelsInfer_l7 (((n : Int), cl ws, ()), (Nd, Ed, ()), cl (tab m F), ()) (sqT m (fwN (st0 m Ed Ed.length) m), ())) (([] : List Int), (0 : Int), ()) = some (.inl (cl (tab m (bestF n ws m Ed F)), ())) := by
    refine loopM_sim m (fun j => (cl (tab j (bestF n ws m Ed F)), (j : Int), ())) _ (fun j hj => ?_) ?_ rfl
    · unfold ref_LabelsInfer_l7
      simp only [hm, dcT (show (j : Int) < (m : Int) by omega), cond_true, getI_cl (show j < (tab m F).length by rw [length_tab]; exact hj), getD_tab hj, Option.bind_some, li_l6 hm hm12 hl hf hw hn hF _ hj, Sum.elim_inl, length_cl, length_tab, List.length_cons, List.length_nil, wrapS (show j < 9223372036854775807 by omega)]
      rw [room8 (by omega)]
      simp only [Bool.and_true, cond_true]
      rw [← tab_one j (bestF n ws m Ed F)]
      show some (Sum.inl (cl (tab j (bestF n ws m Ed F)) ++ [((bestF n ws m Ed F j : Nat) : Int)], _)) = _
      rw [show cl (tab j (bestF n ws m Ed F)) ++ [((bestF n ws m Ed F j : Nat) : Int)] = cl (tab j (bestF n ws m Ed F) ++ [bestF n ws m Ed F j]) by simp [cl]]
    · unfold ref_LabelsInfer_l7
      simp only [hm, dcF (show ¬ (m : Int) < (m : Int) by omega), cond_false]
  unfold ref_LabelsInfer
  simp only [hm, sq_room hm12, Int.toNat_natCast]
  rw [dcT (show (0 : Int) ≤ ((m * m : Nat) : Int) by omega), dcT (show ((m * m : Nat) : Int) ≤ ((m * m : Nat) : Int) by omega), room1G (by omega), dcT (show ((m * m : Nat) : Int) ≤ 9223372036854775807 by omega)]
  simp only [Bool.and_self, cond_true, li_l1 hm hm12, Option.bind_some, Sum.elim_inl, li_l2 hm hm12 hE hok, li_l5 hm hm12, k7]
end
end

end Go.Proofs.Tryd
