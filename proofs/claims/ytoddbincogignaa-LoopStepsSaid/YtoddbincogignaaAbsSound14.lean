/- The engine, part 11g: a range over a map begins; the entry that came last. -/
import Derived.Test.YtoddbincogignaaAbsSound13
import Derived.Test.YtoddbincogignaaAbsSound12
import Derived.Maps.RangeRun
namespace Go.Abs
open Go Go.RowKit

variable {P : Program} {L : Nat → Prop} {w0 : World}

theorem leftOf_none (es : Array MapEntry) : leftOf es #[] = es := by
  unfold leftOf
  simp

theorem sem_range {R : Type} {C : Ctx} (hti : ∀ t ti, C.TI t = some ti → ti.OK P t) {o : Oper} {T : TypeId} {x : Operand} (ho : o.op = .range T x) {ρ : Env} {h : Heap} {id' : Nat} {K : Eff → Option R} {z : R} (he : evalRange C T (ev ρ x) h id' K = some z) :
    ∃ q, K q = some z ∧ q.full = none ∧ ∀ ρs hs, ev ρs x = ev ρ x → (∀ p ∈ q.ups, hs p.1 = h p.1) → OpSem P L w0 o ρs hs (q.heap hs) q.av := by
  unfold evalRange at he
  split at he
  · rename_i ti hT
    split at he
    · rename_i kv hmp
      split at he
      · rename_i ak av tk tv l hx
        unfold newObj at he
        split at he
        rotate_left
        · cases he
        rename_i hf
        refine ⟨_, he, rfl, fun ρs hs e1 hup => ?_⟩
        have hfs : hs id' = .fresh := (hup (id', .iter ak av tk tv l none) (by simp)).trans hf
        have hu := (hti T ti hT).mapT kv.1 kv.2 hmp
        show OpSem P L w0 o ρs hs (upd hs id' (.iter ak av tk tv l none)) (.one (.ptr id' 0))
        refine opSem_val (fun c hc => by rw [ho] at hc; cases hc) fun κ a w hev ok => ?_
        have hv := hev x
        rw [e1, hx] at hv
        obtain ⟨_, _, hrep⟩ := hv
        have fin : ∀ (m : Option Nat) (since c0 : Nat), (Instr.range T (a.eval x)).run P w = .ok (.pointer (some ⟨w.heap.size, 0, none⟩)) (w.alloc (.mapIter m since #[] c0)) →
            IterRep (w.alloc (.mapIter m since #[] c0)) (Free L (upd κ id' (some (w.heap.size, 0))) (upd hs id' (.iter ak av tk tv l none)) (w.alloc (.mapIter m since #[] c0))) ak av tk tv l none m since #[] c0 →
            ∃ κ' v w', (execOp a.eval o).run P w = .ok (.value v) w' ∧ HeapOK L w0 κ' (upd hs id' (.iter ak av tk tv l none)) w' ∧ RepAV L κ' (upd hs id' (.iter ak av tk tv l none)) w' (.one (.ptr id' 0)) v ∧ Ext L κ hs w κ' (upd hs id' (.iter ak av tk tv l none)) w' := by
          intro m since c0 hrun hit
          have hx' := ext_new (L := L) (κ := κ) (h := hs) (w := w) (.mapIter m since #[] c0) (id := id') (.iter ak av tk tv l none) 0 hfs
          refine ⟨_, _, _, by unfold execOp; rw [ho]; simp only [Sem.run_bind, hrun, Result.andThen_ok, Sem.run_pure], heap_new ok (.mapIter m since #[] c0) (.iter ak av tk tv l none) 0 hfs ⟨w.heap.size, 0, m, since, #[], c0, upd_same _ _ _, World.alloc_heap_new w _, hit⟩, ⟨by rw [upd_same]; simp, w.heap.size, 0, upd_same _ _ _, rfl⟩, hx'⟩
        obtain ⟨b, es, clock, h0, hA, hb, hr⟩ := hrep
        · have h0 : a.eval x = .map (some b) := by simpa [get1] using h0
          have hx' := ext_new (L := L) (κ := κ) (h := hs) (w := w) (.mapIter (some b) clock #[] clock) (id := id') (.iter ak av tk tv l none) 0 hfs
          obtain ⟨hA', hb'⟩ := hx'.free b hA
          refine fin (some b) clock clock (by rw [h0]; exact run_range_map w T _ _ b es clock hu hb) ⟨.inr ⟨b, es, clock, rfl, hA', hb'.trans hb, hr.apart, hr.early, Nat.le_refl _, Nat.le_refl _, ?_, fun q hq => by cases hq⟩⟩
          obtain ⟨p, p1, p2, p3⟩ := hr.ents
          rw [leftOf_none]
          exact ⟨p, p1, p2, fun i y q a b => ⟨RepVal.mono hx'.free (p3 i y q a b).1, RepVal.mono hx'.free (p3 i y q a b).2⟩⟩
      · cases he
    · cases he
  · cases he

theorem valCells_rep {κ : Place} {h : Heap} {w : World} {agg : Bool} {t : Ty} {v : Value} {y : t.den} (hr : RepVal w (Free L κ h w) agg t v y) : RepComp L κ h w (agg, valCells agg t y) v := hr.cells.2

theorem sem_iterEntry {R : Type} {o : Oper} {x : Operand} (ho : o.op = .entry x) {ρ : Env} {h : Heap} {K : Eff → Option R} {z : R} (he : evalIterEntry (ev ρ x) h K = some z) :
    ∃ q, K q = some z ∧ q.full = none ∧ ∀ ρs hs, ev ρs x = ev ρ x → (∀ id ∈ q.rd, hs id = h id) → OpSem P L w0 o ρs hs (q.heap hs) q.av := by
  unfold evalIterEntry at he
  split at he
  · rename_i id hx
    split at he
    · rename_i ak av tk tv left q hid
      refine ⟨_, he, rfl, fun ρs hs e1 hrd => ?_⟩
      have hids : hs id = .iter ak av tk tv left (some q) := (hrd id (by simp [effRd])).trans hid
      refine opSem_pure (fun c hc => by rw [ho] at hc; cases hc) fun κ a w hev ok => ?_
      have hv := hev x
      rw [e1, hx] at hv
      obtain ⟨_, r, c, hk, hv⟩ := hv
      have hob := ok.obj id
      rw [hids] at hob
      obtain ⟨r2, c2, m, since, seen, c0, hk2, hr, hit⟩ := hob
      rw [hk] at hk2; cases hk2
      rcases hit.map with ⟨_, _, hc⟩ | ⟨b, es, clock, rfl, -, hb, hnd, -, -, -, -, hcur⟩
      · cases hc
      · obtain ⟨hcl, y, hy, hback, hky, hvy⟩ := hcur q rfl
        subst hcl
        have hrun : (Instr.entry (a.eval x)).run P w = .ok (.tuple #[y.key, y.val]) w := by
          have hf : es.find? (·.born == y.born) = some y := by rw [← Array.find?_toList]; exact find_born y es.toList hnd hy
          rw [hv]
          simp only [Instr.entry, getObj, Sem.run_bind, Sem.run, hr, hb, Result.andThen, hback, bne_self_eq_false, Bool.false_eq_true, if_false, hf]
          rfl
        refine ⟨.tuple #[y.key, y.val], by unfold execOp; rw [ho]; simp only [Sem.run_bind, hrun, Result.andThen_ok, Sem.run_pure], ?_⟩
        refine ⟨[y.key, y.val], rfl, rfl, fun j cc uu hj hu => ?_⟩
        match j, hj, hu with
        | 0, hj, hu => cases hj; cases hu; exact valCells_rep hky
        | 1, hj, hu => cases hj; cases hu; exact valCells_rep hvy
        | n + 2, hj, _ => simp at hj
    · cases he
  · cases he

/-- The function keeps maps.Clone's contract, at a map that is not nil. -/
structure CloneF (P : Program) (F : FuncId) : Prop where
  fn : ∃ fn, P.funcs[F]? = some fn ∧ fn.body.isSome = true ∧ (fn.name == "runtime.NumGoroutine") = false
  run : ∀ (b : Nat) (es : Array MapEntry) (clock : Nat) (w : World), w.heap[b]? = some (.map es clock) → Calls P F #[.map (some b)] w fun e w' => e = .returned (.map (some w.heap.size)) ∧ w' = w.alloc (.map es clock)

/-- What a function keeps that the evaluator knows by name: 0, a map's copy; k, a sort of elements of k cells. -/
def SrnOK (P : Program) (F : FuncId) : Nat → Prop
  | 0 => CloneF P F
  | k + 1 => SortN P F (k + 1)

theorem sem_evalClone {R : Type} {F : FuncId} (hS : CloneF P F) {o : Oper} {g : Operand} {args : Array Operand} {Ts : Array TypeId} (ho : o.op = .call { callee := .value g, args := args, argTypes := Ts })
    {ρ : Env} (hg : ev ρ g = .one (.fn F [])) {h : Heap} {id' : Nat} {K : Eff → Option R} {z : R} (he : evalClone (args.toList.map (ev ρ)) h id' K = some z) :
    ∃ q, K q = some z ∧ q.full = none ∧ ∀ ρs hs, (∀ x, x = g ∨ x ∈ args.toList → ev ρs x = ev ρ x) → (∀ p ∈ q.ups, hs p.1 = h p.1) → OpSem P L w0 o ρs hs (q.heap hs) q.av := by
  unfold evalClone at he
  split at he
  · rename_i ak av tk tv l hargs
    obtain ⟨s, hax, hs'⟩ : ∃ s, args = #[s] ∧ ev ρ s = .one (.sc (.map ak av tk tv) l) := by
      obtain ⟨l', hl⟩ : ∃ l', args.toList = l' := ⟨_, rfl⟩
      rw [hl] at hargs
      match l', hargs with
      | [s], h => simp only [List.map_cons, List.map_nil, List.cons.injEq, and_true] at h; exact ⟨s, Array.toList_inj.1 hl, h⟩
      | [], h => simp at h
      | _ :: _ :: _, h => simp at h
    subst hax
    unfold newObj at he
    split at he
    rotate_left
    · cases he
    rename_i hf
    refine ⟨_, he, rfl, fun ρs hs ha hup => ?_⟩
    have hfs : hs id' = .fresh := (hup (id', .mapo ak av tk tv l) (by simp)).trans hf
    show OpSem P L w0 o ρs hs (upd hs id' (.mapo ak av tk tv l)) (.one (.mp id'))
    intro r κ a w henv ok m K' Q hK
    have hev := ev_rep henv
    have hgv := hev g
    rw [(ha g (.inl rfl)).trans hg] at hgv
    obtain ⟨cs, hgv, hcl, -⟩ := hgv
    have hcs : cs = [] := List.eq_nil_of_length_eq_zero hcl
    subst hcs
    have hsv := hev s
    rw [(ha s (.inr (by simp))).trans hs'] at hsv
    obtain ⟨_, _, b, es, clock, h0, hA, hb, hr⟩ := hsv
    have h0 : a.eval s = .map (some b) := by simpa [get1] using h0
    obtain ⟨fn, hf1, hf2, hf3⟩ := hS.fn
    have hrun := exec_call (P := P) ho hgv hf1 hf2 hf3 w
    have harr : (#[] ++ #[s].map a.eval ++ ([] : List Value).toArray) = #[.map (some b)] := by simp [h0]
    rw [harr] at hrun
    have hcall := (callsIn_wide (n := m - 1)).2 (hS.run b es clock w hb)
    refine wpIn_call (fun c hc => by rw [ho] at hc; cases hc) hrun hcall fun e' w' ⟨he', hw⟩ => ⟨_, he', ?_⟩
    subst hw
    have hx' := ext_new (L := L) (κ := κ) (h := hs) (w := w) (.map es clock) (id := id') (.mapo ak av tk tv l) 0 hfs
    exact hK _ _ _ (heap_new ok (.map es clock) (.mapo ak av tk tv l) 0 hfs ⟨w.heap.size, 0, es, clock, upd_same _ _ _, World.alloc_heap_new w _, MapRep.mono hx'.free hr⟩) ⟨by rw [upd_same]; simp, w.heap.size, 0, upd_same _ _ _, rfl⟩ hx'
  · cases he

end Go.Abs
