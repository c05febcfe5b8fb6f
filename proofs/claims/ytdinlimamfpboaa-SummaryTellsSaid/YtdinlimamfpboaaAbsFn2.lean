/- The engine, part 20: a function keeps the contract that the evaluator finds. -/
import Derived.Test.YtdinlimamfpboaaAbsFn
namespace Go.Abs
open Go Go.RowKit

variable {P : Program} {L : Nat → Prop} {w0 : World}

theorem repVal_mono {w : World} {A A' : Nat → Prop} (hA : ∀ b, A b → A' b) {agg : Bool} {t : Ty} {v : Value} {x : t.den} (h : RepVal w A agg t v x) : RepVal w A' agg t v x := by
  have hm : ∀ b, A b → A' b ∧ w.heap[b]? = w.heap[b]? := fun b hb => ⟨hA b hb, rfl⟩
  cases agg with
  | false => exact ⟨h.1, h.2.1, RepAt.mono hm t _ _ h.2.2⟩
  | true => obtain ⟨cs, c1, c2, c3, c4⟩ := h; exact ⟨cs, c1, c2, c3, RepAt.mono hm t _ _ c4⟩

def ownOK (h : Heap) : Option Nat → Prop
  | none => True
  | some id => ∃ e t l, h id = .arr e t l

theorem resAll_bo {w : World} {A : Nat → Prop} {base : Nat} {bo bo' : Option (Nat × Nat)} : ∀ {rs : List RTy} {vs : List Value} {y : RDen rs}, ownCount rs = 0 → ResAll w A base bo rs vs y → ResAll w A base bo' rs vs y
  | [], [], _, _, h => h
  | [], _ :: _, _, _, h => h
  | .val _ _ :: _, [], _, _, h => h
  | .own _ _ :: _, [], _, _, h => h
  | .val agg t :: r, v :: vs, y, hc, h => ⟨h.1, resAll_bo (by simpa [ownCount, RTy.isOwn] using hc) h.2⟩
  | .own e t :: r, v :: vs, y, hc, h => by simp [ownCount, RTy.isOwn] at hc

theorem retDen_sound {R : Type} {h : Heap} : ∀ (rs : List RTy) (avs : List AV) (K : RDen rs → List Nat → Option Nat → Option R) (z : R), retDen h rs avs K = some z →
    ∃ y ids o, K y ids o = some z ∧ ownOK h o ∧ ∀ κ w (vals : List Value), vals.length = avs.length → (∀ (i : Nat) (av : AV) (v : Value), avs[i]? = some av → vals[i]? = some v → RepAV L κ h w av v) → HeapOK L w0 κ h w →
      ∀ h2, Ext L κ h w κ h2 w → (∀ id ∈ ids, (∃ e t l, h id = .arr e t l ∨ h id = .ice e t l) → ∀ b c, κ id = some (b, c) → Free L κ h2 w b) → (∀ id, o = some id → h2 id = h id) →
      ∀ (A : Nat → Prop), (∀ b, Free L κ h2 w b → A b) → (∀ id e t l, o = some id → h id = .arr e t l → ∀ b, Free L κ h w b → A b) → ResAll w A w0.heap.size (o.bind κ) rs vals y
  | [], [], K, z, he => ⟨(), [], none, he, trivial, fun κ w vals hl _ _ _ _ _ _ _ _ _ => by
      cases vals with
      | nil => trivial
      | cons v vs => simp at hl⟩
  | [], _ :: _, K, z, he => by simp [retDen] at he
  | .val _ _ :: _, [], K, z, he => by simp [retDen] at he
  | .own _ _ :: _, [], K, z, he => by simp [retDen] at he
  | .val agg t :: r, v :: vs, K, z, he => by
    simp only [retDen] at he
    split at he
    · rename_i y0 ids0 h0
      obtain ⟨ys, ids, o, h1, h2, h3⟩ := retDen_sound r vs _ z he
      refine ⟨_, _, o, h1, h2, fun κ w vals hl hr ok hh x hids ho A hA hA' => ?_⟩
      cases vals with
      | nil => simp at hl
      | cons u us =>
        have ha := argsOf_rep ok x [(agg, t)] [v] [u] y0 ids0 rfl (fun i av v' g1 g2 => by
          cases i with
          | zero => simp at g1 g2; subst g1; subst g2; exact hr 0 _ _ rfl rfl
          | succ i => simp at g1) h0 (fun id hm => hids id (List.mem_append_left _ hm))
        exact ⟨repVal_mono hA ha.1, h3 κ w us (by simpa using hl) (fun i av v' g1 g2 => hr (i + 1) av v' (by simpa using g1) (by simpa using g2)) ok hh x (fun id hm => hids id (List.mem_append_right _ hm)) ho A hA hA'⟩
    · cases he
  | .own e t :: r, v :: vs, K, z, he => by
    cases v with
    | agg l => simp [retDen] at he
    | tup l => simp [retDen] at he
    | one s =>
      cases s with
      | nils =>
        simp only [retDen] at he
        obtain ⟨ys, ids, o, h1, h2, h3⟩ := retDen_sound r vs _ z he
        cases o with
        | some id => cases h1
        | none =>
          refine ⟨_, ids, none, h1, trivial, fun κ w vals hl hr ok hh x hids ho A hA hA' => ?_⟩
          cases vals with
          | nil => simp at hl
          | cons u us =>
            have hu : u = .slice none 0 0 := hr 0 _ u rfl rfl
            exact ⟨.inl ⟨rfl, rfl, hu⟩, h3 κ w us (by simpa using hl) (fun i av v' g1 g2 => hr (i + 1) av v' (by simpa using g1) (by simpa using g2)) ok hh x hids ho A hA hA'⟩
      | own id =>
        simp only [retDen] at he
        split at he
        · rename_i e' t' l hid
          split at he
          · rename_i l' hl'
            obtain ⟨hee, he2⟩ := cond_some he
            rw [Bool.and_eq_true] at hee
            have hoc := Nat.eq_of_beq_eq_true hee.2
            have hee := Nat.eq_of_beq_eq_true hee.1
            obtain ⟨htt, hxx⟩ := castTy_some hl'
            cases htt
            change l = l' at hxx
            subst hxx; subst hee
            obtain ⟨ys, ids, o, h1, h2, h3⟩ := retDen_sound r vs _ z he2
            cases o with
            | some id => cases h1
            | none =>
              refine ⟨_, ids, some id, h1, ⟨_, _, _, hid⟩, fun κ w vals hl hr ok hh x hids ho A hA hA' => ?_⟩
              cases vals with
              | nil => simp at hl
              | cons u us =>
                have hrest := h3 κ w us (by simpa using hl) (fun i av v' g1 g2 => hr (i + 1) av v' (by simpa using g1) (by simpa using g2)) ok hh x hids (fun _ h => by cases h) A hA (fun _ _ _ _ h => by cases h)
                refine ⟨?_, resAll_bo hoc hrest⟩
                have hu : RepSV L κ h w (.own id) u := hr 0 _ u rfl rfl
                have hu := hu.1
                rw [hid] at hu
                have hob := ok.obj id
                rw [hid] at hob
                rcases hu with ⟨a1, a2, a3⟩ | ⟨b, cap, a1, a2⟩
                · exact .inl ⟨a1, a2, a3⟩
                · rcases hob with ⟨b1, _⟩ | ⟨b', cap', cur, b1, b2, b3, b4, b5, b6, b7⟩
                  · rw [a1] at b1; cases b1
                  · rw [a1] at b1; cases b1
                    refine .inr ⟨b, cap, cur, a1, a2, (ok.own id b cap (by rw [hid]; rfl) a1).1, b2, b3, b4, b5, b6, fun i y hy => ?_⟩
                    have := RepAt.mono (A' := A) (w' := w) (fun b hb => ⟨hA' id _ _ _ rfl hid b hb, rfl⟩) _ _ y (b7 i y hy)
                    simpa using this
          · cases he
        · cases he
      | _ => simp [retDen] at he

theorem results_run {fn : Func} {a : Act} {w : World} {vals : List Value} (h : (fn.results.toList.mapM (resM a)).run P w = .ok vals w) : (results fn a.tmps).run P w = .ok (tupVal vals) w := by
  have h1 : results fn a.tmps = (fn.results.mapM (resM a) >>= fun vs => pure (if h : vs.size = 1 then vs[0] else .tuple vs)) := by
    unfold results
    congr 1
  rw [h1, Array.mapM_eq_mapM_toList]
  simp [h]
  match vals with
  | [] => rfl
  | [v] => rfl
  | _ :: _ :: _ => simp [tupVal]

theorem evalFrom_ok {C : Ctx} {w : World} (hC : CtxOK P L w C) (hmix : P.follows .mixedOrders = true) {f : FuncId} {fn : Func} (hf : P.funcs[f]? = some fn) {an : Ann} {rs : List RTy} {st0 : St} {y : RDen rs} (hy : evalFrom C fn an rs st0 = some y)
    {κ0 : Place} {vals : List Value} (sim0 : Sim P L w κ0 st0 { tmps := vals.toArray ++ Array.replicate (fn.ntmps - vals.toArray.size) undef, defers := [] } w) (hmk : st0.marks = []) (m : Nat) :
    CallsIn (Fr none) m P f vals.toArray w fun e w' => ∃ v, e = .returned v ∧ Below w.heap.size w w' ∧ ResRep L w w' rs v y := by
  unfold evalFrom at hy
  split at hy
  · cases hy
  · rename_i c hc
    obtain ⟨k, st', hk, -, hrun⟩ := evalCode_sound hC hmix none 0 c an _ _ _ y hy
    have fin : ∀ {κ' : Place} {a a' : Act} {w' : World}, Sim P L w κ' st' a' w' → Locks st0 st' a a' → ∀ k' : XK, (∀ i, k' ≠ .ex i) → (resAV C st' fn.results.toList fun avs => retDen st'.h rs avs fun y ids o => cond (match o with
      | some id => !memb ids id
      | none => true) (some y) none) = some y → bodyPost P fn (fun e w' => ∃ v, e = .returned v ∧ Below w.heap.size w w' ∧ ResRep L w w' rs v y) k'.exit a' w' := by
      intro κ' a a' w' sim lk k' hk' he
      obtain ⟨avs, h1, h2⟩ := resAV_sound (P := P) (L := L) (w0 := w) (fun t ti h => hC.ti t ti h) fn.results.toList _ y he
      obtain ⟨vals', g1, g2, g3, g4⟩ := h2 κ' a' w' sim.env sim.heap
      obtain ⟨y', ids, o, r1, r2, r3⟩ := retDen_sound (L := L) (w0 := w) rs avs _ y h1
      obtain ⟨hno, r1⟩ := cond_some r1
      cases r1
      obtain ⟨i1, i2, i3⟩ := ice_ok (w0 := w) ids sim.heap
      have hown : ∀ id, o = some id → applyUps (iceUp st'.h ids) st'.h id = st'.h id := fun id ho => by
        subst ho
        simp only [Bool.not_eq_true'] at hno
        exact iceUp_other (fun hm => by rw [memb_iff.2 hm] at hno; cases hno)
      have hA : ∀ (hh : Heap), (∀ id, o = some id → hh id = st'.h id) → ∀ b, Free L κ' hh w' b → (b < w'.heap.size ∧ ¬ L b ∧ ∀ c, o.bind κ' ≠ some (b, c)) := fun hh hq b hb => ⟨hb.1, hb.2.1, fun c hbo => by
        cases o with
        | none => cases hbo
        | some id =>
          obtain ⟨e, t, l, hid⟩ := r2
          exact hb.2.2 id c (by rw [hq id rfl, hid]; rfl) hbo⟩
      have hres := r3 κ' w' vals' g2 g4 sim.heap _ i2 i3 hown (fun b => b < w'.heap.size ∧ ¬ L b ∧ ∀ c, o.bind κ' ≠ some (b, c)) (hA _ hown) (fun id e t l ho hid b hb => hA st'.h (fun _ _ => rfl) b hb)
      have hd : a'.defers = [] := by
        have := sim.defs.1
        rw [lk.marks, hmk] at this
        exact List.eq_nil_of_length_eq_zero this
      have hall : a'.defers = [] ∧ ∃ v, (results fn a'.tmps).run P w' = .ok v w' ∧ ∃ u, Ending.returned v = .returned u ∧ Below w.heap.size w w' ∧ ResRep L w w' rs u y :=
        ⟨hd, _, results_run g1, _, rfl, sim.heap.below, o.bind κ', vals', rfl, hres⟩
      cases k' with
      | nrm => exact hall
      | ret => exact hall
      | ex i => exact absurd rfl (hk' i)
    refine callsIn_of_wp hf hc trivial ?_
    refine hrun m _ _ w _ sim0 fun κ' a' w' sim ext lk => ?_
    cases k with
    | nrm => exact fin sim lk .nrm (fun i h => by cases h) hk
    | ret => exact fin sim lk .ret (fun i h => by cases h) hk
    | ex i => cases hk

/-- A FUNCTION KEEPS THE CONTRACT THAT THE EVALUATOR FINDS. -/
theorem evalFn_ok {C : Ctx} (hC : ∀ L w0, CtxOK P L w0 C) (hmix : P.follows .mixedOrders = true) {f : FuncId} {fn : Func} (hf : P.funcs[f]? = some fn) (hname : (fn.name == "runtime.NumGoroutine") = false) {an : Ann} {as : List (Bool × Ty)} {rs : List RTy}
    {g : ADen as → Option (RDen rs)} (hb : fn.body.isSome = true) (hg : ∀ x, evalFn C fn an as rs x = g x) : FunOK' P f { args := as, res := rs, f := g } := by
  refine ⟨fun x y hy L w vals hL hargs m => ?_, fn, hf, hb, hname⟩
  simp only at hy hargs ⊢
  rw [← hg x] at hy
  unfold evalFn at hy
  obtain ⟨hn, hy⟩ := cond_some hy
  exact evalFrom_ok (hC L w) hmix hf hy (arg_sim hL hargs (Nat.le_of_ble_eq_true hn)) rfl m

/-- One list for argument: nil, or not. -/
theorem evalNil_ok {C : Ctx} (hC : ∀ L w0, CtxOK P L w0 C) (hmix : P.follows .mixedOrders = true) {f : FuncId} {fn : Func} (hf : P.funcs[f]? = some fn) (hname : (fn.name == "runtime.NumGoroutine") = false) {an : Ann} {e : Ty} {rs : List RTy}
    {g : ADen [(false, .list e)] → Option (RDen rs)} (hb : fn.body.isSome = true) (hn : 1 ≤ fn.ntmps) (h1 : evalFrom C fn an rs (oneSt (.one .nx) fn.ntmps) = g ([], ())) (h2 : ∀ l, evalFrom C fn an rs (oneSt (.one (.ne e l)) fn.ntmps) = g (l, ())) :
    FunOK' P f { args := [(false, .list e)], res := rs, f := g } := by
  refine ⟨fun x y hy L w vals hL hargs m => ?_, fn, hf, hb, hname⟩
  simp only at hy hargs ⊢
  obtain ⟨l, u⟩ := x
  cases u
  match vals, hargs with
  | [v], hargs =>
    obtain ⟨⟨_, ho, hr⟩, -⟩ := hargs
    obtain ⟨sa, len, cap, hv, hlen, hcap, hx⟩ := hr
    have hv : v = .slice sa len cap := by simpa [get1] using hv
    have sim : ∀ av : AV, RepAV L (fun _ => none) (fun _ => .fresh) w av v → Sim P L w (fun _ => none) (oneSt av fn.ntmps) { tmps := [v].toArray ++ Array.replicate (fn.ntmps - [v].toArray.size) undef, defers := [] } w := fun av hav => by
      refine ⟨by simp [oneSt]; omega, fun t => ?_, ⟨fun _ => trivial, fun _ _ _ _ _ h => by simp [oneSt, AObj.live] at h, fun _ _ _ h => by simp [oneSt, AObj.live] at h, Below.refl _ _, hL⟩, rfl, fun i id hi => by simp [oneSt] at hi⟩
      show RepAV L _ _ _ (upd (fun _ => AV.one .unk) 0 av t) _
      by_cases ht : t = 0
      · subst ht
        rw [upd_same]
        have hg : ([v].toArray ++ Array.replicate (fn.ntmps - [v].toArray.size) undef).getD 0 undef = v := by simp [Array.getD_eq_getD_getElem?, Array.getElem?_append]
        show RepAV L _ _ _ av (([v].toArray ++ Array.replicate (fn.ntmps - [v].toArray.size) undef).getD 0 undef)
        rw [hg]; exact hav
      · rw [upd_other _ _ ht]; trivial
    cases sa with
    | none =>
      have hl : l = [] := by
        cases l with
        | nil => rfl
        | cons a r => obtain ⟨b, o, h, _⟩ := hx (by simp); cases h
      subst hl
      have h0 : len = 0 := by simpa using hlen
      subst h0
      rw [← h1] at hy
      exact evalFrom_ok (hC L w) hmix hf hy (sim _ ⟨cap, hv⟩) rfl m
    | some ad =>
      rw [← h2] at hy
      refine evalFrom_ok (hC L w) hmix hf hy (sim _ ⟨ho, ⟨some ad, len, cap, by simp [get1, hv], hlen, hcap, fun hne => ?_⟩, ad, len, cap, hv⟩) rfl m
      obtain ⟨b, o, q1, q2, q3⟩ := hx hne
      exact ⟨b, o, q1, ⟨q2.1, q2.2, fun _ _ _ h => by cases h⟩, fun i y hi => RepAt.mono (fun b hb => ⟨⟨hb.1, hb.2, fun _ _ _ h => by cases h⟩, rfl⟩) e _ y (q3 i y hi)⟩

theorem listρ_rep {κ : Place} {h : Heap} {w : World} : ∀ (args : List AV) (vals : List Value) (i : Nat), vals.length = args.length → (∀ (j : Nat) (a : AV) (v : Value), args[j]? = some a → vals[j]? = some v → RepAV L κ h w a v) →
    (∀ (j : Nat) (v : Value), vals[j]? = some v → RepAV L κ h w (listρ i args (i + j)) v) ∧ ∀ t, t < i ∨ i + args.length ≤ t → listρ i args t = .one .unk
  | [], [], i, _, _ => ⟨fun j v hj => by simp at hj, fun _ _ => rfl⟩
  | [], _ :: _, _, hl, _ => by simp at hl
  | _ :: _, [], _, hl, _ => by simp at hl
  | a :: r, v :: vs, i, hl, hr => by
    obtain ⟨i1, i2⟩ := listρ_rep r vs (i + 1) (by simpa using hl) (fun j a v h1 h2 => hr (j + 1) a v (by simpa using h1) (by simpa using h2))
    refine ⟨fun j u hj => ?_, fun t ht => ?_⟩
    · simp only [listρ]
      cases j with
      | zero =>
        simp at hj; subst hj
        show RepAV L κ h w (upd (listρ (i + 1) r) i a i) v
        rw [upd_same]
        exact hr 0 a v rfl rfl
      | succ j =>
        rw [upd_other _ _ (by omega), show i + (j + 1) = i + 1 + j from by omega]
        exact i1 j u (by simpa using hj)
    · simp only [List.length_cons] at ht
      simp only [listρ]
      rw [upd_other _ _ (by omega)]
      exact i2 t (by omega)

theorem list_sim {κ : Place} {h : Heap} {w : World} {lo : Nat → Bool} {args : List AV} {vals : List Value} {n : Nat} (hl : vals.length = args.length) (hr : ∀ (j : Nat) (a : AV) (v : Value), args[j]? = some a → vals[j]? = some v → RepAV L κ h w a v) (ok : HeapOK L w0 κ h w) (hn : args.length ≤ n) :
    Sim P L w0 κ { ρ := listρ 0 args, h, lt := fun _ => false, lo, n, marks := [] } { tmps := vals.toArray ++ Array.replicate (n - vals.toArray.size) undef, defers := [] } w := by
  obtain ⟨h1, h2⟩ := listρ_rep (L := L) (κ := κ) (h := h) (w := w) args vals 0 hl hr
  refine ⟨by simp; omega, fun t => ?_, ok, rfl, fun i id hi => by simp at hi⟩
  by_cases ht : t < vals.length
  · have := h1 t vals[t] (List.getElem?_eq_getElem ht)
    rw [Nat.zero_add] at this
    have hg : (vals.toArray ++ Array.replicate (n - vals.toArray.size) undef).getD t undef = vals[t] := by
      simp [Array.getD_eq_getD_getElem?, Array.getElem?_append, ht]
    show RepAV L _ _ _ (listρ 0 args t) _
    rw [hg]; exact this
  · show RepAV L _ _ _ (listρ 0 args t) _
    rw [h2 t (by omega)]
    trivial

theorem resTup_rep {κ : Place} {h : Heap} {w : World} {avs : List AV} {vals : List Value} (hl : vals.length = avs.length) (hnt : avs.all notTup = true) (hr : ∀ (i : Nat) (av : AV) (v : Value), avs[i]? = some av → vals[i]? = some v → RepAV L κ h w av v) :
    RepAV L κ h w (resTup avs) (tupVal vals) := by
  have gen : resTup avs = .tup (avs.map compOf) → tupVal vals = .tuple vals.toArray → RepAV L κ h w (resTup avs) (tupVal vals) := fun h1 h2 => by
    rw [h1, h2]
    refine ⟨vals, rfl, by simpa using hl, fun i c u hc hu => ?_⟩
    rw [List.getElem?_map] at hc
    cases hav : avs[i]? with
    | none => rw [hav] at hc; cases hc
    | some av =>
      rw [hav] at hc
      cases hc
      have h3 := hr i av u hav hu
      have h4 := List.all_eq_true.1 hnt av (List.mem_of_getElem? hav)
      cases av with
      | one s => exact h3
      | agg l => exact h3
      | tup l => cases h4
  match avs, vals, hl, hr, gen with
  | [a], [v], _, hr, _ => exact hr 0 a v rfl rfl
  | [], [], _, _, gen => exact gen rfl rfl
  | _ :: _ :: _, _ :: _ :: _, _, _, gen => exact gen rfl rfl

theorem icallOf_ok {TI : TypeId → Option TInfo} {sp : FuncId → Option Spec} {inl : FuncId → Bool} {bd : FuncId → Nat → Option (Func × Ann)} (hti : ∀ t ti, TI t = some ti → ti.OK P t) (hsp : ∀ f s, sp f = some s → FunOK' P f s)
    (hinl : ∀ f, inl f = true → ∃ fn, P.funcs[f]? = some fn ∧ fn.body.isSome = true ∧ (fn.name == "runtime.NumGoroutine") = false)
    (hbd : ∀ f ib fn an, bd f ib = some (fn, an) → P.funcs[f]? = some fn ∧ fn.body.isSome = true ∧ (fn.name == "runtime.NumGoroutine") = false) (hmix : P.follows .mixedOrders = true) :
    ∀ (n : Nat) (L : Nat → Prop) (w0 : World), ICallOK P L w0 (icallOf TI sp inl bd n) inl := by
  intro n
  induction n with
  | zero => exact fun L w0 => ⟨(fun f args h lo ib R K z _ he => by cases he), hinl⟩
  | succ n ih =>
    refine fun L w0 => ⟨fun f args h lo ib R K z hi he => ?_, hinl⟩
    have hC : CtxOK P L w0 { TI, spec := sp, inl, icall := icallOf TI sp inl bd n } := ⟨hti, hsp, ih L w0⟩
    unfold icallOf at he
    split at he
    · cases he
    · rename_i fn an hbf
      split at he
      · cases he
      · rename_i c hc
        obtain ⟨hn, he⟩ := cond_some he
        have hn := Nat.le_of_ble_eq_true hn
        obtain ⟨k, st', hk, sl, hrun⟩ := evalCode_sound hC hmix none ib c an _ _ _ z he
        have main : ∀ k' : XK, k = k' → (∀ i, k' ≠ .ex i) → (resAV { TI, spec := sp, inl, icall := icallOf TI sp inl bd n } st' fn.results.toList fun avs => cond (avs.all notTup) (K (resTup avs) st'.h) none) = some z →
            ∃ av h', K av h' = some z ∧ (∀ id, lo id = true → h' id = h id) ∧ ∀ κ w (vals : List Value), vals.length = args.length → (∀ (i : Nat) (a : AV) (v : Value), args[i]? = some a → vals[i]? = some v → RepAV L κ h w a v) → HeapOK L w0 κ h w →
              ∀ m, CallsIn (Fr none) m P f vals.toArray w fun e w' => ∃ v κ', e = .returned v ∧ HeapOK L w0 κ' h' w' ∧ RepAV L κ' h' w' av v ∧ Ext L κ h w κ' h' w' := by
          intro k' hkk hk' hres
          obtain ⟨avs, h1, h2⟩ := resAV_sound (P := P) (L := L) (w0 := w0) hti fn.results.toList _ z hres
          obtain ⟨hnt, h1⟩ := cond_some h1
          refine ⟨_, _, h1, fun id hid => sl.obj id hid, fun κ w vals hl hr ok m => ?_⟩
          refine callsIn_of_wp (hbd f ib fn an hbf).1 hc trivial ?_
          refine hrun m κ _ w _ (list_sim hl hr ok hn) fun κ' a' w' sim ext lk => ?_
          obtain ⟨vals', g1, g2, g3, g4⟩ := h2 κ' a' w' sim.env sim.heap
          have hd : a'.defers = [] := by
            have := sim.defs.1
            rw [lk.marks] at this
            exact List.eq_nil_of_length_eq_zero this
          have hall : a'.defers = [] ∧ ∃ v, (results fn a'.tmps).run P w' = .ok v w' ∧ ∃ u κ', Ending.returned v = .returned u ∧ HeapOK L w0 κ' st'.h w' ∧ RepAV L κ' st'.h w' (resTup avs) u ∧ Ext L κ h w κ' st'.h w' :=
            ⟨hd, _, results_run g1, _, κ', rfl, sim.heap, resTup_rep g2 hnt g4, ext⟩
          subst hkk
          cases k with
          | nrm => exact hall
          | ret => exact hall
          | ex i => exact absurd rfl (hk' i)
        cases k with
        | nrm => exact main .nrm rfl (fun i h => by cases h) hk
        | ret => exact main .ret rfl (fun i h => by cases h) hk
        | ex i => cases hk

end Go.Abs
