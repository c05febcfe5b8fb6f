/- The engine, part 18: code is sound. -/
import Derived.Test.YtdinlimamfpboaaAbsCode
namespace Go.Abs
open Go Go.RowKit

variable {P : Program} {L : Nat → Prop} {w0 : World}

def XK.exit : XK → Exit
  | .nrm => .normal
  | .ex id => .exit id
  | .ret => .ret

theorem XK.beq_eq {a b : XK} (h : XK.beq a b = true) : a = b := by
  cases a <;> cases b <;> first | rfl | cases h | (rw [Nat.eq_of_beq_eq_true h])

theorem canonρ_other : ∀ (l : List LI) (y : LDen l) (ρ : Env) (t : Nat), t ∉ slotsOf l → canonρ l y ρ t = ρ t
  | [], _, _, _, _ => rfl
  | .tmp s ty :: r, y, ρ, t, h => by
    simp only [slotsOf, List.mem_cons, not_or] at h
    simp only [canonρ]
    rw [upd_other _ _ h.1]; exact canonρ_other r y.2 ρ t h.2
  | .own s id :: r, y, ρ, t, h => by
    simp only [slotsOf, List.mem_cons, not_or] at h
    simp only [canonρ]
    rw [upd_other _ _ h.1]; exact canonρ_other r y ρ t h.2
  | .arr _ _ _ _ :: r, y, ρ, t, h => canonρ_other r y.2 ρ t h
  | .arrS _ _ _ :: r, y, ρ, t, h => canonρ_other r y.2 ρ t h
  | .cel _ _ :: r, y, ρ, t, h => canonρ_other r y.2 ρ t h

theorem canonh_other : ∀ (l : List LI) (y : LDen l) (h : Heap) (id : Nat), id ∉ newIds l → id ∉ statIds l → canonh l y h id = h id
  | [], _, _, _, _, _ => rfl
  | .tmp _ _ :: r, y, h, id, h1, h2 => canonh_other r y.2 h id h1 h2
  | .own _ _ :: r, y, h, id, h1, h2 => canonh_other r y h id h1 h2
  | .arr i e t s :: r, y, h, id, h1, h2 => by
    simp only [newIds, List.mem_cons, not_or] at h1
    simp only [canonh]
    rw [upd_other _ _ h1.1]; exact canonh_other r y.2 h id h1.2 h2
  | .arrS i e t :: r, y, h, id, h1, h2 => by
    simp only [statIds, List.mem_cons, not_or] at h2
    simp only [canonh]
    rw [upd_other _ _ h2.1]; exact canonh_other r y.2 h id h1 h2.2
  | .cel i cs :: r, y, h, id, h1, h2 => by
    simp only [statIds, List.mem_cons, not_or] at h2
    simp only [canonh]
    rw [upd_other _ _ h2.1]; exact canonh_other r y.2 h id h1 h2.2

theorem memb_false {b : List Nat} {id : Nat} (h : id ∉ b) : memb b id = false := by
  cases hq : memb b id with
  | true => exact absurd (memb_iff.1 hq) h
  | false => rfl

/-- What the fixed form leaves as it was. -/
theorem exSt_frame {R : Type} {st0 st1 : St} {mt mo sr stat : List Nat} {l : List LI} {K : LDen l → Option R} {z : R} (he : exSt st1 mt mo sr stat l K = some z) (y : LDen l) :
    (∀ t, t ∉ mt → (mkSt st0 mt mo sr l y).ρ t = st0.ρ t) ∧ ∀ id, id ∉ mo → id ∉ sr → id ∉ stat → (mkSt st0 mt mo sr l y).h id = st0.h id := by
  unfold exSt at he
  split at he
  · obtain ⟨hc, -⟩ := cond_some he
    simp only [Bool.and_eq_true] at hc
    obtain ⟨wnew, wslot, wstat, -⟩ := wfI_spec hc.1.1
    refine ⟨fun t ht => ?_, fun id h1 h2 h3 => ?_⟩
    · show canonρ l y _ t = _
      rw [canonρ_other _ _ _ _ (fun h => ht (wslot t h)), memb_false ht]; rfl
    · show canonh l y _ id = _
      rw [canonh_other _ _ _ _ (fun h => h1 (wnew id h)) (fun h => h3 ((wstat id).2 h)), memb_false h1, memb_false h2]; rfl
  · cases he

theorem freeIds_spec {h : Heap} {lo : Nat → Bool} : ∀ {l : List Nat}, freeIds h lo l = true → ∀ id ∈ l, h id = .fresh ∧ lo id = false
  | [], _, _, hm => by cases hm
  | i :: r, he, id, hm => by
    simp only [freeIds, Bool.and_eq_true] at he
    rcases List.mem_cons.1 hm with rfl | hm
    · have h1 := he.1
      split at h1
      · rename_i hf; exact ⟨hf, by simpa using h1⟩
      · cases h1
    · exact freeIds_spec he.2 id hm

theorem noneOf_spec {p : Nat → Bool} : ∀ {l : List Nat}, noneOf p l = true → ∀ x ∈ l, p x = false
  | [], _, _, hm => by cases hm
  | i :: r, he, x, hm => by
    simp only [noneOf, Bool.and_eq_true, Bool.not_eq_true'] at he
    rcases List.mem_cons.1 hm with rfl | hm
    · exact he.1
    · exact noneOf_spec he.2 x hm

structure Room (st : St) (mt mo sr stat : List Nat) : Prop where
  mo : ∀ id ∈ mo, st.h id = .fresh ∧ st.lo id = false
  mt : ∀ t ∈ mt, st.lt t = false
  sr : ∀ id ∈ sr, st.lo id = false
  stat : ∀ id ∈ stat, st.lo id = false

theorem room_of {st : St} {mt mo sr stat : List Nat} (h : roomFor st mt mo sr stat = true) : Room st mt mo sr stat := by
  simp only [roomFor, Bool.and_eq_true] at h
  exact ⟨freeIds_spec h.1.1.1, noneOf_spec h.1.1.2, noneOf_spec h.1.2, noneOf_spec h.2⟩

theorem sim_lock {κ : Place} {st : St} {a : Act} {w : World} (sim : Sim P L w0 κ st a w) (mt ob : List Nat) : Sim P L w0 κ (lockSt st mt ob) a w :=
  ⟨sim.size, sim.env, sim.heap, sim.defs.1, fun i id hi => by
    obtain ⟨h1, h2⟩ := sim.defs.2 i id hi
    exact ⟨by show (st.lo id || !memb ob id) = true; rw [h1]; rfl, h2⟩⟩

/-- At an end of a piece that began in 'st': on from the form there. -/
theorem exSt_end {R : Type} {st st' : St} {mt mo sr stat : List Nat} {l : List LI} {K : LDen l → Option R} {z : R} (he : exSt st' mt mo sr stat l K = some z) (room : Room st mt mo sr stat) :
    ∃ y, K y = some z ∧ (∀ id, st.lo id = true → (mkSt st mt mo sr l y).h id = st.h id) ∧ (∀ id, id ∉ mo → id ∉ sr → id ∉ stat → (mkSt st mt mo sr l y).h id = st.h id) ∧
      ∀ {κ0 κ' : Place} {a0 a' : Act} {v0 w' : World}, Sim P L w0 κ0 st a0 v0 → Sim P L w0 κ' st' a' w' → Ext L κ0 st.h v0 κ' st'.h w' →
    (∀ t, t ∉ mt → a'.tmps.getD t undef = a0.tmps.getD t undef) → (∀ id, id ∉ mo → id ∉ sr → id ∉ stat → st'.h id = st.h id) → st'.n = st.n → st'.marks = st.marks →
    ∃ κ2, Sim P L w0 κ2 (mkSt st mt mo sr l y) a' w' ∧ Ext L κ0 st.h v0 κ2 (mkSt st mt mo sr l y).h w' ∧ Locks st (mkSt st mt mo sr l y) a0 a' := by
  obtain ⟨y, hy, hs⟩ := exSt_sound (P := P) (L := L) (w0 := w0) (st0 := st) he
  obtain ⟨f1, f2⟩ := exSt_frame (st0 := st) he y
  have hlo : ∀ id, st.lo id = true → (mkSt st mt mo sr l y).h id = st.h id := fun id hid =>
    f2 id (fun h => by have := (room.mo id h).2; rw [hid] at this; cases this) (fun h => by have := room.sr id h; rw [hid] at this; cases this) (fun h => by have := room.stat id h; rw [hid] at this; cases this)
  refine ⟨y, hy, hlo, f2, fun {κ0 κ' a0 a' v0 w'} sim0 sim' ext htm hoo hn hmk' => ?_⟩
  have hmk : ∀ id ∈ st.marks, id ∉ mo ∧ id ∉ sr ∧ id ∉ stat := fun id hid => by
    obtain ⟨i, hi⟩ := List.getElem?_of_mem hid
    obtain ⟨d1, d2, -⟩ := sim0.defs.2 i id hi
    refine ⟨fun h => ?_, fun h => ?_, fun h => ?_⟩
    · have := (room.mo id h).1; rw [d2] at this; cases this
    · have := room.sr id h; rw [d1] at this; cases this
    · have := room.stat id h; rw [d1] at this; cases this
  obtain ⟨κ2, h1, h2⟩ := hs κ0 a0 v0 κ' a' w' sim0 sim' ext htm hoo (fun id hid => (room.mo id hid).1) hmk hn hmk'
  refine ⟨κ2, h1, h2, ⟨rfl, rfl, rfl, rfl, fun t ht => ?_, hlo⟩⟩
  have hnt : t ∉ mt := fun h => by have := room.mt t h; rw [ht] at this; cases this
  exact ⟨f1 t hnt, htm t hnt⟩

theorem lock_tmp {st st' : St} {mt ob : List Nat} {a a' : Act} (lk : Locks (lockSt st mt ob) st' a a') {t : Nat} (ht : t ∉ mt) : a'.tmps.getD t undef = a.tmps.getD t undef :=
  (lk.tmp t (by show (st.lt t || !memb mt t) = true; rw [memb_false ht]; simp)).2
theorem lock_obj {st st' : St} {mt ob : List Nat} {a a' : Act} (lk : Locks (lockSt st mt ob) st' a a') {id : Nat} (hi : id ∉ ob) : st'.h id = st.h id :=
  lk.obj id (by show (st.lo id || !memb ob id) = true; rw [memb_false hi]; simp)

theorem pickEx_some {S : Type} {st' : St} {mt mo sr stat : List Nat} {x : XK} : ∀ (es : Exits) (g : ODen es → S) (o : S), pickEx st' mt mo sr stat x es g = some o →
    ∃ (l : List LI) (f : LDen l → ODen es), exSt st' mt mo sr stat l (fun y => some (g (f y))) = some o ∧ ∀ (R : Type) (st : St) (K : XK → St → Option R) (y : LDen l), resume st mt mo sr K es (f y) = K x (mkSt st mt mo sr l y)
  | [], _, o, he => by cases he
  | (k, l) :: r, g, o, he => by
    simp only [pickEx] at he
    cases hk : XK.beq k x with
    | true =>
      rw [hk, cond_true] at he
      have hkx := XK.beq_eq hk
      subst hkx
      exact ⟨l, fun y => .inl y, he, fun R st K y => rfl⟩
    | false =>
      rw [hk, cond_false] at he
      obtain ⟨l', f, h1, h2⟩ := pickEx_some r _ o he
      exact ⟨l', fun y => .inr (f y), h1, fun R st K y => h2 R st K y⟩

def CodeOK (P : Program) (L : Nat → Prop) (w0 : World) (r : Option Nat) (c : Code) (g : Ann → (R : Type) → St → (XK → St → Option R) → Option R) : Prop :=
  ∀ (an : Ann) (R : Type) (st : St) (K : XK → St → Option R) (z : R), g an R st K = some z → ∃ x st', K x st' = some z ∧ SL st st' ∧
    ∀ (m : Nat) κ a w (Q : Exit → Act → World → Prop), Sim P L w0 κ st a w →
    (∀ κ' a' w', Sim P L w0 κ' st' a' w' → Ext L κ st.h w κ' st'.h w' → Locks st st' a a' → Q x.exit a' w') → c.wpIn (Fr r) m P Q a w

theorem joinOr_ok {r : Option Nat} {c : Code} {g : Ann → (R : Type) → St → (XK → St → Option R) → Option R} (hg : CodeOK P L w0 r c g) : CodeOK P L w0 r c (joinOr g) := by
  intro an R st K z he
  unfold joinOr at he
  split at he
  · rename_i mt mo sr stat exits p
    obtain ⟨hroom, he⟩ := cond_some he
    have room := room_of hroom
    obtain ⟨o, ho, hres⟩ := Option.bind_eq_some_iff.1 he
    obtain ⟨x, st', hk, hlo, hrun⟩ := hg p _ _ _ o ho
    obtain ⟨l, f, hx, hr⟩ := pickEx_some exits _ o hk
    obtain ⟨y, hy, hlo2, -, hend⟩ := exSt_end (P := P) (L := L) (w0 := w0) hx room
    refine ⟨x, mkSt st mt mo sr l y, ?_, ⟨rfl, hlo2⟩, fun m κ a w Q sim hQ => ?_⟩
    · rw [← hr R st K y]; cases hy; exact hres
    · refine hrun m κ a w Q (sim_lock sim _ _) fun κ' a' w' sim' ext' lk => ?_
      obtain ⟨κ2, s2, e2, l2⟩ := hend sim sim' ext' (fun t ht => lock_tmp lk ht) (fun id h1 h2 h3 => lock_obj lk (by simp [h1, h2, h3])) lk.n lk.marks
      exact hQ κ2 a' w' s2 e2 l2
  · exact hg _ _ _ _ _ he

theorem codeOK_here {r : Option Nat} {c : Code} (x : XK) (h : ∀ {m : Nat} {Q : Exit → Act → World → Prop} {a : Act} {w : World}, Q x.exit a w → c.wpIn (Fr r) m P Q a w) : CodeOK P L w0 r c fun _ _ st K => K x st :=
  fun _ _ st _ _ he => ⟨x, st, he, SL.refl _, fun _ κ a w _ sim hQ => h (hQ κ a w sim (Ext.refl _ _ _ _) (Locks.refl _ _))⟩

/-- CODE IS SOUND. -/
theorem evalCode_sound {C : Ctx} (hC : CtxOK P L w0 C) (hmix : P.follows .mixedOrders = true) (r : Option Nat) (ib : Nat) : ∀ (c : Code), CodeOK P L w0 r c (evalCode C ib c)
  | .skip => codeOK_here .nrm wpIn_skip
  | .label _ => codeOK_here .nrm wpIn_label
  | .exit id => codeOK_here (.ex id) wpIn_exit
  | .ret => codeOK_here .ret wpIn_ret
  | .region id ops draw => fun an R st K z he => by
    obtain ⟨st', h1, hlo, h2⟩ := evalRegion_sound hC hmix r (id := id) (show evalRegion C ib ops draw st (fun st' => K .nrm st') = some z from he)
    exact ⟨.nrm, st', h1, hlo, fun m κ a w Q sim hQ => h2 κ a w sim m Q hQ⟩
  | .seq x y => joinOr_ok fun an R st K z he => by
    split at he
    · rename_i p q
      obtain ⟨x1, st1, hk, hlo1, hrun⟩ := evalCode_sound hC hmix r ib x p R st _ z he
      cases x1 with
      | nrm =>
        obtain ⟨x2, st2, hk2, hlo2, hrun2⟩ := evalCode_sound hC hmix r ib y q R st1 K z hk
        exact ⟨x2, st2, hk2, hlo1.trans hlo2, fun m κ a w Q sim hQ => wpIn_seq (hrun m κ a w _ sim fun κ' a' w' s e l =>
          hrun2 m κ' a' w' Q s fun κ2 a2 w2 s2 e2 l2 => hQ κ2 a2 w2 s2 (e.trans e2) (l.trans l2))⟩
      | ex j => exact ⟨.ex j, st1, hk, hlo1, fun m κ a w Q sim hQ => wpIn_seq (hrun m κ a w _ sim hQ)⟩
      | ret => exact ⟨.ret, st1, hk, hlo1, fun m κ a w Q sim hQ => wpIn_seq (hrun m κ a w _ sim hQ)⟩
    · cases he
  | .cond c x y => joinOr_ok fun an R st K z he => by
    split at he
    · rename_i p q
      split at he
      · rename_i t ht
        have hv : ∀ κ a w, Sim P L w0 κ st a w → a.eval c = .bool t := fun κ a w sim => by
          have hv := ev_rep sim.env c
          rw [ht] at hv
          exact rep_bool_inv hv
        cases t with
        | true =>
          rw [cond_true] at he
          obtain ⟨x1, st1, hk, hlo, hrun⟩ := evalCode_sound hC hmix r ib x p R st K z he
          exact ⟨x1, st1, hk, hlo, fun m κ a w Q sim hQ => wpIn_cond_true (hv κ a w sim) (hrun m κ a w Q sim hQ)⟩
        | false =>
          rw [cond_false] at he
          obtain ⟨x1, st1, hk, hlo, hrun⟩ := evalCode_sound hC hmix r ib y q R st K z he
          exact ⟨x1, st1, hk, hlo, fun m κ a w Q sim hQ => wpIn_cond_false (hv κ a w sim) (hrun m κ a w Q sim hQ)⟩
      · cases he
    · cases he
  | .block id x => joinOr_ok fun an R st K z he => by
    split at he
    · rename_i p
      obtain ⟨x1, st1, hk, hlo, hrun⟩ := evalCode_sound hC hmix r ib x p R st _ z he
      cases x1 with
      | nrm => exact ⟨.nrm, st1, hk, hlo, fun m κ a w Q sim hQ => wpIn_block (hrun m κ a w _ sim hQ)⟩
      | ret => exact ⟨.ret, st1, hk, hlo, fun m κ a w Q sim hQ => wpIn_block (hrun m κ a w _ sim hQ)⟩
      | ex j =>
        have hk : cond (Nat.beq j id) (K .nrm st1) (K (.ex j) st1) = some z := hk
        by_cases hj : j = id
        · subst hj
          rw [Nat.beq_refl, cond_true] at hk
          refine ⟨.nrm, st1, hk, hlo, fun m κ a w Q sim hQ => wpIn_block (hrun m κ a w _ sim fun κ' a' w' s e l => ?_)⟩
          show (if j = j then Q .normal a' w' else Q (.exit j) a' w')
          rw [if_pos rfl]
          exact hQ κ' a' w' s e l
        · have hb : Nat.beq j id = false := by
            cases hq : Nat.beq j id with
            | true => exact absurd (Nat.eq_of_beq_eq_true hq) hj
            | false => rfl
          rw [hb, cond_false] at hk
          refine ⟨.ex j, st1, hk, hlo, fun m κ a w Q sim hQ => wpIn_block (hrun m κ a w _ sim fun κ' a' w' s e l => ?_)⟩
          show (if j = id then Q .normal a' w' else Q (.exit j) a' w')
          rw [if_neg hj]
          exact hQ κ' a' w' s e l
    · cases he
  | .loop x => fun an R st K z he => by
    unfold evalCode at he
    split at he
    · rename_i mt mo sr stat head exits p
      obtain ⟨hroom, he⟩ := cond_some he
      have room := room_of hroom
      obtain ⟨y0, hy0, -, -, h0⟩ := exSt_end (P := P) (L := L) (w0 := w0) he room
      have frame : ∀ y id, id ∉ mo → id ∉ sr → id ∉ stat → (mkSt st mt mo sr head y).h id = st.h id := fun y => (exSt_frame (st0 := st) he y).2
      obtain ⟨o, ho, hres⟩ := Option.bind_eq_some_iff.1 hy0
      obtain ⟨n, hn⟩ := loopM_iff.1 ho
      have hh : ∀ (n : Nat) (y : LDen head), iterN (fun y => evalCode C ib x p (LDen head ⊕ ODen exits) (lockSt (mkSt st mt mo sr head y) mt (mo ++ stat)) fun x st' => match x with
            | .nrm => exSt st' mt mo sr stat head fun y' => some (.inl y')
            | x => pickEx st' mt mo sr stat x exits .inr) n y = some o →
          ∃ x' st', K x' st' = some z ∧ SL st st' ∧ ∀ (m : Nat) (κ : Place) (a : Act) (w : World) (Q : Exit → Act → World → Prop), Sim P L w0 κ st a w → (∀ κ' a' w', Sim P L w0 κ' st' a' w' → Ext L κ st.h w κ' st'.h w' → Locks st st' a a' → Q x'.exit a' w') →
            ∀ (κ1 : Place) (a1 : Act) (w1 : World), Sim P L w0 κ1 (mkSt st mt mo sr head y) a1 w1 → Ext L κ st.h w κ1 (mkSt st mt mo sr head y).h w1 → (∀ t, t ∉ mt → a1.tmps.getD t undef = a.tmps.getD t undef) → Code.roundsIn (Fr r) m P x Q n a1 w1 := by
        intro n
        induction n with
        | zero => intro y hn; cases hn
        | succ n ih =>
          intro y hn
          simp only [iterN] at hn
          generalize hf : evalCode C ib x p (LDen head ⊕ ODen exits) (lockSt (mkSt st mt mo sr head y) mt (mo ++ stat)) (fun x st' => match x with
              | .nrm => exSt st' mt mo sr stat head fun y' => some (.inl y')
              | x => pickEx st' mt mo sr stat x exits .inr) = q at hn
          cases q with
          | none => cases hn
          | some zz =>
            obtain ⟨x1, st1, hk, -, hrun⟩ := evalCode_sound hC hmix r ib x p _ _ _ zz hf
            have g2 : ∀ {a1 a' : Act}, Locks (lockSt (mkSt st mt mo sr head y) mt (mo ++ stat)) st1 a1 a' → ∀ id, id ∉ mo → id ∉ sr → id ∉ stat → st1.h id = st.h id := fun lk id h1 h2 h3 => (lock_obj lk (by simp [h1, h3])).trans (frame y id h1 h2 h3)
            have fin : x1 ≠ .nrm → pickEx st1 mt mo sr stat x1 exits (Sum.inr (α := LDen head)) = some zz → ∃ x' st', K x' st' = some z ∧ SL st st' ∧ ∀ (m : Nat) (κ : Place) (a : Act) (w : World) (Q : Exit → Act → World → Prop), Sim P L w0 κ st a w → (∀ κ' a' w', Sim P L w0 κ' st' a' w' → Ext L κ st.h w κ' st'.h w' → Locks st st' a a' → Q x'.exit a' w') →
                ∀ (κ1 : Place) (a1 : Act) (w1 : World), Sim P L w0 κ1 (mkSt st mt mo sr head y) a1 w1 → Ext L κ st.h w κ1 (mkSt st mt mo sr head y).h w1 → (∀ t, t ∉ mt → a1.tmps.getD t undef = a.tmps.getD t undef) → Code.roundsIn (Fr r) m P x Q (n + 1) a1 w1 := fun hx1 hk => by
              obtain ⟨l, f, hx, hr⟩ := pickEx_some exits _ zz hk
              obtain ⟨y2, hy2, hlo2, -, hend⟩ := exSt_end (P := P) (L := L) (w0 := w0) hx room
              cases hy2
              cases hn
              refine ⟨x1, mkSt st mt mo sr l y2, by rw [← hr R st K y2]; exact hres, ⟨rfl, hlo2⟩, fun m κ a w Q sim hQ κ1 a1 w1 s1 e1 t1 => ?_⟩
              rw [roundsIn_succ]
              refine hrun m κ1 a1 w1 _ (sim_lock s1 _ _) fun κ' a' w' s' e' lk => ?_
              obtain ⟨κ2, s2, e2, l2⟩ := hend sim s' (e1.trans e') (fun t ht => (lock_tmp lk ht).trans (t1 t ht)) (g2 lk) lk.n lk.marks
              have := hQ κ2 a' w' s2 e2 l2
              cases x1 with
              | nrm => exact absurd rfl hx1
              | ex j => exact this
              | ret => exact this
            cases x1 with
            | nrm =>
              obtain ⟨y2, hy2, -, -, hend⟩ := exSt_end (P := P) (L := L) (w0 := w0) (show exSt st1 mt mo sr stat head (fun y' => some (Sum.inl y')) = some zz from hk) room
              cases hy2
              obtain ⟨x', st', h1, h2, h3⟩ := ih y2 hn
              refine ⟨x', st', h1, h2, fun m κ a w Q sim hQ κ1 a1 w1 s1 e1 t1 => ?_⟩
              rw [roundsIn_succ]
              refine hrun m κ1 a1 w1 _ (sim_lock s1 _ _) fun κ' a' w' s' e' lk => ?_
              have g1 : ∀ t, t ∉ mt → a'.tmps.getD t undef = a.tmps.getD t undef := fun t ht => (lock_tmp lk ht).trans (t1 t ht)
              obtain ⟨κ2, s2, e2, -⟩ := hend sim s' (e1.trans e') g1 (g2 lk) lk.n lk.marks
              exact h3 m κ a w Q sim hQ κ2 a' w' s2 e2 g1
            | ex j => exact fin (by simp) hk
            | ret => exact fin (by simp) hk
      obtain ⟨x', st', h1, h2, h3⟩ := hh n y0 hn
      refine ⟨x', st', h1, h2, fun m κ a w Q sim hQ => wpIn_loop_rounds n ?_⟩
      obtain ⟨κ0, s0, e0, -⟩ := h0 sim sim (Ext.refl _ _ _ _) (fun _ _ => rfl) (fun _ _ _ _ => rfl) rfl rfl
      exact h3 m κ a w Q sim hQ κ0 a w s0 e0 (fun _ _ => rfl)
    · cases he
  | .rangeFunc .. => fun an R st K z he => by cases he
  | .scope _ => fun an R st K z he => by cases he
  | .goto _ => fun an R st K z he => by cases he
  | .refuse _ => fun an R st K z he => by cases he

end Go.Abs
