/- Lemmas on functions of the program, by name: mtimes. -/
import Derived.Test.YtofcpghoogaglaaDoorD1Funs
import Derived.Test.YtofcpghoogaglaaDoorAbsSums
import Derived.Test.YtofcpghoogaglaaDoorD1LibMtable
namespace Go.Proofs.Tryd
open Go Go.Abs


/-- A term of the product, of two tables. -/
def mterm (n : Nat) (ws : List Nat) (f g : List Int) (a b x : Nat) : Int := if below ws a x = true ∧ below ws x b = true then ent n f a x * ent n g x b else 0
def mprod (n : Nat) (ws : List Nat) (f g : List Int) (a b : Nat) : Int := V64 (sumI n (mterm n ws f g a b))

open Classical in
theorem mobius_Times_eq {N : Int} {ws : List Nat} (hf : Fit ws) (f g : List Int) : mobius_Times ((N, cl ws, ()), f, g, ()) =
    some (if ordc N ws = 0 then (if IsTab N.toNat ws f ∧ IsTab N.toNat ws g then (sq N.toNat (mprod N.toNat ws f g), 0, ()) else ([], 2, ())) else ([], ordc N ws, ())) := by
  unfold mobius_Times
  simp (disch := first | assumption | omega) only [Option.bind_some, dcT, Bool.and_true, order_Check_eq hf]
  by_cases h : ordc N ws = 0
  · obtain ⟨h1, h2, h3, hin, h5⟩ := ordc_zero h
    obtain ⟨n, rfl⟩ := Int.eq_ofNat_of_zero_le h1
    have hl : ws.length = n := by omega
    have hn : n ≤ 16 := by omega
    have hsq := sq_le hn
    simp (disch := first | assumption | omega) only [cond_true, cond_false, Option.bind_some, dcT, Int.toNat_natCast, room8, Bool.and_self, if_true, h, bneF, mobius_table_eq hf hl hn, sq_wrap hn]
    by_cases tf : IsTab n ws f
    · by_cases tg : IsTab n ws g
      · simp (disch := first | assumption | omega) only [cond_false, Bool.not_true, if_true, tf, tg, and_self, rep_sq]
        have l1 : ∀ (a x : Nat) (l : List Int × Unit) (P : Nat → Nat → Int), a < n → x < n → loopM (mobius_Times_l1 (((n : Int), cl ws, ()), f, g, ()) ((a : Int), l) (((n : Int), f, ()), true, ()) ((x : Int), ()) (((n : Int), g, ()), true, ())) (((ws.getD x 0 : Nat) : Int), sq n P, ()) =
            some (.inl (sq n fun a' b' => if a' = a ∧ (ws.getD x 0).testBit b' = true then V64 (P a' b' + ent n f a x * ent n g x b') else P a' b', ())) := fun a x l P ha hx =>
          into_row (fitD hf x) (fun j hj => insideD hin hj) ha (fun b v => V64 (v + ent n f a x * ent n g x b)) P (fun r q G' h1 h2 h3 h4 _ => by
            unfold mobius_Times_l1
            simp (disch := first | assumption | omega) only [cond_true, Option.bind_some, Int.toNat_natCast, nz_eq, tz_eq h1, clr_eq h1, idx_wrap ha h3 hn, idx_wrap ha hx hn, idx_wrap hx h3 hn, sq_length, idx_inB ha h3, sq_get G' ha h3, ent_getI tf.1 ha hx, ent_getI tg.1 hx h3, h4, V64, wrap_addR]) (fun l => rfl)
        have l2 : ∀ (a : Nat) (l : List Int × Unit) (P : Nat → Nat → Int), a < n → (∀ b, P a b = 0) → loopM (mobius_Times_l2 (((n : Int), cl ws, ()), f, g, ()) ((a : Int), l) (((n : Int), f, ()), true, ()) (((n : Int), g, ()), true, ())) (((ws.getD a 0 : Nat) : Int), sq n P, ()) =
            some (.inl (sq n fun a' b' => if a' = a then mprod n ws f g a b' else P a' b', ())) := fun a l P ha hP => by
          have key := loopM_bits (f := mobius_Times_l2 (((n : Int), cl ws, ()), f, g, ()) ((a : Int), l) (((n : Int), f, ()), true, ()) (((n : Int), g, ()), true, ())) (v := ws.getD a 0) n (fun k => (sq n fun a' b' => if a' = a then V64 (sumI k (mterm n ws f g a b')) else P a' b', ())) (.inl (sq n fun a' b' => if a' = a then mprod n ws f g a b' else P a' b', ())) (word_lt hin a) (by omega) (fun r q h1 h2 h3 => by
            unfold mobius_Times_l2
            simp (disch := first | assumption | omega) only [cond_true, Option.bind_some, Sum.elim_inl, getI_cl, nz_eq, tz_eq h1, clr_eq h1, wrap_u64 (fitD64 hf r), l1 a r _ _ ha h3]
            refine congrArg (fun x => some (Sum.inl (_, x, ()))) (sq_congr fun a' b' _ _ => ?_)
            by_cases e : a' = a
            · subst e
              have e2 : mterm n ws f g a' b' r = if (ws.getD r 0).testBit b' = true then ent n f a' r * ent n g r b' else 0 := by
                unfold mterm
                rw [show below ws a' r = true from h2]
                simp [below]
              by_cases hb : (ws.getD r 0).testBit b' = true
              · simp only [hb, and_self, if_true, sumI, e2, V64, wrap_addL]
              · simp only [hb, Bool.false_eq_true, and_false, if_false, if_true, sumI, e2, Int.add_zero]
            · simp [e]) (fun r _ h2 => by
            refine congrArg (fun x => (x, ())) (sq_congr fun a' b' _ _ => ?_)
            have e2 : mterm n ws f g a b' r = 0 := by
              unfold mterm
              rw [show below ws a r = false from h2]
              simp
            simp only [sumI, e2, Int.add_zero]) (by rfl)
          have e : (sq n fun a' b' => if a' = a then V64 (sumI 0 (mterm n ws f g a b')) else P a' b') = sq n P := sq_congr fun a' b' _ _ => by
            by_cases h : a' = a
            · subst h; rw [if_pos rfl, hP]; rfl
            · rw [if_neg h]
          rw [e] at key
          exact key
        have l3 := loopM_sim (f := mobius_Times_l3 (((n : Int), cl ws, ()), f, g, ()) (((n : Int), f, ()), true, ()) (((n : Int), g, ()), true, ())) n (fun k => ((k : Int), sq n (fun a b => if a < k then mprod n ws f g a b else 0), ())) (.inl (sq n (mprod n ws f g), ())) (fun a ha => by
          unfold mobius_Times_l3
          simp (disch := first | assumption | omega) only [cond_true, Option.bind_some, Sum.elim_inl, dcT, getI_cl, wrapS, length_cl, wrap_u64 (fitD64 hf a), l2 a _ (fun a' b => if a' < a then mprod n ws f g a' b else 0) ha (fun b => if_neg (Nat.lt_irrefl a))]
          refine congrArg (fun x => some (Sum.inl (_, x, ()))) (sq_congr fun a' b' _ _ => ?_)
          by_cases e : a' = a
          · subst e; simp
          · have : (a' < a + 1) = (a' < a) := by simp; omega
            simp only [e, if_false, this]) (by
          unfold mobius_Times_l3
          simp (disch := first | assumption | omega) only [cond_false, dcF, wrapS, length_cl]
          refine congrArg (fun x => some (Sum.inr (Sum.inl (x, ())))) (sq_congr fun a b ha _ => ?_)
          rw [if_pos ha]) (s0 := (0, sq n (fun _ _ => 0), ())) (by rfl)
        simp (disch := first | assumption | omega) only [Option.bind_some, Sum.elim_inl, l3]
      · simp (disch := first | assumption | omega) only [cond_true, cond_false, Bool.not_true, Bool.not_false, if_true, if_false, tf, tg, and_false]
    · by_cases tg : IsTab n ws g
      · simp (disch := first | assumption | omega) only [cond_true, cond_false, Bool.not_true, Bool.not_false, if_true, if_false, tf, tg, false_and]
      · simp (disch := first | assumption | omega) only [cond_true, Bool.not_false, if_false, tf, tg, false_and]
  · simp (disch := first | assumption | omega) only [cond_true, if_false, h, bneT]

theorem ref_MobiusTimes_eq {n : Nat} {ws : List Nat} (hf : Fit ws) (hl : ws.length = n) (hn : n ≤ 16) {f g : List Int} (tf : f.length = n * n) (tg : g.length = n * n) : ref_MobiusTimes (((n : Int), cl ws, ()), f, g, ()) = some (sq n (mprod n ws f g), ()) := by
  have hsq := sq_le hn
  have l1 : ∀ (a b : Nat) (u v : List Int), a < n → b < n → loopM (ref_MobiusTimes_l1 (((n : Int), cl ws, ()), f, g, ()) (u, (a : Int), ()) (v, (b : Int), ())) (0, 0, ()) = some (.inl (mprod n ws f g a b, ())) := fun a b u v ha hb => by
    refine loopM_sim (f := ref_MobiusTimes_l1 (((n : Int), cl ws, ()), f, g, ()) (u, (a : Int), ()) (v, (b : Int), ())) n (fun k => (V64 (sumI k (mterm n ws f g a b)), (k : Int), ())) _ (fun x hx => ?_) ?_ rfl
    · unfold ref_MobiusTimes_l1
      simp (disch := first | assumption | omega) only [cond_true, Option.bind_some, dcT, wrapS, ref_Below_eq hf (show a < ws.length by omega) (show x < 2 ^ 64 by omega), ref_Below_eq hf (show x < ws.length by omega) (show b < 2 ^ 64 by omega), idx_wrap ha hx hn, idx_wrap hx hb hn, ent_getI tf ha hx, ent_getI tg hx hb, sumI]
      cases h1 : below ws a x
      · simp [mterm, h1]
      · cases h2 : below ws x b
        · simp [mterm, h2]
        · simp [mterm, h1, h2, V64, wrap_addR, wrap_addL]
    · unfold ref_MobiusTimes_l1
      simp (disch := first | assumption | omega) only [cond_false, dcF, wrapS]
      rfl
  have l2 : ∀ (a : Nat) (u : List Int), a < n → loopM (ref_MobiusTimes_l2 (((n : Int), cl ws, ()), f, g, ()) (u, (a : Int), ())) (sqTo n (mprod n ws f g) (a * n + 0), 0, ()) = some (.inl (sqTo n (mprod n ws f g) ((a + 1) * n + 0), ())) := fun a u ha => by
    refine loopM_sim (f := ref_MobiusTimes_l2 (((n : Int), cl ws, ()), f, g, ()) (u, (a : Int), ())) n (fun k => (sqTo n (mprod n ws f g) (a * n + k), (k : Int), ())) _ (fun b hb => ?_) ?_ rfl
    · have := idx_lt ha hb
      unfold ref_MobiusTimes_l2
      simp (disch := first | assumption | omega) only [cond_true, Option.bind_some, Sum.elim_inl, dcT, wrapS, List.length_cons, List.length_nil, room8, Bool.and_self, l1 a b _ _ ha hb, sqTo_length, sqTo_succ (mprod n ws f g) hb]
    · unfold ref_MobiusTimes_l2
      simp (disch := first | assumption | omega) only [cond_false, dcF, wrapS, List.length_cons, List.length_nil, Bool.and_true, Bool.true_and, sqTo_row]
  have l3 := loopM_sim (f := ref_MobiusTimes_l3 (((n : Int), cl ws, ()), f, g, ())) n (fun k => (sqTo n (mprod n ws f g) (k * n + 0), (k : Int), ())) (.inl (sq n (mprod n ws f g), ())) (fun a ha => by
    unfold ref_MobiusTimes_l3
    simp (disch := first | assumption | omega) only [cond_true, Option.bind_some, Sum.elim_inl, dcT, wrapS, l2 a _ ha]) (by
    unfold ref_MobiusTimes_l3
    simp (disch := first | assumption | omega) only [cond_false, dcF, wrapS]
    rfl) (s0 := ([], 0, ())) (by rw [Nat.zero_mul]; rfl)
  unfold ref_MobiusTimes
  simp (disch := first | assumption | omega) only [Option.bind_some, Sum.elim_inl, l3]

end Go.Proofs.Tryd
