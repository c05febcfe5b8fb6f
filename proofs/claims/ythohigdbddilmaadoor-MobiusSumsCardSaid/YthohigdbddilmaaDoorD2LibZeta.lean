/- Lemmas on functions of the program, by name: zeta. -/
import Derived.Test.YthohigdbddilmaaDoorD2Funs
import Derived.Test.YthohigdbddilmaaDoorAbsSums
import Derived.Test.YthohigdbddilmaaDoorD2LibMinv2
namespace Go.Proofs.Tryd
open Go Go.Abs


def zetaE (ws : List Nat) (a b : Nat) : Int := if below ws a b = true then 1 else 0
theorem ent_sq {n : Nat} (G : Nat → Nat → Int) {a b : Nat} (ha : a < n) (hb : b < n) : ent n (sq n G) a b = G a b := by
  unfold ent; rw [List.getD_eq_getElem?_getD, sq_get G ha hb]; rfl
theorem zeta_tab (n : Nat) (ws : List Nat) : IsTab n ws (sq n (zetaE ws)) := ⟨sq_length .., fun a b ha hb h => by
  rw [ent_sq _ ha hb]; unfold zetaE; rw [h]; rfl⟩
theorem zeta_diag {n : Nat} {ws : List Nat} (o : IsOrder n ws) : diagB n ws (sq n (zetaE ws)) = true := by
  unfold diagB
  rw [List.all_eq_true]
  intro a ha
  have ha := List.mem_range.1 ha
  rw [ent_sq _ ha ha]; unfold zetaE; rw [o.refl a ha]; rfl
theorem mobius_Zeta_eq {N : Int} {ws : List Nat} (hf : Fit ws) : mobius_Zeta ((N, cl ws, ()), ()) = some (if ordc N ws = 0 then (sq N.toNat (zetaE ws), 0, ()) else ([], ordc N ws, ())) := by
  unfold mobius_Zeta
  simp (disch := first | assumption | omega) only [Option.bind_some, dcT, Bool.and_true, order_Check_eq hf]
  by_cases h : ordc N ws = 0
  · obtain ⟨h1, h2, h3, hin, o⟩ := ordc_zero h
    obtain ⟨n, rfl⟩ := Int.eq_ofNat_of_zero_le h1
    have hl : ws.length = n := by omega
    have hn : n ≤ 16 := by omega
    have hin : Inside n ws := hin
    have hsq := sq_le hn
    have l1 : ∀ (a : Nat) (y : List Int × Unit) (P : Nat → Nat → Int), a < n → loopM (mobius_Zeta_l1 (((n : Int), cl ws, ()), ()) ((a : Int), y)) (((ws.getD a 0 : Nat) : Int), sq n P, ()) =
        some (.inl (sq n fun a' b' => if a' = a ∧ (ws.getD a 0).testBit b' = true then 1 else P a' b', ())) := fun a y P ha =>
      into_row (fitD hf a) (fun j hj => insideD hin hj) ha (fun _ _ => 1) P (fun r q G' h1 h2 h3 h4 _ => by
        unfold mobius_Zeta_l1
        simp (disch := first | assumption | omega) only [cond_true, Option.bind_some, Int.toNat_natCast, nz_eq, tz_eq h1, clr_eq h1, idx_wrap ha h3 hn, sq_length, idx_inB ha h3, sq_get G' ha h3]) (fun l => rfl)
    have key := loopM_sim (f := mobius_Zeta_l2 (((n : Int), cl ws, ()), ())) n (fun k => ((k : Int), sq n (fun a b => if a < k then zetaE ws a b else 0), ())) (.inl (sq n (zetaE ws), ())) (fun a ha => by
      unfold mobius_Zeta_l2
      simp (disch := first | assumption | omega) only [cond_true, Option.bind_some, Sum.elim_inl, dcT, getI_cl, wrapS, length_cl, wrap_u64 (fitD64 hf a), l1 a _ _ ha]
      refine congrArg (fun x => some (Sum.inl (_, x, ()))) (sq_congr fun a' b' _ _ => ?_)
      by_cases e : a' = a
      · subst e
        rw [if_neg (Nat.lt_irrefl a'), if_pos (Nat.lt_succ_self a')]
        unfold zetaE below
        cases (ws.getD a' 0).testBit b' <;> simp
      · have : (a' < a + 1) = (a' < a) := by simp; omega
        simp only [e, false_and, if_false, this]) (by
      unfold mobius_Zeta_l2
      simp (disch := first | assumption | omega) only [cond_false, dcF, wrapS, length_cl]
      refine congrArg (fun x => some (Sum.inr (Sum.inl (x, ())))) (sq_congr fun a b ha _ => ?_)
      rw [if_pos ha]) (s0 := (0, sq n (fun _ _ => 0), ())) (by rfl)
    simp (disch := first | assumption | omega) only [cond_true, cond_false, Option.bind_some, Sum.elim_inl, dcT, Int.toNat_natCast, room8, Bool.and_self, if_true, h, bneF, sq_wrap hn, rep_sq, key]
  · simp (disch := first | assumption | omega) only [cond_true, if_false, h, bneT]
theorem mobius_Mu_eq {N : Int} {ws : List Nat} (hf : Fit ws) : mobius_Mu ((N, cl ws, ()), ()) = some (if ordc N ws = 0 then (sq N.toNat (fun a b => V64 (G1 N.toNat ws (sq N.toNat (zetaE ws)) a b)), 0, ()) else ([], ordc N ws, ())) := by
  unfold mobius_Mu
  simp (disch := first | assumption | omega) only [Option.bind_some, mobius_Zeta_eq hf]
  by_cases h : ordc N ws = 0
  · obtain ⟨h1, h2, h3, hin, o⟩ := ordc_zero h
    simp (disch := first | assumption | omega) only [cond_true, cond_false, Option.bind_some, if_true, h, bneF, mobius_Inverse_eq hf, zeta_tab, zeta_diag o]
  · simp (disch := first | assumption | omega) only [cond_true, if_false, h, bneT]
theorem ref_MobiusZeta_eq {n : Nat} {ws : List Nat} (hf : Fit ws) (hl : ws.length = n) (hn : n ≤ 16) : ref_MobiusZeta (((n : Int), cl ws, ()), ()) = some (sq n (zetaE ws), ()) := by
  have hsq := sq_le hn
  have l1 : ∀ (a : Nat) (u : List Int), a < n → loopM (ref_MobiusZeta_l1 (((n : Int), cl ws, ()), ()) (u, (a : Int), ())) (sqTo n (zetaE ws) (a * n + 0), 0, ()) = some (.inl (sqTo n (zetaE ws) ((a + 1) * n + 0), ())) := fun a u ha => by
    refine loopM_sim (f := ref_MobiusZeta_l1 (((n : Int), cl ws, ()), ()) (u, (a : Int), ())) n (fun k => (sqTo n (zetaE ws) (a * n + k), (k : Int), ())) _ (fun b hb => ?_) ?_ rfl
    · have := idx_lt ha hb
      have e := sqTo_succ (a := a) (zetaE ws) hb
      unfold ref_MobiusZeta_l1
      simp (disch := first | assumption | omega) only [cond_true, Option.bind_some, dcT, wrapS, List.length_cons, List.length_nil, room8, Bool.and_self, ref_Below_eq hf (show a < ws.length by omega) (show b < 2 ^ 64 by omega), sqTo_length, ← e]
      unfold zetaE
      cases below ws a b <;> rfl
    · unfold ref_MobiusZeta_l1
      simp (disch := first | assumption | omega) only [cond_false, dcF, wrapS, List.length_cons, List.length_nil, Bool.and_true, Bool.true_and, sqTo_row]
  have l2 := loopM_sim (f := ref_MobiusZeta_l2 (((n : Int), cl ws, ()), ())) n (fun k => (sqTo n (zetaE ws) (k * n + 0), (k : Int), ())) (.inl (sq n (zetaE ws), ())) (fun a ha => by
    unfold ref_MobiusZeta_l2
    simp (disch := first | assumption | omega) only [cond_true, Option.bind_some, Sum.elim_inl, dcT, wrapS, l1 a _ ha]) (by
    unfold ref_MobiusZeta_l2
    simp (disch := first | assumption | omega) only [cond_false, dcF, wrapS]
    rfl) (s0 := ([], 0, ())) (by rw [Nat.zero_mul]; rfl)
  unfold ref_MobiusZeta
  simp (disch := first | assumption | omega) only [Option.bind_some, Sum.elim_inl, l2]

end Go.Proofs.Tryd
