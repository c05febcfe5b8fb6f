/- Lemmas on functions of the program, by name: chains. -/
import Derived.Test.YtofcpghoogaglaaDoorD1Funs
import Derived.Test.YtofcpghoogaglaaDoorAbsSums
import Derived.Test.YtofcpghoogaglaaDoorD1LibUnder
namespace Go.Proofs.Tryd
open Go Go.Abs


/-- How many chains of a length there are from one element to others; and to one from others. -/
def chFrom (n : Nat) (ws : List Nat) (a : Nat) : Nat → Nat → Int
  | 0, j => if j = a then 1 else 0
  | k + 1, j => sumI n fun i => if under ws i j = true then chFrom n ws a k i else 0
def chTo (n : Nat) (ws : List Nat) (b : Nat) : Nat → Nat → Int
  | 0, i => if i = b then 1 else 0
  | k + 1, i => sumI n fun j => if under ws i j = true then chTo n ws b k j else 0

theorem ch_turn (n : Nat) (ws : List Nat) (e f : Nat → Int) :
    sumI n (fun j => (sumI n fun i => if under ws i j = true then e i else 0) * f j) = sumI n (fun i => e i * sumI n fun j => if under ws i j = true then f j else 0) := by
  have h1 : ∀ j, (sumI n fun i => if under ws i j = true then e i else 0) * f j = sumI n fun i => if under ws i j = true then e i * f j else 0 := fun j => by
    rw [← sumI_mul']; exact sumI_congr fun i _ => by split <;> simp
  have h2 : ∀ i, e i * (sumI n fun j => if under ws i j = true then f j else 0) = sumI n fun j => if under ws i j = true then e i * f j else 0 := fun i => by
    rw [← sumI_mul]; exact sumI_congr fun j _ => by split <;> simp
  rw [sumI_congr fun j _ => h1 j, sumI_congr fun i _ => h2 i, sumI_swap]

theorem ch_same {n : Nat} {ws : List Nat} {a b : Nat} (ha : a < n) (hb : b < n) : ∀ (k : Nat), chFrom n ws a k b = chTo n ws b k a := by
  have key : ∀ k m, sumI n (fun j => chFrom n ws a k j * chTo n ws b m j) = sumI n (fun j => chFrom n ws a 0 j * chTo n ws b (m + k) j) := by
    intro k
    induction k with
    | zero => intro m; rfl
    | succ k ih =>
      intro m
      have := ch_turn n ws (chFrom n ws a k) (chTo n ws b m)
      rw [show m + (k + 1) = (m + 1) + k by omega, ← ih (m + 1)]
      exact this
  intro k
  have h := key k 0
  have h1 : sumI n (fun j => chFrom n ws a k j * chTo n ws b 0 j) = chFrom n ws a k b := by
    rw [sumI_congr (g := fun j => if j = b then chFrom n ws a k j else 0) fun j _ => by unfold chTo; split <;> simp, sumI_one, if_pos hb]
  have h2 : sumI n (fun j => chFrom n ws a 0 j * chTo n ws b (0 + k) j) = chTo n ws b k a := by
    rw [sumI_congr (g := fun j => if j = a then chTo n ws b (0 + k) j else 0) fun j _ => by unfold chFrom; split <;> simp, sumI_one, if_pos ha, Nat.zero_add]
  rw [h1, h2] at h
  exact h

abbrev W64 : Int → Int := IntKind.i64.wrap

theorem mobius_Chains_l1_eq {n : Nat} {w i : Nat} (hw : w < 2 ^ 32) (hin : ∀ j, w.testBit j = true → j < n) (hi : i < n) (e g : Nat → Int) (y : List Int × Unit) (k : Int) (z : Unit × List Int × Unit) :
    loopM (mobius_Chains_l1 ((i : Int), y) (k, tab n e, z)) ((w : Int), tab n g, ()) = some (.inl (tab n fun j => if w.testBit j = true then W64 (g j + e i) else g j, ())) :=
  into_tab hw hin (fun _ v => W64 (v + e i)) g (fun r q g' h1 h2 h3 h4 => by
    unfold mobius_Chains_l1
    simp (disch := first | assumption | omega) only [cond_true, Option.bind_some, get_tab, inB_T, Int.toNat_natCast, length_tab, nz_eq, tz_eq h1, clr_eq h1, h4]) (fun l => rfl)

theorem mobius_Chains_l2_eq {n : Nat} {ws : List Nat} (hf : Fit ws) (hl : ws.length = n) (hn : n ≤ 16) (hin : Inside n ws) (a b : Int) (e : Nat → Int) (k : Int) (z : Unit × List Int × Unit) :
    loopM (mobius_Chains_l2 (((n : Int), cl ws, ()), a, b, ()) (k, tab n e, z)) (0, tab n (fun _ => 0), ()) = some (.inl (tab n fun j => W64 (sumI n fun i => if under ws i j = true then e i else 0), ())) := by
  refine loopM_sim (f := mobius_Chains_l2 (((n : Int), cl ws, ()), a, b, ()) (k, tab n e, z)) n (fun k => ((k : Int), tab n (fun j => W64 (sumI k fun i => if under ws i j = true then e i else 0)), ())) _ (fun i hi => ?_) ?_ rfl
  · have hw := fitD hf i
    have hd := dif_lt (b := 2 ^ i) hw
    unfold mobius_Chains_l2
    simp (disch := first | assumption | omega) only [cond_true, Option.bind_some, Sum.elim_inl, dcT, getI_cl, wrapS, length_cl, sets_One_eq (show i < 32 by omega), not_u32 hw (two_pow_32 (show i < 32 by omega)), wrap_u64 (lt_64 hd), mobius_Chains_l1_eq hd (fun j hj => under_lt hin (by rw [← under_word]; exact hj)) hi]
    refine congrArg (fun x => some (Sum.inl (_, x, ()))) (tab_congr fun j _ => ?_)
    rw [under_word]
    by_cases hu : under ws i j = true <;> simp [sumI, W64, wrap_addL, hu]
  · unfold mobius_Chains_l2
    simp (disch := first | assumption | omega) only [cond_false, dcF, wrapS, length_cl]

theorem rep_set {n : Nat} (a : Nat) (v : Int) : (List.replicate n (0 : Int)).set a v = tab n fun j => if j = a then v else 0 := by rw [rep_tab, tab_set]

theorem W64_one (p : Prop) [Decidable p] : W64 (if p then 1 else 0) = if p then 1 else 0 := by split <;> rfl

theorem mobius_Chains_eq {N a b : Int} {ws : List Nat} (hf : Fit ws) : mobius_Chains ((N, cl ws, ()), a, b, ()) =
    some (if ordc N ws = 0 then (if a < 0 ∨ b < 0 ∨ a ≥ N ∨ b ≥ N then ([], 2, ()) else (tab N.toNat fun m => W64 (chFrom N.toNat ws a.toNat m b.toNat), 0, ())) else ([], ordc N ws, ())) := by
  unfold mobius_Chains
  simp (disch := first | assumption | omega) only [Option.bind_some, dcT, List.length_replicate, Bool.and_true, order_Check_eq hf]
  by_cases h : ordc N ws = 0
  · obtain ⟨h1, h2, h3, h4, h5⟩ := ordc_zero h
    obtain ⟨n, rfl⟩ := Int.eq_ofNat_of_zero_le h1
    by_cases hm : (if b < a then b else a) < 0
    · have : a < 0 ∨ b < 0 ∨ a ≥ (n : Int) ∨ b ≥ (n : Int) := by split at hm <;> omega
      simp (disch := first | assumption | omega) only [cond_true, cond_false, dcT, Int.toNat_natCast, room8, Bool.and_self, if_true, h, bneF, this]
    by_cases hM : (if b > a then b else a) ≥ (n : Int)
    · have : a < 0 ∨ b < 0 ∨ a ≥ (n : Int) ∨ b ≥ (n : Int) := by split at hM <;> omega
      simp (disch := first | assumption | omega) only [cond_true, cond_false, dcT, dcF, Int.toNat_natCast, room8, Bool.and_self, if_true, h, bneF, this]
    have hno : ¬ (a < 0 ∨ b < 0 ∨ a ≥ (n : Int) ∨ b ≥ (n : Int)) := by split at hm <;> split at hM <;> omega
    obtain ⟨a, rfl⟩ := Int.eq_ofNat_of_zero_le (show 0 ≤ a by omega)
    obtain ⟨b, rfl⟩ := Int.eq_ofNat_of_zero_le (show 0 ≤ b by omega)
    have hl : ws.length = n := by omega
    have hf3 := loopM_sim (f := mobius_Chains_l3 (((n : Int), cl ws, ()), (a : Int), (b : Int), ())) n (fun k => ((k : Int), tab n (fun j => W64 (chFrom n ws a k j)), (), tab n (fun m => if m < k then W64 (chFrom n ws a m b) else 0), ())) (.inl (tab n (fun j => W64 (chFrom n ws a n j)), (), tab n (fun m => W64 (chFrom n ws a m b)), ())) (fun k hk => by
      have hb : b < n := by omega
      unfold mobius_Chains_l3
      simp (disch := first | assumption | omega) only [cond_true, Option.bind_some, Sum.elim_inl, dcT, get_tab, inB_T, Int.toNat_natCast, wrapS, length_tab, room8, Bool.and_self, rep_tab, mobius_Chains_l2_eq hf hl (show n ≤ 16 by omega) h4]
      have e1 : (tab n fun j => W64 (sumI n fun i => if under ws i j = true then W64 (chFrom n ws a k i) else 0)) = tab n fun j => W64 (chFrom n ws a (k + 1) j) := tab_congr fun j _ => wrap_sum _ _ _ n fun i _ => by split; exact wrap_wrap _ _; rfl
      have e2 : (tab n fun m => if m < k then W64 (chFrom n ws a m b) else 0).set k (W64 (chFrom n ws a k b)) = tab n fun m => if m < k + 1 then W64 (chFrom n ws a m b) else 0 := by
        rw [tab_set]
        refine tab_congr fun m _ => ?_
        by_cases e : m = k
        · subst e; simp
        · have : (m < k + 1) = (m < k) := by simp; omega
          simp only [e, if_false, this]
      rw [e1, e2]) (by
      unfold mobius_Chains_l3
      simp (disch := first | assumption | omega) only [cond_true, cond_false, Option.bind_some, dcT, dcF, get_tab, inB_T, Int.toNat_natCast, wrapS, length_tab, List.length_replicate, room8, Bool.and_self]
      refine congrArg some (congrArg Sum.inr (congrArg Sum.inl (congrArg (fun x => (_, (), x, ())) (tab_congr fun m hm => ?_))))
      rw [if_pos hm]) (s0 := (0, tab n (fun j => if j = a then 1 else 0), (), tab n (fun _ => 0), ())) (by
      refine congrArg (fun x => (_, x, (), _, ())) (tab_congr fun j _ => ?_)
      exact W64_one _)
    simp (disch := first | assumption | omega) only [cond_true, cond_false, Option.bind_some, Sum.elim_inl, dcT, dcF, get_tab, inB_T, Int.toNat_natCast, room8, Bool.and_self, if_true, if_false, h, bneF, hno, rep_tab, tab_set, hf3]
  · simp (disch := first | assumption | omega) only [cond_true, if_false, h, bneT]

theorem ref_MobiusChains_eq {n a b : Nat} {ws : List Nat} (hf : Fit ws) (hl : ws.length = n) (hn : n ≤ 16) (ha : a < n) (hb : b < n) : ref_MobiusChains (((n : Int), cl ws, ()), (a : Int), (b : Int), ()) =
    some (tab n fun m => W64 (chTo n ws b m a), ()) := by
  have h1 : ∀ (x : Nat) (l : List Int) (f : Nat → Int) (z : List Int × Int × Unit), x < n → loopM (ref_MobiusChains_l1 (((n : Int), cl ws, ()), (a : Int), (b : Int), ()) (l, (x : Int), ()) (tab n f, z)) (0, 0, ()) = some (.inl (W64 (sumI n fun y => if under ws x y = true then f y else 0), ())) := fun x l f z hx => by
    refine loopM_sim (f := ref_MobiusChains_l1 (((n : Int), cl ws, ()), (a : Int), (b : Int), ()) (l, (x : Int), ()) (tab n f, z)) n (fun k => (W64 (sumI k fun y => if under ws x y = true then f y else 0), (k : Int), ())) _ (fun y hy => ?_) ?_ rfl
    · unfold ref_MobiusChains_l1
      simp (disch := first | assumption | omega) only [cond_true, Option.bind_some, dcT, get_tab, inB_T, Int.toNat_natCast, wrapS, length_tab, ref_Under_eq hf (show x < ws.length by omega) (show y < 2 ^ 64 by omega)]
      cases hu : under ws x y <;> simp [sumI, W64, wrap_addL, hu]
    · unfold ref_MobiusChains_l1
      simp (disch := first | assumption | omega) only [cond_false, dcF, Int.toNat_natCast, wrapS, length_tab]
  have h2 : ∀ (f : Nat → Int) (z : List Int × Int × Unit), loopM (ref_MobiusChains_l2 (((n : Int), cl ws, ()), (a : Int), (b : Int), ()) (tab n f, z)) ([], 0, ()) = some (.inl (tab n fun x => W64 (sumI n fun y => if under ws x y = true then f y else 0), ())) := fun f z => by
    refine loopM_sim (f := ref_MobiusChains_l2 (((n : Int), cl ws, ()), (a : Int), (b : Int), ()) (tab n f, z)) n (fun k => (tab k fun x => W64 (sumI n fun y => if under ws x y = true then f y else 0), (k : Int), ())) _ (fun x hx => ?_) ?_ rfl
    · unfold ref_MobiusChains_l2
      simp (disch := first | assumption | omega) only [cond_true, Option.bind_some, Sum.elim_inl, dcT, wrapS, length_tab, List.length_cons, List.length_nil, room8, Bool.and_self, h1 x _ f z hx, tab_succ]
    · unfold ref_MobiusChains_l2
      simp (disch := first | assumption | omega) only [cond_true, cond_false, dcF, wrapS, length_tab, List.length_cons, List.length_nil, room8, Bool.and_self]
  have h3 := loopM_sim (f := ref_MobiusChains_l3 (((n : Int), cl ws, ()), (a : Int), (b : Int), ())) n (fun k => (tab n (fun x => W64 (chTo n ws b k x)), tab k (fun m => W64 (chTo n ws b m a)), (k : Int), ())) (.inl (tab n (fun m => W64 (chTo n ws b m a)), ())) (fun k hk => by
    unfold ref_MobiusChains_l3
    simp (disch := first | assumption | omega) only [cond_true, Option.bind_some, Sum.elim_inl, dcT, get_tab, inB_T, Int.toNat_natCast, wrapS, length_tab, List.length_cons, List.length_nil, room8, Bool.and_self, h2, tab_succ]
    refine congrArg (fun x => some (Sum.inl (x, _))) (tab_congr fun j _ => ?_)
    exact wrap_sum _ _ _ n fun i _ => by split; exact wrap_wrap _ _; rfl) (by
    unfold ref_MobiusChains_l3
    simp (disch := first | assumption | omega) only [cond_true, cond_false, Option.bind_some, dcF, get_tab, inB_T, Int.toNat_natCast, wrapS, length_tab, List.length_cons, List.length_nil, room8, Bool.and_self]) (s0 := (tab n (fun j => if j = b then 1 else 0), [], 0, ())) (by
      refine congrArg (fun x => (x, _)) (tab_congr fun j _ => ?_)
      exact W64_one _)
  unfold ref_MobiusChains
  simp (disch := first | assumption | omega) only [cond_true, Option.bind_some, Sum.elim_inl, dcT, get_tab, inB_T, Int.toNat_natCast, length_tab, room8, Bool.and_self, rep_tab, tab_set, h3]

end Go.Proofs.Tryd
