/- Lemmas on functions of the program, by name: loop1. -/
import Derived.Test.YtoddbincogignaaP9Funs
import Derived.Test.YtoddbincogignaaAbsSums
import Derived.Test.YtoddbincogignaaP9LibBags3
namespace Go.Proofs.Try
open Go Go.Abs


/-! Going round: bags that count each entry once. -/
structure Set1 (m : Bg) (S : Ky → Prop) : Prop where
  rise : Rise KT m
  mem : ∀ p : Ky × Int, p ∈ m ↔ S p.1 ∧ p.2 = 1
theorem set1_ext {m m' : Bg} {S S' : Ky → Prop} (h : Set1 m S) (h' : Set1 m' S') (e : ∀ k, S k ↔ S' k) : m = m' :=
  rise_ext kt_flat h.rise h'.rise ((List.perm_ext_iff_of_nodup (bag_nodup h.rise) (bag_nodup h'.rise)).2 fun p => by rw [h.mem, h'.mem, e])
theorem set1_nil : Set1 [] (fun _ => False) := ⟨List.Pairwise.nil, fun p => ⟨fun h => (nomatch h), fun h => h.1.elim⟩⟩
theorem set1_set {m : Bg} {S : Ky → Prop} (h : Set1 m S) (k : Ky) : Set1 (mapSet KT m k 1) (fun j => S j ∨ j = k) := by
  have hr := mapSet_rise kt_flat (k := k) (v := (1 : Int)) h.rise
  refine ⟨hr, fun p => ?_⟩
  have h1 : p ∈ mapSet KT m k 1 ↔ mapGet KT (mapSet KT m k 1) p.1 = some p.2 := (mapGet_some kt_flat hr).symm
  rw [h1]
  by_cases hk : p.1 = k
  · rw [hk, mapGet_self kt_flat]
    exact ⟨fun h2 => ⟨.inr rfl, (Option.some.inj h2).symm⟩, fun h2 => by rw [h2.2]⟩
  · rw [mapGet_other kt_flat _ _ _ _ hk, mapGet_some kt_flat h.rise, h.mem p]
    exact ⟨fun h2 => ⟨.inl h2.1, h2.2⟩, fun h2 => ⟨h2.1.resolve_right hk, h2.2⟩⟩
theorem set1_congr {m : Bg} {S S' : Ky → Prop} (h : Set1 m S) (e : ∀ k, S k ↔ S' k) : Set1 m S' := ⟨h.rise, fun p => by rw [h.mem, e]⟩

theorem allN_fold {E σ β γ : Type} {st : E → σ → σ} {I : σ → Prop} {k : β → Option γ} {f : List E → E → σ → Option (σ ⊕ β)} {g : σ → Option (σ ⊕ β)} {hh : σ → β} (hf : ∀ r e y, I y → f r e y = some (.inl (st e y))) (hI : ∀ e y, I y → I (st e y)) (hg : ∀ y, g y = some (.inr (hh y))) {c : γ} :
    ∀ (n : Nat) (l : List E) (y : σ), l.length = n → I y → (∀ ord : List E, ord.Perm l → k (hh (ord.foldl (fun y e => st e y) y)) = some c) → AllN f g k n l y c
  | 0, l, y, hl, _, h => by
    have : l = [] := List.eq_nil_of_length_eq_zero hl
    subst this
    exact ⟨hh y, hg y, h [] (List.Perm.refl _)⟩
  | n + 1, [], y, hl, _, _ => by simp at hl
  | n + 1, e :: l, y, hl, hi, h => by
    intro p r hp
    refine .inr ⟨_, hf r p y hi, allN_fold hf hI hg n r (st p y) ?_ (hI p y hi) fun ord ho => ?_⟩
    · have := hp.length_eq
      simp only [List.length_cons] at this hl
      omega
    · exact h (p :: ord) ((ho.cons p).trans hp.symm)

/-- What counts of a bag. -/
def thereB (m : Bg) : Bg := (m.filter fun p => decide (p.2 > 0)).map fun p => (p.1, 1)
theorem there_is {m : Bg} (h : Rise KT m) : Set1 (thereB m) (fun k => 0 < nOf m k) := by
  have hr : Rise KT (thereB m) := by
    unfold thereB Rise
    rw [List.pairwise_map]
    exact List.Pairwise.imp (fun hab => hab) (List.Pairwise.filter _ h)
  refine ⟨hr, fun p => ?_⟩
  unfold thereB
  simp only [List.mem_map, List.mem_filter, decide_eq_true_eq]
  constructor
  · rintro ⟨q, ⟨h1, h2⟩, rfl⟩
    refine ⟨?_, rfl⟩
    unfold nOf
    rw [(mapGet_some kt_flat h).2 h1]; exact h2
  · rintro ⟨h1, h2⟩
    unfold nOf at h1
    cases hg : mapGet KT m p.1 with
    | none => rw [hg] at h1; exact absurd h1 (by simp)
    | some v =>
      rw [hg] at h1
      refine ⟨(p.1, v), ⟨(mapGet_some kt_flat h).1 hg, h1⟩, ?_⟩
      rw [← h2]
theorem thereB_length (m : Bg) : (thereB m).length ≤ m.length := by
  unfold thereB
  rw [List.length_map]; exact List.length_filter_le _ _

theorem fold_there : ∀ (ord : List (Ky × Int)) {y : Bg} {S : Ky → Prop}, Set1 y S → Set1 (ord.foldl (fun (y : Bg) e => if e.2 > 0 then mapSet KT y e.1 1 else y) y) (fun k => S k ∨ ∃ e ∈ ord, e.1 = k ∧ e.2 > 0)
  | [], _, _, h => set1_congr h fun k => ⟨.inl, fun h => h.elim id fun ⟨e, he, _⟩ => by cases he⟩
  | e :: ord, y, S, h => by
    simp only [List.foldl_cons]
    by_cases h0 : e.2 > 0
    · rw [if_pos h0]
      refine set1_congr (fold_there ord (set1_set h e.1)) fun k => ?_
      constructor
      · rintro ((h1 | h1) | ⟨e', h1, h2⟩)
        · exact .inl h1
        · exact .inr ⟨e, List.mem_cons_self, h1.symm, h0⟩
        · exact .inr ⟨e', List.mem_cons_of_mem _ h1, h2⟩
      · rintro (h1 | ⟨e', h1, h2⟩)
        · exact .inl (.inl h1)
        · rcases List.mem_cons.1 h1 with rfl | h1
          · exact .inl (.inr h2.1.symm)
          · exact .inr ⟨e', h1, h2⟩
    · rw [if_neg h0]
      refine set1_congr (fold_there ord h) fun k => ?_
      constructor
      · rintro (h1 | ⟨e', h1, h2⟩)
        · exact .inl h1
        · exact .inr ⟨e', List.mem_cons_of_mem _ h1, h2⟩
      · rintro (h1 | ⟨e', h1, h2⟩)
        · exact .inl h1
        · rcases List.mem_cons.1 h1 with rfl | h1
          · exact absurd h2.2 h0
          · exact .inr ⟨e', h1, h2⟩

theorem loop_there_eq {m : Bg} (h : Rise KT m) : loop_there (m, ()) = some (thereB m, ()) := by
  unfold loop_there
  refine anyX_some ?_
  refine allN_fold (I := fun _ => True) (st := fun (e : Ky × Int) (y : Bg × Unit) => ((if e.2 > 0 then mapSet KT y.1 e.1 1 else y.1), ())) (hh := fun y => Sum.inl y) (fun r e y _ => ?_) (fun _ _ _ => trivial) (fun y => rfl) _ m _ rfl trivial fun ord ho => ?_
  · unfold loop_there_l1
    by_cases h0 : e.2 > 0
    · rw [dcT h0, cond_true, if_pos h0]
    · rw [dcF h0, cond_false, if_neg h0]
  · have hfold : ∀ (ord : List (Ky × Int)) (y : Bg), (ord.foldl (fun (y : Bg × Unit) e => ((if e.2 > 0 then mapSet KT y.1 e.1 1 else y.1), ())) (y, ())) = (ord.foldl (fun (y : Bg) e => if e.2 > 0 then mapSet KT y e.1 1 else y) y, ()) := by
      intro ord
      induction ord with
      | nil => intro y; rfl
      | cons e r ih => intro y; exact ih _
    rw [hfold]
    show some (_, ()) = some (thereB m, ())
    congr 2
    refine set1_ext (fold_there ord set1_nil) (there_is h) fun k => ?_
    constructor
    · rintro (h1 | ⟨e, h1, h2, h3⟩)
      · exact h1.elim
      · subst h2
        unfold nOf
        rw [(mapGet_some kt_flat h).2 (show (e.1, e.2) ∈ m from ho.mem_iff.1 h1)]; exact h3
    · intro h1
      unfold nOf at h1
      cases hg : mapGet KT m k with
      | none => rw [hg] at h1; exact absurd h1 (by simp)
      | some v =>
        rw [hg] at h1
        exact .inr ⟨(k, v), ho.mem_iff.2 ((mapGet_some kt_flat h).1 hg), rfl, h1⟩

/-- One round more: what the edges make of one entry; of all. -/
def addE (E : Bg) (a : Ky × Int) (y : Bg) : Bg := E.foldl (fun y e => if e.1.1 = a.1.1 then mapSet KT y (e.1.2.1, a.1.2.1, ()) 1 else y) y
def stepB (E X : Bg) : Bg := X.foldl (fun y a => addE E a y) X
def Goes (E : List (Ky × Int)) (a : Ky × Int) (k : Ky) : Prop := ∃ e ∈ E, e.1.1 = a.1.1 ∧ k = (e.1.2.1, a.1.2.1, ())
theorem addE_is (a : Ky × Int) : ∀ (E : List (Ky × Int)) {y : Bg} {S : Ky → Prop}, Set1 y S → Set1 (addE E a y) (fun k => S k ∨ Goes E a k)
  | [], _, _, h => set1_congr h fun k => ⟨.inl, fun h => h.elim id fun ⟨e, he, _⟩ => by cases he⟩
  | e :: E, y, S, h => by
    unfold addE
    simp only [List.foldl_cons]
    by_cases h0 : e.1.1 = a.1.1
    · rw [if_pos h0]
      refine set1_congr (addE_is a E (set1_set h (e.1.2.1, a.1.2.1, ()))) fun k => ?_
      constructor
      · rintro ((h1 | h1) | ⟨e', h1, h2⟩)
        · exact .inl h1
        · exact .inr ⟨e, List.mem_cons_self, h0, h1⟩
        · exact .inr ⟨e', List.mem_cons_of_mem _ h1, h2⟩
      · rintro (h1 | ⟨e', h1, h2⟩)
        · exact .inl (.inl h1)
        · rcases List.mem_cons.1 h1 with rfl | h1
          · exact .inl (.inr h2.2)
          · exact .inr ⟨e', h1, h2⟩
    · rw [if_neg h0]
      refine set1_congr (addE_is a E h) fun k => ?_
      constructor
      · rintro (h1 | ⟨e', h1, h2⟩)
        · exact .inl h1
        · exact .inr ⟨e', List.mem_cons_of_mem _ h1, h2⟩
      · rintro (h1 | ⟨e', h1, h2⟩)
        · exact .inl h1
        · rcases List.mem_cons.1 h1 with rfl | h1
          · exact absurd h2.1 h0
          · exact .inr ⟨e', h1, h2⟩
theorem fold_step (E : Bg) : ∀ (ord : List (Ky × Int)) {y : Bg} {S : Ky → Prop}, Set1 y S → Set1 (ord.foldl (fun y a => addE E a y) y) (fun k => S k ∨ ∃ a ∈ ord, Goes E a k)
  | [], _, _, h => set1_congr h fun k => ⟨.inl, fun h => h.elim id fun ⟨e, he, _⟩ => by cases he⟩
  | a :: ord, y, S, h => by
    simp only [List.foldl_cons]
    refine set1_congr (fold_step E ord (addE_is a E h)) fun k => ?_
    constructor
    · rintro ((h1 | h1) | ⟨e', h1, h2⟩)
      · exact .inl h1
      · exact .inr ⟨a, List.mem_cons_self, h1⟩
      · exact .inr ⟨e', List.mem_cons_of_mem _ h1, h2⟩
    · rintro (h1 | ⟨e', h1, h2⟩)
      · exact .inl (.inl h1)
      · rcases List.mem_cons.1 h1 with rfl | h1
        · exact .inl (.inr h2)
        · exact .inr ⟨e', h1, h2⟩
theorem stepB_is {E X : Bg} {S : Ky → Prop} (h : Set1 X S) : Set1 (stepB E X) (fun k => S k ∨ ∃ a ∈ X, Goes E a k) := fold_step E X h

theorem inner_eq {E : Bg} (a : Ky × Int) {y : Bg} {S : Ky → Prop} (h : Set1 y S) : anyX (loop_step_l1 a) loop_step_l1e (Sum.elim (fun z9 => (some (Sum.inl z9) : Option ((Bg × Unit) ⊕ ((Bg × Unit) ⊕ Empty)))) Empty.elim) E (y, ()) = some (.inl (addE E a y, ())) := by
  refine anyX_some ?_
  refine allN_fold (I := fun _ => True) (st := fun (e : Ky × Int) (y : Bg × Unit) => ((if e.1.1 = a.1.1 then mapSet KT y.1 (e.1.2.1, a.1.2.1, ()) 1 else y.1), ())) (hh := fun y => Sum.inl y) (fun r e y _ => ?_) (fun _ _ _ => trivial) (fun y => rfl) _ E _ rfl trivial fun ord ho => ?_
  · unfold loop_step_l1
    by_cases h0 : e.1.1 = a.1.1
    · rw [beqT h0, cond_true, if_pos h0]
    · rw [beqF h0, cond_false, if_neg h0]
  · have hfold : ∀ (ord : List (Ky × Int)) (y : Bg), (ord.foldl (fun (y : Bg × Unit) e => ((if e.1.1 = a.1.1 then mapSet KT y.1 (e.1.2.1, a.1.2.1, ()) 1 else y.1), ())) (y, ())) = (addE ord a y, ()) := by
      intro ord
      induction ord with
      | nil => intro y; rfl
      | cons e r ih => intro y; exact ih _
    rw [hfold]
    show some (Sum.inl (_, ())) = some (Sum.inl (addE E a y, ()))
    congr 3
    refine set1_ext (addE_is a ord h) (addE_is a E h) fun k => ?_
    unfold Goes
    constructor
    · exact fun h1 => h1.imp_right fun ⟨e, he, h2⟩ => ⟨e, ho.mem_iff.1 he, h2⟩
    · exact fun h1 => h1.imp_right fun ⟨e, he, h2⟩ => ⟨e, ho.mem_iff.2 he, h2⟩

theorem loop_step_eq {E X : Bg} {S : Ky → Prop} (h : Set1 X S) : loop_step (E, X, ()) = some (stepB E X, ()) := by
  unfold loop_step
  refine anyX_some ?_
  refine allN_fold (I := fun (y : Bg × Unit) => ∃ S, Set1 y.1 S) (st := fun (a : Ky × Int) (y : Bg × Unit) => (addE E a y.1, ())) (hh := fun y => Sum.inl y) (fun r e y hy => ?_) (fun e y hy => ?_) (fun y => rfl) _ X _ rfl ⟨S, h⟩ fun ord ho => ?_
  · obtain ⟨S', hS⟩ := hy
    unfold loop_step_l3
    exact inner_eq e hS
  · obtain ⟨S', hS⟩ := hy
    exact ⟨_, addE_is e E hS⟩
  · have hfold : ∀ (ord : List (Ky × Int)) (y : Bg), (ord.foldl (fun (y : Bg × Unit) a => (addE E a y.1, ())) (y, ())) = (ord.foldl (fun y a => addE E a y) y, ()) := by
      intro ord
      induction ord with
      | nil => intro y; rfl
      | cons e r ih => intro y; exact ih _
    show (Sum.elim (fun z10 => some z10) Empty.elim (Sum.inl (ord.foldl (fun (y : Bg × Unit) a => (addE E a y.1, ())) (X, ())))) = _
    rw [hfold]
    show some (_, ()) = some (stepB E X, ())
    congr 2
    refine set1_ext (fold_step E ord h) (stepB_is h) fun k => ?_
    constructor
    · exact fun h1 => h1.imp_right fun ⟨e, he, h2⟩ => ⟨e, ho.mem_iff.1 he, h2⟩
    · exact fun h1 => h1.imp_right fun ⟨e, he, h2⟩ => ⟨e, ho.mem_iff.2 he, h2⟩

end Go.Proofs.Try
