/- Lemmas on functions of the program, by name. -/
import Derived.Test.YtgepgleagefmeabGreatZRFuns
import Derived.Test.YtgepgleagefmeabGreatAbsSums
import Derived.Test.YtgepgleagefmeabGreatZRLemmasLoopRounds1
import Derived.Test.YtgepgleagefmeabGreatZRLemmasLoopRounds3
namespace Go.Proofs.Tryz
section
open Go Go.Abs

structure Set1 (m:Bg) (S:Ky→Prop):Prop where
  rise:Rise KT m
  mem:∀ p:Ky × Int,p∈m↔S p.1∧p.2=1
theorem set1_ext {m m':Bg} {S S':Ky→Prop} (h:Set1 m S) (h':Set1 m' S') (e:∀ k,S k↔S' k):m=m' :=
  rise_ext kt_flat h.rise h'.rise ((List.perm_ext_iff_of_nodup (bag_nodup h.rise) (bag_nodup h'.rise)).2 fun p=>by rw [h.mem,h'.mem,e])
theorem set1_nil:Set1 [] (fun _=>False):=⟨List.Pairwise.nil,fun p=>⟨fun h=>(nomatch h),fun h=>h.1.elim⟩⟩
theorem set1_set {m:Bg} {S:Ky→Prop} (h:Set1 m S) (k:Ky):Set1 (mapSet KT m k 1) (fun j=>S j∨j=k):=by
  have hr:=mapSet_rise kt_flat (k:=k) (v:=(1:Int)) h.rise
  refine ⟨hr,fun p=>?_⟩
  have h1:p∈mapSet KT m k 1↔mapGet KT (mapSet KT m k 1) p.1=some p.2:=(mapGet_some kt_flat hr).symm
  rw [h1]
  by_cases hk:p.1=k
  · rw [hk,mapGet_self kt_flat]
    exact ⟨fun h2=>⟨.inr rfl,(Option.some.inj h2).symm⟩,fun h2=>by rw [h2.2]⟩
  · rw [mapGet_other kt_flat _ _ _ _ hk,mapGet_some kt_flat h.rise,h.mem p]
    exact ⟨fun h2=>⟨.inl h2.1,h2.2⟩,fun h2=>⟨h2.1.resolve_right hk,h2.2⟩⟩
theorem set1_congr {m:Bg} {S S':Ky→Prop} (h:Set1 m S) (e:∀ k,S k↔S' k):Set1 m S':=⟨h.rise,fun p=>by rw [h.mem,e]⟩
theorem allN_fold {E σ β γ:Type} {st:E→σ→σ} {I:σ→Prop} {k:β→Option γ} {f:List E→E→σ→Option (σ ⊕ β)} {g:σ→Option (σ ⊕ β)} {hh:σ→β} (hf:∀ r e y,I y→f r e y=some (.inl (st e y))) (hI:∀ e y,I y→I (st e y)) (hg:∀ y,g y=some (.inr (hh y))) {c:γ} :
    ∀ (n:Nat) (l:List E) (y:σ),l.length=n→I y→(∀ ord:List E,ord.Perm l→k (hh (ord.foldl (fun y e=>st e y) y))=some c)→AllN f g k n l y c
  | 0,l,y,hl,_,h=>by
    have:l=[]:=List.eq_nil_of_length_eq_zero hl
    subst this
    exact ⟨hh y,hg y,h [] (List.Perm.refl _)⟩
  | n+1,[],y,hl,_,_=>by simp at hl
  | n+1,e :: l,y,hl,hi,h=>by
    intro p r hp
    refine .inr ⟨_,hf r p y hi,allN_fold hf hI hg n r (st p y) ?_ (hI p y hi) fun ord ho=>?_⟩
    · have:=hp.length_eq
      simp only [List.length_cons] at this hl
      omega
    · exact h (p :: ord) ((ho.cons p).trans hp.symm)
def thereB (m:Bg):Bg:=(m.filter fun p=>decide (p.2 > 0)).map fun p=>(p.1,1)
theorem there_is {m:Bg} (h:Rise KT m):Set1 (thereB m) (fun k=>0 < nOf m k):=by
  have hr:Rise KT (thereB m):=by
    unfold thereB Rise
    rw [List.pairwise_map]
    exact List.Pairwise.imp (fun hab=>hab) (List.Pairwise.filter _ h)
  refine ⟨hr,fun p=>?_⟩
  unfold thereB
  simp only [List.mem_map,List.mem_filter,decide_eq_true_eq]
  constructor
  · rintro ⟨q,⟨h1,h2⟩,rfl⟩
    refine ⟨?_,rfl⟩
    unfold nOf
    rw [(mapGet_some kt_flat h).2 h1]; exact h2
  · rintro ⟨h1,h2⟩
    unfold nOf at h1
    cases hg:mapGet KT m p.1 with
    | none=>rw [hg] at h1; exact absurd h1 (by simp)
    | some v =>
      rw [hg] at h1
      refine ⟨(p.1,v),⟨(mapGet_some kt_flat h).1 hg,h1⟩,?_⟩
      rw [←h2]
theorem thereB_length (m:Bg):(thereB m).length≤m.length:=by
  unfold thereB
  rw [List.length_map]; exact List.length_filter_le _ _
theorem fold_there:∀ (ord:List (Ky × Int)) {y:Bg} {S:Ky→Prop},Set1 y S→Set1 (ord.foldl (fun (y:Bg) e=>if e.2 > 0 then mapSet KT y e.1 1 else y) y) (fun k=>S k∨∃ e∈ord,e.1=k∧e.2 > 0)
  | [],_,_,h=>set1_congr h fun k=>⟨.inl,fun h=>h.elim id fun ⟨e,he,_⟩=>by cases he⟩
  | e :: ord,y,S,h=>by
    simp only [List.foldl_cons]
    by_cases h0:e.2 > 0
    · rw [if_pos h0]
      refine set1_congr (fold_there ord (set1_set h e.1)) fun k=>?_
      constructor
      · rintro ((h1 | h1) | ⟨e',h1,h2⟩)
        · exact .inl h1
        · exact .inr ⟨e,List.mem_cons_self,h1.symm,h0⟩
        · exact .inr ⟨e',List.mem_cons_of_mem _ h1,h2⟩
      · rintro (h1 | ⟨e',h1,h2⟩)
        · exact .inl (.inl h1)
        · rcases List.mem_cons.1 h1 with rfl | h1
          · exact .inl (.inr h2.1.symm)
          · exact .inr ⟨e',h1,h2⟩
    · rw [if_neg h0]
      refine set1_congr (fold_there ord h) fun k=>?_
      constructor
      · rintro (h1 | ⟨e',h1,h2⟩)
        · exact .inl h1
        · exact .inr ⟨e',List.mem_cons_of_mem _ h1,h2⟩
      · rintro (h1 | ⟨e',h1,h2⟩)
        · exact .inl h1
        · rcases List.mem_cons.1 h1 with rfl | h1
          · exact absurd h2.2 h0
          · exact .inr ⟨e',h1,h2⟩
theorem loop_there_eq {m:Bg} (h:Rise KT m):loop_there (m,())=some (thereB m,()):=by
  unfold loop_there
  refine anyX_some ?_
  refine allN_fold (I:=fun _=>True) (st:=fun (e:Ky × Int) (y:Bg × Unit)=>((if e.2 > 0 then mapSet KT y.1 e.1 1 else y.1),())) (hh:=fun y=>Sum.inl y) (fun r e y _=>?_) (fun _ _ _=>trivial) (fun y=>rfl) _ m _ rfl trivial fun ord ho=>?_
  · unfold loop_there_l1
    by_cases h0:e.2 > 0
    · rw [dcT h0,cond_true,if_pos h0]
    · rw [dcF h0,cond_false,if_neg h0]
  · have hfold:∀ (ord:List (Ky × Int)) (y:Bg),(ord.foldl (fun (y:Bg × Unit) e=>((if e.2 > 0 then mapSet KT y.1 e.1 1 else y.1),())) (y,()))=(ord.foldl (fun (y:Bg) e=>if e.2 > 0 then mapSet KT y e.1 1 else y) y,()):=by
      intro ord
      induction ord with
      | nil=>intro y; rfl
      | cons e r ih=>intro y; exact ih _
    rw [hfold]
    show some (_,())=some (thereB m,())
    congr 2
    refine set1_ext (fold_there ord set1_nil) (there_is h) fun k=>?_
    constructor
    · rintro (h1 | ⟨e,h1,h2,h3⟩)
      · exact h1.elim
      · subst h2
        unfold nOf
        rw [(mapGet_some kt_flat h).2 (show (e.1,e.2)∈m from ho.mem_iff.1 h1)]; exact h3
    · intro h1
      unfold nOf at h1
      cases hg:mapGet KT m k with
      | none=>rw [hg] at h1; exact absurd h1 (by simp)
      | some v =>
        rw [hg] at h1
        exact .inr ⟨(k,v),ho.mem_iff.2 ((mapGet_some kt_flat h).1 hg),rfl,h1⟩
def addE (E:Bg) (a:Ky × Int) (y:Bg):Bg:=E.foldl (fun y e=>if e.1.1=a.1.1 then mapSet KT y (e.1.2.1,a.1.2.1,()) 1 else y) y
def stepB (E X:Bg):Bg:=X.foldl (fun y a=>addE E a y) X
def Goes (E:List (Ky × Int)) (a:Ky × Int) (k:Ky):Prop:=∃ e∈E,e.1.1=a.1.1∧k=(e.1.2.1,a.1.2.1,())
theorem addE_is (a:Ky × Int):∀ (E:List (Ky × Int)) {y:Bg} {S:Ky→Prop},Set1 y S→Set1 (addE E a y) (fun k=>S k∨Goes E a k)
  | [],_,_,h=>set1_congr h fun k=>⟨.inl,fun h=>h.elim id fun ⟨e,he,_⟩=>by cases he⟩
  | e :: E,y,S,h=>by
    unfold addE
    simp only [List.foldl_cons]
    by_cases h0:e.1.1=a.1.1
    · rw [if_pos h0]
      refine set1_congr (addE_is a E (set1_set h (e.1.2.1,a.1.2.1,()))) fun k=>?_
      constructor
      · rintro ((h1 | h1) | ⟨e',h1,h2⟩)
        · exact .inl h1
        · exact .inr ⟨e,List.mem_cons_self,h0,h1⟩
        · exact .inr ⟨e',List.mem_cons_of_mem _ h1,h2⟩
      · rintro (h1 | ⟨e',h1,h2⟩)
        · exact .inl (.inl h1)
        · rcases List.mem_cons.1 h1 with rfl | h1
          · exact .inl (.inr h2.2)
          · exact .inr ⟨e',h1,h2⟩
    · rw [if_neg h0]
      refine set1_congr (addE_is a E h) fun k=>?_
      constructor
      · rintro (h1 | ⟨e',h1,h2⟩)
        · exact .inl h1
        · exact .inr ⟨e',List.mem_cons_of_mem _ h1,h2⟩
      · rintro (h1 | ⟨e',h1,h2⟩)
        · exact .inl h1
        · rcases List.mem_cons.1 h1 with rfl | h1
          · exact absurd h2.1 h0
          · exact .inr ⟨e',h1,h2⟩
theorem fold_step (E:Bg):∀ (ord:List (Ky × Int)) {y:Bg} {S:Ky→Prop},Set1 y S→Set1 (ord.foldl (fun y a=>addE E a y) y) (fun k=>S k∨∃ a∈ord,Goes E a k)
  | [],_,_,h=>set1_congr h fun k=>⟨.inl,fun h=>h.elim id fun ⟨e,he,_⟩=>by cases he⟩
  | a :: ord,y,S,h=>by
    simp only [List.foldl_cons]
    refine set1_congr (fold_step E ord (addE_is a E h)) fun k=>?_
    constructor
    · rintro ((h1 | h1) | ⟨e',h1,h2⟩)
      · exact .inl h1
      · exact .inr ⟨a,List.mem_cons_self,h1⟩
      · exact .inr ⟨e',List.mem_cons_of_mem _ h1,h2⟩
    · rintro (h1 | ⟨e',h1,h2⟩)
      · exact .inl (.inl h1)
      · rcases List.mem_cons.1 h1 with rfl | h1
        · exact .inl (.inr h2)
        · exact .inr ⟨e',h1,h2⟩
theorem stepB_is {E X:Bg} {S:Ky→Prop} (h:Set1 X S):Set1 (stepB E X) (fun k=>S k∨∃ a∈X,Goes E a k):=fold_step E X h
theorem inner_eq {E:Bg} (a:Ky × Int) {y:Bg} {S:Ky→Prop} (h:Set1 y S):anyX (loop_step_l1 a) loop_step_l1e (Sum.elim (fun z9=>(some (Sum.inl z9):Option ((Bg × Unit) ⊕ ((Bg × Unit) ⊕ Empty)))) Empty.elim) E (y,())=some (.inl (addE E a y,())):=by
  refine anyX_some ?_
  refine allN_fold (I:=fun _=>True) (st:=fun (e:Ky × Int) (y:Bg × Unit)=>((if e.1.1=a.1.1 then mapSet KT y.1 (e.1.2.1,a.1.2.1,()) 1 else y.1),())) (hh:=fun y=>Sum.inl y) (fun r e y _=>?_) (fun _ _ _=>trivial) (fun y=>rfl) _ E _ rfl trivial fun ord ho=>?_
  · unfold loop_step_l1
    by_cases h0:e.1.1=a.1.1
    · rw [beqT h0,cond_true,if_pos h0]
    · rw [beqF h0,cond_false,if_neg h0]
  · have hfold:∀ (ord:List (Ky × Int)) (y:Bg),(ord.foldl (fun (y:Bg × Unit) e=>((if e.1.1=a.1.1 then mapSet KT y.1 (e.1.2.1,a.1.2.1,()) 1 else y.1),())) (y,()))=(addE ord a y,()):=by
      intro ord
      induction ord with
      | nil=>intro y; rfl
      | cons e r ih=>intro y; exact ih _
    rw [hfold]
    show some (Sum.inl (_,()))=some (Sum.inl (addE E a y,()))
    congr 3
    refine set1_ext (addE_is a ord h) (addE_is a E h) fun k=>?_
    unfold Goes
    constructor
    · exact fun h1=>h1.imp_right fun ⟨e,he,h2⟩=>⟨e,ho.mem_iff.1 he,h2⟩
    · exact fun h1=>h1.imp_right fun ⟨e,he,h2⟩=>⟨e,ho.mem_iff.2 he,h2⟩
theorem loop_step_eq {E X:Bg} {S:Ky→Prop} (h:Set1 X S):loop_step (E,X,())=some (stepB E X,()):=by
  unfold loop_step
  refine anyX_some ?_
  refine allN_fold (I:=fun (y:Bg × Unit)=>∃ S,Set1 y.1 S) (st:=fun (a:Ky × Int) (y:Bg × Unit)=>(addE E a y.1,())) (hh:=fun y=>Sum.inl y) (fun r e y hy=>?_) (fun e y hy=>?_) (fun y=>rfl) _ X _ rfl ⟨S,h⟩ fun ord ho=>?_
  · obtain ⟨S',hS⟩:=hy
    unfold loop_step_l3
    exact inner_eq e hS
  · obtain ⟨S',hS⟩:=hy
    exact ⟨_,addE_is e E hS⟩
  · have hfold:∀ (ord:List (Ky × Int)) (y:Bg),(ord.foldl (fun (y:Bg × Unit) a=>(addE E a y.1,())) (y,()))=(ord.foldl (fun y a=>addE E a y) y,()):=by
      intro ord
      induction ord with
      | nil=>intro y; rfl
      | cons e r ih=>intro y; exact ih _
    show (Sum.elim (fun z10=>some z10) Empty.elim (Sum.inl (ord.foldl (fun (y:Bg × Unit) a=>(addE E a y.1,())) (X,()))))=_
    rw [hfold]
    show some (_,())=some (stepB E X,())
    congr 2
    refine set1_ext (fold_step E ord h) (stepB_is h) fun k=>?_
    constructor
    · exact fun h1=>h1.imp_right fun ⟨e,he,h2⟩=>⟨e,ho.mem_iff.1 he,h2⟩
    · exact fun h1=>h1.imp_right fun ⟨e,he,h2⟩=>⟨e,ho.mem_iff.2 he,h2⟩
end

section
open Go Go.Abs

def oneR (r:Rw):Rw:=(r.1,r.2.1,1,())
def posB (r:Rw):Bool:=decide (r.2.2.1 > 0)
theorem take_map_filter {z:List Rw} {i:Nat} (h:i < z.length):((z.take (i+1)).filter posB).map oneR=((z.take i).filter posB).map oneR++(if posB z[i]=true then [oneR z[i]] else []):=by
  rw [List.take_succ_eq_append_getElem h,List.filter_append,List.map_append]
  congr 1
  by_cases hz:posB z[i]=true
  · rw [if_pos hz,List.filter_cons_of_pos hz]; rfl
  · rw [if_neg hz,List.filter_cons_of_neg hz]; rfl
theorem ref_There_eq {l:List Rw} (hw:∀ r∈l,InR r.2.2.1) (hl:l.length≤2900000000000):ref_There (l,())=some ((thereB (bagOf l [])).map toR,()):=by
  have hlen:=bag_length l []
  rw [List.length_nil,Nat.zero_add] at hlen
  have hz:((bagOf l []).map toR).length≤2900000000000:=by rw [List.length_map]; omega
  generalize hzz:(bagOf l []).map toR=z at hz
  have h1:=loopM_fold' (f:=ref_There_l1 (z,())) z.length (fun i=>((z.take i).filter posB).map oneR) (.inl ((z.filter posB).map oneR,())) (fun i hi=>by
    have hfl:=List.length_filter_le posB (z.take i)
    rw [List.length_take] at hfl
    have hll:(((z.take i).filter posB).map oneR).length+1≤4000000000000:=by rw [List.length_map]; omega
    unfold ref_There_l1
    rw [take_map_filter hi]
    simp only [dcT (show (i:Int) < (z.length:Int) by omega),cond_true,inB_T hi,Int.toNat_natCast,List.getElem?_eq_getElem hi,Option.bind_some,wrapS (show i < 9223372036854775807 by omega),show ∀ x:Rw,([x]:List Rw).length=1 from fun _=>rfl,room24 hll,Bool.and_true]
    unfold posB
    cases decide (z[i].2.2.1 > 0) with
    | true=>rfl
    | false=>simp only [cond_false,Bool.false_eq_true,if_false,List.append_nil]) (by
    unfold ref_There_l1
    simp only [dcF (show ¬ (z.length:Int) < (z.length:Int) by omega),cond_false,List.take_length])
  have h1':loopM (ref_There_l1 (z,())) (([]:List Rw),(0:Int),())=_:=h1
  have hb:ref_Bag (l,())=some (z,()):=by rw [ref_Bag_eq hl,rows_bag hw,hzz]
  unfold ref_There
  rw [hb]
  simp only [Option.bind_some]
  rw [h1']
  simp only [Option.bind_some,Sum.elim_inl]
  congr 2
  rw [←hzz,List.filter_map,List.map_map]
  unfold thereB
  rw [List.map_map]
  rfl
def genR (E:List Rw) (r:Rw):List Rw:=(E.filter fun e=>e.1 == r.1).map fun e=>(e.2.1,r.2.1,1,())
def genL (E X:List Rw):List Rw:=X.flatMap fun r=>r :: genR E r
theorem genR_take {E:List Rw} {r:Rw} {j:Nat} (h:j < E.length):genR (E.take (j+1)) r=genR (E.take j) r++(if (E[j].1 == r.1)=true then [(E[j].2.1,r.2.1,1,())] else []):=by
  unfold genR
  rw [List.take_succ_eq_append_getElem h,List.filter_append,List.map_append]
  congr 1
  have hfc:List.filter (fun e:Rw=>e.1 == r.1) [E[j]]=if (E[j].1 == r.1)=true then [E[j]] else []:=by rw [List.filter_cons,List.filter_nil]
  rw [hfc]
  by_cases hz:(E[j].1 == r.1)=true
  · rw [if_pos hz,if_pos hz]; rfl
  · rw [if_neg hz,if_neg hz]; rfl
theorem genR_length (E:List Rw) (r:Rw):(genR E r).length≤E.length:=by
  unfold genR
  rw [List.length_map]; exact List.length_filter_le _ _
theorem genL_length (E X:List Rw):(genL E X).length≤X.length*(E.length+1):=by
  unfold genL
  induction X with
  | nil=>simp
  | cons r X ih =>
    have:=genR_length E r
    rw [List.flatMap_cons,List.length_append,List.length_cons,List.length_cons,Nat.add_one_mul]
    omega
theorem genL_take {E X:List Rw} {i:Nat} (h:i < X.length):genL E (X.take (i+1))=genL E (X.take i)++(X[i] :: genR E X[i]):=by
  unfold genL
  rw [List.take_succ_eq_append_getElem h,List.flatMap_append]
  simp
theorem ref_gen_l1 {E X:List Rw} {r:Rw} {y:List Rw} (he:E.length≤1000) (hy:y.length≤2000000):loopM (ref_LoopStep_l1 (E,X,()) r) (y,(0:Int),())=some (.inl (y++genR E r,())):=by
  have h:=loopM_fold' (f:=ref_LoopStep_l1 (E,X,()) r) E.length (fun j=>y++genR (E.take j) r) (.inl (y++genR E r,())) (fun j hj=>by
    have hg:=genR_length (E.take j) r
    rw [List.length_take] at hg
    have hll:(y++genR (E.take j) r).length+1≤4000000000000:=by rw [List.length_append]; omega
    unfold ref_LoopStep_l1
    rw [genR_take hj]
    simp only [dcT (show (j:Int) < (E.length:Int) by omega),cond_true,getI_nat,List.getElem?_eq_getElem hj,Option.bind_some,wrapS (show j < 9223372036854775807 by omega),show ∀ x:Rw,([x]:List Rw).length=1 from fun _=>rfl,room24 hll,Bool.and_true]
    cases (E[j].1 == r.1) with
    | true=>simp only [cond_true,if_true,List.append_assoc]
    | false=>simp only [cond_false,Bool.false_eq_true,if_false,List.append_nil]) (by
    unfold ref_LoopStep_l1
    simp only [dcF (show ¬ (E.length:Int) < (E.length:Int) by omega),cond_false,List.take_length])
  have h0:y++genR (E.take 0) r=y:=by simp [genR]
  simp only [h0] at h
  exact h
theorem ref_gen {E X:List Rw} (he:E.length≤1000) (hx:X.length≤1000):loopM (ref_LoopStep_l2 (E,X,())) (([]:List Rw),(0:Int),())=some (.inl (genL E X,())):=by
  exact loopM_fold' (f:=ref_LoopStep_l2 (E,X,())) X.length (fun i=>genL E (X.take i)) (.inl (genL E X,())) (fun i hi=>by
    have hg:=genL_length E (X.take i)
    rw [List.length_take] at hg
    have hm:min i X.length*(E.length+1)≤1000*1001:=Nat.mul_le_mul (by omega) (by omega)
    have hll:(genL E (X.take i)).length+1≤4000000000000:=by omega
    unfold ref_LoopStep_l2
    rw [genL_take hi]
    simp only [dcT (show (i:Int) < (X.length:Int) by omega),cond_true,getI_nat,List.getElem?_eq_getElem hi,Option.bind_some,wrapS (show i < 9223372036854775807 by omega),show ∀ x:Rw,([x]:List Rw).length=1 from fun _=>rfl,room24 hll,Bool.and_true]
    rw [ref_gen_l1 he (by rw [List.length_append,List.length_singleton]; omega)]
    simp only [Option.bind_some,Sum.elim_inl,List.append_assoc]
    rfl) (by
    unfold ref_LoopStep_l2
    simp only [dcF (show ¬ (X.length:Int) < (X.length:Int) by omega),cond_false,List.take_length])
theorem tot_pos (k:Ky):∀ (L:List Rw) (T:Ky→Int),(∀ r∈L,r.2.2.1=1)→0≤T k→T k+L.length≤1000000000→(0 < tot L T k↔0 < T k∨∃ r∈L,kyOf r=k)
  | [],T,_,_,_=>⟨.inl,fun h=>h.elim id fun ⟨r,hr,_⟩=>(nomatch hr)⟩
  | r :: L,T,h1,h0,hb=>by
    have hr:=h1 r List.mem_cons_self
    simp only [List.length_cons] at hb
    have hT:(if k=kyOf r then W (T (kyOf r)+r.2.2.1) else T k)=if k=kyOf r then T k+1 else T k:=by
      by_cases hk:k=kyOf r
      · rw [if_pos hk,if_pos hk,←hk,hr]
        exact wrap64 (by omega) (by omega)
      · rw [if_neg hk,if_neg hk]
    have ih:=tot_pos k L (fun j=>if j=kyOf r then W (T (kyOf r)+r.2.2.1) else T j) (fun q hq=>h1 q (List.mem_cons_of_mem _ hq)) (by
      show 0≤(if k=kyOf r then W (T (kyOf r)+r.2.2.1) else T k)
      rw [hT]; split <;> omega) (by
      show (if k=kyOf r then W (T (kyOf r)+r.2.2.1) else T k)+_≤_
      rw [hT]; split <;> omega)
    show 0 < tot L _ k↔_
    rw [ih]
    show (0 < (if k=kyOf r then W (T (kyOf r)+r.2.2.1) else T k)∨_)↔_
    rw [hT]
    by_cases hk:k=kyOf r
    · rw [if_pos hk]
      exact ⟨fun _=>.inr ⟨r,List.mem_cons_self,hk.symm⟩,fun _=>.inl (by omega)⟩
    · rw [if_neg hk]
      constructor
      · rintro (h | ⟨q,hq,e⟩)
        · exact .inl h
        · exact .inr ⟨q,List.mem_cons_of_mem _ hq,e⟩
      · rintro (h | ⟨q,hq,e⟩)
        · exact .inl h
        · rcases List.mem_cons.1 hq with rfl | hq
          · exact absurd e.symm hk
          · exact .inr ⟨q,hq,e⟩
theorem inR_one {n:Int} (h:n=1):InR n:=by subst h; unfold InR W; decide
theorem ref_step_eq {E X:Bg} {S:Ky→Prop} (hX:Set1 X S) (he:E.length≤1000) (hx:X.length≤1000):ref_LoopStep (E.map toR,X.map toR,())=some ((stepB E X).map toR,()):=by
  have hlen:=genL_length (E.map toR) (X.map toR)
  rw [List.length_map,List.length_map] at hlen
  have hm:X.length*(E.length+1)≤1000*1001:=Nat.mul_le_mul hx (by omega)
  have hone:∀ r∈genL (E.map toR) (X.map toR),r.2.2.1=1:=by
    intro r hr
    unfold genL at hr
    obtain ⟨q,hq,hr⟩:=List.mem_flatMap.1 hr
    rcases List.mem_cons.1 hr with rfl | hr
    · obtain ⟨p,hp,rfl⟩:=List.mem_map.1 hq
      exact ((hX.mem p).1 hp).2
    · unfold genR at hr
      obtain ⟨e,-,rfl⟩:=List.mem_map.1 hr
      rfl
  unfold ref_LoopStep
  rw [ref_gen (by rw [List.length_map]; omega) (by rw [List.length_map]; omega)]
  simp only [Option.bind_some,Sum.elim_inl]
  rw [ref_There_eq (fun r hr=>inR_one (hone r hr)) (by omega)]
  simp only [Option.bind_some]
  congr 3
  have hT:=bagOf_is (genL (E.map toR) (X.map toR)) (m:=[]) (T:=fun _=>0) ⟨List.Pairwise.nil,fun _=>rfl,fun p hp=>(nomatch hp)⟩
  refine set1_ext (there_is hT.rise) (stepB_is hX) fun k=>?_
  rw [hT.num k,tot_pos k _ _ hone (Int.le_refl _) (by show (0:Int)+_≤_; omega)]
  constructor
  · rintro (h | ⟨r,hr,rfl⟩)
    · exact absurd h (by simp)
    · unfold genL at hr
      obtain ⟨q,hq,hr⟩:=List.mem_flatMap.1 hr
      obtain ⟨p,hp,rfl⟩:=List.mem_map.1 hq
      rcases List.mem_cons.1 hr with rfl | hr
      · exact .inl ((hX.mem p).1 hp).1
      · unfold genR at hr
        obtain ⟨e,he',rfl⟩:=List.mem_map.1 hr
        obtain ⟨h1,h2⟩:=List.mem_filter.1 he'
        obtain ⟨e0,h3,rfl⟩:=List.mem_map.1 h1
        exact .inr ⟨p,hp,e0,h3,(eq_of_beq h2:(toR e0).1=(toR p).1),rfl⟩
  · rintro (h | ⟨p,hp,e,he',h1,rfl⟩)
    · refine .inr ⟨toR (k,1),?_,rfl⟩
      unfold genL
      exact List.mem_flatMap.2 ⟨toR (k,1),List.mem_map.2 ⟨(k,1),(hX.mem (k,1)).2 ⟨h,rfl⟩,rfl⟩,List.mem_cons_self⟩
    · refine .inr ⟨(e.1.2.1,p.1.2.1,1,()),?_,rfl⟩
      unfold genL
      refine List.mem_flatMap.2 ⟨toR p,List.mem_map.2 ⟨p,hp,rfl⟩,List.mem_cons_of_mem _ ?_⟩
      unfold genR
      exact List.mem_map.2 ⟨toR e,List.mem_filter.2 ⟨List.mem_map.2 ⟨e,he',rfl⟩,beq_iff_eq.2 (show (toR e).1=(toR p).1 from h1)⟩,rfl⟩
end

section
open Go Go.Abs

theorem loopM_brk {σ β:Type} {f:σ→Option (σ ⊕ β)} (n:Nat) (s:Nat→σ) (p:Nat→Bool) (b e:β) (h:∀ i,i < n→(∀ j,j < i→p j=false)→f (s i)=some (if p i=true then .inr b else .inl (s (i+1)))) (hend:(∀ j,j < n→p j=false)→f (s n)=some (.inr e)) {s0:σ} (h0:s 0=s0) :
    loopM f s0=some (if (List.range n).any p=true then b else e):=by
  have key:∀ k i,i+k=n→(∀ j,j < i→p j=false)→loopM f (s i)=some (if (List.range' i k).any p=true then b else e):=by
    intro k
    induction k with
    | zero =>
      intro i hi hp
      have e1:i=n:=by omega
      subst e1
      rw [loopM_inr (hend hp)]; rfl
    | succ k ih =>
      intro i hi hp
      have hs:=h i (by omega) hp
      rw [List.range'_succ,List.any_cons]
      cases hg:p i with
      | true =>
        rw [hg,if_pos rfl] at hs
        rw [loopM_inr hs]; rfl
      | false =>
        rw [hg,if_neg (by simp)] at hs
        rw [loopM_inl hs,Bool.false_or]
        exact ih (i+1) (by omega) fun j hj=>by
          rcases Nat.lt_or_ge j i with h1 | h1
          · exact hp j h1
          · have:j=i:=by omega
            subst this; exact hg
  have:=key n 0 (by omega) fun j hj=>by omega
  rw [←h0,List.range_eq_range']
  exact this
def Prod1 (m:Bg):Prop:=∃ S,Set1 m S
def atI (E X:Bg):Nat→Bg
  | 0=>X
  | i+1=>stepB E (atI E X i)
theorem atI_prod {E X:Bg} (h:Prod1 X):∀ i,Prod1 (atI E X i)
  | 0=>h
  | i+1=>by
    obtain ⟨S,hS⟩:=atI_prod (E:=E) h i
    exact ⟨_,stepB_is hS⟩
def rdE (t0:Int) (E X:Bg) (i:Nat):Df:=([t0,(i:Int)],(atI E X i).map toR,())
def rdL (t0:Int) (E X:Bg) (n:Nat):List Df:=(List.range n).map (rdE t0 E X)
theorem rdL_succ (t0:Int) (E X:Bg) (i:Nat):rdL t0 E X (i+1)=rdL t0 E X i++[rdE t0 E X i]:=by
  unfold rdL
  rw [List.range_succ,List.map_append]; rfl
theorem rdL_len (t0:Int) (E X:Bg) (i:Nat):(rdL t0 E X i).length=i:=by unfold rdL; rw [List.length_map,List.length_range]
def bigI (E X:Bg) (i:Nat):Bool:=decide ((atI E X i).length > 128)
abbrev RdB:=(List Df × Int × Unit) ⊕ ((List Df × Unit) ⊕ Empty)
theorem rounds_l3 {x:List Df × List Df × Int × Unit} {n:Nat} (hn:x.2.2.1=(n:Int)) (hn8:n≤8) {t:List Int} {t0:Int} (ht:getI t (0:Int)=some t0) {E X:Bg} (hX:Prod1 X) (acc:List Df) (ha:acc.length≤100000) :
    loopM (loop_Rounds_l3 x t (E,())) (acc,X,(0:Int),())=some (if (List.range (n+1)).any (bigI E X)=true then (.inl ([],1,()):RdB) else .inr (.inl (acc++rdL t0 E X (n+1),()))):=by
  refine loopM_brk (n+1) (fun i=>(acc++rdL t0 E X i,atI E X i,(i:Int),())) (bigI E X) _ _ (fun i hi _=>?_) (fun _=>?_) (by simp [rdL,atI])
  · obtain ⟨S,hS⟩:=atI_prod (E:=E) hX i
    unfold loop_Rounds_l3 bigI
    rw [hn]
    simp only [dcT (show (i:Int)≤(n:Int) by omega),cond_true]
    by_cases hb:(atI E X i).length > 128
    · rw [dcT (show ((atI E X i).length:Int) > 128 by omega),decide_eq_true hb]; rfl
    · rw [dcF (show ¬ ((atI E X i).length:Int) > 128 by omega),decide_eq_false hb,ht,rows_eq hS.rise (by omega)]
      simp only [cond_false,Option.bind_some]
      have hl:=rdL_len t0 E X i
      have hone:∀ y:Df,([y]:List Df).length=1:=fun _=>rfl
      rw [hone,room_ok (show (acc++rdL t0 E X i).length+1≤140737488355328 by rw [List.length_append]; omega) (show ((acc++rdL t0 E X i).length+1)*48≤140737488355328 by rw [List.length_append]; omega),loop_step_eq hS]
      simp only [Option.bind_some,wrapS (show i < 9223372036854775807 by omega)]
      rw [rdL_succ,←List.append_assoc]; rfl
  · unfold loop_Rounds_l3
    rw [hn]
    simp only [dcF (show ¬ ((n+1:Nat):Int)≤(n:Int) by omega),cond_false]
theorem ref_rounds_l1 {x:List Df × List Df × Int × Unit} {n:Nat} (hn:x.2.2.1=(n:Int)) (hn8:n≤8) {t:List Int} {t0:Int} (ht:getI t (0:Int)=some t0) {E X:Bg} (hE:E.length≤1000) (hX:Prod1 X) (acc:List Df) (ha:acc.length≤100000) :
    loopM (ref_LoopRounds_l1 x (E.map toR,()) t) (acc,X.map toR,(0:Int),())=some (if (List.range (n+1)).any (bigI E X)=true then (.inl ([],1,()):RdB) else .inr (.inl (acc++rdL t0 E X (n+1),()))):=by
  refine loopM_brk (n+1) (fun i=>(acc++rdL t0 E X i,(atI E X (i - 1)).map toR,(i:Int),())) (bigI E X) _ _ (fun i hi hp=>?_) (fun _=>?_) (by simp [rdL,atI])
  · have hz:(((cond (decide ((i:Int) > (0:Int))) ((ref_LoopStep (E.map toR,(atI E X (i - 1)).map toR,())).bind fun r51=>(some (Sum.inl r51))) (some (Sum.inl ((atI E X (i - 1)).map toR,())))):Option (((List Rw) × Unit) ⊕ Empty)))=some (.inl ((atI E X i).map toR,())):=by
      cases i with
      | zero=>rfl
      | succ j =>
        obtain ⟨S,hS⟩:=atI_prod (E:=E) hX j
        have hpj:=hp j (by omega)
        unfold bigI at hpj
        have hlj:¬ (atI E X j).length > 128:=of_decide_eq_false hpj
        rw [dcT (show ((j+1:Nat):Int) > 0 by omega),cond_true,Nat.add_sub_cancel,ref_step_eq hS hE (by omega)]; rfl
    unfold ref_LoopRounds_l1 bigI ref_Large
    rw [hn]
    simp only [dcT (show (i:Int)≤(n:Int) by omega),cond_true]
    rw [hz]
    simp only [Option.bind_some,Sum.elim_inl,List.length_map]
    by_cases hb:(atI E X i).length > 128
    · rw [dcT (show ((atI E X i).length:Int) > 128 by omega),decide_eq_true hb]; rfl
    · rw [dcF (show ¬ ((atI E X i).length:Int) > 128 by omega),decide_eq_false hb,ht]
      simp only [cond_false,Option.bind_some]
      have hl:=rdL_len t0 E X i
      have hone:∀ y:Df,([y]:List Df).length=1:=fun _=>rfl
      rw [hone,room_ok (show (acc++rdL t0 E X i).length+1≤140737488355328 by rw [List.length_append]; omega) (show ((acc++rdL t0 E X i).length+1)*48≤140737488355328 by rw [List.length_append]; omega)]
      simp only [wrapS (show i < 9223372036854775807 by omega)]
      rw [rdL_succ,←List.append_assoc]; rfl
  · unfold ref_LoopRounds_l1
    rw [hn]
    simp only [dcF (show ¬ ((n+1:Nat):Int)≤(n:Int) by omega),cond_false]
def wayB (D:List Df) (t:List Int):Bg:=thereB (standB D t)
theorem wayB_prod (D:List Df) (t:List Int):Prod1 (wayB D t):=⟨_,there_is (show Rise KT (standB D t) from bag_rise _)⟩
theorem wayB_len {D:List Df} (g:Good D) (t:List Int):(wayB D t).length≤128:=Nat.le_trans (thereB_length _) (standB_le g t)
theorem ref_way {D:List Df} (t:List Int) (hl:(standB D t).length≤1000):ref_There ((standB D t).map toR,())=some ((wayB D t).map toR,()):=by
  have hin:∀ r∈(standB D t).map toR,InR r.2.2.1:=fun r hr=>by
    obtain ⟨p,hp,rfl⟩:=List.mem_map.1 hr
    have h1:p∈bagOf ((standR D t).map (sc 1)) []:=hp
    have h2:=(bag_mem (bag0 ((standR D t).map (sc 1))) p).1 h1
    rw [tot_lin p.1 _ (fun _=>0) (show InR 0 from W_zero)] at h2
    show InR p.2
    rw [←h2.2]; exact inR_W _
  rw [ref_There_eq hin (by rw [List.length_map]; omega)]
  have e:bagOf ((standB D t).map toR) []=standB D t:=by
    have h1:((standB D t).map toR).map (sc 1)=(standB D t).map toR:=by
      have:∀ r∈(standB D t).map toR,sc 1 r=r:=fun r hr=>by
        unfold sc
        rw [Int.one_mul,hin r hr]
      rw [List.map_congr_left this,List.map_id']
    rw [←h1]
    exact bag_back _
  rw [e]; rfl
def rdT (D1 D2:List Df) (n:Nat) (t:List Int):List Df:=rdL (t.headD 0) (wayB D1 t) (wayB D2 t) (n+1)
def bigT (D1 D2:List Df) (n:Nat) (t:List Int):Bool:=(List.range (n+1)).any (bigI (wayB D1 t) (wayB D2 t))
def rdS (D1 D2:List Df) (n:Nat) (l:List (List Int)):List Df:=l.flatMap (rdT D1 D2 n)
theorem rdS_len (D1 D2:List Df) (n:Nat):∀ l:List (List Int),(rdS D1 D2 n l).length=l.length*(n+1)
  | []=>by simp [rdS]
  | t :: l=>by
    have ih:=rdS_len D1 D2 n l
    unfold rdS at ih ⊢
    rw [List.flatMap_cons,List.length_append,ih,List.length_cons,Nat.add_mul,Nat.one_mul,Nat.add_comm]
    congr 1
    exact rdL_len _ _ _ _
theorem head_get {t:List Int} (h:t.length=1):getI t (0:Int)=some (t.headD 0):=by
  cases t with
  | nil=>cases h
  | cons a r=>rfl
theorem rounds_l4 {D1 D2:List Df} {n:Nat} (hn8:n≤8) (g1:Good D1) (g2:Good D2) (h1:∀ d∈tidyL D1,d.1.length=1) (h2:∀ d∈tidyL D2,d.1.length=1) (t1:Good (tidyL D1)) (t2:Good (tidyL D2)) (e1 e2:Int) {l:List (List Int)} (hl:l.length≤1000) (hc:∀ t∈l,chk t=0∧t.length=1) :
    loopM (loop_Rounds_l4 (D1,D2,(n:Int),()) (l,()) (tidyL D1,e1,()) (tidyL D2,e2,())) (([]:List Df),(0:Int),())=some (if (List.range l.length).any (fun j=>bigT D1 D2 n (l.getD j []))=true then (.inl ([],1,()):RdB) else .inr (.inl (rdS D1 D2 n l,()))):=by
  refine loopM_brk l.length (fun j=>(rdS D1 D2 n (l.take j),(j:Int),())) (fun j=>bigT D1 D2 n (l.getD j [])) _ _ (fun j hj _=>?_) (fun _=>?_) rfl
  · obtain ⟨c1,c2⟩:=hc _ (List.getElem_mem hj)
    have hsl:=rdS_len D1 D2 n (l.take j)
    rw [List.length_take] at hsl
    have hm:min j l.length*(n+1)≤1000*9:=Nat.mul_le_mul (by omega) (by omega)
    rw [getD_at hj]
    unfold loop_Rounds_l4
    simp only [dcT (show (j:Int) < (l.length:Int) by omega),cond_true,getI_nat,List.getElem?_eq_getElem hj,Option.bind_some,wrapS (show j < 9223372036854775807 by omega)]
    rw [stands_eq t1 c1 (fun d hd=>by rw [h1 d hd,c2]),standB_tidy]
    simp only [Option.bind_some]
    rw [loop_there_eq (show Rise KT (standB D1 l[j]) from bag_rise _)]
    simp only [Option.bind_some]
    rw [stands_eq t2 c1 (fun d hd=>by rw [h2 d hd,c2]),standB_tidy]
    simp only [Option.bind_some]
    rw [loop_there_eq (show Rise KT (standB D2 l[j]) from bag_rise _)]
    simp only [Option.bind_some]
    rw [show thereB (standB D1 l[j])=wayB D1 l[j] from rfl,show thereB (standB D2 l[j])=wayB D2 l[j] from rfl,rounds_l3 (x:=(D1,D2,(n:Int),())) rfl hn8 (head_get c2) (wayB_prod D2 l[j]) _ (by omega)]
    rw [List.take_succ_eq_append_getElem hj]
    unfold bigT
    cases (List.range (n+1)).any (bigI (wayB D1 l[j]) (wayB D2 l[j])) with
    | true=>rfl
    | false =>
      rw [if_neg (by simp),if_neg (by simp)]
      simp only [Option.bind_some,Sum.elim_inr,Sum.elim_inl]
      unfold rdS
      rw [List.flatMap_append,List.flatMap_singleton]; rfl
  · unfold loop_Rounds_l4
    simp only [dcF (show ¬ (l.length:Int) < (l.length:Int) by omega),cond_false,List.take_length]
theorem ref_rounds_l2 {D1 D2:List Df} {n:Nat} (hn8:n≤8) (g1:Good D1) (g2:Good D2) {l:List (List Int)} (hl:l.length≤1000) (hc:∀ t∈l,chk t=0∧t.length=1) :
    loopM (ref_LoopRounds_l2 (D1,D2,(n:Int),()) (l,())) (([]:List Df),(0:Int),())=some (if (List.range l.length).any (fun j=>bigT D1 D2 n (l.getD j []))=true then (.inl ([],1,()):RdB) else .inr (.inl (rdS D1 D2 n l,()))):=by
  refine loopM_brk l.length (fun j=>(rdS D1 D2 n (l.take j),(j:Int),())) (fun j=>bigT D1 D2 n (l.getD j [])) _ _ (fun j hj _=>?_) (fun _=>?_) rfl
  · obtain ⟨c1,c2⟩:=hc _ (List.getElem_mem hj)
    have hsl:=rdS_len D1 D2 n (l.take j)
    rw [List.length_take] at hsl
    have hm:min j l.length*(n+1)≤1000*9:=Nat.mul_le_mul (by omega) (by omega)
    have b1:=standB_le g1 l[j]
    have b2:=standB_le g2 l[j]
    have w1:=wayB_len g1 l[j]
    rw [getD_at hj]
    unfold ref_LoopRounds_l2
    simp only [dcT (show (j:Int) < (l.length:Int) by omega),cond_true,getI_nat,List.getElem?_eq_getElem hj,Option.bind_some,wrapS (show j < 9223372036854775807 by omega)]
    rw [ref_stands_eq g1.fine]
    simp only [Option.bind_some]
    rw [ref_way _ (by omega),ref_stands_eq g2.fine]
    simp only [Option.bind_some]
    rw [ref_way _ (by omega)]
    simp only [Option.bind_some]
    rw [ref_rounds_l1 (x:=(D1,D2,(n:Int),())) rfl hn8 (head_get c2) (by omega) (wayB_prod D2 l[j]) _ (by omega)]
    rw [List.take_succ_eq_append_getElem hj]
    unfold bigT
    cases (List.range (n+1)).any (bigI (wayB D1 l[j]) (wayB D2 l[j])) with
    | true=>rfl
    | false =>
      rw [if_neg (by simp),if_neg (by simp)]
      simp only [Option.bind_some,Sum.elim_inr,Sum.elim_inl]
      unfold rdS
      rw [List.flatMap_append,List.flatMap_singleton]; rfl
  · unfold ref_LoopRounds_l2
    simp only [dcF (show ¬ (l.length:Int) < (l.length:Int) by omega),cond_false,List.take_length]
theorem cmp_two {a b i j:Int} (h:a < b∨(a=b∧i < j)):cmpL [a,i] [b,j] < 0:=by
  unfold cmpL
  rcases h with h | ⟨h,h2⟩
  · rw [if_pos h]; decide
  · subst h
    rw [if_neg (by omega),if_neg (by omega)]
    unfold cmpL
    rw [if_pos h2]; decide
theorem cmp_one {t u:List Int} (ht:t.length=1) (hu:u.length=1) (h:cmpL t u < 0):t.headD 0 < u.headD 0:=by
  match t,u,ht,hu with
  | [a],[b],_,_ =>
    show a < b
    unfold cmpL at h
    split at h
    · assumption
    · split at h
      · omega
      · unfold cmpL at h; omega
theorem rdS_ok {D1 D2:List Df} {n:Nat} (hn8:n≤8) {l:List (List Int)} (hl:l.length≤128) (hu:up l) (hc:∀ t∈l,chk t=0∧t.length=1) (hb:¬ (List.range l.length).any (fun j=>bigT D1 D2 n (l.getD j []))=true):SOK (rdS D1 D2 n l):=by
  have hsm:∀ t∈l,∀ i,i < n+1→(atI (wayB D1 t) (wayB D2 t) i).length≤128:=fun t ht i hi=>by
    obtain ⟨j,hj,rfl⟩:=List.mem_iff_getElem.1 ht
    rcases Nat.lt_or_ge 128 (atI (wayB D1 l[j]) (wayB D2 l[j]) i).length with h1 | h1
    · refine absurd (List.any_eq_true.2 ⟨j,List.mem_range.2 hj,?_⟩) hb
      rw [getD_at hj]
      exact List.any_eq_true.2 ⟨i,List.mem_range.2 hi,decide_eq_true h1⟩
    · exact h1
  have hmem:∀ d∈rdS D1 D2 n l,∃ t∈l,∃ i,i < n+1∧d=rdE (t.headD 0) (wayB D1 t) (wayB D2 t) i:=fun d hd=>by
    obtain ⟨t,ht,hd⟩:=List.mem_flatMap.1 hd
    obtain ⟨i,hi,rfl⟩:=List.mem_map.1 hd
    exact ⟨t,ht,i,List.mem_range.1 hi,rfl⟩
  have hlen:=rdS_len D1 D2 n l
  have hm:l.length*(n+1)≤128*9:=Nat.mul_le_mul hl (by omega)
  refine ⟨by omega,?_,fun d hd=>?_,⟨2,fun d hd=>?_⟩,?_⟩
  · have h1:=numD_mul (n:=128) (D:=rdS D1 D2 n l) fun d hd=>by
      obtain ⟨t,ht,i,hi,rfl⟩:=hmem d hd
      show ((atI (wayB D1 t) (wayB D2 t) i).map toR).length≤128
      rw [List.length_map]; exact hsm t ht i hi
    omega
  · obtain ⟨t,ht,i,hi,rfl⟩:=hmem d hd
    obtain ⟨c1,c2⟩:=hc t ht
    show chk [t.headD 0,(i:Int)]=0
    have h3:=(chk_zero c1).2.2 0 (t.headD 0) (by
      cases t with
      | nil=>cases c2
      | cons a r=>rfl)
    have ha:bad (t.headD 0)=false:=by unfold bad; rw [decide_eq_false (by omega),decide_eq_false (by omega)]; rfl
    have hi2:bad (i:Int)=false:=by unfold bad; rw [decide_eq_false (by omega),decide_eq_false (by omega)]; rfl
    unfold chk
    rw [if_neg (by simp),List.any_cons,List.any_cons,ha,hi2]; rfl
  · obtain ⟨t,ht,i,hi,rfl⟩:=hmem d hd
    rfl
  · unfold rdS
    rw [List.pairwise_flatMap]
    refine ⟨fun t ht=>?_,?_⟩
    · unfold rdT rdL
      rw [List.pairwise_map]
      exact List.pairwise_lt_range.imp fun {a b} hab=>cmp_two (.inr ⟨rfl,by omega⟩)
    · refine List.Pairwise.imp_of_mem (fun {a b} ha hb hab x hx y hy=>?_) hu
      obtain ⟨i,hi,rfl⟩:=List.mem_map.1 hx
      obtain ⟨j,hj,rfl⟩:=List.mem_map.1 hy
      exact cmp_two (.inl (cmp_one (hc a ha).2 (hc b hb).2 hab))
end

end Go.Proofs.Tryz
