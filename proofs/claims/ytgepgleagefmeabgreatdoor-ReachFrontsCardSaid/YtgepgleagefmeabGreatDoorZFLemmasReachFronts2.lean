/- Lemmas on functions of the program, by name. -/
import Derived.Test.YtgepgleagefmeabGreatDoorZFFuns
import Derived.Test.YtgepgleagefmeabGreatDoorAbsSums
import Derived.Test.YtgepgleagefmeabGreatDoorZFLemmasReachFronts1
namespace Go.Proofs.Tryz
section
open Go Go.Abs

def underL:List Int→List Int→Bool
  | a :: r,b :: s=>decide (a≤b) && underL r s
  | _,_=>true
theorem q57tf:∀ a:List Int,underL a a=true
  | []=>rfl
  | a :: r=>by simp [underL,q57tf r]
theorem qthqc:∀ {a b c:List Int},a.length=b.length→b.length=c.length→underL a b=true→underL b c=true→underL a c=true
  | [],_,_,_,_,_,_=>rfl
  | a :: r,[],_,h,_,_,_=>by simp at h
  | a :: r,b :: s,[],_,h,_,_=>by simp at h
  | a :: r,b :: s,c :: t,h1,h2,h3,h4=>by
    simp only [underL,Bool.and_eq_true,decide_eq_true_eq,List.length_cons] at *
    exact ⟨by omega,qthqc (by omega) (by omega) h3.2 h4.2⟩
theorem qefpq:∀ {a b:List Int},a.length=b.length→underL a b=true→a=b∨(cmpL a b < 0∧a.sum < b.sum)
  | [],[],_,_=>.inl rfl
  | [],_ :: _,h,_=>by simp at h
  | _ :: _,[],h,_=>by simp at h
  | a :: r,b :: s,h,hu=>by
    simp only [underL,Bool.and_eq_true,decide_eq_true_eq,List.length_cons] at *
    simp only [cmpL,List.sum_cons]
    rcases qefpq (a:=r) (b:=s) (by omega) hu.2 with e | ⟨h1,h2⟩
    · subst e
      by_cases hab:a=b
      · left; rw [hab]
      · right; rw [if_pos (by omega)]; exact ⟨by decide,by omega⟩
    · right
      by_cases hab:a < b
      · rw [if_pos hab]; exact ⟨by decide,by omega⟩
      · rw [if_neg hab,if_neg (by omega)]; exact ⟨h1,by omega⟩
theorem qzxqn {a b:List Int} (hl:a.length=b.length) (ha:a.length≤1000000):qhx9k (a,b,())=some (underL a b,()):=by
  have key:∀ k i,i+k=a.length→(loopM (qnlgh (a,b,())) ((i:Int),())).bind (Sum.elim (fun z4=>(some z4)) (Sum.elim (fun z5=>(some (true,()))) Empty.elim))=some (underL (a.drop i) (b.drop i),()):=by
    intro k
    induction k with
    | zero =>
      intro i hi
      rw [q7xfb (b:=.inr (.inl ())) (by
        unfold qnlgh
        simp only [dcF (show ¬ (i:Int) < (a.length:Int) by omega),cond_false])]
      rw [List.drop_of_length_le (by omega),List.drop_of_length_le (by omega)]; rfl
    | succ k ih =>
      intro i hi
      have hia:i < a.length:=by omega
      have hib:i < b.length:=by omega
      have hst:qnlgh (a,b,()) ((i:Int),())=cond (decide (a[i] > b[i])) (some (.inr (.inl (false,())))) (some (.inl (((i+1:Nat):Int),()))):=by
        unfold qnlgh
        simp only [dcT (show (i:Int) < (a.length:Int) by omega),cond_true,q1j71 hia,q1j71 hib,Option.bind_some,wrapS (show i < 9223372036854775807 by omega)]
      rw [List.drop_eq_getElem_cons hia,List.drop_eq_getElem_cons hib]
      by_cases he:a[i]≤b[i]
      · rw [dcF (show ¬ a[i] > b[i] by omega),cond_false] at hst
        rw [q2k3l hst,ih (i+1) (by omega)]
        simp only [underL,decide_eq_true he,Bool.true_and]
      · rw [dcT (show a[i] > b[i] by omega),cond_true] at hst
        rw [q7xfb hst]
        simp only [underL,decide_eq_false he,Bool.false_and]; rfl
  unfold qhx9k
  exact key a.length 0 (by omega)
def leB (a b:List Int):Bool:=decide (a.length=b.length) && (decide (chk a=0) && (decide (chk b=0) && underL a b))
theorem leB_of {a b:List Int} (h:a.length=b.length) (ha:chk a=0) (hb:chk b=0):leB a b=underL a b:=by
  unfold leB
  rw [decide_eq_true h,decide_eq_true ha,decide_eq_true hb]; rfl
theorem qd1xh (a b:List Int):qwm8g (a,b,())=some (leB a b,()):=by
  unfold qwm8g leB
  simp only [qs2ti,Option.bind_some,qerg8]
  by_cases h:a.length=b.length
  · rw [if_pos (by omega),decide_eq_true h]
    by_cases h2:chk a=0
    · rw [if_pos h2,decide_eq_true h2]
      by_cases h3:chk b=0
      · rw [if_pos h3,decide_eq_true h3]
        have h4:=(qvov9 h2).2.1
        have key:∀ k i,i+k=a.length→(loopM (qums5 (a,b,())) ((i:Int),())).bind (Sum.elim (fun z6=>(some z6)) (Sum.elim (fun z7=>(some (true,()))) Empty.elim))=some (underL (a.drop i) (b.drop i),()):=by
          intro k
          induction k with
          | zero =>
            intro i hi
            rw [q7xfb (b:=.inr (.inl ())) (by
              unfold qums5
              simp only [dcF (show ¬ (i:Int) < (a.length:Int) by omega),cond_false])]
            rw [List.drop_of_length_le (by omega),List.drop_of_length_le (by omega)]; rfl
          | succ k ih =>
            intro i hi
            have hia:i < a.length:=by omega
            have hib:i < b.length:=by omega
            have hst:qums5 (a,b,()) ((i:Int),())=cond (decide (a[i] > b[i])) (some (.inr (.inl (false,())))) (some (.inl (((i+1:Nat):Int),()))):=by
              unfold qums5
              simp only [dcT (show (i:Int) < (a.length:Int) by omega),cond_true,q1j71 hia,q1j71 hib,Option.bind_some,wrapS (show i < 9223372036854775807 by omega)]
            rw [List.drop_eq_getElem_cons hia,List.drop_eq_getElem_cons hib]
            by_cases he:a[i]≤b[i]
            · rw [dcF (show ¬ a[i] > b[i] by omega),cond_false] at hst
              rw [q2k3l hst,ih (i+1) (by omega)]
              simp only [underL,decide_eq_true he,Bool.true_and]
            · rw [dcT (show a[i] > b[i] by omega),cond_true] at hst
              rw [q7xfb hst]
              simp only [underL,decide_eq_false he,Bool.false_and]; rfl
        exact key a.length 0 (by omega)
      · rw [if_neg h3,decide_eq_false h3]; rfl
    · rw [if_neg h2,decide_eq_false h2]; rfl
  · rw [if_neg (by omega),decide_eq_false h]; rfl
end

section
open Go Go.Abs

noncomputable def cmpS (a b:List Int):Option Int:=(q5twe (a,b,())).map fun r=>r.1
theorem qczrm {a b:List Int} (ha:a.length≤1000000):cmpS a b=some (cmpL a b):=by
  unfold cmpS; rw [qx54q ha]; rfl
theorem q33ko {a b:List Int} (ha:a.length≤1000000):ltF cmpS a b↔cmpL a b < 0:=by
  unfold ltF
  rw [qczrm ha]
  constructor
  · rintro ⟨v,h1,h2⟩; cases h1; exact h2
  · exact fun h=>⟨_,rfl,h⟩
def insD (t:List Int):List (List Int)→List (List Int)
  | []=>[t]
  | u :: l=>if cmpL u t < 0 then u :: insD t l else t :: u :: l
def sortD:List (List Int)→List (List Int)
  | []=>[]
  | t :: l=>insD t (sortD l)
theorem qa0ag (t:List Int):∀ l,(insD t l).Perm (t :: l)
  | []=>List.Perm.refl _
  | u :: l=>by
    simp only [insD]
    split
    · exact ((qa0ag t l).cons u).trans (List.Perm.swap t u l)
    · exact List.Perm.refl _
theorem ql4hz:∀ l,(sortD l).Perm l
  | []=>List.Perm.refl _
  | t :: l=>(qa0ag t (sortD l)).trans ((ql4hz l).cons t)
theorem qmxwk {t:List Int}:∀ {l:List (List Int)},l.Pairwise (fun a b=>¬ cmpL b a < 0)→(insD t l).Pairwise fun a b=>¬ cmpL b a < 0
  | [],_=>by simp [insD]
  | u :: l,h=>by
    have h1:=List.pairwise_cons.1 h
    simp only [insD]
    split
    · rename_i hu
      refine List.pairwise_cons.2 ⟨fun v hv=>?_,qmxwk h1.2⟩
      rcases List.mem_cons.1 ((qa0ag t l).mem_iff.1 hv) with rfl | hv
      · intro h; rw [qbq04] at h; omega
      · exact h1.1 v hv
    · rename_i hu
      refine List.pairwise_cons.2 ⟨fun v hv=>?_,h⟩
      rcases List.mem_cons.1 hv with rfl | hv
      · exact hu
      · intro hvt
        rw [qbq04] at hu
        have h2:=h1.1 v hv
        rw [qbq04] at h2
        by_cases e:cmpL t u=0
        · rw [cmpL_eq.1 e] at hvt; rw [qbq04] at hvt; omega
        · exact absurd (qzobx hvt (show cmpL t u < 0 by omega)) (by rw [qbq04]; omega)
theorem qgq1g:∀ l:List (List Int),(sortD l).Pairwise fun a b=>¬ cmpL b a < 0
  | []=>List.Pairwise.nil
  | t :: l=>qmxwk (qgq1g l)
theorem qq61f {l:List (List Int)} (h:∀ t∈l,t.length≤1000000):sortP cmpS l=some (sortD l):=by
  refine qgxlw ⟨fun x hx y _=>⟨_,qczrm (h x hx)⟩,fun x hx hlt=>qjd07 x ((q33ko (h x hx)).1 hlt),fun x hx y hy z _ h1 h2=>(q33ko (h x hx)).2 (qzobx ((q33ko (h x hx)).1 h1) ((q33ko (h y hy)).1 h2)),fun x hx y hy h1 h2=>?_⟩ (ql4hz l) ?_
  · have a1:¬ cmpL x y < 0:=fun e=>h1 ((q33ko (h x hx)).2 e)
    have a2:¬ cmpL y x < 0:=fun e=>h2 ((q33ko (h y hy)).2 e)
    rw [qbq04] at a2
    exact cmpL_eq.1 (by omega)
  · unfold Srt
    have hm:∀ t∈sortD l,t.length≤1000000:=fun t ht=>h t ((ql4hz l).mem_iff.1 ht)
    refine (List.Pairwise.and_mem.1 (qgq1g l)).imp fun {a b} hab hlt=>hab.2.2 ((q33ko (hm b hab.2.1)).1 hlt)
def keepS (K:List (List Int)) (t:List Int):List (List Int):=if (K.any fun u=>underL u t)=true then K else K++[t]
def keepF (S:List (List Int)):List (List Int):=S.foldl keepS []
theorem qlddg (S:List (List Int)) (t:List Int):keepF (S++[t])=keepS (keepF S) t:=by unfold keepF; rw [List.foldl_append]; rfl
theorem q12jo:∀ (S:List (List Int)) (k:Nat),k≤S.length→(keepF (S.take k)).length≤k∧∀ u∈keepF (S.take k),u∈S.take k:=by
  intro S k
  induction k with
  | zero=>intro _; rw [List.take_zero]; exact ⟨Nat.le_refl _,fun u hu=>by cases hu⟩
  | succ k ih =>
    intro hk
    obtain ⟨h1,h2⟩:=ih (by omega)
    rw [List.take_succ_eq_append_getElem (by omega),qlddg]
    unfold keepS
    split
    · exact ⟨by omega,fun u hu=>List.mem_append_left _ (h2 u hu)⟩
    · refine ⟨by rw [List.length_append,List.length_cons,List.length_nil]; omega,fun u hu=>?_⟩
      rcases List.mem_append.1 hu with hu | hu
      · exact List.mem_append_left _ (h2 u hu)
      · exact List.mem_append_right _ hu
theorem qvqzg {t:List Int} (h:t.length≤1000000):qp7s9 (t,())=some (t,()):=by
  unfold qp7s9
  simp only [List.length_nil,Nat.zero_add,qu8rx (show t.length≤140737488355328 by omega) (show t.length*8≤140737488355328 by omega),Bool.and_true,cond_true,List.nil_append]
theorem qqco3 {K:List (List Int)} (z:Int × Unit) {t:List Int} {d:Nat} (hK:∀ u∈K,u.length=d) (ht:t.length=d) (hd:d≤4) (hl:K.length≤20000000) :
    (((loopM (qyo6d (K,z) t) ((0:Int),())).bind (Sum.elim (fun z8=>(some (Sum.inl z8))) (Sum.elim (fun z9=>(some (Sum.inl ((-1:Int),())))) Empty.elim))):Option ((Int × Unit) ⊕ Empty))=some (.inl (((((List.range K.length).find? fun i=>underL (K.getD i []) t).map fun i:Nat=>(i:Int)).getD (-1)),())):=by
  have k:=qw17v (f:=qyo6d (K,z) t) K.length (fun i=>((i:Int),())) (fun i=>cond (underL (K.getD i []) t) (some ((i:Int),())) none) (.inl ()) (fun i hi=>by
    have hlen:(K.getD i []).length=d:=by rw [List.getD_eq_getElem?_getD,List.getElem?_eq_getElem hi]; exact hK _ (List.getElem_mem hi)
    unfold qyo6d
    simp only [dcT (show (i:Int) < (K.length:Int) by omega),cond_true,inB_T hi,Int.toNat_natCast,q5s8r (d:=[]) hi,Option.bind_some,qzxqn (show (K.getD i []).length=t.length by omega) (show (K.getD i []).length≤1000000 by omega)]
    rw [wrapS (by omega)]
    cases underL (K.getD i []) t <;> rfl) (by
    unfold qyo6d
    simp only [dcF (show ¬ (K.length:Int) < (K.length:Int) by omega),cond_false]) (s0:=((0:Int),())) rfl
  rw [q3cir (fun i=>underL (K.getD i []) t) fun i=>((i:Int),())] at k
  rw [k]
  cases (List.range K.length).find? fun i=>underL (K.getD i []) t <;> rfl
theorem qk36s (K:List (List Int)) (t:List Int):(K.any fun u=>underL u t)=((List.range K.length).find? fun i=>underL (K.getD i []) t).isSome:=by
  rw [Bool.eq_iff_iff,List.any_eq_true,List.find?_isSome]
  constructor
  · rintro ⟨u,hu,h⟩
    obtain ⟨i,hi,rfl⟩:=List.mem_iff_getElem.1 hu
    exact ⟨i,List.mem_range.2 hi,by rw [List.getD_eq_getElem?_getD,List.getElem?_eq_getElem hi]; exact h⟩
  · rintro ⟨i,hi,h⟩
    have hi:=List.mem_range.1 hi
    rw [List.getD_eq_getElem?_getD,List.getElem?_eq_getElem hi] at h
    exact ⟨K[i],List.getElem_mem hi,h⟩
theorem qr4o5 {l:List (List Int)} {d:Nat} (hl:l.length≤10000000) (hd:d≤4) (h:∀ t∈l,t.length=d):q7qn0 (l,())=some (keepF (sortD l),()):=by
  have hc:q8qn0 (l,())=some (l,()):=by
    unfold q8qn0
    simp only [List.length_nil,Nat.zero_add,qu8rx (show l.length≤140737488355328 by omega) (show l.length*24≤140737488355328 by omega),Bool.and_true,cond_true,List.nil_append]
  have hs:=qq61f (l:=l) fun t ht=>by rw [h t ht]; omega
  have hs':sortP (fun a b=>(q5twe (a,b,())).map fun r=>r.1) l=some (sortD l):=hs
  have hSl:(sortD l).length=l.length:=(ql4hz l).length_eq
  have hSd:∀ t∈sortD l,t.length=d:=fun t ht=>h t ((ql4hz l).mem_iff.1 ht)
  have key:loopM (qktg7 (sortD l)) (([]:List (List Int)),(0:Int),())=some (.inl (keepF (sortD l),())):=by
    refine q9h1y (sortD l).length (fun i=>(keepF ((sortD l).take i),(i:Int),())) _ (fun i hi=>?_) ?_ rfl
    · obtain ⟨m1,m2⟩:=q12jo (sortD l) i (by omega)
      have hK:∀ u∈keepF ((sortD l).take i),u.length=d:=fun u hu=>hSd u (List.mem_of_mem_take (m2 u hu))
      have ht:((sortD l)[i]).length=d:=hSd _ (List.getElem_mem hi)
      rw [List.take_succ_eq_append_getElem hi,qlddg]
      generalize keepF ((sortD l).take i)=K at *
      unfold qktg7
      simp only [dcT (show (i:Int) < ((sortD l).length:Int) by omega),cond_true,inB_T hi,Int.toNat_natCast,List.getElem?_eq_getElem hi,Option.bind_some]
      rw [qqco3 _ hK ht hd (by omega),Option.bind_some,Sum.elim_inl]
      unfold keepS
      rw [qk36s]
      cases (List.range K.length).find? fun j=>underL (K.getD j []) (sortD l)[i] with
      | some j =>
        simp only [Option.map_some,Option.getD_some,dcT (show (j:Int) ≥ 0 by omega),Bool.not_true,cond_false,Option.isSome_some,if_true]
        rw [wrapS (by omega)]
      | none =>
        have d1:decide ((-1:Int) ≥ 0)=false:=by decide
        simp only [Option.map_none,Option.getD_none,d1,Bool.not_false,cond_true,qvqzg (show ((sortD l)[i]).length≤1000000 by omega),Option.bind_some,List.length_cons,List.length_nil,qu8rx (show K.length+(0+1)≤140737488355328 by omega) (show (K.length+(0+1))*24≤140737488355328 by omega),Bool.and_true,Option.isSome_none,Bool.false_eq_true,if_false]
        rw [wrapS (by omega)]
    · unfold qktg7
      simp only [dcF (show ¬ ((sortD l).length:Int) < ((sortD l).length:Int) by omega),cond_false,List.take_length]
  unfold q7qn0
  simp only [hc,Option.bind_some,qu8rx (show l.length≤140737488355328 by omega) (show l.length*1≤140737488355328 by omega),cond_true,hs',key,Sum.elim_inl]
end

section
open Go Go.Abs

def minB (l:List (List Int)) (t:List Int):Bool:=l.all fun u=>!(underL u t && decide (u≠t))
theorem min_iff {l:List (List Int)} {t:List Int}:minB l t=true↔∀ u∈l,underL u t=true→u=t:=by
  unfold minB
  rw [List.all_eq_true]
  constructor
  · intro h u hu hut
    have:=h u hu
    rw [hut] at this
    simpa using this
  · intro h u hu
    cases hq:underL u t with
    | false=>rfl
    | true=>simp [h u hu hq]
theorem qiad0 {l:List (List Int)} {t:List Int} {d:Nat} (hl:l.length≤10000000) (hf:∀ u∈l,chk u=0∧u.length=d) (ht:chk t=0∧t.length=d):loopM (qmmt6 (l,()) t) (true,(0:Int),())=some (.inl (minB l t,())):=by
  refine q9h1y l.length (fun i=>(minB (l.take i) t,(i:Int),())) _ (fun i hi=>?_) ?_ rfl
  · have hu:=hf _ (List.getElem_mem hi)
    have h4:=(qvov9 hu.1).2.1
    unfold qmmt6
    simp only [dcT (show (i:Int) < (l.length:Int) by omega),cond_true,q1j71 hi,Option.bind_some,qd1xh,leB_of (show l[i].length=t.length by omega) hu.1 ht.1,qkwh8 (show l[i].length≤1000000 by omega),wrapS (show i < 9223372036854775807 by omega)]
    have hs:minB (l.take (i+1)) t=(minB (l.take i) t && !(underL l[i] t && decide (l[i]≠t))):=by
      unfold minB
      rw [List.take_succ_eq_append_getElem hi,List.all_append,List.all_cons,List.all_nil,Bool.and_true]
    rw [hs]
    cases underL l[i] t with
    | false=>rw [cond_false,Bool.false_and,Bool.not_false,Bool.and_true]
    | true =>
      rw [cond_true,Bool.true_and]
      by_cases he:l[i]=t
      · rw [decide_eq_true he,decide_eq_false (not_not_intro he)]; simp
      · rw [decide_eq_false he,decide_eq_true he]; simp
  · unfold qmmt6
    simp only [dcF (show ¬ (l.length:Int) < (l.length:Int) by omega),cond_false,List.take_length]
theorem q1ida {l:List (List Int)} {d:Nat} (hl:l.length≤10000000) (hf:∀ u∈l,chk u=0∧u.length=d):qnum2 (l,())=some ((sortT l).filter (minB l),()):=by
  obtain ⟨s1,s2,s3⟩:=qzjcq l
  have key:loopM (qn0fx (l,()) (sortT l,())) (([]:List (List Int)),(0:Int),())=some (.inl ((sortT l).filter (minB l),())):=by
    refine q9h1y (sortT l).length (fun i=>(((sortT l).take i).filter (minB l),(i:Int),())) _ (fun i hi=>?_) ?_ rfl
    · have hfl:(((sortT l).take i).filter (minB l)).length≤i:=Nat.le_trans (List.length_filter_le _ _) (by rw [List.length_take]; omega)
      unfold qn0fx
      simp only [dcT (show (i:Int) < ((sortT l).length:Int) by omega),cond_true,q1j71 hi,Option.bind_some,qiad0 hl hf (hf _ ((s2 _).1 (List.getElem_mem hi))),Sum.elim_inl,List.length_cons,List.length_nil,wrapS (show i < 9223372036854775807 by omega),qu8rx (show (((sortT l).take i).filter (minB l)).length+(0+1)≤140737488355328 by omega) (show ((((sortT l).take i).filter (minB l)).length+(0+1))*24≤140737488355328 by omega),Bool.and_true]
      rw [List.take_succ_eq_append_getElem hi,List.filter_append,List.filter_cons,List.filter_nil]
      cases minB l (sortT l)[i] with
      | true=>rfl
      | false=>simp
    · unfold qn0fx
      simp only [dcF (show ¬ ((sortT l).length:Int) < ((sortT l).length:Int) by omega),cond_false,List.take_length]
  unfold qnum2
  rw [qfvjj (show l.length≤20000000 by omega) d hf,Option.bind_some,key]; rfl
theorem qdoe2 {p:List Int→Prop} (f:List Int→Nat) (h:∃ i,p i):∃ i,p i∧∀ j,p j→f i≤f j:=by
  have key:∀ m i,p i→f i≤m→∃ i,p i∧∀ j,p j→f i≤f j:=by
    intro m
    induction m with
    | zero=>intro i hi h0; exact ⟨i,hi,fun j _=>by omega⟩
    | succ m ih =>
      intro i hi hm
      by_cases hx:∃ j,p j∧f j≤m
      · obtain ⟨j,h1,h2⟩:=hx; exact ih j h1 h2
      · refine ⟨i,hi,fun j hj=>?_⟩
        by_cases hjm:f j≤m
        · exact absurd ⟨j,hj,hjm⟩ hx
        · omega
  obtain ⟨i,hi⟩:=h
  exact key (f i) i hi (Nat.le_refl _)
theorem q4qxv:∀ {a:List Int},(∀ v∈a,0≤v)→0≤a.sum
  | [],_=>by simp
  | v :: a,h=>by
    rw [List.sum_cons]
    have h1:=h v (List.mem_cons_self ..)
    have h2:=q4qxv fun w hw=>h w (List.mem_cons_of_mem _ hw)
    omega
theorem q51ie {a:List Int} (h:chk a=0):0≤a.sum:=q4qxv fun v hv=>by
  obtain ⟨i,hi,rfl⟩:=List.mem_iff_getElem.1 hv
  exact ((qvov9 h).2.2 i _ (List.getElem?_eq_getElem hi)).1
section
variable {l:List (List Int)} {d:Nat}
theorem qdwfo (hf:∀ u∈l,chk u=0∧u.length=d) {t:List Int} (ht:t∈l):∃ u,u∈l∧underL u t=true∧minB l u=true:=by
  obtain ⟨u,⟨hu,hut⟩,hmin⟩:=qdoe2 (p:=fun u=>u∈l∧underL u t=true) (fun u=>u.sum.toNat) ⟨t,ht,q57tf t⟩
  refine ⟨u,hu,hut,min_iff.2 fun v hv hvu=>?_⟩
  have lv:=hf v hv
  have lu:=hf u hu
  have lt:=hf t ht
  rcases qefpq (by omega) hvu with e | ⟨_,hs⟩
  · exact e
  · have:=hmin v ⟨hv,qthqc (by omega) (by omega) hvu hut⟩
    have:=q51ie lv.1
    have:=q51ie lu.1
    omega
theorem q2br7 (hf:∀ u∈l,chk u=0∧u.length=d):∀ k,k≤(sortD l).length→(∀ t,t∈keepF ((sortD l).take k)↔t∈(sortD l).take k∧minB l t=true)∧up (keepF ((sortD l).take k)):=by
  intro k
  induction k with
  | zero=>intro _; rw [List.take_zero]; exact ⟨fun t=>⟨fun h=>(by cases h),fun h=>(by cases h.1)⟩,List.Pairwise.nil⟩
  | succ k ih =>
    intro hk
    have hk':k < (sortD l).length:=by omega
    obtain ⟨h1,h2⟩:=ih (by omega)
    have hin:∀ u,u∈sortD l↔u∈l:=fun u=>(ql4hz l).mem_iff
    have hsrt:=List.pairwise_iff_getElem.1 (qgq1g l)
    have hlow:∀ u∈l,cmpL u (sortD l)[k] < 0→u∈(sortD l).take k:=fun u hu hc=>by
      obtain ⟨j,hj,rfl⟩:=List.mem_iff_getElem.1 ((hin u).2 hu)
      rcases Nat.lt_trichotomy j k with h | h | h
      · exact List.mem_iff_getElem.2 ⟨j,by rw [List.length_take]; omega,by rw [List.getElem_take]⟩
      · subst h; exact absurd hc (qjd07 _)
      · exact absurd hc (hsrt k j hk' hj h)
    have htl:(sortD l)[k]∈l:=(hin _).1 (List.getElem_mem hk')
    have hft:=hf _ htl
    rw [List.take_succ_eq_append_getElem hk',qlddg]
    unfold keepS
    by_cases hany:((keepF ((sortD l).take k)).any fun u=>underL u (sortD l)[k])=true
    · rw [if_pos hany]
      refine ⟨fun t=>?_,h2⟩
      rw [h1,List.mem_append,List.mem_singleton]
      constructor
      · exact fun h=>⟨.inl h.1,h.2⟩
      · rintro ⟨h | h,hm⟩
        · exact ⟨h,hm⟩
        · subst h
          obtain ⟨u,hu,hut⟩:=List.any_eq_true.1 hany
          have hu':=(h1 u).1 hu
          have:=min_iff.1 hm u ((hin u).1 (List.mem_of_mem_take hu'.1)) hut
          rw [this] at hu'
          exact hu'
    · rw [if_neg hany]
      have hno:∀ u∈keepF ((sortD l).take k),underL u (sortD l)[k]=false:=fun u hu=>by
        cases hq:underL u (sortD l)[k] with
        | false=>rfl
        | true=>exact absurd (List.any_eq_true.2 ⟨u,hu,hq⟩) hany
      have hmin:minB l (sortD l)[k]=true:=by
        obtain ⟨u,hu,hut,hum⟩:=qdwfo hf htl
        have hfu:=hf u hu
        rcases qefpq (by omega) hut with e | ⟨hc,_⟩
        · rw [←e]; exact hum
        · have:=hno u ((h1 u).2 ⟨hlow u hu hc,hum⟩)
          rw [hut] at this; cases this
      refine ⟨fun t=>?_,?_⟩
      · rw [List.mem_append,List.mem_singleton,List.mem_append,List.mem_singleton,h1]
        constructor
        · rintro (h | h)
          · exact ⟨.inl h.1,h.2⟩
          · exact ⟨.inr h,h ▸ hmin⟩
        · rintro ⟨h | h,hm⟩
          · exact .inl ⟨h,hm⟩
          · exact .inr h
      · unfold up
        rw [List.pairwise_append]
        refine ⟨h2,List.pairwise_singleton _ _,fun u hu t ht=>?_⟩
        rw [List.mem_singleton] at ht
        subst ht
        have hu':=(h1 u).1 hu
        obtain ⟨j,hj,hje⟩:=List.mem_iff_getElem.1 hu'.1
        rw [List.length_take] at hj
        rw [List.getElem_take] at hje
        have hs:=hsrt j k (by omega) hk' (by omega)
        rw [hje] at hs
        rw [qbq04] at hs
        by_cases e:cmpL u (sortD l)[k]=0
        · have:=hno u hu
          rw [cmpL_eq.1 e,q57tf] at this
          cases this
        · omega
theorem qc8is (hf:∀ u∈l,chk u=0∧u.length=d):keepF (sortD l)=(sortT l).filter (minB l):=by
  obtain ⟨s1,s2,s3⟩:=qzjcq l
  have h:=q2br7 hf (sortD l).length (Nat.le_refl _)
  rw [List.take_length] at h
  refine q134b h.2 (s3.filter _) fun t=>?_
  rw [h.1,List.mem_filter,s2,(ql4hz l).mem_iff]
end
theorem qk3pe {l:List (List Int)} (hl:l.length≤20000000) (h:∀ x∈l,x.length≤1000000):qm98c (l,l,())=some (true,()):=by
  unfold qm98c
  simp only [bneF rfl,cond_false]
  have key:=qw17v (f:=q721p (l,l,())) l.length (fun i=>((i:Int),())) (fun _=>(none:Option (Bool × Unit))) (.inl ()) (fun i hi=>by
    unfold q721p
    simp only [dcT (show (i:Int) < (l.length:Int) by omega),cond_true,q1j71 hi,Option.bind_some,qkwh8 (h _ (List.getElem_mem hi)),decide_true,Bool.not_true,cond_false,wrapS (show i < 9223372036854775807 by omega)]
    rfl) (by
    unfold q721p
    simp only [dcF (show ¬ (l.length:Int) < (l.length:Int) by omega),cond_false]) (s0:=((0:Int),())) rfl
  rw [key,show (List.range l.length).findSome? (fun _=>(none:Option (Bool × Unit)))=none by simp]
  rfl
end

section
open Go Go.Abs

structure Part {α:Type} (p:α→Bool) (s:List α) (i j:Nat) (l:List α):Prop where
  ij:i≤j
  js:j≤s.length
  len:l.length=s.length
  head:l.take i=(s.take j).filter p
  tail:l.drop j=s.drop j
theorem Part.get {α:Type} {p:α→Bool} {s l:List α} {i j:Nat} (h:Part p s i j l) (hj:j < s.length):l[j]? = some s[j]:=by
  have:=h.tail
  have h1:(l.drop j)[0]? = (s.drop j)[0]?:=by rw [this]
  rw [List.getElem?_drop,List.getElem?_drop,Nat.add_zero] at h1
  rw [h1,List.getElem?_eq_getElem hj]
theorem Part.skip {α:Type} {p:α→Bool} {s l:List α} {i j:Nat} (h:Part p s i j l) (hj:j < s.length) (hp:p s[j]=false):Part p s i (j+1) l:=by
  refine ⟨by have:=h.ij; omega,hj,h.len,?_,?_⟩
  · rw [List.take_succ_eq_append_getElem hj,List.filter_append,h.head]
    simp [hp]
  · have h1:=congrArg (List.drop 1) h.tail
    rw [List.drop_drop,List.drop_drop] at h1
    exact h1
theorem Part.keep {α:Type} {p:α→Bool} {s l:List α} {i j:Nat} (h:Part p s i j l) (hj:j < s.length) (hp:p s[j]=true):Part p s (i+1) (j+1) (l.set i s[j]):=by
  have h0:=h.ij
  have h9:=h.len
  refine ⟨by omega,hj,by rw [List.length_set]; exact h.len,?_,?_⟩
  · rw [List.take_succ_eq_append_getElem hj,List.filter_append,←h.head]
    have hi:i < (l.set i s[j]).length:=by rw [List.length_set]; omega
    rw [List.take_succ_eq_append_getElem hi,List.getElem_set_self,List.take_set_of_le (Nat.le_refl i)]
    simp [hp]
  · rw [List.drop_set_of_lt (by omega)]
    have h1:=congrArg (List.drop 1) h.tail
    rw [List.drop_drop,List.drop_drop] at h1
    exact h1
theorem Part.done {α:Type} {p:α→Bool} {s l:List α} {i:Nat} (h:Part p s i s.length l):l.take i=s.filter p:=by
  have:=h.head; rw [List.take_length] at this; exact this
end

section
open Go Go.Abs

abbrev Sm:=Int × Int × List Int × Unit
def okS (s:Sm):Prop:=sck s.1 s.2.1 s.2.2.1 4=0
def leS (a b:Sm):Bool:=decide (a.1.toNat+a.2.2.1.length=b.1.toNat+b.2.2.1.length) && !(List.range (a.1.toNat+a.2.2.1.length)).any (qafgx a.1.toNat a.2.1 a.2.2.1 b.1.toNat b.2.1 b.2.2.1)
theorem qogc6 {s:Sm} (h:okS s):∃ (n:Nat) (d:Int) (p:List Int),s=((n:Int),d,p,())∧1≤n∧n+p.length≤4:=by
  obtain ⟨n,d,p,⟨⟩⟩:=s
  obtain ⟨h1,h2,h3,h4,h5,h6⟩:=q5p43 (show sck n d p 4=0 from h)
  obtain ⟨k,rfl⟩:=Int.eq_ofNat_of_zero_le (show 0≤n by omega)
  exact ⟨k,d,p,rfl,by omega,by omega⟩
theorem qqeg8 {a b:Sm} (ha:okS a) (hb:okS b):qkjw2 (a,b,())=some (leS a b,()):=by
  obtain ⟨n,d,p,rfl,-⟩:=qogc6 ha
  obtain ⟨m,e,q,rfl,-⟩:=qogc6 hb
  exact qxrq2 ha hb
theorem qcpuo {a b:Sm} (ha:okS a) (hb:okS b):q5r8z (a,b,())=some (leS a b,()):=by
  obtain ⟨n,d,p,rfl,-⟩:=qogc6 ha
  obtain ⟨m,e,q,rfl,-⟩:=qogc6 hb
  exact qnt10 ha hb
def outS (s:Sm):Int:=s.1+(s.2.2.1.length:Int)
def keyS (s:Sm):List Int:=s.1 :: s.2.1 :: s.2.2.1
def unkey:List Int→Sm
  | n :: d :: p=>(n,d,p,())
  | _=>(0,0,[],())
theorem q3kqr (s:Sm):unkey (keyS s)=s:=rfl
theorem qc4nx {a b:Sm} (h:keyS a=keyS b):a=b:=by rw [←q3kqr a,h,q3kqr]
theorem qjg13 (a b c:Int):qb9z1 ([a,b,c],())=some (if a≠0 then a else if b≠0 then b else c,()):=by
  have st:∀ (i:Nat) (v:Int),[a,b,c][i]? = some v→qddgw ([a,b,c],()) ((i:Int),())=some (if v≠0 then .inr (.inl (v,())) else .inl (((i+1:Nat):Int),())):=fun i v hi=>by
    have hlt:=(List.getElem?_eq_some_iff.1 hi).1
    unfold qddgw
    simp only [dcT (show (i:Int) < (([a,b,c]:List Int).length:Int) by omega),cond_true,qooa6,hi,Option.bind_some,qerg8,wrapS (show i < 9223372036854775807 by simp at hlt; omega)]
    by_cases hv:v=0 <;> simp [hv]
  have s0:qddgw ([a,b,c],()) ((0:Int),())=some (if a≠0 then .inr (.inl (a,())) else .inl ((1:Int),())):=st 0 a rfl
  have s1:qddgw ([a,b,c],()) ((1:Int),())=some (if b≠0 then .inr (.inl (b,())) else .inl ((2:Int),())):=st 1 b rfl
  have s2:qddgw ([a,b,c],()) ((2:Int),())=some (if c≠0 then .inr (.inl (c,())) else .inl ((3:Int),())):=st 2 c rfl
  have s3:qddgw ([a,b,c],()) ((3:Int),())=some (.inr (.inr (.inl ()))):=rfl
  unfold qb9z1
  by_cases ha:a=0
  · rw [if_neg (by simpa using ha)] at s0
    rw [q2k3l s0]
    by_cases hb:b=0
    · rw [if_neg (by simpa using hb)] at s1
      rw [q2k3l s1]
      by_cases hc:c=0
      · rw [if_neg (by simpa using hc)] at s2
        rw [q2k3l s2,q7xfb s3]; simp [ha,hb,hc]
      · rw [if_pos hc] at s2
        rw [q7xfb s2]; simp [ha,hb]
    · rw [if_pos hb] at s1
      rw [q7xfb s1]; simp [ha,hb]
  · rw [if_pos ha] at s0
    rw [q7xfb s0]; simp [ha]
theorem qdlar (a b:Sm) (ha:a.2.2.1.length≤1000000):qcx4k (a,b,())=some (cmpL (keyS a) (keyS b),()):=by
  unfold qcx4k
  simp only [qafso,qx54q ha,Option.bind_some,qjg13]
  congr 2
  unfold keyS
  simp only [cmpL]
  by_cases h1:a.1 < b.1
  · simp [h1]
  · by_cases h2:a.1 > b.1
    · simp [h1,h2]
    · by_cases h3:a.2.1 < b.2.1
      · simp [h1,h2,h3]
      · by_cases h4:a.2.1 > b.2.1 <;> simp [h1,h2,h3,h4]
theorem c1_eq (a b:Sm) (ha:a.2.2.1.length≤1000000):qemb4 (a,b,())=some (decide (a=b),()):=by
  unfold qemb4
  rw [qdlar a b ha]
  simp only [Option.bind_some]
  by_cases h:a=b
  · subst h
    rw [cmpL_eq.2 rfl]; simp
  · have:¬ cmpL (keyS a) (keyS b)=0:=fun e=>h (qc4nx (cmpL_eq.1 e))
    simp [h,this]
noncomputable def cmpQ (a b:Sm):Option Int:=(qcx4k (a,b,())).map fun r=>r.1
theorem q0ezw {a b:Sm} (ha:a.2.2.1.length≤1000000):cmpQ a b=some (cmpL (keyS a) (keyS b)):=by
  unfold cmpQ; rw [qdlar a b ha]; rfl
theorem qam8q {a b:Sm} (ha:a.2.2.1.length≤1000000):ltF cmpQ a b↔cmpL (keyS a) (keyS b) < 0:=by
  unfold ltF
  rw [q0ezw ha]
  constructor
  · rintro ⟨v,h1,h2⟩; cases h1; exact h2
  · exact fun h=>⟨_,rfl,h⟩
def sortQ (l:List Sm):List Sm:=(sortD (l.map keyS)).map unkey
theorem qr531 (l:List Sm):(sortQ l).Perm l:=by
  have h:=(ql4hz (l.map keyS)).map unkey
  rw [List.map_map] at h
  have e:l.map (unkey∘keyS)=l:=(List.map_congr_left fun a _=>q3kqr a).trans (List.map_id _)
  rw [e] at h
  exact h
theorem q5vpk (l:List Sm):(sortQ l).map keyS=sortD (l.map keyS):=by
  unfold sortQ
  rw [List.map_map]
  refine (List.map_congr_left fun k hk=>?_).trans (List.map_id _)
  obtain ⟨s,-,rfl⟩:=List.mem_map.1 ((ql4hz _).mem_iff.1 hk)
  rfl
theorem qxcgm {l:List Sm} (h:∀ s∈l,s.2.2.1.length≤1000000):sortP cmpQ l=some (sortQ l):=by
  refine qgxlw ⟨fun x hx y _=>⟨_,q0ezw (h x hx)⟩,fun x hx hlt=>qjd07 _ ((qam8q (h x hx)).1 hlt),fun x hx y hy z _ h1 h2=>(qam8q (h x hx)).2 (qzobx ((qam8q (h x hx)).1 h1) ((qam8q (h y hy)).1 h2)),fun x hx y hy h1 h2=>?_⟩ (qr531 l) ?_
  · have a1:¬ cmpL (keyS x) (keyS y) < 0:=fun e=>h1 ((qam8q (h x hx)).2 e)
    have a2:¬ cmpL (keyS y) (keyS x) < 0:=fun e=>h2 ((qam8q (h y hy)).2 e)
    rw [qbq04] at a2
    exact qc4nx (cmpL_eq.1 (by omega))
  · have:=qgq1g (l.map keyS)
    rw [←q5vpk] at this
    rw [List.pairwise_map] at this
    exact this.imp_of_mem fun {a b} ha hb hab hlt=>hab ((qam8q (h b ((qr531 l).mem_iff.1 hb))).1 hlt)
def qq3ho (s:List Sm) (k:Nat):Bool:=decide (k=0) || !decide (s.getD k (0,0,[],())=s.getD (k - 1) (0,0,[],()))
structure PartI (q:Nat→Bool) (s:List Sm) (i j:Nat) (l:List Sm):Prop where
  ij:i < j
  js:j≤s.length
  len:l.length=s.length
  head:l.take i=((List.range j).filter q).map fun k=>s.getD k (0,0,[],())
  tail:l.drop i=s.drop i
theorem PartI.get {q:Nat→Bool} {s l:List Sm} {i j k:Nat} (h:PartI q s i j l) (hk:i≤k) (hk2:k < s.length):l[k]? = some (s.getD k (0,0,[],())):=by
  have h1:(l.drop i)[k - i]? = (s.drop i)[k - i]?:=by rw [h.tail]
  rw [List.getElem?_drop,List.getElem?_drop,show i+(k - i)=k from by omega] at h1
  rw [h1]; exact q5s8r hk2
theorem PartI.skip {q:Nat→Bool} {s l:List Sm} {i j:Nat} (h:PartI q s i j l) (hj:j < s.length) (hp:q j=false):PartI q s i (j+1) l:=by
  refine ⟨by have:=h.ij; omega,hj,h.len,?_,h.tail⟩
  rw [List.range_succ,List.filter_append,h.head]
  simp [hp]
theorem PartI.keep {q:Nat→Bool} {s l:List Sm} {i j:Nat} (h:PartI q s i j l) (hj:j < s.length) (hp:q j=true):PartI q s (i+1) (j+1) (l.set i (s.getD j (0,0,[],()))):=by
  have h0:=h.ij
  have h9:=h.len
  refine ⟨by omega,hj,by rw [List.length_set]; exact h.len,?_,?_⟩
  · rw [List.range_succ,List.filter_append,List.map_append,←h.head]
    have hi:i < (l.set i (s.getD j (0,0,[],()))).length:=by rw [List.length_set]; omega
    rw [List.take_succ_eq_append_getElem hi,List.getElem_set_self,List.take_set_of_le (Nat.le_refl i)]
    simp [hp]
  · rw [List.drop_set_of_lt (by omega)]
    have h1:=congrArg (List.drop 1) h.tail
    rw [List.drop_drop,List.drop_drop] at h1
    exact h1
theorem q1jsz {q:Nat→Bool} {s:List Sm} {i:Nat} (hi:i < s.length) (h:∀ k,k < i→q k=true) (hp:q i=false):PartI q s i (i+1) s:=by
  refine ⟨by omega,hi,rfl,?_,rfl⟩
  rw [List.range_succ,List.filter_append,List.map_append]
  have:(List.range i).filter q=List.range i:=by
    rw [List.filter_eq_self]
    intro a ha
    exact h a (List.mem_range.1 ha)
  rw [this]
  simp only [List.filter_cons,hp,List.filter_nil,Bool.false_eq_true,if_false,List.map_nil,List.append_nil]
  refine List.ext_getElem (by simp; omega) fun k h1 h2=>?_
  simp only [List.length_take] at h1
  rw [List.getElem_take,List.getElem_map,List.getElem_range,List.getD_eq_getElem?_getD,List.getElem?_eq_getElem (by omega)]
  rfl
def onceQ (s:List Sm):List Sm:=((List.range s.length).filter (qq3ho s)).map fun k=>s.getD k (0,0,[],())
theorem qmruf {s:List Sm} (hs:s.length≤20000000) (hp:∀ x∈s,x.2.2.1.length≤1000000) {k0:Nat} (z:List Sm × Unit) (hz:z.1.length=s.length) (hk0:k0 < s.length) :
    ∀ (n i j:Nat) (l:List Sm),k0+j+n=s.length→0 < j→k0≤i→PartI (qq3ho s) s i (k0+j) l →
      ∃ (i':Nat) (l':List Sm),loopM (qetvr ((k0:Int),z)) ((i:Int),(j:Int),l,())=some (.inl ((i':Int),l',()))∧PartI (qq3ho s) s i' s.length l'
  | 0,i,j,l,hn,hj,hki,h=>by
    obtain rfl:j=s.length - k0:=by omega
    have e:k0+(s.length - k0)=s.length:=by omega
    rw [e] at h
    refine ⟨i,l,q7xfb ?_,h⟩
    unfold qetvr
    have d1:decide (((s.length - k0:Nat):Int) < ((z.1.length - k0:Nat):Int))=false:=dcF (by rw [hz]; omega)
    simp only [Int.toNat_natCast,d1,cond_false]
  | n+1,i,j,l,hn,hj,hki,h=>by
    have hl:=h.len
    have hij:=h.ij
    have hlt:k0+j < s.length:=by omega
    have m1:s.getD (k0+j) (0,0,[],())∈s:=by
      rw [List.getD_eq_getElem?_getD,List.getElem?_eq_getElem hlt]; exact List.getElem_mem hlt
    have w1:IntKind.i64.wrap ((j:Int) - 1)=((j - 1:Nat):Int):=by rw [wrap64 (by omega) (by omega)]; omega
    have b1:inB (j:Int) (z.1.length - k0)=true:=inB_T (by rw [hz]; omega)
    have b2:inB ((j - 1:Nat):Int) (z.1.length - k0)=true:=inB_T (by rw [hz]; omega)
    have d1:decide ((j:Int) < ((z.1.length - k0:Nat):Int))=true:=dcT (by rw [hz]; omega)
    have g1:l[k0+j]? = some (s.getD (k0+j) (0,0,[],())):=h.get (by omega) hlt
    have g2:l[k0+(j - 1)]? = some (s.getD (k0+j - 1) (0,0,[],())):=by
      rw [show k0+(j - 1)=k0+j - 1 from by omega]; exact h.get (by omega) (by omega)
    have hq:qq3ho s (k0+j)=!decide (s.getD (k0+j) (0,0,[],())=s.getD (k0+j - 1) (0,0,[],())):=by
      unfold qq3ho
      rw [decide_eq_false (show ¬ k0+j=0 by omega),Bool.false_or]
    have key:qetvr ((k0:Int),z) ((i:Int),(j:Int),l,())=some (.inl (if qq3ho s (k0+j)=true then (((i+1:Nat):Int),((j+1:Nat):Int),l.set i (s.getD (k0+j) (0,0,[],())),()) else ((i:Int),((j+1:Nat):Int),l,()))):=by
      unfold qetvr
      simp only [Int.toNat_natCast,d1,cond_true,b1,w1,b2,g1,g2,Option.bind_some,c1_eq _ _ (hp _ m1),←hq,wrapS (show j < 9223372036854775807 by omega)]
      cases qq3ho s (k0+j) with
      | true=>simp only [cond_true,inB_T (show i < l.length by omega),List.getElem?_eq_getElem (show i < l.length by omega),Option.bind_some,wrapS (show i < 9223372036854775807 by omega),if_true]
      | false=>simp only [cond_false,Bool.false_eq_true,if_false]
    rw [q2k3l key]
    cases hq':qq3ho s (k0+j) with
    | true=>simp only [if_true]; exact qmruf hs hp z hz hk0 n (i+1) (j+1) _ (by omega) (by omega) (by omega) (h.keep hlt hq')
    | false=>simp only [Bool.false_eq_true,if_false]; exact qmruf hs hp z hz hk0 n i (j+1) _ (by omega) (by omega) hki (h.skip hlt hq')
theorem q8ujg {s:List Sm} (hs:s.length≤20000000) (hp:∀ x∈s,x.2.2.1.length≤1000000) :
    (((cond (decide ((s.length:Int) < (2:Int))) (some (Sum.inl (s,()))) ((loopM (qvi2w) ((1:Int),s,())).bind (Sum.elim (fun z14=>(some (Sum.inl (((z14.2.2.1.drop z14.1).take z14.2.1),())))) (Sum.elim (fun z15=>(some (Sum.inl z15))) Empty.elim)))):Option ((List Sm × Unit) ⊕ Empty)))=some (.inl (onceQ s,())):=by
  by_cases h2:s.length < 2
  · simp only [dcT (show (s.length:Int) < 2 by omega),cond_true]
    congr 3
    match s,h2 with
    | [],_=>rfl
    | [a],_=>rfl
  · simp only [dcF (show ¬ (s.length:Int) < 2 by omega),cond_false]
    have hstep:∀ k:Nat,1≤k→k < s.length→qq3ho s k=true→qvi2w ((k:Int),s,())=some (.inl (((k+1:Nat):Int),s,())):=fun k hk1 hk hq=>by
      have w1:IntKind.i64.wrap ((k:Int) - 1)=((k - 1:Nat):Int):=by rw [wrap64 (by omega) (by omega)]; omega
      have m1:s.getD k (0,0,[],())∈s:=by
        rw [List.getD_eq_getElem?_getD,List.getElem?_eq_getElem hk]; exact List.getElem_mem hk
      unfold qq3ho at hq
      rw [decide_eq_false (show ¬ k=0 by omega),Bool.false_or,Bool.not_eq_true'] at hq
      unfold qvi2w
      simp only [dcT (show (k:Int) < (s.length:Int) by omega),cond_true,inB_T hk,w1,inB_T (show k - 1 < s.length by omega),Int.toNat_natCast,q5s8r (d:=((0,0,[],()):Sm)) hk,q5s8r (d:=((0,0,[],()):Sm)) (show k - 1 < s.length by omega),Option.bind_some,c1_eq _ _ (hp _ m1),hq,cond_false,wrapS (show k < 9223372036854775807 by omega)]
    have hend:qvi2w ((s.length:Int),s,())=some (.inr (.inr (.inl (s,())))):=by
      unfold qvi2w
      simp only [dcF (show ¬ (s.length:Int) < (s.length:Int) by omega),cond_false]
    have hdup:∀ k:Nat,1≤k→k < s.length→(∀ m,m < k→qq3ho s m=true)→qq3ho s k=false→∃ (i':Nat) (l':List Sm),i'≤l'.length∧l'.take i'=onceQ s∧∃ z:List Sm,qvi2w ((k:Int),s,())=some (.inr (.inl (0,i',l'.take i'++z,()))):=fun k hk1 hk hall hq=>by
      have w1:IntKind.i64.wrap ((k:Int) - 1)=((k - 1:Nat):Int):=by rw [wrap64 (by omega) (by omega)]; omega
      have m1:s.getD k (0,0,[],())∈s:=by
        rw [List.getD_eq_getElem?_getD,List.getElem?_eq_getElem hk]; exact List.getElem_mem hk
      obtain ⟨i',l',hrun,hpi⟩:=qmruf hs hp (k0:=k) (s,()) rfl hk (s.length - (k+1)) k 1 s (by omega) (by omega) (Nat.le_refl _) (q1jsz hk hall hq)
      have h1:=hpi.ij
      have h3:=hpi.len
      refine ⟨i',l',by omega,hpi.head,?_⟩
      unfold qq3ho at hq
      rw [decide_eq_false (show ¬ k=0 by omega),Bool.false_or,Bool.not_eq_false'] at hq
      have g0:(decide (0≤(k:Int)) && decide ((k:Int)≤(s.length:Int)) && decide ((s.length:Int)≤s.length))=true:=by
        rw [dcT (show (0:Int)≤k by omega),dcT (show (k:Int)≤s.length by omega),dcT (show (s.length:Int)≤s.length by omega)]; rfl
      have g1:(decide (0≤(i':Int)) && decide ((i':Int)≤(l'.length:Int)) && decide ((l'.length:Int)≤l'.length))=true:=by
        rw [dcT (show (0:Int)≤i' by omega),dcT (show (i':Int)≤l'.length by omega),dcT (show (l'.length:Int)≤l'.length by omega)]; rfl
      have g2:∀ z:List Sm,(decide (0≤(0:Int)) && decide ((0:Int)≤(i':Int)) && decide ((i':Int)≤(l'.take i'++z).length))=true:=fun z=>by
        rw [dcT (show (0:Int)≤0 by omega),dcT (show (0:Int)≤i' by omega),dcT (show (i':Int)≤((l'.take i'++z).length:Nat) by rw [List.length_append,List.length_take]; omega)]; rfl
      have e1:((1:Nat):Int)=1:=rfl
      rw [e1] at hrun
      unfold qvi2w
      simp only [dcT (show (k:Int) < (s.length:Int) by omega),cond_true,inB_T hk,w1,inB_T (show k - 1 < s.length by omega),Int.toNat_natCast,q5s8r (d:=((0,0,[],()):Sm)) hk,q5s8r (d:=((0,0,[],()):Sm)) (show k - 1 < s.length by omega),Option.bind_some,c1_eq _ _ (hp _ m1),hq,g0,hrun,Sum.elim_inl,g1]
      simp only [List.append_assoc,g2,cond_true,Int.toNat_zero,Nat.sub_zero]
      exact ⟨_,rfl⟩
    have hrun:∀ (n k:Nat),k+n=s.length→1≤k→(∀ m,m < k→qq3ho s m=true)→((loopM (qvi2w) ((k:Int),s,())).bind (Sum.elim (fun z14=>(some (Sum.inl (((z14.2.2.1.drop z14.1).take z14.2.1),())))) (Sum.elim (fun z15=>(some (Sum.inl z15))) Empty.elim)):Option ((List Sm × Unit) ⊕ Empty))=some (.inl (onceQ s,())):=by
      intro n
      induction n with
      | zero =>
        intro k hk hk1 hall
        obtain rfl:k=s.length:=by omega
        rw [q7xfb hend]
        simp only [Option.bind_some,Sum.elim_inr,Sum.elim_inl]
        congr 3
        unfold onceQ
        have:(List.range s.length).filter (qq3ho s)=List.range s.length:=by
          rw [List.filter_eq_self]
          intro a ha
          exact hall a (List.mem_range.1 ha)
        rw [this]
        refine List.ext_getElem (by simp) fun k h1 h2=>?_
        rw [List.getElem_map,List.getElem_range,List.getD_eq_getElem?_getD,List.getElem?_eq_getElem h1]
        rfl
      | succ n ih =>
        intro k hk hk1 hall
        cases hq:qq3ho s k with
        | true =>
          rw [q2k3l (hstep k hk1 (by omega) hq)]
          exact ih (k+1) (by omega) (by omega) fun m hm=>by
            rcases Nat.lt_succ_iff_lt_or_eq.1 hm with h | rfl
            · exact hall m h
            · exact hq
        | false =>
          obtain ⟨i',l',hi',ht,z,hz⟩:=hdup k hk1 (by omega) hall hq
          rw [q7xfb hz]
          simp only [Option.bind_some,Sum.elim_inl,List.drop_zero]
          rw [List.take_append_of_le_length (by rw [List.length_take]; omega),List.take_take,Nat.min_self,ht]
    exact hrun (s.length - 1) 1 (by omega) (Nat.le_refl _) fun m hm=>by
      obtain rfl:m=0:=by omega
      rfl
end

section
open Go Go.Abs

theorem qt88e {l:List Sm}:up ((onceQ (sortQ l)).map keyS)∧(∀ s,s∈onceQ (sortQ l)↔s∈l):=by
  have hsrt:((sortQ l).map keyS).Pairwise fun a b=>¬ cmpL b a < 0:=by rw [q5vpk]; exact qgq1g _
  have hmem:∀ s,s∈sortQ l↔s∈l:=fun s=>(qr531 l).mem_iff
  generalize sortQ l=S at hsrt hmem
  rw [List.pairwise_map,List.pairwise_iff_getElem] at hsrt
  have gd:∀ k (hk:k < S.length),S.getD k (0,0,[],())=S[k]:=fun k hk=>by
    rw [List.getD_eq_getElem?_getD,List.getElem?_eq_getElem hk]; rfl
  have le:∀ i j (hi:i < S.length) (hj:j < S.length),i≤j→¬ cmpL (keyS S[j]) (keyS S[i]) < 0:=fun i j hi hj hij=>by
    rcases Nat.lt_or_ge i j with h | h
    · exact hsrt i j hi hj h
    · obtain rfl:i=j:=by omega
      exact qjd07 _
  constructor
  · show (((onceQ S).map keyS)).Pairwise _
    unfold onceQ
    rw [List.map_map,List.pairwise_map]
    refine ((List.pairwise_lt_range (n:=S.length)).filter _).imp_of_mem fun {a b} ha hb hab=>?_
    have hb':=List.mem_filter.1 hb
    have ha':=List.mem_filter.1 ha
    have hbn:=List.mem_range.1 hb'.1
    have han:=List.mem_range.1 ha'.1
    show cmpL (keyS (S.getD a _)) (keyS (S.getD b _)) < 0
    rw [gd a han,gd b hbn]
    have hf:=hb'.2
    unfold qq3ho at hf
    rw [decide_eq_false (show ¬ b=0 by omega),Bool.false_or,Bool.not_eq_true',decide_eq_false_iff_not,gd b hbn,gd (b - 1) (by omega)] at hf
    have h1:=le a (b - 1) han (by omega) (by omega)
    have h2:=le (b - 1) b (by omega) hbn (by omega)
    have h3:¬ cmpL (keyS S[b - 1]) (keyS S[b])=0:=fun e=>hf (qc4nx (cmpL_eq.1 e)).symm
    rw [qbq04] at h2
    have h4:cmpL (keyS S[b - 1]) (keyS S[b]) < 0:=by omega
    by_cases h5:cmpL (keyS S[a]) (keyS S[b - 1]) < 0
    · exact qzobx h5 h4
    · rw [qbq04] at h1
      rw [cmpL_eq.1 (show cmpL (keyS S[a]) (keyS S[b - 1])=0 by omega)]
      exact h4
  · intro s
    rw [←hmem]
    unfold onceQ
    rw [List.mem_map]
    constructor
    · rintro ⟨k,hk,rfl⟩
      have:=List.mem_range.1 (List.mem_filter.1 hk).1
      rw [gd k this]; exact List.getElem_mem this
    · intro hs
      obtain ⟨i,hi,rfl⟩:=List.mem_iff_getElem.1 hs
      have:∃ k,k < S.length∧S.getD k (0,0,[],())=S[i]∧∀ m,m < k→S.getD m (0,0,[],())≠S[i]:=by
        cases hf:(List.range S.length).find? fun k=>decide (S.getD k (0,0,[],())=S[i]) with
        | none =>
          have:=q1bzg hf i hi
          rw [gd i hi] at this
          simp at this
        | some k =>
          have h1:=List.find?_range_eq_some.1 hf
          refine ⟨k,List.mem_range.1 h1.2.1,of_decide_eq_true h1.1,fun m hm e=>?_⟩
          have:=h1.2.2 m hm
          rw [decide_eq_true e] at this
          cases this
      obtain ⟨k,hk,e,hmin⟩:=this
      refine ⟨k,List.mem_filter.2 ⟨List.mem_range.2 hk,?_⟩,e⟩
      unfold qq3ho
      by_cases h0:k=0
      · simp [h0]
      · have:=hmin (k - 1) (by omega)
        rw [e,decide_eq_false h0,decide_eq_false (Ne.symm this)]; rfl
def minS (D:List Sm) (s:Sm):Bool:=D.all fun r=>decide (r=s) || !leS r s
theorem quuwa {D E:List Sm} (h:∀ r,r∈D↔r∈E) (s:Sm):minS D s=minS E s:=by
  rw [Bool.eq_iff_iff]
  unfold minS
  rw [List.all_eq_true,List.all_eq_true]
  exact ⟨fun g r hr=>g r ((h r).2 hr),fun g r hr=>g r ((h r).1 hr)⟩
theorem qpl7c {D:List Sm} (h:D.Nodup) {i j:Nat} (hi:i < D.length) (hj:j < D.length) (e:D[j]=D[i]):j=i:=by
  have h:=List.pairwise_iff_getElem.1 h
  rcases Nat.lt_trichotomy i j with g | g | g
  · exact absurd e.symm (h i j hi hj g)
  · exact g.symm
  · exact absurd e (h j i hj hi g)
theorem qf61n {D:List Sm} (hD:D.length≤20000000) (hok:∀ s∈D,okS s) (hnd:D.Nodup) (zu:Unit) {K:List Sm} {i:Nat} (hi:i < D.length) :
    loopM (q1iy0 (D,zu) (K,(i:Int),()) D[i]) (true,(0:Int),())=some (.inl (minS D D[i],())):=by
  have hmin:minS D D[i]=(List.range D.length).all fun j=>decide (j=i) || !leS (D.getD j (0,0,[],())) D[i]:=by
    rw [Bool.eq_iff_iff]
    unfold minS
    rw [List.all_eq_true,List.all_eq_true]
    constructor
    · intro h j hj
      have hj:=List.mem_range.1 hj
      have:=h D[j] (List.getElem_mem hj)
      rw [List.getD_eq_getElem?_getD,List.getElem?_eq_getElem hj,Option.getD_some]
      simp only [Bool.or_eq_true,decide_eq_true_eq] at this ⊢
      rcases this with e | e
      · exact .inl (qpl7c hnd hi hj e)
      · exact .inr e
    · intro h r hr
      obtain ⟨j,hj,rfl⟩:=List.mem_iff_getElem.1 hr
      have:=h j (List.mem_range.2 hj)
      rw [List.getD_eq_getElem?_getD,List.getElem?_eq_getElem hj,Option.getD_some] at this
      simp only [Bool.or_eq_true,decide_eq_true_eq] at this ⊢
      rcases this with rfl | e
      · exact .inl rfl
      · exact .inr e
  rw [hmin]
  refine q9h1y D.length (fun k=>((List.range k).all fun j=>decide (j=i) || !leS (D.getD j (0,0,[],())) D[i],(k:Int),())) _ (fun k hk=>?_) ?_ rfl
  · rw [List.range_succ,List.all_append]
    generalize ((List.range k).all fun j=>decide (j=i) || !leS (D.getD j (0,0,[],())) D[i])=b
    unfold q1iy0
    simp only [dcT (show (k:Int) < (D.length:Int) by omega),cond_true,q1j71 hk,Option.bind_some,wrapS (show k < 9223372036854775807 by omega),List.all_cons,List.all_nil,Bool.and_true]
    rw [List.getD_eq_getElem?_getD,List.getElem?_eq_getElem hk,Option.getD_some]
    cases b with
    | false=>rfl
    | true =>
      by_cases h:k=i
      · subst h
        simp
      · have e:((i:Int) == (k:Int))=false:=beqF (by omega)
        simp only [e,cond_true,cond_false,qqeg8 (hok _ (List.getElem_mem hk)) (hok _ (List.getElem_mem hi)),Option.bind_some,Bool.true_and,decide_eq_false h,Bool.false_or]
  · unfold q1iy0
    simp only [dcF (show ¬ (D.length:Int) < (D.length:Int) by omega),cond_false]
def frontQ (l:List Sm):List Sm:=(onceQ (sortQ l)).filter (minS l)
theorem qo4m4 (s:List Sm):(onceQ s).length≤s.length:=by
  unfold onceQ
  rw [List.length_map]
  exact Nat.le_trans (List.length_filter_le ..) (by rw [List.length_range]; exact Nat.le_refl _)
theorem qqoc0 {D:List Sm} (h:up (D.map keyS)):D.Nodup:=by
  unfold up at h
  rw [List.pairwise_map] at h
  exact h.imp fun {a b} hab e=>by subst e; exact qjd07 _ hab
theorem q4qoc {s:Sm} (h:okS s):s.2.2.1.length≤4:=by
  obtain ⟨n,d,p,rfl,h1,h2⟩:=qogc6 h
  show p.length≤4
  omega
theorem qdw8a {l:List Sm} (hl:l.length≤10000000) (hok:∀ s∈l,okS s):qvent (l,())=some (frontQ l,()):=by
  obtain ⟨hup,hmem⟩:=qt88e (l:=l)
  have hSl:(sortQ l).length=l.length:=(qr531 l).length_eq
  have hlen:=qo4m4 (sortQ l)
  have hokD:∀ s∈onceQ (sortQ l),okS s:=fun s hs=>hok s ((hmem s).1 hs)
  have hc:qlexe (l,())=some (l,()):=by
    unfold qlexe
    simp only [List.length_nil,Nat.zero_add,qu8rx (show l.length≤140737488355328 by omega) (show l.length*40≤140737488355328 by omega),Bool.and_true,cond_true,List.nil_append]
  have hs:sortP (fun a b=>(qcx4k (a,b,())).map fun r=>r.1) l=some (sortQ l):=qxcgm fun s hs=>by have:=q4qoc (hok s hs); omega
  have hcmp:=q8ujg (s:=sortQ l) (by omega) fun x hx=>by have:=q4qoc (hok x ((qr531 l).mem_iff.1 hx)); omega
  have hmin:∀ s,minS (onceQ (sortQ l)) s=minS l s:=quuwa hmem
  have hnd:=qqoc0 hup
  unfold frontQ
  generalize onceQ (sortQ l)=D at *
  have key:loopM (qwcwn (D,())) (([]:List Sm),(0:Int),())=some (.inl (D.filter (minS l),())):=by
    refine q9h1y D.length (fun i=>((D.take i).filter (minS l),(i:Int),())) _ (fun i hi=>?_) ?_ rfl
    · have hK:((D.take i).filter (minS l)).length≤i:=Nat.le_trans (List.length_filter_le ..) (by rw [List.length_take]; omega)
      rw [List.take_succ_eq_append_getElem hi,List.filter_append]
      generalize (D.take i).filter (minS l)=K at *
      unfold qwcwn
      simp only [dcT (show (i:Int) < (D.length:Int) by omega),cond_true,q1j71 hi,Option.bind_some]
      rw [qf61n (by omega) hokD hnd () hi,hmin]
      have hp:=q4qoc (hokD _ (List.getElem_mem hi))
      simp only [Option.bind_some,Sum.elim_inl]
      cases hm:minS l D[i] with
      | true =>
        simp only [cond_true,qvqzg (show (D[i]).2.2.1.length≤1000000 by omega),Option.bind_some,List.length_cons,List.length_nil,qu8rx (show K.length+(0+1)≤140737488355328 by omega) (show (K.length+(0+1))*40≤140737488355328 by omega),Bool.and_true,wrapS (show i < 9223372036854775807 by omega)]
        simp [hm]
      | false =>
        simp only [cond_false,wrapS (show i < 9223372036854775807 by omega)]
        simp [hm]
    · unfold qwcwn
      simp only [dcF (show ¬ (D.length:Int) < (D.length:Int) by omega),cond_false,List.take_length]
  unfold qvent
  simp only [hc,Option.bind_some,qu8rx (show l.length≤140737488355328 by omega) (show l.length*1≤140737488355328 by omega),cond_true,hs,hcmp,Sum.elim_inl,key]
theorem qi7rb {a b:Sm} (ha:a.2.2.1.length≤1000000):qfo5w (a,b,())=some (decide (a=b),()):=by
  unfold qfo5w
  obtain ⟨n,d,p,⟨⟩⟩:=a
  obtain ⟨m,e,q,⟨⟩⟩:=b
  simp only [qkwh8 ha,Option.bind_some]
  by_cases h1:n=m
  · by_cases h2:d=e
    · rw [beqT h1,beqT h2]; simp [h1,h2]
    · rw [beqT h1,beqF h2]; simp [h2]
  · rw [beqF h1]; simp [h1]
theorem qxm1e (a b:Int) (r s:List Int):cmpL (a :: r) (b :: s) < 0↔a < b∨a=b∧cmpL r s < 0:=by
  simp only [cmpL]
  by_cases h1:a < b
  · simp [h1]
  · rw [if_neg h1]
    by_cases h2:a > b
    · rw [if_pos h2]
      constructor
      · intro h; omega
      · rintro (h | ⟨h,-⟩) <;> omega
    · rw [if_neg h2]
      exact ⟨fun h=>.inr ⟨by omega,h⟩,fun h=>(h.resolve_left h1).2⟩
theorem qu7c4 {p q:Prop} [Decidable p] [Decidable q] (h:p↔q):some (decide p,())=some (decide q,()):=by rw [decide_eq_decide.2 h]
def aheadB (a b:Sm):Bool:=decide (cmpL (keyS a) (keyS b) < 0)
theorem qcx65 {p q:List Int} (hp:p.length≤1000) (hq:q.length=p.length) (a b:Sm) (ha:a.2.2.1=p) (hb:b.2.2.1=q):∀ (n i:Nat),i+n=p.length→p.take i=q.take i →
    (loopM (qlj9t (a,b,())) ((i:Int),())).bind (Sum.elim (fun z6=>(some z6)) (Sum.elim (fun z7=>(some (false,()))) Empty.elim))=some (decide (cmpL (p.drop i) (q.drop i) < 0),())
  | 0,i,hn,_=>by
    obtain rfl:i=p.length:=by omega
    have:qlj9t (a,b,()) ((p.length:Int),())=some (.inr (.inr (.inl ()))):=by
      unfold qlj9t
      simp only [ha,hb,dcF (show ¬ (p.length:Int) < (p.length:Int) by omega),cond_false]
    rw [q7xfb this,List.drop_length,←hq,List.drop_length]
    rfl
  | n+1,i,hn,he=>by
    have hi:i < p.length:=by omega
    have hi2:i < q.length:=by omega
    have key:qlj9t (a,b,()) ((i:Int),())=some (if p[i]=q[i] then .inl (((i+1:Nat):Int),()) else .inr (.inl (decide (p[i] < q[i]),()))):=by
      unfold qlj9t
      simp only [ha,hb,dcT (show (i:Int) < (p.length:Int) by omega),dcT (show (i:Int) < (q.length:Int) by omega),cond_true,q1j71 hi,q1j71 hi2,Option.bind_some,qerg8,wrapS (show i < 9223372036854775807 by omega)]
      split <;> rfl
    rw [List.drop_eq_getElem_cons hi,List.drop_eq_getElem_cons hi2,decide_eq_decide.2 (qxm1e p[i] q[i] _ _)]
    by_cases h:p[i]=q[i]
    · rw [if_pos h] at key
      rw [q2k3l key,qcx65 hp hq a b ha hb n (i+1) (by omega) (by rw [List.take_succ_eq_append_getElem hi,List.take_succ_eq_append_getElem hi2,he,h])]
      refine qu7c4 ⟨fun g=>.inr ⟨h,g⟩,fun g=>?_⟩
      rcases g with g | g
      · omega
      · exact g.2
    · rw [if_neg h] at key
      rw [q7xfb key]
      simp only [Option.bind_some,Sum.elim_inl]
      exact qu7c4 ⟨.inl,fun g=>g.resolve_right fun g=>h g.1⟩
theorem q7ty6 {a b:Sm} (ha:okS a) (hb:okS b) (ho:outS a=outS b):qb7ka (a,b,())=some (aheadB a b,()):=by
  have h4:=q4qoc ha
  have hab:aheadB a b=decide (a.1 < b.1∨a.1=b.1∧(a.2.1 < b.2.1∨a.2.1=b.2.1∧cmpL a.2.2.1 b.2.2.1 < 0)):=decide_eq_decide.2 ((qxm1e a.1 b.1 _ _).trans (or_congr_right (and_congr_right fun _=>qxm1e a.2.1 b.2.1 a.2.2.1 b.2.2.1)))
  rw [hab]
  unfold qb7ka
  simp only [qerg8]
  by_cases h1:a.1=b.1
  · rw [if_pos h1]
    by_cases h2:a.2.1=b.2.1
    · rw [if_pos h2]
      have hlen:b.2.2.1.length=a.2.2.1.length:=by unfold outS at ho; omega
      have:=qcx65 (p:=a.2.2.1) (q:=b.2.2.1) (by omega) hlen a b rfl rfl a.2.2.1.length 0 (by omega) rfl
      simp only [List.drop_zero] at this
      refine this.trans ?_
      refine qu7c4 ⟨fun g=>.inr ⟨h1,.inr ⟨h2,g⟩⟩,fun g=>?_⟩
      rcases g with g | ⟨-,g | g⟩
      · omega
      · omega
      · exact g.2
    · rw [if_neg h2]
      refine qu7c4 ⟨fun g=>.inr ⟨h1,.inl g⟩,fun g=>?_⟩
      rcases g with g | ⟨-,g | g⟩
      · omega
      · exact g
      · exact absurd g.1 h2
  · rw [if_neg h1]
    exact qu7c4 ⟨.inl,fun g=>g.resolve_right fun g=>h1 g.1⟩
def insA (s:Sm):List Sm→List Sm
  | []=>[s]
  | r :: o=>if aheadB s r=true then s :: r :: o else r :: insA s o
theorem qhdf1 {s r:Sm}:∀ {m:List Sm},m.any (aheadB s)=true→insA s (m++[r])=insA s m++[r]
  | [],h=>by simp at h
  | x :: m,h=>by
    rw [List.any_cons,Bool.or_eq_true] at h
    simp only [List.cons_append,insA]
    cases hx:aheadB s x with
    | true=>simp
    | false =>
      rw [hx] at h
      simp only [Bool.false_eq_true,if_false,List.cons_append]
      rw [qhdf1 (h.resolve_left (by simp))]
theorem qzlf0 {s:Sm}:∀ {m t:List Sm},m.any (aheadB s)=false→insA s (m++t)=m++insA s t
  | [],t,_=>rfl
  | x :: m,t,h=>by
    rw [List.any_cons,Bool.or_eq_false_iff] at h
    simp only [List.cons_append,insA,h.1,Bool.false_eq_true,if_false]
    rw [qzlf0 h.2]
theorem insA_mem {s x:Sm}:∀ {m:List Sm},x∈insA s m↔x=s∨x∈m
  | []=>by simp [insA]
  | r :: m=>by
    simp only [insA]
    split
    · simp
    · rw [List.mem_cons,insA_mem,List.mem_cons]
      constructor
      · rintro (h | h | h)
        · exact .inr (.inl h)
        · exact .inl h
        · exact .inr (.inr h)
      · rintro (h | h | h)
        · exact .inr (.inl h)
        · exact .inl h
        · exact .inr (.inr h)
theorem qt59i (s:Sm):∀ m:List Sm,(insA s m).length=m.length+1
  | []=>rfl
  | r :: m=>by
    simp only [insA]
    split
    · rfl
    · rw [List.length_cons,qt59i,List.length_cons]
theorem q96ga {s:Sm}:∀ {m:List Sm},up (m.map keyS)→s ∉ m→up ((insA s m).map keyS)
  | [],_,_=>by simp [insA,up]
  | r :: m,h,hn=>by
    unfold up at h ⊢
    rw [List.map_cons,List.pairwise_cons] at h
    have hne:¬ cmpL (keyS s) (keyS r)=0:=fun e=>hn (by rw [qc4nx (cmpL_eq.1 e)]; exact List.mem_cons_self)
    simp only [insA]
    split
    · rename_i hs
      unfold aheadB at hs
      have hs:=of_decide_eq_true hs
      rw [List.map_cons,List.pairwise_cons]
      refine ⟨fun t ht=>?_,by rw [List.map_cons,List.pairwise_cons]; exact h⟩
      rw [List.map_cons] at ht
      rcases List.mem_cons.1 ht with rfl | ht
      · exact hs
      · exact qzobx hs (h.1 t ht)
    · rename_i hs
      unfold aheadB at hs
      have hs:¬ cmpL (keyS s) (keyS r) < 0:=fun e=>hs (decide_eq_true e)
      have hr:cmpL (keyS r) (keyS s) < 0:=by rw [qbq04]; omega
      rw [List.map_cons,List.pairwise_cons]
      refine ⟨fun t ht=>?_,q96ga h.2 fun hm=>hn (List.mem_cons_of_mem _ hm)⟩
      obtain ⟨x,hx,rfl⟩:=List.mem_map.1 ht
      rcases insA_mem.1 hx with rfl | hx
      · exact hr
      · exact h.1 _ (List.mem_map.2 ⟨x,hx,rfl⟩)
theorem qpqma {s:Sm} {out:List Sm} (hs:okS s) (ho:∀ r∈out,okS r∧outS r=outS s) (hl:out.length≤20000000) (i:Int) (z:Unit) :
    ∃ (next:List Sm) (put:Bool),loopM (qh6st (out,i,z) s) (([]:List Sm),false,(0:Int),())=some (.inl (next,put,()))∧next.length≤out.length+1∧(if put=true then next else next++[s])=insA s out:=by
  refine ⟨if out.any (aheadB s)=true then insA s out else out,out.any (aheadB s),?_,?_,?_⟩
  · have key:loopM (qh6st (out,i,z) s) (([]:List Sm),false,(0:Int),())=some (.inl (if (out.take out.length).any (aheadB s)=true then insA s (out.take out.length) else out.take out.length,(out.take out.length).any (aheadB s),())):=by
      refine q9h1y out.length (fun k=>(if (out.take k).any (aheadB s)=true then insA s (out.take k) else out.take k,(out.take k).any (aheadB s),(k:Int),())) _ (fun k hk=>?_) ?_ rfl
      · have hmr:=ho _ (List.getElem_mem hk)
        rw [List.take_succ_eq_append_getElem hk,List.any_append]
        have hlk:(out.take k).length=k:=by rw [List.length_take]; omega
        generalize out.take k=m at *
        have hlI:=qt59i s m
        unfold qh6st
        simp only [dcT (show (k:Int) < (out.length:Int) by omega),cond_true,q1j71 hk,Option.bind_some,wrapS (show k < 9223372036854775807 by omega),List.any_cons,List.any_nil,Bool.or_false]
        cases hb:m.any (aheadB s) with
        | true =>
          simp only [if_true,Bool.not_true,cond_false,Bool.true_or,qhdf1 hb,List.length_cons,List.length_nil,qu8rx (show (insA s m).length+(0+1)≤140737488355328 by omega) (show ((insA s m).length+(0+1))*40≤140737488355328 by omega),Bool.and_true,cond_true]
        | false =>
          simp only [Bool.false_eq_true,if_false,Bool.not_false,cond_true,q7ty6 hs hmr.1 hmr.2.symm,Option.bind_some,Bool.false_or]
          cases hx:aheadB s out[k] with
          | true =>
            rw [qzlf0 hb]
            simp only [cond_true,List.length_append,List.length_cons,List.length_nil,qu8rx (show m.length+(0+1)≤140737488355328 by omega) (show (m.length+(0+1))*40≤140737488355328 by omega),qu8rx (show m.length+(0+1)+(0+1)≤140737488355328 by omega) (show (m.length+(0+1)+(0+1))*40≤140737488355328 by omega),Bool.and_true,if_true,insA,hx]
            simp
          | false =>
            simp only [cond_false,List.length_cons,List.length_nil,qu8rx (show m.length+(0+1)≤140737488355328 by omega) (show (m.length+(0+1))*40≤140737488355328 by omega),Bool.and_true,cond_true,Bool.false_eq_true,if_false]
      · unfold qh6st
        simp only [dcF (show ¬ (out.length:Int) < (out.length:Int) by omega),cond_false]
    rw [List.take_length] at key
    exact key
  · split
    · rw [qt59i]; exact Nat.le_refl _
    · omega
  · cases hb:out.any (aheadB s) with
    | true=>rfl
    | false =>
      simp only [Bool.false_eq_true,if_false]
      have:=qzlf0 (t:=[]) hb
      rw [List.append_nil] at this
      rw [this]; rfl
def goodAt (l:List Sm) (i:Nat):Bool:=((List.range l.length).all fun j=>!decide (l.getD j (0,0,[],())=l.getD i (0,0,[],())) || decide (i≤j)) && minS l (l.getD i (0,0,[],()))
theorem qayqt {l:List Sm} (hl:l.length≤20000000) (hok:∀ s∈l,okS s) (z:Unit) (K:List Sm) {i:Nat} (hi:i < l.length) :
    loopM (qin8b (l,z) l[i] (K,(i:Int),())) (true,(0:Int),())=some (.inl (goodAt l i,())):=by
  have hg:goodAt l i=(List.range l.length).all fun j=>if l.getD j (0,0,[],())=l[i] then decide (i≤j) else !leS (l.getD j (0,0,[],())) l[i]:=by
    have gi:l.getD i (0,0,[],())=l[i]:=by rw [List.getD_eq_getElem?_getD,List.getElem?_eq_getElem hi]; rfl
    rw [Bool.eq_iff_iff]
    unfold goodAt minS
    rw [Bool.and_eq_true,List.all_eq_true,List.all_eq_true,List.all_eq_true,gi]
    constructor
    · rintro ⟨h1,h2⟩ j hj
      have hj':=List.mem_range.1 hj
      have gj:l.getD j (0,0,[],())=l[j]:=by rw [List.getD_eq_getElem?_getD,List.getElem?_eq_getElem hj']; rfl
      have a1:=h1 j hj
      have a2:=h2 l[j] (List.getElem_mem hj')
      rw [gj] at a1 ⊢
      by_cases e:l[j]=l[i]
      · simpa [e] using a1
      · simpa [e] using a2
    · intro h
      refine ⟨fun j hj=>?_,fun r hr=>?_⟩
      · have:=h j hj
        split at this
        · rename_i e; simp [of_decide_eq_true this]
        · rename_i e
          rw [decide_eq_false e]; rfl
      · obtain ⟨j,hj,rfl⟩:=List.mem_iff_getElem.1 hr
        have gj:l.getD j (0,0,[],())=l[j]:=by rw [List.getD_eq_getElem?_getD,List.getElem?_eq_getElem hj]; rfl
        have:=h j (List.mem_range.2 hj)
        rw [gj] at this
        split at this
        · rename_i e; simp [e]
        · rename_i e; simp [e]; simpa using this
  rw [hg]
  refine q9h1y l.length (fun k=>((List.range k).all fun j=>if l.getD j (0,0,[],())=l[i] then decide (i≤j) else !leS (l.getD j (0,0,[],())) l[i],(k:Int),())) _ (fun k hk=>?_) ?_ rfl
  · rw [List.range_succ,List.all_append]
    generalize ((List.range k).all fun j=>if l.getD j (0,0,[],())=l[i] then decide (i≤j) else !leS (l.getD j (0,0,[],())) l[i])=b
    have gk:l.getD k (0,0,[],())=l[k]:=by rw [List.getD_eq_getElem?_getD,List.getElem?_eq_getElem hk]; rfl
    have h4:=q4qoc (hok _ (List.getElem_mem hi))
    unfold qin8b
    simp only [dcT (show (k:Int) < (l.length:Int) by omega),cond_true,q1j71 hk,Option.bind_some,wrapS (show k < 9223372036854775807 by omega),List.all_cons,List.all_nil,Bool.and_true,gk,qi7rb (show (l[i]).2.2.1.length≤1000000 by omega),qcpuo (hok _ (List.getElem_mem hk)) (hok _ (List.getElem_mem hi))]
    by_cases e:l[i]=l[k]
    · rw [decide_eq_true e,if_pos e.symm]
      simp only [cond_true]
      cases b with
      | true =>
        simp only [cond_true,Bool.true_and]
        rw [show decide ((i:Int)≤(k:Int))=decide (i≤k) from decide_eq_decide.2 (by omega)]
      | false=>rfl
    · rw [decide_eq_false e,if_neg fun h=>e h.symm]
      simp only [cond_false]
      cases leS l[k] l[i] with
      | true=>simp
      | false=>simp
  · unfold qin8b
    simp only [dcF (show ¬ (l.length:Int) < (l.length:Int) by omega),cond_false]
theorem qvkly {l:List Sm} (hl:l.length≤10000000) (hok:∀ s∈l,okS s) (ho:∀ s∈l,∀ r∈l,outS s=outS r):q0lr5 (l,())=some (frontQ l,()):=by
  have main:∀ n i (out:List Sm),i+n=l.length→out.length≤i→(∀ s,s∈out↔s∈l.take i∧minS l s=true)→up (out.map keyS) →
      ∃ out2:List Sm,loopM (qqs1s (l,())) (out,(i:Int),())=some (.inl (out2,()))∧(∀ s,s∈out2↔s∈l∧minS l s=true)∧up (out2.map keyS):=by
    intro n
    induction n with
    | zero =>
      intro i out hn _ hm hu
      obtain rfl:i=l.length:=by omega
      refine ⟨out,q7xfb ?_,by rw [List.take_length] at hm; exact hm,hu⟩
      unfold qqs1s
      simp only [dcF (show ¬ (l.length:Int) < (l.length:Int) by omega),cond_false]
    | succ n ih =>
      intro i out hn hlo hm hu
      have hi:i < l.length:=by omega
      have gi:l.getD i (0,0,[],())=l[i]:=by rw [List.getD_eq_getElem?_getD,List.getElem?_eq_getElem hi]; rfl
      have hmi:=List.getElem_mem hi
      obtain ⟨next,put,h1,h2,h3⟩:=qpqma (out:=out) (hok _ hmi) (fun r hr=>by
        have:=List.mem_of_mem_take ((hm r).1 hr).1
        exact ⟨hok r this,ho r this _ hmi⟩) (by omega) (i:Int) ()
      have key:qqs1s (l,()) (out,(i:Int),())=some (.inl (if goodAt l i=true then insA l[i] out else out,((i+1:Nat):Int),())):=by
        unfold qqs1s
        simp only [dcT (show (i:Int) < (l.length:Int) by omega),cond_true,q1j71 hi,Option.bind_some]
        rw [qayqt (by omega) hok () out hi]
        simp only [Option.bind_some,Sum.elim_inl,wrapS (show i < 9223372036854775807 by omega)]
        cases goodAt l i with
        | false=>rfl
        | true =>
          simp only [Bool.not_true,cond_false,h1,Option.bind_some,Sum.elim_inl,if_true]
          cases put with
          | true =>
            simp only [if_true] at h3
            simp only [Bool.not_true,cond_false,h3]
          | false =>
            simp only [Bool.false_eq_true,if_false] at h3
            simp only [Bool.not_false,cond_true,List.length_cons,List.length_nil,qu8rx (show next.length+(0+1)≤140737488355328 by omega) (show (next.length+(0+1))*40≤140737488355328 by omega),Bool.and_true,h3]
      rw [q2k3l key]
      have hfirst:goodAt l i=true↔l[i] ∉ l.take i∧minS l l[i]=true:=by
        unfold goodAt
        rw [Bool.and_eq_true,List.all_eq_true,gi]
        constructor
        · rintro ⟨a1,a2⟩
          refine ⟨fun hmem=>?_,a2⟩
          obtain ⟨j,hj,e⟩:=List.mem_iff_getElem.1 hmem
          rw [List.length_take] at hj
          rw [List.getElem_take] at e
          have:=a1 j (List.mem_range.2 (by omega))
          rw [List.getD_eq_getElem?_getD,List.getElem?_eq_getElem (show j < l.length by omega),Option.getD_some,e] at this
          simp at this
          omega
        · rintro ⟨a1,a2⟩
          refine ⟨fun j hj=>?_,a2⟩
          have hj:=List.mem_range.1 hj
          rw [List.getD_eq_getElem?_getD,List.getElem?_eq_getElem hj,Option.getD_some]
          by_cases e:l[j]=l[i]
          · have:i≤j:=Classical.byContradiction fun h=>a1 (List.mem_iff_getElem.2 ⟨j,by rw [List.length_take]; omega,by rw [List.getElem_take]; exact e⟩)
            simp [this]
          · simp [e]
      refine ih (i+1) _ (by omega) ?_ (fun s=>?_) ?_
      · split
        · rw [qt59i]; omega
        · omega
      · rw [List.take_succ_eq_append_getElem hi,List.mem_append,List.mem_singleton]
        split
        · rename_i hg
          have hg:=hfirst.1 hg
          rw [insA_mem,hm]
          constructor
          · rintro (rfl | ⟨b1,b2⟩)
            · exact ⟨.inr rfl,hg.2⟩
            · exact ⟨.inl b1,b2⟩
          · rintro ⟨b1 | rfl,b2⟩
            · exact .inr ⟨b1,b2⟩
            · exact .inl rfl
        · rename_i hg
          rw [hm]
          constructor
          · rintro ⟨b1,b2⟩; exact ⟨.inl b1,b2⟩
          · rintro ⟨b1 | rfl,b2⟩
            · exact ⟨b1,b2⟩
            · exact ⟨Classical.byContradiction fun h=>hg (hfirst.2 ⟨h,b2⟩),b2⟩
      · split
        · rename_i hg
          have hg:=hfirst.1 hg
          exact q96ga hu fun hmem=>hg.1 ((hm _).1 hmem).1
        · exact hu
  obtain ⟨out,h1,h2,h3⟩:=main l.length 0 [] (by omega) (Nat.le_refl _) (fun s=>by simp) (by simp [up])
  have e0:((0:Nat):Int)=0:=rfl
  rw [e0] at h1
  unfold q0lr5
  rw [h1]
  simp only [Option.bind_some,Sum.elim_inl]
  congr 2
  obtain ⟨hup,hmem⟩:=qt88e (l:=l)
  have hk:out.map keyS=(frontQ l).map keyS:=by
    refine q134b h3 ?_ fun t=>?_
    · unfold frontQ up
      unfold up at hup
      rw [List.pairwise_map] at hup ⊢
      exact hup.filter _
    · rw [List.mem_map,List.mem_map]
      constructor
      · rintro ⟨s,hs,rfl⟩
        have:=(h2 s).1 hs
        exact ⟨s,List.mem_filter.2 ⟨(hmem s).2 this.1,this.2⟩,rfl⟩
      · rintro ⟨s,hs,rfl⟩
        have:=List.mem_filter.1 hs
        exact ⟨s,(h2 s).2 ⟨(hmem s).1 this.1,this.2⟩,rfl⟩
  have:=congrArg (List.map unkey) hk
  rw [List.map_map,List.map_map] at this
  have e:∀ m:List Sm,m.map (unkey∘keyS)=m:=fun m=>(List.map_congr_left fun a _=>q3kqr a).trans (List.map_id _)
  rw [e,e] at this
  exact this
end

section
open Go Go.Abs

def kN (s:Sm):Nat:=s.1.toNat
def oN (s:Sm):Nat:=s.1.toNat+s.2.2.1.length
def pN (s:Sm) (i:Nat):Int:=plc (kN s) s.2.1 s.2.2.1 i
theorem k_le_o (s:Sm):kN s≤oN s:=Nat.le_add_right ..
theorem pN_low {s:Sm} {i:Nat} (h:i+1 < kN s):pN s i=0:=by
  unfold pN plc
  rw [if_pos (by omega),if_neg (by omega)]
theorem pN_out {s:Sm} {i:Nat} (h:oN s≤i):pN s i=0:=by
  unfold oN at h
  unfold pN plc kN
  rw [if_neg (by omega),List.getD_eq_getElem?_getD,List.getElem?_eq_none (by omega)]; rfl
theorem leS_iff {a b:Sm}:leS a b=true↔oN a=oN b∧∀ i,i < oN a→pN a i≤pN b i∧(i < kN a→i < kN b):=by
  unfold leS
  rw [Bool.and_eq_true,decide_eq_true_eq,Bool.not_eq_true',List.any_eq_false]
  show oN a=oN b∧_↔_
  refine and_congr_right fun ho=>⟨fun h i hi=>?_,fun h i hi=>?_⟩
  · have:=h i (List.mem_range.2 hi)
    unfold qafgx at this
    rw [Bool.or_eq_true,decide_eq_true_eq,Bool.and_eq_true,Bool.not_eq_true',decide_eq_true_eq,decide_eq_false_iff_not] at this
    show plc _ _ _ i≤plc _ _ _ i∧_
    unfold kN
    omega
  · have:=h i (List.mem_range.1 hi)
    unfold pN kN at this
    unfold qafgx
    rw [Bool.or_eq_true,decide_eq_true_eq,Bool.and_eq_true,Bool.not_eq_true',decide_eq_true_eq,decide_eq_false_iff_not]
    omega
theorem qigyx (a:Sm):leS a a=true:=leS_iff.2 ⟨rfl,fun i _=>⟨Int.le_refl _,id⟩⟩
theorem qrxyu {a b c:Sm} (h1:leS a b=true) (h2:leS b c=true):leS a c=true:=by
  obtain ⟨o1,p1⟩:=leS_iff.1 h1
  obtain ⟨o2,p2⟩:=leS_iff.1 h2
  exact leS_iff.2 ⟨o1.trans o2,fun i hi=>⟨Int.le_trans (p1 i hi).1 (p2 i (by omega)).1,fun h=>(p2 i (by omega)).2 ((p1 i hi).2 h)⟩⟩
def wfS (s:Sm):Prop:=0≤s.1∧1≤kN s
theorem sm_ext {a b:Sm} (ha:wfS a) (hb:wfS b) (hk:kN a=kN b) (ho:oN a=oN b) (hp:∀ i,i < oN a→pN a i=pN b i):a=b:=by
  obtain ⟨n,d,l,⟨⟩⟩:=a
  obtain ⟨m,e,k,⟨⟩⟩:=b
  obtain ⟨a1,a2⟩:=ha
  obtain ⟨b1,b2⟩:=hb
  unfold kN at a2 b2 hk
  unfold oN at ho
  unfold pN kN oN at hp
  simp only at a1 a2 b1 b2 hk ho hp
  obtain rfl:n=m:=by omega
  have hl:l.length=k.length:=by omega
  have hd:d=e:=by
    have:=hp (n.toNat - 1) (by omega)
    unfold plc at this
    rw [if_pos (by omega),if_pos (by omega),if_pos (by omega),if_pos (by omega)] at this
    exact this
  have hlk:l=k:=by
    refine List.ext_getElem hl fun i h1 h2=>?_
    have:=hp (n.toNat+i) (by omega)
    unfold plc at this
    rw [if_neg (by omega),if_neg (by omega),Nat.add_sub_cancel_left,List.getD_eq_getElem?_getD,List.getD_eq_getElem?_getD,List.getElem?_eq_getElem h1,List.getElem?_eq_getElem h2] at this
    exact this
  rw [hd,hlk]
theorem q7l1u {a b:Sm} (ha:wfS a) (hb:wfS b) (h1:leS a b=true) (h2:leS b a=true):a=b:=by
  obtain ⟨o1,p1⟩:=leS_iff.1 h1
  obtain ⟨o2,p2⟩:=leS_iff.1 h2
  have ka:=k_le_o a
  have kb:=k_le_o b
  obtain ⟨a1,a2⟩:=ha
  obtain ⟨b1,b2⟩:=hb
  refine sm_ext ⟨a1,a2⟩ ⟨b1,b2⟩ ?_ o1 fun i hi=>Int.le_antisymm (p1 i hi).1 (p2 i (by omega)).1
  have q1:=(p1 (kN a - 1) (by omega)).2 (by omega)
  have q2:=(p2 (kN b - 1) (by omega)).2 (by omega)
  omega
def cS (s r:Sm):Sm:=(((min (kN r) (kN s):Nat):Int),thenX (kN s) s.2.1 s.2.2.1 (kN r) r.2.1 r.2.2.1 (min (kN r) (kN s) - 1),(List.range' (min (kN r) (kN s)) (oN r - min (kN r) (kN s))).map (thenX (kN s) s.2.1 s.2.2.1 (kN r) r.2.1 r.2.2.1),())
theorem kN_cS (s r:Sm):kN (cS s r)=min (kN r) (kN s):=by
  show Int.toNat ((min (kN r) (kN s):Nat):Int)=_
  exact Int.toNat_natCast _
theorem oN_cS (s r:Sm):oN (cS s r)=oN r:=by
  have h1:=kN_cS s r
  have:=k_le_o r
  show kN (cS s r)+(((List.range' (min (kN r) (kN s)) (oN r - min (kN r) (kN s))).map _).length)=_
  rw [h1,List.length_map,List.length_range']
  omega
theorem pN_cS {s r:Sm} (hs:1≤kN s) (hr:1≤kN r) {i:Nat} (hi:i < oN r):pN (cS s r) i=if i < kN r then pN r i+pN s i else pN r i:=by
  show plc (kN (cS s r)) (thenX (kN s) s.2.1 s.2.2.1 (kN r) r.2.1 r.2.2.1 (min (kN r) (kN s) - 1)) ((List.range' (min (kN r) (kN s)) (oN r - min (kN r) (kN s))).map (thenX (kN s) s.2.1 s.2.2.1 (kN r) r.2.1 r.2.2.1)) i=_
  have ht:∀ j,thenX (kN s) s.2.1 s.2.2.1 (kN r) r.2.1 r.2.2.1 j=if j < kN r then pN r j+pN s j else pN r j:=fun j=>rfl
  rw [kN_cS]
  unfold plc
  by_cases h1:i < min (kN r) (kN s)
  · rw [if_pos h1]
    by_cases h2:i+1=min (kN r) (kN s)
    · rw [if_pos h2,ht,show min (kN r) (kN s) - 1=i by omega]
    · rw [if_neg h2,if_pos (by omega),pN_low (s:=r) (by omega),pN_low (s:=s) (by omega)]; rfl
  · rw [if_neg h1,List.getD_eq_getElem?_getD,List.getElem?_map,List.getElem?_range' (by omega),Option.map_some,Option.getD_some,ht,show min (kN r) (kN s)+1*(i - min (kN r) (kN s))=i by omega]
theorem wf_cS {s r:Sm} (hs:wfS s) (hr:wfS r):wfS (cS s r):=⟨Int.natCast_nonneg _,by have:=hs.2; have:=hr.2; rw [kN_cS]; omega⟩
theorem qtpr5 {x s q:Sm} (hx:wfS x) (hs:wfS s) (hq:wfS q) (h1:kN q≤oN s):cS (cS x s) q=cS x (cS s q):=by
  have a1:=hx.2
  have a2:=hs.2
  have a3:=hq.2
  have hxs:=wf_cS hx hs
  have hsq:=wf_cS hs hq
  refine sm_ext (wf_cS hxs hq) (wf_cS hx hsq) (by simp only [kN_cS]; omega) (by simp only [oN_cS]) fun i hi=>?_
  rw [oN_cS] at hi
  rw [pN_cS hxs.2 a3 hi,pN_cS a1 hsq.2 (by rw [oN_cS]; exact hi),pN_cS a2 a3 hi,kN_cS s q]
  by_cases h2:i < kN q
  · rw [if_pos h2,pN_cS a1 a2 (by omega)]
    by_cases h3:i < kN s
    · rw [if_pos h3,if_pos (by omega),if_pos h2]; omega
    · rw [if_neg h3,if_neg (by omega),if_pos h2]
  · rw [if_neg h2,if_neg (by omega),if_neg h2]
theorem qn8y7 {x q q':Sm} (hx:wfS x) (hx0:∀ i,0≤pN x i) (hq:wfS q) (hq':wfS q') (h:leS q q'=true):leS (cS x q) (cS x q')=true:=by
  obtain ⟨o,p⟩:=leS_iff.1 h
  refine leS_iff.2 ⟨by rw [oN_cS,oN_cS,o],fun i hi=>?_⟩
  rw [oN_cS] at hi
  have h0:=hx0 i
  have hp:=p i hi
  rw [pN_cS hx.2 hq.2 hi,pN_cS hx.2 hq'.2 (by omega),kN_cS,kN_cS]
  refine ⟨?_,fun g=>?_⟩
  · by_cases g:i < kN q
    · rw [if_pos g,if_pos (hp.2 g)]; omega
    · rw [if_neg g]
      split <;> omega
  · have:=hp.2 (by omega)
    omega
theorem qp5v4 {x x' q:Sm} (hx:wfS x) (hx':wfS x') (hq:wfS q) (hk:kN q≤oN x) (h:leS x x'=true):leS (cS x q) (cS x' q)=true:=by
  obtain ⟨o,p⟩:=leS_iff.1 h
  refine leS_iff.2 ⟨by rw [oN_cS,oN_cS],fun i hi=>?_⟩
  rw [oN_cS] at hi
  rw [pN_cS hx.2 hq.2 hi,pN_cS hx'.2 hq.2 hi,kN_cS,kN_cS]
  refine ⟨?_,fun g=>?_⟩
  · by_cases g:i < kN q
    · have:=(p i (by omega)).1
      rw [if_pos g,if_pos g]; omega
    · rw [if_neg g,if_neg g]; exact Int.le_refl _
  · have:=(p i (by omega)).2 (by omega)
    omega
structure bx (s:Sm):Prop where
  wf:wfS s
  o4:oN s≤4
  p0:∀ i,0≤pN s i∧pN s i≤12
theorem qacjf {v:Int} (h:0≤v∧v≤12):bad v=false:=by
  unfold bad
  simp only [Bool.or_eq_false_iff,decide_eq_false_iff_not]
  omega
theorem bx.parts {s:Sm} (h:bx s):(0≤s.2.1∧s.2.1≤12)∧∀ v∈s.2.2.1,0≤v∧v≤12:=by
  have h1:=h.wf.2
  constructor
  · have:=h.p0 (kN s - 1)
    unfold pN plc at this
    rw [if_pos (by omega),if_pos (by omega)] at this
    exact this
  · intro v hv
    obtain ⟨i,hi,rfl⟩:=List.mem_iff_getElem.1 hv
    have:=h.p0 (kN s+i)
    unfold pN plc at this
    rw [if_neg (by omega),Nat.add_sub_cancel_left,List.getD_eq_getElem?_getD,List.getElem?_eq_getElem hi] at this
    exact this
theorem bx.sck {s:Sm} (h:bx s) {m:Nat} (h1:kN s≤m) (h2:m≤4):sck s.1 s.2.1 s.2.2.1 (m:Int)=0:=by
  obtain ⟨hd,hl⟩:=h.parts
  obtain ⟨w1,w2⟩:=h.wf
  have o4:=h.o4
  unfold oN at o4
  unfold kN at w2 h1
  have hb:(bad s.2.1 || s.2.2.1.any bad)=false:=by
    rw [Bool.or_eq_false_iff]
    refine ⟨qacjf hd,List.any_eq_false.2 fun v hv=>by rw [qacjf (hl v hv)]; simp⟩
  show (if (m:Int) < 1∨(m:Int) > 4∨s.1 < 1∨s.1 > (m:Int)∨(s.2.2.1.length:Int) > 4 - s.1 then (1:Int) else if (bad s.2.1 || s.2.2.1.any bad)=true then 2 else 0)=0
  rw [if_neg (by omega),if_neg (by rw [hb]; simp)]
theorem bx.ok {s:Sm} (h:bx s):okS s:=h.sck (m:=4) (Nat.le_trans (k_le_o s) h.o4) (Nat.le_refl _)
theorem bx.nat {s:Sm} (h:bx s):s=(((kN s:Nat):Int),s.2.1,s.2.2.1,()):=by
  have:=h.wf.1
  obtain ⟨n,d,l,⟨⟩⟩:=s
  show (n,d,l,())=(((n.toNat:Nat):Int),d,l,())
  rw [Int.toNat_of_nonneg this]
theorem q0tuh {s r:Sm} (hs:bx s) (hr:bx r):thenR (kN s) s.2.1 s.2.2.1 (kN r) r.2.1 r.2.2.1=(cS s r,0,()):=by
  unfold thenR
  have h1:=hs.p0 (kN r - 1)
  have h2:=hr.p0 (kN r - 1)
  have:¬ thenX (kN s) s.2.1 s.2.2.1 (kN r) r.2.1 r.2.2.1 (kN r - 1) > 1048576:=by
    show ¬ (if kN r - 1 < kN r then pN r (kN r - 1)+pN s (kN r - 1) else pN r (kN r - 1)) > 1048576
    split <;> omega
  rw [if_neg this]
  rfl
theorem q8vao {s r:Sm} (hs:bx s) (hr:bx r) (h:kN r≤oN s):qaw8o (s,r,())=some (cS s r,0,()):=by
  have h1:=hs.ok
  have h2:=hr.sck h hs.o4
  have e1:=hs.nat
  have e2:=hr.nat
  have:=qvt2l (n:=kN s) (d:=s.2.1) (l:=s.2.2.1) (m:=kN r) (e:=r.2.1) (k:=r.2.2.1) (by unfold okS at h1; rw [e1] at h1; exact h1) (by rw [e2] at h2; exact h2)
  rw [←e1,←e2,q0tuh hs hr] at this
  exact this
theorem ql44q {s r:Sm} (hs:bx s) (hr:bx r) (h:kN r≤oN s):qpb1b (s,r,())=some (cS s r,0,()):=by
  have h1:=hs.ok
  have h2:=hr.sck h hs.o4
  have e1:=hs.nat
  have e2:=hr.nat
  have:=qjm3w (n:=kN s) (d:=s.2.1) (l:=s.2.2.1) (m:=kN r) (e:=r.2.1) (k:=r.2.2.1) (by unfold okS at h1; rw [e1] at h1; exact h1) (by rw [e2] at h2; exact h2)
  rw [←e1,←e2,q0tuh hs hr] at this
  exact this
theorem q1jtt {α:Type} {p q:α→Bool}:∀ {l:List α},(∀ x∈l,p x=true→q x=true)→(∃ x∈l,p x=false∧q x=true)→l.countP p < l.countP q
  | [],_,⟨x,hx,_⟩=>by cases hx
  | a :: l,h,⟨x,hx,h1,h2⟩=>by
    have hm:l.countP p≤l.countP q:=List.countP_mono_left fun y hy=>h y (List.mem_cons_of_mem _ hy)
    rw [List.countP_cons,List.countP_cons]
    rcases List.mem_cons.1 hx with rfl | hx
    · rw [h1,h2]
      simp only [Bool.false_eq_true,if_false,if_true]
      omega
    · have ih:=q1jtt (l:=l) (fun y hy=>h y (List.mem_cons_of_mem _ hy)) ⟨x,hx,h1,h2⟩
      have:=h a List.mem_cons_self
      cases hp:p a with
      | true=>rw [this hp]; simp only [if_true]; omega
      | false=>simp only [Bool.false_eq_true,if_false]; split <;> omega
theorem mem_front {l:List Sm} {x:Sm}:x∈frontQ l↔x∈l∧∀ r∈l,leS r x=true→r=x:=by
  unfold frontQ
  rw [List.mem_filter,(qt88e (l:=l)).2]
  refine and_congr_right fun _=>?_
  unfold minS
  rw [List.all_eq_true]
  refine forall_congr' fun r=>forall_congr' fun _=>?_
  rw [Bool.or_eq_true,decide_eq_true_eq,Bool.not_eq_true']
  cases leS r x <;> simp
theorem qakfb (l:List Sm):up ((frontQ l).map keyS):=by
  have h:=(qt88e (l:=l)).1
  unfold up at h ⊢
  rw [List.pairwise_map] at h ⊢
  exact h.filter _
theorem q6nhl {l:List Sm} (hw:∀ s∈l,wfS s):∀ {x:Sm},x∈l→∃ y∈frontQ l,leS y x=true:=by
  have key:∀ (n:Nat) (x:Sm),x∈l→l.countP (fun r=>leS r x)≤n→∃ y∈frontQ l,leS y x=true:=by
    intro n
    induction n with
    | zero =>
      intro x hx hn
      have:0 < l.countP (fun r=>leS r x):=List.countP_pos_iff.2 ⟨x,hx,qigyx x⟩
      omega
    | succ n ih =>
      intro x hx hn
      by_cases hm:∀ r∈l,leS r x=true→r=x
      · exact ⟨x,mem_front.2 ⟨hx,hm⟩,qigyx x⟩
      · have:∃ r,r∈l∧leS r x=true∧r≠x:=by
          apply Classical.byContradiction
          intro hc
          exact hm fun r hr h=>Classical.byContradiction fun hne=>hc ⟨r,hr,h,hne⟩
        obtain ⟨r,hr,h1,h2⟩:=this
        have hlt:l.countP (fun t=>leS t r) < l.countP (fun t=>leS t x):=q1jtt (fun t _ ht=>qrxyu ht h1) ⟨x,hx,by
          cases hc:leS x r with
          | false=>rfl
          | true=>exact absurd (q7l1u (hw r hr) (hw x hx) h1 hc) h2,qigyx x⟩
        obtain ⟨y,hy,h3⟩:=ih r hr (by omega)
        exact ⟨y,hy,qrxyu h3 h1⟩
  exact fun {x} hx=>key _ x hx (Nat.le_refl _)
theorem q0k8p:∀ {a b:List Sm},up (a.map keyS)→up (b.map keyS)→(∀ x,x∈a↔x∈b)→a=b
  | [],[],_,_,_=>rfl
  | [],y :: b,_,_,h=>by have:=(h y).2 List.mem_cons_self; cases this
  | x :: a,[],_,_,h=>by have:=(h x).1 List.mem_cons_self; cases this
  | x :: a,y :: b,ha,hb,h=>by
    unfold up at ha hb
    rw [List.map_cons,List.pairwise_cons] at ha hb
    have hxy:x=y:=by
      rcases List.mem_cons.1 ((h x).1 List.mem_cons_self) with e | hx
      · exact e
      rcases List.mem_cons.1 ((h y).2 List.mem_cons_self) with e | hy
      · exact e.symm
      exact absurd (qzobx (ha.1 _ (List.mem_map_of_mem hy)) (hb.1 _ (List.mem_map_of_mem hx))) (qjd07 _)
    subst hxy
    have nx:∀ {l:List Sm},(∀ t∈l.map keyS,cmpL (keyS x) t < 0)→x ∉ l:=fun g hx=>qjd07 _ (g _ (List.mem_map_of_mem hx))
    congr 1
    refine q0k8p ha.2 hb.2 fun t=>⟨fun ht=>?_,fun ht=>?_⟩
    · rcases List.mem_cons.1 ((h t).1 (List.mem_cons_of_mem _ ht)) with rfl | g
      · exact absurd ht (nx ha.1)
      · exact g
    · rcases List.mem_cons.1 ((h t).2 (List.mem_cons_of_mem _ ht)) with rfl | g
      · exact absurd ht (nx hb.1)
      · exact g
structure anti (l:List Sm):Prop where
  u:up (l.map keyS)
  m:∀ x∈l,∀ y∈l,leS y x=true→y=x
theorem qzbgm (l:List Sm):anti (frontQ l):=⟨qakfb l,fun x hx y hy h=>(mem_front.1 hx).2 y (mem_front.1 hy).1 h⟩
theorem q3hgn:anti []:=⟨List.Pairwise.nil,fun x hx=>by cases hx⟩
theorem qrc03 {a b:List Sm} (ha:anti a) (hb:anti b) (wa:∀ s∈a,wfS s) (wb:∀ s∈b,wfS s) (h1:∀ x∈a,∃ y∈b,leS y x=true) (h2:∀ x∈b,∃ y∈a,leS y x=true):a=b:=by
  refine q0k8p ha.u hb.u fun x=>⟨fun hx=>?_,fun hx=>?_⟩
  · obtain ⟨y,hy,hyx⟩:=h1 x hx
    obtain ⟨z,hz,hzy⟩:=h2 y hy
    have e:=ha.m x hx z hz (qrxyu hzy hyx)
    subst e
    rw [q7l1u (wa _ hx) (wb _ hy) hzy hyx]; exact hy
  · obtain ⟨y,hy,hyx⟩:=h2 x hx
    obtain ⟨z,hz,hzy⟩:=h1 y hy
    have e:=hb.m x hx z hz (qrxyu hzy hyx)
    subst e
    rw [q7l1u (wb _ hx) (wa _ hy) hzy hyx]; exact hy
end

section
open Go Go.Abs

theorem qh4si {α:Type} [DecidableEq α]:∀ {l m:List α},l.Nodup→(∀ x∈l,x∈m)→l.length≤m.length
  | [],_,_,_=>Nat.zero_le _
  | a :: l,m,h,hs=>by
    have h':=List.nodup_cons.1 h
    have ha:=hs a List.mem_cons_self
    have h1:=qh4si (l:=l) (m:=m.erase a) h'.2 fun x hx=>(List.mem_erase_of_ne (fun e=>h'.1 (by rw [←e]; exact hx))).2 (hs x (List.mem_cons_of_mem _ hx))
    have h2:=List.length_erase_of_mem ha
    have h3:=List.length_pos_of_mem ha
    rw [List.length_cons]; omega
end

section
open Go Go.Abs

structure GR (n:Nat) (dep:Nat→Nat) (S:Nat→Sm) (ed:List (Nat × Nat)):Prop where
  n12:n≤12
  d1:∀ a,a < n→1≤dep a∧dep a≤4
  s0:∀ a,a < n→wfS (S a)∧kN (S a)≤dep a∧oN (S a)≤4∧∀ i,pN (S a) i=0∨(pN (S a) i=1∧i+1=dep a∧kN (S a)=dep a∧oN (S a)=dep a)
  e:∀ a b,(a,b)∈ed→a < n∧b < n∧oN (S a)=dep b
def idS (d:Nat):Sm:=((d:Int),0,[],())
theorem kN_id (d:Nat):kN (idS d)=d:=Int.toNat_natCast d
theorem oN_id (d:Nat):oN (idS d)=d:=by show Int.toNat (d:Int)+0=d; rw [Int.toNat_natCast]; rfl
theorem pN_id (d i:Nat):pN (idS d) i=0:=by
  unfold pN plc idS
  split
  · split <;> rfl
  · simp
theorem wf_id {d:Nat} (h:1≤d):wfS (idS d):=⟨Int.natCast_nonneg _,by rw [kN_id]; exact h⟩
structure shp (p q:Nat) (x:Sm):Prop where
  wf:wfS x
  k:kN x≤p
  o:oN x=q
  p0:∀ i,0≤pN x i
section
variable {n:Nat} {dep:Nat→Nat} {S:Nat→Sm} {ed:List (Nat × Nat)}
inductive Gf (n:Nat) (dep:Nat→Nat) (S:Nat→Sm) (ed:List (Nat × Nat)):Nat→Nat→Sm→Prop
  | id (u:Nat):u < n→Gf n dep S ed u u (idS (dep u))
  | snoc (u v b:Nat) (x:Sm):Gf n dep S ed u v x→(v,b)∈ed→Gf n dep S ed u b (cS x (S v))
inductive Gb (n:Nat) (dep:Nat→Nat) (S:Nat→Sm) (ed:List (Nat × Nat)):Nat→Nat→Sm→Prop
  | id (u:Nat):u < n→Gb n dep S ed u u (idS (dep u))
  | cons (a c b:Nat) (x:Sm):(a,c)∈ed→Gb n dep S ed c b x→Gb n dep S ed a b (cS (S a) x)
theorem GR.S0 (g:GR n dep S ed) {a:Nat} (ha:a < n) (i:Nat):0≤pN (S a) i:=by
  rcases (g.s0 a ha).2.2.2 i with h | h <;> omega
theorem GR.bxS (g:GR n dep S ed) {a:Nat} (ha:a < n):bx (S a):=⟨(g.s0 a ha).1,(g.s0 a ha).2.2.1,fun i=>by rcases (g.s0 a ha).2.2.2 i with h | h <;> omega⟩
theorem shp_id (g:GR n dep S ed) {u:Nat} (hu:u < n):shp (dep u) (dep u) (idS (dep u)):=⟨wf_id (g.d1 u hu).1,by rw [kN_id]; exact Nat.le_refl _,oN_id _,fun i=>by rw [pN_id]; exact Int.le_refl 0⟩
theorem cS_pos {s r:Sm} (hs:wfS s) (hr:wfS r) (s0:∀ i,0≤pN s i) (r0:∀ i,0≤pN r i) (i:Nat):0≤pN (cS s r) i:=by
  by_cases hi:i < oN r
  · rw [pN_cS hs.2 hr.2 hi]
    have:=s0 i
    have:=r0 i
    split <;> omega
  · rw [pN_out (by rw [oN_cS]; omega)]; exact Int.le_refl 0
theorem q0fz9 (g:GR n dep S ed) {p v b:Nat} {x:Sm} (h:shp p (dep v) x) (he:(v,b)∈ed):shp p (dep b) (cS x (S v)):=by
  obtain ⟨hv,hb,ho⟩:=g.e v b he
  obtain ⟨s1,s2,s3,s4⟩:=g.s0 v hv
  exact ⟨wf_cS h.wf s1,by rw [kN_cS]; have:=h.k; omega,by rw [oN_cS,ho],cS_pos h.wf s1 h.p0 (g.S0 hv)⟩
theorem qiwwr (g:GR n dep S ed) {a c q:Nat} {x:Sm} (he:(a,c)∈ed) (h:shp (dep c) q x):shp (dep a) q (cS (S a) x):=by
  obtain ⟨hv,hb,ho⟩:=g.e a c he
  obtain ⟨s1,s2,s3,s4⟩:=g.s0 a hv
  exact ⟨wf_cS s1 h.wf,by rw [kN_cS]; omega,by rw [oN_cS,h.o],cS_pos s1 h.wf (g.S0 hv) h.p0⟩
theorem Gf.ok (g:GR n dep S ed) {u v:Nat} {x:Sm} (h:Gf n dep S ed u v x):u < n∧v < n∧shp (dep u) (dep v) x:=by
  induction h with
  | id hu=>exact ⟨hu,hu,shp_id g hu⟩
  | snoc v b x _ he ih=>exact ⟨ih.1,(g.e v b he).2.1,q0fz9 g ih.2.2 he⟩
theorem Gb.ok (g:GR n dep S ed) {u v:Nat} {x:Sm} (h:Gb n dep S ed u v x):u < n∧v < n∧shp (dep u) (dep v) x:=by
  induction h with
  | id u hu=>exact ⟨hu,hu,shp_id g hu⟩
  | cons a c b x he _ ih=>exact ⟨(g.e a c he).1,ih.2.1,qiwwr g he ih.2.2⟩
abbrev Tb:=Nat→Nat→List Sm
structure PF (n:Nat) (dep:Nat→Nat) (S:Nat→Sm) (ed:List (Nat × Nat)) (P:Tb):Prop where
  gen:∀ u v,∀ x∈P u v,Gf n dep S ed u v x
  an:∀ u v,anti (P u v)
  st:∀ u,u < n→∃ y∈P u u,leS y (idS (dep u))=true
  ex:∀ u v,∀ x∈P u v,∀ b,(v,b)∈ed→∃ y∈P u b,leS y (cS x (S v))=true
structure QF (n:Nat) (dep:Nat→Nat) (S:Nat→Sm) (ed:List (Nat × Nat)) (Q:Tb):Prop where
  gen:∀ a b,∀ x∈Q a b,Gb n dep S ed a b x
  an:∀ a b,anti (Q a b)
  st:∀ u,u < n→∃ y∈Q u u,leS y (idS (dep u))=true
  ex:∀ c b,∀ x∈Q c b,∀ a,(a,c)∈ed→∃ y∈Q a b,leS y (cS (S a) x)=true
theorem id_cS {d:Nat} {q:Sm} (h1:1≤d) (hq:wfS q) (hk:kN q≤d):cS (idS d) q=q:=by
  refine sm_ext (wf_cS (wf_id h1) hq) hq (by rw [kN_cS,kN_id]; omega) (oN_cS ..) fun i hi=>?_
  rw [oN_cS] at hi
  rw [pN_cS (wf_id h1).2 hq.2 hi,pN_id]
  split <;> omega
theorem cS_id {d:Nat} {x:Sm} (h1:1≤d) (hx:wfS x) (ho:oN x=d):cS x (idS d)=x:=by
  have:=k_le_o x
  refine sm_ext (wf_cS hx (wf_id h1)) hx (by rw [kN_cS,kN_id]; omega) (by rw [oN_cS,oN_id,ho]) fun i hi=>?_
  rw [oN_cS,oN_id] at hi
  rw [pN_cS hx.2 (wf_id h1).2 (by rw [oN_id]; exact hi),pN_id,kN_id,if_pos hi]
  omega
theorem Gf.lows (g:GR n dep S ed) {Q:Tb} (hQ:QF n dep S ed Q) {u v:Nat} {x:Sm} (h:Gf n dep S ed u v x):∀ w,∀ q∈Q v w,∃ y∈Q u w,leS y (cS x q)=true:=by
  induction h with
  | id hu =>
    intro w q hq
    have hg:=((hQ.gen _ w q hq).ok g).2.2
    rw [id_cS (g.d1 _ hu).1 hg.wf hg.k]
    exact ⟨q,hq,qigyx q⟩
  | snoc v b x hx he ih =>
    intro w q hq
    obtain ⟨hv,hb,ho⟩:=g.e v b he
    obtain ⟨s1,s2,s3,s4⟩:=g.s0 v hv
    have hxg:=(hx.ok g).2.2
    have hqg:=((hQ.gen b w q hq).ok g).2.2
    obtain ⟨q',hq',l1⟩:=hQ.ex b w q hq v he
    obtain ⟨y,hy,l2⟩:=ih w q' hq'
    have hqg':=((hQ.gen v w q' hq').ok g).2.2
    refine ⟨y,hy,?_⟩
    rw [qtpr5 hxg.wf s1 hqg.wf (by rw [ho]; exact hqg.k)]
    exact qrxyu l2 (qn8y7 hxg.wf hxg.p0 hqg'.wf (wf_cS s1 hqg.wf) l1)
theorem Gb.lows (g:GR n dep S ed) {P:Tb} (hP:PF n dep S ed P) {a b:Nat} {r:Sm} (h:Gb n dep S ed a b r):∀ u,∀ x∈P u a,∃ y∈P u b,leS y (cS x r)=true:=by
  induction h with
  | id a ha =>
    intro u x hx
    have hg:=((hP.gen u a x hx).ok g).2.2
    rw [cS_id (g.d1 a ha).1 hg.wf hg.o]
    exact ⟨x,hx,qigyx x⟩
  | cons a c b r he hr ih =>
    intro u x hx
    obtain ⟨ha,hc,ho⟩:=g.e a c he
    obtain ⟨s1,s2,s3,s4⟩:=g.s0 a ha
    have hxg:=((hP.gen u a x hx).ok g).2.2
    have hrg:=(hr.ok g).2.2
    obtain ⟨x',hx',l1⟩:=hP.ex u a x hx c he
    obtain ⟨y,hy,l2⟩:=ih u x' hx'
    have hxg':=((hP.gen u c x' hx').ok g).2.2
    refine ⟨y,hy,?_⟩
    rw [←qtpr5 hxg.wf s1 hrg.wf (by rw [ho]; exact hrg.k)]
    exact qrxyu l2 (qp5v4 hxg'.wf (wf_cS hxg.wf s1) hrg.wf (by rw [hxg'.o]; exact hrg.k) l1)
theorem PQ_eq (g:GR n dep S ed) {P Q:Tb} (hP:PF n dep S ed P) (hQ:QF n dep S ed Q) (u v:Nat):P u v=Q u v:=by
  refine qrc03 (hP.an u v) (hQ.an u v) (fun s hs=>((hP.gen u v s hs).ok g).2.2.wf) (fun s hs=>((hQ.gen u v s hs).ok g).2.2.wf) (fun x hx=>?_) fun x hx=>?_
  · have h:=hP.gen u v x hx
    obtain ⟨hu,hv,hs⟩:=h.ok g
    obtain ⟨q,hq,l1⟩:=hQ.st v hv
    obtain ⟨y,hy,l2⟩:=h.lows g hQ v q hq
    refine ⟨y,hy,qrxyu l2 ?_⟩
    have:=qn8y7 hs.wf hs.p0 (((hQ.gen v v q hq).ok g).2.2.wf) (wf_id (g.d1 v hv).1) l1
    rw [cS_id (g.d1 v hv).1 hs.wf hs.o] at this
    exact this
  · have h:=hQ.gen u v x hx
    obtain ⟨hu,hv,hs⟩:=h.ok g
    obtain ⟨q,hq,l1⟩:=hP.st u hu
    obtain ⟨y,hy,l2⟩:=h.lows g hP u q hq
    refine ⟨y,hy,qrxyu l2 ?_⟩
    have hqg:=((hP.gen u u q hq).ok g).2.2
    have:=qp5v4 hqg.wf (wf_id (g.d1 u hu).1) hs.wf (by rw [hqg.o]; exact hs.k) l1
    rw [id_cS (g.d1 u hu).1 hs.wf hs.k] at this
    exact this
def rng13:List Int:=(List.range 13).map fun i:Nat=>(i:Int)
def qgdbg:Nat→List (List Int)
  | 0=>[[]]
  | m+1=>[] :: rng13.flatMap fun v=>(qgdbg m).map (v :: ·)
theorem q7jzp {α β:Type} {f:α→List β} {c:Nat}:∀ {l:List α},(∀ x∈l,(f x).length=c)→(l.flatMap f).length=l.length*c
  | [],_=>by simp
  | a :: l,h=>by
    rw [List.flatMap_cons,List.length_append,h a List.mem_cons_self,q7jzp fun x hx=>h x (List.mem_cons_of_mem _ hx),List.length_cons,Nat.succ_mul,Nat.add_comm]
theorem q0t0l (m:Nat):(qgdbg (m+1)).length=1+13*(qgdbg m).length:=by
  show (rng13.flatMap fun v=>(qgdbg m).map (v :: ·)).length+1=_
  rw [q7jzp (c:=(qgdbg m).length) fun x _=>List.length_map ..]
  show 13*_+1=_
  omega
theorem qlmpx {v:Int} (h:0≤v∧v≤12):v∈rng13:=List.mem_map.2 ⟨v.toNat,List.mem_range.2 (by omega),by omega⟩
theorem qcck6:∀ {m:Nat} {l:List Int},l.length≤m→(∀ v∈l,0≤v∧v≤12)→l∈qgdbg m
  | 0,[],_,_=>List.mem_cons_self
  | 0,_ :: _,h,_=>by rw [List.length_cons] at h; omega
  | m+1,[],_,_=>List.mem_cons_self
  | m+1,v :: l,h,hv=>by
    rw [List.length_cons] at h
    exact List.mem_cons_of_mem _ (List.mem_flatMap.2 ⟨v,qlmpx (hv v List.mem_cons_self),List.mem_map.2 ⟨l,qcck6 (by omega) fun w hw=>hv w (List.mem_cons_of_mem _ hw),rfl⟩⟩)
def boxS:List Sm:=(List.range 5).flatMap fun k:Nat=>rng13.flatMap fun d=>(qgdbg 3).map fun l=>((k:Int),d,l,())
theorem qf82b:boxS.length=154700:=by
  have h3:(qgdbg 3).length=2380:=by
    rw [q0t0l,q0t0l,q0t0l]; rfl
  unfold boxS
  rw [q7jzp (c:=13*2380),List.length_range]
  intro x _
  rw [q7jzp (c:=2380) fun y _=>by rw [List.length_map,h3]]
  rfl
theorem q2yti {s:Sm} (h:bx s):s∈boxS:=by
  obtain ⟨hd,hl⟩:=h.parts
  have e:=h.nat
  have o4:=h.o4
  have k1:=h.wf.2
  have hlen:s.2.2.1.length≤3:=by unfold oN at o4; unfold kN at k1; omega
  have:=k_le_o s
  rw [e]
  exact List.mem_flatMap.2 ⟨kN s,List.mem_range.2 (by omega),List.mem_flatMap.2 ⟨s.2.1,qlmpx hd,List.mem_map.2 ⟨s.2.2.1,qcck6 hlen hl,rfl⟩⟩⟩
theorem q9iju {l:List Sm} (h:anti l) (hb:∀ s∈l,bx s):l.length≤154700:=by
  rw [←qf82b]
  exact qh4si (qqoc0 h.u) fun s hs=>q2yti (hb s hs)
def boxT (n:Nat):List ((Nat × Nat) × Sm):=(List.range n).flatMap fun u=>(List.range n).flatMap fun v=>boxS.map fun s=>((u,v),s)
theorem q6yhi (n:Nat):(boxT n).length=n*(n*154700):=by
  unfold boxT
  rw [q7jzp (c:=n*154700),List.length_range]
  intro x _
  rw [q7jzp (c:=154700) fun y _=>by rw [List.length_map,qf82b],List.length_range]
theorem qoay2 {u v:Nat} {s:Sm} (hu:u < n) (hv:v < n) (h:bx s):((u,v),s)∈boxT n :=
  List.mem_flatMap.2 ⟨u,List.mem_range.2 hu,List.mem_flatMap.2 ⟨v,List.mem_range.2 hv,List.mem_map.2 ⟨s,q2yti h,rfl⟩⟩⟩
def domB (P:Tb) (t:(Nat × Nat) × Sm):Bool:=(P t.1.1 t.1.2).any fun y=>leS y t.2
def cntD (n:Nat) (P:Tb):Nat:=(boxT n).countP (domB P)
theorem qx1q3 (n:Nat) (P:Tb) (h:n≤12):cntD n P≤22276800:=by
  refine Nat.le_trans List.countP_le_length ?_
  rw [q6yhi]
  calc n*(n*154700)≤12*(12*154700):=Nat.mul_le_mul h (Nat.mul_le_mul h (Nat.le_refl _))
    _=22276800:=rfl
def subT (P P':Tb):Prop:=∀ u v,∀ y∈P u v,∃ y'∈P' u v,leS y' y=true
theorem domB_iff {P:Tb} {u v:Nat} {s:Sm}:domB P ((u,v),s)=true↔∃ y∈P u v,leS y s=true:=by
  unfold domB
  rw [List.any_eq_true]
theorem qcjz2 {P P':Tb} (h:subT P P') {t:(Nat × Nat) × Sm} (ht:domB P t=true):domB P' t=true:=by
  obtain ⟨⟨u,v⟩,s⟩:=t
  obtain ⟨y,hy,l1⟩:=domB_iff.1 ht
  obtain ⟨y',hy',l2⟩:=h u v y hy
  exact domB_iff.2 ⟨y',hy',qrxyu l2 l1⟩
theorem qg7us {P P':Tb} (h:subT P P') {u v:Nat} {s:Sm} (hu:u < n) (hv:v < n) (hs:bx s) (h1:¬ ∃ y∈P u v,leS y s=true) (h2:∃ y∈P' u v,leS y s=true):cntD n P < cntD n P' :=
  q1jtt (fun t _ ht=>qcjz2 h ht) ⟨((u,v),s),qoay2 hu hv hs,by rw [Bool.eq_false_iff]; exact fun e=>h1 (domB_iff.1 e),domB_iff.2 h2⟩
def lowAt (i:Nat) (y s:Sm):Prop:=∀ j,j≤i→pN y j≤pN s j∧(j < kN y→j < kN s)
def Wj (n:Nat) (dep:Nat→Nat) (P:Tb) (u v:Nat) (s:Sm):Prop :=
  ∃ F:Nat→List Nat,∀ i,i < dep v→(F i).Nodup∧pN s i≤(F i).length∧∀ f∈F i,f < n∧dep f=i+1∧∃ y∈P u f,oN y=i+1∧lowAt i y s
theorem qz6fy {i:Nat} {y' y s:Sm} (ho:oN y=i+1) (h:leS y' y=true) (hb:lowAt i y s):lowAt i y' s:=by
  obtain ⟨o,p⟩:=leS_iff.1 h
  intro j hj
  have h1:=p j (by omega)
  have h2:=hb j hj
  exact ⟨Int.le_trans h1.1 h2.1,fun g=>h2.2 (h1.2 g)⟩
theorem qb5w0 {P P':Tb} (h:subT P P') {u v:Nat} {s:Sm} (hw:Wj n dep P u v s):Wj n dep P' u v s:=by
  obtain ⟨F,hF⟩:=hw
  refine ⟨F,fun i hi=>?_⟩
  obtain ⟨h1,h2,h3⟩:=hF i hi
  refine ⟨h1,h2,fun f hf=>?_⟩
  obtain ⟨a,b,y,hy,ho,hb⟩:=h3 f hf
  obtain ⟨y',hy',hl⟩:=h u f y hy
  exact ⟨a,b,y',hy',by rw [(leS_iff.1 hl).1,ho],qz6fy ho hl hb⟩
theorem Wj_bx (g:GR n dep S ed) {P:Tb} {u v:Nat} {s:Sm} (hv:v < n) (hs:shp (dep u) (dep v) s) (hw:Wj n dep P u v s):bx s:=by
  obtain ⟨F,hF⟩:=hw
  refine ⟨hs.wf,by rw [hs.o]; exact (g.d1 v hv).2,fun i=>⟨hs.p0 i,?_⟩⟩
  by_cases hi:i < dep v
  · obtain ⟨h1,h2,h3⟩:=hF i hi
    have h4:(F i).length≤(List.range n).length:=qh4si h1 fun f hf=>List.mem_range.2 (h3 f hf).1
    rw [List.length_range] at h4
    have:=g.n12
    omega
  · rw [pN_out (by rw [hs.o]; omega)]; omega
theorem Wj_id (g:GR n dep S ed) (P:Tb) {u:Nat}:Wj n dep P u u (idS (dep u)) :=
  ⟨fun _=>[],fun i _=>⟨List.nodup_nil,by rw [pN_id]; exact Int.le_refl 0,fun f hf=>by cases hf⟩⟩
theorem qfnt0 (g:GR n dep S ed) {v:Nat} (hv:v < n) {i:Nat} (hi:i < kN (S v)) {y s:Sm} (hs:wfS s) (h:lowAt i y s):lowAt i y (cS s (S v)):=by
  intro j hj
  have h1:=h j hj
  have:=g.S0 hv j
  have ho:=k_le_o (S v)
  rw [pN_cS hs.2 (g.s0 v hv).1.2 (by omega),if_pos (by omega),kN_cS]
  exact ⟨by omega,fun q=>by have:=h1.2 q; omega⟩
theorem q9iou (g:GR n dep S ed) {P P':Tb} (hPP:subT P P') {u v b:Nat} {s:Sm} (hs:shp (dep u) (dep v) s) (hw:Wj n dep P u v s) (hk:¬ ∃ y∈P u v,leS y s=true) (hin:s∈P' u v) (he:(v,b)∈ed):Wj n dep P' u b (cS s (S v)):=by
  obtain ⟨hv,hb,ho⟩:=g.e v b he
  obtain ⟨s1,s2,s3,s4⟩:=g.s0 v hv
  obtain ⟨F,hF⟩:=hw
  refine ⟨fun i=>if i < kN (S v) then (if pN (S v) i=1 then v :: F i else F i) else [],fun i hi=>?_⟩
  have hpos:=s4 i
  rw [pN_cS hs.wf.2 s1.2 (by omega)]
  by_cases h1:i < kN (S v)
  · obtain ⟨f1,f2,f3⟩:=hF i (by omega)
    have old:∀ f∈F i,f < n∧dep f=i+1∧∃ y∈P' u f,oN y=i+1∧lowAt i y (cS s (S v)):=fun f hf=>by
      obtain ⟨a,b,y,hy,hoy,hby⟩:=f3 f hf
      obtain ⟨y',hy',hl⟩:=hPP u f y hy
      exact ⟨a,b,y',hy',by rw [(leS_iff.1 hl).1,hoy],qfnt0 g hv h1 hs.wf (qz6fy hoy hl hby)⟩
    simp only [if_pos h1]
    by_cases h2:pN (S v) i=1
    · simp only [if_pos h2]
      have hd:i+1=dep v∧kN (S v)=dep v:=by omega
      have hnot:v ∉ F i:=fun hm=>by
        obtain ⟨a,b,y,hy,hoy,hby⟩:=f3 v hm
        exact hk ⟨y,hy,leS_iff.2 ⟨by rw [hoy,hs.o]; omega,fun j hj=>hby j (by omega)⟩⟩
      refine ⟨List.nodup_cons.2 ⟨hnot,f1⟩,by rw [List.length_cons]; omega,fun f hf=>?_⟩
      rcases List.mem_cons.1 hf with rfl | hf
      · exact ⟨hv,by omega,s,hin,by rw [hs.o]; omega,qfnt0 g hv h1 hs.wf fun j _=>⟨Int.le_refl _,id⟩⟩
      · exact old f hf
    · simp only [if_neg h2]
      exact ⟨f1,by omega,old⟩
  · simp only [if_neg h1]
    refine ⟨List.nodup_nil,?_,fun f hf=>by cases hf⟩
    have:pN (S v) i=0:=by omega
    rw [this]; exact Int.le_refl 0
abbrev Jb:=Nat × Nat × Sm
def domJ (P:Tb) (J:List Jb) (u v:Nat) (s:Sm):Prop:=(∃ y∈P u v,leS y s=true)∨∃ y,(u,v,y)∈J∧leS y s=true
structure PI (n:Nat) (dep:Nat→Nat) (S:Nat→Sm) (ed:List (Nat × Nat)) (P:Tb) (J:List Jb):Prop where
  gen:∀ u v,∀ x∈P u v,Gf n dep S ed u v x∧bx x
  an:∀ u v,anti (P u v)
  job:∀ j∈J,Gf n dep S ed j.1 j.2.1 j.2.2∧Wj n dep P j.1 j.2.1 j.2.2
  st:∀ u,u < n→domJ P J u u (idS (dep u))
  ex:∀ u v,∀ x∈P u v,∀ b,(v,b)∈ed→domJ P J u b (cS x (S v))
theorem PI.done {P:Tb} (h:PI n dep S ed P []):PF n dep S ed P :=
  ⟨fun u v x hx=>(h.gen u v x hx).1,h.an,fun u hu=>(h.st u hu).resolve_right fun ⟨y,hy,_⟩=>(by cases hy),fun u v x hx b hb=>(h.ex u v x hx b hb).resolve_right fun ⟨y,hy,_⟩=>(by cases hy)⟩
theorem PI.jbx (g:GR n dep S ed) {P:Tb} {J:List Jb} (h:PI n dep S ed P J):∀ j∈J,j.1 < n∧j.2.1 < n∧bx j.2.2∧shp (dep j.1) (dep j.2.1) j.2.2:=fun j hj=>by
  obtain ⟨h1,h2⟩:=h.job j hj
  obtain ⟨hu,hv,hs⟩:=h1.ok g
  exact ⟨hu,hv,Wj_bx g hv hs h2,hs⟩
theorem qkuaa {P P':Tb} {J J':List Jb} {u v:Nat} {s:Sm} (hPP:subT P P') (hJ:∀ j∈J,j∈J') (hs:∃ y∈P' u v,leS y s=true) {a b:Nat} {x:Sm} (h:domJ P ((u,v,s) :: J) a b x):domJ P' J' a b x:=by
  rcases h with ⟨y,hy,hl⟩ | ⟨y,hy,hl⟩
  · obtain ⟨y',hy',hl'⟩:=hPP a b y hy
    exact .inl ⟨y',hy',qrxyu hl' hl⟩
  · rcases List.mem_cons.1 hy with e | hy
    · cases e
      obtain ⟨y',hy',hl'⟩:=hs
      exact .inl ⟨y',hy',qrxyu hl' hl⟩
    · exact .inr ⟨y,hJ _ hy,hl⟩
theorem qd3ub (P:Tb):subT P P:=fun u v y hy=>⟨y,hy,qigyx y⟩
theorem PI.known {P:Tb} {J:List Jb} {u v:Nat} {s:Sm} (h:PI n dep S ed P ((u,v,s) :: J)) (hk:∃ y∈P u v,leS y s=true):PI n dep S ed P J :=
  ⟨h.gen,h.an,fun j hj=>h.job j (List.mem_cons_of_mem _ hj),fun u hu=>qkuaa (qd3ub P) (fun j hj=>hj) hk (h.st u hu),fun a v x hx b hb=>qkuaa (qd3ub P) (fun j hj=>hj) hk (h.ex a v x hx b hb)⟩
def putT (P:Tb) (u v:Nat) (s:Sm):Tb:=fun a b=>if a=u∧b=v then frontQ (P u v++[s]) else P a b
def extJ (S:Nat→Sm) (ed:List (Nat × Nat)) (u v:Nat) (s:Sm):List Jb:=(ed.filter fun e=>decide (e.1=v)).map fun e=>(u,e.2,cS s (S v))
theorem q6vj2 (P:Tb) (u v:Nat) (s:Sm):putT P u v s u v=frontQ (P u v++[s]):=if_pos ⟨rfl,rfl⟩
theorem qpay8 {P:Tb} {u v:Nat} {s:Sm} (hw:∀ x∈P u v,wfS x) (hs:wfS s):subT P (putT P u v s):=by
  intro a b y hy
  unfold putT
  by_cases h:a=u∧b=v
  · obtain ⟨rfl,rfl⟩:=h
    rw [if_pos ⟨rfl,rfl⟩]
    exact q6nhl (fun x hx=>(List.mem_append.1 hx).elim (hw x) fun g=>by rw [List.mem_singleton.1 g]; exact hs) (List.mem_append_left _ hy)
  · rw [if_neg h]; exact ⟨y,hy,qigyx y⟩
theorem q1osu {P:Tb} {u v:Nat} {s:Sm} {a b:Nat} {x:Sm} (h:x∈putT P u v s a b):x∈P a b∨(a=u∧b=v∧x=s):=by
  unfold putT at h
  split at h
  · rename_i e
    obtain ⟨rfl,rfl⟩:=e
    rcases List.mem_append.1 (mem_front.1 h).1 with g | g
    · exact .inl g
    · exact .inr ⟨rfl,rfl,List.mem_singleton.1 g⟩
  · exact .inl h
theorem q6dv2 {P:Tb} {u v:Nat} {s:Sm} (hk:¬ ∃ y∈P u v,leS y s=true):s∈putT P u v s u v:=by
  rw [q6vj2]
  refine mem_front.2 ⟨List.mem_append_right _ List.mem_cons_self,fun r hr hl=>?_⟩
  rcases List.mem_append.1 hr with g | g
  · exact absurd ⟨r,g,hl⟩ hk
  · exact List.mem_singleton.1 g
theorem PI.put (g:GR n dep S ed) {P:Tb} {J:List Jb} {u v:Nat} {s:Sm} (h:PI n dep S ed P ((u,v,s) :: J)) (hk:¬ ∃ y∈P u v,leS y s=true) :
    PI n dep S ed (putT P u v s) (J++extJ S ed u v s)∧cntD n P < cntD n (putT P u v s):=by
  obtain ⟨jg,jw⟩:=h.job (u,v,s) List.mem_cons_self
  obtain ⟨hu,hv,hs⟩:=jg.ok g
  have hb:bx s:=Wj_bx g hv hs jw
  have hsub:subT P (putT P u v s):=qpay8 (fun x hx=>(h.gen u v x hx).2.wf) hs.wf
  have hin:s∈putT P u v s u v:=q6dv2 hk
  have hdom:∃ y∈putT P u v s u v,leS y s=true:=⟨s,hin,qigyx s⟩
  refine ⟨⟨fun a b x hx=>?_,fun a b=>?_,fun j hj=>?_,fun w hw=>?_,fun a c x hx b he=>?_⟩,qg7us hsub hu hv hb hk hdom⟩
  · rcases q1osu hx with hx | ⟨rfl,rfl,rfl⟩
    · exact h.gen a b x hx
    · exact ⟨jg,hb⟩
  · unfold putT
    split
    · exact qzbgm _
    · exact h.an a b
  · rcases List.mem_append.1 hj with hj | hj
    · have:=h.job j (List.mem_cons_of_mem _ hj)
      exact ⟨this.1,qb5w0 hsub this.2⟩
    · obtain ⟨e,he,rfl⟩:=List.mem_map.1 hj
      obtain ⟨he,hev⟩:=List.mem_filter.1 he
      have hev:=of_decide_eq_true hev
      obtain ⟨e1,e2⟩:=e
      obtain rfl:v=e1:=hev.symm
      exact ⟨.snoc _ _ _ _ jg he,q9iou g hsub hs jw hk hin he⟩
  · exact qkuaa hsub (fun j hj=>List.mem_append_left _ hj) hdom (h.st w hw)
  · rcases q1osu hx with hx | ⟨rfl,rfl,rfl⟩
    · exact qkuaa hsub (fun j hj=>List.mem_append_left _ hj) hdom (h.ex a c x hx b he)
    · exact .inr ⟨_,List.mem_append_right _ (List.mem_map.2 ⟨(c,b),List.mem_filter.2 ⟨he,decide_eq_true rfl⟩,rfl⟩),qigyx _⟩
theorem PI.start (g:GR n dep S ed):PI n dep S ed (fun _ _=>[]) ((List.range n).map fun u=>(u,u,idS (dep u))):=by
  refine ⟨fun u v x hx=>(by cases hx),fun u v=>q3hgn,fun j hj=>?_,fun u hu=>.inr ⟨_,List.mem_map.2 ⟨u,List.mem_range.2 hu,rfl⟩,qigyx _⟩,fun u v x hx=>(by cases hx)⟩
  obtain ⟨u,hu,rfl⟩:=List.mem_map.1 hj
  exact ⟨.id u (List.mem_range.1 hu),Wj_id g _⟩
def preT (dep:Nat→Nat) (S:Nat→Sm) (ed:List (Nat × Nat)) (Q:Tb) (a b:Nat):List Sm :=
  (if a=b then [idS (dep a)] else [])++ed.flatMap fun e=>if e.1=a then (Q e.2 b).map (cS (S a)) else []
def rndT (n:Nat) (dep:Nat→Nat) (S:Nat→Sm) (ed:List (Nat × Nat)) (Q:Tb):Tb:=fun a b=>if a < n∧b < n then frontQ (preT dep S ed Q a b) else []
theorem mem_pre {Q:Tb} {a b:Nat} {x:Sm}:x∈preT dep S ed Q a b↔(a=b∧x=idS (dep a))∨∃ c r,(a,c)∈ed∧r∈Q c b∧x=cS (S a) r:=by
  unfold preT
  rw [List.mem_append,List.mem_flatMap]
  refine or_congr ?_ ⟨?_,?_⟩
  · split
    · rename_i h; simp [h]
    · rename_i h; simp [h]
  · rintro ⟨⟨e1,e2⟩,he,h⟩
    simp only at h
    split at h
    · rename_i h1
      subst h1
      obtain ⟨r,hr,rfl⟩:=List.mem_map.1 h
      exact ⟨e2,r,he,hr,rfl⟩
    · cases h
  · rintro ⟨c,r,he,hr,rfl⟩
    exact ⟨(a,c),he,by rw [if_pos rfl]; exact List.mem_map.2 ⟨r,hr,rfl⟩⟩
def WR (n:Nat) (dep:Nat→Nat) (Q:Tb) (b:Nat) (r:Sm):Prop :=
  (∀ i,kN r≤i→pN r i≤12)∧∃ F:List Nat,F.Nodup∧pN r (kN r - 1)≤F.length∧∀ f∈F,f < n∧dep f=kN r∧∃ y∈Q f b,leS y r=true
theorem WR_bx (g:GR n dep S ed) {Q:Tb} {a b:Nat} {r:Sm} (hb:b < n) (hs:shp (dep a) (dep b) r) (hw:WR n dep Q b r):bx r:=by
  obtain ⟨h1,F,f1,f2,f3⟩:=hw
  have k1:=hs.wf.2
  refine ⟨hs.wf,by rw [hs.o]; exact (g.d1 b hb).2,fun i=>⟨hs.p0 i,?_⟩⟩
  rcases Nat.lt_trichotomy (i+1) (kN r) with h | h | h
  · rw [pN_low h]; omega
  · have h4:F.length≤(List.range n).length:=qh4si f1 fun f hf=>List.mem_range.2 (f3 f hf).1
    rw [List.length_range] at h4
    have:=g.n12
    rw [show i=kN r - 1 by omega]
    omega
  · exact h1 i (by omega)
structure RI (n:Nat) (dep:Nat→Nat) (S:Nat→Sm) (ed:List (Nat × Nat)) (Q:Tb):Prop where
  gen:∀ a b,∀ x∈Q a b,Gb n dep S ed a b x∧WR n dep Q b x
  an:∀ a b,anti (Q a b)
  asc:subT Q (rndT n dep S ed Q)
theorem RI.bx (g:GR n dep S ed) {Q:Tb} (h:RI n dep S ed Q) {a b:Nat}:∀ x∈Q a b,bx x:=fun x hx=>by
  obtain ⟨h1,h2⟩:=h.gen a b x hx
  obtain ⟨ha,hb,hs⟩:=h1.ok g
  exact WR_bx g hb hs h2
theorem pre_wf (g:GR n dep S ed) {Q:Tb} (hQ:∀ c b,∀ x∈Q c b,wfS x) {a b:Nat} (ha:a < n):∀ x∈preT dep S ed Q a b,wfS x:=fun x hx=>by
  rcases mem_pre.1 hx with ⟨_,rfl⟩ | ⟨c,r,he,hr,rfl⟩
  · exact wf_id (g.d1 a ha).1
  · exact wf_cS (g.s0 a ha).1 (hQ c b r hr)
theorem qp3zx (g:GR n dep S ed) {Q Q':Tb} (hw:∀ c b,∀ x∈Q c b,wfS x) (hw':∀ c b,∀ x∈Q' c b,wfS x) (h:subT Q Q'):subT (rndT n dep S ed Q) (rndT n dep S ed Q'):=by
  intro a b y hy
  unfold rndT at hy ⊢
  split at hy
  · rename_i hab
    rw [if_pos hab]
    have hm:=(mem_front.1 hy).1
    have:∃ y'∈preT dep S ed Q' a b,leS y' y=true:=by
      rcases mem_pre.1 hm with ⟨h1,rfl⟩ | ⟨c,r,he,hr,rfl⟩
      · exact ⟨_,mem_pre.2 (.inl ⟨h1,rfl⟩),qigyx _⟩
      · obtain ⟨r',hr',hl⟩:=h c b r hr
        exact ⟨_,mem_pre.2 (.inr ⟨c,r',he,hr',rfl⟩),qn8y7 (g.s0 a hab.1).1 (g.S0 hab.1) (hw' c b r' hr') (hw c b r hr) hl⟩
    obtain ⟨y',hy',hl⟩:=this
    obtain ⟨z,hz,hl2⟩:=q6nhl (pre_wf g hw' hab.1) hy'
    exact ⟨z,hz,qrxyu hl2 hl⟩
  · cases hy
theorem qc2ve (g:GR n dep S ed) {Q Q':Tb} (hQQ:subT Q Q') {a c b:Nat} {r:Sm} (ha:a < n) (hb:b < n) (he:(a,c)∈ed) (hs:shp (dep c) (dep b) r) (hw:WR n dep Q b r) (hin:cS (S a) r∈Q' a b) (han:anti (Q' a b)):WR n dep Q' b (cS (S a) r):=by
  obtain ⟨-,hc,ho⟩:=g.e a c he
  obtain ⟨s1,s2,s3,s4⟩:=g.s0 a ha
  have hbr:=WR_bx g hb hs hw
  obtain ⟨h1,F,f1,f2,f3⟩:=hw
  have k1:=hs.wf.2
  have k2:=s1.2
  have kr:=k_le_o r
  have ks:=hs.k
  have hk:=kN_cS (S a) r
  have hle:kN r≤kN (S a)→leS r (cS (S a) r)=true:=fun hK=>leS_iff.2 ⟨(oN_cS ..).symm,fun i hi=>by
    rw [pN_cS s1.2 hs.wf.2 hi,hk]
    have:=g.S0 ha i
    exact ⟨by split <;> omega,fun q=>by omega⟩⟩
  by_cases hK:kN r≤kN (S a)
  · have hk':kN (cS (S a) r)=kN r:=by omega
    have hler:=hle hK
    have old:∀ f∈F,f < n∧dep f=kN r∧∃ y∈Q' f b,leS y (cS (S a) r)=true:=fun f hf=>by
      obtain ⟨x1,x2,y,hy,hl⟩:=f3 f hf
      obtain ⟨y',hy',hl'⟩:=hQQ f b y hy
      exact ⟨x1,x2,y',hy',qrxyu hl' (qrxyu hl hler)⟩
    refine ⟨fun i hi=>?_,?_⟩
    · by_cases hio:i < oN r
      · rw [pN_cS s1.2 hs.wf.2 hio,if_neg (by omega)]; exact h1 i (by omega)
      · rw [pN_out (by rw [oN_cS]; omega)]; omega
    · rw [hk',pN_cS s1.2 hs.wf.2 (by omega),if_pos (by omega)]
      rcases s4 (kN r - 1) with h0 | ⟨h0,h2,h3,h4⟩
      · exact ⟨F,f1,by omega,old⟩
      · refine ⟨a :: F,List.nodup_cons.2 ⟨fun hm=>?_,f1⟩,by rw [List.length_cons]; omega,fun f hf=>?_⟩
        · obtain ⟨x1,x2,y,hy,hl⟩:=f3 a hm
          obtain ⟨y',hy',hl'⟩:=hQQ a b y hy
          have e:=han.m _ hin y' hy' (qrxyu hl' (qrxyu hl hler))
          subst e
          have hbad:=(leS_iff.1 (qrxyu hl' hl)).2 (kN r - 1) (by rw [oN_cS]; omega)
          rw [pN_cS s1.2 hs.wf.2 (by omega),if_pos (by omega)] at hbad
          omega
        · rcases List.mem_cons.1 hf with rfl | hf
          · exact ⟨ha,by omega,_,hin,qigyx _⟩
          · exact old f hf
  · have hS:∀ i,pN (S a) i=0:=fun i=>by rcases s4 i with h | h <;> omega
    refine ⟨fun i hi=>?_,[],List.nodup_nil,?_,fun f hf=>by cases hf⟩
    · by_cases hio:i < oN r
      · have:=(hbr.p0 i).2
        rw [pN_cS s1.2 hs.wf.2 hio,hS]
        split <;> omega
      · rw [pN_out (by rw [oN_cS]; omega)]; omega
    · rw [pN_cS s1.2 hs.wf.2 (by omega),hS,hk,pN_low (by omega)]
      simp
theorem WR_id (g:GR n dep S ed) (Q:Tb) {b:Nat}:WR n dep Q b (idS (dep b)) :=
  ⟨fun i _=>by rw [pN_id]; omega,[],List.nodup_nil,by rw [pN_id]; exact Int.le_refl 0,fun f hf=>by cases hf⟩
theorem RI.next (g:GR n dep S ed) {Q:Tb} (h:RI n dep S ed Q):RI n dep S ed (rndT n dep S ed Q):=by
  have hwf:∀ c b,∀ x∈Q c b,wfS x:=fun c b x hx=>(h.bx g x hx).wf
  have hwf':∀ c b,∀ x∈rndT n dep S ed Q c b,wfS x:=fun c b x hx=>by
    unfold rndT at hx
    split at hx
    · rename_i hcb; exact pre_wf g hwf hcb.1 x (mem_front.1 hx).1
    · cases hx
  have han:∀ a b,anti (rndT n dep S ed Q a b):=fun a b=>by
    unfold rndT
    split
    · exact qzbgm _
    · exact q3hgn
  refine ⟨fun a b x hx=>?_,han,qp3zx g hwf hwf' h.asc⟩
  have hx0:=hx
  unfold rndT at hx
  split at hx
  · rename_i hab
    rcases mem_pre.1 (mem_front.1 hx).1 with ⟨rfl,rfl⟩ | ⟨c,r,he,hr,rfl⟩
    · exact ⟨.id a hab.1,WR_id g _⟩
    · obtain ⟨g1,g2⟩:=h.gen c b r hr
      exact ⟨.cons _ _ _ _ he g1,qc2ve g h.asc hab.1 hab.2 he (g1.ok g).2.2 g2 hx0 (han a b)⟩
  · cases hx
theorem RI.start (g:GR n dep S ed):RI n dep S ed fun _ _=>[] :=
  ⟨fun a b x hx=>(by cases hx),fun a b=>q3hgn,fun a b y hy=>(by cases hy)⟩
theorem RI.fixed (g:GR n dep S ed) {Q:Tb} (h:RI n dep S ed Q) (hf:∀ a b,a < n→b < n→rndT n dep S ed Q a b=Q a b):QF n dep S ed Q:=by
  have hwf:∀ c b,∀ x∈Q c b,wfS x:=fun c b x hx=>(h.bx g x hx).wf
  refine ⟨fun a b x hx=>(h.gen a b x hx).1,h.an,fun u hu=>?_,fun c b x hx a he=>?_⟩
  · rw [←hf u u hu hu]
    unfold rndT
    rw [if_pos ⟨hu,hu⟩]
    exact q6nhl (pre_wf g hwf hu) (mem_pre.2 (.inl ⟨rfl,rfl⟩))
  · obtain ⟨ha,hc,-⟩:=g.e a c he
    have hb:=((h.gen c b x hx).1.ok g).2.1
    rw [←hf a b ha hb]
    unfold rndT
    rw [if_pos ⟨ha,hb⟩]
    exact q6nhl (pre_wf g hwf ha) (mem_pre.2 (.inr ⟨c,x,he,hx,rfl⟩))
theorem RI.grow (g:GR n dep S ed) {Q:Tb} (h:RI n dep S ed Q) (hf:¬ ∀ a b,a < n→b < n→rndT n dep S ed Q a b=Q a b):cntD n Q < cntD n (rndT n dep S ed Q):=by
  have h':=h.next g
  apply Classical.byContradiction
  intro hc
  refine hf fun a b ha hb=>qrc03 (h'.an a b) (h.an a b) (fun s hs=>(h'.bx g s hs).wf) (fun s hs=>(h.bx g s hs).wf) (fun x hx=>?_) fun x hx=>h.asc a b x hx
  apply Classical.byContradiction
  intro hno
  exact hc (qg7us h.asc ha hb (h'.bx g x hx) hno ⟨x,hx,qigyx x⟩)
end
end

section
open Go Go.Abs

inductive Way (A:Nat→Nat→Bool):Nat→Nat→Prop
  | one {i j:Nat} (h:A i j=true):Way A i j
  | more {i k j:Nat} (h:Way A i k) (h2:A k j=true):Way A i j
theorem Way.trans {A:Nat→Nat→Bool} {i j k:Nat} (h:Way A i j) (h2:Way A j k):Way A i k:=by
  induction h2 with
  | one h2=>exact .more h h2
  | more _ h3 ih=>exact .more ih h3
def fwR (w:Nat→Nat→Bool) (k:Nat):Nat→Nat→Bool:=fun i j=>w i j || (w i k && w k j)
def fwN (A:Nat→Nat→Bool):Nat→Nat→Nat→Bool
  | 0=>A
  | k+1=>fwR (fwN A k) k
theorem q88e5 (A:Nat→Nat→Bool):∀ k i j,fwN A k i j=true→Way A i j
  | 0,i,j,h=>.one h
  | k+1,i,j,h=>by
    simp only [fwN,fwR,Bool.or_eq_true,Bool.and_eq_true] at h
    rcases h with h | ⟨h,h2⟩
    · exact q88e5 A k i j h
    · exact (q88e5 A k i k h).trans (q88e5 A k k j h2)
theorem q7qu6 (A:Nat→Nat→Bool) (k:Nat):∀ m i j,fwN A k i j=true→fwN A (k+m) i j=true
  | 0,_,_,h=>h
  | m+1,i,j,h=>by
    show fwR (fwN A (k+m)) (k+m) i j=true
    simp only [fwR,Bool.or_eq_true]
    exact .inl (q7qu6 A k m i j h)
theorem qafxg (A:Nat→Nat→Bool):∀ k m,m < k→∀ i j,fwN A k i m=true→fwN A k m j=true→fwN A k i j=true
  | 0,_,h,_,_,_,_=>by omega
  | k+1,m,hm,i,j,h1,h2=>by
    simp only [fwN,fwR,Bool.or_eq_true,Bool.and_eq_true] at h1 h2 ⊢
    by_cases hmk:m=k
    · subst hmk
      have h1':fwN A m i m=true:=by
        rcases h1 with h | ⟨h,_⟩ <;> exact h
      have h2':fwN A m m j=true:=by
        rcases h2 with h | ⟨_,h⟩ <;> exact h
      exact .inr ⟨h1',h2'⟩
    · have hlt:m < k:=by omega
      have ih:=qafxg A k m hlt
      rcases h1 with h1 | ⟨h1,h1'⟩ <;> rcases h2 with h2 | ⟨h2,h2'⟩
      · exact .inl (ih i j h1 h2)
      · exact .inr ⟨ih i k h1 h2,h2'⟩
      · exact .inr ⟨h1,ih k j h1' h2⟩
      · exact .inr ⟨h1,h2'⟩
theorem qssyt {A:Nat→Nat→Bool} {n:Nat} (hA:∀ i j,A i j=true→i < n∧j < n) (i j:Nat):fwN A n i j=true↔Way A i j:=by
  constructor
  · exact q88e5 A n i j
  · intro h
    induction h with
    | one h=>have:=q7qu6 A 0 n _ _ h; rwa [Nat.zero_add] at this
    | more _ h2 ih =>
      have h3:=q7qu6 A 0 n _ _ h2
      rw [Nat.zero_add] at h3
      exact qafxg A n _ (hA _ _ h2).1 _ _ ih h3
def fwAt (w:Nat→Nat→Bool) (n k x:Nat):Nat→Bool:=fun y=>if y < x then fwR w k (y / n) (y % n) else w (y / n) (y % n)
theorem q01x2 {w:Nat→Nat→Bool} {n k x i:Nat} (hk:k < n):fwAt w n k x (i*n+k)=w i k:=by
  have h1:(i*n+k) / n=i:=by rw [Nat.mul_comm,Nat.mul_add_div (by omega),Nat.div_eq_of_lt hk]; rfl
  have h2:(i*n+k) % n=k:=by rw [Nat.mul_comm,Nat.mul_add_mod,Nat.mod_eq_of_lt hk]
  unfold fwAt
  rw [h1,h2]
  split
  · unfold fwR; cases w i k <;> simp
  · rfl
theorem qzzly {w:Nat→Nat→Bool} {n k x j:Nat} (hj:j < n):fwAt w n k x (k*n+j)=w k j:=by
  have h1:(k*n+j) / n=k:=by rw [Nat.mul_comm,Nat.mul_add_div (by omega),Nat.div_eq_of_lt hj]; rfl
  have h2:(k*n+j) % n=j:=by rw [Nat.mul_comm,Nat.mul_add_mod,Nat.mod_eq_of_lt hj]
  unfold fwAt
  rw [h1,h2]
  split
  · unfold fwR; cases w k j <;> simp
  · rfl
theorem qyrzm {w:Nat→Nat→Bool} {n k i j:Nat} (hj:j < n):fwAt w n k (i*n+j) (i*n+j)=w i j:=by
  have h1:(i*n+j) / n=i:=by rw [Nat.mul_comm,Nat.mul_add_div (by omega),Nat.div_eq_of_lt hj]; rfl
  have h2:(i*n+j) % n=j:=by rw [Nat.mul_comm,Nat.mul_add_mod,Nat.mod_eq_of_lt hj]
  unfold fwAt
  rw [if_neg (by omega),h1,h2]
theorem qe2hx {w:Nat→Nat→Bool} {n k i j:Nat} (hj:j < n) (y:Nat):fwAt w n k (i*n+(j+1)) y=if y=i*n+j then fwR w k i j else fwAt w n k (i*n+j) y:=by
  have h1:(i*n+j) / n=i:=by rw [Nat.mul_comm,Nat.mul_add_div (by omega),Nat.div_eq_of_lt hj]; rfl
  have h2:(i*n+j) % n=j:=by rw [Nat.mul_comm,Nat.mul_add_mod,Nat.mod_eq_of_lt hj]
  by_cases hy:y=i*n+j
  · subst hy
    rw [if_pos rfl]
    unfold fwAt
    rw [if_pos (by omega),h1,h2]
  · rw [if_neg hy]
    unfold fwAt
    by_cases hlt:y < i*n+j
    · rw [if_pos hlt,if_pos (by omega)]
    · rw [if_neg hlt,if_neg (by omega)]
theorem sq_lt {n i j:Nat} (hi:i < n) (hj:j < n):i*n+j < n*n:=by
  have:(i+1)*n≤n*n:=Nat.mul_le_mul_right n hi
  rw [Nat.add_mul,Nat.one_mul] at this
  omega
theorem qcnmy {n i j:Nat} (hn:n≤64) (hi:i < n) (hj:j < n):IntKind.i64.wrap ((IntKind.i64.wrap ((i:Int)*(n:Int)))+(j:Int))=((i*n+j:Nat):Int):=by
  have h1:=sq_lt hi hj
  have h2:n*n≤64*64:=Nat.mul_le_mul hn hn
  have h3:(i:Int)*(n:Int)=((i*n:Nat):Int):=(Int.natCast_mul i n).symm
  have e1:IntKind.i64.wrap ((i*n:Nat):Int)=((i*n:Nat):Int):=wrap64 (by omega) (by omega)
  rw [h3,e1]
  rw [wrap64 (by omega) (by omega)]
  simp
end

end Go.Proofs.Tryz
