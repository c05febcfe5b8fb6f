/- The plain law of LoopRounds. -/
import Derived.Test.YtgepgleagefmeabGreatZRFuns
import Derived.Test.YtgepgleagefmeabGreatAbsSums
import Derived.Test.YtgepgleagefmeabGreatZRLemmasLoopRounds4
namespace Go.Proofs.Tryz
open Go Go.Abs

abbrev Td:=List Df × Int × Unit
noncomputable def rdTail (x:List Df × List Df × Int × Unit) (r3 r4:Td):Option Td :=
  ((diffs_Times (r3.1,())).bind fun r5=>((diffs_Times (r4.1,())).bind fun r6=>((slices_Concat_s_s_int_s_int ([r5.1,r6.1],())).bind fun r7=>(cond (roomOk r7.1.length 1) ((sortP (fun a b=>(slices_Compare_s_int_int (a,b,())).map fun r=>r.1) r7.1).bind fun v8=>(((cond (decide ((v8.length:Int) < (2:Int))) (some (Sum.inl (v8,()))) ((loopM (loop_Rounds_l2) ((1:Int),v8,())).bind (Sum.elim (fun z80=>(some (Sum.inl (((z80.2.2.1.drop z80.1).take z80.2.1),())))) (Sum.elim (fun z81=>(some (Sum.inl z81))) Empty.elim)))):Option (((List (List Int)) × Unit) ⊕ Empty)).bind (Sum.elim (fun z82=>((loopM (loop_Rounds_l4 x z82 r3 r4) (([]:(List ((List Int) × ((List (Int × (Int × (Int × Unit)))) × Unit)))),(0:Int),())).bind (Sum.elim (fun z127=>(some z127)) (Sum.elim (fun z128=>((slices_Clone_s_api_Diff_api_Diff z128).bind fun r129=>(cond (roomOk r129.1.length 1) ((sortP (fun a b=>(diffs_Moves_c1 (a,b,())).map fun r=>r.1) r129.1).bind fun v130=>((loopM (loop_Rounds_l13 v130) ((0:Int),([]:List ((Int × ((Int × (Int × (Int × (Int × Unit)))) × Unit)) × (Option (List ((Int × (Int × Unit)) × Int))))),())).bind (Sum.elim (fun z305=>((allSome z305.1).bind fun v306=>((diffs_History_Tells (v306,())).bind fun r307=>(some r307)))) Empty.elim))) none))) Empty.elim)))) Empty.elim))) none))))
theorem rounds_is (x:List Df × List Df × Int × Unit):loop_Rounds x=cond (decide (x.2.2.1 < (0:Int))) (some (([]:List Df),(2:Int),())) (cond (decide (x.2.2.1 > (8:Int))) (some (([]:List Df),(2:Int),())) ((loop_single (x.1,())).bind fun r1=>cond r1.1 ((loop_single (x.2.1,())).bind fun r2=>(loop_epochs (x.1,())).bind fun r3=>cond (r3.2.1 != (0:Int)) (some (([]:List Df),r3.2.1,())) ((loop_epochs (x.2.1,())).bind fun r4=>cond (r4.2.1 != (0:Int)) (some (([]:List Df),r4.2.1,())) (cond (!r2.1) (some (([]:List Df),(3:Int),())) (rdTail x r3 r4))))
    ((loop_epochs (x.1,())).bind fun r308=>cond (r308.2.1 != (0:Int)) (some (([]:List Df),r308.2.1,())) ((loop_epochs (x.2.1,())).bind fun r309=>cond (r309.2.1 != (0:Int)) (some (([]:List Df),r309.2.1,())) (some (([]:List Df),(3:Int),())))))):=rfl
theorem tidy_good {D:List Df} (g:Good D):Good (tidyL D) where
  len:=Nat.le_trans (tidy_len D) g.len
  num:=Nat.le_trans (tidy_num D) g.num
  chk d hd:=by
    obtain ⟨t,ht,-,rfl⟩:=tidyL_mem.1 hd
    obtain ⟨e,he,rfl⟩:=List.mem_map.1 ht
    exact g.chk e he
  same:=by
    obtain ⟨n,hn⟩:=g.same
    refine ⟨n,fun d hd=>?_⟩
    obtain ⟨t,ht,-,rfl⟩:=tidyL_mem.1 hd
    obtain ⟨e,he,rfl⟩:=List.mem_map.1 ht
    exact hn e he
theorem tidy_dim {h:List Df} {n:Nat} (hn:∀ d∈h,d.1.length=n):∀ d∈tidyL h,d.1.length=n:=fun d hd=>by
  obtain ⟨t,ht,-,rfl⟩:=tidyL_mem.1 hd
  obtain ⟨e,he,rfl⟩:=List.mem_map.1 ht
  exact hn e he
def oneB (D:List Df):Bool:=D.all fun d=>d.1.length == 1
theorem single_eq (D:List Df) (hl:D.length*48≤140737488355328):loop_single (D,())=some (oneB D,()):=by
  have h:=loopM_for (f:=loop_single_l1 (D,())) D.length (fun i=>if (D.getD i ([],[],())).1.length=1 then none else some (.inl ((i:Int),()))) (.inr (.inl ())) (fun i hi=>by
    unfold loop_single_l1 loop_single_c1
    rw [List.getD_eq_getElem?_getD,List.getElem?_eq_getElem hi,Option.getD_some]
    simp only [dcT (show (i:Int) < (D.length:Int) by omega),cond_true,getI_nat,List.getElem?_eq_getElem hi,Option.bind_some,wrapS (show i < 9223372036854775807 by omega)]
    by_cases h1:D[i].1.length=1
    · rw [if_pos h1,bneF (show (D[i].1.length:Int)=1 by omega)]; rfl
    · rw [if_neg h1,bneT (show ¬ (D[i].1.length:Int)=1 by omega)]; rfl) (by
    unfold loop_single_l1
    simp only [dcF (show ¬ (D.length:Int) < (D.length:Int) by omega),cond_false])
  unfold loop_single
  rw [h]
  cases hf:(List.range D.length).findSome? (fun i=>if (D.getD i ([],[],())).1.length=1 then (none:Option ((Int × Unit) ⊕ (Unit ⊕ Empty))) else some (.inl ((i:Int),()))) with
  | none =>
    have:oneB D=true:=by
      unfold oneB
      rw [List.all_eq_true]
      intro d hd
      obtain ⟨i,hi,rfl⟩:=List.mem_iff_getElem.1 hd
      have h2:=List.findSome?_eq_none_iff.1 hf i (List.mem_range.2 hi)
      rw [List.getD_eq_getElem?_getD,List.getElem?_eq_getElem hi,Option.getD_some] at h2
      split at h2
      · rename_i h3; simpa using h3
      · cases h2
    rw [this]; rfl
  | some z =>
    obtain ⟨i,hi,hz⟩:=List.exists_of_findSome?_eq_some hf
    have hi:=List.mem_range.1 hi
    rw [List.getD_eq_getElem?_getD,List.getElem?_eq_getElem hi,Option.getD_some] at hz
    split at hz
    · cases hz
    · rename_i h3
      cases hz
      have:oneB D=false:=by
        cases hq:oneB D with
        | false=>rfl
        | true =>
          unfold oneB at hq
          have:=List.all_eq_true.1 hq _ (List.getElem_mem hi)
          exact absurd (by simpa using this) h3
      rw [this]
      simp only [Option.getD_some,Option.bind_some,Sum.elim_inl]
      rw [dcT (show (i:Int) ≥ 0 by omega)]; rfl
theorem epochs_eq {D:List Df} (h:D.length*48≤140737488355328):loop_epochs (D,())=some (if dchk D=0 then (tidyL D,0,()) else ([],dchk D,())):=by
  unfold loop_epochs
  rw [check_eq h,tidy_eq h]
  simp only [Option.bind_some]
  by_cases h0:dchk D=0
  · rw [bneF h0,cond_false]
  · rw [bneT h0,cond_true,if_neg h0]
theorem rd13 (S:List Df):loop_Rounds_l13 S=mv10 S:=rfl
theorem tail_both {D1 D2:List Df} {n:Nat} (hn8:n≤8) (g1:Good D1) (g2:Good D2) (e1 e2:Int) (h1:∀ d∈D1,d.1.length=1) (h2:∀ d∈D2,d.1.length=1) :
    ∃ r,rdTail (D1,D2,(n:Int),()) (tidyL D1,e1,()) (tidyL D2,e2,())=some r∧ref_LoopRounds (D1,D2,(n:Int),())=some r∧ref_DiffsSame (r.1,r.1,())=some (true,()):=by
  have t1:=tidy_good g1
  have t2:=tidy_good g2
  have l1:=t1.len
  have l2:=t2.len
  have d1:=tidy_dim h1
  have d2:=tidy_dim h2
  have m1:((tidyL D1).map (·.1)).length≤64:=by rw [List.length_map]; exact l1
  have m2:((tidyL D2).map (·.1)).length≤64:=by rw [List.length_map]; exact l2
  unfold rdTail ref_LoopRounds
  rw [times_map (D:=tidyL D1) (by omega),times_map (D:=tidyL D2) (by omega),ref_tidy_eq g1.fine,ref_tidy_eq g2.fine]
  simp only [Option.bind_some]
  rw [ref_times_map (by omega),ref_times_map (by omega)]
  simp only [Option.bind_some]
  rw [concat_eq m1 m2,ref_all_eq (by omega) (by omega)]
  simp only [Option.bind_some]
  have hall:∀ t∈(tidyL D1).map (·.1)++(tidyL D2).map (·.1),chk t=0∧t.length=1:=fun t ht=>by
    rcases List.mem_append.1 ht with ht | ht
    · obtain ⟨d,hd,rfl⟩:=List.mem_map.1 ht
      exact ⟨t1.chk d hd,d1 d hd⟩
    · obtain ⟨d,hd,rfl⟩:=List.mem_map.1 ht
      exact ⟨t2.chk d hd,d2 d hd⟩
  have hlen:((tidyL D1).map (·.1)++(tidyL D2).map (·.1)).length≤128:=by rw [List.length_append]; omega
  generalize (tidyL D1).map (·.1)++(tidyL D2).map (·.1)=v at hall hlen
  obtain ⟨s1,s2,s3⟩:=sort_facts v
  have hs:sortP (fun a b=>(slices_Compare_s_int_int (a,b,())).map fun r=>r.1) v=some (sortD v):=sort_is fun t ht=>by rw [(hall t ht).2]; omega
  rw [ref_TimesSorted_eq (by omega) 1 hall,room_ok (show v.length≤140737488355328 by omega) (show v.length*1≤140737488355328 by omega),cond_true,hs]
  simp only [Option.bind_some]
  have hsl:(sortD v).length=v.length:=(sortD_perm v).length_eq
  have hcomp:((cond (decide (((sortD v).length:Int) < (2:Int))) (some (Sum.inl (sortD v,()))) ((loopM (loop_Rounds_l2) ((1:Int),sortD v,())).bind (Sum.elim (fun z80=>(some (Sum.inl (((z80.2.2.1.drop z80.1).take z80.2.1),())))) (Sum.elim (fun z81=>(some (Sum.inl z81))) Empty.elim)))):Option (((List (List Int)) × Unit) ⊕ Empty))=some (.inl (sortT v,())):=by
    have hk:=kept_sorted (v:=v)
    by_cases h3:(sortD v).length < 2
    · rw [dcT (show ((sortD v).length:Int) < 2 by omega),cond_true]
      rw [kept_take (Nat.le_refl _) (fun k h4 h5=>by omega),List.take_length] at hk
      rw [hk]
    · rw [dcF (show ¬ ((sortD v).length:Int) < 2 by omega),cond_false]
      rcases comp_eq (v:=sortD v) (fun t ht=>by rw [(hall t ((sortD_perm v).mem_iff.1 ht)).2]; omega) (by omega) (by omega) with ⟨m,A,c1,c2⟩ | ⟨c1,c2⟩
      · rw [c1]
        simp only [Option.bind_some,Sum.elim_inl]
        rw [c2,hk]
      · rw [c1]
        simp only [Option.bind_some,Sum.elim_inl,Sum.elim_inr]
        rw [←hk,c2]
  rw [hcomp]
  simp only [Option.bind_some,Sum.elim_inl]
  have hc:∀ t∈sortT v,chk t=0∧t.length=1:=fun t ht=>hall t ((s2 t).1 ht)
  rw [rounds_l4 hn8 g1 g2 d1 d2 t1 t2 e1 e2 (by omega) hc,ref_rounds_l2 hn8 g1 g2 (by omega) hc]
  by_cases hb:(List.range (sortT v).length).any (fun j=>bigT D1 D2 n ((sortT v).getD j []))=true
  · rw [if_pos hb]
    simp only [Option.bind_some,Sum.elim_inl]
    exact ⟨_,rfl,rfl,ref_same (by simp) (fun d hd=>by cases hd)⟩
  · rw [if_neg hb]
    have s:=rdS_ok (D1:=D1) (D2:=D2) hn8 (show (sortT v).length≤128 by omega) s3 hc hb
    have hSl:=s.len
    obtain ⟨M,q1,q2⟩:=undo_tell s
    simp only [Option.bind_some,Sum.elim_inl,Sum.elim_inr]
    generalize rdS D1 D2 n (sortT v)=S at s hSl q1 q2
    rw [cloneD _ (by omega),ref_undo_self s]
    simp only [Option.bind_some]
    rw [room_ok (show S.length≤140737488355328 by omega) (show S.length*1≤140737488355328 by omega),cond_true,sort_times (fun a b ha=>moves_c1 a b ha) s (List.Perm.refl _)]
    simp only [Option.bind_some,rd13]
    rw [mv10_eq s]
    simp only [Option.bind_some,Sum.elim_inl]
    rw [q1,ref_told_eq (undoI_fine s (Nat.le_refl _))]
    simp only [Option.bind_some,q2]
    exact ⟨_,rfl,rfl,undo_same s⟩
theorem one_head {D:List Df} (g:Good D):oneB D=true↔∀ d∈D,d.1.length=1:=by
  unfold oneB
  rw [List.all_eq_true]
  exact ⟨fun h d hd=>by simpa using h d hd,fun h d hd=>by simpa using h d hd⟩
theorem one_first {d:Df} {D:List Df} (g:Good (d :: D)):oneB (d :: D)=decide (d.1.length=1):=by
  obtain ⟨n,hn⟩:=g.same
  cases hq:oneB (d :: D) with
  | true=>rw [decide_eq_true ((one_head g).1 hq d List.mem_cons_self)]
  | false =>
    rw [decide_eq_false]
    intro h
    have:oneB (d :: D)=true:=(one_head g).2 fun e he=>by rw [hn e he,←hn d List.mem_cons_self]; exact h
    rw [hq] at this; cases this
theorem loopRounds {D1 D2:List Df} (l1:D1.length*48≤140737488355328) (l2:D2.length*48≤140737488355328) (n:Int):law_LoopRounds (D1,D2,n,())=some (true,()):=by
  have fin2:∀ (z:Int) (hz:¬ z=0) (Q:Option (Bool × Unit)),(cond (z != (0:Int)) (cond (z == z) (some (((([]:List Df).length:Int) == (0:Int)),())) (some (false,()))) Q)=some (true,()):=fun z hz Q=>by
    rw [bneT hz,beqT rfl]; rfl
  unfold law_LoopRounds
  rw [rounds_is]
  by_cases hn:n < 0
  · simp only [dcT hn,cond_true,Option.bind_some,ref_check_eq]
    cases hq:(dchk D1 == (0:Int)) with
    | true=>simp only [cond_true,Option.bind_some,Sum.elim_inl,beqF (show ¬ (2:Int)=0 by decide),cond_false,fin2 2 (by decide)]
    | false=>simp only [cond_false,Option.bind_some,Sum.elim_inl,beqF (show ¬ (2:Int)=0 by decide),fin2 2 (by decide)]
  by_cases h8:n > 8
  · simp only [dcF hn,cond_false,dcT h8,cond_true,Option.bind_some,ref_check_eq]
    cases hq:(dchk D1 == (0:Int)) with
    | true=>simp only [cond_true,Option.bind_some,Sum.elim_inl,beqF (show ¬ (2:Int)=0 by decide),cond_false,fin2 2 (by decide)]
    | false=>simp only [cond_false,Option.bind_some,Sum.elim_inl,beqF (show ¬ (2:Int)=0 by decide),fin2 2 (by decide)]
  obtain ⟨m,rfl⟩:∃ m:Nat,n=(m:Int):=⟨n.toNat,by omega⟩
  have hm:m≤8:=by omega
  simp only [dcF hn,dcF h8,cond_false,ref_check_eq,single_eq D1 l1,single_eq D2 l2,epochs_eq l1,epochs_eq l2,Option.bind_some]
  by_cases c1:dchk D1=0
  · rw [if_pos c1]
    by_cases c2:dchk D2=0
    · have g1:=dchk_zero c1
      have g2:=dchk_zero c2
      rw [if_pos c2]
      simp only [bneF (show (0:Int)=0 from rfl),cond_false,beqT c1,cond_true,Option.bind_some,Sum.elim_inl,beqT c2]
      by_cases o1:oneB D1=true
      · have a1:=(one_head g1).1 o1
        simp only [o1,cond_true]
        have e1:∀ {α:Type} (p q:Option α),(cond (decide ((D1.length:Int) > 0)) ((getI D1 (0:Int)).bind fun v=>cond ((v.1.length:Int) != (1:Int)) p q) q)=q:=fun p q=>by
          cases D1 with
          | nil=>rfl
          | cons d r=>rw [dcT (show (((d :: r).length:Nat):Int) > 0 by simp only [List.length_cons]; omega),cond_true,show getI (d :: r) (0:Int)=some d from rfl,Option.bind_some,bneF (show (d.1.length:Int)=1 by rw [a1 d List.mem_cons_self]; rfl),cond_false]
        simp only [e1]
        by_cases o2:oneB D2=true
        · have a2:=(one_head g2).1 o2
          obtain ⟨r,r1,r2,r3⟩:=tail_both hm g1 g2 0 0 a1 a2
          simp only [o2,Bool.not_true,cond_false,r1,Option.bind_some]
          cases D2 with
          | nil=>simp only [dcF (show ¬ ((([]:List Df).length:Nat):Int) > 0 by simp),cond_false,bneF c2,r2,Option.bind_some,beqT rfl,cond_true,r3]
          | cons d q=>simp only [dcT (show (((d :: q).length:Nat):Int) > 0 by simp only [List.length_cons]; omega),cond_true,show getI (d :: q) (0:Int)=some d from rfl,Option.bind_some,bneF (show (d.1.length:Int)=1 by rw [a2 d List.mem_cons_self]; rfl),cond_false,Sum.elim_inl,bneF c2,r2,beqT rfl,r3]
        · cases D2 with
          | nil=>exact absurd rfl o2
          | cons d q =>
            have hd:¬ (d.1.length:Int)=1:=fun h=>o2 (by rw [one_first g2]; exact decide_eq_true (by omega))
            have o2':oneB (d :: q)=false:=by
              cases hq:oneB (d :: q) with
              | false=>rfl
              | true=>exact absurd hq o2
            simp only [o2',Bool.not_false,cond_true,Option.bind_some,dcT (show (((d :: q).length:Nat):Int) > 0 by simp only [List.length_cons]; omega),show getI (d :: q) (0:Int)=some d from rfl,bneT hd,Sum.elim_inl]
            exact fin2 3 (by decide) _
      · cases D1 with
        | nil=>exact absurd rfl o1
        | cons d q =>
          have hd:¬ (d.1.length:Int)=1:=fun h=>o1 (by rw [one_first g1]; exact decide_eq_true (by omega))
          have o1':oneB (d :: q)=false:=by
            cases hq:oneB (d :: q) with
            | false=>rfl
            | true=>exact absurd hq o1
          simp only [o1',cond_false,cond_true,Option.bind_some,dcT (show (((d :: q).length:Nat):Int) > 0 by simp only [List.length_cons]; omega),show getI (d :: q) (0:Int)=some d from rfl,bneT hd]
          exact fin2 3 (by decide) _
    · rw [if_neg c2]
      simp only [bneF (show (0:Int)=0 from rfl),cond_false,beqT c1,cond_true,bneT c2,Option.bind_some,Sum.elim_inl,beqF c2]
      cases oneB D1 with
      | true=>simp only [cond_true,Option.bind_some,beqT rfl]; rfl
      | false=>simp only [cond_false,Option.bind_some,beqT rfl,cond_true]; rfl
  · rw [if_neg c1]
    simp only [bneT c1,cond_true,beqF c1,cond_false,Option.bind_some,Sum.elim_inl]
    cases oneB D1 with
    | true=>simp only [cond_true,Option.bind_some,beqT rfl]; rfl
    | false=>simp only [cond_false,Option.bind_some,beqT rfl,cond_true]; rfl
theorem loopRounds_law (x:ADen sp4.args) (h0:List.length x.1*48≤140737488351232) (h1:List.length x.2.1*48≤140737488351232):law_LoopRounds x=some (true,()):=by
  obtain ⟨h,k,n,⟨⟩⟩:=x
  exact loopRounds (show h.length*48≤140737488355328 from Nat.le_trans h0 (by decide)) (show k.length*48≤140737488355328 from Nat.le_trans h1 (by decide)) n
end Go.Proofs.Tryz
