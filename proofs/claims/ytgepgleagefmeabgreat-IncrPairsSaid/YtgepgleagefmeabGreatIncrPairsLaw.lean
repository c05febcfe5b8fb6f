/- The plain law of IncrPairs. -/
import Derived.Test.YtgepgleagefmeabGreatZPFuns
import Derived.Test.YtgepgleagefmeabGreatAbsSums
import Derived.Test.YtgepgleagefmeabGreatZPLemmasIncrPairs3
import Derived.Test.YtgepgleagefmeabGreatZPLemmasIncrPairs4
namespace Go.Proofs.Tryz
open Go Go.Abs

abbrev Tw:=Op3 × List Df × List Df × Unit
abbrev Td:=List Df × Int × Unit
noncomputable def twoTail (x:Tw) (r4 r5:Td):Option Td :=
  ((diffs_Times (r4.1,())).bind fun r6=>((diffs_Times (r5.1,())).bind fun r7=>((slices_Concat_s_s_int_s_int ([r6.1,r7.1],())).bind fun r8=>((((incr_closed r8).bind fun r9=>(cond (!r9.2.1) (some (Sum.inl (([]:(List ((List Int) × ((List (Int × (Int × (Int × Unit)))) × Unit)))),(1:Int),()))) ((loopM (incr_Two_l1 x r9 r4 r5) (([]:(List ((List Int) × ((List (Int × (Int × (Int × Unit)))) × Unit)))),(0:Int),())).bind (Sum.elim (fun z16=>(some (Sum.inl z16))) (Sum.elim (fun z17=>((slices_Clone_s_api_Diff_api_Diff z17).bind fun r18=>(cond (roomOk r18.1.length 1) ((sortP (fun a b=>(diffs_Moves_c1 (a,b,())).map fun r=>r.1) r18.1).bind fun v19=>((loopM (incr_Two_l10 v19) ((0:Int),([]:List ((Int × ((Int × (Int × (Int × (Int × Unit)))) × Unit)) × (Option (List ((Int × (Int × Unit)) × Int))))),())).bind (Sum.elim (fun z78=>((allSome z78.1).bind fun v79=>((diffs_History_Tells (v79,())).bind fun r80=>(some (Sum.inl r80))))) Empty.elim))) none))) Empty.elim))))):Option (((List ((List Int) × ((List (Int × (Int × (Int × Unit)))) × Unit))) × Int × Unit) ⊕ Empty)).bind (Sum.elim (fun z81=>(some z81)) Empty.elim)))))
theorem two_is (x:Tw):incr_Two x=(ops_Ports (x.1,())).bind fun r1=>cond (r1.1 != (2:Int)) (some (([]:List Df),(17:Int),())) (cond (decide ((x.2.1.length:Int) > (0:Int))) (cond (decide ((x.2.2.1.length:Int) > (0:Int))) ((getI x.2.1 (0:Int)).bind fun v2=>(getI x.2.2.1 (0:Int)).bind fun v3=>(diffs_Tidy (x.2.1,())).bind fun r4=>cond (r4.2.1 != (0:Int)) (some (([]:List Df),r4.2.1,())) ((diffs_Tidy (x.2.2.1,())).bind fun r5=>cond (r5.2.1 != (0:Int)) (some (([]:List Df),r5.2.1,())) (cond ((v2.1.length:Int) != (v3.1.length:Int)) (some (([]:List Df),(3:Int),())) (twoTail x r4 r5))))
      ((diffs_Tidy (x.2.1,())).bind fun r4=>cond (r4.2.1 != (0:Int)) (some (([]:List Df),r4.2.1,())) ((diffs_Tidy (x.2.2.1,())).bind fun r5=>cond (r5.2.1 != (0:Int)) (some (([]:List Df),r5.2.1,())) (twoTail x r4 r5))))
      ((diffs_Tidy (x.2.1,())).bind fun r4=>cond (r4.2.1 != (0:Int)) (some (([]:List Df),r4.2.1,())) ((diffs_Tidy (x.2.2.1,())).bind fun r5=>cond (r5.2.1 != (0:Int)) (some (([]:List Df),r5.2.1,())) (twoTail x r4 r5)))):=rfl
theorem tidy_good {D:List Df} (g:Good D):Good (tidyL D) where
  len:=Nat.le_trans (tidy_len D) g.len
  num:=Nat.le_trans (tidy_num D) g.num
  chk d hd:=by
    obtain ⟨t,ht,-,rfl⟩:=tidyL_mem.1 hd
    obtain ⟨e,he,rfl⟩:=List.mem_map.1 ht
    exact g.chk e he
  same:=by
    obtain ⟨n,hn⟩:=g.same
    refine ⟨n,fun d hd=>?_⟩
    obtain ⟨t,ht,-,rfl⟩:=tidyL_mem.1 hd
    obtain ⟨e,he,rfl⟩:=List.mem_map.1 ht
    exact hn e he
def twoR (op:Op3) (h k:List Df) (t:List Int):List Rw:=telB (twoL op ((standB h t).map toR) ((standB k t).map toR))
theorem twoR_len (op:Op3) {h k:List Df} (gh:Good h) (gk:Good k) (t:List Int):(twoR op h k t).length≤20000:=by
  have h1:=standB_le gh t
  have h2:=standB_le gk t
  exact Nat.le_trans (telB_length _) (two_length op (by rw [List.length_map]; omega) (by rw [List.length_map]; omega))
abbrev TwB:=Td ⊕ ((List Df × Unit) ⊕ Empty)
def stopB (R:List Int→List Rw) (l:List (List Int)) (i:Nat):Option TwB:=if (R (l.getD i [])).length > 128 then some (.inl ([],1,())) else none
def outB (R:List Int→List Rw) (l:List (List Int)):TwB:=((List.range l.length).findSome? (stopB R l)).getD (.inr (.inl (standL l R,())))
theorem getD_at {l:List (List Int)} {i:Nat} (hi:i < l.length):l.getD i []=l[i]:=by rw [List.getD_eq_getElem?_getD,List.getElem?_eq_getElem hi]; rfl
theorem two_l1 (x:Tw) {h k:List Df} (gh:Good h) (gk:Good k) (e e':Int) {l:List (List Int)} (hl:l.length≤64) {n:Nat} (hc:∀ t∈l,chk t=0∧t.length=n) (nh:∀ d∈tidyL h,d.1.length=n) (nk:∀ d∈tidyL k,d.1.length=n) (b:Bool) :
    loopM (incr_Two_l1 x (l,b,()) (tidyL h,e,()) (tidyL k,e',())) (([]:List Df),(0:Int),())=some (outB (twoR x.1 h k) l):=by
  have th:=tidy_good gh
  have tk:=tidy_good gk
  refine loopM_stop (f:=incr_Two_l1 x (l,b,()) (tidyL h,e,()) (tidyL k,e',())) l.length (fun i=>(standL (l.take i) (twoR x.1 h k),(i:Int),())) (stopB (twoR x.1 h k) l) _ (fun i hi=>?_) ?_
  · obtain ⟨c1,c2⟩:=hc _ (List.getElem_mem hi)
    have hlen:(standL (l.take i) (twoR x.1 h k)).length=i:=by unfold standL; rw [List.length_map,List.length_take]; omega
    have bh:=standB_le th l[i]
    have bk:=standB_le tk l[i]
    have hol:=twoR_len x.1 gh gk l[i]
    unfold incr_Two_l1
    simp only [dcT (show (i:Int) < (l.length:Int) by omega),cond_true,getI_nat,List.getElem?_eq_getElem hi,Option.bind_some,wrapS (show i < 9223372036854775807 by omega)]
    rw [stands_eq th c1 (fun d hd=>by rw [nh d hd,c2]),stands_eq tk c1 (fun d hd=>by rw [nk d hd,c2])]
    simp only [Option.bind_some]
    rw [pair_eq x.1 (show Rise KT (standB (tidyL h) l[i]) from bag_rise _) (show Rise KT (standB (tidyL k) l[i]) from bag_rise _) (show (standB (tidyL h) l[i]).length≤3000000000000 by omega) (show (standB (tidyL k) l[i]).length≤3000000000000 by omega),standB_tidy,standB_tidy]
    simp only [Option.bind_some]
    have hbl:(bagOf (twoL x.1 ((standB h l[i]).map toR) ((standB k l[i]).map toR)) []).length=(twoR x.1 h k l[i]).length:=by unfold twoR telB; rw [List.length_map]
    have hrow:bags_Bag_Rows (bagOf (twoL x.1 ((standB h l[i]).map toR) ((standB k l[i]).map toR)) [],())=some (twoR x.1 h k l[i],()):=rows_eq (bag_rise _) (by omega)
    unfold stopB
    rw [getD_at hi,hbl]
    by_cases hq:(twoR x.1 h k l[i]).length > 128
    · rw [if_pos hq,dcF (show ¬ ((twoR x.1 h k l[i]).length:Int)≤128 by omega)]; rfl
    · rw [if_neg hq,dcT (show ((twoR x.1 h k l[i]).length:Int)≤128 by omega),hrow]
      simp only [Bool.not_true,cond_false,Option.bind_some,hlen]
      rw [show ∀ y:Df,([y]:List Df).length=1 from fun _=>rfl,room_ok (show i+1≤140737488355328 by omega) (show (i+1)*48≤140737488355328 by omega),List.take_succ_eq_append_getElem hi]
      unfold standL
      rw [List.map_append]; rfl
  · unfold incr_Two_l1
    simp only [dcF (show ¬ (l.length:Int) < (l.length:Int) by omega),cond_false,List.take_length]
theorem ref_two_l1 (op:Op3) {h k:List Df} (gh:Good h) (gk:Good k) {l:List (List Int)} (hl:l.length≤64) (b:Bool) :
    loopM (ref_IncrTwo_l1 (op,h,k,()) (l,b,())) (([]:List Df),(0:Int),())=some (outB (twoR op h k) l):=by
  refine loopM_stop (f:=ref_IncrTwo_l1 (op,h,k,()) (l,b,())) l.length (fun i=>(standL (l.take i) (twoR op h k),(i:Int),())) (stopB (twoR op h k) l) _ (fun i hi=>?_) ?_
  · have hlen:(standL (l.take i) (twoR op h k)).length=i:=by unfold standL; rw [List.length_map,List.length_take]; omega
    have bh:=standB_le gh l[i]
    have bk:=standB_le gk l[i]
    unfold ref_IncrTwo_l1
    simp only [dcT (show (i:Int) < (l.length:Int) by omega),cond_true,getI_nat,List.getElem?_eq_getElem hi,Option.bind_some,wrapS (show i < 9223372036854775807 by omega)]
    rw [ref_stands_eq gh.fine,ref_stands_eq gk.fine]
    simp only [Option.bind_some]
    rw [ref_two op (by unfold standB; exact rows_in _) (by rw [List.length_map]; omega) (by rw [List.length_map]; omega)]
    simp only [Option.bind_some]
    unfold ref_Large stopB
    rw [getD_at hi]
    simp only [Option.bind_some]
    have e:telB (twoL op ((standB h l[i]).map toR) ((standB k l[i]).map toR))=twoR op h k l[i]:=rfl
    rw [e]
    by_cases hq:(twoR op h k l[i]).length > 128
    · rw [if_pos hq,dcT (show ((twoR op h k l[i]).length:Int) > 128 by omega)]; rfl
    · rw [if_neg hq,dcF (show ¬ ((twoR op h k l[i]).length:Int) > 128 by omega)]
      simp only [cond_false,hlen]
      rw [show ∀ y:Df,([y]:List Df).length=1 from fun _=>rfl,room_ok (show i+1≤140737488355328 by omega) (show (i+1)*48≤140737488355328 by omega),List.take_succ_eq_append_getElem hi]
      unfold standL
      rw [List.map_append]; rfl
  · unfold ref_IncrTwo_l1
    simp only [dcF (show ¬ (l.length:Int) < (l.length:Int) by omega),cond_false,List.take_length]
theorem outB_cases {op:Op3} {h k:List Df} (l:List (List Int)):outB (twoR op h k) l=.inl ([],1,())∨(outB (twoR op h k) l=.inr (.inl (standL l (twoR op h k),()))∧∀ t∈l,(twoR op h k t).length≤128):=by
  unfold outB
  cases hf:(List.range l.length).findSome? (stopB (twoR op h k) l) with
  | some z =>
    obtain ⟨i,-,hi⟩:=List.exists_of_findSome?_eq_some hf
    unfold stopB at hi
    split at hi
    · cases hi; exact .inl rfl
    · cases hi
  | none =>
    refine .inr ⟨rfl,fun t ht=>?_⟩
    obtain ⟨i,hi,rfl⟩:=List.mem_iff_getElem.1 ht
    have:=List.findSome?_eq_none_iff.1 hf i (List.mem_range.2 hi)
    unfold stopB at this
    rw [getD_at hi] at this
    split at this
    · cases this
    · omega
theorem two10 (S:List Df):incr_Two_l10 S=mv10 S:=rfl
theorem tail_both (op:Op3) {h k:List Df} (gh:Good h) (gk:Good k) (e e':Int) {n:Nat} (h4:n≤4) (nh:∀ d∈tidyL h,d.1.length=n) (nk:∀ d∈tidyL k,d.1.length=n) :
    ∃ r,twoTail (op,h,k,()) (tidyL h,e,()) (tidyL k,e',())=some r∧ref_IncrTwo (op,h,k,())=some r∧ref_DiffsSame (r.1,r.1,())=some (true,()):=by
  have th:=tidy_good gh
  have tk:=tidy_good gk
  have lh:=th.len
  have lk:=tk.len
  have mh:((tidyL h).map (·.1)).length≤64:=by rw [List.length_map]; exact lh
  have mk:((tidyL k).map (·.1)).length≤64:=by rw [List.length_map]; exact lk
  unfold twoTail ref_IncrTwo
  rw [times_map (D:=tidyL h) (by omega),times_map (D:=tidyL k) (by omega),ref_tidy_eq gh.fine,ref_tidy_eq gk.fine]
  simp only [Option.bind_some]
  rw [ref_times_map (by omega),ref_times_map (by omega)]
  simp only [Option.bind_some]
  rw [concat_eq mh mk,ref_all_eq (by omega) (by omega)]
  simp only [Option.bind_some]
  have hall:∀ t∈(tidyL h).map (·.1)++(tidyL k).map (·.1),chk t=0∧t.length=n:=fun t ht=>by
    rcases List.mem_append.1 ht with ht | ht
    · obtain ⟨d,hd,rfl⟩:=List.mem_map.1 ht
      exact ⟨th.chk d hd,nh d hd⟩
    · obtain ⟨d,hd,rfl⟩:=List.mem_map.1 ht
      exact ⟨tk.chk d hd,nk d hd⟩
  rcases clos_both (n:=n) h4 hall (by rw [List.length_append]; omega) with ⟨p,q⟩ | ⟨l,p,q,hl,hu,hc⟩
  · rw [p,q]
    simp only [Option.bind_some,Bool.not_false,cond_true,Sum.elim_inl]
    exact ⟨_,rfl,rfl,ref_same (by simp) (fun d hd=>by cases hd)⟩
  · rw [p,q]
    simp only [Option.bind_some,Bool.not_true,cond_false]
    rw [two_l1 (op,h,k,()) gh gk e e' hl hc nh nk true,ref_two_l1 op gh gk hl true]
    rcases outB_cases (op:=op) (h:=h) (k:=k) l with ho | ⟨ho,hs⟩
    · rw [ho]
      simp only [Option.bind_some,Sum.elim_inl]
      exact ⟨_,rfl,rfl,ref_same (by simp) (fun d hd=>by cases hd)⟩
    · have s:=standL_ok (R:=twoR op h k) (by omega) hu hc (b:=128) hs (by omega)
      have hsl:(standL l (twoR op h k)).length=l.length:=by unfold standL; rw [List.length_map]
      obtain ⟨M,m1,m2⟩:=undo_tell s
      rw [ho]
      simp only [Option.bind_some,Sum.elim_inl,Sum.elim_inr]
      rw [cloneD _ (by omega),ref_undo_self s]
      simp only [Option.bind_some]
      rw [room_ok (show (standL l (twoR op h k)).length≤140737488355328 by omega) (show (standL l (twoR op h k)).length*1≤140737488355328 by omega),cond_true,sort_times (fun a b ha=>moves_c1 a b ha) s (List.Perm.refl _)]
      simp only [Option.bind_some,two10]
      rw [mv10_eq s]
      simp only [Option.bind_some,Sum.elim_inl]
      rw [m1,ref_told_eq (undoI_fine s (Nat.le_refl _))]
      simp only [Option.bind_some,m2,Sum.elim_inl]
      exact ⟨_,rfl,rfl,undo_same s⟩
theorem dim_of {h:List Df} (g:Good h):∃ n,n≤4∧(∀ d∈h,d.1.length=n):=by
  obtain ⟨n,hn⟩:=g.same
  cases h with
  | nil=>exact ⟨0,by omega,fun d hd=>by cases hd⟩
  | cons d r =>
    have:=(chk_zero (g.chk d List.mem_cons_self)).2.1
    exact ⟨n,by rw [←hn d List.mem_cons_self]; exact this,hn⟩
theorem tidy_dim {h:List Df} {n:Nat} (hn:∀ d∈h,d.1.length=n):∀ d∈tidyL h,d.1.length=n:=fun d hd=>by
  obtain ⟨t,ht,-,rfl⟩:=tidyL_mem.1 hd
  obtain ⟨e,he,rfl⟩:=List.mem_map.1 ht
  exact hn e he
theorem incrPairs {h k:List Df} (lh:h.length*48≤140737488355328) (lk:k.length*48≤140737488355328) (op:Op3):law_IncrPairs (op,h,k,())=some (true,()):=by
  obtain ⟨p,hp⟩:=ports_some op
  have hr:ref_OpPorts (op,())=some (p,()):=by rw [ports_ref]; exact hp
  have nil_same:ref_DiffsSame (([]:List Df),([]:List Df),())=some (true,()):=ref_same (by simp) (fun d hd=>by cases hd)
  unfold law_IncrPairs
  rw [two_is]
  simp only [hp,hr,Option.bind_some,ref_check_eq,tidy_eq lh,tidy_eq lk]
  by_cases h2:p=2
  · simp only [bneF h2,cond_false]
    by_cases ch:dchk h=0
    · have gh:=dchk_zero ch
      rw [if_pos ch]
      simp only [beqT ch,cond_true,bneF (show (0:Int)=0 from rfl),cond_false]
      by_cases ck:dchk k=0
      · have gk:=dchk_zero ck
        obtain ⟨nh,ah,bh⟩:=dim_of gh
        obtain ⟨nk,ak,bk⟩:=dim_of gk
        rw [if_pos ck]
        simp only [Option.bind_some,Sum.elim_inl,beqT ck,cond_true,bneF (show (0:Int)=0 from rfl),cond_false]
        match h,k,lh,lk,ch,ck,gh,gk,bh,bk with
        | [],k,lh,lk,ch,ck,gh,gk,bh,bk =>
          obtain ⟨r,r1,r2,r3⟩:=tail_both op gh gk 0 0 ak (fun d hd=>by cases hd) (tidy_dim bk)
          simp only [dcF (show ¬ ((([]:List Df).length:Nat):Int) > 0 by simp),cond_false,r1,Option.bind_some,bneF ck,r2,beqT rfl,cond_true,r3]
        | d :: h,[],lh,lk,ch,ck,gh,gk,bh,bk =>
          obtain ⟨r,r1,r2,r3⟩:=tail_both op gh gk 0 0 ah (tidy_dim bh) (fun d hd=>by cases hd)
          simp only [dcT (show (((d :: h).length:Nat):Int) > 0 by simp only [List.length_cons]; omega),cond_true,dcF (show ¬ ((([]:List Df).length:Nat):Int) > 0 by simp),cond_false,r1,Option.bind_some,bneF ck,r2,beqT rfl,r3]
        | d :: h,e :: k,lh,lk,ch,ck,gh,gk,bh,bk =>
          simp only [dcT (show (((d :: h).length:Nat):Int) > 0 by simp only [List.length_cons]; omega),dcT (show (((e :: k).length:Nat):Int) > 0 by simp only [List.length_cons]; omega),cond_true,show getI (d :: h) (0:Int)=some d from rfl,show getI (e :: k) (0:Int)=some e from rfl,Option.bind_some]
          by_cases hq:d.1.length=e.1.length
          · have hnn:nk=nh:=by rw [←bh d List.mem_cons_self,←bk e List.mem_cons_self,hq]
            subst hnn
            obtain ⟨r,r1,r2,r3⟩:=tail_both op gh gk 0 0 ah (tidy_dim bh) (tidy_dim bk)
            simp only [bneF (show (d.1.length:Int)=(e.1.length:Int) by omega),cond_false,r1,Option.bind_some,Sum.elim_inl,bneF ck,r2,beqT rfl,cond_true,r3]
          · simp only [bneT (show ¬ (d.1.length:Int)=(e.1.length:Int) by omega),cond_true,Option.bind_some,Sum.elim_inl]
            rfl
      · rw [if_neg ck]
        simp only [Option.bind_some,Sum.elim_inl,beqF ck,cond_false,bneT ck,cond_true]
        cases hz:decide ((h.length:Int) > 0) with
        | false =>
          simp only [cond_false,Option.bind_some,beqT rfl,cond_true]
          rfl
        | true =>
          cases hz2:decide ((k.length:Int) > 0) with
          | false =>
            simp only [cond_true,cond_false,Option.bind_some,beqT rfl]
            rfl
          | true =>
            obtain ⟨d,hd⟩:∃ d,getI h (0:Int)=some d:=by
              cases h with
              | nil=>simp at hz
              | cons d r=>exact ⟨d,rfl⟩
            obtain ⟨e,he⟩:∃ e,getI k (0:Int)=some e:=by
              cases k with
              | nil=>simp at hz2
              | cons d r=>exact ⟨d,rfl⟩
            simp only [cond_true,hd,he,Option.bind_some,beqT rfl]
            rfl
    · rw [if_neg ch]
      simp only [Option.bind_some,Sum.elim_inl,beqF ch,cond_false,bneT ch,cond_true]
      cases hz:decide ((h.length:Int) > 0) with
      | false =>
        simp only [cond_false,Option.bind_some,beqT rfl,cond_true]
        rfl
      | true =>
        cases hz2:decide ((k.length:Int) > 0) with
        | false =>
          simp only [cond_true,cond_false,Option.bind_some,beqT rfl]
          rfl
        | true =>
          obtain ⟨d,hd⟩:∃ d,getI h (0:Int)=some d:=by
            cases h with
            | nil=>simp at hz
            | cons d r=>exact ⟨d,rfl⟩
          obtain ⟨e,he⟩:∃ e,getI k (0:Int)=some e:=by
            cases k with
            | nil=>simp at hz2
            | cons d r=>exact ⟨d,rfl⟩
          simp only [cond_true,hd,he,Option.bind_some,beqT rfl]
          rfl
  · simp only [bneT h2,cond_true,Option.bind_some,Sum.elim_inl]
    have e17:∀ Q:Option (Bool × Unit),(cond ((17:Int) != 0) (cond ((17:Int) == 17) (some (((([]:List Df).length:Int) == 0),())) (some (false,()))) Q)=some (true,()):=fun Q=>rfl
    simp only [e17]
    have lift:∀ z:Int,(cond (z == (0:Int)) (cond (decide ((h.length:Int) > 0)) (cond (decide ((k.length:Int) > 0)) ((getI h (0:Int)).bind fun v6=>(getI k (0:Int)).bind fun v7=>(((cond ((v6.1.length:Int) != (v7.1.length:Int)) (some (Sum.inl ((3:Int),()))) (some (Sum.inl (z,())))):Option ((Int × Unit) ⊕ Empty))).bind (Sum.elim (fun _=>some (true,())) Empty.elim)) (some (true,()))) (some (true,()))) (some (true,())))=some (true,()):=fun z=>by
      cases (z == (0:Int)) with
      | false=>rfl
      | true =>
        cases hz:decide ((h.length:Int) > 0) with
        | false=>rfl
        | true =>
          cases hz2:decide ((k.length:Int) > 0) with
          | false=>rfl
          | true =>
            obtain ⟨d,hd⟩:∃ d,getI h (0:Int)=some d:=by
              cases h with
              | nil=>simp at hz
              | cons d r=>exact ⟨d,rfl⟩
            obtain ⟨e,he⟩:∃ e,getI k (0:Int)=some e:=by
              cases k with
              | nil=>simp at hz2
              | cons d r=>exact ⟨d,rfl⟩
            simp only [cond_true,hd,he,Option.bind_some]
            cases ((d.1.length:Int) != (e.1.length:Int)) <;> rfl
    cases hc:(dchk h == (0:Int)) with
    | true =>
      simp only [cond_true,Option.bind_some,Sum.elim_inl]
      exact lift (dchk k)
    | false =>
      simp only [cond_false,Option.bind_some,Sum.elim_inl]
      exact lift (dchk h)
theorem incrPairs_law (x:ADen sp3.args) (h0:List.length x.2.1*48≤140737488351232) (h1:List.length x.2.2.1*48≤140737488351232):law_IncrPairs x=some (true,()):=by
  obtain ⟨op,h,k,⟨⟩⟩:=x
  exact incrPairs (show h.length*48≤140737488355328 from Nat.le_trans h0 (by decide)) (show k.length*48≤140737488355328 from Nat.le_trans h1 (by decide)) op
end Go.Proofs.Tryz
