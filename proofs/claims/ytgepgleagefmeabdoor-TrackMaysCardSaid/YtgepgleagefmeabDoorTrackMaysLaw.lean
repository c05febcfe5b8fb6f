/- The plain law of TrackMays. -/
import Derived.Test.YtgepgleagefmeabDoorE5Funs
import Derived.Test.YtgepgleagefmeabDoorAbsSums
import Derived.Test.YtgepgleagefmeabDoorE5LemmasTrackMays4
import Derived.Test.YtgepgleagefmeabDoorE5LemmasTrackMays1
namespace Go.Proofs.Tryd
open Go Go.Abs

abbrev Stp:=Int × List Int × Unit
theorem same4 {t u:List Int} (h1:t.length≤4) (h2:t.length=u.length) (a0:(t[0]?).getD 0=(u[0]?).getD 0) (a1:(t[1]?).getD 0=(u[1]?).getD 0) (a2:(t[2]?).getD 0=(u[2]?).getD 0) (a3:(t[3]?).getD 0=(u[3]?).getD 0):t=u:=by
  refine List.ext_getElem h2 fun i g1 g2=>?_
  have e:∀ k,k=i→(t[k]?).getD 0=(u[k]?).getD 0→t[i]=u[i]:=fun k hk h=>by
    subst hk
    rwa [List.getElem?_eq_getElem g1,List.getElem?_eq_getElem g2] at h
  rcases (show i=0∨i=1∨i=2∨i=3 by omega) with h | h | h | h
  · exact e 0 h.symm a0
  · exact e 1 h.symm a1
  · exact e 2 h.symm a2
  · exact e 3 h.symm a3
theorem track_Same_eq {a b:Int} {t u:List Int} (h1:t.length≤4) (h2:u.length≤4):track_Same ((a,t,()),(b,u,()),())=some (decide (a=b∧t=u),()):=by
  unfold track_Same track_keyOf
  simp only [Option.bind_some]
  congr 2
  rw [Bool.eq_iff_iff,decide_eq_true_iff]
  simp only [Bool.and_eq_true,beq_iff_eq,Bool.and_true]
  constructor
  · rintro ⟨e1,e2,e3,e4,e5,e6⟩
    exact ⟨e1,same4 h1 (by omega) e3 e4 e5 e6⟩
  · rintro ⟨rfl,rfl⟩
    simp
theorem ref_StampsSame_eq {a b:Int} {t u:List Int} (h1:t.length≤4):ref_StampsSame ((a,t,()),(b,u,()),())=some (decide (a=b∧t=u),()):=by
  unfold ref_StampsSame
  simp only [ref_TimesSame_eq (show t.length≤1000000 by omega),Option.bind_some,cond_beq]
  by_cases h:a=b
  · simp [h]
  · simp [h]
section
variable {N:List Node} {E:List Edge}
def stampsC (N:List Node) (l:List Stp):Option Int:=l.findSome? fun s=>if stampC N s.1 s.2.1=0 then none else some (stampC N s.1 s.2.1)
theorem findSome_mapO {α β:Type} (f:Nat→Option α) (g:α→β):∀ l:List Nat,l.findSome? (fun i=>(f i).map g)=(l.findSome? f).map g
  | []=>rfl
  | a :: r=>by
    rw [List.findSome?_cons,List.findSome?_cons]
    cases f a with
    | some x=>rfl
    | none=>exact findSome_mapO f g r
theorem range_find {α β:Type} (d:α) (f:α→Option β):∀ (l:List α),(List.range l.length).findSome? (fun i=>f (l.getD i d))=l.findSome? f:=by
  intro l
  induction l with
  | nil=>rfl
  | cons a l ih =>
    rw [List.length_cons,List.range_succ_eq_map,List.findSome?_cons,List.findSome?_cons,List.findSome?_map]
    show (match f a with | some b=>some b | none=>_)=_
    cases f a with
    | some b=>rfl
    | none=>exact ih
theorem stamps_check (a:Int) (t:List Int) (L:List Stp) (hL:L.length≤64):loopM (track_May_l6 ((N,E,()),(a,t,()),L,())) ((0:Int),())=some (exitOr ((stampsC N ([(a,t,())]++L)).map fun c=>(false,c,())) (.inl ())):=by
  have hl:([(a,t,())]++L).length=L.length+1:=by simp
  unfold stampsC
  rw [←range_find ((0,[],()):Stp),←findSome_mapO]
  refine loopM_exit (f:=track_May_l6 ((N,E,()),(a,t,()),L,())) ([(a,t,())]++L).length (fun i=>((i:Int),())) _ (.inl ()) (fun i hi=>?_) ?_ rfl
  · unfold track_May_l6
    generalize [(a,t,())]++L=M at *
    rw [List.getD_eq_getElem?_getD,List.getElem?_eq_getElem hi,Option.getD_some]
    simp only [dcT (show (i:Int) < (M.length:Int) by omega),cond_true,inB_T hi,Int.toNat_natCast,List.getElem?_eq_getElem hi,Option.bind_some,wrapS (show i < 9223372036854775807 by omega),show reach_Check ((N,E,()),M[i],())=some (stampC N M[i].1 M[i].2.1,()) from reach_Check_eq _ _,cond_bne]
    by_cases h:stampC N M[i].1 M[i].2.1=0
    · rw [if_pos h,if_pos h]; rfl
    · rw [if_neg h,if_neg h]; rfl
  · unfold track_May_l6
    simp only [dcF (show ¬ (([(a,t,())]++L).length:Int) < (([(a,t,())]++L).length:Int) by omega),cond_false]
def codeL (N:List Node):Int→List Stp→Int
  | c,[]=>c
  | c,s :: l=>if c=0 then codeL N (stampC N s.1 s.2.1) l else c
theorem codeL_ne {c:Int} (h:c≠0):∀ l,codeL N c l=c
  | []=>rfl
  | s :: l=>by unfold codeL; rw [if_neg h]
theorem codeL_find:∀ (l:List Stp),codeL N 0 l=(stampsC N l).getD 0
  | []=>rfl
  | s :: l=>by
    unfold codeL stampsC
    rw [if_pos rfl,List.findSome?_cons]
    by_cases h:stampC N s.1 s.2.1=0
    · rw [if_pos h,h]
      exact codeL_find l
    · rw [if_neg h,codeL_ne h]; rfl
theorem code_loop (a:Int) (t:List Int) (L:List Stp) (hL:L.length≤9223372036854775807):∀ (k i:Nat),i+k=L.length→∀ c:Int,loopM (law_TrackMays_l1 ((N,E,()),(a,t,()),L,())) (c,(i:Int),())=some (.inl (codeL N c (L.drop i),()))
  | 0,i,hi,c=>by
    rw [loopM_inr (b:=.inl (c,())) (by
      unfold law_TrackMays_l1
      simp only [dcF (show ¬ (i:Int) < (L.length:Int) by omega),cond_false]),List.drop_of_length_le (by omega)]
    rfl
  | k+1,i,hi,c=>by
    have hlt:i < L.length:=by omega
    have hs:law_TrackMays_l1 ((N,E,()),(a,t,()),L,()) (c,(i:Int),())=some (if c=0 then .inl (stampC N L[i].1 L[i].2.1,((i+1:Nat):Int),()) else .inr (.inl (c,()))):=by
      unfold law_TrackMays_l1
      simp only [dcT (show (i:Int) < (L.length:Int) by omega),cond_true,getI_lt hlt,Option.bind_some,ref_StampCheck_eq,wrapS (show i < 9223372036854775807 by omega),cond_beq]
      split <;> rfl
    rw [List.drop_eq_getElem_cons hlt]
    unfold codeL
    by_cases h:c=0
    · rw [if_pos h] at hs
      rw [loopM_inl hs,code_loop a t L hL k (i+1) (by omega),if_pos h]
    · rw [if_neg h] at hs
      rw [loopM_inr hs,if_neg h]
def mayOne (P:Tb) (a:Nat) (t:List Int) (s:Stp):Bool:=(P a s.1.toNat).any (fun x=>canB x t s.2.1) && !decide ((a:Int)=s.1∧t=s.2.1)
theorem stamps_ok (hN:N.all mayB=true) {l:List Stp} (h:stampsC N l=none):∀ s∈l,∃ k:Nat,s.1=(k:Int)∧k < N.length∧chk s.2.1=0∧s.2.1.length=depN N k:=fun s hs=>by
  have:=List.findSome?_eq_none_iff.1 h s hs
  refine stampC_zero hN ?_
  apply Classical.byContradiction
  intro hc
  rw [if_neg hc] at this
  cases this
theorem may_loop (g:GR N.length (depN N) (sumN N) (edN E)) {P:Tb} (hP:PF N.length (depN N) (sumN N) (edN E) P) (hb:∀ u v,∀ x∈P u v,bx x) {a:Nat} {t:List Int} (ha:a < N.length) (hct:chk t=0) (hlt:t.length=depN N a) {L:List Stp} (hL:L.length≤64) (hok:∀ s∈L,∃ k:Nat,s.1=(k:Int)∧k < N.length∧chk s.2.1=0∧s.2.1.length=depN N k) :
    (∃ i:Nat,loopM (track_May_l8 ((N,E,()),((a:Int),t,()),L,()) (sq N.length P,())) ((0:Int),())=some (if L.all (mayOne P a t)=true then .inr (.inl ()) else .inl ((i:Int),()))) ∧
    loopM (law_TrackMays_l2 ((N,E,()),((a:Int),t,()),L,()) (sq N.length P,())) (true,(0:Int),())=some (.inl (L.all (mayOne P a t),())):=by
  have hn:=g.n12
  have h4:=(chk_zero hct).2.1
  constructor
  · have key:=loopM_exit (f:=track_May_l8 ((N,E,()),((a:Int),t,()),L,()) (sq N.length P,())) L.length (fun i=>((i:Int),())) (fun i=>if mayOne P a t (L.getD i (0,[],()))=true then none else some ((i:Int),())) (.inl ()) (fun i hi=>by
      obtain ⟨v,e1,hv,hcv,hlv⟩:=hok _ (List.getElem_mem hi)
      have h5:=(chk_zero hcv).2.1
      obtain ⟨c2,c1⟩:=ref_could_eq g hP hb ha hv hct hlt hcv hlv
      have c1':loopM (track_May_l7 ((N,E,()),((a:Int),t,()),L,()) (P a v) L[i]) ((0:Int),(false,()),())=_:=c1
      rw [List.getD_eq_getElem?_getD,List.getElem?_eq_getElem hi,Option.getD_some]
      have hsame:=track_Same_eq (a:=(a:Int)) (b:=L[i].1) (t:=t) (u:=L[i].2.1) h4 h5
      unfold track_May_l8 mayOne
      rw [e1] at hsame
      have hs2:track_Same (((a:Int),t,()),L[i],())=some (decide ((a:Int)=(v:Int)∧t=L[i].2.1),()):=by
        rw [←hsame,←e1]
      simp only [dcT (show (i:Int) < (L.length:Int) by omega),cond_true,getI_lt hi,Option.bind_some,e1,Int.toNat_natCast,idx_wrap ha hv (show N.length≤16 by omega),sq_length,idx_inB ha hv,sq_get P ha hv,c1',hs2,wrapS (show i < 9223372036854775807 by omega)]
      cases (P a v).any fun x=>canB x t L[i].2.1 with
      | true =>
        simp only [if_true,Sum.elim_inl,cond_true,Bool.true_and]
        cases decide ((a:Int)=(v:Int)∧t=L[i].2.1) <;> rfl
      | false=>rfl) (by
      unfold track_May_l8
      simp only [dcF (show ¬ (L.length:Int) < (L.length:Int) by omega),cond_false]) (s0:=((0:Int),())) rfl
    rw [key]
    cases hf:(List.range L.length).findSome? fun i=>if mayOne P a t (L.getD i (0,[],()))=true then none else some (((i:Int),()):Int × Unit) with
    | none =>
      refine ⟨0,?_⟩
      have hall:L.all (mayOne P a t)=true:=by
        rw [List.all_eq_true]
        intro s hs
        obtain ⟨i,hi,rfl⟩:=List.mem_iff_getElem.1 hs
        have:=List.findSome?_eq_none_iff.1 hf i (List.mem_range.2 hi)
        rw [List.getD_eq_getElem?_getD,List.getElem?_eq_getElem hi,Option.getD_some] at this
        cases hm:mayOne P a t L[i] with
        | true=>rfl
        | false=>rw [hm] at this; cases this
      rw [if_pos hall]; rfl
    | some p =>
      obtain ⟨i,hi,h⟩:=List.exists_of_findSome?_eq_some hf
      have hi:=List.mem_range.1 hi
      rw [List.getD_eq_getElem?_getD,List.getElem?_eq_getElem hi,Option.getD_some] at h
      refine ⟨i,?_⟩
      have hno:¬ L.all (mayOne P a t)=true:=fun hc=>by
        rw [List.all_eq_true.1 hc _ (List.getElem_mem hi)] at h
        cases h
      rw [if_neg hno]
      split at h
      · cases h
      · cases h; rfl
  · have key:loopM (law_TrackMays_l2 ((N,E,()),((a:Int),t,()),L,()) (sq N.length P,())) (true,(0:Int),())=some (.inl ((L.take L.length).all (mayOne P a t),())):=by
      refine loopM_sim L.length (fun i=>((L.take i).all (mayOne P a t),(i:Int),())) _ (fun i hi=>?_) ?_ ?_
      · obtain ⟨v,e1,hv,hcv,hlv⟩:=hok _ (List.getElem_mem hi)
        obtain ⟨c2,c1⟩:=ref_could_eq g hP hb ha hv hct hlt hcv hlv
        have hs:L[i]=((v:Int),L[i].2.1,()):=by rw [←e1]
        rw [List.take_succ_eq_append_getElem hi,List.all_append,List.all_cons,List.all_nil,Bool.and_true]
        have hlater:ref_Later ((N,E,()),sq N.length P,((a:Int),t,()),L[i],())=some (mayOne P a t L[i],()):=by
          unfold ref_Later mayOne
          rw [hs,c2]
          simp only [Option.bind_some,ref_StampsSame_eq h4,Int.toNat_natCast]
          cases (P a v).any fun x=>canB x t L[i].2.1 <;> rfl
        unfold law_TrackMays_l2
        simp only [dcT (show (i:Int) < (L.length:Int) by omega),cond_true,getI_lt hi,Option.bind_some,hlater,wrapS (show i < 9223372036854775807 by omega)]
        cases mayOne P a t L[i] <;> simp
      · unfold law_TrackMays_l2
        simp only [dcF (show ¬ (L.length:Int) < (L.length:Int) by omega),cond_false]
      · rfl
    rw [List.take_length] at key
    exact key
theorem TrackMays_ok (a:Int) (t:List Int) (L:List Stp) (hLb:L.length≤9223372036854775807):law_TrackMays ((N,E,()),(a,t,()),L,())=some (true,()):=by
  by_cases h0:(gval N E).1=0
  · obtain ⟨P,hb,hP,hQ,h2,J,hi,hrun⟩:=search_both h0
    obtain ⟨e0,hn,hE,hN,hok,-⟩:=gval_zero h0
    have g:=gr_of hn hN hok
    have hsq:=sq_le (n:=N.length) (by omega)
    have hi':loopM (track_May_l3 ((N,E,()),(a,t,()),L,())) (([]:List JbI),(0:Int),())=some (.inl (J,())):=hi
    have hrun':loopM (track_May_l5 ((N,E,()),(a,t,()),L,())) (J,List.replicate (N.length*N.length) ([]:List Sm),())=some (.inl (sq N.length P,())):=hrun
    have hroom:∀ hL:L.length≤64,roomOk (([(a,t,())]:List Stp).length+L.length) 32=true:=fun hL=>by
      have:([(a,t,())]:List Stp).length=1:=rfl
      exact room_ok (by omega) (by omega)
    have hcode:=code_loop (N:=N) (E:=E) a t L hLb L.length 0 (by omega)
    have i0:((0:Nat):Int)=0:=rfl
    rw [i0] at hcode
    simp only [List.drop_zero] at hcode
    by_cases hL:64 < L.length
    · have hm:track_May ((N,E,()),(a,t,()),L,())=some (false,1,()):=by
        unfold track_May
        simp only [graph_Check_eq,e0,Option.bind_some,bneF (show (0:Int)=0 from rfl),cond_false,sq_wrap (n:=N.length) (by omega),dcT (show (0:Int)≤((N.length*N.length:Nat):Int) by omega),dcT (show ((N.length*N.length:Nat):Int)≤((N.length*N.length:Nat):Int) by omega),Int.toNat_natCast,room_ok (show N.length*N.length≤140737488355328 by omega) (show N.length*N.length*24≤140737488355328 by omega),dcT (show ((N.length*N.length:Nat):Int)≤9223372036854775807 by omega),Bool.and_self,Bool.and_true,cond_true,hi',Sum.elim_inl,hrun',dcT (show (L.length:Int) > 64 by omega)]
      unfold law_TrackMays
      simp only [hm,ref_GraphCheck_eq,e0,Option.bind_some,beqT (show (0:Int)=0 from rfl),cond_true,dcT (show (L.length:Int) > 64 by omega),Sum.elim_inl,beqF (show ¬ (1:Int)=0 by omega),cond_false,hcode,codeL_ne (show (1:Int)≠0 by omega),bneT (show ¬ (1:Int)=0 by omega),beqT (show (1:Int)=1 from rfl)]
      rfl
    · have hL':L.length≤64:=by omega
      have hsc:=stamps_check (N:=N) (E:=E) a t L hL'
      have hcc:codeL N (stampC N a t) L=(stampsC N ([(a,t,())]++L)).getD 0:=by
        rw [←codeL_find]
        show _=codeL N 0 ((a,t,()) :: L)
        conv=>rhs; unfold codeL
        rw [if_pos rfl]
      cases hst:stampsC N ([(a,t,())]++L) with
      | some c =>
        rw [hst] at hsc hcc
        have hc0:c≠0:=by
          obtain ⟨s,-,h⟩:=List.exists_of_findSome?_eq_some hst
          split at h
          · cases h
          · rename_i h'; cases h; exact h'
        have hm:track_May ((N,E,()),(a,t,()),L,())=some (false,c,()):=by
          unfold track_May
          simp only [graph_Check_eq,e0,Option.bind_some,bneF (show (0:Int)=0 from rfl),cond_false,sq_wrap (n:=N.length) (by omega),dcT (show (0:Int)≤((N.length*N.length:Nat):Int) by omega),dcT (show ((N.length*N.length:Nat):Int)≤((N.length*N.length:Nat):Int) by omega),Int.toNat_natCast,room_ok (show N.length*N.length≤140737488355328 by omega) (show N.length*N.length*24≤140737488355328 by omega),dcT (show ((N.length*N.length:Nat):Int)≤9223372036854775807 by omega),Bool.and_self,cond_true,hi',Sum.elim_inl,hrun',dcF (show ¬ (L.length:Int) > 64 by omega),hroom hL',hsc,Option.map_some,exitOr_some]
        unfold law_TrackMays
        simp only [hm,ref_GraphCheck_eq,e0,Option.bind_some,beqT (show (0:Int)=0 from rfl),cond_true,dcF (show ¬ (L.length:Int) > 64 by omega),Sum.elim_inl,cond_false,ref_StampCheck_eq,hcode,hcc,Option.getD_some,bneT hc0,beqT (rfl:c=c)]
        rfl
      | none =>
        rw [hst] at hsc hcc
        have hall:=stamps_ok hN hst
        obtain ⟨u,hu0,hu,hct,hlt⟩:=hall (a,t,()) (List.mem_append_left _ List.mem_cons_self)
        simp only at hu0 hct hlt
        subst hu0
        obtain ⟨⟨i,hm1⟩,hm2⟩:=may_loop g hP hb hu hct hlt hL' fun s hs=>hall s (List.mem_append_right _ hs)
        have hm:track_May ((N,E,()),((u:Int),t,()),L,())=some (L.all (mayOne P u t),0,()):=by
          unfold track_May
          simp only [graph_Check_eq,e0,Option.bind_some,bneF (show (0:Int)=0 from rfl),cond_false,sq_wrap (n:=N.length) (by omega),dcT (show (0:Int)≤((N.length*N.length:Nat):Int) by omega),dcT (show ((N.length*N.length:Nat):Int)≤((N.length*N.length:Nat):Int) by omega),Int.toNat_natCast,room_ok (show N.length*N.length≤140737488355328 by omega) (show N.length*N.length*24≤140737488355328 by omega),dcT (show ((N.length*N.length:Nat):Int)≤9223372036854775807 by omega),Bool.and_self,cond_true,hi',Sum.elim_inl,hrun',dcF (show ¬ (L.length:Int) > 64 by omega),hroom hL',hsc,Option.map_none,exitOr_none,Sum.elim_inr,hm1]
          cases L.all (mayOne P u t) with
          | true=>rfl
          | false =>
            simp only [Bool.false_eq_true,if_false,Sum.elim_inl,dcT (show (i:Int) ≥ 0 by omega),Bool.not_true]
        unfold law_TrackMays
        simp only [hm,ref_GraphCheck_eq,e0,Option.bind_some,beqT (show (0:Int)=0 from rfl),cond_true,dcF (show ¬ (L.length:Int) > 64 by omega),Sum.elim_inl,cond_false,ref_StampCheck_eq,hcode,hcc,Option.getD_none,bneF (show (0:Int)=0 from rfl),h2,hm2,beq_self_eq_true]
  · have hm:track_May ((N,E,()),(a,t,()),L,())=some (false,(gval N E).1,()):=by
      unfold track_May
      simp only [graph_Check_eq,Option.bind_some,bneT h0,cond_true]
    have hcode:loopM (law_TrackMays_l3 ((N,E,()),(a,t,()),L,())) ((gval N E).1,(0:Int),())=some (.inl (codeL N (gval N E).1 L,())):=by
      have:=code_loop (N:=N) (E:=E) a t L hLb L.length 0 (by omega) (gval N E).1
      rw [List.drop_zero] at this
      exact this
    unfold law_TrackMays
    simp only [hm,ref_GraphCheck_eq,Option.bind_some,beqF h0,cond_false,Sum.elim_inl,hcode,codeL_ne h0,bneT h0,cond_true,beqT (rfl:(gval N E).1=(gval N E).1)]
    rfl
end
theorem trackMays_law (x:ADen sp5.args) (h:WfA sp5.args x):law_TrackMays x=some (true,()):=by
  obtain ⟨⟨N,E,⟨⟩⟩,⟨a,t,⟨⟩⟩,L,⟨⟩⟩:=x
  exact TrackMays_ok a t L (show L.length≤maxLen from h.2.2.1.1)
end Go.Proofs.Tryd
