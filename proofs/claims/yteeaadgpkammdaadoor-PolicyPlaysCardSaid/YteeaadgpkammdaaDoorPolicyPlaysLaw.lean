/- The plain law of PolicyPlays. -/
import Derived.Test.YteeaadgpkammdaaDoorDPFuns
import Derived.Test.YteeaadgpkammdaaDoorAbsSums
import Derived.Test.YteeaadgpkammdaaDoorDPLemmasPolicyPlays1
namespace Go.Proofs.Tryd
open Go Go.Abs

section
variable {n:Nat} {ws:List Nat} {T:List Pe} {S:List Pq}
theorem rplay_step (hf:Fit ws) (hw:ws.length=n) (hn:n≤16) (hT:T.length≤16) (hS:S.length≤60) {i:Nat} (hi:i < S.length) {s:Pst} (h:PInv i s) :
    ref_PolicyPlay_l1 (((n:Int),cl ws,()),T,S,()) (s.C,s.V,s.R,(i:Int),())=some (.inl ((pstep n ws T s S[i]).C,(pstep n ws T s S[i]).V,(pstep n ws T s S[i]).R,((i+1:Nat):Int),())):=by
  obtain ⟨h1,h2,h3,h4,h5,h6⟩:=h
  have rC:∀ v:Int,(true && roomOk (s.C.length+([v]).length) 8 && true && true)=true:=fun v=>by
    rw [roomP (show s.C.length+([v]).length≤200000 by simp; omega) (by omega)]; rfl
  have rV:∀ v:Pq,(true && roomOk (s.V.length+([v]).length) 40 && true && true)=true:=fun v=>by
    rw [roomP (show s.V.length+([v]).length≤200000 by simp; omega) (by omega)]; rfl
  unfold ref_PolicyPlay_l1
  generalize hq:S[i]=q
  have hq':S[i]? = some q:=by rw [List.getElem?_eq_getElem hi,hq]
  simp only [dcT (show (i:Int) < (S.length:Int) by omega),cond_true,getI_nat,hq',Option.bind_some,wrapS (show i < 9223372036854775807 by omega)]
  unfold pstep
  by_cases k2:q.1=2
  · rw [if_pos k2,beqT k2,cond_true,Option.bind_some,Sum.elim_inl,beqF (show ¬ q.1=1 by omega),cond_false,rC,cond_true,wrap64 (show -9223372036854775808≤s.R+1 by omega) (by omega)]
  · rw [if_neg k2,beqF k2,cond_false,Option.bind_some,Sum.elim_inl]
    by_cases k1:q.1=1
    · rw [if_pos k1,beqT k1,cond_true]
      simp only [ref_PolicyAsk_eq hf hw hn hT (show s.V.length≤60 by omega) h4,Option.bind_some,cond_beq]
      by_cases ha:askP n ws T s.V s.R q=0
      · have hin:¬ outB n q.2.1 q.2.2.1 q.2.2.2.1 q.2.2.2.2.1:=fun ho=>by
          unfold askP at ha
          rw [if_pos ho] at ha; cases ha
        unfold outB at hin
        have hB:=ref_Below_eq hf (N:=(n:Int)) (show q.2.2.1.toNat < ws.length by omega) (show q.2.2.2.1.toNat < 2 ^ 64 by omega)
        rw [show ((q.2.2.1.toNat:Nat):Int)=q.2.2.1 by omega,show ((q.2.2.2.1.toNat:Nat):Int)=q.2.2.2.1 by omega] at hB
        rw [if_pos ha,hB,Option.bind_some]
        have hg:grants n ws T s.V s.R q=!below ws q.2.2.1.toNat q.2.2.2.1.toNat:=by unfold grants; rw [dcT ha,Bool.true_and]
        rw [hg,ha]
        cases hb:below ws q.2.2.1.toNat q.2.2.2.1.toNat with
        | true=>simp only [Bool.not_true,cond_false,rC,cond_true]
        | false=>simp only [Bool.not_false,cond_true,rC,rV]
      · have hg:grants n ws T s.V s.R q=false:=by unfold grants; rw [dcF ha,Bool.false_and]
        rw [if_neg ha,hg,cond_false,rC,cond_true]
    · rw [if_neg k1,beqF k1,cond_false,rC,cond_true]
theorem askP_out {V:List Pq} {R:Int} {q:Pq} (h:outB n q.2.1 q.2.2.1 q.2.2.2.1 q.2.2.2.2.1):askP n ws T V R q=2:=if_pos h
theorem askP_in {V:List Pq} {R:Int} {q:Pq} (h:¬ outB n q.2.1 q.2.2.1 q.2.2.2.1 q.2.2.2.2.1):askP n ws T V R q =
    if below ws q.2.2.1.toNat q.2.2.2.1.toNat=true then 0 else match T.find? fun e=>decide (eKey e=qKey q) with
    | none=>5
    | some e=>if usedOf V R (qKey q)+q.2.2.2.2.1 > e.2.2.2.1 then 13 else 0:=if_neg h
theorem play_step (hf:Fit ws) (hw:ws.length=n) (hn:n≤16) (hap:T.Pairwise fun a b=>eKey a≠eKey b) (hS:S.length≤60) {i:Nat} (hi:i < S.length) {s:Pst} (h:PInv i s)
    (o:Int × List Int × Unit) (z:Int × Int × Unit) (J M:List Int) (b t:Int) :
    policy_Play_l4 (o,T,S,()) (z,mpT T,()) (s.C,(i:Int),s.U,s.V,((n:Int),cl ws,J,M,b,t,s.R,()),()) =
      some (.inl ((pstep n ws T s S[i]).C,((i+1:Nat):Int),(pstep n ws T s S[i]).U,(pstep n ws T s S[i]).V,((n:Int),cl ws,J,M,b,t,(pstep n ws T s S[i]).R,()),())):=by
  obtain ⟨h1,h2,h3,h4,h5,h6⟩:=h
  have rC:∀ v:Int,(true && roomOk (s.C.length+([v]).length) 8 && true && true)=true:=fun v=>by
    rw [roomP (show s.C.length+([v]).length≤200000 by simp; omega) (by omega)]; rfl
  have rV:∀ v:Pq,(true && roomOk (s.V.length+([v]).length) 40 && true && true)=true:=fun v=>by
    rw [roomP (show s.V.length+([v]).length≤200000 by simp; omega) (by omega)]; rfl
  have rC1:∀ v:Int,roomOk (s.C.length+([v]).length) 8=true:=fun v=>roomP (show s.C.length+([v]).length≤200000 by simp; omega) (by omega)
  have rV1:∀ v:Pq,roomOk (s.V.length+([v]).length) 40=true:=fun v=>roomP (show s.V.length+([v]).length≤200000 by simp; omega) (by omega)
  unfold policy_Play_l4
  generalize hq:S[i]=q
  have hq':S[i]? = some q:=by rw [List.getElem?_eq_getElem hi,hq]
  simp only [dcT (show (i:Int) < (S.length:Int) by omega),cond_true,getI_nat,hq',Option.bind_some,wrapS (show i < 9223372036854775807 by omega),number_eq]
  unfold pstep
  by_cases k2:q.1=2
  · rw [if_pos k2,beqF (show ¬ q.1=1 by omega),cond_false,beqT k2,cond_true,Option.bind_some,Sum.elim_inl,rC,cond_true,wrap64 (show -9223372036854775808≤s.R+1 by omega) (by omega)]
  rw [if_neg k2,beqF k2,cond_false]
  by_cases k1:q.1=1
  · rw [if_pos k1,beqT k1,cond_true]
    have bad:outB n q.2.1 q.2.2.1 q.2.2.2.1 q.2.2.2.2.1→grants n ws T s.V s.R q=false∧askP n ws T s.V s.R q=2:=fun ho=>by
      refine ⟨?_,askP_out ho⟩
      unfold grants
      rw [askP_out ho]; rfl
    by_cases a1:q.2.1 < 0
    · obtain ⟨b1,b2⟩:=bad (.inl a1)
      rw [dcT a1,cond_true,b1,b2,cond_false,Option.bind_some,Sum.elim_inl,rC,cond_true]
    rw [dcF a1,cond_false]
    by_cases a2:0≤q.2.2.1∧0≤q.2.2.2.1
    rotate_left
    · obtain ⟨b1,b2⟩:=bad (by unfold outB; omega)
      rw [dcF (fun hh=>a2 ((min_iff _ _).1 hh)),cond_false,b1,b2,cond_false,Option.bind_some,Sum.elim_inl,rC,cond_true]
    rw [dcT ((min_iff _ _).2 a2),cond_true]
    by_cases a3:q.2.2.1 < (n:Int)∧q.2.2.2.1 < (n:Int)
    rotate_left
    · obtain ⟨b1,b2⟩:=bad (by unfold outB; omega)
      rw [dcF (fun hh=>a3 ((max_iff _ _ _).1 hh)),Bool.not_false,cond_true,b1,b2,cond_false,Option.bind_some,Sum.elim_inl,rC,cond_true]
    rw [dcT ((max_iff _ _ _).2 a3),Bool.not_true,cond_false]
    by_cases a4:0≤q.2.2.2.2.1∧q.2.2.2.2.1≤1000
    rotate_left
    · obtain ⟨b1,b2⟩:=bad (.inr (.inr (.inr a4)))
      rw [dcF a4,Bool.not_false,cond_true,b1,b2,cond_false,Option.bind_some,Sum.elim_inl,rC,cond_true]
    rw [dcT a4,Bool.not_true,cond_false]
    have hin:¬ outB n q.2.1 q.2.2.1 q.2.2.2.1 q.2.2.2.2.1:=by unfold outB; omega
    have hB:=table_Below_eq hf (n:=n) (J,M,b,t,()) (b:=q.2.2.2.1.toNat) (show q.2.2.1.toNat < ws.length by omega)
    rw [show ((q.2.2.1.toNat:Nat):Int)=q.2.2.1 by omega,show ((q.2.2.2.1.toNat:Nat):Int)=q.2.2.2.1 by omega] at hB
    rw [hB,Option.bind_some]
    unfold grants
    rw [askP_in hin]
    cases hb:below ws q.2.2.1.toNat q.2.2.2.1.toNat with
    | true=>simp only [Bool.not_true,Bool.and_false,cond_false,cond_true,if_true,Option.bind_some,Sum.elim_inl,rC1,Bool.true_and,Bool.and_true]
    | false =>
      have hu:=used_le h4 s.R (qKey q)
      have hfind:=mpT_find hap (qKey q)
      have hU:=h6 (qKey q)
      have hkey:((q.2.1,q.2.2.1,q.2.2.2.1,()):Pk)=qKey q:=rfl
      simp only [hkey,hfind,hU,Bool.not_false,Bool.and_true,cond_false,Bool.false_eq_true,if_false]
      cases hT:T.find? fun e=>decide (eKey e=qKey q) with
      | none=>simp only [Option.map_none,Option.isSome_none,Bool.not_false,cond_true,Option.bind_some,Sum.elim_inl,rC1,Bool.true_and,Bool.and_true,show decide ((5:Int)=0)=false from rfl,cond_false]
      | some e =>
        simp only [Option.map_some,Option.isSome_some,Bool.not_true,cond_false,Option.getD_some,wrap64 (show -9223372036854775808≤usedOf s.V s.R (qKey q)+q.2.2.2.2.1 by omega) (by omega)]
        by_cases hm:usedOf s.V s.R (qKey q)+q.2.2.2.2.1 > e.2.2.2.1
        · simp only [dcT hm,cond_true,if_pos hm,Option.bind_some,Sum.elim_inl,rC1,Bool.true_and,Bool.and_true,show decide ((13:Int)=0)=false from rfl,cond_false]
        · simp only [dcF hm,cond_false,if_neg hm,rV1,Bool.and_true,cond_true,Option.bind_some,Sum.elim_inl,rC1,Bool.and_true]
          rfl
  · rw [if_neg k1,beqF k1,cond_false,Option.bind_some,Sum.elim_inl,rC,cond_true]
end
theorem pcodes_eq (m:List Int) (hl:m.length≤3000000):ref_Codes (m,m,())=some (true,()):=by
  unfold ref_Codes
  rw [bneF rfl,cond_false]
  have h:=loopM_for (f:=ref_Codes_l1 (m,m,())) m.length (fun _=>none) (.inr (.inl ())) (fun i hi=>by
    unfold ref_Codes_l1
    simp only [dcT (show (i:Int) < (m.length:Int) by omega),cond_true,getI_nat,List.getElem?_eq_getElem hi,Option.bind_some,wrapS (show i < 9223372036854775807 by omega),bneF rfl,cond_false]) (by
    unfold ref_Codes_l1
    simp only [dcF (show ¬ (m.length:Int) < (m.length:Int) by omega),cond_false])
  rw [h]
  have hf:(List.range m.length).findSome? (fun _=>(none:Option ((Bool × Unit) ⊕ (Unit ⊕ Empty))))=none:=List.findSome?_eq_none_iff.2 fun _ _=>rfl
  rw [hf]; rfl
theorem psame (C:List Int) (V:List Pq) (f:Int × Int × Unit) (hl:V.length≤60):loopM (law_PolicyPlays_l1 (C,V,()) (C,V,f,())) ((0:Int),())=some (.inr (.inl ())):=by
  have h:=loopM_for (f:=law_PolicyPlays_l1 (C,V,()) (C,V,f,())) V.length (fun _=>none) (.inr (.inl ())) (fun i hi=>by
    unfold law_PolicyPlays_l1
    simp only [dcT (show (i:Int) < (V.length:Int) by omega),cond_true,getI_nat,List.getElem?_eq_getElem hi,Option.bind_some,wrapS (show i < 9223372036854775807 by omega),beq_self_eq_true,Bool.and_self,Bool.not_true,cond_false]) (by
    unfold law_PolicyPlays_l1
    simp only [dcF (show ¬ (V.length:Int) < (V.length:Int) by omega),cond_false])
  rw [h]
  have hf:(List.range V.length).findSome? (fun _=>(none:Option ((Bool × Unit) ⊕ (Unit ⊕ Empty))))=none:=List.findSome?_eq_none_iff.2 fun _ _=>rfl
  rw [hf]; rfl
theorem pl1 (o:Int × List Int × Unit) (T:List Pe) (S:List Pq) (r:((Int × List Int × Unit) × (List Int × List Int × Int × Int × Unit) × Unit) × Int × Unit):policy_Play_l1 (o,T,S,()) r=policy_Check_l1 (o,T,()) r:=rfl
theorem lp2:law_PolicyPlays_l2=law_PolicyPlays_l1:=rfl
theorem plays {N:Int} {ws:List Nat} (hf:Fit ws) (T:List Pe) (S:List Pq) :
    ((cvalP N ws T).1≠0→policy_Play ((N,cl ws,()),T,S,())=some ([],[],cvalP N ws T,())) ∧
    ((cvalP N ws T).1=0→(cvalP N ws T)=(0,0,())∧((S.length:Int) > 60→policy_Play ((N,cl ws,()),T,S,())=some ([],[],(1,0,()),())) ∧
      (¬ (S.length:Int) > 60→∃ s:Pst,s.C.length≤60∧s.V.length≤60∧policy_Play ((N,cl ws,()),T,S,())=some (s.C,s.V,(0,0,()),())∧ref_PolicyPlay ((N,cl ws,()),T,S,())=some (s.C,s.V,()))):=by
  unfold policy_Play
  rw [show (((N,cl ws,()),T,S,()):(Int × List Int × Unit) × List Pe × List Pq × Unit).1=(N,cl ws,()) from rfl,lattice_Of_eq hf]
  by_cases h:latc N ws=0
  rotate_left
  · have hc:cvalP N ws T=(latc N ws,0,()):=by unfold cvalP; rw [if_neg h]
    rw [hc,if_neg h,Option.bind_some]
    refine ⟨fun _=>?_,fun hh=>absurd hh h⟩
    simp only [bneT h,cond_true,beqF h,cond_false,Option.bind_some,Sum.elim_inl]
  obtain ⟨h1,h2,-⟩:=latc_zero h
  obtain ⟨-,h16,h3,-,-⟩:=ordc_zero h1
  obtain ⟨n,rfl⟩:=Int.eq_ofNat_of_zero_le (show 0≤N by omega)
  rw [if_pos h,Option.bind_some]
  simp only [bne_self_eq_false,cond_false]
  by_cases h4:(T.length:Int) > 16
  · have hc:cvalP n ws T=(1,0,()):=by unfold cvalP; rw [if_pos h,if_pos h4]
    rw [hc]
    refine ⟨fun _=>?_,fun hh=>by cases hh⟩
    simp only [dcT h4,cond_true,show ((1:Int) == 0)=false from rfl,show ((1:Int) != 0)=true from rfl,cond_false,Option.bind_some,Sum.elim_inl]
  have hl:=chk_loop hf (show ws.length=n by omega) (show T.length≤16 by omega) ((n:Int),cl ws,()) (latR (n:Int).toNat ws)
  rw [show (((n:Nat):Int).toNat)=n from rfl] at hl ⊢
  have hc:cvalP n ws T=((firstB n ws T).map fun p=>(p.1,(p.2:Int),())).getD (0,0,()):=by
    unfold cvalP; rw [if_pos h,if_neg h4]; rfl
  rw [hc]
  simp only [dcF h4,cond_false,pl1,hl,Option.bind_some]
  cases hfb:firstB n ws T with
  | some p =>
    have hp:=firstB_ne hfb
    refine ⟨fun _=>?_,fun hh=>absurd hh hp⟩
    simp only [Option.map_some,Option.getD_some,Sum.elim_inl,beqF hp,cond_false,bneT hp,cond_true]
  | none =>
    have hap:=apart_of hfb
    refine ⟨fun hh=>absurd rfl hh,fun _=>⟨rfl,fun h5=>?_,fun h5=>?_⟩⟩
    · simp only [Option.map_none,Option.getD_none,Sum.elim_inl,Sum.elim_inr,show ((0:Int) == 0)=true from rfl,cond_true,dcT h5,Option.bind_some,show ((1:Int) != 0)=true from rfl]
    · have hS:S.length≤60:=by omega
      have hw:ws.length=n:=by omega
      have hi:=fun i hi=>pinv (n:=n) (ws:=ws) (T:=T) (S:=S) i hi
      refine ⟨psts n ws T S S.length,by rw [(hi _ (Nat.le_refl _)).C]; exact hS,Nat.le_trans (hi _ (Nat.le_refl _)).V hS,?_,?_⟩
      · have hp:=loopM_sim (f:=policy_Play_l4 (((n:Int),cl ws,()),T,S,()) (((0:Int),(0:Int),()),mpT T,())) (s0:=(([]:List Int),(0:Int),([]:List (Pk × Int)),([]:List Pq),((n:Int),cl ws,(latR n ws).1,(latR n ws).2.1,(latR n ws).2.2.1,(latR n ws).2.2.2.1,(0:Int),()),())) S.length
          (fun i=>((psts n ws T S i).C,(i:Int),(psts n ws T S i).U,(psts n ws T S i).V,((n:Int),cl ws,(latR n ws).1,(latR n ws).2.1,(latR n ws).2.2.1,(latR n ws).2.2.2.1,(psts n ws T S i).R,()),()))
          (.inl ((psts n ws T S S.length).C,(psts n ws T S S.length).U,(psts n ws T S S.length).V,((n:Int),cl ws,(latR n ws).1,(latR n ws).2.1,(latR n ws).2.2.1,(latR n ws).2.2.2.1,(psts n ws T S S.length).R,()),()))
          (fun i hi'=>by
            rw [psts_succ hi']
            exact play_step hf hw (by omega) hap hS hi' (hi i (by omega)) _ _ _ _ _ _) (by
            unfold policy_Play_l4
            simp only [dcF (show ¬ (S.length:Int) < (S.length:Int) by omega),cond_false]) rfl
        simp only [Option.map_none,Option.getD_none,Sum.elim_inl,Sum.elim_inr,show ((0:Int) == 0)=true from rfl,cond_true,dcF h5,cond_false,Option.bind_some,show ((0:Int) != 0)=false from rfl]
        rw [hp]; rfl
      · have hr:=loopM_sim (f:=ref_PolicyPlay_l1 (((n:Int),cl ws,()),T,S,())) (s0:=(([]:List Int),([]:List Pq),(0:Int),(0:Int),())) S.length
          (fun i=>((psts n ws T S i).C,(psts n ws T S i).V,(psts n ws T S i).R,(i:Int),()))
          (.inl ((psts n ws T S S.length).C,(psts n ws T S S.length).V,()))
          (fun i hi'=>by
            rw [psts_succ hi']
            exact rplay_step hf hw (by omega) (by omega) hS hi' (hi i (by omega))) (by
            unfold ref_PolicyPlay_l1
            simp only [dcF (show ¬ (S.length:Int) < (S.length:Int) by omega),cond_false]) rfl
        unfold ref_PolicyPlay
        rw [hr]; rfl
theorem policyPlays {N:Int} {ws:List Nat} (hf:Fit ws) (T:List Pe) (S:List Pq):law_PolicyPlays ((N,cl ws,()),T,S,())=some (true,()):=by
  obtain ⟨p1,p2⟩:=plays (N:=N) hf T S
  unfold law_PolicyPlays
  simp only [policy_Check_eq hf,ref_PolicyCheck_eq hf,Option.bind_some,beq_self_eq_true,Bool.and_true,Bool.not_true,cond_false]
  by_cases h:(cvalP N ws T).1=0
  rotate_left
  · simp only [p1 h,Option.bind_some,beqF h,cond_false,Sum.elim_inl,bneT h,cond_true,beq_self_eq_true,Bool.and_true]
    rfl
  obtain ⟨hc,q1,q2⟩:=p2 h
  rw [hc]
  by_cases h5:(S.length:Int) > 60
  · simp only [q1 h5,Option.bind_some,dcT h5,cond_true,Sum.elim_inl,show ((0:Int) == 0)=true from rfl,show ((1:Int) != 0)=true from rfl,show ((1:Int) == 1)=true from rfl,Bool.and_true]
    rfl
  · obtain ⟨s,s1,s2,s3,s4⟩:=q2 h5
    have hcd:=pcodes_eq s.C (by omega)
    simp only [s3,s4,Option.bind_some,dcF h5,cond_false,cond_true,Sum.elim_inl,show ((0:Int) == 0)=true from rfl,show ((0:Int) != 0)=false from rfl,Bool.and_true,Bool.not_true,hcd,bneF rfl,lp2,psame s.C s.V _ s2,Sum.elim_inr]
theorem policyPlays_law (x:ADen sp5.args) (h:WfA sp5.args x):law_PolicyPlays x=some (true,()):=by
  obtain ⟨⟨N,l,⟨⟩⟩,T,S,⟨⟩⟩:=x
  obtain ⟨ws,rfl,hf⟩:=words_of h.1.2.1
  exact policyPlays hf T S
end Go.Proofs.Tryd
