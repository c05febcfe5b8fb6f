/- The plain law of ReachCoulds. -/
import Derived.Test.YtgepgleagefmeabDoorE4Funs
import Derived.Test.YtgepgleagefmeabDoorAbsSums
import Derived.Test.YtgepgleagefmeabDoorE4LemmasReachCoulds4
namespace Go.Proofs.Tryd
open Go Go.Abs

section
variable {N:List Node} {E:List Edge}
theorem could_check (a b:Int) (t tt:List Int):loopM (reach_Could_l5 ((N,E,()),(a,t,()),(b,tt,()),())) ((0:Int),())=some (if stampC N a t≠0 then .inl (false,stampC N a t,()) else if stampC N b tt≠0 then .inl (false,stampC N b tt,()) else .inr (.inl ())):=by
  have s0:reach_Could_l5 ((N,E,()),(a,t,()),(b,tt,()),()) ((0:Int),())=some (if stampC N a t=0 then .inl ((1:Int),()) else .inr (.inl (false,stampC N a t,()))):=by
    unfold reach_Could_l5
    have g:getI [(a,t,()),(b,tt,())] (0:Int)=some (a,t,()):=rfl
    have d:decide ((0:Int) < 2)=true:=rfl
    have w:IntKind.i64.wrap ((0:Int)+1)=1:=by decide
    simp only [d,cond_true,g,Option.bind_some,reach_Check_eq,cond_bne,w]
    split <;> rfl
  have s1:reach_Could_l5 ((N,E,()),(a,t,()),(b,tt,()),()) ((1:Int),())=some (if stampC N b tt=0 then .inl ((2:Int),()) else .inr (.inl (false,stampC N b tt,()))):=by
    unfold reach_Could_l5
    have g:getI [(a,t,()),(b,tt,())] (1:Int)=some (b,tt,()):=rfl
    have d:decide ((1:Int) < 2)=true:=rfl
    have w:IntKind.i64.wrap ((1:Int)+1)=2:=by decide
    simp only [d,cond_true,g,Option.bind_some,reach_Check_eq,cond_bne,w]
    split <;> rfl
  have s2:reach_Could_l5 ((N,E,()),(a,t,()),(b,tt,()),()) ((2:Int),())=some (.inr (.inr (.inl ()))):=by
    unfold reach_Could_l5
    have d:decide ((2:Int) < 2)=false:=rfl
    simp only [d,cond_false]
  by_cases h1:stampC N a t=0
  · rw [if_pos h1] at s0
    rw [loopM_inl s0,if_neg (by rw [h1]; simp)]
    by_cases h2:stampC N b tt=0
    · rw [if_pos h2] at s1
      rw [loopM_inl s1,loopM_inr s2,if_neg (by rw [h2]; simp)]
    · rw [if_neg h2] at s1
      rw [loopM_inr s1,if_pos h2]
  · rw [if_neg h1] at s0
    rw [loopM_inr s0,if_pos h1]
theorem ReachCoulds_ok (a b:Int) (t tt:List Int):law_ReachCoulds ((N,E,()),(a,t,()),(b,tt,()),())=some (true,()):=by
  by_cases h0:(gval N E).1=0
  · obtain ⟨P,hb,hP,hQ,h2,J,hi,hrun⟩:=search_both h0
    obtain ⟨e0,hn,hE,hN,hok,-⟩:=gval_zero h0
    have g:=gr_of hn hN hok
    have hsq:=sq_le (n:=N.length) (by omega)
    have hi':loopM (reach_Could_l2 ((N,E,()),(a,t,()),(b,tt,()),())) (([]:List JbI),(0:Int),())=some (.inl (J,())):=hi
    have hrun':loopM (reach_Could_l4 ((N,E,()),(a,t,()),(b,tt,()),())) (J,List.replicate (N.length*N.length) ([]:List Sm),())=some (.inl (sq N.length P,())):=hrun
    have hpre:reach_Could ((N,E,()),(a,t,()),(b,tt,()),())=if stampC N a t≠0 then some (false,stampC N a t,()) else if stampC N b tt≠0 then some (false,stampC N b tt,()) else (cond (inB (IntKind.i64.wrap ((IntKind.i64.wrap (a*(N.length:Int)))+b)) (N.length*N.length)) (((sq N.length P)[(IntKind.i64.wrap ((IntKind.i64.wrap (a*(N.length:Int)))+b)).toNat]?).bind fun v28=>((loopM (reach_Could_l6 ((N,E,()),(a,t,()),(b,tt,()),()) v28) ((0:Int),(false,()),())).bind (Sum.elim (fun z33=>(some (z33.1.1,(0:Int),()))) (Sum.elim (fun z34=>(some (false,(0:Int),()))) Empty.elim)))) none):=by
      unfold reach_Could
      simp only [graph_Check_eq,e0,Option.bind_some,bneF (show (0:Int)=0 from rfl),cond_false,sq_wrap (n:=N.length) (by omega),dcT (show (0:Int)≤((N.length*N.length:Nat):Int) by omega),dcT (show ((N.length*N.length:Nat):Int)≤((N.length*N.length:Nat):Int) by omega),Int.toNat_natCast,room_ok (show N.length*N.length≤140737488355328 by omega) (show N.length*N.length*24≤140737488355328 by omega),dcT (show ((N.length*N.length:Nat):Int)≤9223372036854775807 by omega),Bool.and_self,cond_true,hi',Sum.elim_inl,hrun',could_check,sq_length]
      by_cases q1:stampC N a t=0
      · by_cases q2:stampC N b tt=0
        · simp [q1,q2]
        · simp [q1,q2]
      · simp [q1]
    unfold law_ReachCoulds
    simp only [hpre,ref_GraphCheck_eq,e0,ref_StampCheck_eq,cond_beq]
    by_cases q1:stampC N a t=0
    · by_cases q2:stampC N b tt=0
      · obtain ⟨u,rfl,hu,hcu,hlu⟩:=stampC_zero hN q1
        obtain ⟨v,rfl,hv,hcv,hlv⟩:=stampC_zero hN q2
        obtain ⟨c2,c1⟩:=ref_could_eq g hP hb hu hv hcu hlu hcv hlv
        have c1':loopM (reach_Could_l6 ((N,E,()),((u:Int),t,()),((v:Int),tt,()),()) (P u v)) ((0:Int),(false,()),())=_:=c1
        simp only [q1,q2,ne_eq,not_true_eq_false,if_false,if_true,idx_wrap hu hv (show N.length≤16 by omega),idx_inB hu hv,cond_true,Int.toNat_natCast,sq_get P hu hv,Option.bind_some,Sum.elim_inl,c1',c2,h2,bneF (show (0:Int)=0 from rfl),cond_false]
        cases (P u v).any fun s=>canB s t tt <;> rfl
      · simp [q1,q2,bneT q2]
    · simp [q1,bneT q1]
  · have hc:reach_Could ((N,E,()),(a,t,()),(b,tt,()),())=some (false,(gval N E).1,()):=by
      unfold reach_Could
      simp only [graph_Check_eq,Option.bind_some,bneT h0,cond_true]
    unfold law_ReachCoulds
    simp only [hc,ref_GraphCheck_eq,Option.bind_some,cond_beq,if_neg h0,Sum.elim_inl,bneT h0,cond_true]
    simp
end
theorem reachCoulds_law (x:ADen sp4.args) (_h:WfA sp4.args x):law_ReachCoulds x=some (true,()):=by
  obtain ⟨⟨N,E,⟨⟩⟩,⟨a,t,⟨⟩⟩,⟨b,tt,⟨⟩⟩,⟨⟩⟩:=x
  exact ReachCoulds_ok a b t tt
end Go.Proofs.Tryd
