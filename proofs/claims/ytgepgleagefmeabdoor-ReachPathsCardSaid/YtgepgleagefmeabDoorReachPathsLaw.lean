/- The plain law of ReachPaths. -/
import Derived.Test.YtgepgleagefmeabDoorE3Funs
import Derived.Test.YtgepgleagefmeabDoorAbsSums
import Derived.Test.YtgepgleagefmeabDoorE3LemmasReachPaths4
namespace Go.Proofs.Tryd
open Go Go.Abs

section
variable {N:List Node} {E:List Edge}
theorem ReachPaths_ok:law_ReachPaths ((N,E,()),())=some (true,()):=by
  unfold law_ReachPaths
  by_cases h0:(gval N E).1=0
  · obtain ⟨P,hb,hP,hQ,h1,h2⟩:=reach_both h0
    obtain ⟨e0,hn,hE,hN,hok,-⟩:=gval_zero h0
    have g:=gr_of hn hN hok
    have key:loopM (law_ReachPaths_l1 (sq N.length P,((0:Int),(0:Int),()),()) (sq N.length P,())) ((0:Int),())=some (if (List.range (N.length*N.length)).any (fun _=>false)=true then .inl (false,()) else .inr (.inl ())):=by
      refine loopM_any0 (N.length*N.length) () _ _ _ (fun i hi=>?_) ?_
      · have hsq:=sq_le (n:=N.length) (by omega)
        have hx:=idx_of hi
        have hg:(sq N.length P)[i]? = some (P (i / N.length) (i % N.length)):=by
          have:=sq_get P hx.1 hx.2.1
          rwa [hx.2.2] at this
        have hbb:=hb (i / N.length) (i % N.length)
        have hl:=anti_len (hP.an _ _) hbb
        unfold law_ReachPaths_l1
        simp only [sq_length,dcT (show (i:Int) < ((N.length*N.length:Nat):Int) by omega),cond_true,getI_nat,hg,Option.bind_some,inB_T hi,Int.toNat_natCast,sums_same (a:=P (i / N.length) (i % N.length)) (b:=P (i / N.length) (i % N.length)) (by omega) (fun s hs=>by have:=ok_push (hbb s hs).ok; omega),wrapS (show i < 9223372036854775807 by omega)]
        simp
      · unfold law_ReachPaths_l1
        simp only [sq_length,dcF (show ¬ ((N.length*N.length:Nat):Int) < ((N.length*N.length:Nat):Int) by omega),cond_false]
    have hany:(List.range (N.length*N.length)).any (fun _=>false)=false:=by rw [List.any_eq_false]; intro i _; simp
    rw [hany] at key
    simp only [h1,ref_GraphCheck_eq,e0,Option.bind_some,bneF (show (0:Int)=0 from rfl),cond_false,h2,beqT (show (0:Int)=0 from rfl),Bool.and_true,Bool.not_true,key,Bool.false_eq_true,if_false,Sum.elim_inr,Sum.elim_inl]
    rw [bneF rfl]
    rfl
  · simp only [reach_Paths_bad h0,ref_GraphCheck_eq,Option.bind_some,bneT h0,cond_true,beqT (rfl:(gval N E).1=(gval N E).1),beqT (rfl:(gval N E).2.1=(gval N E).2.1),Bool.and_true,List.length_nil]
    rfl
end
theorem reachPaths_law (x:ADen sp3.args) (_h:WfA sp3.args x):law_ReachPaths x=some (true,()):=by
  obtain ⟨⟨N,E,⟨⟩⟩,⟨⟩⟩:=x
  exact ReachPaths_ok
end Go.Proofs.Tryd
