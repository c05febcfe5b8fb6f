/- The plain law of IncrMakes. -/
import Derived.Test.YtgepgleagefmeabGreatZOFuns
import Derived.Test.YtgepgleagefmeabGreatAbsSums
import Derived.Test.YtgepgleagefmeabGreatZOLemmasIncrMakes3
namespace Go.Proofs.Tryz
open Go Go.Abs

def oneR (op:Op3) (D:List Df) (t:List Int):List Rw:=(bagOf (opL op ((standB D t).map toR)) []).map toR
theorem oneR_len (op:Op3) {D:List Df} (g:Good D) (t:List Int):(oneR op D t).length≤128:=by
  have h1:=standB_le g t
  have h2:=opL_length op ((standB D t).map toR)
  have h3:=bag_length (opL op ((standB D t).map toR)) []
  rw [List.length_map] at h2
  rw [List.length_nil] at h3
  unfold oneR
  rw [List.length_map]; omega
theorem tidy_good {D:List Df} (g:Good D):Good (tidyL D) where
  len:=Nat.le_trans (tidy_len D) g.len
  num:=Nat.le_trans (tidy_num D) g.num
  chk d hd:=by
    obtain ⟨t,ht,-,rfl⟩:=tidyL_mem.1 hd
    obtain ⟨e,he,rfl⟩:=List.mem_map.1 ht
    exact g.chk e he
  same:=by
    obtain ⟨n,hn⟩:=g.same
    refine ⟨n,fun d hd=>?_⟩
    obtain ⟨t,ht,-,rfl⟩:=tidyL_mem.1 hd
    obtain ⟨e,he,rfl⟩:=List.mem_map.1 ht
    exact hn e he
theorem one_l1 {op:Op3} (h1:1≤op.1) (h8:op.1≤8) {D:List Df} (g:Good D) (x:Op3 × List Df × Unit) (hx:x.1=op) (e:Int) {l:List (List Int)} (hl:l.length≤64) {n:Nat} (hc:∀ t∈l,chk t=0∧t.length=n) (hn:∀ d∈tidyL D,d.1.length=n) (b:Bool) :
    loopM (incr_One_l1 x (l,b,()) (tidyL D,e,())) (([]:List Df),(0:Int),())=some (.inl (standL l (oneR op D),())):=by
  subst hx
  have gt:=tidy_good g
  refine loopM_sim l.length (fun i=>(standL (l.take i) (oneR x.1 D),(i:Int),())) _ (fun i hi=>?_) ?_ rfl
  · obtain ⟨c1,c2⟩:=hc _ (List.getElem_mem hi)
    have hlen:(standL (l.take i) (oneR x.1 D)).length=i:=by unfold standL; rw [List.length_map,List.length_take]; omega
    have hb:=standB_le gt l[i]
    have hol:=oneR_len x.1 g l[i]
    unfold incr_One_l1
    simp only [dcT (show (i:Int) < (l.length:Int) by omega),cond_true,getI_nat,List.getElem?_eq_getElem hi,Option.bind_some,wrapS (show i < 9223372036854775807 by omega)]
    rw [stands_eq gt c1 (fun d hd=>by rw [hn d hd,c2])]
    simp only [Option.bind_some]
    rw [make_eq (show Rise KT (standB (tidyL D) l[i]) from bag_rise _) (show (standB (tidyL D) l[i]).length≤3000000000000 by omega) h1 h8]
    simp only [Option.bind_some]
    have hrow:bags_Bag_Rows (bagOf (opL x.1 ((standB D l[i]).map toR)) [],())=some (oneR x.1 D l[i],()):=rows_eq (bag_rise _) (by unfold oneR at hol; rw [List.length_map] at hol; omega)
    rw [standB_tidy,hrow]
    simp only [Option.bind_some,hlen]
    rw [show ∀ y:Df,([y]:List Df).length=1 from fun _=>rfl,room_ok (show i+1≤140737488355328 by omega) (show (i+1)*48≤140737488355328 by omega),List.take_succ_eq_append_getElem hi]
    unfold standL
    rw [List.map_append]; rfl
  · unfold incr_One_l1
    simp only [dcF (show ¬ (l.length:Int) < (l.length:Int) by omega),cond_false,List.take_length]
theorem ref_one_l1 {op:Op3} (h1:1≤op.1) (h8:op.1≤8) {D:List Df} (g:Good D) {l:List (List Int)} (hl:l.length≤64) (b:Bool) :
    loopM (ref_IncrOne_l1 (op,D,()) (l,b,())) (([]:List Df),(0:Int),())=some (.inl (standL l (oneR op D),())):=by
  refine loopM_sim l.length (fun i=>(standL (l.take i) (oneR op D),(i:Int),())) _ (fun i hi=>?_) ?_ rfl
  · have hlen:(standL (l.take i) (oneR op D)).length=i:=by unfold standL; rw [List.length_map,List.length_take]; omega
    have hb:=standB_le g l[i]
    unfold ref_IncrOne_l1
    simp only [dcT (show (i:Int) < (l.length:Int) by omega),cond_true,getI_nat,List.getElem?_eq_getElem hi,Option.bind_some,wrapS (show i < 9223372036854775807 by omega)]
    rw [ref_stands_eq g.fine]
    simp only [Option.bind_some]
    rw [ref_OpOne_eq h1 h8 (by rw [List.length_map]; omega),rows_bag (opL_in (by unfold standB; exact rows_in _))]
    simp only [Option.bind_some,hlen]
    rw [show ∀ y:Df,([y]:List Df).length=1 from fun _=>rfl,room_ok (show i+1≤140737488355328 by omega) (show (i+1)*48≤140737488355328 by omega),List.take_succ_eq_append_getElem hi]
    unfold standL
    rw [List.map_append]; rfl
  · unfold ref_IncrOne_l1
    simp only [dcF (show ¬ (l.length:Int) < (l.length:Int) by omega),cond_false,List.take_length]
theorem one10 (S:List Df):incr_One_l10 S=mv10 S:=rfl
theorem incrMakes {D:List Df} (h:D.length*48≤140737488355328) (op:Op3):law_IncrMakes (op,D,())=some (true,()):=by
  unfold law_IncrMakes incr_One
  rw [ref_check_eq D,ports_ref]
  by_cases ho:1≤op.1∧op.1≤8
  · simp only [ports_one ho.1 ho.2,Option.bind_some,bneF rfl,cond_false]
    rw [tidy_eq h]
    by_cases h0:dchk D=0
    · have g:=dchk_zero h0
      have g1:=g.len
      have t1:=tidy_len D
      rw [if_pos h0]
      simp only [Option.bind_some,Sum.elim_inl,bneF h0,bneF rfl,cond_false]
      unfold ref_IncrOne
      rw [times_map (by omega),ref_tidy_eq g.fine]
      simp only [Option.bind_some]
      rw [ref_times_map (by omega)]
      simp only [Option.bind_some]
      have gt:=tidy_good g
      obtain ⟨n,hn⟩:=gt.same
      have hall:∀ t∈(tidyL D).map (·.1),chk t=0∧t.length=n:=fun t ht=>by
        obtain ⟨d,hd,rfl⟩:=List.mem_map.1 ht
        exact ⟨gt.chk d hd,hn d hd⟩
      have hs:=(sort_facts ((tidyL D).map (·.1))).1
      have hml:((tidyL D).map (·.1)).length≤64:=by rw [List.length_map]; omega
      rcases Nat.lt_or_ge 4 n with h4 | h4
      ·
        have hnil:tidyL D=[]:=by
          cases hq:tidyL D with
          | nil=>rfl
          | cons d r =>
            have hd:d∈tidyL D:=by rw [hq]; exact List.mem_cons_self
            have a1:=hn d hd
            have a2:=(chk_zero (gt.chk d hd)).2.1
            omega
        have hall0:∀ t∈(tidyL D).map (·.1),chk t=0∧t.length=0:=fun t ht=>by rw [hnil] at ht; cases ht
        rcases clos_both (n:=0) (by omega) hall0 (by omega) with ⟨p,q⟩ | ⟨l,p,q,hl,hu,hc⟩
        · rw [p,q]
          simp only [Option.bind_some,Bool.not_false,cond_true,Sum.elim_inl,beqT rfl]
          rw [ref_same (by simp) (fun d hd=>by cases hd)]; rfl
        · have s:=standL_ok (R:=oneR op D) (by omega) hu hc (b:=128) (fun t _=>oneR_len op g t) (by omega)
          have hsl:(standL l (oneR op D)).length=l.length:=by unfold standL; rw [List.length_map]
          obtain ⟨M,m1,m2⟩:=undo_tell s
          rw [p,q]
          simp only [Option.bind_some,Bool.not_true,cond_false]
          rw [one_l1 ho.1 ho.2 g (op,D,()) rfl 0 hl hc (fun d hd=>by rw [hnil] at hd; cases hd) true,ref_one_l1 ho.1 ho.2 g hl true]
          simp only [Option.bind_some,Sum.elim_inl]
          rw [cloneD _ (by omega),ref_undo_self s]
          simp only [Option.bind_some]
          rw [room_ok (show (standL l (oneR op D)).length≤140737488355328 by omega) (show (standL l (oneR op D)).length*1≤140737488355328 by omega),cond_true,sort_times (fun a b ha=>moves_c1 a b ha) s (List.Perm.refl _)]
          simp only [Option.bind_some,one10]
          rw [mv10_eq s]
          simp only [Option.bind_some,Sum.elim_inl]
          rw [m1,ref_told_eq (undoI_fine s (Nat.le_refl _))]
          simp only [Option.bind_some,m2,Sum.elim_inl,beqT rfl,cond_true,undo_same s]
      · rcases clos_both (n:=n) (by omega) hall (by omega) with ⟨p,q⟩ | ⟨l,p,q,hl,hu,hc⟩
        · rw [p,q]
          simp only [Option.bind_some,Bool.not_false,cond_true,Sum.elim_inl,beqT rfl]
          rw [ref_same (by simp) (fun d hd=>by cases hd)]; rfl
        · have s:=standL_ok (R:=oneR op D) (by omega) hu hc (b:=128) (fun t _=>oneR_len op g t) (by omega)
          have hsl:(standL l (oneR op D)).length=l.length:=by unfold standL; rw [List.length_map]
          obtain ⟨M,m1,m2⟩:=undo_tell s
          rw [p,q]
          simp only [Option.bind_some,Bool.not_true,cond_false]
          rw [one_l1 ho.1 ho.2 g (op,D,()) rfl 0 hl hc hn true,ref_one_l1 ho.1 ho.2 g hl true]
          simp only [Option.bind_some,Sum.elim_inl]
          rw [cloneD _ (by omega),ref_undo_self s]
          simp only [Option.bind_some]
          rw [room_ok (show (standL l (oneR op D)).length≤140737488355328 by omega) (show (standL l (oneR op D)).length*1≤140737488355328 by omega),cond_true,sort_times (fun a b ha=>moves_c1 a b ha) s (List.Perm.refl _)]
          simp only [Option.bind_some,one10]
          rw [mv10_eq s]
          simp only [Option.bind_some,Sum.elim_inl]
          rw [m1,ref_told_eq (undoI_fine s (Nat.le_refl _))]
          simp only [Option.bind_some,m2,Sum.elim_inl,beqT rfl,cond_true,undo_same s]
    · rw [if_neg h0]
      simp only [Option.bind_some,Sum.elim_inl,bneT h0,cond_true,beqT rfl]
      rfl
  · obtain ⟨p,hp,hn⟩:=ports_not ho
    simp only [hp,Option.bind_some,bneT hn,cond_true,Sum.elim_inl]
    rfl
theorem incrMakes_law (x:ADen sp5.args) (h0:List.length x.2.1*48≤140737488351232):law_IncrMakes x=some (true,()):=by
  obtain ⟨op,D,⟨⟩⟩:=x
  exact incrMakes (show D.length*48≤140737488355328 from Nat.le_trans h0 (by decide)) op
end Go.Proofs.Tryz
