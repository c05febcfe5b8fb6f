/- Lemmas on functions of the program, by name. -/
import Derived.Test.YtgepgleagefmeabGreatZPFuns
import Derived.Test.YtgepgleagefmeabGreatAbsSums
import Derived.Test.YtgepgleagefmeabGreatZPLemmasIncrPairs1
namespace Go.Proofs.Tryz
section
open Go Go.Abs

def insT (t:List Int):List (List Int)→List (List Int)
  | []=>[t]
  | u :: l=>if cmpL u t < 0 then u :: insT t l else if u=t then u :: l else t :: u :: l
def ltP (t:List Int) (u:List Int):Bool:=decide (cmpL u t < 0)
theorem ins_split (t:List Int):∀ out:List (List Int),insT t out=match out.dropWhile (ltP t) with
    | []=>out.takeWhile (ltP t)++[t]
    | u :: l=>if u=t then out else out.takeWhile (ltP t)++t :: u :: l
  | []=>rfl
  | u :: l=>by
    have ih:=ins_split t l
    rw [insT,List.dropWhile_cons,List.takeWhile_cons]
    by_cases h:cmpL u t < 0
    · have hp:ltP t u=true:=decide_eq_true h
      rw [if_pos h,if_pos hp,if_pos hp,ih]
      cases List.dropWhile (ltP t) l with
      | nil=>rfl
      | cons v m =>
        simp only
        split
        · rfl
        · rfl
    · have hp:¬ ltP t u=true:=fun e=>h (of_decide_eq_true e)
      rw [if_neg h,if_neg hp,if_neg hp]
      rfl
theorem take_while {p:List Int→Bool}:∀ l:List (List Int),l.take (l.takeWhile p).length=l.takeWhile p
  | []=>rfl
  | u :: l=>by
    rw [List.takeWhile_cons]
    split
    · rw [List.length_cons,List.take_succ_cons,take_while l]
    · rfl
theorem drop_while {p:List Int→Bool}:∀ l:List (List Int),l.drop (l.takeWhile p).length=l.dropWhile p
  | []=>rfl
  | u :: l=>by
    rw [List.takeWhile_cons,List.dropWhile_cons]
    split
    · rw [List.length_cons,List.drop_succ_cons,drop_while l]
    · rfl
theorem while_le {p:List Int→Bool} (l:List (List Int)):(l.takeWhile p).length≤l.length:=(List.takeWhile_prefix p).length_le
theorem sorted_l1 {out:List (List Int)} {t:List Int} (z:Int × Unit) (hl:out.length≤1000000) (hp:∀ u∈out,lessB u t=ltP t u) :
    loopM (ref_TimesSorted_l1 (out,z) t) ((0:Int),())=some (.inl ((((out.takeWhile (ltP t)).length:Nat):Int),())):=by
  have key:∀ k i,i+k=out.length→loopM (ref_TimesSorted_l1 (out,z) t) ((i:Int),())=some (.inl (((i+((out.drop i).takeWhile (ltP t)).length:Nat):Int),())):=by
    intro k
    induction k with
    | zero =>
      intro i hi
      rw [loopM_inr (b:=.inl ((i:Int),())) (by
        unfold ref_TimesSorted_l1
        simp only [dcF (show ¬ (i:Int) < (out.length:Int) by omega),cond_false])]
      rw [List.drop_of_length_le (by omega)]; rfl
    | succ k ih =>
      intro i hi
      have hlt:i < out.length:=by omega
      have hst:ref_TimesSorted_l1 (out,z) t ((i:Int),())=cond (ltP t out[i]) (some (.inl (((i+1:Nat):Int),()))) (some (.inr (.inl ((i:Int),())))):=by
        unfold ref_TimesSorted_l1
        simp only [dcT (show (i:Int) < (out.length:Int) by omega),cond_true,inB_T hlt,Int.toNat_natCast,List.getElem?_eq_getElem hlt,Option.bind_some,ref_TimesLess_eq,hp _ (List.getElem_mem hlt),wrapS (show i < 9223372036854775807 by omega)]
      rw [List.drop_eq_getElem_cons hlt,List.takeWhile_cons]
      cases hb:ltP t out[i] with
      | true =>
        rw [hb,cond_true] at hst
        rw [loopM_inl hst,ih (i+1) (by omega)]
        simp only [if_true,List.length_cons]
        rw [show i+1+((out.drop (i+1)).takeWhile (ltP t)).length=i+(((out.drop (i+1)).takeWhile (ltP t)).length+1) by omega]
      | false =>
        rw [hb,cond_false] at hst
        rw [loopM_inr hst]; rfl
  have:=key out.length 0 (by omega)
  rw [List.drop_zero,Nat.zero_add] at this
  exact this
theorem sorted_l2 {out:List (List Int)} (z:Int × Unit) {m:Nat} (hm:m≤out.length) (hl:out.length≤1000000) :
    loopM (ref_TimesSorted_l2 ((m:Int),()) (out,z)) (([]:List (List Int)),(0:Int),())=some (.inl (out.take m,())):=by
  refine loopM_sim m (fun i=>(out.take i,(i:Int),())) _ (fun i hi=>?_) ?_ rfl
  · unfold ref_TimesSorted_l2
    have hlt:i < out.length:=by omega
    have hlen:(out.take i).length+(0+1)=i+1:=by rw [List.length_take]; omega
    simp only [dcT (show (i:Int) < (m:Int) by omega),cond_true,inB_T hlt,Int.toNat_natCast,List.getElem?_eq_getElem hlt,Option.bind_some,List.length_cons,List.length_nil,hlen,room_ok (show i+1≤140737488355328 by omega) (show (i+1)*24≤140737488355328 by omega),wrapS (show i < 9223372036854775807 by omega),Bool.and_true]
    rw [List.take_succ_eq_append_getElem hlt]
  · unfold ref_TimesSorted_l2
    simp only [dcF (show ¬ (m:Int) < (m:Int) by omega),cond_false]
theorem sorted_l3 {out pre:List (List Int)} (z:Int × Unit) {m:Nat} (hm:m≤out.length) (hl:out.length≤1000000) (hp:pre.length≤1000000) :
    loopM (ref_TimesSorted_l3 (out,z)) (pre,(m:Int),())=some (.inl (pre++out.drop m,())):=by
  have e:pre++out.drop m=pre++(out.drop m).take (out.length - m):=by rw [List.take_of_length_le (by rw [List.length_drop]; omega)]
  rw [e]
  refine loopM_sim (out.length - m) (fun i=>(pre++(out.drop m).take i,((m+i:Nat):Int),())) _ (fun i hi=>?_) ?_ (by simp)
  · unfold ref_TimesSorted_l3
    have hlt:m+i < out.length:=by omega
    have hlt2:i < (out.drop m).length:=by rw [List.length_drop]; omega
    have hlen:(pre++(out.drop m).take i).length+(0+1)=pre.length+i+1:=by rw [List.length_append,List.length_take,List.length_drop]; omega
    simp only [dcT (show ((m+i:Nat):Int) < (out.length:Int) by omega),cond_true,inB_T hlt,Int.toNat_natCast,List.getElem?_eq_getElem hlt,Option.bind_some,List.length_cons,List.length_nil,hlen,room_ok (show pre.length+i+1≤140737488355328 by omega) (show (pre.length+i+1)*24≤140737488355328 by omega),wrapS (show m+i < 9223372036854775807 by omega),Bool.and_true]
    rw [List.take_succ_eq_append_getElem hlt2,List.getElem_drop,List.append_assoc]
    rfl
  · unfold ref_TimesSorted_l3
    simp only [dcF (show ¬ ((m+(out.length - m):Nat):Int) < (out.length:Int) by omega),cond_false]
theorem l4_l2:ref_TimesSorted_l4=ref_TimesSorted_l2:=rfl
theorem l5_l3:ref_TimesSorted_l5=ref_TimesSorted_l3:=rfl
theorem ins_len (t:List Int):∀ out:List (List Int),(insT t out).length≤out.length+1
  | []=>Nat.le_refl _
  | u :: l=>by
    have:=ins_len t l
    simp only [insT]
    split
    · simp only [List.length_cons]; omega
    · split <;> simp only [List.length_cons] <;> omega
theorem ins_mem {t v:List Int}:∀ {out:List (List Int)},v∈insT t out↔v=t∨v∈out
  | []=>by simp [insT]
  | u :: l=>by
    have ih:=ins_mem (t:=t) (v:=v) (out:=l)
    simp only [insT]
    split
    · rw [List.mem_cons,ih,List.mem_cons]
      constructor
      · rintro (h | h | h)
        · exact .inr (.inl h)
        · exact .inl h
        · exact .inr (.inr h)
      · rintro (h | h | h)
        · exact .inr (.inl h)
        · exact .inl h
        · exact .inr (.inr h)
    · split
      · rename_i h
        rw [List.mem_cons,←h]
        constructor
        · exact fun h=>.inr h
        · rintro (h | h)
          · exact .inl h
          · exact h
      · rw [List.mem_cons]
theorem ins_up {t:List Int}:∀ {out:List (List Int)},out.Pairwise (fun a b=>cmpL a b < 0)→(insT t out).Pairwise fun a b=>cmpL a b < 0
  | [],_=>by simp [insT]
  | u :: l,h=>by
    have h1:=List.pairwise_cons.1 h
    simp only [insT]
    split
    · rename_i hu
      rw [List.pairwise_cons]
      refine ⟨fun v hv=>?_,ins_up h1.2⟩
      rcases ins_mem.1 hv with rfl | hv
      · exact hu
      · exact h1.1 v hv
    · rename_i hu
      split
      · exact h
      · rename_i hne
        have htu:cmpL t u < 0:=by
          have h2:=cmpL_neg u t
          have h3:cmpL u t≠0:=fun e=>hne (cmpL_eq.1 e)
          omega
        rw [List.pairwise_cons]
        refine ⟨fun v hv=>?_,h⟩
        rcases List.mem_cons.1 hv with rfl | hv
        · exact htu
        · exact cmpL_trans htu (h1.1 v hv)
def sortT (l:List (List Int)):List (List Int):=l.foldl (fun out t=>insT t out) []
theorem foldl_snoc (l:List (List Int)) (t:List Int):sortT (l++[t])=insT t (sortT l):=by
  unfold sortT; rw [List.foldl_append]; rfl
theorem sort_facts (l:List (List Int)):(sortT l).length≤l.length∧(∀ v,v∈sortT l↔v∈l)∧(sortT l).Pairwise fun a b=>cmpL a b < 0:=by
  have key:∀ k,k≤l.length→(sortT (l.take k)).length≤k∧(∀ v,v∈sortT (l.take k)↔v∈l.take k)∧(sortT (l.take k)).Pairwise fun a b=>cmpL a b < 0:=by
    intro k
    induction k with
    | zero=>intro _; rw [List.take_zero]; exact ⟨Nat.le_refl _,fun v=>Iff.rfl,List.Pairwise.nil⟩
    | succ k ih =>
      intro hk
      obtain ⟨h1,h2,h3⟩:=ih (by omega)
      rw [List.take_succ_eq_append_getElem (by omega),foldl_snoc]
      refine ⟨Nat.le_trans (ins_len _ _) (by omega),fun v=>?_,ins_up h3⟩
      rw [ins_mem,h2,List.mem_append,List.mem_singleton]
      exact Or.comm
  have:=key l.length (Nat.le_refl _)
  rwa [List.take_length] at this
theorem ref_TimesSorted_eq {l:List (List Int)} (hl:l.length≤100000) (d:Nat) (hf:∀ t∈l,chk t=0∧t.length=d):ref_TimesSorted (l,())=some (sortT l,()):=by
  have key:loopM (ref_TimesSorted_l6 (l,())) (([]:List (List Int)),(0:Int),())=some (.inl (sortT l,())):=by
    refine loopM_sim l.length (fun i=>(sortT (l.take i),(i:Int),())) _ (fun i hi=>?_) ?_ rfl
    · have hfi:=hf l[i] (List.getElem_mem hi)
      obtain ⟨s1,s2,s3⟩:=sort_facts (l.take i)
      have hso:(sortT (l.take i)).length≤100000:=by rw [List.length_take] at s1; omega
      have hok:∀ u∈sortT (l.take i),chk u=0∧u.length=d:=fun u hu=>hf u (List.mem_of_mem_take ((s2 u).1 hu))
      have hless:∀ u∈sortT (l.take i),lessB u l[i]=ltP l[i] u:=fun u hu=>by
        have:=hok u hu
        rw [lessB_of (by omega) this.1 hfi.1]; rfl
      rw [List.take_succ_eq_append_getElem hi,foldl_snoc]
      generalize sortT (l.take i)=out at *
      unfold ref_TimesSorted_l6
      have hw:=while_le (p:=ltP l[i]) out
      have k1:=sorted_l1 (((i:Int),())) (show out.length≤1000000 by omega) hless
      have hsplit:=ins_split l[i] out
      have htw:=take_while (p:=ltP l[i]) out
      have hdw:=drop_while (p:=ltP l[i]) out
      simp only [dcT (show (i:Int) < (l.length:Int) by omega),cond_true,getI_lt hi,Option.bind_some,k1,Sum.elim_inl,wrapS (show i < 9223372036854775807 by omega)]
      have hr:∀ n:Nat,n≤1000000→roomOk (n+(0+1)) 24=true:=fun n hn=>room_ok (by omega) (by omega)
      by_cases hat:(out.takeWhile (ltP l[i])).length < out.length
      · rw [List.drop_eq_getElem_cons hat] at hdw
        rw [←hdw] at hsplit
        simp only at hsplit
        have hlen:(out[(out.takeWhile (ltP l[i])).length]).length≤1000000:=by
          have:=(hok _ (List.getElem_mem hat)).1
          have:=(chk_zero this).2.1
          omega
        simp only [dcT (show (((out.takeWhile (ltP l[i])).length:Nat):Int) < (out.length:Int) by omega),cond_true,inB_T hat,Int.toNat_natCast,List.getElem?_eq_getElem hat,Option.bind_some,ref_TimesSame_eq hlen]
        by_cases he:out[(out.takeWhile (ltP l[i])).length]=l[i]
        · rw [if_pos he] at hsplit
          rw [decide_eq_true he,cond_true,hsplit]
        · rw [if_neg he] at hsplit
          rw [decide_eq_false he,cond_false,sorted_l2 _ hw (by omega),Option.bind_some,Sum.elim_inl]
          simp only [List.length_cons,List.length_nil]
          rw [hr _ (by rw [List.length_take]; omega)]
          simp only [Bool.and_true,cond_true]
          rw [sorted_l3 _ hw (by omega) (by rw [List.length_append,List.length_take]; simp only [List.length_cons,List.length_nil]; omega),Option.bind_some,Sum.elim_inl,hsplit,htw]
          rw [List.append_assoc,List.drop_eq_getElem_cons hat]
          rfl
      · have hd0:out.drop (out.takeWhile (ltP l[i])).length=[]:=List.drop_of_length_le (by omega)
        rw [hd0] at hdw
        rw [←hdw] at hsplit
        simp only at hsplit
        simp only [dcF (show ¬ (((out.takeWhile (ltP l[i])).length:Nat):Int) < (out.length:Int) by omega),cond_false]
        rw [l4_l2,sorted_l2 _ hw (by omega),Option.bind_some,Sum.elim_inl]
        simp only [List.length_cons,List.length_nil]
        rw [hr _ (by rw [List.length_take]; omega)]
        simp only [Bool.and_true,cond_true]
        rw [l5_l3,sorted_l3 _ hw (by omega) (by rw [List.length_append,List.length_take]; simp only [List.length_cons,List.length_nil]; omega),Option.bind_some,Sum.elim_inl,hsplit,htw,hd0,List.append_nil]
    · unfold ref_TimesSorted_l6
      simp only [dcF (show ¬ (l.length:Int) < (l.length:Int) by omega),cond_false,List.take_length]
  unfold ref_TimesSorted
  rw [key]; rfl
end

section
open Go Go.Abs

abbrev Df:=List Int × List Rw × Unit
abbrev HKy:=Int × (Int × Int × Int × Int × Unit) × Unit
abbrev HT:Ty:=.cons (.int .i64) (.cons (.cons (.int .i64) (.cons (.int .i64) (.cons (.int .i64) (.cons (.int .i64) .nil)))) .nil)
theorem ht_flat:HT.flat=true:=rfl
abbrev Hm:=List (HKy × Option Bg)
def keyT (t:List Int):HKy:=((t.length:Int),((t[0]?).getD 0,(t[1]?).getD 0,(t[2]?).getD 0,(t[3]?).getD 0,()),())
theorem keyOf_eq (t:List Int):diffs_KeyOf (t,())=some (keyT t,()):=rfl
def timeOf (k:HKy):List Int:=([k.2.1.1,k.2.1.2.1,k.2.1.2.2.1,k.2.1.2.2.2.1]:List Int).take k.1.toNat
theorem timeOf_keyT {t:List Int} (h:t.length≤4):timeOf (keyT t)=t:=by
  match t,h with
  | [],_=>rfl
  | [a],_=>rfl
  | [a,b],_=>rfl
  | [a,b,c],_=>rfl
  | [a,b,c,d],_=>rfl
  | _ :: _ :: _ :: _ :: _ :: _,h=>simp at h
theorem keyT_inj {t u:List Int} (ht:t.length≤4) (hu:u.length≤4) (h:keyT t=keyT u):t=u:=by
  rw [←timeOf_keyT ht,h,timeOf_keyT hu]
section
variable {t:Ty} {β:Type}
open Classical in
theorem mapGet_put (hf:t.flat=true) (k j:t.den) (x:β):∀ l:List (t.den × β),mapGet t (mapPut t l k x) j=if j=k then (mapGet t l k).map (fun _=>x) else mapGet t l j
  | []=>by
    by_cases h:j=k
    · rw [if_pos h]; rfl
    · rw [if_neg h]; rfl
  | p :: r=>by
    have ih:=mapGet_put hf k j x r
    unfold mapGet mapPut at ih ⊢
    rw [List.map_cons,List.find?_cons,List.find?_cons,List.find?_cons]
    cases hk:t.eqb k p.1 with
    | true =>
      have e:=(t.eqb_iff hf _ _).1 hk
      subst e
      simp only [cond_true]
      by_cases h:j=p.1
      · subst h
        rw [t.eqb_self hf,if_pos rfl]; rfl
      · have hj:t.eqb j p.1=false:=by
          cases hq:t.eqb j p.1 with
          | false=>rfl
          | true=>exact absurd ((t.eqb_iff hf _ _).1 hq) h
        rw [hj,if_neg h]
        rw [if_neg h] at ih
        exact ih
    | false =>
      simp only [cond_false]
      cases hj:t.eqb j p.1 with
      | true =>
        have e:=(t.eqb_iff hf _ _).1 hj
        subst e
        rw [if_neg (fun h=>by rw [←h,t.eqb_self hf] at hk; cases hk)]
      | false=>exact ih
theorem map_ext (hf:t.flat=true) {l m:List (t.den × β)} (hl:Rise t l) (hm:Rise t m) (h:∀ k,mapGet t l k=mapGet t m k):l=m:=by
  have nd:∀ {l:List (t.den × β)},Rise t l→l.Nodup:=fun h=>List.Pairwise.imp (fun {a b} hab e=>hab (by rw [e])) (h.ne hf)
  refine rise_ext hf hl hm ((List.perm_ext_iff_of_nodup (nd hl) (nd hm)).2 fun p=>?_)
  have h1:=mapGet_some hf hl (k:=p.1) (v:=p.2)
  have h2:=mapGet_some hf hm (k:=p.1) (v:=p.2)
  rw [h p.1] at h1
  exact h1.symm.trans h2
theorem put_set (hf:t.flat=true) {l:List (t.den × β)} (hl:Rise t l) (k:t.den) (a b:β):mapPut t (mapSet t l k a) k b=mapSet t l k b:=by
  have h1:=mapSet_rise hf (k:=k) (v:=a) hl
  refine map_ext hf (mapPut_rise h1 k b) (mapSet_rise hf hl) fun j=>?_
  rw [mapGet_put hf]
  by_cases h:j=k
  · subst h; rw [if_pos rfl,mapGet_self hf,mapGet_self hf]; rfl
  · rw [if_neg h,mapGet_other hf _ _ _ _ h,mapGet_other hf _ _ _ _ h]
theorem put_there (hf:t.flat=true) {l:List (t.den × β)} (hl:Rise t l) {k:t.den} {a:β} (hg:mapGet t l k=some a) (b:β):mapPut t l k b=mapSet t l k b:=by
  refine map_ext hf (mapPut_rise hl k b) (mapSet_rise hf hl) fun j=>?_
  rw [mapGet_put hf]
  by_cases h:j=k
  · subst h; rw [if_pos rfl,mapGet_self hf,hg]; rfl
  · rw [if_neg h,mapGet_other hf _ _ _ _ h]
end
def rowsAt (D:List Df) (t:List Int):List Rw:=D.flatMap fun d=>if d.1=t then d.2.1 else []
def bagAt (D:List Df) (t:List Int):Bg:=bagOf ((rowsAt D t).map (sc 1)) []
structure HIs (D:List Df) (H:Hm):Prop where
  rise:Rise HT H
  get:∀ t,t.length≤4→mapGet HT H (keyT t)=if t∈D.map (·.1) then some (some (bagAt D t)) else none
  keys:∀ p∈H,∃ t∈D.map (·.1),p.1=keyT t
theorem rowsAt_snoc (D:List Df) (d:Df) (t:List Int):rowsAt (D++[d]) t=rowsAt D t++(if d.1=t then d.2.1 else []):=by
  unfold rowsAt
  rw [List.flatMap_append]
  simp
theorem rowsAt_none {D:List Df} {t:List Int} (h:t ∉ D.map (·.1)):rowsAt D t=[]:=by
  unfold rowsAt
  rw [List.flatMap_eq_nil_iff]
  intro d hd
  rw [if_neg (fun e=>h (List.mem_map.2 ⟨d,hd,e⟩))]
theorem bagAt_none {D:List Df} {t:List Int} (h:t ∉ D.map (·.1)):bagAt D t=[]:=by
  unfold bagAt; rw [rowsAt_none h]; rfl
theorem bagAt_snoc (D:List Df) (d:Df):bagAt (D++[d]) d.1=bagOf (d.2.1.map (sc 1)) (bagAt D d.1):=by
  unfold bagAt
  rw [rowsAt_snoc,if_pos rfl,List.map_append,bagOf_app]
theorem his_snoc {D:List Df} {H:Hm} (h:HIs D H) {d:Df} (h4:∀ e∈D++[d],e.1.length≤4):HIs (D++[d]) (mapSet HT H (keyT d.1) (some (bagOf (d.2.1.map (sc 1)) (bagAt D d.1)))) where
  rise:=mapSet_rise ht_flat h.rise
  get t ht:=by
    have hd:d.1.length≤4:=h4 d (by simp)
    by_cases e:t=d.1
    · subst e
      rw [mapGet_self ht_flat,if_pos (by simp),bagAt_snoc]
    · rw [mapGet_other ht_flat _ _ _ _ (fun e2=>e (keyT_inj ht hd e2)),h.get t ht]
      have hm:t∈(D++[d]).map (·.1)↔t∈D.map (·.1):=by
        rw [List.map_append,List.mem_append]
        refine ⟨fun h=>h.elim (fun h=>h) (fun h=>absurd (by simpa using h) e),.inl⟩
      have hb:bagAt (D++[d]) t=bagAt D t:=by
        unfold bagAt
        rw [rowsAt_snoc,if_neg (fun e2=>e e2.symm),List.append_nil]
      by_cases hq:t∈D.map (·.1)
      · rw [if_pos hq,if_pos (hm.2 hq),hb]
      · rw [if_neg hq,if_neg (fun h=>hq (hm.1 h))]
  keys p hp:=by
    by_cases hk:p.1=keyT d.1
    · exact ⟨d.1,by simp,hk⟩
    · have h1:mapGet HT (mapSet HT H (keyT d.1) (some (bagOf (d.2.1.map (sc 1)) (bagAt D d.1)))) p.1=some p.2:=(mapGet_some ht_flat (mapSet_rise ht_flat h.rise)).2 hp
      rw [mapGet_other ht_flat _ _ _ _ hk] at h1
      obtain ⟨t,ht,he⟩:=h.keys p ((mapGet_some ht_flat h.rise).1 h1)
      exact ⟨t,by rw [List.map_append]; exact List.mem_append_left _ ht,he⟩
theorem tidy_pour (d:Df) (m:Bg) (hl:d.2.1.length≤3000000000000):loopM (diffs_Tidy_l1 d) ((0:Int),m,())=some (.inl (bagOf (d.2.1.map (sc 1)) m,())):=by
  refine loopM_sim d.2.1.length (fun i=>((i:Int),bagOf ((d.2.1.take i).map (sc 1)) m,())) _ (fun i hi=>?_) ?_ rfl
  · unfold diffs_Tidy_l1
    simp only [dcT (show (i:Int) < (d.2.1.length:Int) by omega),cond_true,getI_nat,List.getElem?_eq_getElem hi,Option.bind_some,wrapS (show i < 9223372036854775807 by omega)]
    rw [show bagOf ((d.2.1.take (i+1)).map (sc 1)) m=pour (bagOf ((d.2.1.take i).map (sc 1)) m) (kyOf d.2.1[i]) (W (1*d.2.1[i].2.2.1)) from bagOf_take d.2.1 1 m hi]
    unfold pour nOf W kyOf
    cases hq:(((mapGet KT (mapSet KT (mapEnt KT (bagOf ((d.2.1.take i).map (sc 1)) m) (d.2.1[i].1,d.2.1[i].2.1,()) 0) (d.2.1[i].1,d.2.1[i].2.1,()) (IntKind.i64.wrap (((mapGet KT (bagOf ((d.2.1.take i).map (sc 1)) m) (d.2.1[i].1,d.2.1[i].2.1,())).getD 0)+IntKind.i64.wrap (1*d.2.1[i].2.2.1)))) (d.2.1[i].1,d.2.1[i].2.1,())).getD 0) == 0) with
    | true=>simp only [cond_true]
    | false=>simp only [cond_false]
  · unfold diffs_Tidy_l1
    simp only [dcF (show ¬ (d.2.1.length:Int) < (d.2.1.length:Int) by omega),cond_false,List.take_length]
theorem tidy_step {D:List Df} (hl:D.length≤3000000000000) (hr:∀ d∈D,d.1.length≤4∧d.2.1.length≤3000000000000) {i:Nat} (hi:i < D.length) {H:Hm} (h:HIs (D.take i) H) :
    diffs_Tidy_l3 (D,()) ((i:Int),H,())=some (.inl (((i+1:Nat):Int),mapSet HT H (keyT D[i].1) (some (bagOf (D[i].2.1.map (sc 1)) (bagAt (D.take i) D[i].1))),())):=by
  obtain ⟨h4,hrl⟩:=hr D[i] (List.getElem_mem hi)
  have hg:=h.get D[i].1 h4
  unfold diffs_Tidy_l3
  simp only [dcT (show (i:Int) < (D.length:Int) by omega),cond_true,getI_nat,List.getElem?_eq_getElem hi,Option.bind_some,wrapS (show i < 9223372036854775807 by omega),keyOf_eq]
  by_cases hm:D[i].1∈(D.take i).map (·.1)
  · rw [if_pos hm] at hg
    rw [show mapGet HT H (keyT D[i].1)=_ from hg]
    simp only [Option.getD_some,optK]
    rw [show mapPut HT H (keyT D[i].1) (some (bagAt (D.take i) D[i].1))=H from mapPut_same ht_flat h.rise hg,show mapGet HT H (keyT D[i].1)=_ from hg]
    simp only [Option.getD_some]
    rw [show diffs_Tidy_l2=diffs_Tidy_l1 from rfl,tidy_pour _ _ hrl]
    simp only [Option.bind_some,Sum.elim_inl]
    rw [show mapPut HT H (keyT D[i].1) (some (bagOf (D[i].2.1.map (sc 1)) (bagAt (D.take i) D[i].1)))=_ from put_there ht_flat h.rise hg _]
  · rw [if_neg hm] at hg
    rw [show mapGet HT H (keyT D[i].1)=_ from hg]
    simp only [Option.getD_none,optK]
    rw [show mapGet HT (mapSet HT H (keyT D[i].1) (some ([]:Bg))) (keyT D[i].1)=_ from mapGet_self ht_flat _ _ _]
    simp only [Option.getD_some]
    rw [tidy_pour _ _ hrl]
    simp only [Option.bind_some,Sum.elim_inl]
    rw [show mapPut HT (mapSet HT H (keyT D[i].1) (some ([]:Bg))) (keyT D[i].1) (some (bagOf (D[i].2.1.map (sc 1)) []))=_ from put_set ht_flat h.rise _ _ _,bagAt_none hm]
def hisT (D:List Df):Nat→Hm
  | 0=>[]
  | i+1=>match D[i]? with
    | some d=>mapSet HT (hisT D i) (keyT d.1) (some (bagOf (d.2.1.map (sc 1)) (bagAt (D.take i) d.1)))
    | none=>hisT D i
theorem hisT_is {D:List Df} (h4:∀ d∈D,d.1.length≤4):∀ i,i≤D.length→HIs (D.take i) (hisT D i)
  | 0,_=>⟨List.Pairwise.nil,fun t _=>rfl,fun p hp=>by cases hp⟩
  | i+1,h=>by
    have hi:i < D.length:=h
    have ih:=hisT_is h4 i (by omega)
    rw [List.take_succ_eq_append_getElem hi]
    unfold hisT
    rw [List.getElem?_eq_getElem hi]
    refine his_snoc ih fun e he=>h4 e ?_
    rcases List.mem_append.1 he with he | he
    · exact List.mem_of_mem_take he
    · rw [List.mem_singleton.1 he]; exact List.getElem_mem hi
theorem tidy_loop {D:List Df} (hl:D.length≤3000000000000) (hr:∀ d∈D,d.1.length≤4∧d.2.1.length≤3000000000000):loopM (diffs_Tidy_l3 (D,())) ((0:Int),([]:Hm),())=some (.inl (hisT D D.length,())):=by
  refine loopM_sim D.length (fun i=>((i:Int),hisT D i,())) _ (fun i hi=>?_) ?_ rfl
  · rw [tidy_step hl hr hi (hisT_is (fun d hd=>(hr d hd).1) i (by omega))]
    show _=some (Sum.inl (_,(match D[i]? with
      | some d=>mapSet HT (hisT D i) (keyT d.1) (some (bagOf (d.2.1.map (sc 1)) (bagAt (D.take i) d.1)))
      | none=>hisT D i),()))
    rw [List.getElem?_eq_getElem hi]
  · unfold diffs_Tidy_l3
    simp only [dcF (show ¬ (D.length:Int) < (D.length:Int) by omega),cond_false]
end

section
open Go Go.Abs

def up (l:List (List Int)):Prop:=l.Pairwise fun a b=>cmpL a b < 0
theorem up_same:∀ {l m:List (List Int)},up l→up m→(∀ t,t∈l↔t∈m)→l=m
  | [],[],_,_,_=>rfl
  | [],b :: m,_,_,h=>absurd ((h b).2 (List.mem_cons_self ..)) (by simp)
  | a :: l,[],_,_,h=>absurd ((h a).1 (List.mem_cons_self ..)) (by simp)
  | a :: l,b :: m,h1,h2,h=>by
    have p1:=List.pairwise_cons.1 h1
    have p2:=List.pairwise_cons.1 h2
    have hab:a=b:=by
      rcases List.mem_cons.1 ((h a).1 (List.mem_cons_self ..)) with e | ha
      · exact e
      · rcases List.mem_cons.1 ((h b).2 (List.mem_cons_self ..)) with e | hb
        · exact e.symm
        · exact absurd (cmpL_trans (p2.1 a ha) (p1.1 b hb)) (cmpL_irr b)
    subst hab
    rw [up_same p1.2 p2.2 fun t=>?_]
    constructor
    · intro ht
      rcases List.mem_cons.1 ((h t).1 (List.mem_cons_of_mem _ ht)) with e | ht'
      · exact absurd (p1.1 t ht) (e ▸ cmpL_irr _)
      · exact ht'
    · intro ht
      rcases List.mem_cons.1 ((h t).2 (List.mem_cons_of_mem _ ht)) with e | ht'
      · exact absurd (p2.1 t ht) (e ▸ cmpL_irr _)
      · exact ht'
end

section
open Go Go.Abs

theorem allN_gen {E σ β γ:Type} {L:List E} {st:E→σ→σ} {I:Nat→σ→Prop} {k:β→Option γ} {f:List E→E→σ→Option (σ ⊕ β)} {g:σ→Option (σ ⊕ β)} {hh:σ→β} {c:γ} (hf:∀ r e y n,e∈L→I (n+1) y→f r e y=some (.inl (st e y))∧I n (st e y)) (hg:∀ y,g y=some (.inr (hh y))) :
    ∀ (n:Nat) (l:List E) (y:σ),l.length=n→(∀ e∈l,e∈L)→I n y→(∀ ord:List E,ord.Perm l→k (hh (ord.foldl (fun y e=>st e y) y))=some c)→AllN f g k n l y c
  | 0,l,y,hl,_,_,h=>by
    have:l=[]:=List.eq_nil_of_length_eq_zero hl
    subst this
    exact ⟨hh y,hg y,h [] (List.Perm.refl _)⟩
  | n+1,[],y,hl,_,_,_=>by simp at hl
  | n+1,e :: l,y,hl,hL,hi,h=>by
    intro p r hp
    have hpm:p∈e :: l:=hp.symm.mem_iff.1 List.mem_cons_self
    obtain ⟨h1,h2⟩:=hf r p y n (hL p hpm) hi
    refine .inr ⟨_,h1,allN_gen hf hg n r (st p y) ?_ (fun x hx=>hL x (hp.symm.mem_iff.1 (List.mem_cons_of_mem _ hx))) h2 fun ord ho=>?_⟩
    · have:=hp.length_eq
      simp only [List.length_cons] at this hl
      omega
    · exact h (p :: ord) ((ho.cons p).trans hp.symm)
abbrev Hb:=List (HKy × Bg)
def ent (p:HKy × Bg):Df:=(timeOf p.1,p.2.map toR,())
def neB (p:HKy × Bg):Bool:=!p.2.isEmpty
def tsum (l:Hb):Nat:=(l.map fun p=>p.2.length).sum
abbrev Tst:=List Df × Int × Unit
def tst (p:HKy × Bg) (y:Tst):Tst:=cond (neB p) (y.1++[ent p],y.2.1+(p.2.length:Int),()) y
theorem tst_fold:∀ (l:Hb) (y:Tst),l.foldl (fun y e=>tst e y) y=(y.1++(l.filter neB).map ent,y.2.1+(tsum l:Int),())
  | [],y=>by simp [tsum]
  | p :: l,y=>by
    rw [List.foldl_cons,tst_fold l]
    unfold tst tsum
    rw [List.map_cons,List.sum_cons]
    cases hp:neB p with
    | true =>
      rw [cond_true,List.filter_cons_of_pos (by simpa using hp),List.map_cons,List.append_assoc]
      simp only [List.singleton_append]
      rw [show y.2.1+(p.2.length:Int)+((l.map fun p=>p.2.length).sum:Nat)=y.2.1+((p.2.length+(l.map fun p=>p.2.length).sum:Nat):Int) by omega]
    | false =>
      have h0:p.2.length=0:=by
        unfold neB at hp
        simp at hp
        rw [hp]; rfl
      rw [cond_false,List.filter_cons_of_neg (by simp [hp]),h0,Nat.zero_add]
def tidyE (D:List Df) (t:List Int):Option Df:=cond (bagAt D t).isEmpty none (some (t,(bagAt D t).map toR,()))
def tidyL (D:List Df):List Df:=(sortT (D.map (·.1))).filterMap (tidyE D)
def numD (l:List Df):Nat:=(l.map fun d=>d.2.1.length).sum
structure MIs (D:List Df) (M:Hb):Prop where
  nd:M.Nodup
  mem:∀ p,p∈M↔∃ t∈D.map (·.1),p=(keyT t,bagAt D t)
theorem tidyL_nodup (D:List Df):(tidyL D).Nodup:=by
  have hs:=(sort_facts (D.map (·.1))).2.2
  have hp:(tidyL D).Pairwise fun a b=>cmpL a.1 b.1 < 0:=by
    unfold tidyL
    rw [List.pairwise_filterMap]
    refine hs.imp fun {a b} hab x hx y hy=>?_
    unfold tidyE at hx hy
    cases ha:(bagAt D a).isEmpty with
    | true=>rw [ha] at hx; cases hx
    | false =>
      cases hb:(bagAt D b).isEmpty with
      | true=>rw [hb] at hy; cases hy
      | false =>
        rw [ha] at hx; rw [hb] at hy
        cases hx; cases hy
        exact hab
  exact hp.imp fun {a b} hab e=>by rw [e] at hab; exact cmpL_irr _ hab
theorem tidyL_sorted (D:List Df):(tidyL D).Pairwise fun a b=>cmpL a.1 b.1 < 0:=by
  have hs:=(sort_facts (D.map (·.1))).2.2
  unfold tidyL
  rw [List.pairwise_filterMap]
  refine hs.imp fun {a b} hab x hx y hy=>?_
  unfold tidyE at hx hy
  cases ha:(bagAt D a).isEmpty with
  | true=>rw [ha] at hx; cases hx
  | false =>
    cases hb:(bagAt D b).isEmpty with
    | true=>rw [hb] at hy; cases hy
    | false =>
      rw [ha] at hx; rw [hb] at hy
      cases hx; cases hy
      exact hab
theorem tidyL_mem {D:List Df} {d:Df}:d∈tidyL D↔∃ t∈D.map (·.1),(bagAt D t).isEmpty=false∧d=(t,(bagAt D t).map toR,()):=by
  unfold tidyL
  rw [List.mem_filterMap]
  have hs:=(sort_facts (D.map (·.1))).2.1
  constructor
  · rintro ⟨t,ht,he⟩
    unfold tidyE at he
    cases hb:(bagAt D t).isEmpty with
    | true=>rw [hb] at he; cases he
    | false=>rw [hb] at he; cases he; exact ⟨t,(hs t).1 ht,hb,rfl⟩
  · rintro ⟨t,ht,hb,rfl⟩
    exact ⟨t,(hs t).2 ht,by unfold tidyE; rw [hb]; rfl⟩
theorem tell_perm {D:List Df} (h4:∀ t∈D.map (·.1),t.length≤4) {M ord:Hb} (hM:MIs D M) (ho:ord.Perm M):((ord.filter neB).map ent).Perm (tidyL D):=by
  have hnd:(ord.filter neB).Nodup:=List.Pairwise.filter _ (ho.nodup_iff.2 hM.nd)
  have hinj:∀ p∈ord.filter neB,∀ q∈ord.filter neB,ent p=ent q→p=q:=fun p hp q hq e=>by
    obtain ⟨t,ht,rfl⟩:=(hM.mem p).1 (ho.mem_iff.1 (List.mem_filter.1 hp).1)
    obtain ⟨u,hu,rfl⟩:=(hM.mem q).1 (ho.mem_iff.1 (List.mem_filter.1 hq).1)
    have:timeOf (keyT t)=timeOf (keyT u):=congrArg Prod.fst e
    rw [timeOf_keyT (h4 t ht),timeOf_keyT (h4 u hu)] at this
    rw [this]
  have hmn:((ord.filter neB).map ent).Nodup:=by
    unfold List.Nodup
    rw [List.pairwise_map]
    exact List.Pairwise.imp_of_mem (fun {a b} ha hb hab e=>hab (hinj a ha b hb e)) hnd
  refine (List.perm_ext_iff_of_nodup hmn (tidyL_nodup D)).2 fun d=>?_
  rw [tidyL_mem,List.mem_map]
  constructor
  · rintro ⟨p,hp,rfl⟩
    obtain ⟨t,ht,rfl⟩:=(hM.mem p).1 (ho.mem_iff.1 (List.mem_filter.1 hp).1)
    have hn:=(List.mem_filter.1 hp).2
    unfold neB at hn
    exact ⟨t,ht,by simpa using hn,by unfold ent; rw [timeOf_keyT (h4 t ht)]⟩
  · rintro ⟨t,ht,hb,rfl⟩
    exact ⟨(keyT t,bagAt D t),List.mem_filter.2 ⟨ho.mem_iff.2 ((hM.mem _).2 ⟨t,ht,rfl⟩),by unfold neB; rw [hb]; rfl⟩,by unfold ent; rw [timeOf_keyT (h4 t ht)]⟩
theorem tsum_num:∀ l:Hb,numD ((l.filter neB).map ent)=tsum l
  | []=>rfl
  | p :: l=>by
    have ih:=tsum_num l
    unfold numD tsum at ih ⊢
    cases hp:neB p with
    | true =>
      rw [List.filter_cons_of_pos (by simpa using hp),List.map_cons,List.map_cons,List.sum_cons,ih,List.map_cons,List.sum_cons]
      unfold ent
      rw [List.length_map]
    | false =>
      have h0:p.2.length=0:=by
        unfold neB at hp
        simp at hp
        rw [hp]; rfl
      rw [List.filter_cons_of_neg (by simp [hp]),ih,List.map_cons,List.sum_cons,h0,Nat.zero_add]
theorem numD_perm {l m:List Df} (h:l.Perm m):numD l=numD m:=(h.map _).sum_nat
theorem tell_c1 {a b:Df} (ha:a.1.length≤1000000):diffs_History_Tells_c1 (a,b,())=some (cmpL a.1 b.1,()):=by
  unfold diffs_History_Tells_c1
  rw [slices_Compare_eq ha]; rfl
theorem tell_sort {D:List Df} (h4:∀ t∈D.map (·.1),t.length≤4) {z:List Df} (hz:z.Perm (tidyL D)):sortP (fun a b=>(diffs_History_Tells_c1 (a,b,())).map fun r=>r.1) z=some (tidyL D):=by
  have hlen:∀ x∈z,x.1.length≤1000000:=fun x hx=>by
    obtain ⟨t,ht,-,rfl⟩:=tidyL_mem.1 (hz.mem_iff.1 hx)
    have:=h4 t ht
    show t.length≤_
    omega
  have hlt:∀ x∈z,∀ y:Df,ltF (fun a b=>(diffs_History_Tells_c1 (a,b,())).map fun r=>r.1) x y↔cmpL x.1 y.1 < 0:=fun x hx y=>by
    unfold ltF
    simp only [tell_c1 (hlen x hx),Option.map_some]
    exact ⟨fun ⟨v,h1,h2⟩=>by cases h1; exact h2,fun h=>⟨_,rfl,h⟩⟩
  have huniq:∀ x∈z,∀ y∈z,x.1=y.1→x=y:=by
    intro x hx y hy e
    obtain ⟨t,ht,-,rfl⟩:=tidyL_mem.1 (hz.mem_iff.1 hx)
    obtain ⟨u,hu,-,rfl⟩:=tidyL_mem.1 (hz.mem_iff.1 hy)
    have e:t=u:=e
    rw [e]
  refine sortP_eq ⟨fun x hx y _=>⟨_,by rw [tell_c1 (hlen x hx)]; rfl⟩,fun x hx=>?_,fun x hx y hy w _=>?_,fun x hx y hy h1 h2=>?_⟩ hz.symm ?_
  · rw [hlt x hx]; exact cmpL_irr _
  · rw [hlt x hx,hlt x hx,hlt y hy]; exact cmpL_trans
  · rw [hlt x hx] at h1
    rw [hlt y hy] at h2
    refine huniq x hx y hy (cmpL_eq.1 ?_)
    rw [cmpL_neg] at h2
    omega
  · unfold Srt
    refine List.Pairwise.imp_of_mem (fun {a b} ha hb hab=>?_) (tidyL_sorted D)
    rw [hlt b (hz.mem_iff.2 hb)]
    intro hba
    exact cmpL_irr _ (cmpL_trans hab hba)
end

section
open Go Go.Abs

def allB (H:Hm):Hb:=H.map fun p=>(p.1,p.2.getD [])
theorem allSome_all:∀ {H:Hm},(∀ p∈H,∃ b,p.2=some b)→allSome H=some (allB H)
  | [],_=>rfl
  | (k,v) :: r,h=>by
    obtain ⟨b,hb⟩:=h (k,v) List.mem_cons_self
    have hb:v=some b:=hb
    subst hb
    have ih:=allSome_all fun p hp=>h p (List.mem_cons_of_mem _ hp)
    show (allSome r).map ((k,b) :: ·)=_
    rw [ih]; rfl
theorem his_some {D:List Df} (h4:∀ t∈D.map (·.1),t.length≤4) {H:Hm} (h:HIs D H):∀ p∈H,∃ t∈D.map (·.1),p=(keyT t,some (bagAt D t)):=fun p hp=>by
  obtain ⟨t,ht,hk⟩:=h.keys p hp
  have hg:=h.get t (h4 t ht)
  rw [if_pos ht] at hg
  have h2:=(mapGet_some ht_flat h.rise).2 (show (p.1,p.2)∈H from hp)
  rw [hk,hg] at h2
  exact ⟨t,ht,Prod.ext hk (Option.some.inj h2).symm⟩
theorem his_mis {D:List Df} (h4:∀ t∈D.map (·.1),t.length≤4) {H:Hm} (h:HIs D H):MIs D (allB H) where
  nd:=by
    unfold allB List.Nodup
    rw [List.pairwise_map]
    exact List.Pairwise.imp (fun {a b} hab e=>hab (congrArg (fun p:HKy × Bg=>p.1) e)) (h.rise.ne ht_flat)
  mem p:=by
    unfold allB
    rw [List.mem_map]
    constructor
    · rintro ⟨q,hq,rfl⟩
      obtain ⟨t,ht,rfl⟩:=his_some h4 h q hq
      exact ⟨t,ht,rfl⟩
    · rintro ⟨t,ht,rfl⟩
      have hg:=h.get t (h4 t ht)
      rw [if_pos ht] at hg
      exact ⟨(keyT t,some (bagAt D t)),(mapGet_some ht_flat h.rise).1 hg,rfl⟩
theorem his_allB {D:List Df} (h4:∀ t∈D.map (·.1),t.length≤4) {H:Hm} (h:HIs D H):allSome H=some (allB H):=allSome_all fun p hp=>by
  obtain ⟨t,-,rfl⟩:=his_some h4 h p hp
  exact ⟨_,rfl⟩
theorem time_eq {t:List Int} (h:t.length≤4):diffs_Key_Time (keyT t,())=some (t,()):=by
  have e:=timeOf_keyT h
  unfold timeOf at e
  unfold diffs_Key_Time
  have hl:(keyT t).1=(t.length:Int):=rfl
  rw [e,hl,dcT (show (0:Int)≤(t.length:Int) by omega),dcT (show (t.length:Int)≤((4:Nat):Int) by omega)]
  simp only [Bool.and_self,cond_true]
  rw [clone_eq (by omega)]; rfl
def told (l:List Df):List Df × Int × Unit:=if l.length > 64 then ([],1,()) else if numD l > 128 then ([],1,()) else (l,0,())
theorem tells_eq {D:List Df} (hD:D.length≤2000) (h4:∀ t∈D.map (·.1),t.length≤4) (hb:∀ t,(bagAt D t).length≤3000000000000) {M:Hb} (hM:MIs D M) (hl:M.length≤2000):diffs_History_Tells (M,())=some (told (tidyL D)):=by
  unfold diffs_History_Tells
  refine anyX_some ?_
  refine allN_gen (L:=M) (st:=tst) (I:=fun n y=>y.1.length+n≤2000∧0≤y.2.1∧y.2.1+3000000000000*(n:Int)≤9000000000000000) (hh:=fun y=>(Sum.inl y:Tst ⊕ Empty)) (fun r e y n he hI=>?_) (fun y=>rfl) _ M (([]:List Df),(0:Int),()) rfl (fun e he=>he) ⟨by simp; omega,by simp,by simp; omega⟩ fun ord ho=>?_
  · obtain ⟨t,ht,rfl⟩:=(hM.mem e).1 he
    obtain ⟨i1,i2,i3⟩:=hI
    have hbl:=hb t
    unfold diffs_History_Tells_l1 tst neB
    cases hq:(bagAt D t).isEmpty with
    | true =>
      have h0:(bagAt D t).length=0:=by
        have:bagAt D t=[]:=by simpa using hq
        rw [this]; rfl
      simp only [h0,Bool.not_true,cond_false]
      exact ⟨rfl,by omega,i2,by omega⟩
    | false =>
      have h1:0 < (bagAt D t).length:=by
        cases hbb:bagAt D t with
        | nil=>rw [hbb] at hq; cases hq
        | cons a r=>simp
      have hw:IntKind.i64.wrap (y.2.1+((bagAt D t).length:Int))=y.2.1+((bagAt D t).length:Int):=wrap64 (by omega) (by omega)
      simp only [dcT (show ((bagAt D t).length:Int) > 0 by omega),cond_true,Bool.not_false,time_eq (h4 t ht),Option.bind_some]
      rw [show bags_Bag_Rows (bagAt D t,())=_ from rows_eq (bag_rise _) hbl]
      simp only [Option.bind_some,hw]
      rw [room_ok (show y.1.length+([(t,(bagAt D t).map toR,())]:List Df).length≤140737488355328 by simp; omega) (show (y.1.length+([(t,(bagAt D t).map toR,())]:List Df).length)*48≤140737488355328 by simp; omega)]
      have he2:ent (keyT t,bagAt D t)=(t,(bagAt D t).map toR,()):=by unfold ent; rw [timeOf_keyT (h4 t ht)]
      rw [he2]
      refine ⟨rfl,?_,?_,?_⟩
      · show (y.1++[_]).length+n≤2000
        rw [List.length_append,List.length_singleton]; omega
      · show 0≤y.2.1+((bagAt D t).length:Int)
        omega
      · show y.2.1+((bagAt D t).length:Int)+3000000000000*(n:Int)≤9000000000000000
        omega
  · rw [tst_fold]
    have hp:=tell_perm h4 hM ho
    have hlen:=hp.length_eq
    have hnum:tsum ord=numD (tidyL D):=by rw [←tsum_num,numD_perm hp]
    simp only [List.nil_append,Sum.elim_inl,hnum,hlen,Int.zero_add]
    have hle:(tidyL D).length≤2000:=by
      rw [←hlen,List.length_map]
      have h1:=List.length_filter_le neB ord
      have h2:=ho.length_eq
      omega
    unfold told
    by_cases c1:(tidyL D).length > 64
    · rw [dcT (show ((tidyL D).length:Int) > 64 by omega),if_pos c1]; rfl
    · rw [dcF (show ¬ ((tidyL D).length:Int) > 64 by omega),if_neg c1,cond_false]
      by_cases c2:numD (tidyL D) > 128
      · rw [dcT (show (numD (tidyL D):Int) > 128 by omega),if_pos c2]; rfl
      · rw [dcF (show ¬ (numD (tidyL D):Int) > 128 by omega),if_neg c2,cond_false]
        rw [room_ok (show (tidyL D).length≤140737488355328 by omega) (show (tidyL D).length*1≤140737488355328 by omega),cond_true,tell_sort h4 hp]; rfl
end

section
open Go Go.Abs

def c129 (n:Nat):Int:=if 129 < (n:Int) then 129 else n
theorem numD_take (D:List Df) {i:Nat} (h:i < D.length):numD (D.take (i+1))=numD (D.take i)+D[i].2.1.length:=by
  unfold numD
  rw [List.take_succ_eq_append_getElem h,List.map_append,List.sum_append]
  simp
def dchk (D:List Df):Int:=if D.length > 64∨numD D > 128 then 1 else tlist (D.map (·.1))
theorem times_map {D:List Df} (hl:D.length≤100000):diffs_Times (D,())=some (D.map (·.1),()):=by
  have h:=loopM_sim (f:=diffs_Times_l1 (D,())) (s0:=(([]:List (List Int)),(0:Int),())) D.length (fun i=>((D.take i).map (·.1),(i:Int),())) (.inl (D.map (·.1),())) (fun i hi=>by
    unfold diffs_Times_l1
    have hlen:((D.take i).map (·.1)).length=i:=by rw [List.length_map,List.length_take]; omega
    simp only [dcT (show (i:Int) < (D.length:Int) by omega),cond_true,getI_nat,List.getElem?_eq_getElem hi,Option.bind_some,wrapS (show i < 9223372036854775807 by omega),hlen]
    rw [room_ok (show i+([D[i].1]:List (List Int)).length≤140737488355328 by simp; omega) (show (i+([D[i].1]:List (List Int)).length)*24≤140737488355328 by simp; omega),List.take_succ_eq_append_getElem hi,List.map_append]
    rfl) (by
    unfold diffs_Times_l1
    simp only [dcF (show ¬ (D.length:Int) < (D.length:Int) by omega),cond_false,List.take_length]) rfl
  unfold diffs_Times
  rw [h]; rfl
theorem ref_times_map {D:List Df} (hl:D.length≤100000):ref_DiffsTimes (D,())=some (D.map (·.1),()):=times_map hl
theorem check_eq {D:List Df} (h:D.length*48≤140737488355328):diffs_Check (D,())=some (dchk D,()):=by
  have hl:=loopM_sim (f:=diffs_Check_l1 (D,())) (s0:=((0:Int),(0:Int),())) D.length (fun i=>(c129 (numD (D.take i)),(i:Int),())) (.inl (c129 (numD D),())) (fun i hi=>by
    unfold diffs_Check_l1
    simp only [dcT (show (i:Int) < (D.length:Int) by omega),cond_true,getI_nat,List.getElem?_eq_getElem hi,Option.bind_some,wrapS (show i < 9223372036854775807 by omega)]
    rw [numD_take D hi]
    generalize numD (D.take i)=n
    generalize D[i].2.1.length=L
    have hc:∀ a b:Int,a=b→(some (Sum.inl (a,((i+1:Nat):Int),())):Option ((Int × Int × Unit) ⊕ ((Int × Unit) ⊕ Empty)))=some (Sum.inl (b,((i+1:Nat):Int),())):=fun a b e=>by rw [e]
    refine hc _ _ ?_
    have hw:IntKind.i64.wrap (c129 n+(if (129:Int) < (L:Int) then (129:Int) else (L:Int)))=c129 n+(if (129:Int) < (L:Int) then (129:Int) else (L:Int)):=by
      unfold c129
      refine wrap64 ?_ ?_ <;> split <;> split <;> omega
    rw [hw]
    unfold c129
    split <;> split <;> split <;> split <;> omega) (by
    unfold diffs_Check_l1
    simp only [dcF (show ¬ (D.length:Int) < (D.length:Int) by omega),cond_false,List.take_length]) rfl
  unfold diffs_Check dchk
  rw [hl]
  simp only [Option.bind_some,Sum.elim_inl]
  by_cases c1:D.length > 64
  · rw [dcT (show (D.length:Int) > 64 by omega),if_pos (.inl c1)]; rfl
  · rw [dcF (show ¬ (D.length:Int) > 64 by omega),cond_false]
    by_cases c2:numD D > 128
    · rw [dcT (show c129 (numD D) > 128 by unfold c129; split <;> omega),if_pos (.inr c2)]; rfl
    · rw [dcF (show ¬ c129 (numD D) > 128 by unfold c129; split <;> omega),if_neg (by omega),cond_false,times_map (by omega)]
      simp only [Option.bind_some,times_List_eq]
theorem ref_check_eq (D:List Df):ref_DiffsCheck (D,())=some (dchk D,()):=by
  unfold ref_DiffsCheck dchk
  by_cases c1:D.length > 64
  · rw [dcT (show (D.length:Int) > 64 by omega),if_pos (.inl c1)]; rfl
  · rw [dcF (show ¬ (D.length:Int) > 64 by omega),cond_false]
    have hl:=loopM_stop (f:=ref_DiffsCheck_l1 (D,())) D.length (fun i=>(c129 (numD (D.take i)),(i:Int),())) (fun i=>if ((D[i]?).getD ([],[],())).2.1.length+c129 (numD (D.take i)) > 128 then some (Sum.inl ((1:Int),())) else none) (.inr (.inl ())) (fun i hi=>by
      unfold ref_DiffsCheck_l1
      simp only [dcT (show (i:Int) < (D.length:Int) by omega),cond_true,getI_nat,List.getElem?_eq_getElem hi,Option.bind_some,Option.getD_some,wrapS (show i < 9223372036854775807 by omega)]
      rw [numD_take D hi]
      generalize numD (D.take i)=n
      generalize D[i].2.1.length=L
      have hw:IntKind.i64.wrap ((128:Int) - c129 n)=128 - c129 n:=by
        unfold c129
        refine wrap64 ?_ ?_ <;> split <;> omega
      rw [hw]
      by_cases hs:(L:Int)+c129 n > 128
      · rw [dcT (show (L:Int) > 128 - c129 n by omega),if_pos hs]; rfl
      · rw [dcF (show ¬ (L:Int) > 128 - c129 n by omega),if_neg hs]
        have hc:c129 (n+L)=c129 n+L:=by
          unfold c129 at hs ⊢
          split at hs <;> split <;> omega
        have hw2:IntKind.i64.wrap (c129 n+(L:Int))=c129 n+(L:Int):=by
          unfold c129 at hs ⊢
          refine wrap64 ?_ ?_ <;> split at hs <;> split <;> omega
        simp only [cond_false,hw2,hc]) (by
      unfold ref_DiffsCheck_l1
      simp only [dcF (show ¬ (D.length:Int) < (D.length:Int) by omega),cond_false])
    have hl:loopM (ref_DiffsCheck_l1 (D,())) ((0:Int),(0:Int),())=_:=hl
    rw [hl]
    by_cases c2:numD D > 128
    · rw [if_pos (.inr c2)]
      have hex:∃ z,((List.range D.length).findSome? fun i=>if ((D[i]?).getD ([],[],())).2.1.length+c129 (numD (D.take i)) > 128 then some (Sum.inl ((1:Int),()):(Int × Unit) ⊕ (Unit ⊕ Empty)) else none)=some z:=by
        cases hf:((List.range D.length).findSome? fun i=>if ((D[i]?).getD ([],[],())).2.1.length+c129 (numD (D.take i)) > 128 then some (Sum.inl ((1:Int),()):(Int × Unit) ⊕ (Unit ⊕ Empty)) else none) with
        | some z=>exact ⟨z,rfl⟩
        | none =>
          exfalso
          have hall:∀ i,i≤D.length→numD (D.take i)≤128:=by
            intro i
            induction i with
            | zero=>intro _; exact Nat.zero_le _
            | succ i ih =>
              intro hi
              have h1:=List.findSome?_eq_none_iff.1 hf i (List.mem_range.2 hi)
              have h2:=ih (by omega)
              rw [List.getElem?_eq_getElem hi,Option.getD_some] at h1
              rw [numD_take D hi]
              split at h1
              · cases h1
              · rename_i h3
                unfold c129 at h3
                split at h3 <;> omega
          have:=hall D.length (Nat.le_refl _)
          rw [List.take_length] at this
          omega
      obtain ⟨z,hz⟩:=hex
      obtain ⟨i,-,hi⟩:=List.exists_of_findSome?_eq_some hz
      rw [hz]
      split at hi
      · cases hi; rfl
      · cases hi
    · rw [if_neg (by omega)]
      have hall:∀ i (hi:i < D.length),numD (D.take i)+D[i].2.1.length≤128:=fun i hi=>by
        rw [←numD_take D hi]
        have:numD (D.take (i+1))≤numD D:=by
          have e:numD D=numD (D.take (i+1))+numD (D.drop (i+1)):=by
            unfold numD
            rw [←List.sum_append,←List.map_append,List.take_append_drop]
          omega
        omega
      have hf:((List.range D.length).findSome? fun i=>if ((D[i]?).getD ([],[],())).2.1.length+c129 (numD (D.take i)) > 128 then some (Sum.inl ((1:Int),()):(Int × Unit) ⊕ (Unit ⊕ Empty)) else none)=none:=List.findSome?_eq_none_iff.2 fun i hi=>by
        have hi:=List.mem_range.1 hi
        have:=hall i hi
        rw [List.getElem?_eq_getElem hi,Option.getD_some,if_neg]
        unfold c129
        split <;> omega
      rw [hf]
      simp only [Option.getD_none,Option.bind_some,Sum.elim_inr,Sum.elim_inl]
      rw [ref_times_map (by omega)]
      simp only [Option.bind_some,ref_TimesList_eq]
structure Good (D:List Df):Prop where
  len:D.length≤64
  num:numD D≤128
  chk:∀ d∈D,chk d.1=0
  same:∃ n,∀ d∈D,d.1.length=n
theorem dchk_zero {D:List Df} (h:dchk D=0):Good D:=by
  unfold dchk at h
  split at h
  · cases h
  · rename_i hn
    obtain ⟨t1,t2⟩:=tlist_zero h
    exact ⟨by omega,by omega,fun d hd=>(t2 _ (List.mem_map_of_mem hd)).1,_,fun d hd=>(t2 _ (List.mem_map_of_mem hd)).2⟩
structure Fine (D:List Df):Prop where
  len:D.length≤2000
  num:numD D≤1000000000000
  chk:∀ d∈D,chk d.1=0
  same:∃ n,∀ d∈D,d.1.length=n
theorem Good.fine {D:List Df} (g:Good D):Fine D:=⟨Nat.le_trans g.len (by decide),Nat.le_trans g.num (by decide),g.chk,g.same⟩
theorem fine_times {D:List Df} (g:Fine D):∀ t∈D.map (·.1),t.length≤4:=fun t ht=>by
  obtain ⟨d,hd,rfl⟩:=List.mem_map.1 ht
  exact (chk_zero (g.chk d hd)).2.1
end

section
open Go Go.Abs

theorem numD_cons (d:Df) (D:List Df):numD (d :: D)=d.2.1.length+numD D:=by unfold numD; rw [List.map_cons,List.sum_cons]
theorem len_le_num {D:List Df} {d:Df} (h:d∈D):d.2.1.length≤numD D:=by
  induction D with
  | nil=>cases h
  | cons e D ih =>
    rw [numD_cons]
    rcases List.mem_cons.1 h with h | h
    · rw [h]; omega
    · have:=ih h; omega
theorem rows_sum:∀ (D:List Df) {T:List (List Int)},T.Nodup→(T.map fun t=>(rowsAt D t).length).sum≤numD D
  | [],T,_=>by
    have:∀ T:List (List Int),(T.map fun t=>(rowsAt [] t).length).sum=0:=fun T=>by
      induction T with
      | nil=>rfl
      | cons a T ih=>rw [List.map_cons,List.sum_cons,ih]; rfl
    rw [this]; exact Nat.zero_le _
  | d :: D,T,hT=>by
    have ih:=rows_sum D hT
    have one:∀ T:List (List Int),T.Nodup→(T.map fun t=>(rowsAt (d :: D) t).length).sum≤(T.map fun t=>(rowsAt D t).length).sum+(if d.1∈T then d.2.1.length else 0):=by
      intro T
      induction T with
      | nil=>intro _; exact Nat.zero_le _
      | cons a T ih =>
        intro hn
        have hn':=List.nodup_cons.1 hn
        have h1:=ih hn'.2
        have h2:(rowsAt (d :: D) a).length=(if d.1=a then d.2.1.length else 0)+(rowsAt D a).length:=by
          unfold rowsAt
          rw [List.flatMap_cons,List.length_append]
          by_cases e:d.1=a
          · rw [if_pos e,if_pos e]
          · rw [if_neg e,if_neg e]; rfl
        rw [List.map_cons,List.sum_cons,List.map_cons,List.sum_cons,h2]
        by_cases e:d.1=a
        · subst e
          rw [if_neg hn'.1] at h1
          rw [if_pos rfl,if_pos List.mem_cons_self]
          omega
        · rw [if_neg e]
          by_cases hm:d.1∈T
          · rw [if_pos hm] at h1
            rw [if_pos (List.mem_cons_of_mem _ hm)]
            omega
          · rw [if_neg hm] at h1
            have:d.1 ∉ a :: T:=fun h=>(List.mem_cons.1 h).elim e hm
            rw [if_neg this]
            omega
    have h1:=one T hT
    rw [numD_cons]
    split at h1 <;> omega
theorem bag_rows (D:List Df) (t:List Int):(bagAt D t).length≤(rowsAt D t).length:=by
  have:=bag_length ((rowsAt D t).map (sc 1)) []
  rw [List.length_nil,List.length_map] at this
  unfold bagAt; omega
theorem sortT_nodup (l:List (List Int)):(sortT l).Nodup:=(sort_facts l).2.2.imp fun {a b} hab e=>by rw [e] at hab; exact cmpL_irr _ hab
theorem tidy_num (D:List Df):numD (tidyL D)≤numD D:=by
  have h1:=rows_sum D (sortT_nodup (D.map (·.1)))
  have h2:∀ T:List (List Int),numD (T.filterMap (tidyE D))≤(T.map fun t=>(rowsAt D t).length).sum:=by
    intro T
    induction T with
    | nil=>exact Nat.le_refl _
    | cons a T ih =>
      rw [List.map_cons,List.sum_cons,List.filterMap_cons]
      unfold tidyE
      cases hb:(bagAt D a).isEmpty with
      | true=>simp only [cond_true]; exact Nat.le_trans ih (Nat.le_add_left _ _)
      | false =>
        simp only [cond_false]
        rw [numD_cons]
        have:=bag_rows D a
        have e:((bagAt D a).map toR).length=(bagAt D a).length:=List.length_map _
        show ((bagAt D a).map toR).length+numD (T.filterMap (tidyE D))≤_
        omega
  exact Nat.le_trans (h2 _) h1
theorem tidy_len (D:List Df):(tidyL D).length≤D.length:=by
  have h1:=(sort_facts (D.map (·.1))).1
  have h2:=List.length_filterMap_le (tidyE D) (sortT (D.map (·.1)))
  rw [List.length_map] at h1
  unfold tidyL; omega
theorem good_times {D:List Df} (g:Good D):∀ t∈D.map (·.1),t.length≤4:=fun t ht=>by
  obtain ⟨d,hd,rfl⟩:=List.mem_map.1 ht
  exact (chk_zero (g.chk d hd)).2.1
theorem rows_le (D:List Df) (t:List Int):(rowsAt D t).length≤numD D:=by
  have:=rows_sum D (T:=[t]) (List.nodup_cons.2 ⟨by simp,List.nodup_nil⟩)
  simpa using this
theorem tidy_eq {D:List Df} (h:D.length*48≤140737488355328):diffs_Tidy (D,())=some (if dchk D=0 then (tidyL D,0,()) else ([],dchk D,())):=by
  unfold diffs_Tidy
  rw [check_eq h]
  simp only [Option.bind_some]
  by_cases h0:dchk D=0
  · have g:=dchk_zero h0
    have g1:=g.len
    have g2:=g.num
    have h4:=good_times g
    rw [bneF h0,cond_false,if_pos h0,tidy_loop (by omega) (fun d hd=>⟨h4 d.1 (List.mem_map_of_mem hd),by have:=len_le_num hd; omega⟩)]
    simp only [Option.bind_some,Sum.elim_inl]
    have hi:=hisT_is (D:=D) (fun d hd=>h4 d.1 (List.mem_map_of_mem hd)) D.length (Nat.le_refl _)
    rw [List.take_length] at hi
    rw [his_allB h4 hi]
    simp only [Option.bind_some]
    have hM:=his_mis h4 hi
    have hlen:(allB (hisT D D.length)).length≤2000:=by
      have hp:=tell_perm h4 hM (List.Perm.refl _)
      have:∀ i,i≤D.length→(hisT D i).length≤i:=by
        intro i
        induction i with
        | zero=>intro _; exact Nat.le_refl _
        | succ i ih =>
          intro hi2
          have:=ih (by omega)
          unfold hisT
          rw [List.getElem?_eq_getElem hi2]
          have ml:∀ (m:Hm) (k:HKy) (v:Option Bg),(mapSet HT m k v).length≤m.length+1:=by
            intro m
            induction m with
            | nil=>intro k v; simp [mapSet]
            | cons p r ih =>
              intro k v
              have:=ih k v
              simp only [mapSet]
              cases HT.eqb k p.1 with
              | true=>simp
              | false =>
                cases HT.lt k p.1 with
                | true=>simp
                | false=>simp only [cond_false,List.length_cons]; omega
          have:=ml (hisT D i) (keyT D[i].1) (some (bagOf (D[i].2.1.map (sc 1)) (bagAt (D.take i) D[i].1)))
          show (mapSet HT (hisT D i) (keyT D[i].1) (some (bagOf (D[i].2.1.map (sc 1)) (bagAt (D.take i) D[i].1)))).length≤i+1
          omega
      have:=this D.length (Nat.le_refl _)
      unfold allB
      rw [List.length_map]; omega
    rw [tells_eq (by omega) h4 (fun t=>by have:=bag_rows D t; have:=rows_le D t; omega) hM hlen]
    have t1:=tidy_len D
    have t2:=tidy_num D
    unfold told
    rw [if_neg (by omega),if_neg (by omega)]; rfl
  · rw [bneT h0,cond_true,if_neg h0]
theorem sc1_in (l:List Rw):∀ r∈l.map (sc 1),InR r.2.2.1:=fun r hr=>by
  obtain ⟨q,-,rfl⟩:=List.mem_map.1 hr
  exact inR_W _
theorem ref_tidy_l1 {D:List Df} (hl:D.length≤2000) (hn:numD D≤1000000000000) (h4:∀ t∈D.map (·.1),t.length≤4) (t:List Int):loopM (ref_DiffsTidy_l1 (D,()) t) (([]:List Rw),(0:Int),())=some (.inl ((rowsAt D t).map (sc 1),())):=by
  refine loopM_sim D.length (fun i=>((rowsAt (D.take i) t).map (sc 1),(i:Int),())) _ (fun i hi=>?_) ?_ rfl
  · have hd:=List.getElem_mem hi
    have hdl:=len_le_num hd
    have h4i:=h4 D[i].1 (List.mem_map_of_mem hd)
    have hrl:(rowsAt (D.take i) t).length≤1000000000000:=by
      have h1:=rows_le (D.take i) t
      have h2:numD D=numD (D.take i)+numD (D.drop i):=by
        unfold numD
        rw [←List.sum_append,←List.map_append,List.take_append_drop]
      omega
    unfold ref_DiffsTidy_l1
    simp only [dcT (show (i:Int) < (D.length:Int) by omega),cond_true,getI_nat,List.getElem?_eq_getElem hi,Option.bind_some,wrapS (show i < 9223372036854775807 by omega),ref_TimesSame_eq (show D[i].1.length≤1000000 by omega)]
    rw [List.take_succ_eq_append_getElem hi,rowsAt_snoc]
    by_cases e:D[i].1=t
    · rw [decide_eq_true e,cond_true,if_pos e,poured_eq _ _ 1 (by rw [List.length_map]; omega) (by omega),List.map_append]; rfl
    · rw [decide_eq_false e,cond_false,if_neg e,List.append_nil]
  · unfold ref_DiffsTidy_l1
    simp only [dcF (show ¬ (D.length:Int) < (D.length:Int) by omega),cond_false,List.take_length]
theorem ref_tidy_eq {D:List Df} (g:Fine D):ref_DiffsTidy (D,())=some (tidyL D,()):=by
  have g1:=g.len
  have g2:=g.num
  have h4:=fine_times g
  obtain ⟨n,hn⟩:=g.same
  unfold ref_DiffsTidy
  rw [ref_times_map (by omega)]
  simp only [Option.bind_some]
  rw [ref_TimesSorted_eq (by rw [List.length_map]; omega) n (fun t ht=>by
    obtain ⟨d,hd,rfl⟩:=List.mem_map.1 ht
    exact ⟨g.chk d hd,hn d hd⟩)]
  simp only [Option.bind_some]
  have hsl:=(sort_facts (D.map (·.1))).1
  rw [List.length_map] at hsl
  have hl:=loopM_sim (f:=ref_DiffsTidy_l2 (D,()) (sortT (D.map (·.1)),())) (s0:=(([]:List Df),(0:Int),())) (sortT (D.map (·.1))).length (fun i=>(((sortT (D.map (·.1))).take i).filterMap (tidyE D),(i:Int),())) (.inl (tidyL D,())) (fun i hi=>by
    generalize hS:sortT (D.map (·.1))=S at hi hsl
    have hrl:=rows_le D S[i]
    have hfl:=List.length_filterMap_le (tidyE D) (S.take i)
    rw [List.length_take] at hfl
    unfold ref_DiffsTidy_l2
    simp only [dcT (show (i:Int) < (S.length:Int) by omega),cond_true,getI_nat,List.getElem?_eq_getElem hi,Option.bind_some,wrapS (show i < 9223372036854775807 by omega)]
    rw [ref_tidy_l1 g1 g2 h4]
    simp only [Option.bind_some,Sum.elim_inl]
    rw [ref_Bag_eq (by rw [List.length_map]; omega),rows_bag (sc1_in _)]
    simp only [Option.bind_some]
    rw [List.take_succ_eq_append_getElem hi,List.filterMap_append]
    change (cond (decide ((((bagAt D S[i]).map toR).length:Int) > 0)) (cond (true && roomOk (((S.take i).filterMap (tidyE D)).length+([(S[i],(bagAt D S[i]).map toR,())]:List Df).length) 48 && true && true) (some (Sum.inl ((S.take i).filterMap (tidyE D)++[(S[i],(bagAt D S[i]).map toR,())],((i+1:Nat):Int),()))) none) _:Option ((List Df × Int × Unit) ⊕ ((List Df × Unit) ⊕ Empty)))=_
    have hone:[S[i]].filterMap (tidyE D)=cond (bagAt D S[i]).isEmpty [] [(S[i],(bagAt D S[i]).map toR,())]:=by
      rw [List.filterMap_cons]
      unfold tidyE
      cases (bagAt D S[i]).isEmpty <;> rfl
    rw [hone,List.length_map]
    cases hq:(bagAt D S[i]).isEmpty with
    | true =>
      have h0:(bagAt D S[i]).length=0:=by
        have:bagAt D S[i]=[]:=by simpa using hq
        rw [this]; rfl
      rw [h0]
      simp only [cond_true,List.append_nil]
      rfl
    | false =>
      have h1:0 < (bagAt D S[i]).length:=by
        cases hbb:bagAt D S[i] with
        | nil=>rw [hbb] at hq; cases hq
        | cons a r=>simp
      rw [dcT (show ((bagAt D S[i]).length:Int) > 0 by omega),room_ok (show ((S.take i).filterMap (tidyE D)).length+([(S[i],(bagAt D S[i]).map toR,())]:List Df).length≤140737488355328 by simp; omega) (show (((S.take i).filterMap (tidyE D)).length+([(S[i],(bagAt D S[i]).map toR,())]:List Df).length)*48≤140737488355328 by simp; omega)]
      rfl) (by
    unfold ref_DiffsTidy_l2
    simp only [dcF (show ¬ ((sortT (D.map (·.1))).length:Int) < ((sortT (D.map (·.1))).length:Int) by omega),cond_false,List.take_length]
    rfl) rfl
  rw [hl]; rfl
theorem ref_same {l:List Df} (hl:l.length≤2000) (h:∀ d∈l,d.1.length≤1000000∧d.2.1.length≤3000000000000):ref_DiffsSame (l,l,())=some (true,()):=by
  unfold ref_DiffsSame
  rw [bneF rfl,cond_false]
  have hf:=loopM_for (f:=ref_DiffsSame_l1 (l,l,())) l.length (fun _=>none) (.inr (.inl ())) (fun i hi=>by
    obtain ⟨h1,h2⟩:=h l[i] (List.getElem_mem hi)
    unfold ref_DiffsSame_l1
    simp only [dcT (show (i:Int) < (l.length:Int) by omega),cond_true,getI_nat,List.getElem?_eq_getElem hi,Option.bind_some,wrapS (show i < 9223372036854775807 by omega),ref_TimesSame_eq h1,decide_true,Bool.not_true,cond_false,same_eq _ h2]) (by
    unfold ref_DiffsSame_l1
    simp only [dcF (show ¬ (l.length:Int) < (l.length:Int) by omega),cond_false])
  rw [hf]
  have hn:(List.range l.length).findSome? (fun _=>(none:Option ((Bool × Unit) ⊕ (Unit ⊕ Empty))))=none:=List.findSome?_eq_none_iff.2 fun _ _=>rfl
  rw [hn]; rfl
end

section
open Go Go.Abs

def underL:List Int→List Int→Bool
  | a :: r,b :: s=>decide (a≤b) && underL r s
  | _,_=>true
theorem times_Under_eq {a b:List Int} (hl:a.length=b.length) (ha:a.length≤1000000):times_Under (a,b,())=some (underL a b,()):=by
  have key:∀ k i,i+k=a.length→(loopM (times_Under_l1 (a,b,())) ((i:Int),())).bind (Sum.elim (fun z4=>(some z4)) (Sum.elim (fun z5=>(some (true,()))) Empty.elim))=some (underL (a.drop i) (b.drop i),()):=by
    intro k
    induction k with
    | zero =>
      intro i hi
      rw [loopM_inr (b:=.inr (.inl ())) (by
        unfold times_Under_l1
        simp only [dcF (show ¬ (i:Int) < (a.length:Int) by omega),cond_false])]
      rw [List.drop_of_length_le (by omega),List.drop_of_length_le (by omega)]; rfl
    | succ k ih =>
      intro i hi
      have hia:i < a.length:=by omega
      have hib:i < b.length:=by omega
      have hst:times_Under_l1 (a,b,()) ((i:Int),())=cond (decide (a[i] > b[i])) (some (.inr (.inl (false,())))) (some (.inl (((i+1:Nat):Int),()))):=by
        unfold times_Under_l1
        simp only [dcT (show (i:Int) < (a.length:Int) by omega),cond_true,getI_lt hia,getI_lt hib,Option.bind_some,wrapS (show i < 9223372036854775807 by omega)]
      rw [List.drop_eq_getElem_cons hia,List.drop_eq_getElem_cons hib]
      by_cases he:a[i]≤b[i]
      · rw [dcF (show ¬ a[i] > b[i] by omega),cond_false] at hst
        rw [loopM_inl hst,ih (i+1) (by omega)]
        simp only [underL,decide_eq_true he,Bool.true_and]
      · rw [dcT (show a[i] > b[i] by omega),cond_true] at hst
        rw [loopM_inr hst]
        simp only [underL,decide_eq_false he,Bool.false_and]; rfl
  unfold times_Under
  exact key a.length 0 (by omega)
def leB (a b:List Int):Bool:=decide (a.length=b.length) && (decide (chk a=0) && (decide (chk b=0) && underL a b))
theorem leB_of {a b:List Int} (h:a.length=b.length) (ha:chk a=0) (hb:chk b=0):leB a b=underL a b:=by
  unfold leB
  rw [decide_eq_true h,decide_eq_true ha,decide_eq_true hb]; rfl
theorem ref_TimesLeq_eq (a b:List Int):ref_TimesLeq (a,b,())=some (leB a b,()):=by
  unfold ref_TimesLeq leB
  simp only [ref_TimesCheck_eq,Option.bind_some,cond_bne]
  by_cases h:a.length=b.length
  · rw [if_pos (by omega),decide_eq_true h]
    by_cases h2:chk a=0
    · rw [if_pos h2,decide_eq_true h2]
      by_cases h3:chk b=0
      · rw [if_pos h3,decide_eq_true h3]
        have h4:=(chk_zero h2).2.1
        have key:∀ k i,i+k=a.length→(loopM (ref_TimesLeq_l1 (a,b,())) ((i:Int),())).bind (Sum.elim (fun z6=>(some z6)) (Sum.elim (fun z7=>(some (true,()))) Empty.elim))=some (underL (a.drop i) (b.drop i),()):=by
          intro k
          induction k with
          | zero =>
            intro i hi
            rw [loopM_inr (b:=.inr (.inl ())) (by
              unfold ref_TimesLeq_l1
              simp only [dcF (show ¬ (i:Int) < (a.length:Int) by omega),cond_false])]
            rw [List.drop_of_length_le (by omega),List.drop_of_length_le (by omega)]; rfl
          | succ k ih =>
            intro i hi
            have hia:i < a.length:=by omega
            have hib:i < b.length:=by omega
            have hst:ref_TimesLeq_l1 (a,b,()) ((i:Int),())=cond (decide (a[i] > b[i])) (some (.inr (.inl (false,())))) (some (.inl (((i+1:Nat):Int),()))):=by
              unfold ref_TimesLeq_l1
              simp only [dcT (show (i:Int) < (a.length:Int) by omega),cond_true,getI_lt hia,getI_lt hib,Option.bind_some,wrapS (show i < 9223372036854775807 by omega)]
            rw [List.drop_eq_getElem_cons hia,List.drop_eq_getElem_cons hib]
            by_cases he:a[i]≤b[i]
            · rw [dcF (show ¬ a[i] > b[i] by omega),cond_false] at hst
              rw [loopM_inl hst,ih (i+1) (by omega)]
              simp only [underL,decide_eq_true he,Bool.true_and]
            · rw [dcT (show a[i] > b[i] by omega),cond_true] at hst
              rw [loopM_inr hst]
              simp only [underL,decide_eq_false he,Bool.false_and]; rfl
        exact key a.length 0 (by omega)
      · rw [if_neg h3,decide_eq_false h3]; rfl
    · rw [if_neg h2,decide_eq_false h2]; rfl
  · rw [if_neg (by omega),decide_eq_false h]; rfl
end

section
open Go Go.Abs

def standR (D:List Df) (t:List Int):List Rw:=D.flatMap fun d=>if leB d.1 t=true then d.2.1 else []
def standB (D:List Df) (t:List Int):Bg:=bagOf ((standR D t).map (sc 1)) []
theorem standR_snoc (D:List Df) (d:Df) (t:List Int):standR (D++[d]) t=standR D t++(if leB d.1 t=true then d.2.1 else []):=by
  unfold standR
  rw [List.flatMap_append]
  simp
theorem standR_le:∀ (D:List Df) (t:List Int),(standR D t).length≤numD D
  | [],_=>Nat.le_refl _
  | d :: D,t=>by
    have ih:=standR_le D t
    unfold standR at ih ⊢
    rw [List.flatMap_cons,List.length_append,numD_cons]
    split
    · omega
    · simp only [List.length_nil]; omega
theorem num_take (D:List Df) (i:Nat):numD (D.take i)≤numD D:=by
  have e:numD D=numD (D.take i)+numD (D.drop i):=by
    unfold numD
    rw [←List.sum_append,←List.map_append,List.take_append_drop]
  omega
theorem stand_pour (d:Df) (m:Bg) (hl:d.2.1.length≤3000000000000):loopM (diffs_Stands_l1 d) ((0:Int),m,())=some (.inl (bagOf (d.2.1.map (sc 1)) m,())):=by
  refine loopM_sim d.2.1.length (fun i=>((i:Int),bagOf ((d.2.1.take i).map (sc 1)) m,())) _ (fun i hi=>?_) ?_ rfl
  · unfold diffs_Stands_l1
    simp only [dcT (show (i:Int) < (d.2.1.length:Int) by omega),cond_true,getI_nat,List.getElem?_eq_getElem hi,Option.bind_some,wrapS (show i < 9223372036854775807 by omega)]
    rw [show bagOf ((d.2.1.take (i+1)).map (sc 1)) m=pour (bagOf ((d.2.1.take i).map (sc 1)) m) (kyOf d.2.1[i]) (W (1*d.2.1[i].2.2.1)) from bagOf_take d.2.1 1 m hi]
    exact pour_join (bagOf ((d.2.1.take i).map (sc 1)) m) (kyOf d.2.1[i]) (W (1*d.2.1[i].2.2.1)) fun z=>(some (Sum.inl (((i+1:Nat):Int),z,())):LR)
  · unfold diffs_Stands_l1
    simp only [dcF (show ¬ (d.2.1.length:Int) < (d.2.1.length:Int) by omega),cond_false,List.take_length]
theorem stands_eq {D:List Df} (g:Good D) {t:List Int} (hc:chk t=0) (hs:∀ d∈D,d.1.length=t.length):diffs_Stands (D,t,())=some (standB D t,()):=by
  have g1:=g.len
  have g2:=g.num
  have h4:=good_times g
  have hl:=loopM_sim (f:=diffs_Stands_l2 (D,t,())) (s0:=((0:Int),([]:Bg),())) D.length (fun i=>((i:Int),standB (D.take i) t,())) (.inl (standB D t,())) (fun i hi=>by
    have hd:=List.getElem_mem hi
    have hdl:=len_le_num hd
    have h4i:=h4 D[i].1 (List.mem_map_of_mem hd)
    have hle:leB D[i].1 t=underL D[i].1 t:=leB_of (hs _ hd) (g.chk _ hd) hc
    unfold diffs_Stands_l2
    simp only [dcT (show (i:Int) < (D.length:Int) by omega),cond_true,getI_nat,List.getElem?_eq_getElem hi,Option.bind_some,wrapS (show i < 9223372036854775807 by omega),times_Under_eq (hs _ hd) (show D[i].1.length≤1000000 by omega),←hle]
    unfold standB
    rw [List.take_succ_eq_append_getElem hi,standR_snoc]
    cases hb:leB D[i].1 t with
    | true =>
      rw [cond_true,if_pos rfl,stand_pour _ _ (by omega),List.map_append,bagOf_app]; rfl
    | false =>
      rw [cond_false,if_neg (by simp),List.append_nil]) (by
    unfold diffs_Stands_l2
    simp only [dcF (show ¬ (D.length:Int) < (D.length:Int) by omega),cond_false,List.take_length]) rfl
  unfold diffs_Stands
  rw [hl]; rfl
theorem ref_stands_eq {D:List Df} (g:Fine D) (t:List Int):ref_DiffsStands (D,t,())=some ((standB D t).map toR,()):=by
  have g1:=g.len
  have g2:=g.num
  have hl:=loopM_sim (f:=ref_DiffsStands_l1 (D,t,())) (s0:=(([]:List Rw),(0:Int),())) D.length (fun i=>((standR (D.take i) t).map (sc 1),(i:Int),())) (.inl ((standR D t).map (sc 1),())) (fun i hi=>by
    have hd:=List.getElem_mem hi
    have hdl:=len_le_num hd
    have h1:=standR_le (D.take i) t
    have h2:=num_take D i
    unfold ref_DiffsStands_l1
    simp only [dcT (show (i:Int) < (D.length:Int) by omega),cond_true,getI_nat,List.getElem?_eq_getElem hi,Option.bind_some,wrapS (show i < 9223372036854775807 by omega),ref_TimesLeq_eq]
    rw [List.take_succ_eq_append_getElem hi,standR_snoc]
    cases hb:leB D[i].1 t with
    | true=>rw [cond_true,if_pos rfl,poured_eq _ _ 1 (by rw [List.length_map]; omega) (by omega),List.map_append]; rfl
    | false=>rw [cond_false,if_neg (by simp),List.append_nil]) (by
    unfold ref_DiffsStands_l1
    simp only [dcF (show ¬ (D.length:Int) < (D.length:Int) by omega),cond_false,List.take_length]) rfl
  have h1:=standR_le D t
  unfold ref_DiffsStands
  rw [hl]
  simp only [Option.bind_some,Sum.elim_inl]
  rw [ref_Bag_eq (by rw [List.length_map]; omega),rows_bag (sc1_in _)]; rfl
theorem standB_le {D:List Df} (g:Good D) (t:List Int):(standB D t).length≤128:=by
  have h1:=standR_le D t
  have h2:=g.num
  have h3:=bag_length ((standR D t).map (sc 1)) []
  rw [List.length_nil,List.length_map] at h3
  unfold standB; omega
end

section
open Go Go.Abs

def sumK (l:List Rw) (k:Ky):Int:=(l.map fun r=>if kyOf r=k then r.2.2.1 else 0).sum
theorem sumK_cons (r:Rw) (l:List Rw) (k:Ky):sumK (r :: l) k=(if kyOf r=k then r.2.2.1 else 0)+sumK l k:=by unfold sumK; rw [List.map_cons,List.sum_cons]
theorem sumK_app (l m:List Rw) (k:Ky):sumK (l++m) k=sumK l k+sumK m k:=by unfold sumK; rw [List.map_append,List.sum_append]
theorem tot_lin (k:Ky):∀ (l:List Rw) (T:Ky→Int),InR (T k)→tot l T k=W (T k+sumK l k)
  | [],T,h=>by
    show T k=W (T k+0)
    rw [Int.add_zero]; exact h.symm
  | r :: l,T,h=>by
    rw [sumK_cons]
    show tot l (fun j=>if j=kyOf r then W (T (kyOf r)+r.2.2.1) else T j) k=_
    by_cases e:kyOf r=k
    · subst e
      rw [tot_lin (kyOf r) l _ (by simp only [if_true]; exact inR_W _)]
      simp only [if_true]
      rw [W_add,Int.add_assoc]
    · rw [tot_lin k l _ (by simp only [if_neg (Ne.symm e)]; exact h),if_neg e,Int.zero_add]
      simp only [if_neg (Ne.symm e)]
theorem sumK_sc (n:Int) (k:Ky):∀ (l:List Rw) (a:Int),W (a+sumK (l.map (sc n)) k)=W (a+n*sumK l k)
  | [],a=>by simp [sumK]
  | r :: l,a=>by
    rw [List.map_cons,sumK_cons,sumK_cons]
    have hk:kyOf (sc n r)=kyOf r:=rfl
    have hv:(sc n r).2.2.1=W (n*r.2.2.1):=rfl
    rw [hk,hv]
    by_cases e:kyOf r=k
    · rw [if_pos e,if_pos e,←Int.add_assoc,sumK_sc n k l,show a+W (n*r.2.2.1)+n*sumK l k=(a+n*sumK l k)+W (n*r.2.2.1) by omega,W_add',Int.mul_add]
      congr 1
      omega
    · rw [if_neg e,if_neg e,Int.zero_add,Int.zero_add,sumK_sc n k l]
theorem bag0 (l:List Rw):BagIs (bagOf l []) (tot l fun _=>0):=bagOf_is l (T:=fun _=>0) ⟨List.Pairwise.nil,fun _=>rfl,fun p hp=>by cases hp⟩
theorem same_bag {l m:List Rw} (h:∀ k,W (sumK l k)=W (sumK m k)):bagOf l []=bagOf m []:=by
  have h1:=bag0 l
  have h2:=bag0 m
  have e:(tot l fun _=>0)=tot m fun _=>0:=funext fun k=>by
    have z:InR ((fun _:Ky=>(0:Int)) k):=W_zero
    rw [tot_lin k l _ z,tot_lin k m _ z,Int.zero_add,Int.zero_add,h k]
  rw [e] at h1
  exact bag_ext h1 h2
theorem sumK_rows {m:Bg} (h:Rise KT m) (k:Ky):sumK (m.map toR) k=nOf m k:=by
  have hne:=h.ne kt_flat
  unfold nOf
  cases hg:mapGet KT m k with
  | none =>
    have hn:=(mapGet_none kt_flat).1 hg
    clear hg h hne
    induction m with
    | nil=>rfl
    | cons p r ih =>
      rw [List.map_cons,sumK_cons,show kyOf (toR p)=p.1 from rfl,if_neg (hn p List.mem_cons_self),Int.zero_add]
      exact ih fun q hq=>hn q (List.mem_cons_of_mem _ hq)
  | some v =>
    have hm:=(mapGet_some kt_flat h).1 hg
    clear hg h
    rw [Option.getD_some]
    induction m with
    | nil=>cases hm
    | cons p r ih =>
      rw [List.map_cons,sumK_cons,show kyOf (toR p)=p.1 from rfl]
      obtain ⟨hp,hr⟩:=List.pairwise_cons.1 hne
      rcases List.mem_cons.1 hm with e | hm
      · subst e
        rw [if_pos rfl]
        have:∀ l:Bg,(∀ q∈l,k≠q.1)→sumK (l.map toR) k=0:=by
          intro l
          induction l with
          | nil=>intro _; rfl
          | cons q l ih =>
            intro hq
            rw [List.map_cons,sumK_cons,show kyOf (toR q)=q.1 from rfl,if_neg (fun e=>hq q List.mem_cons_self e.symm),Int.zero_add]
            exact ih fun x hx=>hq x (List.mem_cons_of_mem _ hx)
        rw [this r hp]
        show v+0=v
        omega
      · rw [if_neg (fun e=>hp (k,v) hm e),Int.zero_add]
        exact ih hr hm
theorem sumK_bag (l:List Rw) (k:Ky):sumK ((bagOf l []).map toR) k=W (sumK l k):=by
  rw [sumK_rows (bag_rise l),(bag0 l).num,tot_lin k l (fun _=>0) (show InR 0 from W_zero),Int.zero_add]
end

end Go.Proofs.Tryz
