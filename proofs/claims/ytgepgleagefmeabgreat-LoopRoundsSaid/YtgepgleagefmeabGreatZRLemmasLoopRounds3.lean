/- Lemmas on functions of the program, by name. -/
import Derived.Test.YtgepgleagefmeabGreatZRFuns
import Derived.Test.YtgepgleagefmeabGreatAbsSums
import Derived.Test.YtgepgleagefmeabGreatZRLemmasLoopRounds2
namespace Go.Proofs.Tryz
section
open Go Go.Abs

end

section
open Go Go.Abs

end

section
open Go Go.Abs

theorem ref_told_eq {D:List Df} (g:Fine D):ref_DiffsTold (D,())=some (told (tidyL D)):=by
  have g1:=g.len
  have g2:=g.num
  have t1:=tidy_len D
  have t2:=tidy_num D
  unfold ref_DiffsTold
  rw [ref_tidy_eq g]
  simp only [Option.bind_some]
  have hl:=loopM_sim (f:=ref_DiffsTold_l1 (tidyL D,())) (s0:=((0:Int),(0:Int),())) (tidyL D).length (fun i=>((numD ((tidyL D).take i):Int),(i:Int),())) (.inl ((numD (tidyL D):Int),())) (fun i hi=>by
    have h1:=num_take (tidyL D) i
    have h2:=len_le_num (List.getElem_mem hi)
    have hw:IntKind.i64.wrap ((numD ((tidyL D).take i):Int)+((tidyL D)[i].2.1.length:Int))=((numD ((tidyL D).take i)+(tidyL D)[i].2.1.length:Nat):Int):=by
      rw [wrap64 (by omega) (by omega)]; omega
    unfold ref_DiffsTold_l1
    simp only [dcT (show (i:Int) < ((tidyL D).length:Int) by omega),cond_true,inB_T hi,Int.toNat_natCast,List.getElem?_eq_getElem hi,Option.bind_some,wrapS (show i < 9223372036854775807 by omega),hw,numD_take _ hi]) (by
    unfold ref_DiffsTold_l1
    simp only [dcF (show ¬ ((tidyL D).length:Int) < ((tidyL D).length:Int) by omega),cond_false,List.take_length]) rfl
  rw [hl]
  simp only [Option.bind_some,Sum.elim_inl]
  unfold told
  by_cases c1:(tidyL D).length > 64
  · rw [if_pos c1,dcT (show ((tidyL D).length:Int) > 64 by omega)]; rfl
  · rw [if_neg c1,dcF (show ¬ ((tidyL D).length:Int) > 64 by omega)]
    by_cases c2:numD (tidyL D) > 128
    · rw [if_pos c2,dcT (show (numD (tidyL D):Int) > 128 by omega)]; rfl
    · rw [if_neg c2,dcF (show ¬ (numD (tidyL D):Int) > 128 by omega)]; rfl
end

section
open Go Go.Abs

theorem W_W (n:Int):W (W n)=W n:=inR_W n
theorem W_sc (n:Int) (k:Ky) (l:List Rw):W (sumK (l.map (sc n)) k)=W (n*sumK l k):=by
  have:=sumK_sc n k l 0
  rwa [Int.zero_add,Int.zero_add] at this
theorem W_cg {a b c d:Int} (h1:W a=W c) (h2:W b=W d):W (a+b)=W (c+d):=by
  rw [←W_add',←W_add,h1,h2,W_add,W_add']
theorem W_neg (x:Int):W (-1*W x)=W (-1*x):=by unfold W; rw [IntKind.wrap_i64,IntKind.wrap_i64,IntKind.wrap_i64]; omega
theorem W_ng {a b:Int} (h:W a=W b):W (-1*a)=W (-1*b):=by rw [←W_neg a,h,W_neg]
theorem bag_back (l:List Rw):bagOf (((bagOf l []).map toR).map (sc 1)) []=bagOf l []:=same_bag fun k=>by
  rw [W_sc,Int.one_mul,sumK_bag,W_W]
theorem sumK_out {k:Ky}:∀ {l:List Rw},k ∉ l.map kyOf→sumK l k=0
  | [],_=>rfl
  | r :: l,h=>by
    rw [List.map_cons,List.mem_cons,not_or] at h
    rw [sumK_cons,if_neg (fun e=>h.1 e.symm),sumK_out h.2]; rfl
theorem bag_keys {l:List Rw} {p:Ky × Int} (h:p∈bagOf l []):p.1∈l.map kyOf:=by
  have h1:=(bag_mem (bag0 l) p).1 h
  rw [tot_lin p.1 l (fun _=>0) (show InR 0 from W_zero)] at h1
  rcases Classical.em (p.1∈l.map kyOf) with hm | hm
  · exact hm
  · rw [sumK_out hm] at h1
    exact absurd h1.2.symm h1.1
theorem bag_knd (l:List Rw):((bagOf l []).map fun p=>p.1).Nodup:=by
  unfold List.Nodup
  rw [List.pairwise_map]
  exact (bag_rise l).ne kt_flat
theorem nodup_sub_len {α:Type} [DecidableEq α]:∀ {l m:List α},l.Nodup→(∀ x∈l,x∈m)→l.length≤m.length
  | [],_,_,_=>Nat.zero_le _
  | a :: l,m,h,hs=>by
    have h':=List.nodup_cons.1 h
    have ha:=hs a List.mem_cons_self
    have h1:=nodup_sub_len (l:=l) (m:=m.erase a) h'.2 fun x hx=>(List.mem_erase_of_ne (fun e=>h'.1 (by rw [←e]; exact hx))).2 (hs x (List.mem_cons_of_mem _ hx))
    have h2:=List.length_erase_of_mem ha
    have h3:=List.length_pos_of_mem ha
    rw [List.length_cons]; omega
def undoB (out:List Df) (t:List Int) (R:List Rw):Bg:=bagOf (R.map (sc 1)++((standB out t).map toR).map (sc (-1))) []
theorem undoB_eq (out:List Df) (t:List Int) (R:List Rw):undoB out t R=bagOf ((standR out t).map (sc (-1))) (bagOf (R.map (sc 1)) []):=by
  rw [←bagOf_app]
  refine same_bag fun k=>?_
  rw [sumK_app,sumK_app]
  refine W_cg rfl ?_
  rw [W_sc,W_sc]
  refine W_ng ?_
  unfold standB
  rw [sumK_bag,W_W,W_sc,Int.one_mul]
def undoN (out:List Df) (d:Df):Df:=(d.1,(undoB out d.1 d.2.1).map toR,())
def undoI (S:List Df) (i:Nat):List Df:=(S.take i).foldl (fun out d=>out++[undoN out d]) []
theorem undoI_succ {S:List Df} {i:Nat} (hi:i < S.length):undoI S (i+1)=undoI S i++[undoN (undoI S i) S[i]]:=by
  unfold undoI
  rw [List.take_succ_eq_append_getElem hi,List.foldl_append]; rfl
theorem undoI_times (S:List Df):∀ i,i≤S.length→(undoI S i).map (·.1)=(S.take i).map (·.1)
  | 0,_=>rfl
  | i+1,h=>by
    rw [undoI_succ h,List.take_succ_eq_append_getElem h,List.map_append,List.map_append,undoI_times S i (by omega)]; rfl
theorem undoI_len {S:List Df} {i:Nat} (h:i≤S.length):(undoI S i).length=i:=by
  have:=congrArg List.length (undoI_times S i h)
  rw [List.length_map,List.length_map,List.length_take] at this
  omega
def keysD (S:List Df):List Ky:=S.flatMap fun d=>d.2.1.map kyOf
theorem keysD_len:∀ S:List Df,(keysD S).length=numD S
  | []=>rfl
  | d :: S=>by
    have ih:=keysD_len S
    unfold keysD at ih ⊢
    rw [List.flatMap_cons,List.length_append,ih,numD_cons,List.length_map]
theorem stand_mem {out:List Df} {t:List Int} {r:Rw} (h:r∈standR out t):∃ d∈out,r∈d.2.1:=by
  unfold standR at h
  obtain ⟨d,hd,hr⟩:=List.mem_flatMap.1 h
  split at hr
  · exact ⟨d,hd,hr⟩
  · cases hr
theorem undoB_keys {out:List Df} {t:List Int} {R:List Rw} {p:Ky × Int} (h:p∈undoB out t R):p.1∈R.map kyOf∨∃ d∈out,p.1∈d.2.1.map kyOf:=by
  have h1:=bag_keys h
  rw [List.map_append,List.mem_append,List.map_map,List.map_map] at h1
  rcases h1 with h1 | h1
  · exact .inl h1
  · obtain ⟨q,hq,he⟩:=List.mem_map.1 h1
    have hq':q∈(standB out t).map toR:=hq
    obtain ⟨b,hb,rfl⟩:=List.mem_map.1 hq'
    have h2:=bag_keys hb
    rw [List.map_map] at h2
    obtain ⟨r,hr,hk⟩:=List.mem_map.1 h2
    obtain ⟨d,hd,hm⟩:=stand_mem hr
    have hk:kyOf r=b.1:=hk
    have he:b.1=p.1:=he
    exact .inr ⟨d,hd,List.mem_map.2 ⟨r,hm,hk.trans he⟩⟩
theorem undoI_keys (S:List Df):∀ i,i≤S.length→∀ d∈undoI S i,(∃ l,d.2.1=(bagOf l []).map toR)∧∀ r∈d.2.1,kyOf r∈keysD S
  | 0,_=>fun d hd=>by cases hd
  | i+1,h=>fun d hd=>by
    have ih:=undoI_keys S i (by omega)
    rw [undoI_succ h] at hd
    rcases List.mem_append.1 hd with hd | hd
    · exact ih d hd
    · rw [List.mem_singleton.1 hd]
      refine ⟨⟨_,rfl⟩,fun r hr=>?_⟩
      obtain ⟨p,hp,rfl⟩:=List.mem_map.1 hr
      rcases undoB_keys hp with hk | ⟨e,he,hk⟩
      · exact List.mem_flatMap.2 ⟨S[i],List.getElem_mem h,hk⟩
      · obtain ⟨q,hq,hk⟩:=List.mem_map.1 hk
        have:=(ih e he).2 q hq
        rw [hk] at this
        exact this
theorem undoI_rows {S:List Df} {i:Nat} (h:i≤S.length) {d:Df} (hd:d∈undoI S i):d.2.1.length≤numD S:=by
  obtain ⟨⟨l,hl⟩,hk⟩:=undoI_keys S i h d hd
  have h1:(d.2.1.map kyOf).Nodup:=by
    rw [hl,List.map_map]
    exact bag_knd l
  have h2:=nodup_sub_len h1 (m:=keysD S) fun x hx=>by
    obtain ⟨r,hr,rfl⟩:=List.mem_map.1 hx
    exact hk r hr
  rw [List.length_map,keysD_len] at h2
  exact h2
theorem numD_mul {n:Nat}:∀ {D:List Df},(∀ d∈D,d.2.1.length≤n)→numD D≤D.length*n
  | [],_=>Nat.zero_le _
  | d :: D,h=>by
    have h1:=numD_mul fun e he=>h e (List.mem_cons_of_mem _ he)
    have h2:=h d List.mem_cons_self
    rw [numD_cons,List.length_cons,Nat.add_mul]
    omega
theorem undoI_num {S:List Df} {i:Nat} (h:i≤S.length):numD (undoI S i)≤i*numD S:=by
  have h1:=numD_mul (n:=numD S) fun d hd=>undoI_rows h hd
  rwa [undoI_len h] at h1
structure SOK (S:List Df):Prop where
  len:S.length≤2000
  num:numD S≤300000
  chk:∀ d∈S,chk d.1=0
  same:∃ n,∀ d∈S,d.1.length=n
  up:S.Pairwise fun a b=>cmpL a.1 b.1 < 0
theorem SOK.nd {S:List Df} (s:SOK S):(S.map (·.1)).Nodup:=by
  unfold List.Nodup
  rw [List.pairwise_map]
  exact s.up.imp fun {a b} hab e=>by rw [e] at hab; exact cmpL_irr _ hab
theorem undoI_chk {S:List Df} (s:SOK S) {i:Nat} (h:i≤S.length) {d:Df} (hd:d∈undoI S i):∃ e∈S,d.1=e.1:=by
  have h1:=List.mem_map_of_mem (f:=fun d:Df=>d.1) hd
  rw [undoI_times S i h] at h1
  obtain ⟨e,he,hq⟩:=List.mem_map.1 h1
  exact ⟨e,List.mem_of_mem_take he,hq.symm⟩
theorem undoI_fine {S:List Df} (s:SOK S) {i:Nat} (h:i≤S.length):Fine (undoI S i) where
  len:=by rw [undoI_len h]; exact Nat.le_trans h s.len
  num:=by
    have h1:=undoI_num h
    have h2:i*numD S≤2000*300000:=Nat.mul_le_mul (Nat.le_trans h s.len) s.num
    omega
  chk d hd:=by
    obtain ⟨e,he,hq⟩:=undoI_chk s h hd
    rw [hq]; exact s.chk e he
  same:=by
    obtain ⟨n,hn⟩:=s.same
    refine ⟨n,fun d hd=>?_⟩
    obtain ⟨e,he,hq⟩:=undoI_chk s h hd
    rw [hq]; exact hn e he
def undoH (S:List Df):Nat→Hm
  | 0=>[]
  | i+1=>match S[i]? with
    | some d=>mapSet HT (undoH S i) (keyT d.1) (some (undoB (undoI S i) d.1 d.2.1))
    | none=>undoH S i
theorem undoH_succ {S:List Df} {i:Nat} (hi:i < S.length):undoH S (i+1)=mapSet HT (undoH S i) (keyT S[i].1) (some (undoB (undoI S i) S[i].1 S[i].2.1)):=by
  rw [undoH,List.getElem?_eq_getElem hi]
theorem fresh {S:List Df} (s:SOK S) {i:Nat} (hi:i < S.length):S[i].1 ∉ (undoI S i).map (·.1):=by
  rw [undoI_times S i (by omega)]
  intro hm
  obtain ⟨e,he,hq⟩:=List.mem_map.1 hm
  obtain ⟨j,hj,hje⟩:=List.mem_iff_getElem.1 he
  rw [List.length_take] at hj
  rw [List.getElem_take] at hje
  have:=List.pairwise_iff_getElem.1 s.up j i (by omega) hi (by omega)
  rw [hje,hq] at this
  exact cmpL_irr _ this
theorem undoH_is {S:List Df} (s:SOK S):∀ i,i≤S.length→HIs (undoI S i) (undoH S i)
  | 0,_=>⟨List.Pairwise.nil,fun t _=>rfl,fun p hp=>by cases hp⟩
  | i+1,h=>by
    have ih:=undoH_is s i (by omega)
    have f:=undoI_fine s (i:=i+1) h
    rw [undoI_succ h] at f ⊢
    have h1:=his_snoc ih (d:=undoN (undoI S i) S[i]) fun e he=>fine_times f e.1 (List.mem_map_of_mem he)
    rw [undoH_succ h]
    have e1:bagOf ((undoN (undoI S i) S[i]).2.1.map (sc 1)) (bagAt (undoI S i) (undoN (undoI S i) S[i]).1)=undoB (undoI S i) S[i].1 S[i].2.1:=by
      rw [show (undoN (undoI S i) S[i]).1=S[i].1 from rfl,bagAt_none (fresh s h)]
      exact bag_back _
    rw [e1] at h1
    exact h1
theorem set_len (m:Hm) (k:HKy) (v:Option Bg):(mapSet HT m k v).length≤m.length+1:=by
  induction m with
  | nil=>simp [mapSet]
  | cons p r ih =>
    simp only [mapSet]
    cases HT.eqb k p.1 with
    | true=>simp
    | false =>
      cases HT.lt k p.1 with
      | true=>simp
      | false=>simp only [cond_false,List.length_cons]; omega
theorem undoH_len (S:List Df):∀ i,i≤S.length→(undoH S i).length≤i
  | 0,_=>Nat.le_refl _
  | i+1,h=>by
    have:=undoH_len S i (by omega)
    rw [undoH_succ h]
    have:=set_len (undoH S i) (keyT S[i].1) (some (undoB (undoI S i) S[i].1 S[i].2.1))
    omega
def sortH (D:List Df):List Df:=(sortT (D.map (·.1))).map fun t=>(t,rowsAt D t,())
theorem rowsAt_uniq:∀ {D:List Df},(D.map (·.1)).Nodup→∀ {d:Df},d∈D→rowsAt D d.1=d.2.1
  | [],_,d,hd=>by cases hd
  | e :: D,hn,d,hd=>by
    rw [List.map_cons,List.nodup_cons] at hn
    have hc:rowsAt (e :: D) d.1=(if e.1=d.1 then e.2.1 else [])++rowsAt D d.1:=rfl
    rw [hc]
    rcases List.mem_cons.1 hd with h | h
    · subst h
      rw [if_pos rfl,rowsAt_none hn.1,List.append_nil]
    · rw [if_neg (fun q=>hn.1 (by rw [q]; exact List.mem_map_of_mem h)),rowsAt_uniq hn.2 h]; rfl
theorem sortH_times (D:List Df):(sortH D).map (·.1)=sortT (D.map (·.1)):=by
  unfold sortH
  rw [List.map_map]
  have:((fun d:Df=>d.1)∘fun t=>((t,rowsAt D t,()):Df))=id:=rfl
  rw [this,List.map_id]
theorem sortH_perm {D:List Df} (hn:(D.map (·.1)).Nodup):(sortH D).Perm D:=by
  have h1:(sortH D).Nodup:=by
    have:=sortT_nodup (D.map (·.1))
    rw [←sortH_times] at this
    unfold List.Nodup at this
    rw [List.pairwise_map] at this
    exact this.imp fun {a b} hab e=>hab (by rw [e])
  have h2:D.Nodup:=by
    unfold List.Nodup at hn
    rw [List.pairwise_map] at hn
    exact hn.imp fun {a b} hab e=>hab (by rw [e])
  refine (List.perm_ext_iff_of_nodup h1 h2).2 fun d=>?_
  unfold sortH
  rw [List.mem_map]
  constructor
  · rintro ⟨t,ht,rfl⟩
    obtain ⟨e,he,rfl⟩:=List.mem_map.1 ((sort_facts _).2.1 t |>.1 ht)
    rw [rowsAt_uniq hn he]; exact he
  · intro hd
    exact ⟨d.1,((sort_facts _).2.1 _).2 (List.mem_map_of_mem hd),by rw [rowsAt_uniq hn hd]⟩
theorem sortH_ok {D:List Df} (hn:(D.map (·.1)).Nodup) (h1:D.length≤2000) (h2:numD D≤300000) (h3:∀ d∈D,chk d.1=0) (h4:∃ n,∀ d∈D,d.1.length=n):SOK (sortH D):=by
  have hp:=sortH_perm hn
  refine ⟨by rw [hp.length_eq]; exact h1,by rw [numD_perm hp]; exact h2,fun d hd=>h3 d (hp.mem_iff.1 hd),?_,?_⟩
  · obtain ⟨n,hn⟩:=h4
    exact ⟨n,fun d hd=>hn d (hp.mem_iff.1 hd)⟩
  · have:=(sort_facts (D.map (·.1))).2.2
    rw [←sortH_times,List.pairwise_map] at this
    exact this
theorem sort_times {F:Df→Df→Option Int} (hF:∀ a b:Df,a.1.length≤1000000→F a b=some (cmpL a.1 b.1)) {S z:List Df} (s:SOK S) (hz:z.Perm S):sortP F z=some S:=by
  have hlen:∀ x∈z,x.1.length≤1000000:=fun x hx=>by
    have:=(chk_zero (s.chk x (hz.mem_iff.1 hx))).2.1
    omega
  have hlt:∀ x∈z,∀ y:Df,ltF F x y↔cmpL x.1 y.1 < 0:=fun x hx y=>by
    unfold ltF
    rw [hF x y (hlen x hx)]
    exact ⟨fun ⟨v,h1,h2⟩=>by cases h1; exact h2,fun h=>⟨_,rfl,h⟩⟩
  have huniq:∀ x∈z,∀ y∈z,x.1=y.1→x=y:=by
    intro x hx y hy e
    have h1:=rowsAt_uniq s.nd (hz.mem_iff.1 hx)
    have h2:=rowsAt_uniq s.nd (hz.mem_iff.1 hy)
    rw [e,h2] at h1
    exact Prod.ext e (Prod.ext h1.symm rfl)
  refine sortP_eq ⟨fun x hx y _=>⟨_,hF x y (hlen x hx)⟩,fun x hx=>?_,fun x hx y hy w _=>?_,fun x hx y hy h1 h2=>?_⟩ hz.symm ?_
  · rw [hlt x hx]; exact cmpL_irr _
  · rw [hlt x hx,hlt x hx,hlt y hy]; exact cmpL_trans
  · rw [hlt x hx] at h1
    rw [hlt y hy] at h2
    refine huniq x hx y hy (cmpL_eq.1 ?_)
    rw [cmpL_neg] at h2
    omega
  · unfold Srt
    refine List.Pairwise.imp_of_mem (fun {a b} ha hb hab=>?_) s.up
    rw [hlt b (hz.mem_iff.2 hb)]
    intro hba
    exact cmpL_irr _ (cmpL_trans hab hba)
end

section
open Go Go.Abs

abbrev MvS:=Int × Bg × Unit
abbrev MvR:=Option (MvS ⊕ ((Bg × Unit) ⊕ Empty))
def mv2 (v11:Df):MvS→MvR:=fun y17 =>
  (cond (decide (y17.1 < (v11.2.1.length:Int))) ((getI v11.2.1 y17.1).bind fun v18=>(cond (((mapGet KT (mapSet KT (mapEnt KT y17.2.1 (v18.1,v18.2.1,()) (0:Int)) (v18.1,v18.2.1,()) (IntKind.i64.wrap (((mapGet KT y17.2.1 (v18.1,v18.2.1,())).getD (0:Int))+(IntKind.i64.wrap ((1:Int)*v18.2.2.1))))) (v18.1,v18.2.1,())).getD (0:Int)) == (0:Int)) (some (Sum.inl ((IntKind.i64.wrap (y17.1+(1:Int))),(mapDel KT (mapSet KT (mapEnt KT y17.2.1 (v18.1,v18.2.1,()) (0:Int)) (v18.1,v18.2.1,()) (IntKind.i64.wrap (((mapGet KT y17.2.1 (v18.1,v18.2.1,())).getD (0:Int))+(IntKind.i64.wrap ((1:Int)*v18.2.2.1))))) (v18.1,v18.2.1,())),()))) (some (Sum.inl ((IntKind.i64.wrap (y17.1+(1:Int))),(mapSet KT (mapEnt KT y17.2.1 (v18.1,v18.2.1,()) (0:Int)) (v18.1,v18.2.1,()) (IntKind.i64.wrap (((mapGet KT y17.2.1 (v18.1,v18.2.1,())).getD (0:Int))+(IntKind.i64.wrap ((1:Int)*v18.2.2.1))))),()))))) (some (Sum.inr (Sum.inl (y17.2.1,())))))
def mv3 (R:List Rw):MvS→MvR:=fun y31 =>
  (cond (decide (y31.1 < (R.length:Int))) (cond (inB y31.1 R.length) ((R[y31.1.toNat]?).bind fun v32=>(cond (((mapGet KT (mapSet KT (mapEnt KT y31.2.1 (v32.1,v32.2.1,()) (0:Int)) (v32.1,v32.2.1,()) (IntKind.i64.wrap (((mapGet KT y31.2.1 (v32.1,v32.2.1,())).getD (0:Int))+(IntKind.i64.wrap ((-1:Int)*v32.2.2.1))))) (v32.1,v32.2.1,())).getD (0:Int)) == (0:Int)) (some (Sum.inl ((IntKind.i64.wrap (y31.1+(1:Int))),(mapDel KT (mapSet KT (mapEnt KT y31.2.1 (v32.1,v32.2.1,()) (0:Int)) (v32.1,v32.2.1,()) (IntKind.i64.wrap (((mapGet KT y31.2.1 (v32.1,v32.2.1,())).getD (0:Int))+(IntKind.i64.wrap ((-1:Int)*v32.2.2.1))))) (v32.1,v32.2.1,())),()))) (some (Sum.inl ((IntKind.i64.wrap (y31.1+(1:Int))),(mapSet KT (mapEnt KT y31.2.1 (v32.1,v32.2.1,()) (0:Int)) (v32.1,v32.2.1,()) (IntKind.i64.wrap (((mapGet KT y31.2.1 (v32.1,v32.2.1,())).getD (0:Int))+(IntKind.i64.wrap ((-1:Int)*v32.2.2.1))))),()))))) none) (some (Sum.inr (Sum.inl (y31.2.1,())))))
abbrev MhS:=Int × Hm × Unit
abbrev MhR:=Option (MhS ⊕ ((Hm × Unit) ⊕ Empty))
noncomputable def mv5 (i:Int) (v9:List Df) (v11:Df):MhS→MhR:=fun y20 =>
  (cond (decide (y20.1 < (((i.toNat - (0:Int).toNat):Nat):Int))) (cond (inB y20.1 (i.toNat - (0:Int).toNat)) ((v9[((0:Int).toNat+y20.1.toNat)]?).bind fun v21=>((times_Under (v21.1,v11.1,())).bind fun r22=>(cond r22.1 ((diffs_KeyOf (v21.1,())).bind fun r23=>(optK ((mapGet HT y20.2.1 r23.1).getD (none:(Option Bg))) none (fun v24=>((bags_Bag_Rows (v24,())).bind fun r25=>((diffs_KeyOf (v11.1,())).bind fun r26=>(optK ((mapGet HT (mapPut HT y20.2.1 r23.1 (some v24)) r26.1).getD (none:(Option Bg))) (optK ((mapGet HT (mapSet HT (mapPut HT y20.2.1 r23.1 (some v24)) r26.1 (some ([]:List ((Int × (Int × Unit)) × Int)))) r26.1).getD (none:(Option Bg))) none (fun v28=>((loopM (mv3 r25.1) ((0:Int),v28,())).bind (Sum.elim (fun z33=>(some (Sum.inl ((IntKind.i64.wrap (y20.1+(1:Int))),(mapPut HT (mapSet HT (mapPut HT y20.2.1 r23.1 (some v24)) r26.1 (some ([]:List ((Int × (Int × Unit)) × Int)))) r26.1 (some z33.1)),())))) Empty.elim)))) (fun v27=>(optK ((mapGet HT (mapPut HT (mapPut HT y20.2.1 r23.1 (some v24)) r26.1 (some v27)) r26.1).getD (none:(Option Bg))) none (fun v34=>((loopM (mv3 r25.1) ((0:Int),v34,())).bind (Sum.elim (fun z39=>(some (Sum.inl ((IntKind.i64.wrap (y20.1+(1:Int))),(mapPut HT (mapPut HT (mapPut HT y20.2.1 r23.1 (some v24)) r26.1 (some v27)) r26.1 (some z39.1)),())))) Empty.elim))))))))))) (some (Sum.inl ((IntKind.i64.wrap (y20.1+(1:Int))),y20.2.1,())))))) none) (some (Sum.inr (Sum.inl (y20.2.1,())))))
noncomputable def mv10 (v9:List Df):MhS→MhR:=fun y10 =>
  (cond (decide (y10.1 < (v9.length:Int))) (cond (inB y10.1 v9.length) ((v9[y10.1.toNat]?).bind fun v11=>((diffs_KeyOf (v11.1,())).bind fun r12=>(optK ((mapGet HT y10.2.1 r12.1).getD (none:(Option Bg))) (optK ((mapGet HT (mapSet HT y10.2.1 r12.1 (some ([]:List ((Int × (Int × Unit)) × Int)))) r12.1).getD (none:(Option Bg))) none (fun v14=>((loopM (mv2 v11) ((0:Int),v14,())).bind (Sum.elim (fun z19=>(cond (decide (0≤(0:Int)) && decide ((0:Int)≤y10.1) && decide (y10.1≤v9.length)) ((loopM (mv5 y10.1 v9 v11) ((0:Int),(mapPut HT (mapSet HT y10.2.1 r12.1 (some ([]:List ((Int × (Int × Unit)) × Int)))) r12.1 (some z19.1)),())).bind (Sum.elim (fun z40=>(some (Sum.inl ((IntKind.i64.wrap (y10.1+(1:Int))),z40.1,())))) Empty.elim)) none)) Empty.elim)))) (fun v13=>(optK ((mapGet HT (mapPut HT y10.2.1 r12.1 (some v13)) r12.1).getD (none:(Option Bg))) none (fun v41=>((loopM (mv2 v11) ((0:Int),v41,())).bind (Sum.elim (fun z46=>(cond (decide (0≤(0:Int)) && decide ((0:Int)≤y10.1) && decide (y10.1≤v9.length)) ((loopM (mv5 y10.1 v9 v11) ((0:Int),(mapPut HT (mapPut HT y10.2.1 r12.1 (some v13)) r12.1 (some z46.1)),())).bind (Sum.elim (fun z67=>(some (Sum.inl ((IntKind.i64.wrap (y10.1+(1:Int))),z67.1,())))) Empty.elim)) none)) Empty.elim)))))))) none) (some (Sum.inr (Sum.inl (y10.2.1,())))))
theorem mv2_eq (d:Df) (m:Bg) (hl:d.2.1.length≤3000000000000):loopM (mv2 d) ((0:Int),m,())=some (.inl (bagOf (d.2.1.map (sc 1)) m,())):=by
  refine loopM_sim d.2.1.length (fun i=>((i:Int),bagOf ((d.2.1.take i).map (sc 1)) m,())) _ (fun i hi=>?_) ?_ rfl
  · unfold mv2
    simp only [dcT (show (i:Int) < (d.2.1.length:Int) by omega),cond_true,getI_nat,List.getElem?_eq_getElem hi,Option.bind_some,wrapS (show i < 9223372036854775807 by omega)]
    rw [show bagOf ((d.2.1.take (i+1)).map (sc 1)) m=pour (bagOf ((d.2.1.take i).map (sc 1)) m) (kyOf d.2.1[i]) (W (1*d.2.1[i].2.2.1)) from bagOf_take d.2.1 1 m hi]
    unfold pour nOf W kyOf
    cases hq:(((mapGet KT (mapSet KT (mapEnt KT (bagOf ((d.2.1.take i).map (sc 1)) m) (d.2.1[i].1,d.2.1[i].2.1,()) 0) (d.2.1[i].1,d.2.1[i].2.1,()) (IntKind.i64.wrap (((mapGet KT (bagOf ((d.2.1.take i).map (sc 1)) m) (d.2.1[i].1,d.2.1[i].2.1,())).getD 0)+IntKind.i64.wrap (1*d.2.1[i].2.2.1)))) (d.2.1[i].1,d.2.1[i].2.1,())).getD 0) == 0) with
    | true=>simp only [cond_true]
    | false=>simp only [cond_false]
  · unfold mv2
    simp only [dcF (show ¬ (d.2.1.length:Int) < (d.2.1.length:Int) by omega),cond_false,List.take_length]
theorem mv3_eq (R:List Rw) (m:Bg) (hl:R.length≤3000000000000):loopM (mv3 R) ((0:Int),m,())=some (.inl (bagOf (R.map (sc (-1))) m,())):=by
  refine loopM_sim R.length (fun i=>((i:Int),bagOf ((R.take i).map (sc (-1))) m,())) _ (fun i hi=>?_) ?_ rfl
  · unfold mv3
    simp only [dcT (show (i:Int) < (R.length:Int) by omega),cond_true,inB_T hi,Int.toNat_natCast,List.getElem?_eq_getElem hi,Option.bind_some,wrapS (show i < 9223372036854775807 by omega)]
    rw [show bagOf ((R.take (i+1)).map (sc (-1))) m=pour (bagOf ((R.take i).map (sc (-1))) m) (kyOf R[i]) (W (-1*R[i].2.2.1)) from bagOf_take R (-1) m hi]
    unfold pour nOf W kyOf
    cases hq:(((mapGet KT (mapSet KT (mapEnt KT (bagOf ((R.take i).map (sc (-1))) m) (R[i].1,R[i].2.1,()) 0) (R[i].1,R[i].2.1,()) (IntKind.i64.wrap (((mapGet KT (bagOf ((R.take i).map (sc (-1))) m) (R[i].1,R[i].2.1,())).getD 0)+IntKind.i64.wrap (-1*R[i].2.2.1)))) (R[i].1,R[i].2.1,())).getD 0) == 0) with
    | true=>simp only [cond_true]
    | false=>simp only [cond_false]
  · unfold mv3
    simp only [dcF (show ¬ (R.length:Int) < (R.length:Int) by omega),cond_false,List.take_length]
theorem undo_at {S:List Df} (s:SOK S) {i:Nat} (h:i≤S.length) {j:Nat} (hj:j < i):∃ hj':j < (undoI S i).length,(undoI S i)[j].1=(S[j]'(by omega)).1:=by
  have hl:=undoI_len h
  refine ⟨by omega,?_⟩
  have h1:=undoI_times S i h
  have h2:((undoI S i).map (·.1))[j]? = ((S.take i).map (·.1))[j]?:=by rw [h1]
  rw [List.getElem?_map,List.getElem?_map,List.getElem?_take,if_pos hj,List.getElem?_eq_getElem (by omega),List.getElem?_eq_getElem (by omega)] at h2
  exact Option.some.inj h2
theorem mv5_eq {S:List Df} (s:SOK S) {i:Nat} (hi:i < S.length) (B:Bg) :
    loopM (mv5 (i:Int) S S[i]) ((0:Int),mapSet HT (undoH S i) (keyT S[i].1) (some B),())=some (.inl (mapSet HT (undoH S i) (keyT S[i].1) (some (bagOf ((standR (undoI S i) S[i].1).map (sc (-1))) B)),())):=by
  have his:=undoH_is s i (by omega)
  have hlen:=undoI_len (S:=S) (i:=i) (by omega)
  have hS:=s.len
  have hN:=s.num
  obtain ⟨n,hn⟩:=s.same
  have hfr:=fresh s hi
  have h4i:S[i].1.length≤4:=(chk_zero (s.chk _ (List.getElem_mem hi))).2.1
  refine loopM_sim i (fun j=>((j:Int),mapSet HT (undoH S i) (keyT S[i].1) (some (bagOf ((standR ((undoI S i).take j) S[i].1).map (sc (-1))) B)),())) _ (fun j hj=>?_) ?_ rfl
  · obtain ⟨hj',ht⟩:=undo_at s (show i≤S.length by omega) hj
    have hjS:j < S.length:=by omega
    have h4j:S[j].1.length≤4:=(chk_zero (s.chk _ (List.getElem_mem hjS))).2.1
    have hlj:S[j].1.length=S[i].1.length:=by rw [hn _ (List.getElem_mem hjS),hn _ (List.getElem_mem hi)]
    have hle:leB S[j].1 S[i].1=underL S[j].1 S[i].1:=leB_of hlj (s.chk _ (List.getElem_mem hjS)) (s.chk _ (List.getElem_mem hi))
    have hne:S[j].1≠S[i].1:=fun e=>hfr (by rw [←e,←ht]; exact List.mem_map_of_mem (List.getElem_mem hj'))
    have hke:keyT S[j].1≠keyT S[i].1:=fun e=>hne (keyT_inj h4j h4i e)
    have hdec:decide ((j:Int) < (((i:Int).toNat - (0:Int).toNat:Nat):Int))=true:=decide_eq_true (by rw [Int.toNat_natCast]; show (j:Int) < ((i - 0:Nat):Int); omega)
    have hin:inB (j:Int) ((i:Int).toNat - (0:Int).toNat)=true:=inB_T (by rw [Int.toNat_natCast]; show j < i - 0; omega)
    have hgt:S[((0:Int).toNat+(j:Int).toNat)]? = some S[j]:=by rw [Int.toNat_natCast,show (0:Int).toNat+j=j from Nat.zero_add j,List.getElem?_eq_getElem hjS]
    unfold mv5
    simp only [hdec,cond_true,hin,hgt,Option.bind_some,times_Under_eq hlj (show S[j].1.length≤1000000 by omega),←hle,keyOf_eq,wrapS (show j < 9223372036854775807 by omega)]
    have htk:(undoI S i).take (j+1)=(undoI S i).take j++[(undoI S i)[j]]:=List.take_succ_eq_append_getElem hj'
    rw [htk,standR_snoc,ht]
    generalize hQ:bagOf ((standR ((undoI S i).take j) S[i].1).map (sc (-1))) B=Q
    cases hb:leB S[j].1 S[i].1 with
    | false =>
      rw [cond_false,if_neg (by simp),List.append_nil,hQ]
    | true =>
      have hg:mapGet HT (mapSet HT (undoH S i) (keyT S[i].1) (some Q)) (keyT S[j].1)=some (some (bagAt (undoI S i) S[j].1)):=by
        rw [mapGet_other ht_flat _ _ _ _ hke,his.get _ h4j,if_pos (by rw [←ht]; exact List.mem_map_of_mem (List.getElem_mem hj'))]
      have hgs:mapGet HT (mapSet HT (undoH S i) (keyT S[i].1) (some Q)) (keyT S[i].1)=some (some Q):=mapGet_self ht_flat _ _ _
      have hr0:=his.rise
      have hr:Rise HT (mapSet HT (undoH S i) (keyT S[i].1) (some Q)):=mapSet_rise ht_flat hr0
      have hnd:((undoI S i).map (·.1)).Nodup:=by
        rw [undoI_times S i (by omega)]
        exact (s.nd).sublist ((List.take_sublist i S).map _)
      obtain ⟨⟨l,hl⟩,-⟩:=undoI_keys S i (by omega) _ (List.getElem_mem hj')
      have hba:bagAt (undoI S i) S[j].1=bagOf l []:=by
        unfold bagAt
        rw [←ht,rowsAt_uniq hnd (List.getElem_mem hj'),hl,bag_back]
      have hbl:(bagOf l []).length≤300000:=by
        have:=undoI_rows (show i≤S.length by omega) (List.getElem_mem hj')
        rw [hl,List.length_map] at this
        omega
      rw [cond_true,if_pos rfl,List.map_append,bagOf_app,hQ]
      rw [show mapGet HT (mapSet HT (undoH S i) (keyT S[i].1) (some Q)) (keyT S[j].1)=_ from hg]
      simp only [Option.getD_some,optK]
      rw [show mapPut HT (mapSet HT (undoH S i) (keyT S[i].1) (some Q)) (keyT S[j].1) (some (bagAt (undoI S i) S[j].1))=_ from mapPut_same ht_flat hr hg]
      rw [hba,show bags_Bag_Rows (bagOf l [],())=_ from rows_eq (bag_rise l) (by omega)]
      simp only [Option.bind_some]
      rw [show mapGet HT (mapSet HT (undoH S i) (keyT S[i].1) (some Q)) (keyT S[i].1)=_ from hgs]
      simp only [Option.getD_some]
      rw [show mapPut HT (mapSet HT (undoH S i) (keyT S[i].1) (some Q)) (keyT S[i].1) (some Q)=_ from mapPut_same ht_flat hr hgs,show mapGet HT (mapSet HT (undoH S i) (keyT S[i].1) (some Q)) (keyT S[i].1)=_ from hgs]
      simp only [Option.getD_some]
      rw [mv3_eq _ _ (by rw [List.length_map]; omega)]
      simp only [Option.bind_some,Sum.elim_inl]
      rw [show mapPut HT (mapSet HT (undoH S i) (keyT S[i].1) (some Q)) (keyT S[i].1) (some (bagOf (((bagOf l []).map toR).map (sc (-1))) Q))=_ from put_set ht_flat hr0 _ _ _,hl]
  · unfold mv5
    have hdec:decide ((i:Int) < (((i:Int).toNat - (0:Int).toNat:Nat):Int))=false:=decide_eq_false (by rw [Int.toNat_natCast]; show ¬ (i:Int) < ((i - 0:Nat):Int); omega)
    simp only [hdec,cond_false]
    rw [List.take_of_length_le (by omega)]
theorem mv10_eq {S:List Df} (s:SOK S):loopM (mv10 S) ((0:Int),([]:Hm),())=some (.inl (undoH S S.length,())):=by
  have hS:=s.len
  have hN:=s.num
  refine loopM_sim S.length (fun i=>((i:Int),undoH S i,())) _ (fun i hi=>?_) ?_ rfl
  · have his:=undoH_is s i (by omega)
    have h4i:S[i].1.length≤4:=(chk_zero (s.chk _ (List.getElem_mem hi))).2.1
    have hg:=his.get S[i].1 h4i
    rw [if_neg (fresh s hi)] at hg
    have hrl:=len_le_num (List.getElem_mem hi)
    unfold mv10
    simp only [dcT (show (i:Int) < (S.length:Int) by omega),cond_true,inB_T hi,Int.toNat_natCast,List.getElem?_eq_getElem hi,Option.bind_some,keyOf_eq,wrapS (show i < 9223372036854775807 by omega)]
    rw [show mapGet HT (undoH S i) (keyT S[i].1)=_ from hg]
    simp only [Option.getD_none,optK]
    rw [show mapGet HT (mapSet HT (undoH S i) (keyT S[i].1) (some ([]:Bg))) (keyT S[i].1)=_ from mapGet_self ht_flat _ _ _]
    simp only [Option.getD_some]
    rw [mv2_eq _ _ (by omega)]
    simp only [Option.bind_some,Sum.elim_inl]
    rw [show mapPut HT (mapSet HT (undoH S i) (keyT S[i].1) (some ([]:Bg))) (keyT S[i].1) (some (bagOf (S[i].2.1.map (sc 1)) []))=_ from put_set ht_flat his.rise _ _ _]
    rw [show decide ((0:Int)≤(0:Int))=true from rfl,dcT (show (0:Int)≤(i:Int) by omega),dcT (show (i:Int)≤(S.length:Int) by omega)]
    simp only [Bool.and_self,cond_true]
    rw [mv5_eq s hi]
    simp only [Option.bind_some,Sum.elim_inl]
    rw [←undoB_eq,undoH_succ hi]
  · unfold mv10
    simp only [dcF (show ¬ (S.length:Int) < (S.length:Int) by omega),cond_false]
theorem undo_told {S:List Df} (s:SOK S):(allSome (undoH S S.length)).bind (fun v=>(diffs_History_Tells (v,())).bind fun r=>some r)=some (told (tidyL (undoI S S.length))):=by
  have hf:=undoI_fine s (Nat.le_refl S.length)
  have h4:=fine_times hf
  have hi:=undoH_is s S.length (Nat.le_refl _)
  rw [his_allB h4 hi]
  simp only [Option.bind_some]
  have hlen:(allB (undoH S S.length)).length≤2000:=by
    have:=undoH_len S S.length (Nat.le_refl _)
    have:=s.len
    unfold allB
    rw [List.length_map]; omega
  rw [tells_eq hf.len h4 (fun t=>by have:=bag_rows (undoI S S.length) t; have:=rows_le (undoI S S.length) t; have:=hf.num; omega) (his_mis h4 hi) hlen]; rfl
theorem ref_undo_eq {D:List Df} (hn:(D.map (·.1)).Nodup) (h1:D.length≤2000) (h2:numD D≤300000) (h3:∀ d∈D,chk d.1=0) (h4:∃ n,∀ d∈D,d.1.length=n):ref_DiffsUndo (D,())=some (undoI (sortH D) (sortH D).length,()):=by
  have s:=sortH_ok hn h1 h2 h3 h4
  have h4':=h4
  obtain ⟨n,hnl⟩:=h4
  have ht4:∀ t∈D.map (·.1),t.length≤4:=fun t ht=>by
    obtain ⟨d,hd,rfl⟩:=List.mem_map.1 ht
    exact (chk_zero (h3 d hd)).2.1
  unfold ref_DiffsUndo
  rw [ref_times_map (by omega)]
  simp only [Option.bind_some]
  rw [ref_TimesSorted_eq (by rw [List.length_map]; omega) n (fun t ht=>by
    obtain ⟨d,hd,rfl⟩:=List.mem_map.1 ht
    exact ⟨h3 d hd,hnl d hd⟩)]
  simp only [Option.bind_some]
  have hst:=sortH_times D
  have hsl:(sortT (D.map (·.1))).length=(sortH D).length:=by rw [←hst,List.length_map]
  have hSl:=s.len
  have hl:=loopM_sim (f:=ref_DiffsUndo_l2 (D,()) (sortT (D.map (·.1)),())) (s0:=(([]:List Df),(0:Int),())) (sortH D).length (fun i=>(undoI (sortH D) i,(i:Int),())) (.inl (undoI (sortH D) (sortH D).length,())) (fun i hi=>by
    have hiT:i < (sortT (D.map (·.1))).length:=by omega
    have hge:(sortH D)[i]=((sortT (D.map (·.1)))[i],rowsAt D (sortT (D.map (·.1)))[i],()):=by
      have hq:(sortH D)[i]? = some ((sortT (D.map (·.1)))[i],rowsAt D (sortT (D.map (·.1)))[i],()):=by
        unfold sortH
        rw [List.getElem?_map,List.getElem?_eq_getElem hiT]; rfl
      rw [List.getElem?_eq_getElem hi] at hq
      exact Option.some.inj hq
    rw [undoI_succ hi,hge]
    generalize sortT (D.map (·.1))=T at hiT
    have hrl:=rows_le D T[i]
    have hf:=undoI_fine s (i:=i) (by omega)
    have hnum:=hf.num
    have hlen:=undoI_len (S:=sortH D) (i:=i) (by omega)
    have hsb:((standB (undoI (sortH D) i) T[i]).map toR).length≤1000000000000:=by
      rw [List.length_map]
      have:=bag_length ((standR (undoI (sortH D) i) T[i]).map (sc 1)) []
      rw [List.length_nil,List.length_map] at this
      have:=standR_le (undoI (sortH D) i) T[i]
      unfold standB; omega
    unfold ref_DiffsUndo_l2
    simp only [dcT (show (i:Int) < (T.length:Int) by omega),cond_true,getI_nat,List.getElem?_eq_getElem hiT,Option.bind_some,wrapS (show i < 9223372036854775807 by omega)]
    rw [show loopM (ref_DiffsUndo_l1 (D,()) T[i]) (([]:List Rw),(0:Int),())=_ from ref_tidy_l1 h1 (by omega) ht4 T[i]]
    simp only [Option.bind_some,Sum.elim_inl]
    rw [ref_stands_eq hf]
    simp only [Option.bind_some]
    rw [poured_eq _ _ (-1) (by rw [List.length_map]; omega) (by omega)]
    simp only [Option.bind_some]
    rw [ref_Bag_eq (by rw [List.length_append,List.length_map,List.length_map]; omega),rows_bag (fun r hr=>by
      rcases List.mem_append.1 hr with hr | hr
      · exact sc1_in _ r hr
      · obtain ⟨q,-,rfl⟩:=List.mem_map.1 hr
        exact inR_W _)]
    simp only [Option.bind_some,hlen]
    have hone:∀ x:Df,([x]:List Df).length=1:=fun _=>rfl
    rw [hone,room_ok (show i+1≤140737488355328 by omega) (show (i+1)*48≤140737488355328 by omega)]
    rfl) (by
    unfold ref_DiffsUndo_l2
    simp only [dcF (show ¬ ((sortH D).length:Int) < ((sortT (D.map (·.1))).length:Int) by omega),cond_false]) rfl
  rw [hl]; rfl
end

section
open Go Go.Abs

noncomputable def cmpS (a b:List Int):Option Int:=(slices_Compare_s_int_int (a,b,())).map fun r=>r.1
theorem cmpS_eq {a b:List Int} (ha:a.length≤1000000):cmpS a b=some (cmpL a b):=by
  unfold cmpS; rw [slices_Compare_eq ha]; rfl
theorem ltS_iff {a b:List Int} (ha:a.length≤1000000):ltF cmpS a b↔cmpL a b < 0:=by
  unfold ltF
  rw [cmpS_eq ha]
  constructor
  · rintro ⟨v,h1,h2⟩; cases h1; exact h2
  · exact fun h=>⟨_,rfl,h⟩
def insD (t:List Int):List (List Int)→List (List Int)
  | []=>[t]
  | u :: l=>if cmpL u t < 0 then u :: insD t l else t :: u :: l
def sortD:List (List Int)→List (List Int)
  | []=>[]
  | t :: l=>insD t (sortD l)
theorem insD_perm (t:List Int):∀ l,(insD t l).Perm (t :: l)
  | []=>List.Perm.refl _
  | u :: l=>by
    simp only [insD]
    split
    · exact ((insD_perm t l).cons u).trans (List.Perm.swap t u l)
    · exact List.Perm.refl _
theorem sortD_perm:∀ l,(sortD l).Perm l
  | []=>List.Perm.refl _
  | t :: l=>(insD_perm t (sortD l)).trans ((sortD_perm l).cons t)
theorem insD_srt {t:List Int}:∀ {l:List (List Int)},l.Pairwise (fun a b=>¬ cmpL b a < 0)→(insD t l).Pairwise fun a b=>¬ cmpL b a < 0
  | [],_=>by simp [insD]
  | u :: l,h=>by
    have h1:=List.pairwise_cons.1 h
    simp only [insD]
    split
    · rename_i hu
      refine List.pairwise_cons.2 ⟨fun v hv=>?_,insD_srt h1.2⟩
      rcases List.mem_cons.1 ((insD_perm t l).mem_iff.1 hv) with rfl | hv
      · intro h; rw [cmpL_neg] at h; omega
      · exact h1.1 v hv
    · rename_i hu
      refine List.pairwise_cons.2 ⟨fun v hv=>?_,h⟩
      rcases List.mem_cons.1 hv with rfl | hv
      · exact hu
      · intro hvt
        rw [cmpL_neg] at hu
        have h2:=h1.1 v hv
        rw [cmpL_neg] at h2
        by_cases e:cmpL t u=0
        · rw [cmpL_eq.1 e] at hvt; rw [cmpL_neg] at hvt; omega
        · exact absurd (cmpL_trans hvt (show cmpL t u < 0 by omega)) (by rw [cmpL_neg]; omega)
theorem sortD_srt:∀ l:List (List Int),(sortD l).Pairwise fun a b=>¬ cmpL b a < 0
  | []=>List.Pairwise.nil
  | t :: l=>insD_srt (sortD_srt l)
theorem sort_is {l:List (List Int)} (h:∀ t∈l,t.length≤1000000):sortP cmpS l=some (sortD l):=by
  refine sortP_eq ⟨fun x hx y _=>⟨_,cmpS_eq (h x hx)⟩,fun x hx hlt=>cmpL_irr x ((ltS_iff (h x hx)).1 hlt),fun x hx y hy z _ h1 h2=>(ltS_iff (h x hx)).2 (cmpL_trans ((ltS_iff (h x hx)).1 h1) ((ltS_iff (h y hy)).1 h2)),fun x hx y hy h1 h2=>?_⟩ (sortD_perm l) ?_
  · have a1:¬ cmpL x y < 0:=fun e=>h1 ((ltS_iff (h x hx)).2 e)
    have a2:¬ cmpL y x < 0:=fun e=>h2 ((ltS_iff (h y hy)).2 e)
    rw [cmpL_neg] at a2
    exact cmpL_eq.1 (by omega)
  · unfold Srt
    have hm:∀ t∈sortD l,t.length≤1000000:=fun t ht=>h t ((sortD_perm l).mem_iff.1 ht)
    refine (List.Pairwise.and_mem.1 (sortD_srt l)).imp fun {a b} hab hlt=>hab.2.2 ((ltS_iff (hm b hab.2.1)).1 hlt)
end

section
open Go Go.Abs

theorem room24' {n:Nat} (h:n≤4000000000000):roomOk n 24=true:=by
  unfold roomOk
  rw [Bool.and_eq_true]
  exact ⟨Nat.ble_eq_true_of_le (by omega),Nat.ble_eq_true_of_le (by omega)⟩
theorem ref_all_eq {a b:List (List Int)} (ha:a.length≤100000) (hb:b.length≤100000):ref_TimesAll (a,b,())=some (a++b,()):=by
  have h1:=loopM_fold' (f:=ref_TimesAll_l1 (a,b,())) a.length (fun i=>a.take i) (.inl (a,())) (fun i hi=>by
    have hlen:(a.take i).length=i:=by rw [List.length_take]; omega
    unfold ref_TimesAll_l1
    rw [List.take_succ_eq_append_getElem hi]
    simp only [dcT (show (i:Int) < (a.length:Int) by omega),cond_true,getI_nat,List.getElem?_eq_getElem hi,Option.bind_some,wrapS (show i < 9223372036854775807 by omega),show ∀ x:List Int,([x]:List (List Int)).length=1 from fun _=>rfl,hlen,room24' (show i+1≤4000000000000 by omega),Bool.and_true]) (by
    unfold ref_TimesAll_l1
    simp only [dcF (show ¬ (a.length:Int) < (a.length:Int) by omega),cond_false,List.take_length])
  have h2:=loopM_fold' (f:=ref_TimesAll_l2 (a,b,())) b.length (fun i=>a++b.take i) (.inl (a++b,())) (fun i hi=>by
    have hlen:(a++b.take i).length=a.length+i:=by rw [List.length_append,List.length_take]; omega
    unfold ref_TimesAll_l2
    rw [List.take_succ_eq_append_getElem hi,←List.append_assoc]
    simp only [dcT (show (i:Int) < (b.length:Int) by omega),cond_true,getI_nat,List.getElem?_eq_getElem hi,Option.bind_some,wrapS (show i < 9223372036854775807 by omega),show ∀ x:List Int,([x]:List (List Int)).length=1 from fun _=>rfl,hlen,room24' (show a.length+i+1≤4000000000000 by omega),Bool.and_true]) (by
    unfold ref_TimesAll_l2
    simp only [dcF (show ¬ (b.length:Int) < (b.length:Int) by omega),cond_false,List.take_length])
  have h1':loopM (ref_TimesAll_l1 (a,b,())) (([]:List (List Int)),(0:Int),())=_:=h1
  have h2':loopM (ref_TimesAll_l2 (a,b,())) (a,(0:Int),())=some (.inl (a++b,())):=by
    have:=h2
    simp only [List.take_zero,List.append_nil] at this
    exact this
  unfold ref_TimesAll
  rw [h1']
  simp only [Option.bind_some,Sum.elim_inl]
  rw [h2']; rfl
end

section
open Go Go.Abs

theorem sum_one {α:Type} [DecidableEq α] (f:α→Int) (a:α) (c:Int):∀ {T:List α},T.Nodup→(T.map fun u=>f u+(if a=u then c else 0)).sum=(T.map f).sum+(if a∈T then c else 0)
  | [],_=>by simp
  | b :: T,h=>by
    obtain ⟨h1,h2⟩:=List.nodup_cons.1 h
    have ih:=sum_one f a c h2
    rw [List.map_cons,List.sum_cons,ih,List.map_cons,List.sum_cons]
    by_cases e:a=b
    · subst e
      rw [if_pos rfl,if_neg h1,if_pos List.mem_cons_self]; omega
    · rw [if_neg e]
      by_cases hm:a∈T
      · rw [if_pos hm,if_pos (List.mem_cons_of_mem _ hm)]; omega
      · rw [if_neg hm,if_neg (fun h=>(List.mem_cons.1 h).elim e hm)]; omega
def cntT (D:List Df) (t:List Int) (k:Ky) (T:List (List Int)):Int:=(T.map fun u=>if leB u t=true then sumK (rowsAt D u) k else 0).sum
theorem cntT_eq (t:List Int) (k:Ky) {T:List (List Int)} (hT:T.Nodup):∀ {D:List Df},(∀ d∈D,d.1∈T)→cntT D t k T=sumK (standR D t) k
  | [],_=>by
    unfold cntT
    have:∀ T:List (List Int),(T.map fun u=>if leB u t=true then sumK (rowsAt [] u) k else 0).sum=0:=fun T=>by
      induction T with
      | nil=>rfl
      | cons b T ih =>
        rw [List.map_cons,List.sum_cons,ih]
        split <;> rfl
    rw [this]; rfl
  | d :: D,h=>by
    have ih:=cntT_eq t k hT fun e he=>h e (List.mem_cons_of_mem _ he)
    have e:(fun u=>if leB u t=true then sumK (rowsAt (d :: D) u) k else 0)=fun u=>(if leB u t=true then sumK (rowsAt D u) k else 0)+(if d.1=u then (if leB d.1 t=true then sumK d.2.1 k else 0) else 0):=funext fun u=>by
      have hc:rowsAt (d :: D) u=(if d.1=u then d.2.1 else [])++rowsAt D u:=rfl
      rw [hc,sumK_app]
      by_cases e:d.1=u
      · subst e
        rw [if_pos rfl,if_pos rfl]
        split <;> omega
      · rw [if_neg e,if_neg e,show sumK [] k=0 from rfl]
        split <;> omega
    have hst:sumK (standR (d :: D) t) k=(if leB d.1 t=true then sumK d.2.1 k else 0)+sumK (standR D t) k:=by
      have hc:standR (d :: D) t=(if leB d.1 t=true then d.2.1 else [])++standR D t:=rfl
      rw [hc,sumK_app]
      split <;> rfl
    unfold cntT at ih ⊢
    rw [e,sum_one _ _ _ hT,if_pos (h d List.mem_cons_self),ih,hst,Int.add_comm]
theorem W_bagAt (D:List Df) (u:List Int) (k:Ky):W (sumK ((bagAt D u).map toR) k)=W (sumK (rowsAt D u) k):=by
  unfold bagAt
  rw [sumK_bag,W_W,W_sc,Int.one_mul]
theorem stand_tidy (D:List Df) (t:List Int) (k:Ky):∀ T:List (List Int),W (sumK (standR (T.filterMap (tidyE D)) t) k)=W (cntT D t k T)
  | []=>rfl
  | u :: T=>by
    have ih:=stand_tidy D t k T
    have hc:cntT D t k (u :: T)=(if leB u t=true then sumK (rowsAt D u) k else 0)+cntT D t k T:=by unfold cntT; rw [List.map_cons,List.sum_cons]
    rw [hc,List.filterMap_cons]
    have hu:=W_bagAt D u k
    unfold tidyE
    cases hb:(bagAt D u).isEmpty with
    | true =>
      have h0:bagAt D u=[]:=by simpa using hb
      rw [h0] at hu
      have hu:W 0=W (sumK (rowsAt D u) k):=hu
      simp only [cond_true]
      have e:W (0+sumK (standR (T.filterMap (tidyE D)) t) k)=W ((if leB u t=true then sumK (rowsAt D u) k else 0)+cntT D t k T):=by
        refine W_cg ?_ ih
        split
        · exact hu
        · rfl
      rw [Int.zero_add] at e
      exact e
    | false =>
      simp only [cond_false]
      have hs:standR ((u,(bagAt D u).map toR,()) :: T.filterMap (tidyE D)) t=(if leB u t=true then (bagAt D u).map toR else [])++standR (T.filterMap (tidyE D)) t:=rfl
      refine Eq.trans (congrArg (fun l=>W (sumK l k)) hs) ?_
      show W (sumK _ k)=_
      rw [sumK_app]
      refine W_cg ?_ ih
      split
      · exact hu
      · rfl
theorem standB_tidy (D:List Df) (t:List Int):standB (tidyL D) t=standB D t:=by
  unfold standB
  refine same_bag fun k=>?_
  rw [W_sc,W_sc,Int.one_mul,Int.one_mul]
  unfold tidyL
  rw [stand_tidy,cntT_eq t k (sortT_nodup _) fun d hd=>((sort_facts _).2.1 _).2 (List.mem_map_of_mem hd)]
theorem sortH_self {S:List Df} (s:SOK S):sortH S=S:=by
  have s2:=sortH_ok s.nd s.len s.num s.chk s.same
  have h1:=sort_times (F:=fun a b=>some (cmpL a.1 b.1)) (fun a b _=>rfl) s (sortH_perm s.nd)
  have h2:=sort_times (F:=fun a b=>some (cmpL a.1 b.1)) (fun a b _=>rfl) s2 (List.Perm.refl _)
  rw [h1] at h2
  exact (Option.some.inj h2).symm
theorem undo_tell {S:List Df} (s:SOK S):∃ M,allSome (undoH S S.length)=some M∧diffs_History_Tells (M,())=some (told (tidyL (undoI S S.length))):=by
  have h:=undo_told s
  cases hm:allSome (undoH S S.length) with
  | none=>rw [hm] at h; cases h
  | some M =>
    rw [hm] at h
    refine ⟨M,rfl,?_⟩
    simp only [Option.bind_some] at h
    cases hq:diffs_History_Tells (M,()) with
    | none=>rw [hq] at h; cases h
    | some v=>rw [hq] at h; exact h
theorem ref_undo_self {S:List Df} (s:SOK S):ref_DiffsUndo (S,())=some (undoI S S.length,()):=by
  have h:=ref_undo_eq s.nd s.len s.num s.chk s.same
  rw [sortH_self s] at h
  exact h
theorem cloneD (D:List Df) (h:D.length≤1000000):slices_Clone_s_api_Diff_api_Diff (D,())=some (D,()):=by
  unfold slices_Clone_s_api_Diff_api_Diff
  have hr:roomOk D.length 48=true:=room_ok (by omega) (by omega)
  simp [hr]
theorem moves_c1 (a b:Df) (ha:a.1.length≤1000000):(fun a b=>(diffs_Moves_c1 (a,b,())).map fun r=>r.1) a b=some (cmpL a.1 b.1):=by
  show (diffs_Moves_c1 (a,b,())).map _=_
  unfold diffs_Moves_c1
  rw [slices_Compare_eq ha]; rfl
theorem told_same2 (l:List Df) (h:∀ d∈l,d.1.length≤1000000∧d.2.1.length≤3000000000000):ref_DiffsSame ((told l).1,(told l).1,())=some (true,()):=by
  unfold told
  split
  · exact ref_same (by simp) (fun d hd=>by cases hd)
  · split
    · exact ref_same (by simp) (fun d hd=>by cases hd)
    · rename_i h1 h2
      exact ref_same (by show l.length≤2000; omega) h
theorem tidy_dims {D:List Df} (g:Fine D):∀ d∈tidyL D,d.1.length≤1000000∧d.2.1.length≤3000000000000:=fun d hd=>by
  have h3:=len_le_num hd
  have h2:=tidy_num D
  have h1:=g.num
  obtain ⟨u,hu,-,rfl⟩:=tidyL_mem.1 hd
  have h7:=fine_times g u hu
  exact ⟨by show u.length≤_; omega,by omega⟩
theorem undo_same {S:List Df} (s:SOK S):ref_DiffsSame ((told (tidyL (undoI S S.length))).1,(told (tidyL (undoI S S.length))).1,())=some (true,()) :=
  told_same2 _ (tidy_dims (undoI_fine s (Nat.le_refl _)))
end

section
open Go Go.Abs

theorem concat_eq {f g:List (List Int)} (hf:f.length≤64) (hg:g.length≤64):slices_Concat_s_s_int_s_int ([f,g],())=some (f++g,()):=by
  have w0:∀ {x y:Int},x=y→0≤y→y≤1000→IntKind.i64.wrap x=y:=fun h h1 h2=>by rw [h]; exact wrap64 (by omega) (by omega)
  have a0:slices_Concat_s_s_int_s_int_l1 ([f,g],()) ((0:Int),(0:Int),())=some (.inl ((f.length:Int),(1:Int),())):=by
    unfold slices_Concat_s_s_int_s_int_l1
    simp only [dcT (show (0:Int) < (([f,g]:List (List (List Int))).length:Int) by simp),cond_true,show getI [f,g] (0:Int)=some f from rfl,Option.bind_some,w0 (show (0:Int)+(f.length:Int)=(f.length:Int) by omega) (by omega) (by omega),w0 (show (0:Int)+1=1 by omega) (by omega) (by omega),dcF (show ¬ (f.length:Int) < 0 by omega),cond_false]
  have a1:slices_Concat_s_s_int_s_int_l1 ([f,g],()) ((f.length:Int),(1:Int),())=some (.inl (((f.length+g.length:Nat):Int),(2:Int),())):=by
    unfold slices_Concat_s_s_int_s_int_l1
    simp only [dcT (show (1:Int) < (([f,g]:List (List (List Int))).length:Int) by simp),cond_true,show getI [f,g] (1:Int)=some g from rfl,Option.bind_some,w0 (show (f.length:Int)+(g.length:Int)=((f.length+g.length:Nat):Int) by omega) (by omega) (by omega),w0 (show (1:Int)+1=2 by omega) (by omega) (by omega),dcF (show ¬ ((f.length+g.length:Nat):Int) < 0 by omega),cond_false]
  have a2:slices_Concat_s_s_int_s_int_l1 ([f,g],()) (((f.length+g.length:Nat):Int),(2:Int),())=some (.inr (.inl (((f.length+g.length:Nat):Int),()))):=by
    unfold slices_Concat_s_s_int_s_int_l1
    simp only [dcF (show ¬ (2:Int) < (([f,g]:List (List (List Int))).length:Int) by simp),cond_false]
  have b0:slices_Concat_s_s_int_s_int_l2 ([f,g],()) (([]:List (List Int)),(0:Int),())=some (.inl (f,(1:Int),())):=by
    unfold slices_Concat_s_s_int_s_int_l2
    simp only [dcT (show (0:Int) < (([f,g]:List (List (List Int))).length:Int) by simp),cond_true,show getI [f,g] (0:Int)=some f from rfl,Option.bind_some,List.length_nil,List.nil_append,room24' (show 0+f.length≤4000000000000 by omega),Bool.and_true,Bool.true_and,w0 (show (0:Int)+1=1 by omega) (by omega) (by omega)]
  have b1:slices_Concat_s_s_int_s_int_l2 ([f,g],()) (f,(1:Int),())=some (.inl (f++g,(2:Int),())):=by
    unfold slices_Concat_s_s_int_s_int_l2
    simp only [dcT (show (1:Int) < (([f,g]:List (List (List Int))).length:Int) by simp),cond_true,show getI [f,g] (1:Int)=some g from rfl,Option.bind_some,room24' (show f.length+g.length≤4000000000000 by omega),Bool.and_true,Bool.true_and,w0 (show (1:Int)+1=2 by omega) (by omega) (by omega)]
  have b2:slices_Concat_s_s_int_s_int_l2 ([f,g],()) (f++g,(2:Int),())=some (.inr (.inl (f++g,()))):=by
    unfold slices_Concat_s_s_int_s_int_l2
    simp only [dcF (show ¬ (2:Int) < (([f,g]:List (List (List Int))).length:Int) by simp),cond_false]
  have L1:loopM (slices_Concat_s_s_int_s_int_l1 ([f,g],())) ((0:Int),(0:Int),())=some (.inl (((f.length+g.length:Nat):Int),())):=by
    rw [loopM_inl a0,loopM_inl a1,loopM_inr a2]
  have L2:loopM (slices_Concat_s_s_int_s_int_l2 ([f,g],())) (([]:List (List Int)),(0:Int),())=some (.inl (f++g,())):=by
    rw [loopM_inl b0,loopM_inl b1,loopM_inr b2]
  unfold slices_Concat_s_s_int_s_int
  rw [L1]
  simp only [Option.bind_some,Sum.elim_inl,dcF (show ¬ ((f.length+g.length:Nat):Int) < 0 by omega),cond_false,w0 (show (0:Int) - 0=0 by omega) (by omega) (by omega),w0 (show ((f.length+g.length:Nat):Int) - 0=((f.length+g.length:Nat):Int) by omega) (by omega) (by omega)]
  by_cases h0:f.length+g.length=0
  · simp only [dcF (show ¬ ((f.length+g.length:Nat):Int) > 0 by omega),cond_false,Option.bind_some,Sum.elim_inl]
    rw [L2]; rfl
  · simp only [dcT (show ((f.length+g.length:Nat):Int) > 0 by omega),cond_true,dcT (show (0:Int)≤0 by omega),dcT (show (0:Int)≤((f.length+g.length:Nat):Int) by omega),Int.toNat_natCast,room24' (show f.length+g.length≤4000000000000 by omega),Bool.and_true,List.length_replicate,Option.bind_some,Sum.elim_inl]
    rw [show (List.replicate (f.length+g.length) ([]:List Int)).take (0:Int).toNat=[] from rfl,L2]; rfl
end

section
open Go Go.Abs

theorem equal_same (a b:List Int):slices_Equal_s_int_int (a,b,())=ref_TimesSame (a,b,()):=rfl
theorem equal_eq {a b:List Int} (ha:a.length≤1000000):slices_Equal_s_int_int (a,b,())=some (decide (a=b),()):=(equal_same a b).trans (ref_TimesSame_eq ha)
theorem getD_at {l:List (List Int)} {i:Nat} (hi:i < l.length):l.getD i []=l[i]:=by rw [List.getD_eq_getElem?_getD,List.getElem?_eq_getElem hi]; rfl
def kept (v:List (List Int)):Nat→List (List Int)
  | 0=>[]
  | j+1=>kept v j++(if j=0∨v.getD j []≠v.getD (j - 1) [] then [v.getD j []] else [])
theorem kept_len (v:List (List Int)):∀ j,(kept v j).length≤j
  | 0=>Nat.le_refl _
  | j+1=>by
    have:=kept_len v j
    unfold kept
    rw [List.length_append]
    split <;> simp <;> omega
theorem kept_take {v:List (List Int)}:∀ {j:Nat},j≤v.length→(∀ k,1≤k→k < j→v.getD k []≠v.getD (k - 1) [])→kept v j=v.take j
  | 0,_,_=>by simp [kept]
  | j+1,h,hk=>by
    rw [kept,kept_take (by omega) fun k h1 h2=>hk k h1 (by omega),if_pos,List.take_succ_eq_append_getElem (by omega),getD_at (by omega)]
    rcases Nat.eq_zero_or_pos j with h0 | h0
    · exact .inl h0
    · exact .inr (hk j h0 (by omega))
theorem kept_mem {v:List (List Int)}:∀ {j:Nat},j≤v.length→∀ t,t∈kept v j↔t∈v.take j
  | 0,_,t=>by simp [kept]
  | j+1,h,t=>by
    rw [kept,List.mem_append,kept_mem (by omega) t,List.take_succ_eq_append_getElem (by omega),List.mem_append,getD_at (by omega)]
    split
    · exact Iff.rfl
    · rename_i hc
      rw [not_or,Classical.not_not] at hc
      constructor
      · intro h
        rcases h with h | h
        · exact .inl h
        · cases h
      · intro h
        rcases h with h | h
        · exact .inl h
        · rw [List.mem_singleton.1 h,hc.2,getD_at (by omega)]
          exact .inl (List.mem_iff_getElem.2 ⟨j - 1,by rw [List.length_take]; omega,by rw [List.getElem_take]⟩)
theorem kept_up {v:List (List Int)} (hs:v.Pairwise fun a b=>¬ cmpL b a < 0):∀ {j:Nat},j≤v.length→up (kept v j)
  | 0,_=>List.Pairwise.nil
  | j+1,h=>by
    have ih:=kept_up hs (j:=j) (by omega)
    unfold up at ih ⊢
    rw [kept,List.pairwise_append]
    refine ⟨ih,by split <;> simp,fun a ha b hb=>?_⟩
    split at hb
    · rename_i hc
      rw [List.mem_singleton.1 hb,getD_at (by omega)]
      rw [kept_mem (by omega)] at ha
      obtain ⟨i,hi,rfl⟩:=List.mem_iff_getElem.1 ha
      rw [List.length_take] at hi
      rw [List.getElem_take]
      have hj0:j≠0:=by omega
      have hne:=hc.resolve_left hj0
      rw [getD_at (by omega),getD_at (by omega)] at hne
      have h1:=List.pairwise_iff_getElem.1 hs
      have hij:=h1 i j (by omega) (by omega) (by omega)
      have hlast:=h1 (j - 1) j (by omega) (by omega) (by omega)
      have hneg:=cmpL_neg v[i] v[j]
      have hneg2:=cmpL_neg v[j - 1] v[j]
      by_cases h0:cmpL v[i] v[j]=0
      · have he:=cmpL_eq.1 h0
        exfalso
        rcases Nat.lt_or_ge i (j - 1) with hlt | hge
        · have h3:=h1 i (j - 1) (by omega) (by omega) hlt
          have hneg3:=cmpL_neg v[i] v[j - 1]
          rw [he] at h3 hneg3
          by_cases h5:cmpL v[j] v[j - 1]=0
          · exact hne (cmpL_eq.1 h5)
          · have h6:=cmpL_neg v[j] v[j - 1]
            omega
        · have:i=j - 1:=by omega
          subst this
          exact hne he.symm
      · omega
    · cases hb
theorem at_get {A v:List (List Int)} {p i:Nat} (hA:A.drop p=v.drop p) (hi:p≤i):A[i]? = v[i]?:=by
  have h1:(A.drop p)[i - p]? = (v.drop p)[i - p]?:=by rw [hA]
  rw [List.getElem?_drop,List.getElem?_drop,Nat.add_sub_cancel' hi] at h1
  exact h1
theorem comp_l1 {v:List (List Int)} (hv:∀ t∈v,t.length≤1000000) {i0:Nat} (h1:1≤i0) (hi0:i0 < v.length) (hlen:v.length≤1000000) (hk0:(kept v i0).length=i0) (hdup:kept v (i0+1)=kept v i0) (hpre:v.take i0=kept v i0) :
    ∃ A,loopM (loop_Rounds_l1 ((i0:Int),v,())) ((i0:Int),(1:Int),v,())=some (.inl (((kept v v.length).length:Int),A,()))∧A.length=v.length∧A.take (kept v v.length).length=kept v v.length:=by
  have key:∀ d k,k+d=v.length - i0→1≤k→∀ A:List (List Int),A.length=v.length→A.drop (i0+k - 1)=v.drop (i0+k - 1)→A.take (kept v (i0+k)).length=kept v (i0+k)→(kept v (i0+k)).length≤i0+k - 1 →
      ∃ A',loopM (loop_Rounds_l1 ((i0:Int),v,())) (((kept v (i0+k)).length:Int),(k:Int),A,())=some (.inl (((kept v v.length).length:Int),A',()))∧A'.length=v.length∧A'.take (kept v v.length).length=kept v v.length:=by
    intro d
    induction d with
    | zero =>
      intro k hk hk1 A hA hdr htk hle
      have e:i0+k=v.length:=by omega
      refine ⟨A,?_,hA,by rw [e] at htk; exact htk⟩
      rw [e]
      refine loopM_inr ?_
      unfold loop_Rounds_l1
      simp only [Int.toNat_natCast,dcF (show ¬ (k:Int) < ((v.length - i0:Nat):Int) by omega),cond_false]
    | succ d ih =>
      intro k hk hk1 A hA hdr htk hle
      have g1:A[i0+k]? = v[i0+k]?:=at_get hdr (by omega)
      have g2:A[i0+(k - 1)]? = v[i0+(k - 1)]?:=at_get hdr (by omega)
      have gk:(i0+k) < v.length:=by omega
      have hw:IntKind.i64.wrap ((k:Int) - 1)=((k - 1:Nat):Int):=by rw [wrap64 (by omega) (by omega)]; omega
      have hin1:inB (k:Int) (v.length - i0)=true:=inB_T (by omega)
      have hin2:inB ((k - 1:Nat):Int) (v.length - i0)=true:=inB_T (by omega)
      have hin3:inB ((kept v (i0+k)).length:Int) A.length=true:=inB_T (by omega)
      have hkl:=kept_len v (i0+k)
      have hst:loop_Rounds_l1 ((i0:Int),v,()) (((kept v (i0+k)).length:Int),(k:Int),A,())=if v[i0+k]≠v[i0+(k - 1)]'(by omega) then some (.inl ((((kept v (i0+k)).length+1:Nat):Int),((k+1:Nat):Int),A.set (kept v (i0+k)).length v[i0+k],())) else some (.inl (((kept v (i0+k)).length:Int),((k+1:Nat):Int),A,())):=by
        unfold loop_Rounds_l1
        simp only [Int.toNat_natCast,dcT (show (k:Int) < ((v.length - i0:Nat):Int) by omega),cond_true,hin1,g1,List.getElem?_eq_getElem gk,Option.bind_some,hw,hin2,g2,List.getElem?_eq_getElem (show i0+(k - 1) < v.length by omega)]
        rw [equal_eq (hv _ (List.getElem_mem gk))]
        by_cases hq:v[i0+k]=v[i0+(k - 1)]'(by omega)
        · rw [decide_eq_true hq,if_neg (fun h=>h hq)]
          simp only [Option.bind_some,Bool.not_true,cond_false,wrapS (show k < 9223372036854775807 by omega)]
        · rw [decide_eq_false hq,if_pos hq]
          simp only [Option.bind_some,Bool.not_false,cond_true,hin3,List.getElem?_eq_getElem (show (kept v (i0+k)).length < A.length by omega),wrapS (show k < 9223372036854775807 by omega),wrapS (show (kept v (i0+k)).length < 9223372036854775807 by omega)]
      have hsn:kept v (i0+(k+1))=kept v (i0+k)++(if v[i0+k]≠v[i0+(k - 1)]'(by omega) then [v[i0+k]] else []):=by
        rw [show i0+(k+1)=(i0+k)+1 by omega,kept,getD_at gk,getD_at (show i0+k - 1 < v.length by omega)]
        have e2:v[i0+k - 1]'(by omega)=v[i0+(k - 1)]'(by omega):=by congr 1; omega
        rw [e2]
        congr 1
        by_cases hq:v[i0+k]≠v[i0+(k - 1)]'(by omega)
        · rw [if_pos hq,if_pos (.inr hq)]
        · rw [if_neg hq,if_neg (fun h=>h.elim (fun h=>by omega) hq)]
      by_cases hq:v[i0+k]≠v[i0+(k - 1)]'(by omega)
      · rw [if_pos hq] at hst hsn
        rw [loopM_inl hst]
        have hl2:(kept v (i0+(k+1))).length=(kept v (i0+k)).length+1:=by rw [hsn,List.length_append,List.length_singleton]
        have:=ih (k+1) (by omega) (by omega) (A.set (kept v (i0+k)).length v[i0+k]) (by rw [List.length_set]; exact hA) (by
          rw [List.drop_set_of_lt (by omega)]
          have e3:i0+(k+1) - 1=(i0+k - 1)+1:=by omega
          rw [e3,←List.drop_drop,←List.drop_drop,hdr]) (by
          rw [hl2,hsn,List.take_succ_eq_append_getElem (by rw [List.length_set]; omega),List.take_set_of_le (Nat.le_refl _),htk,List.getElem_set_self]) (by omega)
        rw [hl2] at this
        exact this
      · rw [if_neg hq] at hst hsn
        rw [loopM_inl hst]
        rw [List.append_nil] at hsn
        have:=ih (k+1) (by omega) (by omega) A hA (by
          have e3:i0+(k+1) - 1=(i0+k - 1)+1:=by omega
          rw [e3,←List.drop_drop,←List.drop_drop,hdr]) (by rw [hsn]; exact htk) (by rw [hsn]; omega)
        rw [hsn] at this
        exact this
  have:=key (v.length - i0 - 1) 1 (by omega) (Nat.le_refl _) v rfl rfl (by rw [hdup,hk0]; exact hpre) (by rw [hdup,hk0]; omega)
  rw [hdup,hk0] at this
  exact this
theorem comp_eq {v:List (List Int)} (hv:∀ t∈v,t.length≤1000000) (hlen:v.length≤1000000) (h2:2≤v.length) :
    (∃ (n:Nat) (A:List (List Int)),loopM loop_Rounds_l2 ((1:Int),v,())=some (.inl (0,n,A,()))∧(A.drop 0).take n=kept v v.length)∨(loopM loop_Rounds_l2 ((1:Int),v,())=some (.inr (.inl (v,())))∧kept v v.length=v):=by
  have key:∀ d i,i+d=v.length→1≤i→(∀ k,1≤k→k < i→v.getD k []≠v.getD (k - 1) []) →
      (∃ (n:Nat) (A:List (List Int)),loopM loop_Rounds_l2 ((i:Int),v,())=some (.inl (0,n,A,()))∧(A.drop 0).take n=kept v v.length)∨(loopM loop_Rounds_l2 ((i:Int),v,())=some (.inr (.inl (v,())))∧kept v v.length=v):=by
    intro d
    induction d with
    | zero =>
      intro i hi h1 hk
      have e:i=v.length:=by omega
      subst e
      refine .inr ⟨loopM_inr ?_,by rw [kept_take (Nat.le_refl _) hk,List.take_length]⟩
      unfold loop_Rounds_l2
      simp only [dcF (show ¬ (v.length:Int) < (v.length:Int) by omega),cond_false]
    | succ d ih =>
      intro i hi h1 hk
      have hil:i < v.length:=by omega
      have hw:IntKind.i64.wrap ((i:Int) - 1)=((i - 1:Nat):Int):=by rw [wrap64 (by omega) (by omega)]; omega
      by_cases hq:v[i]=v[i - 1]'(by omega)
      · left
        have hkt:=kept_take (v:=v) (j:=i) (by omega) hk
        have hk0:(kept v i).length=i:=by rw [hkt,List.length_take]; omega
        have hdup:kept v (i+1)=kept v i:=by
          rw [kept,getD_at hil,getD_at (show i - 1 < v.length by omega),if_neg (fun h=>h.elim (fun h=>by omega) (fun h=>h hq)),List.append_nil]
        obtain ⟨A,a1,a2,a3⟩:=comp_l1 hv h1 hil hlen hk0 hdup hkt.symm
        have hkl:=kept_len v v.length
        generalize hK:(kept v v.length).length=K at a1 a3 hkl
        refine ⟨K,A.take K++List.replicate (A.length - K) []++A.drop (K+(A.length - K)),loopM_inr ?_,?_⟩
        · unfold loop_Rounds_l2
          simp only [dcT (show (i:Int) < (v.length:Int) by omega),cond_true,inB_T hil,Int.toNat_natCast,List.getElem?_eq_getElem hil,Option.bind_some,hw,inB_T (show i - 1 < v.length by omega),List.getElem?_eq_getElem (show i - 1 < v.length by omega)]
          rw [equal_eq (hv _ (List.getElem_mem hil)),decide_eq_true hq]
          simp only [Option.bind_some,cond_true]
          rw [dcT (show (0:Int)≤(i:Int) by omega),dcT (show (i:Int)≤(v.length:Int) by omega),dcT (show (v.length:Int)≤(v.length:Int) by omega)]
          simp only [Bool.and_self,cond_true]
          rw [a1]
          simp only [Option.bind_some,Sum.elim_inl,Int.toNat_natCast]
          have hl3:(A.take K++List.replicate (A.length - K) ([]:List Int)++A.drop (K+(A.length - K))).length=A.length:=by rw [List.length_append,List.length_append,List.length_take,List.length_replicate,List.length_drop]; omega
          simp only [hl3,dcT (show (0:Int)≤(K:Int) by omega),dcT (show (K:Int)≤(A.length:Int) by omega),dcT (show (A.length:Int)≤(A.length:Int) by omega),dcT (show (0:Int)≤0 by omega),Bool.and_self,cond_true]
          rfl
        · rw [List.drop_zero,List.append_assoc,List.take_append_of_le_length (by rw [List.length_take]; omega),List.take_take,Nat.min_self]
          exact a3
      · have hst:loop_Rounds_l2 ((i:Int),v,())=some (.inl (((i+1:Nat):Int),v,())):=by
          unfold loop_Rounds_l2
          simp only [dcT (show (i:Int) < (v.length:Int) by omega),cond_true,inB_T hil,Int.toNat_natCast,List.getElem?_eq_getElem hil,Option.bind_some,hw,inB_T (show i - 1 < v.length by omega),List.getElem?_eq_getElem (show i - 1 < v.length by omega)]
          rw [equal_eq (hv _ (List.getElem_mem hil)),decide_eq_false hq]
          simp only [Option.bind_some,cond_false,wrapS (show i < 9223372036854775807 by omega)]
        rw [loopM_inl hst]
        refine ih (i+1) (by omega) (by omega) fun k h3 h4=>?_
        rcases Nat.lt_or_ge k i with h5 | h5
        · exact hk k h3 h5
        · have:k=i:=by omega
          subst this
          rw [getD_at hil,getD_at (show k - 1 < v.length by omega)]
          exact hq
  exact key (v.length - 1) 1 (by omega) (Nat.le_refl _) fun k h3 h4=>by omega
theorem kept_sorted {v:List (List Int)}:kept (sortD v) (sortD v).length=sortT v:=by
  refine up_same (kept_up (sortD_srt v) (Nat.le_refl _)) (sort_facts v).2.2 fun t=>?_
  rw [kept_mem (Nat.le_refl _),List.take_length,(sortD_perm v).mem_iff,(sort_facts v).2.1]
end

end Go.Proofs.Tryz
