/- Lemmas on functions of the program, by name. -/
import Derived.Test.YtgepgleagefmeabGreatZPFuns
import Derived.Test.YtgepgleagefmeabGreatAbsSums
import Derived.Test.YtgepgleagefmeabGreatZPLemmasIncrPairs2
import Derived.Test.YtgepgleagefmeabGreatZPLemmasIncrPairs1
namespace Go.Proofs.Tryz
section
open Go Go.Abs

def mx (a b:Int):Int:=if b > a then b else a
def joinL (a b:List Int):List Int:=List.zipWith mx a b
theorem joinL_length {a b:List Int} (h:a.length=b.length):(joinL a b).length=a.length:=by
  unfold joinL
  rw [List.length_zipWith,h,Nat.min_self]
theorem joinL_get {a b:List Int} {i:Nat} (ha:i < a.length) (hb:i < b.length):(joinL a b)[i]? = some (mx a[i] b[i]):=by
  unfold joinL
  rw [List.getElem?_zipWith,List.getElem?_eq_getElem ha,List.getElem?_eq_getElem hb]
theorem set_rep {a:List Int} {n i:Nat} {v:Int} (hi:i < n) (ha:a.length=i):(a++List.replicate (n - i) 0).set i v=a++[v]++List.replicate (n - (i+1)) 0:=by
  rw [show n - i=(n - (i+1))+1 from by omega,List.replicate_succ]
  subst ha
  rw [List.set_append_right _ _ (Nat.le_refl _),Nat.sub_self]
  simp
theorem over_eq {a b:List Int} (h:a.length=b.length) (hl:a.length≤1000000):times_Over (a,b,())=some (joinL a b,()):=by
  have hj:=joinL_length h
  have hr:roomOk a.length 8=true:=room8 hl
  have hloop:=loopM_fold (f:=times_Over_l1 (a,b,())) a.length (fun i=>(joinL a b).take i++List.replicate (a.length - i) 0) (.inl (joinL a b,())) (fun i hi=>by
    have htk:((joinL a b).take i).length=i:=by rw [List.length_take,hj]; omega
    have hlen:((joinL a b).take i++List.replicate (a.length - i) 0).length=a.length:=by rw [List.length_append,htk,List.length_replicate]; omega
    obtain ⟨w,hw⟩:∃ w,((joinL a b).take i++List.replicate (a.length - i) 0)[i]? = some w:=⟨_,List.getElem?_eq_getElem (by omega)⟩
    have hs:=set_rep (v:=mx a[i] (b[i]'(by omega))) hi htk
    have htk1:(joinL a b).take (i+1)=(joinL a b).take i++[mx a[i] (b[i]'(by omega))]:=by
      rw [List.take_succ_eq_append_getElem (by omega)]
      congr 2
      have:=joinL_get (a:=a) (b:=b) hi (by omega)
      rw [List.getElem?_eq_getElem (by omega)] at this
      exact Option.some.inj this
    unfold times_Over_l1 times_greater
    simp only [dcT (show (i:Int) < (a.length:Int) by omega),cond_true,getI_nat,List.getElem?_eq_getElem hi,List.getElem?_eq_getElem (show i < b.length by omega),Option.bind_some,hlen,inB_T hi,Int.toNat_natCast,hw,wrapS (show i < 9223372036854775807 by omega)]
    rw [htk1,←hs]; rfl) (by
    unfold times_Over_l1
    simp only [dcF (show ¬ (a.length:Int) < (a.length:Int) by omega),cond_false,Nat.sub_self,List.replicate_zero,List.append_nil]
    rw [List.take_of_length_le (by omega)])
  unfold times_Over
  have hg:(decide (0≤(a.length:Int)) && decide ((a.length:Int)≤(a.length:Int)) && roomOk (a.length:Int).toNat 8 && decide ((a.length:Int)≤9223372036854775807) && true && true)=true:=by
    rw [Int.toNat_natCast,hr,dcT (show (0:Int)≤(a.length:Int) by omega),dcT (show (a.length:Int)≤(a.length:Int) by omega),dcT (show (a.length:Int)≤9223372036854775807 by omega)]; rfl
  have h0:loopM (times_Over_l1 (a,b,())) ((0:Int),List.replicate (a.length:Int).toNat (0:Int),())=some (.inl (joinL a b,())):=by
    rw [Int.toNat_natCast]; exact hloop
  simp only [hg,cond_true]
  rw [h0]; rfl
theorem join_eq {a b:List Int} (h:a.length=b.length) (hl:a.length≤900000):ref_TimesJoin (a,b,true,())=some (joinL a b,()):=by
  have hj:=joinL_length h
  have hloop:=loopM_fold' (f:=ref_TimesJoin_l1 (a,b,true,())) a.length (fun i=>(joinL a b).take i) (.inl (joinL a b,())) (fun i hi=>by
    have htk:((joinL a b).take i).length=i:=by rw [List.length_take,hj]; omega
    have htk1:(joinL a b).take (i+1)=(joinL a b).take i++[mx a[i] (b[i]'(by omega))]:=by
      rw [List.take_succ_eq_append_getElem (by omega)]
      congr 2
      have:=joinL_get (a:=a) (b:=b) hi (by omega)
      rw [List.getElem?_eq_getElem (by omega)] at this
      exact Option.some.inj this
    unfold ref_TimesJoin_l1
    rw [htk1]
    simp only [dcT (show (i:Int) < (a.length:Int) by omega),cond_true,getI_nat,List.getElem?_eq_getElem hi,List.getElem?_eq_getElem (show i < b.length by omega),Option.bind_some,wrapS (show i < 9223372036854775807 by omega),show ∀ x:Int,([x]:List Int).length=1 from fun _=>rfl,htk,room8 (show i+1≤1000000 by omega),Bool.and_true]
    unfold mx
    by_cases hgt:b[i]'(by omega) > a[i]
    · rw [if_pos hgt,dcT hgt]; rfl
    · rw [if_neg hgt,dcF hgt]; rfl) (by
    unfold ref_TimesJoin_l1
    simp only [dcF (show ¬ (a.length:Int) < (a.length:Int) by omega),cond_false]
    rw [List.take_of_length_le (by omega)])
  unfold ref_TimesJoin
  have h0:loopM (ref_TimesJoin_l1 (a,b,true,())) (([]:List Int),(0:Int),())=some (.inl (joinL a b,())):=hloop
  rw [h0]; rfl
theorem chk_any {a:List Int} (h:chk a=0):¬ (a.length=0∨a.length > 4)∧a.any bad=false:=by
  unfold chk at h
  split at h
  · cases h
  · rename_i h1
    refine ⟨h1,?_⟩
    split at h
    · cases h
    · rename_i h2
      simpa using h2
end

section
open Go Go.Abs

theorem zip_bad {g:Int→Int→Int} (hg:∀ x y,g x y=x∨g x y=y):∀ {a b:List Int},a.any bad=false→b.any bad=false→(List.zipWith g a b).any bad=false
  | [],_,_,_=>by simp
  | _ :: _,[],_,_=>by simp
  | x :: a,y :: b,h1,h2=>by
    rw [List.any_cons,Bool.or_eq_false_iff] at h1 h2
    rw [List.zipWith_cons_cons,List.any_cons,zip_bad hg h1.2 h2.2,Bool.or_false]
    rcases hg x y with e | e
    · rw [e]; exact h1.1
    · rw [e]; exact h2.1
theorem chk_zip {g:Int→Int→Int} (hg:∀ x y,g x y=x∨g x y=y) {a b:List Int} (hl:a.length=b.length) (ha:chk a=0) (hb:chk b=0):chk (List.zipWith g a b)=0:=by
  obtain ⟨h1,h2⟩:=chk_any ha
  obtain ⟨-,h3⟩:=chk_any hb
  have hlen:(List.zipWith g a b).length=a.length:=by rw [List.length_zipWith,hl,Nat.min_self]
  unfold chk
  rw [hlen,if_neg h1,zip_bad hg h2 h3]; rfl
theorem chk_join {a b:List Int} (hl:a.length=b.length) (ha:chk a=0) (hb:chk b=0):chk (joinL a b)=0:=chk_zip (fun x y=>by unfold mx; split <;> simp) hl ha hb
end

section
open Go Go.Abs

theorem ref_told_eq {D:List Df} (g:Fine D):ref_DiffsTold (D,())=some (told (tidyL D)):=by
  have g1:=g.len
  have g2:=g.num
  have t1:=tidy_len D
  have t2:=tidy_num D
  unfold ref_DiffsTold
  rw [ref_tidy_eq g]
  simp only [Option.bind_some]
  have hl:=loopM_sim (f:=ref_DiffsTold_l1 (tidyL D,())) (s0:=((0:Int),(0:Int),())) (tidyL D).length (fun i=>((numD ((tidyL D).take i):Int),(i:Int),())) (.inl ((numD (tidyL D):Int),())) (fun i hi=>by
    have h1:=num_take (tidyL D) i
    have h2:=len_le_num (List.getElem_mem hi)
    have hw:IntKind.i64.wrap ((numD ((tidyL D).take i):Int)+((tidyL D)[i].2.1.length:Int))=((numD ((tidyL D).take i)+(tidyL D)[i].2.1.length:Nat):Int):=by
      rw [wrap64 (by omega) (by omega)]; omega
    unfold ref_DiffsTold_l1
    simp only [dcT (show (i:Int) < ((tidyL D).length:Int) by omega),cond_true,inB_T hi,Int.toNat_natCast,List.getElem?_eq_getElem hi,Option.bind_some,wrapS (show i < 9223372036854775807 by omega),hw,numD_take _ hi]) (by
    unfold ref_DiffsTold_l1
    simp only [dcF (show ¬ ((tidyL D).length:Int) < ((tidyL D).length:Int) by omega),cond_false,List.take_length]) rfl
  rw [hl]
  simp only [Option.bind_some,Sum.elim_inl]
  unfold told
  by_cases c1:(tidyL D).length > 64
  · rw [if_pos c1,dcT (show ((tidyL D).length:Int) > 64 by omega)]; rfl
  · rw [if_neg c1,dcF (show ¬ ((tidyL D).length:Int) > 64 by omega)]
    by_cases c2:numD (tidyL D) > 128
    · rw [if_pos c2,dcT (show (numD (tidyL D):Int) > 128 by omega)]; rfl
    · rw [if_neg c2,dcF (show ¬ (numD (tidyL D):Int) > 128 by omega)]; rfl
end

section
open Go Go.Abs

theorem W_W (n:Int):W (W n)=W n:=inR_W n
theorem W_sc (n:Int) (k:Ky) (l:List Rw):W (sumK (l.map (sc n)) k)=W (n*sumK l k):=by
  have:=sumK_sc n k l 0
  rwa [Int.zero_add,Int.zero_add] at this
theorem W_cg {a b c d:Int} (h1:W a=W c) (h2:W b=W d):W (a+b)=W (c+d):=by
  rw [←W_add',←W_add,h1,h2,W_add,W_add']
theorem W_neg (x:Int):W (-1*W x)=W (-1*x):=by unfold W; rw [IntKind.wrap_i64,IntKind.wrap_i64,IntKind.wrap_i64]; omega
theorem W_ng {a b:Int} (h:W a=W b):W (-1*a)=W (-1*b):=by rw [←W_neg a,h,W_neg]
theorem bag_back (l:List Rw):bagOf (((bagOf l []).map toR).map (sc 1)) []=bagOf l []:=same_bag fun k=>by
  rw [W_sc,Int.one_mul,sumK_bag,W_W]
theorem sumK_out {k:Ky}:∀ {l:List Rw},k ∉ l.map kyOf→sumK l k=0
  | [],_=>rfl
  | r :: l,h=>by
    rw [List.map_cons,List.mem_cons,not_or] at h
    rw [sumK_cons,if_neg (fun e=>h.1 e.symm),sumK_out h.2]; rfl
theorem bag_keys {l:List Rw} {p:Ky × Int} (h:p∈bagOf l []):p.1∈l.map kyOf:=by
  have h1:=(bag_mem (bag0 l) p).1 h
  rw [tot_lin p.1 l (fun _=>0) (show InR 0 from W_zero)] at h1
  rcases Classical.em (p.1∈l.map kyOf) with hm | hm
  · exact hm
  · rw [sumK_out hm] at h1
    exact absurd h1.2.symm h1.1
theorem bag_knd (l:List Rw):((bagOf l []).map fun p=>p.1).Nodup:=by
  unfold List.Nodup
  rw [List.pairwise_map]
  exact (bag_rise l).ne kt_flat
theorem nodup_sub_len {α:Type} [DecidableEq α]:∀ {l m:List α},l.Nodup→(∀ x∈l,x∈m)→l.length≤m.length
  | [],_,_,_=>Nat.zero_le _
  | a :: l,m,h,hs=>by
    have h':=List.nodup_cons.1 h
    have ha:=hs a List.mem_cons_self
    have h1:=nodup_sub_len (l:=l) (m:=m.erase a) h'.2 fun x hx=>(List.mem_erase_of_ne (fun e=>h'.1 (by rw [←e]; exact hx))).2 (hs x (List.mem_cons_of_mem _ hx))
    have h2:=List.length_erase_of_mem ha
    have h3:=List.length_pos_of_mem ha
    rw [List.length_cons]; omega
def undoB (out:List Df) (t:List Int) (R:List Rw):Bg:=bagOf (R.map (sc 1)++((standB out t).map toR).map (sc (-1))) []
theorem undoB_eq (out:List Df) (t:List Int) (R:List Rw):undoB out t R=bagOf ((standR out t).map (sc (-1))) (bagOf (R.map (sc 1)) []):=by
  rw [←bagOf_app]
  refine same_bag fun k=>?_
  rw [sumK_app,sumK_app]
  refine W_cg rfl ?_
  rw [W_sc,W_sc]
  refine W_ng ?_
  unfold standB
  rw [sumK_bag,W_W,W_sc,Int.one_mul]
def undoN (out:List Df) (d:Df):Df:=(d.1,(undoB out d.1 d.2.1).map toR,())
def undoI (S:List Df) (i:Nat):List Df:=(S.take i).foldl (fun out d=>out++[undoN out d]) []
theorem undoI_succ {S:List Df} {i:Nat} (hi:i < S.length):undoI S (i+1)=undoI S i++[undoN (undoI S i) S[i]]:=by
  unfold undoI
  rw [List.take_succ_eq_append_getElem hi,List.foldl_append]; rfl
theorem undoI_times (S:List Df):∀ i,i≤S.length→(undoI S i).map (·.1)=(S.take i).map (·.1)
  | 0,_=>rfl
  | i+1,h=>by
    rw [undoI_succ h,List.take_succ_eq_append_getElem h,List.map_append,List.map_append,undoI_times S i (by omega)]; rfl
theorem undoI_len {S:List Df} {i:Nat} (h:i≤S.length):(undoI S i).length=i:=by
  have:=congrArg List.length (undoI_times S i h)
  rw [List.length_map,List.length_map,List.length_take] at this
  omega
def keysD (S:List Df):List Ky:=S.flatMap fun d=>d.2.1.map kyOf
theorem keysD_len:∀ S:List Df,(keysD S).length=numD S
  | []=>rfl
  | d :: S=>by
    have ih:=keysD_len S
    unfold keysD at ih ⊢
    rw [List.flatMap_cons,List.length_append,ih,numD_cons,List.length_map]
theorem stand_mem {out:List Df} {t:List Int} {r:Rw} (h:r∈standR out t):∃ d∈out,r∈d.2.1:=by
  unfold standR at h
  obtain ⟨d,hd,hr⟩:=List.mem_flatMap.1 h
  split at hr
  · exact ⟨d,hd,hr⟩
  · cases hr
theorem undoB_keys {out:List Df} {t:List Int} {R:List Rw} {p:Ky × Int} (h:p∈undoB out t R):p.1∈R.map kyOf∨∃ d∈out,p.1∈d.2.1.map kyOf:=by
  have h1:=bag_keys h
  rw [List.map_append,List.mem_append,List.map_map,List.map_map] at h1
  rcases h1 with h1 | h1
  · exact .inl h1
  · obtain ⟨q,hq,he⟩:=List.mem_map.1 h1
    have hq':q∈(standB out t).map toR:=hq
    obtain ⟨b,hb,rfl⟩:=List.mem_map.1 hq'
    have h2:=bag_keys hb
    rw [List.map_map] at h2
    obtain ⟨r,hr,hk⟩:=List.mem_map.1 h2
    obtain ⟨d,hd,hm⟩:=stand_mem hr
    have hk:kyOf r=b.1:=hk
    have he:b.1=p.1:=he
    exact .inr ⟨d,hd,List.mem_map.2 ⟨r,hm,hk.trans he⟩⟩
theorem undoI_keys (S:List Df):∀ i,i≤S.length→∀ d∈undoI S i,(∃ l,d.2.1=(bagOf l []).map toR)∧∀ r∈d.2.1,kyOf r∈keysD S
  | 0,_=>fun d hd=>by cases hd
  | i+1,h=>fun d hd=>by
    have ih:=undoI_keys S i (by omega)
    rw [undoI_succ h] at hd
    rcases List.mem_append.1 hd with hd | hd
    · exact ih d hd
    · rw [List.mem_singleton.1 hd]
      refine ⟨⟨_,rfl⟩,fun r hr=>?_⟩
      obtain ⟨p,hp,rfl⟩:=List.mem_map.1 hr
      rcases undoB_keys hp with hk | ⟨e,he,hk⟩
      · exact List.mem_flatMap.2 ⟨S[i],List.getElem_mem h,hk⟩
      · obtain ⟨q,hq,hk⟩:=List.mem_map.1 hk
        have:=(ih e he).2 q hq
        rw [hk] at this
        exact this
theorem undoI_rows {S:List Df} {i:Nat} (h:i≤S.length) {d:Df} (hd:d∈undoI S i):d.2.1.length≤numD S:=by
  obtain ⟨⟨l,hl⟩,hk⟩:=undoI_keys S i h d hd
  have h1:(d.2.1.map kyOf).Nodup:=by
    rw [hl,List.map_map]
    exact bag_knd l
  have h2:=nodup_sub_len h1 (m:=keysD S) fun x hx=>by
    obtain ⟨r,hr,rfl⟩:=List.mem_map.1 hx
    exact hk r hr
  rw [List.length_map,keysD_len] at h2
  exact h2
theorem numD_mul {n:Nat}:∀ {D:List Df},(∀ d∈D,d.2.1.length≤n)→numD D≤D.length*n
  | [],_=>Nat.zero_le _
  | d :: D,h=>by
    have h1:=numD_mul fun e he=>h e (List.mem_cons_of_mem _ he)
    have h2:=h d List.mem_cons_self
    rw [numD_cons,List.length_cons,Nat.add_mul]
    omega
theorem undoI_num {S:List Df} {i:Nat} (h:i≤S.length):numD (undoI S i)≤i*numD S:=by
  have h1:=numD_mul (n:=numD S) fun d hd=>undoI_rows h hd
  rwa [undoI_len h] at h1
structure SOK (S:List Df):Prop where
  len:S.length≤2000
  num:numD S≤300000
  chk:∀ d∈S,chk d.1=0
  same:∃ n,∀ d∈S,d.1.length=n
  up:S.Pairwise fun a b=>cmpL a.1 b.1 < 0
theorem SOK.nd {S:List Df} (s:SOK S):(S.map (·.1)).Nodup:=by
  unfold List.Nodup
  rw [List.pairwise_map]
  exact s.up.imp fun {a b} hab e=>by rw [e] at hab; exact cmpL_irr _ hab
theorem undoI_chk {S:List Df} (s:SOK S) {i:Nat} (h:i≤S.length) {d:Df} (hd:d∈undoI S i):∃ e∈S,d.1=e.1:=by
  have h1:=List.mem_map_of_mem (f:=fun d:Df=>d.1) hd
  rw [undoI_times S i h] at h1
  obtain ⟨e,he,hq⟩:=List.mem_map.1 h1
  exact ⟨e,List.mem_of_mem_take he,hq.symm⟩
theorem undoI_fine {S:List Df} (s:SOK S) {i:Nat} (h:i≤S.length):Fine (undoI S i) where
  len:=by rw [undoI_len h]; exact Nat.le_trans h s.len
  num:=by
    have h1:=undoI_num h
    have h2:i*numD S≤2000*300000:=Nat.mul_le_mul (Nat.le_trans h s.len) s.num
    omega
  chk d hd:=by
    obtain ⟨e,he,hq⟩:=undoI_chk s h hd
    rw [hq]; exact s.chk e he
  same:=by
    obtain ⟨n,hn⟩:=s.same
    refine ⟨n,fun d hd=>?_⟩
    obtain ⟨e,he,hq⟩:=undoI_chk s h hd
    rw [hq]; exact hn e he
def undoH (S:List Df):Nat→Hm
  | 0=>[]
  | i+1=>match S[i]? with
    | some d=>mapSet HT (undoH S i) (keyT d.1) (some (undoB (undoI S i) d.1 d.2.1))
    | none=>undoH S i
theorem undoH_succ {S:List Df} {i:Nat} (hi:i < S.length):undoH S (i+1)=mapSet HT (undoH S i) (keyT S[i].1) (some (undoB (undoI S i) S[i].1 S[i].2.1)):=by
  rw [undoH,List.getElem?_eq_getElem hi]
theorem fresh {S:List Df} (s:SOK S) {i:Nat} (hi:i < S.length):S[i].1 ∉ (undoI S i).map (·.1):=by
  rw [undoI_times S i (by omega)]
  intro hm
  obtain ⟨e,he,hq⟩:=List.mem_map.1 hm
  obtain ⟨j,hj,hje⟩:=List.mem_iff_getElem.1 he
  rw [List.length_take] at hj
  rw [List.getElem_take] at hje
  have:=List.pairwise_iff_getElem.1 s.up j i (by omega) hi (by omega)
  rw [hje,hq] at this
  exact cmpL_irr _ this
theorem undoH_is {S:List Df} (s:SOK S):∀ i,i≤S.length→HIs (undoI S i) (undoH S i)
  | 0,_=>⟨List.Pairwise.nil,fun t _=>rfl,fun p hp=>by cases hp⟩
  | i+1,h=>by
    have ih:=undoH_is s i (by omega)
    have f:=undoI_fine s (i:=i+1) h
    rw [undoI_succ h] at f ⊢
    have h1:=his_snoc ih (d:=undoN (undoI S i) S[i]) fun e he=>fine_times f e.1 (List.mem_map_of_mem he)
    rw [undoH_succ h]
    have e1:bagOf ((undoN (undoI S i) S[i]).2.1.map (sc 1)) (bagAt (undoI S i) (undoN (undoI S i) S[i]).1)=undoB (undoI S i) S[i].1 S[i].2.1:=by
      rw [show (undoN (undoI S i) S[i]).1=S[i].1 from rfl,bagAt_none (fresh s h)]
      exact bag_back _
    rw [e1] at h1
    exact h1
theorem set_len (m:Hm) (k:HKy) (v:Option Bg):(mapSet HT m k v).length≤m.length+1:=by
  induction m with
  | nil=>simp [mapSet]
  | cons p r ih =>
    simp only [mapSet]
    cases HT.eqb k p.1 with
    | true=>simp
    | false =>
      cases HT.lt k p.1 with
      | true=>simp
      | false=>simp only [cond_false,List.length_cons]; omega
theorem undoH_len (S:List Df):∀ i,i≤S.length→(undoH S i).length≤i
  | 0,_=>Nat.le_refl _
  | i+1,h=>by
    have:=undoH_len S i (by omega)
    rw [undoH_succ h]
    have:=set_len (undoH S i) (keyT S[i].1) (some (undoB (undoI S i) S[i].1 S[i].2.1))
    omega
def sortH (D:List Df):List Df:=(sortT (D.map (·.1))).map fun t=>(t,rowsAt D t,())
theorem rowsAt_uniq:∀ {D:List Df},(D.map (·.1)).Nodup→∀ {d:Df},d∈D→rowsAt D d.1=d.2.1
  | [],_,d,hd=>by cases hd
  | e :: D,hn,d,hd=>by
    rw [List.map_cons,List.nodup_cons] at hn
    have hc:rowsAt (e :: D) d.1=(if e.1=d.1 then e.2.1 else [])++rowsAt D d.1:=rfl
    rw [hc]
    rcases List.mem_cons.1 hd with h | h
    · subst h
      rw [if_pos rfl,rowsAt_none hn.1,List.append_nil]
    · rw [if_neg (fun q=>hn.1 (by rw [q]; exact List.mem_map_of_mem h)),rowsAt_uniq hn.2 h]; rfl
theorem sortH_times (D:List Df):(sortH D).map (·.1)=sortT (D.map (·.1)):=by
  unfold sortH
  rw [List.map_map]
  have:((fun d:Df=>d.1)∘fun t=>((t,rowsAt D t,()):Df))=id:=rfl
  rw [this,List.map_id]
theorem sortH_perm {D:List Df} (hn:(D.map (·.1)).Nodup):(sortH D).Perm D:=by
  have h1:(sortH D).Nodup:=by
    have:=sortT_nodup (D.map (·.1))
    rw [←sortH_times] at this
    unfold List.Nodup at this
    rw [List.pairwise_map] at this
    exact this.imp fun {a b} hab e=>hab (by rw [e])
  have h2:D.Nodup:=by
    unfold List.Nodup at hn
    rw [List.pairwise_map] at hn
    exact hn.imp fun {a b} hab e=>hab (by rw [e])
  refine (List.perm_ext_iff_of_nodup h1 h2).2 fun d=>?_
  unfold sortH
  rw [List.mem_map]
  constructor
  · rintro ⟨t,ht,rfl⟩
    obtain ⟨e,he,rfl⟩:=List.mem_map.1 ((sort_facts _).2.1 t |>.1 ht)
    rw [rowsAt_uniq hn he]; exact he
  · intro hd
    exact ⟨d.1,((sort_facts _).2.1 _).2 (List.mem_map_of_mem hd),by rw [rowsAt_uniq hn hd]⟩
theorem sortH_ok {D:List Df} (hn:(D.map (·.1)).Nodup) (h1:D.length≤2000) (h2:numD D≤300000) (h3:∀ d∈D,chk d.1=0) (h4:∃ n,∀ d∈D,d.1.length=n):SOK (sortH D):=by
  have hp:=sortH_perm hn
  refine ⟨by rw [hp.length_eq]; exact h1,by rw [numD_perm hp]; exact h2,fun d hd=>h3 d (hp.mem_iff.1 hd),?_,?_⟩
  · obtain ⟨n,hn⟩:=h4
    exact ⟨n,fun d hd=>hn d (hp.mem_iff.1 hd)⟩
  · have:=(sort_facts (D.map (·.1))).2.2
    rw [←sortH_times,List.pairwise_map] at this
    exact this
theorem sort_times {F:Df→Df→Option Int} (hF:∀ a b:Df,a.1.length≤1000000→F a b=some (cmpL a.1 b.1)) {S z:List Df} (s:SOK S) (hz:z.Perm S):sortP F z=some S:=by
  have hlen:∀ x∈z,x.1.length≤1000000:=fun x hx=>by
    have:=(chk_zero (s.chk x (hz.mem_iff.1 hx))).2.1
    omega
  have hlt:∀ x∈z,∀ y:Df,ltF F x y↔cmpL x.1 y.1 < 0:=fun x hx y=>by
    unfold ltF
    rw [hF x y (hlen x hx)]
    exact ⟨fun ⟨v,h1,h2⟩=>by cases h1; exact h2,fun h=>⟨_,rfl,h⟩⟩
  have huniq:∀ x∈z,∀ y∈z,x.1=y.1→x=y:=by
    intro x hx y hy e
    have h1:=rowsAt_uniq s.nd (hz.mem_iff.1 hx)
    have h2:=rowsAt_uniq s.nd (hz.mem_iff.1 hy)
    rw [e,h2] at h1
    exact Prod.ext e (Prod.ext h1.symm rfl)
  refine sortP_eq ⟨fun x hx y _=>⟨_,hF x y (hlen x hx)⟩,fun x hx=>?_,fun x hx y hy w _=>?_,fun x hx y hy h1 h2=>?_⟩ hz.symm ?_
  · rw [hlt x hx]; exact cmpL_irr _
  · rw [hlt x hx,hlt x hx,hlt y hy]; exact cmpL_trans
  · rw [hlt x hx] at h1
    rw [hlt y hy] at h2
    refine huniq x hx y hy (cmpL_eq.1 ?_)
    rw [cmpL_neg] at h2
    omega
  · unfold Srt
    refine List.Pairwise.imp_of_mem (fun {a b} ha hb hab=>?_) s.up
    rw [hlt b (hz.mem_iff.2 hb)]
    intro hba
    exact cmpL_irr _ (cmpL_trans hab hba)
end

section
open Go Go.Abs

abbrev MvS:=Int × Bg × Unit
abbrev MvR:=Option (MvS ⊕ ((Bg × Unit) ⊕ Empty))
def mv2 (v11:Df):MvS→MvR:=fun y17 =>
  (cond (decide (y17.1 < (v11.2.1.length:Int))) ((getI v11.2.1 y17.1).bind fun v18=>(cond (((mapGet KT (mapSet KT (mapEnt KT y17.2.1 (v18.1,v18.2.1,()) (0:Int)) (v18.1,v18.2.1,()) (IntKind.i64.wrap (((mapGet KT y17.2.1 (v18.1,v18.2.1,())).getD (0:Int))+(IntKind.i64.wrap ((1:Int)*v18.2.2.1))))) (v18.1,v18.2.1,())).getD (0:Int)) == (0:Int)) (some (Sum.inl ((IntKind.i64.wrap (y17.1+(1:Int))),(mapDel KT (mapSet KT (mapEnt KT y17.2.1 (v18.1,v18.2.1,()) (0:Int)) (v18.1,v18.2.1,()) (IntKind.i64.wrap (((mapGet KT y17.2.1 (v18.1,v18.2.1,())).getD (0:Int))+(IntKind.i64.wrap ((1:Int)*v18.2.2.1))))) (v18.1,v18.2.1,())),()))) (some (Sum.inl ((IntKind.i64.wrap (y17.1+(1:Int))),(mapSet KT (mapEnt KT y17.2.1 (v18.1,v18.2.1,()) (0:Int)) (v18.1,v18.2.1,()) (IntKind.i64.wrap (((mapGet KT y17.2.1 (v18.1,v18.2.1,())).getD (0:Int))+(IntKind.i64.wrap ((1:Int)*v18.2.2.1))))),()))))) (some (Sum.inr (Sum.inl (y17.2.1,())))))
def mv3 (R:List Rw):MvS→MvR:=fun y31 =>
  (cond (decide (y31.1 < (R.length:Int))) (cond (inB y31.1 R.length) ((R[y31.1.toNat]?).bind fun v32=>(cond (((mapGet KT (mapSet KT (mapEnt KT y31.2.1 (v32.1,v32.2.1,()) (0:Int)) (v32.1,v32.2.1,()) (IntKind.i64.wrap (((mapGet KT y31.2.1 (v32.1,v32.2.1,())).getD (0:Int))+(IntKind.i64.wrap ((-1:Int)*v32.2.2.1))))) (v32.1,v32.2.1,())).getD (0:Int)) == (0:Int)) (some (Sum.inl ((IntKind.i64.wrap (y31.1+(1:Int))),(mapDel KT (mapSet KT (mapEnt KT y31.2.1 (v32.1,v32.2.1,()) (0:Int)) (v32.1,v32.2.1,()) (IntKind.i64.wrap (((mapGet KT y31.2.1 (v32.1,v32.2.1,())).getD (0:Int))+(IntKind.i64.wrap ((-1:Int)*v32.2.2.1))))) (v32.1,v32.2.1,())),()))) (some (Sum.inl ((IntKind.i64.wrap (y31.1+(1:Int))),(mapSet KT (mapEnt KT y31.2.1 (v32.1,v32.2.1,()) (0:Int)) (v32.1,v32.2.1,()) (IntKind.i64.wrap (((mapGet KT y31.2.1 (v32.1,v32.2.1,())).getD (0:Int))+(IntKind.i64.wrap ((-1:Int)*v32.2.2.1))))),()))))) none) (some (Sum.inr (Sum.inl (y31.2.1,())))))
abbrev MhS:=Int × Hm × Unit
abbrev MhR:=Option (MhS ⊕ ((Hm × Unit) ⊕ Empty))
noncomputable def mv5 (i:Int) (v9:List Df) (v11:Df):MhS→MhR:=fun y20 =>
  (cond (decide (y20.1 < (((i.toNat - (0:Int).toNat):Nat):Int))) (cond (inB y20.1 (i.toNat - (0:Int).toNat)) ((v9[((0:Int).toNat+y20.1.toNat)]?).bind fun v21=>((times_Under (v21.1,v11.1,())).bind fun r22=>(cond r22.1 ((diffs_KeyOf (v21.1,())).bind fun r23=>(optK ((mapGet HT y20.2.1 r23.1).getD (none:(Option Bg))) none (fun v24=>((bags_Bag_Rows (v24,())).bind fun r25=>((diffs_KeyOf (v11.1,())).bind fun r26=>(optK ((mapGet HT (mapPut HT y20.2.1 r23.1 (some v24)) r26.1).getD (none:(Option Bg))) (optK ((mapGet HT (mapSet HT (mapPut HT y20.2.1 r23.1 (some v24)) r26.1 (some ([]:List ((Int × (Int × Unit)) × Int)))) r26.1).getD (none:(Option Bg))) none (fun v28=>((loopM (mv3 r25.1) ((0:Int),v28,())).bind (Sum.elim (fun z33=>(some (Sum.inl ((IntKind.i64.wrap (y20.1+(1:Int))),(mapPut HT (mapSet HT (mapPut HT y20.2.1 r23.1 (some v24)) r26.1 (some ([]:List ((Int × (Int × Unit)) × Int)))) r26.1 (some z33.1)),())))) Empty.elim)))) (fun v27=>(optK ((mapGet HT (mapPut HT (mapPut HT y20.2.1 r23.1 (some v24)) r26.1 (some v27)) r26.1).getD (none:(Option Bg))) none (fun v34=>((loopM (mv3 r25.1) ((0:Int),v34,())).bind (Sum.elim (fun z39=>(some (Sum.inl ((IntKind.i64.wrap (y20.1+(1:Int))),(mapPut HT (mapPut HT (mapPut HT y20.2.1 r23.1 (some v24)) r26.1 (some v27)) r26.1 (some z39.1)),())))) Empty.elim))))))))))) (some (Sum.inl ((IntKind.i64.wrap (y20.1+(1:Int))),y20.2.1,())))))) none) (some (Sum.inr (Sum.inl (y20.2.1,())))))
noncomputable def mv10 (v9:List Df):MhS→MhR:=fun y10 =>
  (cond (decide (y10.1 < (v9.length:Int))) (cond (inB y10.1 v9.length) ((v9[y10.1.toNat]?).bind fun v11=>((diffs_KeyOf (v11.1,())).bind fun r12=>(optK ((mapGet HT y10.2.1 r12.1).getD (none:(Option Bg))) (optK ((mapGet HT (mapSet HT y10.2.1 r12.1 (some ([]:List ((Int × (Int × Unit)) × Int)))) r12.1).getD (none:(Option Bg))) none (fun v14=>((loopM (mv2 v11) ((0:Int),v14,())).bind (Sum.elim (fun z19=>(cond (decide (0≤(0:Int)) && decide ((0:Int)≤y10.1) && decide (y10.1≤v9.length)) ((loopM (mv5 y10.1 v9 v11) ((0:Int),(mapPut HT (mapSet HT y10.2.1 r12.1 (some ([]:List ((Int × (Int × Unit)) × Int)))) r12.1 (some z19.1)),())).bind (Sum.elim (fun z40=>(some (Sum.inl ((IntKind.i64.wrap (y10.1+(1:Int))),z40.1,())))) Empty.elim)) none)) Empty.elim)))) (fun v13=>(optK ((mapGet HT (mapPut HT y10.2.1 r12.1 (some v13)) r12.1).getD (none:(Option Bg))) none (fun v41=>((loopM (mv2 v11) ((0:Int),v41,())).bind (Sum.elim (fun z46=>(cond (decide (0≤(0:Int)) && decide ((0:Int)≤y10.1) && decide (y10.1≤v9.length)) ((loopM (mv5 y10.1 v9 v11) ((0:Int),(mapPut HT (mapPut HT y10.2.1 r12.1 (some v13)) r12.1 (some z46.1)),())).bind (Sum.elim (fun z67=>(some (Sum.inl ((IntKind.i64.wrap (y10.1+(1:Int))),z67.1,())))) Empty.elim)) none)) Empty.elim)))))))) none) (some (Sum.inr (Sum.inl (y10.2.1,())))))
theorem mv2_eq (d:Df) (m:Bg) (hl:d.2.1.length≤3000000000000):loopM (mv2 d) ((0:Int),m,())=some (.inl (bagOf (d.2.1.map (sc 1)) m,())):=by
  refine loopM_sim d.2.1.length (fun i=>((i:Int),bagOf ((d.2.1.take i).map (sc 1)) m,())) _ (fun i hi=>?_) ?_ rfl
  · unfold mv2
    simp only [dcT (show (i:Int) < (d.2.1.length:Int) by omega),cond_true,getI_nat,List.getElem?_eq_getElem hi,Option.bind_some,wrapS (show i < 9223372036854775807 by omega)]
    rw [show bagOf ((d.2.1.take (i+1)).map (sc 1)) m=pour (bagOf ((d.2.1.take i).map (sc 1)) m) (kyOf d.2.1[i]) (W (1*d.2.1[i].2.2.1)) from bagOf_take d.2.1 1 m hi]
    unfold pour nOf W kyOf
    cases hq:(((mapGet KT (mapSet KT (mapEnt KT (bagOf ((d.2.1.take i).map (sc 1)) m) (d.2.1[i].1,d.2.1[i].2.1,()) 0) (d.2.1[i].1,d.2.1[i].2.1,()) (IntKind.i64.wrap (((mapGet KT (bagOf ((d.2.1.take i).map (sc 1)) m) (d.2.1[i].1,d.2.1[i].2.1,())).getD 0)+IntKind.i64.wrap (1*d.2.1[i].2.2.1)))) (d.2.1[i].1,d.2.1[i].2.1,())).getD 0) == 0) with
    | true=>simp only [cond_true]
    | false=>simp only [cond_false]
  · unfold mv2
    simp only [dcF (show ¬ (d.2.1.length:Int) < (d.2.1.length:Int) by omega),cond_false,List.take_length]
theorem mv3_eq (R:List Rw) (m:Bg) (hl:R.length≤3000000000000):loopM (mv3 R) ((0:Int),m,())=some (.inl (bagOf (R.map (sc (-1))) m,())):=by
  refine loopM_sim R.length (fun i=>((i:Int),bagOf ((R.take i).map (sc (-1))) m,())) _ (fun i hi=>?_) ?_ rfl
  · unfold mv3
    simp only [dcT (show (i:Int) < (R.length:Int) by omega),cond_true,inB_T hi,Int.toNat_natCast,List.getElem?_eq_getElem hi,Option.bind_some,wrapS (show i < 9223372036854775807 by omega)]
    rw [show bagOf ((R.take (i+1)).map (sc (-1))) m=pour (bagOf ((R.take i).map (sc (-1))) m) (kyOf R[i]) (W (-1*R[i].2.2.1)) from bagOf_take R (-1) m hi]
    unfold pour nOf W kyOf
    cases hq:(((mapGet KT (mapSet KT (mapEnt KT (bagOf ((R.take i).map (sc (-1))) m) (R[i].1,R[i].2.1,()) 0) (R[i].1,R[i].2.1,()) (IntKind.i64.wrap (((mapGet KT (bagOf ((R.take i).map (sc (-1))) m) (R[i].1,R[i].2.1,())).getD 0)+IntKind.i64.wrap (-1*R[i].2.2.1)))) (R[i].1,R[i].2.1,())).getD 0) == 0) with
    | true=>simp only [cond_true]
    | false=>simp only [cond_false]
  · unfold mv3
    simp only [dcF (show ¬ (R.length:Int) < (R.length:Int) by omega),cond_false,List.take_length]
theorem undo_at {S:List Df} (s:SOK S) {i:Nat} (h:i≤S.length) {j:Nat} (hj:j < i):∃ hj':j < (undoI S i).length,(undoI S i)[j].1=(S[j]'(by omega)).1:=by
  have hl:=undoI_len h
  refine ⟨by omega,?_⟩
  have h1:=undoI_times S i h
  have h2:((undoI S i).map (·.1))[j]? = ((S.take i).map (·.1))[j]?:=by rw [h1]
  rw [List.getElem?_map,List.getElem?_map,List.getElem?_take,if_pos hj,List.getElem?_eq_getElem (by omega),List.getElem?_eq_getElem (by omega)] at h2
  exact Option.some.inj h2
theorem mv5_eq {S:List Df} (s:SOK S) {i:Nat} (hi:i < S.length) (B:Bg) :
    loopM (mv5 (i:Int) S S[i]) ((0:Int),mapSet HT (undoH S i) (keyT S[i].1) (some B),())=some (.inl (mapSet HT (undoH S i) (keyT S[i].1) (some (bagOf ((standR (undoI S i) S[i].1).map (sc (-1))) B)),())):=by
  have his:=undoH_is s i (by omega)
  have hlen:=undoI_len (S:=S) (i:=i) (by omega)
  have hS:=s.len
  have hN:=s.num
  obtain ⟨n,hn⟩:=s.same
  have hfr:=fresh s hi
  have h4i:S[i].1.length≤4:=(chk_zero (s.chk _ (List.getElem_mem hi))).2.1
  refine loopM_sim i (fun j=>((j:Int),mapSet HT (undoH S i) (keyT S[i].1) (some (bagOf ((standR ((undoI S i).take j) S[i].1).map (sc (-1))) B)),())) _ (fun j hj=>?_) ?_ rfl
  · obtain ⟨hj',ht⟩:=undo_at s (show i≤S.length by omega) hj
    have hjS:j < S.length:=by omega
    have h4j:S[j].1.length≤4:=(chk_zero (s.chk _ (List.getElem_mem hjS))).2.1
    have hlj:S[j].1.length=S[i].1.length:=by rw [hn _ (List.getElem_mem hjS),hn _ (List.getElem_mem hi)]
    have hle:leB S[j].1 S[i].1=underL S[j].1 S[i].1:=leB_of hlj (s.chk _ (List.getElem_mem hjS)) (s.chk _ (List.getElem_mem hi))
    have hne:S[j].1≠S[i].1:=fun e=>hfr (by rw [←e,←ht]; exact List.mem_map_of_mem (List.getElem_mem hj'))
    have hke:keyT S[j].1≠keyT S[i].1:=fun e=>hne (keyT_inj h4j h4i e)
    have hdec:decide ((j:Int) < (((i:Int).toNat - (0:Int).toNat:Nat):Int))=true:=decide_eq_true (by rw [Int.toNat_natCast]; show (j:Int) < ((i - 0:Nat):Int); omega)
    have hin:inB (j:Int) ((i:Int).toNat - (0:Int).toNat)=true:=inB_T (by rw [Int.toNat_natCast]; show j < i - 0; omega)
    have hgt:S[((0:Int).toNat+(j:Int).toNat)]? = some S[j]:=by rw [Int.toNat_natCast,show (0:Int).toNat+j=j from Nat.zero_add j,List.getElem?_eq_getElem hjS]
    unfold mv5
    simp only [hdec,cond_true,hin,hgt,Option.bind_some,times_Under_eq hlj (show S[j].1.length≤1000000 by omega),←hle,keyOf_eq,wrapS (show j < 9223372036854775807 by omega)]
    have htk:(undoI S i).take (j+1)=(undoI S i).take j++[(undoI S i)[j]]:=List.take_succ_eq_append_getElem hj'
    rw [htk,standR_snoc,ht]
    generalize hQ:bagOf ((standR ((undoI S i).take j) S[i].1).map (sc (-1))) B=Q
    cases hb:leB S[j].1 S[i].1 with
    | false =>
      rw [cond_false,if_neg (by simp),List.append_nil,hQ]
    | true =>
      have hg:mapGet HT (mapSet HT (undoH S i) (keyT S[i].1) (some Q)) (keyT S[j].1)=some (some (bagAt (undoI S i) S[j].1)):=by
        rw [mapGet_other ht_flat _ _ _ _ hke,his.get _ h4j,if_pos (by rw [←ht]; exact List.mem_map_of_mem (List.getElem_mem hj'))]
      have hgs:mapGet HT (mapSet HT (undoH S i) (keyT S[i].1) (some Q)) (keyT S[i].1)=some (some Q):=mapGet_self ht_flat _ _ _
      have hr0:=his.rise
      have hr:Rise HT (mapSet HT (undoH S i) (keyT S[i].1) (some Q)):=mapSet_rise ht_flat hr0
      have hnd:((undoI S i).map (·.1)).Nodup:=by
        rw [undoI_times S i (by omega)]
        exact (s.nd).sublist ((List.take_sublist i S).map _)
      obtain ⟨⟨l,hl⟩,-⟩:=undoI_keys S i (by omega) _ (List.getElem_mem hj')
      have hba:bagAt (undoI S i) S[j].1=bagOf l []:=by
        unfold bagAt
        rw [←ht,rowsAt_uniq hnd (List.getElem_mem hj'),hl,bag_back]
      have hbl:(bagOf l []).length≤300000:=by
        have:=undoI_rows (show i≤S.length by omega) (List.getElem_mem hj')
        rw [hl,List.length_map] at this
        omega
      rw [cond_true,if_pos rfl,List.map_append,bagOf_app,hQ]
      rw [show mapGet HT (mapSet HT (undoH S i) (keyT S[i].1) (some Q)) (keyT S[j].1)=_ from hg]
      simp only [Option.getD_some,optK]
      rw [show mapPut HT (mapSet HT (undoH S i) (keyT S[i].1) (some Q)) (keyT S[j].1) (some (bagAt (undoI S i) S[j].1))=_ from mapPut_same ht_flat hr hg]
      rw [hba,show bags_Bag_Rows (bagOf l [],())=_ from rows_eq (bag_rise l) (by omega)]
      simp only [Option.bind_some]
      rw [show mapGet HT (mapSet HT (undoH S i) (keyT S[i].1) (some Q)) (keyT S[i].1)=_ from hgs]
      simp only [Option.getD_some]
      rw [show mapPut HT (mapSet HT (undoH S i) (keyT S[i].1) (some Q)) (keyT S[i].1) (some Q)=_ from mapPut_same ht_flat hr hgs,show mapGet HT (mapSet HT (undoH S i) (keyT S[i].1) (some Q)) (keyT S[i].1)=_ from hgs]
      simp only [Option.getD_some]
      rw [mv3_eq _ _ (by rw [List.length_map]; omega)]
      simp only [Option.bind_some,Sum.elim_inl]
      rw [show mapPut HT (mapSet HT (undoH S i) (keyT S[i].1) (some Q)) (keyT S[i].1) (some (bagOf (((bagOf l []).map toR).map (sc (-1))) Q))=_ from put_set ht_flat hr0 _ _ _,hl]
  · unfold mv5
    have hdec:decide ((i:Int) < (((i:Int).toNat - (0:Int).toNat:Nat):Int))=false:=decide_eq_false (by rw [Int.toNat_natCast]; show ¬ (i:Int) < ((i - 0:Nat):Int); omega)
    simp only [hdec,cond_false]
    rw [List.take_of_length_le (by omega)]
theorem mv10_eq {S:List Df} (s:SOK S):loopM (mv10 S) ((0:Int),([]:Hm),())=some (.inl (undoH S S.length,())):=by
  have hS:=s.len
  have hN:=s.num
  refine loopM_sim S.length (fun i=>((i:Int),undoH S i,())) _ (fun i hi=>?_) ?_ rfl
  · have his:=undoH_is s i (by omega)
    have h4i:S[i].1.length≤4:=(chk_zero (s.chk _ (List.getElem_mem hi))).2.1
    have hg:=his.get S[i].1 h4i
    rw [if_neg (fresh s hi)] at hg
    have hrl:=len_le_num (List.getElem_mem hi)
    unfold mv10
    simp only [dcT (show (i:Int) < (S.length:Int) by omega),cond_true,inB_T hi,Int.toNat_natCast,List.getElem?_eq_getElem hi,Option.bind_some,keyOf_eq,wrapS (show i < 9223372036854775807 by omega)]
    rw [show mapGet HT (undoH S i) (keyT S[i].1)=_ from hg]
    simp only [Option.getD_none,optK]
    rw [show mapGet HT (mapSet HT (undoH S i) (keyT S[i].1) (some ([]:Bg))) (keyT S[i].1)=_ from mapGet_self ht_flat _ _ _]
    simp only [Option.getD_some]
    rw [mv2_eq _ _ (by omega)]
    simp only [Option.bind_some,Sum.elim_inl]
    rw [show mapPut HT (mapSet HT (undoH S i) (keyT S[i].1) (some ([]:Bg))) (keyT S[i].1) (some (bagOf (S[i].2.1.map (sc 1)) []))=_ from put_set ht_flat his.rise _ _ _]
    rw [show decide ((0:Int)≤(0:Int))=true from rfl,dcT (show (0:Int)≤(i:Int) by omega),dcT (show (i:Int)≤(S.length:Int) by omega)]
    simp only [Bool.and_self,cond_true]
    rw [mv5_eq s hi]
    simp only [Option.bind_some,Sum.elim_inl]
    rw [←undoB_eq,undoH_succ hi]
  · unfold mv10
    simp only [dcF (show ¬ (S.length:Int) < (S.length:Int) by omega),cond_false]
theorem undo_told {S:List Df} (s:SOK S):(allSome (undoH S S.length)).bind (fun v=>(diffs_History_Tells (v,())).bind fun r=>some r)=some (told (tidyL (undoI S S.length))):=by
  have hf:=undoI_fine s (Nat.le_refl S.length)
  have h4:=fine_times hf
  have hi:=undoH_is s S.length (Nat.le_refl _)
  rw [his_allB h4 hi]
  simp only [Option.bind_some]
  have hlen:(allB (undoH S S.length)).length≤2000:=by
    have:=undoH_len S S.length (Nat.le_refl _)
    have:=s.len
    unfold allB
    rw [List.length_map]; omega
  rw [tells_eq hf.len h4 (fun t=>by have:=bag_rows (undoI S S.length) t; have:=rows_le (undoI S S.length) t; have:=hf.num; omega) (his_mis h4 hi) hlen]; rfl
theorem ref_undo_eq {D:List Df} (hn:(D.map (·.1)).Nodup) (h1:D.length≤2000) (h2:numD D≤300000) (h3:∀ d∈D,chk d.1=0) (h4:∃ n,∀ d∈D,d.1.length=n):ref_DiffsUndo (D,())=some (undoI (sortH D) (sortH D).length,()):=by
  have s:=sortH_ok hn h1 h2 h3 h4
  have h4':=h4
  obtain ⟨n,hnl⟩:=h4
  have ht4:∀ t∈D.map (·.1),t.length≤4:=fun t ht=>by
    obtain ⟨d,hd,rfl⟩:=List.mem_map.1 ht
    exact (chk_zero (h3 d hd)).2.1
  unfold ref_DiffsUndo
  rw [ref_times_map (by omega)]
  simp only [Option.bind_some]
  rw [ref_TimesSorted_eq (by rw [List.length_map]; omega) n (fun t ht=>by
    obtain ⟨d,hd,rfl⟩:=List.mem_map.1 ht
    exact ⟨h3 d hd,hnl d hd⟩)]
  simp only [Option.bind_some]
  have hst:=sortH_times D
  have hsl:(sortT (D.map (·.1))).length=(sortH D).length:=by rw [←hst,List.length_map]
  have hSl:=s.len
  have hl:=loopM_sim (f:=ref_DiffsUndo_l2 (D,()) (sortT (D.map (·.1)),())) (s0:=(([]:List Df),(0:Int),())) (sortH D).length (fun i=>(undoI (sortH D) i,(i:Int),())) (.inl (undoI (sortH D) (sortH D).length,())) (fun i hi=>by
    have hiT:i < (sortT (D.map (·.1))).length:=by omega
    have hge:(sortH D)[i]=((sortT (D.map (·.1)))[i],rowsAt D (sortT (D.map (·.1)))[i],()):=by
      have hq:(sortH D)[i]? = some ((sortT (D.map (·.1)))[i],rowsAt D (sortT (D.map (·.1)))[i],()):=by
        unfold sortH
        rw [List.getElem?_map,List.getElem?_eq_getElem hiT]; rfl
      rw [List.getElem?_eq_getElem hi] at hq
      exact Option.some.inj hq
    rw [undoI_succ hi,hge]
    generalize sortT (D.map (·.1))=T at hiT
    have hrl:=rows_le D T[i]
    have hf:=undoI_fine s (i:=i) (by omega)
    have hnum:=hf.num
    have hlen:=undoI_len (S:=sortH D) (i:=i) (by omega)
    have hsb:((standB (undoI (sortH D) i) T[i]).map toR).length≤1000000000000:=by
      rw [List.length_map]
      have:=bag_length ((standR (undoI (sortH D) i) T[i]).map (sc 1)) []
      rw [List.length_nil,List.length_map] at this
      have:=standR_le (undoI (sortH D) i) T[i]
      unfold standB; omega
    unfold ref_DiffsUndo_l2
    simp only [dcT (show (i:Int) < (T.length:Int) by omega),cond_true,getI_nat,List.getElem?_eq_getElem hiT,Option.bind_some,wrapS (show i < 9223372036854775807 by omega)]
    rw [show loopM (ref_DiffsUndo_l1 (D,()) T[i]) (([]:List Rw),(0:Int),())=_ from ref_tidy_l1 h1 (by omega) ht4 T[i]]
    simp only [Option.bind_some,Sum.elim_inl]
    rw [ref_stands_eq hf]
    simp only [Option.bind_some]
    rw [poured_eq _ _ (-1) (by rw [List.length_map]; omega) (by omega)]
    simp only [Option.bind_some]
    rw [ref_Bag_eq (by rw [List.length_append,List.length_map,List.length_map]; omega),rows_bag (fun r hr=>by
      rcases List.mem_append.1 hr with hr | hr
      · exact sc1_in _ r hr
      · obtain ⟨q,-,rfl⟩:=List.mem_map.1 hr
        exact inR_W _)]
    simp only [Option.bind_some,hlen]
    have hone:∀ x:Df,([x]:List Df).length=1:=fun _=>rfl
    rw [hone,room_ok (show i+1≤140737488355328 by omega) (show (i+1)*48≤140737488355328 by omega)]
    rfl) (by
    unfold ref_DiffsUndo_l2
    simp only [dcF (show ¬ ((sortH D).length:Int) < ((sortT (D.map (·.1))).length:Int) by omega),cond_false]) rfl
  rw [hl]; rfl
end

section
open Go Go.Abs

noncomputable def cmpS (a b:List Int):Option Int:=(slices_Compare_s_int_int (a,b,())).map fun r=>r.1
theorem cmpS_eq {a b:List Int} (ha:a.length≤1000000):cmpS a b=some (cmpL a b):=by
  unfold cmpS; rw [slices_Compare_eq ha]; rfl
theorem ltS_iff {a b:List Int} (ha:a.length≤1000000):ltF cmpS a b↔cmpL a b < 0:=by
  unfold ltF
  rw [cmpS_eq ha]
  constructor
  · rintro ⟨v,h1,h2⟩; cases h1; exact h2
  · exact fun h=>⟨_,rfl,h⟩
def insD (t:List Int):List (List Int)→List (List Int)
  | []=>[t]
  | u :: l=>if cmpL u t < 0 then u :: insD t l else t :: u :: l
def sortD:List (List Int)→List (List Int)
  | []=>[]
  | t :: l=>insD t (sortD l)
theorem insD_perm (t:List Int):∀ l,(insD t l).Perm (t :: l)
  | []=>List.Perm.refl _
  | u :: l=>by
    simp only [insD]
    split
    · exact ((insD_perm t l).cons u).trans (List.Perm.swap t u l)
    · exact List.Perm.refl _
theorem sortD_perm:∀ l,(sortD l).Perm l
  | []=>List.Perm.refl _
  | t :: l=>(insD_perm t (sortD l)).trans ((sortD_perm l).cons t)
theorem insD_srt {t:List Int}:∀ {l:List (List Int)},l.Pairwise (fun a b=>¬ cmpL b a < 0)→(insD t l).Pairwise fun a b=>¬ cmpL b a < 0
  | [],_=>by simp [insD]
  | u :: l,h=>by
    have h1:=List.pairwise_cons.1 h
    simp only [insD]
    split
    · rename_i hu
      refine List.pairwise_cons.2 ⟨fun v hv=>?_,insD_srt h1.2⟩
      rcases List.mem_cons.1 ((insD_perm t l).mem_iff.1 hv) with rfl | hv
      · intro h; rw [cmpL_neg] at h; omega
      · exact h1.1 v hv
    · rename_i hu
      refine List.pairwise_cons.2 ⟨fun v hv=>?_,h⟩
      rcases List.mem_cons.1 hv with rfl | hv
      · exact hu
      · intro hvt
        rw [cmpL_neg] at hu
        have h2:=h1.1 v hv
        rw [cmpL_neg] at h2
        by_cases e:cmpL t u=0
        · rw [cmpL_eq.1 e] at hvt; rw [cmpL_neg] at hvt; omega
        · exact absurd (cmpL_trans hvt (show cmpL t u < 0 by omega)) (by rw [cmpL_neg]; omega)
theorem sortD_srt:∀ l:List (List Int),(sortD l).Pairwise fun a b=>¬ cmpL b a < 0
  | []=>List.Pairwise.nil
  | t :: l=>insD_srt (sortD_srt l)
theorem sort_is {l:List (List Int)} (h:∀ t∈l,t.length≤1000000):sortP cmpS l=some (sortD l):=by
  refine sortP_eq ⟨fun x hx y _=>⟨_,cmpS_eq (h x hx)⟩,fun x hx hlt=>cmpL_irr x ((ltS_iff (h x hx)).1 hlt),fun x hx y hy z _ h1 h2=>(ltS_iff (h x hx)).2 (cmpL_trans ((ltS_iff (h x hx)).1 h1) ((ltS_iff (h y hy)).1 h2)),fun x hx y hy h1 h2=>?_⟩ (sortD_perm l) ?_
  · have a1:¬ cmpL x y < 0:=fun e=>h1 ((ltS_iff (h x hx)).2 e)
    have a2:¬ cmpL y x < 0:=fun e=>h2 ((ltS_iff (h y hy)).2 e)
    rw [cmpL_neg] at a2
    exact cmpL_eq.1 (by omega)
  · unfold Srt
    have hm:∀ t∈sortD l,t.length≤1000000:=fun t ht=>h t ((sortD_perm l).mem_iff.1 ht)
    refine (List.Pairwise.and_mem.1 (sortD_srt l)).imp fun {a b} hab hlt=>hab.2.2 ((ltS_iff (hm b hab.2.1)).1 hlt)
theorem clone_one {t:List Int} (h:t.length≤1000000):slices_Clone_s_int_int (t,())=some (t,()):=by
  unfold slices_Clone_s_int_int
  simp only [List.length_nil,Nat.zero_add,room_ok (show t.length≤140737488355328 by omega) (show t.length*8≤140737488355328 by omega),Bool.and_true,cond_true,List.nil_append]
end

section
open Go Go.Abs

theorem mx_comm (a b:Int):mx a b=mx b a:=by unfold mx; split <;> split <;> omega
theorem mx_assoc (a b c:Int):mx (mx a b) c=mx a (mx b c):=by
  unfold mx
  repeat' split
  all_goals omega
theorem mx_self (a:Int):mx a a=a:=by unfold mx; split <;> omega
theorem joinL_self:∀ a:List Int,joinL a a=a
  | []=>rfl
  | x :: a=>by
    show mx x x :: joinL a a=_
    rw [mx_self,joinL_self a]
theorem joinL_comm:∀ a b:List Int,joinL a b=joinL b a
  | [],[]=>rfl
  | [],_ :: _=>rfl
  | _ :: _,[]=>rfl
  | x :: a,y :: b=>by
    show mx x y :: joinL a b=mx y x :: joinL b a
    rw [mx_comm,joinL_comm a b]
theorem joinL_assoc:∀ a b c:List Int,joinL (joinL a b) c=joinL a (joinL b c)
  | [],_,_=>by simp [joinL]
  | _ :: _,[],_=>by simp [joinL]
  | _ :: _,_ :: _,[]=>by simp [joinL]
  | x :: a,y :: b,z :: c=>by
    show mx (mx x y) z :: joinL (joinL a b) c=mx x (mx y z) :: joinL a (joinL b c)
    rw [mx_assoc,joinL_assoc a b c]
abbrev Sn:=List (HT.den × Int)
def Keys (seen:Sn) (l:List (List Int)):Prop:=∀ u:List Int,u.length≤4→((mapGet HT seen (keyT u)).isSome=true↔u∈l)
theorem keys_set {seen:Sn} {l:List (List Int)} (h:Keys seen l) (hl:∀ x∈l,x.length≤4) {u:List Int} (hu:u.length≤4) (n:Int):Keys (mapSet HT seen (keyT u) n) (l++[u]):=by
  intro v hv
  by_cases e:keyT v=keyT u
  · have:=keyT_inj hv hu e
    subst this
    rw [mapGet_self ht_flat]
    simp
  · rw [mapGet_other ht_flat _ _ _ _ e,h v hv]
    have hne:v≠u:=fun e'=>e (by rw [e'])
    simp [hne]
def Jn (S:List Int→Prop) (t:List Int) (x:List Int):Prop:=S x∨x=t∨∃ y,S y∧x=joinL t y
theorem jn_join {S:List Int→Prop} {t x:List Int} (h:Jn S t x):Jn S t (joinL t x):=by
  rcases h with h | rfl | ⟨y,hy,rfl⟩
  · exact .inr (.inr ⟨x,h,rfl⟩)
  · exact .inr (.inl (joinL_self _))
  · refine .inr (.inr ⟨y,hy,?_⟩)
    rw [←joinL_assoc,joinL_self]
theorem step_l1 {t:List Int} {l:List (List Int)} {seen:Sn} {u:List Int} {i i':Int} (hl:l.length≤64) (hu4:u.length≤4) (hK:Keys seen l)
    (hi:i < (l.length:Int)) (hw:IntKind.i64.wrap (i+1)=i')
    (hu:(((cond (decide (i ≥ (0:Int))) (cond (inB i l.length) ((l[i.toNat]?).bind fun v4=>((times_Over (t,v4,())).bind fun r5=>(some (Sum.inl r5)))) none) (some (Sum.inl (t,())))):Option (((List Int) × Unit) ⊕ Empty)))=some (.inl (u,()))) :
    incr_closed_l1 t (l,i,seen,())=if u∈l then some (.inl (l,i',seen,())) else if l.length=64 then some (.inr (.inl (([]:List (List Int)),false,mapSet HT seen (keyT u) (l.length:Int),()))) else some (.inl (l++[u],i',mapSet HT seen (keyT u) (l.length:Int),())):=by
  have hc:=clone_one (t:=u) (by omega)
  have hlen:(l++[u]).length=l.length+1:=by simp
  have hroom:roomOk (l.length+([u]:List (List Int)).length) 24=true:=by
    rw [show ([u]:List (List Int)).length=1 from rfl]
    unfold roomOk
    rw [Bool.and_eq_true]
    exact ⟨Nat.ble_eq_true_of_le (by omega),Nat.ble_eq_true_of_le (by omega)⟩
  unfold incr_closed_l1
  simp only [dcT hi,cond_true]
  rw [hu]
  simp only [Option.bind_some,Sum.elim_inl,keyOf_eq,hc,hroom,hlen,hw,Bool.and_true,Bool.true_and,cond_true]
  have hk:=hK u hu4
  cases hs:(mapGet HT seen (keyT u)).isSome with
  | true =>
    rw [if_pos (hk.1 hs)]; rfl
  | false =>
    rw [if_neg (fun h=>by rw [hk.2 h] at hs; cases hs)]
    simp only [cond_false]
    by_cases h64:l.length=64
    · rw [if_pos h64,dcT (show ((l.length+1:Nat):Int) > 64 by omega)]; rfl
    · rw [if_neg h64,dcF (show ¬ ((l.length+1:Nat):Int) > 64 by omega)]; rfl
structure Inn (S:List Int→Prop) (t:List Int) (d:Nat) (l:List (List Int)) (i:Int) (seen:Sn):Prop where
  len:l.length≤64
  nd:l.Nodup
  dim:∀ x∈l,x.length=d
  keys:Keys seen l
  sub:∀ x∈l,Jn S t x
  lo:-1≤i
  hi:i≤l.length
  first:0≤i→t∈l
  done:∀ (k:Nat) (x:List Int),(k:Int) < i→l[k]? = some x→joinL t x∈l
theorem inner_run {S:List Int→Prop} {t:List Int} {d:Nat} (hd:d≤4) (ht:t.length=d):∀ (μ:Nat) (l:List (List Int)) (i:Int) (seen:Sn),Inn S t d l i seen→2*(64 - (l.length:Int))+(l.length - i)≤μ →
    (∃ seen',loopM (incr_closed_l1 t) (l,i,seen,())=some (.inl ([],false,seen',()))∧∃ big:List (List Int),big.length=65∧big.Nodup∧∀ x∈big,Jn S t x) ∨
    ∃ l' seen',loopM (incr_closed_l1 t) (l,i,seen,())=some (.inr (.inl (l',seen',())))∧Inn S t d l' l'.length seen'∧(∀ x∈l,x∈l')
  | 0,l,i,seen,h,hμ=>by
    have h1:=h.len
    have h2:=h.hi
    have he:i=l.length:=by omega
    subst he
    right
    refine ⟨l,seen,loopM_inr ?_,h,fun x hx=>hx⟩
    unfold incr_closed_l1
    simp only [dcF (show ¬ (l.length:Int) < (l.length:Int) by omega),cond_false]
  | μ+1,l,i,seen,h,hμ=>by
    have h1:=h.len
    have h2:=h.hi
    have h3:=h.lo
    by_cases he:i=l.length
    · subst he
      right
      refine ⟨l,seen,loopM_inr ?_,h,fun x hx=>hx⟩
      unfold incr_closed_l1
      simp only [dcF (show ¬ (l.length:Int) < (l.length:Int) by omega),cond_false]
    have hlt:i < (l.length:Int):=by omega
    have hw:IntKind.i64.wrap (i+1)=i+1:=wrap64 (by omega) (by omega)
    obtain ⟨u,hu,hud,hJ,hdone⟩:∃ u:List Int,(((cond (decide (i ≥ (0:Int))) (cond (inB i l.length) ((l[i.toNat]?).bind fun v4=>((times_Over (t,v4,())).bind fun r5=>(some (Sum.inl r5)))) none) (some (Sum.inl (t,())))):Option (((List Int) × Unit) ⊕ Empty)))=some (.inl (u,()))∧u.length=d∧Jn S t u ∧
        ((i=-1∧u=t)∨∃ (n:Nat) (x:List Int),i=n∧l[n]? = some x∧u=joinL t x):=by
      by_cases hneg:i=-1
      · subst hneg
        exact ⟨t,rfl,ht,.inr (.inl rfl),.inl ⟨rfl,rfl⟩⟩
      · obtain ⟨n,rfl⟩:∃ n:Nat,i=(n:Int):=⟨i.toNat,by omega⟩
        have hn:n < l.length:=by omega
        have hx:=h.dim _ (List.getElem_mem hn)
        refine ⟨joinL t l[n],?_,by rw [joinL_length (by omega)]; exact ht,jn_join (h.sub _ (List.getElem_mem hn)),.inr ⟨n,l[n],rfl,List.getElem?_eq_getElem hn,rfl⟩⟩
        simp only [dcT (show (n:Int) ≥ 0 by omega),cond_true,inB_T hn,Int.toNat_natCast,List.getElem?_eq_getElem hn,Option.bind_some,over_eq (show t.length=l[n].length by omega) (by omega)]
    have hst:=step_l1 (t:=t) (i':=i+1) h1 (by omega) h.keys hlt hw hu
    have hgo:∀ (l':List (List Int)),(∀ x∈l,x∈l')→(∃ r,l'=l++r)→u∈l'→(∀ (k:Nat) (x:List Int),(k:Int) < i+1→l'[k]? = some x→joinL t x∈l')∧(0≤i+1→t∈l'):=by
      rintro l' hs ⟨r,rfl⟩ hul
      constructor
      · intro k x hk hx
        have hkl:k < l.length:=by omega
        rw [List.getElem?_append_left hkl] at hx
        by_cases hki:(k:Int) < i
        · exact hs _ (h.done k x hki hx)
        · rcases hdone with ⟨h4,-⟩ | ⟨n,x',h4,h5,h6⟩
          · omega
          · have:k=n:=by omega
            subst this
            rw [hx] at h5; cases h5
            rw [←h6]; exact hul
      · intro _
        rcases hdone with ⟨-,h5⟩ | ⟨n,x',h4,-,-⟩
        · rw [←h5]; exact hul
        · exact hs _ (h.first (by omega))
    by_cases hm:u∈l
    · rw [if_pos hm] at hst
      rw [loopM_inl hst]
      obtain ⟨g1,g2⟩:=hgo l (fun x hx=>hx) ⟨[],by simp⟩ hm
      exact inner_run hd ht μ l (i+1) seen ⟨h1,h.nd,h.dim,h.keys,h.sub,by omega,by omega,g2,g1⟩ (by omega)
    · rw [if_neg hm] at hst
      have hnd:(l++[u]).Nodup:=by
        rw [List.nodup_append]
        exact ⟨h.nd,by simp,fun a ha b hb e=>by simp at hb; subst hb; subst e; exact hm ha⟩
      have hsub:∀ x∈l++[u],Jn S t x:=fun x hx=>by
        rcases List.mem_append.1 hx with hx | hx
        · exact h.sub x hx
        · simp at hx; subst hx; exact hJ
      by_cases h64:l.length=64
      · rw [if_pos h64] at hst
        left
        exact ⟨_,loopM_inr hst,l++[u],by simp [h64],hnd,hsub⟩
      · rw [if_neg h64] at hst
        rw [loopM_inl hst]
        obtain ⟨g1,g2⟩:=hgo (l++[u]) (fun x hx=>List.mem_append_left _ hx) ⟨[u],rfl⟩ (by simp)
        have hlen:(l++[u]).length=l.length+1:=by simp
        rcases inner_run hd ht μ (l++[u]) (i+1) (mapSet HT seen (keyT u) (l.length:Int)) ⟨by omega,hnd,fun x hx=>by
            rcases List.mem_append.1 hx with hx | hx
            · exact h.dim x hx
            · simp at hx; subst hx; exact hud,keys_set h.keys (fun x hx=>by rw [h.dim x hx]; exact hd) (by omega) _,hsub,by omega,by omega,g2,g1⟩ (by omega) with hr | ⟨l',seen',r1,r2,r3⟩
        · exact .inl hr
        · exact .inr ⟨l',seen',r1,r2,fun x hx=>r3 x (List.mem_append_left _ hx)⟩
def Jall (ts:List (List Int)):List Int→Prop:=ts.foldl Jn (fun _=>False)
theorem jall_snoc (ts:List (List Int)) (t:List Int):Jall (ts++[t])=Jn (Jall ts) t:=by unfold Jall; rw [List.foldl_append]; rfl
theorem jall_mono {x:List Int}:∀ (r:List (List Int)) {S:List Int→Prop},S x→r.foldl Jn S x
  | [],_,h=>h
  | t :: r,S,h=>jall_mono r (S:=Jn S t) (.inl h)
theorem jall_take {ts:List (List Int)} {x:List Int} (k:Nat) (h:Jall (ts.take k) x):Jall ts x:=by
  have:=jall_mono (ts.drop k) h
  unfold Jall at this ⊢
  rw [←List.foldl_append,List.take_append_drop] at this
  exact this
structure Clos (S:List Int→Prop) (T:List (List Int)):Prop where
  mem:∀ t∈T,S t
  join:∀ t∈T,∀ y,S y→S (joinL t y)
theorem clos_step {S:List Int→Prop} {T:List (List Int)} (h:Clos S T) (t:List Int):Clos (Jn S t) (T++[t]) where
  mem s hs:=by
    rcases List.mem_append.1 hs with hs | hs
    · exact .inl (h.mem s hs)
    · simp at hs; exact .inr (.inl hs)
  join s hs y hy:=by
    rcases List.mem_append.1 hs with hs1 | hs1
    · rcases hy with hy | rfl | ⟨z,hz,rfl⟩
      · exact .inl (h.join s hs1 y hy)
      · exact .inr (.inr ⟨s,h.mem s hs1,joinL_comm _ _⟩)
      · refine .inr (.inr ⟨joinL s z,h.join s hs1 z hz,?_⟩)
        rw [←joinL_assoc,joinL_comm s t,joinL_assoc]
    · simp at hs1; subst hs1; exact jn_join hy
theorem clos_fold:∀ (r:List (List Int)) {S:List Int→Prop} {T:List (List Int)},Clos S T→Clos (r.foldl Jn S) (T++r)
  | [],_,T,h=>by rw [List.append_nil]; exact h
  | t :: r,_,T,h=>by
    have:=clos_fold r (clos_step h t)
    rw [List.append_assoc] at this
    exact this
theorem jall_clos (ts:List (List Int)):Clos (Jall ts) ts:=clos_fold ts (T:=[]) ⟨fun t ht=>(nomatch ht),fun t ht=>(nomatch ht)⟩
theorem jall_all {Q:List Int→Prop} (hj:∀ a b,Q a→Q b→Q (joinL a b)):∀ (r:List (List Int)) {S:List Int→Prop},(∀ x,S x→Q x)→(∀ t∈r,Q t)→∀ x,r.foldl Jn S x→Q x
  | [],_,h,_,x,hx=>h x hx
  | t :: r,S,h,ht,x,hx=>jall_all hj r (S:=Jn S t) (fun y hy=>by
      rcases hy with hy | rfl | ⟨z,hz,rfl⟩
      · exact h y hy
      · exact ht _ List.mem_cons_self
      · exact hj _ _ (ht t List.mem_cons_self) (h z hz)) (fun s hs=>ht s (List.mem_cons_of_mem _ hs)) x hx
structure Out (S:List Int→Prop) (d:Nat) (l:List (List Int)) (seen:Sn):Prop where
  len:l.length≤64
  nd:l.Nodup
  dim:∀ x∈l,x.length=d
  keys:Keys seen l
  mem:∀ x,x∈l↔S x
theorem outer_run {ts:List (List Int)} {d:Nat} (hd:d≤4) (hts:∀ t∈ts,t.length=d) (hn:ts.length≤128):∀ (k j:Nat),j+k=ts.length→∀ (l:List (List Int)) (seen:Sn),Out (Jall (ts.take j)) d l seen →
    (∃ seen',loopM (incr_closed_l2 (ts,())) (l,(j:Int),seen,())=some (.inl ([],false,seen',()))∧∃ big:List (List Int),big.length=65∧big.Nodup∧∀ x∈big,Jall ts x) ∨
    ∃ l' seen',loopM (incr_closed_l2 (ts,())) (l,(j:Int),seen,())=some (.inr (.inl (l',seen',())))∧Out (Jall ts) d l' seen'
  | 0,j,hj,l,seen,h=>by
    have:j=ts.length:=by omega
    subst this
    right
    rw [List.take_length] at h
    refine ⟨l,seen,loopM_inr ?_,h⟩
    unfold incr_closed_l2
    simp only [dcF (show ¬ (ts.length:Int) < (ts.length:Int) by omega),cond_false]
  | k+1,j,hj,l,seen,h=>by
    have hjl:j < ts.length:=by omega
    have htk:Jall (ts.take (j+1))=Jn (Jall (ts.take j)) ts[j]:=by rw [List.take_succ_eq_append_getElem hjl,jall_snoc]
    have hl:=h.len
    have hi:=inner_run (S:=Jall (ts.take j)) (t:=ts[j]) hd (hts _ (List.getElem_mem hjl)) (2*64+66) l (-1) seen ⟨h.len,h.nd,h.dim,h.keys,fun x hx=>.inl ((h.mem x).1 hx),by omega,by omega,fun h0=>absurd h0 (by omega),fun k x hk=>absurd hk (by omega)⟩ (by omega)
    rcases hi with ⟨seen',h1,big,h2,h3,h4⟩ | ⟨l',seen',h1,h2,h3⟩
    · left
      refine ⟨seen',loopM_inr ?_,big,h2,h3,fun x hx=>jall_take (j+1) (by rw [htk]; exact h4 x hx)⟩
      unfold incr_closed_l2
      simp only [dcT (show (j:Int) < (ts.length:Int) by omega),cond_true,getI_nat,List.getElem?_eq_getElem hjl,Option.bind_some,h1,Sum.elim_inl]
    · have hst:incr_closed_l2 (ts,()) (l,(j:Int),seen,())=some (.inl (l',((j+1:Nat):Int),seen',())):=by
        unfold incr_closed_l2
        simp only [dcT (show (j:Int) < (ts.length:Int) by omega),cond_true,getI_nat,List.getElem?_eq_getElem hjl,Option.bind_some,h1,Sum.elim_inl,Sum.elim_inr,wrapS (show j < 9223372036854775807 by omega)]
      rw [loopM_inl hst]
      refine outer_run hd hts hn k (j+1) (by omega) l' seen' ⟨h2.len,h2.nd,h2.dim,h2.keys,fun x=>?_⟩
      rw [htk]
      refine ⟨h2.sub x,fun hx=>?_⟩
      rcases hx with hx | rfl | ⟨y,hy,rfl⟩
      · exact h3 x ((h.mem x).2 hx)
      · exact h2.first (by omega)
      · obtain ⟨n,hn'⟩:=List.getElem?_of_mem (h3 y ((h.mem y).2 hy))
        have:=(List.getElem?_eq_some_iff.1 hn').1
        exact h2.done n y (by omega) hn'
theorem closed_run {ts:List (List Int)} {d:Nat} (hd:d≤4) (hts:∀ t∈ts,t.length=d) (hn:ts.length≤128) :
    (incr_closed (ts,())=some ([],false,())∧∃ big:List (List Int),big.length=65∧big.Nodup∧∀ x∈big,Jall ts x) ∨
    ∃ l:List (List Int),incr_closed (ts,())=some (sortD l,true,())∧l.length≤64∧l.Nodup∧∀ x,x∈l↔Jall ts x:=by
  have h0:Out (Jall (ts.take 0)) d [] ([]:Sn):=⟨by simp,List.nodup_nil,fun x hx=>(nomatch hx),fun u _=>by simp [mapGet],fun x=>⟨fun h=>(nomatch h),fun h=>h.elim⟩⟩
  rcases outer_run hd hts hn ts.length 0 (by omega) [] [] h0 with ⟨seen',h1,hb⟩ | ⟨l,seen',h1,h2⟩
  · left
    refine ⟨?_,hb⟩
    have h1':loopM (incr_closed_l2 (ts,())) (([]:List (List Int)),(0:Int),([]:Sn),())=_:=h1
    unfold incr_closed
    rw [h1']; rfl
  · right
    refine ⟨l,?_,h2.len,h2.nd,h2.mem⟩
    have h1':loopM (incr_closed_l2 (ts,())) (([]:List (List Int)),(0:Int),([]:Sn),())=_:=h1
    have hlen:=h2.len
    have hroom:roomOk l.length 1=true:=by
      unfold roomOk
      rw [Bool.and_eq_true]
      exact ⟨Nat.ble_eq_true_of_le (by omega),Nat.ble_eq_true_of_le (by omega)⟩
    have hs:sortP (fun a b=>(slices_Compare_s_int_int (a,b,())).map fun r=>r.1) l=some (sortD l):=sort_is fun t ht=>by rw [h2.dim t ht]; omega
    unfold incr_closed
    rw [h1']
    simp only [Option.bind_some,Sum.elim_inr,Sum.elim_inl,hroom,cond_true,hs]
def joins (ts out:List (List Int)):List (List Int):=ts.flatMap fun t=>out.map (joinL t)
theorem joins_take {ts out:List (List Int)} {i:Nat} (h:i < ts.length):joins (ts.take (i+1)) out=joins (ts.take i) out++out.map (joinL ts[i]):=by
  unfold joins
  rw [List.take_succ_eq_append_getElem h,List.flatMap_append]
  simp
theorem joins_length (ts out:List (List Int)):(joins ts out).length=ts.length*out.length:=by
  unfold joins
  induction ts with
  | nil=>simp
  | cons t ts ih=>rw [List.flatMap_cons,List.length_append,List.length_map,ih,List.length_cons,Nat.add_one_mul]; omega
theorem room24' {n:Nat} (h:n≤4000000000000):roomOk n 24=true:=by
  unfold roomOk
  rw [Bool.and_eq_true]
  exact ⟨Nat.ble_eq_true_of_le (by omega),Nat.ble_eq_true_of_le (by omega)⟩
theorem ref_joins_l1 {ts out:List (List Int)} {t:List Int} {y:List (List Int)} {d:Nat} (hd:d≤4) (ht:t.length=d) (ho:∀ x∈out,x.length=d) (hl:out.length≤128) (hy:y.length≤100000):loopM (ref_TimesJoins_l1 (ts,out,()) t) (y,(0:Int),())=some (.inl (y++out.map (joinL t),())):=by
  have h:=loopM_fold' (f:=ref_TimesJoins_l1 (ts,out,()) t) out.length (fun j=>y++(out.take j).map (joinL t)) (.inl (y++out.map (joinL t),())) (fun j hj=>by
    have hx:=ho _ (List.getElem_mem hj)
    have hlen:(y++(out.take j).map (joinL t)).length=y.length+j:=by rw [List.length_append,List.length_map,List.length_take]; omega
    unfold ref_TimesJoins_l1
    rw [List.take_succ_eq_append_getElem hj,List.map_append,←List.append_assoc]
    simp only [dcT (show (j:Int) < (out.length:Int) by omega),cond_true,getI_nat,List.getElem?_eq_getElem hj,Option.bind_some,wrapS (show j < 9223372036854775807 by omega),join_eq (show t.length=out[j].length by omega) (by omega),show ∀ x:List Int,([x]:List (List Int)).length=1 from fun _=>rfl,hlen,room24' (show y.length+j+1≤4000000000000 by omega),Bool.and_true]
    rfl) (by
    unfold ref_TimesJoins_l1
    simp only [dcF (show ¬ (out.length:Int) < (out.length:Int) by omega),cond_false,List.take_length])
  have h0:y++(out.take 0).map (joinL t)=y:=by simp
  simp only [h0] at h
  exact h
theorem ref_joins_eq {ts out:List (List Int)} {d:Nat} (hd:d≤4) (ht:∀ t∈ts,t.length=d) (ho:∀ x∈out,x.length=d) (hn:ts.length≤128) (hl:out.length≤128):ref_TimesJoins (ts,out,())=some (joins ts out,()):=by
  have h:=loopM_fold' (f:=ref_TimesJoins_l2 (ts,out,())) ts.length (fun i=>joins (ts.take i) out) (.inl (joins ts out,())) (fun i hi=>by
    have hlen:=joins_length (ts.take i) out
    rw [List.length_take] at hlen
    have hm:min i ts.length*out.length≤128*128:=Nat.mul_le_mul (by omega) hl
    unfold ref_TimesJoins_l2
    rw [joins_take hi]
    simp only [dcT (show (i:Int) < (ts.length:Int) by omega),cond_true,getI_nat,List.getElem?_eq_getElem hi,Option.bind_some,wrapS (show i < 9223372036854775807 by omega)]
    rw [ref_joins_l1 hd (ht _ (List.getElem_mem hi)) ho hl (by omega)]
    simp only [Option.bind_some,Sum.elim_inl]) (by
    unfold ref_TimesJoins_l2
    simp only [dcF (show ¬ (ts.length:Int) < (ts.length:Int) by omega),cond_false,List.take_length])
  have h':loopM (ref_TimesJoins_l2 (ts,out,())) (([]:List (List Int)),(0:Int),())=_:=h
  unfold ref_TimesJoins
  rw [h']; rfl
theorem ref_all_eq {a b:List (List Int)} (ha:a.length≤100000) (hb:b.length≤100000):ref_TimesAll (a,b,())=some (a++b,()):=by
  have h1:=loopM_fold' (f:=ref_TimesAll_l1 (a,b,())) a.length (fun i=>a.take i) (.inl (a,())) (fun i hi=>by
    have hlen:(a.take i).length=i:=by rw [List.length_take]; omega
    unfold ref_TimesAll_l1
    rw [List.take_succ_eq_append_getElem hi]
    simp only [dcT (show (i:Int) < (a.length:Int) by omega),cond_true,getI_nat,List.getElem?_eq_getElem hi,Option.bind_some,wrapS (show i < 9223372036854775807 by omega),show ∀ x:List Int,([x]:List (List Int)).length=1 from fun _=>rfl,hlen,room24' (show i+1≤4000000000000 by omega),Bool.and_true]) (by
    unfold ref_TimesAll_l1
    simp only [dcF (show ¬ (a.length:Int) < (a.length:Int) by omega),cond_false,List.take_length])
  have h2:=loopM_fold' (f:=ref_TimesAll_l2 (a,b,())) b.length (fun i=>a++b.take i) (.inl (a++b,())) (fun i hi=>by
    have hlen:(a++b.take i).length=a.length+i:=by rw [List.length_append,List.length_take]; omega
    unfold ref_TimesAll_l2
    rw [List.take_succ_eq_append_getElem hi,←List.append_assoc]
    simp only [dcT (show (i:Int) < (b.length:Int) by omega),cond_true,getI_nat,List.getElem?_eq_getElem hi,Option.bind_some,wrapS (show i < 9223372036854775807 by omega),show ∀ x:List Int,([x]:List (List Int)).length=1 from fun _=>rfl,hlen,room24' (show a.length+i+1≤4000000000000 by omega),Bool.and_true]) (by
    unfold ref_TimesAll_l2
    simp only [dcF (show ¬ (b.length:Int) < (b.length:Int) by omega),cond_false,List.take_length])
  have h1':loopM (ref_TimesAll_l1 (a,b,())) (([]:List (List Int)),(0:Int),())=_:=h1
  have h2':loopM (ref_TimesAll_l2 (a,b,())) (a,(0:Int),())=some (.inl (a++b,())):=by
    have:=h2
    simp only [List.take_zero,List.append_nil] at this
    exact this
  unfold ref_TimesAll
  rw [h1']
  simp only [Option.bind_some,Sum.elim_inl]
  rw [h2']; rfl
theorem nd_split {α:Type} [DecidableEq α]:∀ (X Y:List α),X.Nodup→(∀ p∈X,p∈Y)→∃ Z,Y.Perm (X++Z)
  | [],Y,_,_=>⟨Y,List.Perm.refl _⟩
  | x :: X,Y,hn,hs=>by
    obtain ⟨h1,h2⟩:=List.nodup_cons.1 hn
    obtain ⟨Z,hz⟩:=nd_split X (Y.erase x) h2 fun p hp=>(List.mem_erase_of_ne (show p≠x from fun e=>h1 (by rw [←e]; exact hp))).2 (hs p (List.mem_cons_of_mem _ hp))
    exact ⟨Z,(List.perm_cons_erase (hs x List.mem_cons_self)).trans (hz.cons x)⟩
theorem nd_le {α:Type} [DecidableEq α] {X Y:List α} (hn:X.Nodup) (hs:∀ p∈X,p∈Y):X.length≤Y.length:=by
  obtain ⟨Z,hz⟩:=nd_split X Y hn hs
  rw [hz.length_eq,List.length_append]; omega
theorem nd_all {α:Type} [DecidableEq α] {X Y:List α} (hn:X.Nodup) (hs:∀ p∈X,p∈Y) (hl:Y.length=X.length):∀ p∈Y,p∈X:=by
  obtain ⟨Z,hz⟩:=nd_split X Y hn hs
  have hlz:=hz.length_eq
  rw [List.length_append] at hlz
  have hz0:Z=[]:=List.eq_nil_of_length_eq_zero (by omega)
  rw [hz0,List.append_nil] at hz
  exact fun p hp=>hz.mem_iff.1 hp
theorem up_nodup {l:List (List Int)} (h:up l):l.Nodup:=List.Pairwise.imp (fun {a b} hab e=>by rw [e] at hab; exact cmpL_irr b hab) h
theorem closure_run {ts:List (List Int)} {d:Nat} (hd:d≤4) (hts:∀ t∈ts,chk t=0∧t.length=d) (hn:ts.length≤128):∀ (k:Nat) (out:List (List Int)),up out→(∀ x∈out,Jall ts x)→(∀ t∈ts,t∈out)→out.length≤64→64 < out.length+k →
    (loopM (ref_Closure_l1 (ts,())) (out,())=some (.inl ([],false,()))∧∃ big:List (List Int),64 < big.length∧big.Nodup∧∀ x∈big,Jall ts x) ∨
    ∃ out',loopM (ref_Closure_l1 (ts,())) (out,())=some (.inl (out',true,()))∧up out'∧out'.length≤64∧∀ x,x∈out'↔Jall ts x
  | 0,out,_,_,_,h1,h2=>by omega
  | k+1,out,hup,hsub,hin,h1,h2=>by
    have hq:∀ x,Jall ts x→chk x=0∧x.length=d:=jall_all (Q:=fun x=>chk x=0∧x.length=d) (fun a b ha hb=>⟨chk_join (by omega) ha.1 hb.1,by rw [joinL_length (by omega)]; exact ha.2⟩) ts (S:=fun _=>False) (fun x h=>h.elim) hts
    have hc:=jall_clos ts
    have hall:∀ x∈out++joins ts out,Jall ts x:=fun x hx=>by
      rcases List.mem_append.1 hx with hx | hx
      · exact hsub x hx
      · unfold joins at hx
        obtain ⟨t,ht,hx⟩:=List.mem_flatMap.1 hx
        obtain ⟨y,hy,rfl⟩:=List.mem_map.1 hx
        exact hc.join t ht y (hsub y hy)
    have hjl:=joins_length ts out
    have hm:ts.length*out.length≤128*64:=Nat.mul_le_mul hn h1
    have hlen:(out++joins ts out).length≤100000:=by rw [List.length_append]; omega
    obtain ⟨s1,s2,s3⟩:=sort_facts (out++joins ts out)
    have e1:=ref_joins_eq hd (fun t ht=>(hts t ht).2) (fun x hx=>(hq x (hsub x hx)).2) hn (Nat.le_trans h1 (by decide))
    have e2:=ref_all_eq (a:=out) (b:=joins ts out) (by omega) (by omega)
    have e3:=ref_TimesSorted_eq hlen d (fun t ht=>hq t (hall t ht))
    have hnx:∀ x∈out,x∈sortT (out++joins ts out):=fun x hx=>(s2 x).2 (List.mem_append_left _ hx)
    have hsn:∀ x∈sortT (out++joins ts out),Jall ts x:=fun x hx=>hall x ((s2 x).1 hx)
    have hle:=nd_le (up_nodup hup) hnx
    by_cases hbig:(sortT (out++joins ts out)).length > 64
    · left
      refine ⟨loopM_inr ?_,_,hbig,up_nodup s3,hsn⟩
      unfold ref_Closure_l1
      simp only [e1,e2,e3,Option.bind_some,dcT (show ((sortT (out++joins ts out)).length:Int) > 64 by omega),cond_true]
    · by_cases heq:(sortT (out++joins ts out)).length=out.length
      · right
        refine ⟨out,loopM_inr ?_,hup,h1,fun x=>⟨hsub x,?_⟩⟩
        · unfold ref_Closure_l1
          simp only [e1,e2,e3,Option.bind_some,dcF (show ¬ ((sortT (out++joins ts out)).length:Int) > 64 by omega),cond_false,beqT (show ((sortT (out++joins ts out)).length:Int)=(out.length:Int) by omega),cond_true]
        · have hback:=nd_all (up_nodup hup) hnx heq
          have hj:∀ t∈ts,∀ y∈out,joinL t y∈out:=fun t ht y hy=>hback _ ((s2 _).2 (List.mem_append_right _ (List.mem_flatMap.2 ⟨t,ht,List.mem_map.2 ⟨y,hy,rfl⟩⟩)))
          have key:∀ (r:List (List Int)) {S:List Int→Prop},(∀ y,S y→y∈out)→(∀ t∈r,t∈ts)→∀ x,r.foldl Jn S x→x∈out:=by
            intro r
            induction r with
            | nil=>intro S hS _ x hx; exact hS x hx
            | cons t r ih =>
              intro S hS hr x hx
              refine ih (S:=Jn S t) (fun y hy=>?_) (fun s hs=>hr s (List.mem_cons_of_mem _ hs)) x hx
              rcases hy with hy | rfl | ⟨z,hz,rfl⟩
              · exact hS y hy
              · exact hin _ (hr _ List.mem_cons_self)
              · exact hj _ (hr _ List.mem_cons_self) z (hS z hz)
          exact key ts (S:=fun _=>False) (fun y h=>h.elim) (fun t ht=>ht) x
      · have hst:ref_Closure_l1 (ts,()) (out,())=some (.inl (sortT (out++joins ts out),())):=by
          unfold ref_Closure_l1
          simp only [e1,e2,e3,Option.bind_some,dcF (show ¬ ((sortT (out++joins ts out)).length:Int) > 64 by omega),cond_false,beqF (show ¬ ((sortT (out++joins ts out)).length:Int)=(out.length:Int) by omega)]
        rw [loopM_inl hst]
        exact closure_run hd hts hn k (sortT (out++joins ts out)) s3 hsn (fun t ht=>hnx t (hin t ht)) (by omega) (by omega)
theorem sortD_up {l:List (List Int)} (hn:l.Nodup):up (sortD l):=by
  have h1:=sortD_srt l
  have h2:(sortD l).Nodup:=(sortD_perm l).nodup_iff.2 hn
  have h3:=h1.and h2
  refine List.Pairwise.imp (fun {a b} h=>?_) h3
  obtain ⟨g1,g2⟩:=h
  have hneg:=cmpL_neg a b
  by_cases h0:cmpL a b=0
  · exact absurd (cmpL_eq.1 h0) g2
  · omega
end

section
open Go Go.Abs

theorem sum_one {α:Type} [DecidableEq α] (f:α→Int) (a:α) (c:Int):∀ {T:List α},T.Nodup→(T.map fun u=>f u+(if a=u then c else 0)).sum=(T.map f).sum+(if a∈T then c else 0)
  | [],_=>by simp
  | b :: T,h=>by
    obtain ⟨h1,h2⟩:=List.nodup_cons.1 h
    have ih:=sum_one f a c h2
    rw [List.map_cons,List.sum_cons,ih,List.map_cons,List.sum_cons]
    by_cases e:a=b
    · subst e
      rw [if_pos rfl,if_neg h1,if_pos List.mem_cons_self]; omega
    · rw [if_neg e]
      by_cases hm:a∈T
      · rw [if_pos hm,if_pos (List.mem_cons_of_mem _ hm)]; omega
      · rw [if_neg hm,if_neg (fun h=>(List.mem_cons.1 h).elim e hm)]; omega
def cntT (D:List Df) (t:List Int) (k:Ky) (T:List (List Int)):Int:=(T.map fun u=>if leB u t=true then sumK (rowsAt D u) k else 0).sum
theorem cntT_eq (t:List Int) (k:Ky) {T:List (List Int)} (hT:T.Nodup):∀ {D:List Df},(∀ d∈D,d.1∈T)→cntT D t k T=sumK (standR D t) k
  | [],_=>by
    unfold cntT
    have:∀ T:List (List Int),(T.map fun u=>if leB u t=true then sumK (rowsAt [] u) k else 0).sum=0:=fun T=>by
      induction T with
      | nil=>rfl
      | cons b T ih =>
        rw [List.map_cons,List.sum_cons,ih]
        split <;> rfl
    rw [this]; rfl
  | d :: D,h=>by
    have ih:=cntT_eq t k hT fun e he=>h e (List.mem_cons_of_mem _ he)
    have e:(fun u=>if leB u t=true then sumK (rowsAt (d :: D) u) k else 0)=fun u=>(if leB u t=true then sumK (rowsAt D u) k else 0)+(if d.1=u then (if leB d.1 t=true then sumK d.2.1 k else 0) else 0):=funext fun u=>by
      have hc:rowsAt (d :: D) u=(if d.1=u then d.2.1 else [])++rowsAt D u:=rfl
      rw [hc,sumK_app]
      by_cases e:d.1=u
      · subst e
        rw [if_pos rfl,if_pos rfl]
        split <;> omega
      · rw [if_neg e,if_neg e,show sumK [] k=0 from rfl]
        split <;> omega
    have hst:sumK (standR (d :: D) t) k=(if leB d.1 t=true then sumK d.2.1 k else 0)+sumK (standR D t) k:=by
      have hc:standR (d :: D) t=(if leB d.1 t=true then d.2.1 else [])++standR D t:=rfl
      rw [hc,sumK_app]
      split <;> rfl
    unfold cntT at ih ⊢
    rw [e,sum_one _ _ _ hT,if_pos (h d List.mem_cons_self),ih,hst,Int.add_comm]
theorem W_bagAt (D:List Df) (u:List Int) (k:Ky):W (sumK ((bagAt D u).map toR) k)=W (sumK (rowsAt D u) k):=by
  unfold bagAt
  rw [sumK_bag,W_W,W_sc,Int.one_mul]
theorem stand_tidy (D:List Df) (t:List Int) (k:Ky):∀ T:List (List Int),W (sumK (standR (T.filterMap (tidyE D)) t) k)=W (cntT D t k T)
  | []=>rfl
  | u :: T=>by
    have ih:=stand_tidy D t k T
    have hc:cntT D t k (u :: T)=(if leB u t=true then sumK (rowsAt D u) k else 0)+cntT D t k T:=by unfold cntT; rw [List.map_cons,List.sum_cons]
    rw [hc,List.filterMap_cons]
    have hu:=W_bagAt D u k
    unfold tidyE
    cases hb:(bagAt D u).isEmpty with
    | true =>
      have h0:bagAt D u=[]:=by simpa using hb
      rw [h0] at hu
      have hu:W 0=W (sumK (rowsAt D u) k):=hu
      simp only [cond_true]
      have e:W (0+sumK (standR (T.filterMap (tidyE D)) t) k)=W ((if leB u t=true then sumK (rowsAt D u) k else 0)+cntT D t k T):=by
        refine W_cg ?_ ih
        split
        · exact hu
        · rfl
      rw [Int.zero_add] at e
      exact e
    | false =>
      simp only [cond_false]
      have hs:standR ((u,(bagAt D u).map toR,()) :: T.filterMap (tidyE D)) t=(if leB u t=true then (bagAt D u).map toR else [])++standR (T.filterMap (tidyE D)) t:=rfl
      refine Eq.trans (congrArg (fun l=>W (sumK l k)) hs) ?_
      show W (sumK _ k)=_
      rw [sumK_app]
      refine W_cg ?_ ih
      split
      · exact hu
      · rfl
theorem standB_tidy (D:List Df) (t:List Int):standB (tidyL D) t=standB D t:=by
  unfold standB
  refine same_bag fun k=>?_
  rw [W_sc,W_sc,Int.one_mul,Int.one_mul]
  unfold tidyL
  rw [stand_tidy,cntT_eq t k (sortT_nodup _) fun d hd=>((sort_facts _).2.1 _).2 (List.mem_map_of_mem hd)]
theorem sortH_self {S:List Df} (s:SOK S):sortH S=S:=by
  have s2:=sortH_ok s.nd s.len s.num s.chk s.same
  have h1:=sort_times (F:=fun a b=>some (cmpL a.1 b.1)) (fun a b _=>rfl) s (sortH_perm s.nd)
  have h2:=sort_times (F:=fun a b=>some (cmpL a.1 b.1)) (fun a b _=>rfl) s2 (List.Perm.refl _)
  rw [h1] at h2
  exact (Option.some.inj h2).symm
theorem undo_tell {S:List Df} (s:SOK S):∃ M,allSome (undoH S S.length)=some M∧diffs_History_Tells (M,())=some (told (tidyL (undoI S S.length))):=by
  have h:=undo_told s
  cases hm:allSome (undoH S S.length) with
  | none=>rw [hm] at h; cases h
  | some M =>
    rw [hm] at h
    refine ⟨M,rfl,?_⟩
    simp only [Option.bind_some] at h
    cases hq:diffs_History_Tells (M,()) with
    | none=>rw [hq] at h; cases h
    | some v=>rw [hq] at h; exact h
theorem ref_undo_self {S:List Df} (s:SOK S):ref_DiffsUndo (S,())=some (undoI S S.length,()):=by
  have h:=ref_undo_eq s.nd s.len s.num s.chk s.same
  rw [sortH_self s] at h
  exact h
theorem cloneD (D:List Df) (h:D.length≤1000000):slices_Clone_s_api_Diff_api_Diff (D,())=some (D,()):=by
  unfold slices_Clone_s_api_Diff_api_Diff
  have hr:roomOk D.length 48=true:=room_ok (by omega) (by omega)
  simp [hr]
theorem moves_c1 (a b:Df) (ha:a.1.length≤1000000):(fun a b=>(diffs_Moves_c1 (a,b,())).map fun r=>r.1) a b=some (cmpL a.1 b.1):=by
  show (diffs_Moves_c1 (a,b,())).map _=_
  unfold diffs_Moves_c1
  rw [slices_Compare_eq ha]; rfl
def standL (l:List (List Int)) (R:List Int→List Rw):List Df:=l.map fun t=>(t,R t,())
theorem standL_ok {l:List (List Int)} {R:List Int→List Rw} {n:Nat} (hl:l.length≤2000) (hu:up l) (hc:∀ t∈l,chk t=0∧t.length=n) {b:Nat} (hR:∀ t∈l,(R t).length≤b) (hb:l.length*b≤300000):SOK (standL l R) where
  len:=by unfold standL; rw [List.length_map]; exact hl
  num:=by
    have h1:=numD_mul (n:=b) (D:=standL l R) fun d hd=>by
      obtain ⟨t,ht,rfl⟩:=List.mem_map.1 hd
      exact hR t ht
    have h2:(standL l R).length=l.length:=by unfold standL; rw [List.length_map]
    rw [h2] at h1
    omega
  chk d hd:=by
    obtain ⟨t,ht,rfl⟩:=List.mem_map.1 hd
    exact (hc t ht).1
  same:=⟨n,fun d hd=>by
    obtain ⟨t,ht,rfl⟩:=List.mem_map.1 hd
    exact (hc t ht).2⟩
  up:=by
    unfold standL
    rw [List.pairwise_map]
    exact hu
theorem told_same2 (l:List Df) (h:∀ d∈l,d.1.length≤1000000∧d.2.1.length≤3000000000000):ref_DiffsSame ((told l).1,(told l).1,())=some (true,()):=by
  unfold told
  split
  · exact ref_same (by simp) (fun d hd=>by cases hd)
  · split
    · exact ref_same (by simp) (fun d hd=>by cases hd)
    · rename_i h1 h2
      exact ref_same (by show l.length≤2000; omega) h
theorem tidy_dims {D:List Df} (g:Fine D):∀ d∈tidyL D,d.1.length≤1000000∧d.2.1.length≤3000000000000:=fun d hd=>by
  have h3:=len_le_num hd
  have h2:=tidy_num D
  have h1:=g.num
  obtain ⟨u,hu,-,rfl⟩:=tidyL_mem.1 hd
  have h7:=fine_times g u hu
  exact ⟨by show u.length≤_; omega,by omega⟩
theorem undo_same {S:List Df} (s:SOK S):ref_DiffsSame ((told (tidyL (undoI S S.length))).1,(told (tidyL (undoI S S.length))).1,())=some (true,()) :=
  told_same2 _ (tidy_dims (undoI_fine s (Nat.le_refl _)))
theorem closure_big {ts:List (List Int)} {d:Nat} (hd:d≤4) (hall:∀ t∈ts,chk t=0∧t.length=d) (hn:ts.length≤128) (hb:64 < (sortT ts).length):loopM (ref_Closure_l1 (ts,())) (sortT ts,())=some (.inl ([],false,())):=by
  obtain ⟨s1,s2,s3⟩:=sort_facts ts
  have hal2:∀ t∈sortT ts,chk t=0∧t.length=d:=fun t ht=>hall t ((s2 t).1 ht)
  have hjl:=joins_length ts (sortT ts)
  have hm:ts.length*(sortT ts).length≤128*128:=Nat.mul_le_mul hn (by omega)
  have hlen:(sortT ts++joins ts (sortT ts)).length≤100000:=by rw [List.length_append]; omega
  obtain ⟨r1,r2,r3⟩:=sort_facts (sortT ts++joins ts (sortT ts))
  have hj:∀ t∈sortT ts++joins ts (sortT ts),chk t=0∧t.length=d:=fun t ht=>by
    rcases List.mem_append.1 ht with ht | ht
    · exact hal2 t ht
    · unfold joins at ht
      obtain ⟨u,hu,ht⟩:=List.mem_flatMap.1 ht
      obtain ⟨y,hy,rfl⟩:=List.mem_map.1 ht
      have a:=hall u hu
      have b:=hal2 y hy
      exact ⟨chk_join (by omega) a.1 b.1,by rw [joinL_length (by omega)]; exact a.2⟩
  have e1:=ref_joins_eq hd (fun t ht=>(hall t ht).2) (fun x hx=>(hal2 x hx).2) hn (show (sortT ts).length≤128 by omega)
  have e2:=ref_all_eq (a:=sortT ts) (b:=joins ts (sortT ts)) (by omega) (by omega)
  have e3:=ref_TimesSorted_eq hlen d hj
  have hle:=nd_le (up_nodup s3) (fun x hx=>(r2 x).2 (List.mem_append_left _ hx))
  refine loopM_inr ?_
  unfold ref_Closure_l1
  simp only [e1,e2,e3,Option.bind_some,dcT (show ((sortT (sortT ts++joins ts (sortT ts))).length:Int) > 64 by omega),cond_true]
theorem clos_both {ts:List (List Int)} {n:Nat} (hn4:n≤4) (hall:∀ t∈ts,chk t=0∧t.length=n) (hn:ts.length≤128) :
    (incr_closed (ts,())=some ([],false,())∧ref_Closure (ts,())=some ([],false,())) ∨
    ∃ l,incr_closed (ts,())=some (l,true,())∧ref_Closure (ts,())=some (l,true,())∧l.length≤64∧up l∧∀ t∈l,chk t=0∧t.length=n:=by
  obtain ⟨s1,s2,s3⟩:=sort_facts ts
  have hc:=jall_clos ts
  have e0:=ref_TimesSorted_eq (l:=ts) (by omega) _ hall
  have hcl:∀ r,loopM (ref_Closure_l1 (ts,())) (sortT ts,())=some (.inl r)→ref_Closure (ts,())=some r:=fun r hr=>by
    unfold ref_Closure
    simp only [e0,Option.bind_some]
    rw [hr]; rfl
  by_cases hsm:(sortT ts).length≤64
  case neg =>
    have q1:=closure_big hn4 hall hn (by omega)
    rcases closed_run hn4 (fun t ht=>(hall t ht).2) hn with ⟨p1,big,p2,p3,p4⟩ | ⟨l,p1,p2,p3,p4⟩
    · exact .inl ⟨p1,hcl _ q1⟩
    · have:=nd_le (up_nodup s3) (fun x hx=>(p4 x).2 (hc.mem x ((s2 x).1 hx)))
      omega
  rcases closed_run hn4 (fun t ht=>(hall t ht).2) hn with ⟨p1,big,p2,p3,p4⟩ | ⟨l,p1,p2,p3,p4⟩ <;>
    rcases closure_run hn4 hall hn 66 (sortT ts) s3 (fun x hx=>hc.mem x ((s2 x).1 hx)) (fun t ht=>(s2 t).2 ht) hsm (by omega) with ⟨q1,big',q2,q3,q4⟩ | ⟨out',q1,q2,q3,q4⟩
  · exact .inl ⟨p1,hcl _ q1⟩
  · have:=nd_le p3 (fun x hx=>(q4 x).2 (p4 x hx))
    omega
  · have:=nd_le q3 (fun x hx=>(p4 x).2 (q4 x hx))
    omega
  · have hsame:sortD l=out':=up_same (sortD_up p3) q2 fun t=>by rw [(sortD_perm l).mem_iff,p4,q4]
    have hq:∀ x,Jall ts x→chk x=0∧x.length=n:=jall_all (Q:=fun x=>chk x=0∧x.length=n) (fun a b ha hb=>⟨chk_join (by omega) ha.1 hb.1,by rw [joinL_length (by omega)]; exact ha.2⟩) ts (S:=fun _=>False) (fun x h=>h.elim) hall
    rw [hsame] at p1
    exact .inr ⟨out',p1,hcl _ q1,q3,q2,fun t ht=>hq t ((q4 t).1 ht)⟩
end

section
open Go Go.Abs

theorem concat_eq {f g:List (List Int)} (hf:f.length≤64) (hg:g.length≤64):slices_Concat_s_s_int_s_int ([f,g],())=some (f++g,()):=by
  have w0:∀ {x y:Int},x=y→0≤y→y≤1000→IntKind.i64.wrap x=y:=fun h h1 h2=>by rw [h]; exact wrap64 (by omega) (by omega)
  have a0:slices_Concat_s_s_int_s_int_l1 ([f,g],()) ((0:Int),(0:Int),())=some (.inl ((f.length:Int),(1:Int),())):=by
    unfold slices_Concat_s_s_int_s_int_l1
    simp only [dcT (show (0:Int) < (([f,g]:List (List (List Int))).length:Int) by simp),cond_true,show getI [f,g] (0:Int)=some f from rfl,Option.bind_some,w0 (show (0:Int)+(f.length:Int)=(f.length:Int) by omega) (by omega) (by omega),w0 (show (0:Int)+1=1 by omega) (by omega) (by omega),dcF (show ¬ (f.length:Int) < 0 by omega),cond_false]
  have a1:slices_Concat_s_s_int_s_int_l1 ([f,g],()) ((f.length:Int),(1:Int),())=some (.inl (((f.length+g.length:Nat):Int),(2:Int),())):=by
    unfold slices_Concat_s_s_int_s_int_l1
    simp only [dcT (show (1:Int) < (([f,g]:List (List (List Int))).length:Int) by simp),cond_true,show getI [f,g] (1:Int)=some g from rfl,Option.bind_some,w0 (show (f.length:Int)+(g.length:Int)=((f.length+g.length:Nat):Int) by omega) (by omega) (by omega),w0 (show (1:Int)+1=2 by omega) (by omega) (by omega),dcF (show ¬ ((f.length+g.length:Nat):Int) < 0 by omega),cond_false]
  have a2:slices_Concat_s_s_int_s_int_l1 ([f,g],()) (((f.length+g.length:Nat):Int),(2:Int),())=some (.inr (.inl (((f.length+g.length:Nat):Int),()))):=by
    unfold slices_Concat_s_s_int_s_int_l1
    simp only [dcF (show ¬ (2:Int) < (([f,g]:List (List (List Int))).length:Int) by simp),cond_false]
  have b0:slices_Concat_s_s_int_s_int_l2 ([f,g],()) (([]:List (List Int)),(0:Int),())=some (.inl (f,(1:Int),())):=by
    unfold slices_Concat_s_s_int_s_int_l2
    simp only [dcT (show (0:Int) < (([f,g]:List (List (List Int))).length:Int) by simp),cond_true,show getI [f,g] (0:Int)=some f from rfl,Option.bind_some,List.length_nil,List.nil_append,room24' (show 0+f.length≤4000000000000 by omega),Bool.and_true,Bool.true_and,w0 (show (0:Int)+1=1 by omega) (by omega) (by omega)]
  have b1:slices_Concat_s_s_int_s_int_l2 ([f,g],()) (f,(1:Int),())=some (.inl (f++g,(2:Int),())):=by
    unfold slices_Concat_s_s_int_s_int_l2
    simp only [dcT (show (1:Int) < (([f,g]:List (List (List Int))).length:Int) by simp),cond_true,show getI [f,g] (1:Int)=some g from rfl,Option.bind_some,room24' (show f.length+g.length≤4000000000000 by omega),Bool.and_true,Bool.true_and,w0 (show (1:Int)+1=2 by omega) (by omega) (by omega)]
  have b2:slices_Concat_s_s_int_s_int_l2 ([f,g],()) (f++g,(2:Int),())=some (.inr (.inl (f++g,()))):=by
    unfold slices_Concat_s_s_int_s_int_l2
    simp only [dcF (show ¬ (2:Int) < (([f,g]:List (List (List Int))).length:Int) by simp),cond_false]
  have L1:loopM (slices_Concat_s_s_int_s_int_l1 ([f,g],())) ((0:Int),(0:Int),())=some (.inl (((f.length+g.length:Nat):Int),())):=by
    rw [loopM_inl a0,loopM_inl a1,loopM_inr a2]
  have L2:loopM (slices_Concat_s_s_int_s_int_l2 ([f,g],())) (([]:List (List Int)),(0:Int),())=some (.inl (f++g,())):=by
    rw [loopM_inl b0,loopM_inl b1,loopM_inr b2]
  unfold slices_Concat_s_s_int_s_int
  rw [L1]
  simp only [Option.bind_some,Sum.elim_inl,dcF (show ¬ ((f.length+g.length:Nat):Int) < 0 by omega),cond_false,w0 (show (0:Int) - 0=0 by omega) (by omega) (by omega),w0 (show ((f.length+g.length:Nat):Int) - 0=((f.length+g.length:Nat):Int) by omega) (by omega) (by omega)]
  by_cases h0:f.length+g.length=0
  · simp only [dcF (show ¬ ((f.length+g.length:Nat):Int) > 0 by omega),cond_false,Option.bind_some,Sum.elim_inl]
    rw [L2]; rfl
  · simp only [dcT (show ((f.length+g.length:Nat):Int) > 0 by omega),cond_true,dcT (show (0:Int)≤0 by omega),dcT (show (0:Int)≤((f.length+g.length:Nat):Int) by omega),Int.toNat_natCast,room24' (show f.length+g.length≤4000000000000 by omega),Bool.and_true,List.length_replicate,Option.bind_some,Sum.elim_inl]
    rw [show (List.replicate (f.length+g.length) ([]:List Int)).take (0:Int).toNat=[] from rfl,L2]; rfl
end

section
open Go Go.Abs

end

end Go.Proofs.Tryz
