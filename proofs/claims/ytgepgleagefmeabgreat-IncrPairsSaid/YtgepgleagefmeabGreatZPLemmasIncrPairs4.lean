/- Lemmas on functions of the program, by name. -/
import Derived.Test.YtgepgleagefmeabGreatZPFuns
import Derived.Test.YtgepgleagefmeabGreatAbsSums
import Derived.Test.YtgepgleagefmeabGreatZPLemmasIncrPairs3
import Derived.Test.YtgepgleagefmeabGreatZPLemmasIncrPairs1
namespace Go.Proofs.Tryz
section
open Go Go.Abs

def RowsIn (l:List Rw):Prop:=∀ r∈l,InR r.2.2.1
theorem mem_set {k:Ky} {v:Int} {p:Ky × Int}:∀ {m:Bg},p∈mapSet KT m k v→p.2=v∨p∈m
  | [],h=>by
    rcases List.mem_singleton.1 h with rfl
    exact .inl rfl
  | q :: r,h=>by
    unfold mapSet at h
    cases h1:KT.eqb k q.1 with
    | true =>
      rw [h1,cond_true] at h
      rcases List.mem_cons.1 h with rfl | h
      · exact .inl rfl
      · exact .inr (List.mem_cons_of_mem _ h)
    | false =>
      rw [h1,cond_false] at h
      cases h2:KT.lt k q.1 with
      | true =>
        rw [h2,cond_true] at h
        rcases List.mem_cons.1 h with rfl | h
        · exact .inl rfl
        · exact .inr h
      | false =>
        rw [h2,cond_false] at h
        rcases List.mem_cons.1 h with rfl | h
        · exact .inr List.mem_cons_self
        · rcases mem_set h with h | h
          · exact .inl h
          · exact .inr (List.mem_cons_of_mem _ h)
theorem inR_zero:InR 0:=W_zero
theorem get_in {m:Bg} (h:∀ p∈m,InR p.2) (k:Ky):InR ((mapGet KT m k).getD 0):=by
  unfold mapGet
  cases hf:m.find? fun p=>KT.eqb k p.1 with
  | none=>exact inR_zero
  | some p=>exact h p (List.mem_of_find?_eq_some hf)
theorem set_in {m:Bg} (h:∀ p∈m,InR p.2) (k:Ky) {v:Int} (hv:InR v):∀ p∈mapSet KT m k v,InR p.2:=fun p hp=>by
  rcases mem_set hp with e | hp
  · rw [e]; exact hv
  · exact h p hp
theorem pour_in {m:Bg} (h:∀ p∈m,InR p.2) (k:Ky) (n:Int):∀ p∈pour m k n,InR p.2:=by
  have h1:=set_in (set_in h k (get_in h k)) k (inR_W (nOf m k+n))
  unfold pour
  cases (nOf (mapSet KT (mapEnt KT m k 0) k (W (nOf m k+n))) k == 0) with
  | true=>exact fun p hp=>h1 p (List.mem_filter.1 hp).1
  | false=>exact h1
theorem bagOf_in:∀ (l:List Rw) {m:Bg},(∀ p∈m,InR p.2)→∀ p∈bagOf l m,InR p.2
  | [],_,h=>h
  | r :: l,_,h=>bagOf_in l (pour_in h (kyOf r) r.2.2.1)
theorem rows_in (l:List Rw):RowsIn ((bagOf l []).map toR):=fun r hr=>by
  obtain ⟨p,hp,rfl⟩:=List.mem_map.1 hr
  exact bagOf_in l (fun p hp=>by cases hp) p hp
theorem ports_ref (op:Op3):ref_OpPorts (op,())=ops_Ports (op,()):=rfl
end

section
open Go Go.Abs

abbrev IT:Ty:=.int .i64
theorem it_flat:IT.flat=true:=rfl
abbrev Gm:=List (Int × List Rw)
def gAdd (G:Gm) (s:Rw):Gm:=mapSet IT G s.1 ((mapGet IT G s.1).getD []++[s])
def grp (S:List Rw):Gm:=S.foldl gAdd []
theorem grp_take (S:List Rw) {i:Nat} (h:i < S.length):grp (S.take (i+1))=gAdd (grp (S.take i)) S[i]:=by
  unfold grp
  rw [List.take_succ_eq_append_getElem h,List.foldl_append]; rfl
theorem grp_is:∀ (S P:List Rw) (G:Gm),Rise IT G→(∀ k,(mapGet IT G k).getD []=P.filter fun s=>k == s.1) →
    Rise IT (S.foldl gAdd G)∧∀ k,(mapGet IT (S.foldl gAdd G) k).getD []=(P++S).filter fun s=>k == s.1
  | [],P,G,h1,h2=>⟨h1,fun k=>by rw [List.append_nil]; exact h2 k⟩
  | s :: S,P,G,h1,h2=>by
    have ih:=grp_is S (P++[s]) (gAdd G s) (mapSet_rise it_flat h1) (fun k=>by
      unfold gAdd
      rw [List.filter_append]
      by_cases e:k=s.1
      · subst e
        rw [mapGet_self it_flat,Option.getD_some,h2,List.filter_cons_of_pos (by simp)]; rfl
      · rw [mapGet_other it_flat _ _ _ _ e,h2,List.filter_cons_of_neg (by simpa using e)]
        exact (List.append_nil _).symm)
    rw [List.append_assoc] at ih
    exact ih
theorem grp_rise (S:List Rw):Rise IT (grp S):=(grp_is S [] [] List.Pairwise.nil (fun k=>rfl)).1
theorem grp_get (S:List Rw) (k:Int):(mapGet IT (grp S) k).getD []=S.filter fun s=>k == s.1:=by
  have:=(grp_is S [] [] List.Pairwise.nil (fun k=>rfl)).2 k
  rw [List.nil_append] at this
  exact this
theorem grp_put (S:List Rw) (k:Int):mapPut IT (grp S) k ((mapGet IT (grp S) k).getD [])=grp S:=by
  cases hg:mapGet IT (grp S) k with
  | some x=>rw [Option.getD_some]; exact mapPut_same it_flat (grp_rise S) hg
  | none =>
    have hn:=(mapGet_none it_flat).1 hg
    unfold mapPut
    have:∀ p∈grp S,(cond (IT.eqb k p.1) (p.1,(none:Option (List Rw)).getD []) p)=p:=fun p hp=>by
      have h2:=hn p hp
      cases he:IT.eqb k p.1 with
      | true=>exact absurd ((IT.eqb_iff it_flat _ _).1 he).symm h2
      | false=>rfl
    rw [List.map_congr_left this,List.map_id']
def pr (op:Op3) (r s:Rw):Rw:=(r.1,W (W (op.2.1*r.2.1)+W (op.2.2.1*s.2.1)),W (r.2.2.1*s.2.2.1),())
def pairR (op:Op3) (S:List Rw) (r:Rw):List Rw:=(S.filter fun s=>r.1 == s.1).map (pr op r)
def pairL (op:Op3) (R S:List Rw):List Rw:=R.flatMap (pairR op S)
theorem pairR_length (op:Op3) (S:List Rw) (r:Rw):(pairR op S r).length≤S.length:=by
  unfold pairR
  rw [List.length_map]
  exact List.length_filter_le _ _
theorem pairL_length (op:Op3) (S:List Rw):∀ R:List Rw,(pairL op R S).length≤R.length*S.length
  | []=>by simp [pairL]
  | r :: R=>by
    have h1:=pairL_length op S R
    have h2:=pairR_length op S r
    unfold pairL at h1 ⊢
    rw [List.flatMap_cons,List.length_append,List.length_cons,Nat.add_mul,Nat.one_mul]
    omega
theorem pairL_take (op:Op3) {R S:List Rw} {i:Nat} (h:i < R.length):pairL op (R.take (i+1)) S=pairL op (R.take i) S++pairR op S R[i]:=by
  unfold pairL
  rw [List.take_succ_eq_append_getElem h,List.flatMap_append]
  simp
theorem pour_take (f:Rw→Rw) (R:List Rw) (m:Bg) {i:Nat} (h:i < R.length):bagOf ((R.take (i+1)).map f) m=pour (bagOf ((R.take i).map f) m) (kyOf (f R[i])) (f R[i]).2.2.1:=by
  rw [List.take_succ_eq_append_getElem h,List.map_append,bagOf_app]; rfl
theorem pair_l1 (R:List Rw) (m:Bg) (hl:R.length≤3000000000000):loopM (ops_Pair_l1 (R,())) ((0:Int),m,())=some (.inl (bagOf (R.map (sc 1)) m,())):=by
  refine loopM_sim R.length (fun i=>((i:Int),bagOf ((R.take i).map (sc 1)) m,())) _ (fun i hi=>?_) ?_ rfl
  · unfold ops_Pair_l1
    simp only [dcT (show (i:Int) < (R.length:Int) by omega),cond_true,inB_T hi,Int.toNat_natCast,List.getElem?_eq_getElem hi,Option.bind_some,wrapS (show i < 9223372036854775807 by omega),pour_take _ _ _ hi]
    exact pour_join (bagOf ((R.take i).map (sc 1)) m) (kyOf (sc 1 R[i])) (sc 1 R[i]).2.2.1 fun z=>(some (Sum.inl (((i+1:Nat):Int),z,())):LR)
  · unfold ops_Pair_l1
    simp only [dcF (show ¬ (R.length:Int) < (R.length:Int) by omega),cond_false,List.take_length]
theorem pair_l2 (R:List Rw) (m:Bg) (hl:R.length≤3000000000000):loopM (ops_Pair_l2 (R,())) ((0:Int),m,())=some (.inl (bagOf (R.map (sc 1)) m,())):=pair_l1 R m hl
theorem pair_l3 (S:List Rw) (hl:S.length≤3000000000000):loopM (ops_Pair_l3 (S,())) ((0:Int),([]:Gm),())=some (.inl (grp S,())):=by
  refine loopM_sim S.length (fun i=>((i:Int),grp (S.take i),())) _ (fun i hi=>?_) ?_ rfl
  · have hfl:=List.length_filter_le (fun s:Rw=>S[i].1 == s.1) (S.take i)
    rw [List.length_take] at hfl
    have hg:((mapGet (.int .i64) (grp (S.take i)) S[i].1).getD ([]:List Rw)).length=_:=congrArg List.length (grp_get (S.take i) S[i].1)
    unfold ops_Pair_l3
    simp only [dcT (show (i:Int) < (S.length:Int) by omega),cond_true,inB_T hi,Int.toNat_natCast,List.getElem?_eq_getElem hi,Option.bind_some,wrapS (show i < 9223372036854775807 by omega),show ∀ x:Rw,([x]:List Rw).length=1 from fun _=>rfl,grp_take S hi]
    rw [room24 (by omega),show Ty.eqb (.int .i64) S[i].1 S[i].1=true from IT.eqb_self it_flat _]
    rfl
  · unfold ops_Pair_l3
    simp only [dcF (show ¬ (S.length:Int) < (S.length:Int) by omega),cond_false,List.take_length]
theorem pair_l4 (op:Op3) (ma mb:Bg) (r:Rw) (i:Int) (m0 m:Bg) (S:List Rw) (hl:S.length≤3000000000000):loopM (ops_Pair_l4 (op,ma,mb,()) (i,m0,grp S,()) r) ((0:Int),m,())=some (.inl (bagOf (pairR op S r) m,())):=by
  have hg:=grp_get S r.1
  have hfl:=List.length_filter_le (fun s:Rw=>r.1 == s.1) S
  unfold pairR
  generalize hF:S.filter (fun s:Rw=>r.1 == s.1)=F at hg hfl
  refine loopM_sim F.length (fun j=>((j:Int),bagOf ((F.take j).map (pr op r)) m,())) _ (fun j hj=>?_) ?_ rfl
  · unfold ops_Pair_l4
    simp only [show ∀ k,mapGet (.int .i64) (grp S) k=mapGet IT (grp S) k from fun _=>rfl,hg,dcT (show (j:Int) < (F.length:Int) by omega),cond_true,inB_T hj,Int.toNat_natCast,List.getElem?_eq_getElem hj,Option.bind_some,wrapS (show j < 9223372036854775807 by omega),pour_take _ _ _ hj]
    exact pour_join (bagOf ((F.take j).map (pr op r)) m) (kyOf (pr op r F[j])) (pr op r F[j]).2.2.1 fun z=>(some (Sum.inl (((j+1:Nat):Int),z,())):LR)
  · unfold ops_Pair_l4
    simp only [show ∀ k,mapGet (.int .i64) (grp S) k=mapGet IT (grp S) k from fun _=>rfl,hg,dcF (show ¬ (F.length:Int) < (F.length:Int) by omega),cond_false,List.take_length]
theorem pair_l5 (op:Op3) (ma mb:Bg) (R S:List Rw) (hR:R.length≤3000000000000) (hl:S.length≤3000000000000):loopM (ops_Pair_l5 (op,ma,mb,()) (R,())) ((0:Int),([]:Bg),grp S,())=some (.inl (bagOf (pairL op R S) [],grp S,())):=by
  refine loopM_sim R.length (fun i=>((i:Int),bagOf (pairL op (R.take i) S) [],grp S,())) _ (fun i hi=>?_) ?_ rfl
  · unfold ops_Pair_l5
    simp only [dcT (show (i:Int) < (R.length:Int) by omega),cond_true,inB_T hi,Int.toNat_natCast,List.getElem?_eq_getElem hi,Option.bind_some,wrapS (show i < 9223372036854775807 by omega)]
    rw [pair_l4 op ma mb R[i] (i:Int) _ _ S hl]
    simp only [Option.bind_some,Sum.elim_inl]
    rw [show mapPut (.int .i64) (grp S) R[i].1 ((mapGet (.int .i64) (grp S) R[i].1).getD [])=grp S from grp_put S R[i].1,pairL_take op hi,bagOf_app]
  · unfold ops_Pair_l5
    simp only [dcF (show ¬ (R.length:Int) < (R.length:Int) by omega),cond_false,List.take_length]
def twoL (op:Op3) (R S:List Rw):List Rw:=if op.1=9 then R.map (sc 1)++S.map (sc 1) else pairL op R S
theorem pair_eq (op:Op3) {ma mb:Bg} (ha:Rise KT ma) (hb:Rise KT mb) (la:ma.length≤3000000000000) (lb:mb.length≤3000000000000):ops_Pair (op,ma,mb,())=some (bagOf (twoL op (ma.map toR) (mb.map toR)) [],()):=by
  unfold ops_Pair twoL
  by_cases h9:op.1=9
  · rw [if_pos h9]
    simp only [beqT h9,cond_true]
    rw [rows_eq ha la]
    simp only [Option.bind_some]
    rw [pair_l1 _ _ (by rw [List.length_map]; exact la)]
    simp only [Option.bind_some,Sum.elim_inl]
    rw [rows_eq hb lb]
    simp only [Option.bind_some]
    rw [pair_l2 _ _ (by rw [List.length_map]; exact lb),bagOf_app]; rfl
  · rw [if_neg h9]
    simp only [beqF h9,cond_false]
    rw [rows_eq hb lb]
    simp only [Option.bind_some]
    rw [pair_l3 _ (by rw [List.length_map]; exact lb)]
    simp only [Option.bind_some,Sum.elim_inl]
    rw [rows_eq ha la]
    simp only [Option.bind_some]
    rw [pair_l5 op ma mb _ _ (by rw [List.length_map]; exact la) (by rw [List.length_map]; exact lb)]; rfl
theorem opTwo_l1 (op:Op3) (R S:List Rw) (r:Rw) (out:List Rw) (hl:out.length+S.length≤2900000000000):loopM (ref_OpTwo_l1 (op,R,S,()) r) (out,(0:Int),())=some (.inl (out++pairR op S r,())):=by
  refine loopM_sim S.length (fun i=>(out++pairR op (S.take i) r,(i:Int),())) _ (fun i hi=>?_) ?_ (by unfold pairR; simp)
  · have hj:=pairR_length op (S.take i) r
    rw [List.length_take] at hj
    have htk:pairR op (S.take (i+1)) r=pairR op (S.take i) r++cond (r.1 == S[i].1) [pr op r S[i]] []:=by
      unfold pairR
      rw [List.take_succ_eq_append_getElem hi,List.filter_append,List.map_append]
      cases hq:(r.1 == S[i].1) with
      | true=>rw [List.filter_cons_of_pos (by simpa using hq)]; rfl
      | false=>rw [List.filter_cons_of_neg (by simp [hq])]; rfl
    unfold ref_OpTwo_l1
    simp only [dcT (show (i:Int) < (S.length:Int) by omega),cond_true,getI_nat,List.getElem?_eq_getElem hi,Option.bind_some,wrapS (show i < 9223372036854775807 by omega),show ∀ x:Rw,([x]:List Rw).length=1 from fun _=>rfl,List.length_append,room24 (show out.length+(pairR op (S.take i) r).length+1≤4000000000000 by omega),Bool.and_true]
    rw [htk]
    cases (r.1 == S[i].1) with
    | true=>rw [cond_true,cond_true,←List.append_assoc]; rfl
    | false=>simp only [cond_false,List.append_nil]
  · unfold ref_OpTwo_l1
    simp only [dcF (show ¬ (S.length:Int) < (S.length:Int) by omega),cond_false,List.take_length]
theorem opTwo_l2 (op:Op3) (R S:List Rw) (hR:R.length≤1000) (hS:S.length≤1000):loopM (ref_OpTwo_l2 (op,R,S,())) (([]:List Rw),(0:Int),())=some (.inl (pairL op R S,())):=by
  refine loopM_sim R.length (fun i=>(pairL op (R.take i) S,(i:Int),())) _ (fun i hi=>?_) ?_ rfl
  · have h1:=pairL_length op S (R.take i)
    rw [List.length_take] at h1
    have h2:min i R.length*S.length≤1000*1000:=Nat.mul_le_mul (by omega) hS
    unfold ref_OpTwo_l2
    simp only [dcT (show (i:Int) < (R.length:Int) by omega),cond_true,getI_nat,List.getElem?_eq_getElem hi,Option.bind_some,wrapS (show i < 9223372036854775807 by omega)]
    rw [opTwo_l1 op R S R[i] _ (by omega)]
    simp only [Option.bind_some,Sum.elim_inl]
    rw [pairL_take op hi]
  · unfold ref_OpTwo_l2
    simp only [dcF (show ¬ (R.length:Int) < (R.length:Int) by omega),cond_false,List.take_length]
theorem sc_one {l:List Rw} (h:RowsIn l):l.map (sc 1)=l:=by
  have:∀ r∈l,sc 1 r=r:=fun r hr=>by
    unfold sc
    rw [Int.one_mul,h r hr]
  rw [List.map_congr_left this,List.map_id']
theorem sc_in (l:List Rw) (n:Int):RowsIn (l.map (sc n)):=fun r hr=>by
  obtain ⟨q,-,rfl⟩:=List.mem_map.1 hr
  exact inR_W _
theorem two_in (op:Op3) (R S:List Rw):RowsIn (twoL op R S):=fun r hr=>by
  unfold twoL at hr
  split at hr
  · rcases List.mem_append.1 hr with h | h
    · exact sc_in R 1 r h
    · exact sc_in S 1 r h
  · unfold pairL pairR at hr
    obtain ⟨q,-,hq⟩:=List.mem_flatMap.1 hr
    obtain ⟨s,-,rfl⟩:=List.mem_map.1 hq
    exact inR_W _
theorem two_length (op:Op3) {R S:List Rw} (hR:R.length≤128) (hS:S.length≤128):(twoL op R S).length≤20000:=by
  unfold twoL
  split
  · rw [List.length_append,List.length_map,List.length_map]; omega
  · have h1:=pairL_length op S R
    have h2:R.length*S.length≤128*128:=Nat.mul_le_mul hR hS
    omega
def telB (l:List Rw):List Rw:=(bagOf l []).map toR
theorem telB_length (l:List Rw):(telB l).length≤l.length:=by
  have:=bag_length l []
  rw [List.length_nil,Nat.zero_add] at this
  unfold telB
  rw [List.length_map]; exact this
theorem ref_two (op:Op3) {R S:List Rw} (wR:RowsIn R) (hR:R.length≤128) (hS:S.length≤128):ref_OpTwo (op,R,S,())=some (telB (twoL op R S),()):=by
  have hl:=two_length op hR hS
  have hi:=two_in op R S
  unfold ref_OpTwo
  unfold twoL at hl hi ⊢
  by_cases h9:op.1=9
  · rw [if_pos h9] at hl hi ⊢
    rw [sc_one wR] at hl hi ⊢
    simp only [beqT h9,cond_true]
    rw [poured_eq R S 1 (by omega) (by omega)]
    simp only [Option.bind_some]
    rw [ref_Bag_eq (by omega),rows_bag hi]; rfl
  · rw [if_neg h9] at hl hi ⊢
    simp only [beqF h9,cond_false]
    rw [opTwo_l2 op R S (by omega) (by omega)]
    simp only [Option.bind_some,Sum.elim_inl]
    rw [ref_Bag_eq (by omega),rows_bag hi]; rfl
theorem ports_some (op:Op3):∃ p:Int,ops_Ports (op,())=some (p,()):=by
  unfold ops_Ports
  have tail:∃ p:Int,(cond (op.1 == (9:Int)) (some ((2:Int),())) (cond (op.1 == (10:Int)) (some ((2:Int),())) (some ((0:Int),()))))=some (p,()):=by
    cases op.1 == (9:Int) with
    | true=>exact ⟨2,rfl⟩
    | false =>
      cases op.1 == (10:Int) with
      | true=>exact ⟨2,rfl⟩
      | false=>exact ⟨0,rfl⟩
  cases decide (op.1 ≥ 1) with
  | false=>exact tail
  | true =>
    cases decide (op.1≤8) with
    | true=>exact ⟨1,rfl⟩
    | false=>exact tail
end

end Go.Proofs.Tryz
