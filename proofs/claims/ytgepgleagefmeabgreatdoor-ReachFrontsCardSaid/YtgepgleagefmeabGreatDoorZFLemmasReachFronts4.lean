/- Lemmas on functions of the program, by name. -/
import Derived.Test.YtgepgleagefmeabGreatDoorZFFuns
import Derived.Test.YtgepgleagefmeabGreatDoorAbsSums
import Derived.Test.YtgepgleagefmeabGreatDoorZFLemmasReachFronts3
import Derived.Test.YtgepgleagefmeabGreatDoorZFLemmasReachFronts2
import Derived.Test.YtgepgleagefmeabGreatDoorZFLemmasReachFronts1
namespace Go.Proofs.Tryz
section
open Go Go.Abs

section
variable {N:List Node} {E:List Edge}
theorem qr57u {N:List Node} {E:List Edge} (h:(gval N E).1=0):gval N E=(0,0,())∧N.length≤12∧E.length≤20∧N.all mayB=true∧(∀ j,j < E.length→edgeC N E j=0)∧∀ j,j < N.length→ringR N E j=false:=by
  unfold gval at h ⊢
  by_cases h1:12 < N.length∨20 < E.length
  · rw [if_pos h1] at h; cases h
  rw [if_neg h1] at h ⊢
  cases hf1:(List.range N.length).find? fun i=>!mayB (N.getD i v0) with
  | some i=>rw [hf1] at h; cases h
  | none =>
    rw [hf1] at h
    simp only at h ⊢
    cases hf2:(List.range E.length).find? fun i=>edgeC N E i != 0 with
    | some i =>
      rw [hf2] at h
      have:=List.find?_some hf2
      simp only [bne_iff_ne] at this
      exact absurd h this
    | none =>
      rw [hf2] at h
      simp only at h ⊢
      cases hf3:(List.range N.length).find? fun i=>missB N E i with
      | some i=>rw [hf3] at h; cases h
      | none =>
        rw [hf3] at h
        simp only at h ⊢
        cases hf4:(List.range N.length).find? fun j=>ringR N E j with
        | some j=>rw [hf4] at h; cases h
        | none=>exact ⟨rfl,by omega,by omega,qpsyk hf1,fun j hj=>by simpa using q1bzg hf2 j hj,q1bzg hf4⟩
end
end

section
open Go Go.Abs

open Classical in
end

section
open Go Go.Abs

end

section
open Go Go.Abs

end

section
open Go Go.Abs

def sq {α:Type} (n:Nat) (G:Nat→Nat→α):List α:=tab (n*n) fun p=>G (p / n) (p % n)
theorem qvra3 {α:Type} (n:Nat) (G:Nat→Nat→α):(sq n G).length=n*n:=qnjur ..
theorem idx_lt {a b n:Nat} (ha:a < n) (hb:b < n):a*n+b < n*n:=by
  have:(a+1)*n≤n*n:=Nat.mul_le_mul_right n ha
  rw [Nat.succ_mul] at this; omega
theorem qzhw8 {a b n:Nat} (hb:b < n):(a*n+b) / n=a:=by
  rw [Nat.mul_comm,Nat.mul_add_div (by omega),Nat.div_eq_of_lt hb]; rfl
theorem q3g80 {a b n:Nat} (hb:b < n):(a*n+b) % n=b:=by
  rw [Nat.mul_comm,Nat.mul_add_mod,Nat.mod_eq_of_lt hb]
theorem idx_of {p n:Nat} (hp:p < n*n):p / n < n∧p % n < n∧p / n*n+p % n=p:=by
  have hn:0 < n:=Nat.pos_of_ne_zero fun h=>by rw [h] at hp; simp at hp
  exact ⟨Nat.div_lt_of_lt_mul hp,Nat.mod_lt _ hn,Nat.div_add_mod' p n⟩
theorem sq_le {n:Nat} (hn:n≤16):n*n≤256:=Nat.mul_le_mul hn hn
theorem qv3ni {a b n:Nat} (ha:a < n) (hb:b < n) (hn:n≤16):IntKind.i64.wrap (IntKind.i64.wrap ((a:Int)*(n:Int))+(b:Int))=((a*n+b:Nat):Int):=by
  have h1:=idx_lt ha hb
  have h2:=sq_le hn
  have e:(a:Int)*(n:Int)=((a*n:Nat):Int):=by simp
  rw [e,wrap64 (x:=((a*n:Nat):Int)) (by omega) (by omega),wrap64 (by omega) (by omega)]; rfl
theorem qep0l {n:Nat} (hn:n≤16):IntKind.i64.wrap ((n:Int)*(n:Int))=((n*n:Nat):Int):=by
  have h2:=sq_le hn
  have e:(n:Int)*(n:Int)=((n*n:Nat):Int):=by simp
  rw [e,wrap64 (by omega) (by omega)]
theorem sq_get {α:Type} {n a b:Nat} (G:Nat→Nat→α) (ha:a < n) (hb:b < n):(sq n G)[a*n+b]? = some (G a b):=by
  unfold sq; rw [q1qpf _ (idx_lt ha hb),qzhw8 hb,q3g80 hb]
theorem qbvz0 {α:Type} {n a b:Nat} (G:Nat→Nat→α) (ha:a < n) (hb:b < n):getI (sq n G) ((a*n+b:Nat):Int)=some (G a b):=by rw [qooa6,sq_get G ha hb]
theorem q7mfg {α:Type} {n:Nat} {G G':Nat→Nat→α} (h:∀ a b,a < n→b < n→G a b=G' a b):sq n G=sq n G' :=
  qrnyd fun p hp=>h _ _ (idx_of hp).1 (idx_of hp).2.1
theorem sq_set {α:Type} {n a b:Nat} (G:Nat→Nat→α) (ha:a < n) (hb:b < n) (v:α):(sq n G).set (a*n+b) v=sq n fun a' b'=>if a'=a∧b'=b then v else G a' b':=by
  unfold sq
  rw [qq0ob]
  refine qrnyd fun p hp=>?_
  have h:=idx_of hp
  by_cases e:p=a*n+b
  · subst e; rw [if_pos rfl,qzhw8 hb,q3g80 hb]; exact (if_pos ⟨rfl,rfl⟩).symm
  · rw [if_neg e]; refine (if_neg ?_).symm
    rintro ⟨h1,h2⟩
    rw [h1,h2] at h; exact e h.2.2.symm
theorem rep_sq {α:Type} (n:Nat) (v:α):List.replicate (n*n) v=sq n fun _ _=>v:=qeprz ..
theorem qv0oy {a b n:Nat} (ha:a < n) (hb:b < n):inB ((a*n+b:Nat):Int) (n*n)=true:=inB_T (idx_lt ha hb)
end

section
open Go Go.Abs

def depN (N:List Node) (a:Nat):Nat:=(N.getD a v0).2.1.toNat
def sumV (v:Node):Sm:=if v.1=4 then (v.2.1,0,[0],()) else if v.1=5 then (v.2.1 - 1,0,[],()) else if v.1=6 then (v.2.1,1,[],()) else (v.2.1,0,[],())
def sumN (N:List Node) (a:Nat):Sm:=sumV (N.getD a v0)
def edN (E:List Edge):List (Nat × Nat):=E.map fun e=>(e.1.toNat,e.2.1.toNat)
theorem qnkvt {v:Node} (h:mayB v=true):quobc (v,())=some (sumV v,0,()):=by
  have hd:=qz3hk h
  unfold quobc sumV
  rw [q8gtn,h]
  simp only [Option.bind_some,Bool.not_true,cond_false,q0kjd]
  rw [wrap64 (x:=v.2.1 - 1) (by omega) (by omega)]
  repeat' split
  all_goals rfl
theorem qnvpx {v:Node} (h:mayB v=true):q8lmr (v,())=some (sumV v,()):=by
  have hd:=qz3hk h
  unfold q8lmr sumV
  simp only [q0kjd]
  rw [wrap64 (x:=v.2.1 - 1) (by omega) (by omega)]
  repeat' split
  all_goals rfl
theorem qlhpc {v:Node} (h:mayB v=true):wfS (sumV v)∧kN (sumV v)≤v.2.1.toNat∧oN (sumV v)≤4∧oN (sumV v)=(outB v).toNat∧∀ i,pN (sumV v) i=0∨(pN (sumV v) i=1∧i+1=v.2.1.toNat∧kN (sumV v)=v.2.1.toNat∧oN (sumV v)=v.2.1.toNat):=by
  have hm:=of_decide_eq_true h
  obtain ⟨k,d,op,⟨⟩⟩:=v
  obtain ⟨m1,m2,m3,m4,m5,m6,m7⟩:=hm
  simp only at m1 m2 m3 m4 m5 m6 m7
  unfold sumV outB wfS kN oN pN
  simp only
  by_cases h4:k=4
  · have:=m6 h4
    simp only [if_pos h4,List.length_cons,List.length_nil]
    refine ⟨by omega,by omega,by omega,by omega,fun i=>.inl ?_⟩
    unfold plc
    split
    · split <;> rfl
    · cases i - kN (d,0,[0],()) with
      | zero=>rfl
      | succ j=>simp
  · by_cases h5:k=5
    · have:=m7 (by omega)
      simp only [if_neg h4,if_pos h5,List.length_nil]
      refine ⟨by omega,by omega,by omega,by omega,fun i=>.inl ?_⟩
      unfold plc
      split
      · split <;> rfl
      · simp
    · by_cases h6:k=6
      · simp only [if_neg h4,if_neg h5,if_pos h6,List.length_nil]
        refine ⟨by omega,by omega,by omega,by omega,fun i=>?_⟩
        unfold plc kN
        simp only
        split
        · split
          · rename_i q1 q2; right; exact ⟨rfl,q2,by simp⟩
          · left; rfl
        · left; simp
      · simp only [if_neg h4,if_neg h5,if_neg h6,List.length_nil]
        refine ⟨by omega,by omega,by omega,by omega,fun i=>.inl ?_⟩
        unfold plc
        split
        · split <;> rfl
        · simp
abbrev JbI:=Int × Int × Sm × Unit
noncomputable def srchI (N:List Node):(List JbI × Int × Unit)→Option ((List JbI × Int × Unit) ⊕ ((List JbI × Unit) ⊕ Empty)):=fun y2 =>
  (cond (decide (y2.2.1 < (N.length:Int))) ((getI N y2.2.1).bind fun v3=>(cond (true && roomOk (y2.1.length+([(y2.2.1,y2.2.1,(v3.2.1,(0:Int),([]:(List Int)),()),())]).length) 56 && true && true) (some (Sum.inl ((y2.1++[(y2.2.1,y2.2.1,(v3.2.1,(0:Int),([]:(List Int)),()),())]),(IntKind.i64.wrap (y2.2.1+(1:Int))),()))) none)) (some (Sum.inr (Sum.inl (y2.1,())))))
noncomputable def srchX (N:List Node) (E:List Edge) (v6:JbI):(List JbI × Int × Unit)→Option ((List JbI × Int × Unit) ⊕ ((List JbI × Unit) ⊕ Empty)):=fun y11 =>
  (cond (decide (y11.2.1 < (E.length:Int))) ((getI E y11.2.1).bind fun v12=>(cond (v12.1 != v6.2.1) (some (Sum.inl (y11.1,(IntKind.i64.wrap (y11.2.1+(1:Int))),()))) ((getI N v6.2.1).bind fun v13=>((quobc (v13,())).bind fun r14=>((qaw8o (v6.2.2.1,r14.1,())).bind fun r15=>(cond (r15.2.1 == (0:Int)) (cond (true && roomOk (y11.1.length+([(v6.1,v12.2.1,r15.1,())]).length) 56 && true && true) (some (Sum.inl ((y11.1++[(v6.1,v12.2.1,r15.1,())]),(IntKind.i64.wrap (y11.2.1+(1:Int))),()))) none) (some (Sum.inl (y11.1,(IntKind.i64.wrap (y11.2.1+(1:Int))),()))))))))) (some (Sum.inr (Sum.inl (y11.1,())))))
noncomputable def srchL (N:List Node) (E:List Edge):(List JbI × List (List Sm) × Unit)→Option ((List JbI × List (List Sm) × Unit) ⊕ ((List (List Sm) × Unit) ⊕ Empty)):=fun y5 =>
  (cond (decide ((y5.1.length:Int) > (0:Int))) (cond (inB (0:Int) y5.1.length) ((y5.1[(0:Int).toNat]?).bind fun v6=>(cond (true && decide (0≤(1:Int)) && decide ((1:Int)≤y5.1.length)) (cond (inB (IntKind.i64.wrap ((IntKind.i64.wrap (v6.1*(N.length:Int)))+v6.2.1)) y5.2.1.length) ((y5.2.1[(IntKind.i64.wrap ((IntKind.i64.wrap (v6.1*(N.length:Int)))+v6.2.1)).toNat]?).bind fun v7=>((qppah (v7,v6.2.2.1,())).bind fun r8=>(cond r8.1 (some (Sum.inl ((y5.1.drop (1:Int).toNat),(y5.2.1.set ((IntKind.i64.wrap ((IntKind.i64.wrap (v6.1*(N.length:Int)))+v6.2.1)).toNat) v7),()))) (((y5.2.1.set ((IntKind.i64.wrap ((IntKind.i64.wrap (v6.1*(N.length:Int)))+v6.2.1)).toNat) v7)[(IntKind.i64.wrap ((IntKind.i64.wrap (v6.1*(N.length:Int)))+v6.2.1)).toNat]?).bind fun v9=>(cond (true && roomOk (v9.length+([v6.2.2.1]).length) 40 && true && true) ((qvent ((v9++[v6.2.2.1]),())).bind fun r10=>(((y5.2.1.set ((IntKind.i64.wrap ((IntKind.i64.wrap (v6.1*(N.length:Int)))+v6.2.1)).toNat) v7)[(IntKind.i64.wrap ((IntKind.i64.wrap (v6.1*(N.length:Int)))+v6.2.1)).toNat]?).bind fun _=>(cond (Nat.beq ((IntKind.i64.wrap ((IntKind.i64.wrap (v6.1*(N.length:Int)))+v6.2.1)).toNat) ((IntKind.i64.wrap ((IntKind.i64.wrap (v6.1*(N.length:Int)))+v6.2.1)).toNat)) ((loopM (srchX N E v6) ((y5.1.drop (1:Int).toNat),(0:Int),())).bind (Sum.elim (fun z16=>(some (Sum.inl (z16.1,((y5.2.1.set ((IntKind.i64.wrap ((IntKind.i64.wrap (v6.1*(N.length:Int)))+v6.2.1)).toNat) v7).set ((IntKind.i64.wrap ((IntKind.i64.wrap (v6.1*(N.length:Int)))+v6.2.1)).toNat) r10.1),())))) Empty.elim)) none))) none))))) none) none)) none) (some (Sum.inr (Sum.inl (y5.2.1,())))))
section
variable {N:List Node} {E:List Edge}
theorem qnsi9 (hok:∀ j,j < E.length→edgeC N E j=0):∀ e∈E,e.1=((e.1.toNat:Nat):Int)∧e.1.toNat < N.length∧e.2.1=((e.2.1.toNat:Nat):Int)∧e.2.1.toNat < N.length∧outB (N.getD e.1.toNat v0)=(N.getD e.2.1.toNat v0).2.1:=by
  intro e he
  obtain ⟨j,hj,rfl⟩:=List.mem_iff_getElem.1 he
  have h:=q407q (hok j hj)
  have g:E.getD j e0=E[j]:=by rw [List.getD_eq_getElem?_getD,List.getElem?_eq_getElem hj]; rfl
  unfold frE toE poE at h
  rw [g] at h
  obtain ⟨h1,h2,h3,h4,-,-,-,h5⟩:=h
  exact ⟨by omega,by omega,by omega,by omega,h5⟩
theorem may_N (hN:N.all mayB=true) {a:Nat} (ha:a < N.length):mayB (N.getD a v0)=true:=by
  have:=may_at hN (i:=(a:Int)) (by omega) (by omega)
  rwa [Int.toNat_natCast] at this
theorem gr_of (hn:N.length≤12) (hN:N.all mayB=true) (hok:∀ j,j < E.length→edgeC N E j=0):GR N.length (depN N) (sumN N) (edN E):=by
  refine ⟨hn,fun a ha=>?_,fun a ha=>?_,fun a b he=>?_⟩
  · have:=qz3hk (may_N hN ha)
    unfold depN
    omega
  · obtain ⟨h1,h2,h3,h4,h5⟩:=qlhpc (may_N hN ha)
    exact ⟨h1,h2,h3,h5⟩
  · obtain ⟨e,he,h⟩:=List.mem_map.1 he
    obtain ⟨q1,q2,q3,q4,q5⟩:=qnsi9 hok e he
    cases h
    have:=(qlhpc (may_N hN q2)).2.2.2.1
    refine ⟨q2,q4,?_⟩
    unfold sumN depN
    rw [this,q5]
theorem qgtw1 (hN:N.all mayB=true) {a:Nat} (ha:a < N.length):(N.getD a v0).2.1=((depN N a:Nat):Int):=by
  have:=qz3hk (may_N hN ha)
  unfold depN
  omega
def encJ (j:Jb):JbI:=((j.1:Int),(j.2.1:Int),j.2.2,())
theorem qog7d {l:List Sm} {s:Sm} (hl:∀ r∈l,okS r) (hs:okS s) (hn:l.length≤10000000):qppah (l,s,())=some (l.any fun r=>leS r s,()):=by
  have key:loopM (qytpa (l,s,())) ((0:Int),())=some (if (List.range l.length).any (fun i=>leS (l.getD i (0,0,[],())) s)=true then .inl (true,()) else .inr (.inl ())):=by
    refine q238v l.length () _ _ _ (fun i hi=>?_) ?_
    · unfold qytpa
      rw [List.getD_eq_getElem?_getD,List.getElem?_eq_getElem hi,Option.getD_some]
      simp only [dcT (show (i:Int) < (l.length:Int) by omega),cond_true,q1j71 hi,Option.bind_some,qqeg8 (hl _ (List.getElem_mem hi)) hs,wrapS (show i < 9223372036854775807 by omega)]
      cases leS l[i] s <;> rfl
    · unfold qytpa
      simp only [dcF (show ¬ (l.length:Int) < (l.length:Int) by omega),cond_false]
  have e:(List.range l.length).any (fun i=>leS (l.getD i (0,0,[],())) s)=l.any fun r=>leS r s:=by
    rw [Bool.eq_iff_iff,List.any_eq_true,List.any_eq_true]
    constructor
    · rintro ⟨i,hi,h⟩
      have hi:=List.mem_range.1 hi
      rw [List.getD_eq_getElem?_getD,List.getElem?_eq_getElem hi,Option.getD_some] at h
      exact ⟨_,List.getElem_mem hi,h⟩
    · rintro ⟨r,hr,h⟩
      obtain ⟨i,hi,rfl⟩:=List.mem_iff_getElem.1 hr
      exact ⟨i,List.mem_range.2 hi,by rw [List.getD_eq_getElem?_getD,List.getElem?_eq_getElem hi]; exact h⟩
  unfold qppah
  rw [key,e]
  cases l.any fun r=>leS r s <;> rfl
theorem qeb3o (hn:N.length≤12) (hN:N.all mayB=true):loopM (srchI N) (([]:List JbI),(0:Int),())=some (.inl (((List.range N.length).map fun u=>(u,u,idS (depN N u))).map encJ,())):=by
  refine q9h1y N.length (fun i=>(((List.range i).map fun u=>(u,u,idS (depN N u))).map encJ,(i:Int),())) _ (fun i hi=>?_) ?_ rfl
  · have hl:(((List.range i).map fun u=>(u,u,idS (depN N u))).map encJ).length=i:=by simp
    rw [List.range_succ,List.map_append,List.map_append]
    generalize ((List.range i).map fun u=>(u,u,idS (depN N u))).map encJ=J at *
    unfold srchI
    simp only [dcT (show (i:Int) < (N.length:Int) by omega),cond_true,getI_D v0 (Int.natCast_nonneg i) (show (i:Int) < (N.length:Int) by omega),Int.toNat_natCast,Option.bind_some,List.length_cons,List.length_nil,qu8rx (show J.length+(0+1)≤140737488355328 by omega) (show (J.length+(0+1))*56≤140737488355328 by omega),Bool.and_true,wrapS (show i < 9223372036854775807 by omega),qgtw1 hN hi]
    rfl
  · unfold srchI
    simp only [dcF (show ¬ (N.length:Int) < (N.length:Int) by omega),cond_false]
theorem qbk4g (g:GR N.length (depN N) (sumN N) (edN E)) (hN:N.all mayB=true) (hE:E.length≤20) (hok:∀ j,j < E.length→edgeC N E j=0) {u v:Nat} {s:Sm} (hv:v < N.length) (hs:bx s) (ho:oN s=depN N v) {J:List JbI} (hJ:J.length≤1000000000) :
    loopM (srchX N E (encJ (u,v,s))) (J,(0:Int),())=some (.inl (J++(extJ (sumN N) (edN E) u v s).map encJ,())):=by
  have hb:bx (sumN N v):=g.bxS hv
  have hk:kN (sumN N v)≤oN s:=by rw [ho]; exact (g.s0 v hv).2.1
  have hpart:∀ i,((extJ (sumN N) (edN (E.take i)) u v s).map encJ).length≤i:=fun i=>by
    unfold extJ edN
    rw [List.length_map,List.length_map]
    refine Nat.le_trans (List.length_filter_le ..) ?_
    rw [List.length_map,List.length_take]; omega
  have key:loopM (srchX N E (encJ (u,v,s))) (J,(0:Int),())=some (.inl (J++(extJ (sumN N) (edN (E.take E.length)) u v s).map encJ,())):=by
    refine q9h1y E.length (fun i=>(J++(extJ (sumN N) (edN (E.take i)) u v s).map encJ,(i:Int),())) _ (fun i hi=>?_) ?_ ?_
    · have hlen:=hpart i
      obtain ⟨q1,q2,q3,q4,q5⟩:=qnsi9 hok _ (List.getElem_mem hi)
      have hsplit:(extJ (sumN N) (edN (E.take (i+1))) u v s).map encJ=(extJ (sumN N) (edN (E.take i)) u v s).map encJ++(if E[i].1=(v:Int) then [encJ (u,E[i].2.1.toNat,cS s (sumN N v))] else []):=by
        rw [List.take_succ_eq_append_getElem hi]
        unfold extJ edN
        rw [List.map_append,List.filter_append,List.map_append,List.map_append]
        congr 1
        by_cases h:E[i].1=(v:Int)
        · have:E[i].1.toNat=v:=by omega
          simp [h]
        · have:¬ E[i].1.toNat=v:=by omega
          simp [h,this]
      rw [hsplit,←List.append_assoc]
      have hl2:(J++(extJ (sumN N) (edN (E.take i)) u v s).map encJ).length≤1000000000+20:=by rw [List.length_append]; omega
      generalize J++(extJ (sumN N) (edN (E.take i)) u v s).map encJ=K at *
      unfold srchX
      simp only [dcT (show (i:Int) < (E.length:Int) by omega),cond_true,q1j71 hi,Option.bind_some,qerg8,wrapS (show i < 9223372036854775807 by omega)]
      show (if E[i].1=(v:Int) then _ else _)=_
      by_cases h:E[i].1=(v:Int)
      · rw [if_pos h,if_pos h]
        have hgs:(getI N (encJ (u,v,s)).2.1).bind (fun v13=>(quobc (v13,())))=some (sumN N v,0,()):=by
          show (getI N (v:Int)).bind _=_
          rw [getI_D v0 (Int.natCast_nonneg v) (show (v:Int) < (N.length:Int) by omega),Int.toNat_natCast,Option.bind_some]
          exact qnkvt (may_N hN hv)
        have hgi:getI N (encJ (u,v,s)).2.1=some (N.getD v v0):=by
          show getI N (v:Int)=_
          rw [getI_D v0 (Int.natCast_nonneg v) (show (v:Int) < (N.length:Int) by omega),Int.toNat_natCast]
        have hth:qaw8o ((encJ (u,v,s)).2.2.1,sumV (N.getD v v0),())=some (cS s (sumN N v),0,()):=q8vao hs hb hk
        simp only [hgi,Option.bind_some,qnkvt (may_N hN hv),hth,beqT (show (0:Int)=0 from rfl),cond_true,List.length_cons,List.length_nil,qu8rx (show K.length+(0+1)≤140737488355328 by omega) (show (K.length+(0+1))*56≤140737488355328 by omega),Bool.and_true]
        unfold encJ
        simp only [←q3]
      · rw [if_neg h,if_neg h,List.append_nil]
    · unfold srchX
      simp only [dcF (show ¬ (E.length:Int) < (E.length:Int) by omega),cond_false]
    · simp [extJ,edN]
  rw [List.take_length] at key
  exact key
theorem qsggl (g:GR N.length (depN N) (sumN N) (edN E)) (hN:N.all mayB=true) (hE:E.length≤20) (hok:∀ j,j < E.length→edgeC N E j=0) {P:Tb} {u v:Nat} {s:Sm} {J:List Jb} (h:PI N.length (depN N) (sumN N) (edN E) P ((u,v,s) :: J)) (hJ:J.length≤1000000000) :
    srchL N E (((u,v,s) :: J).map encJ,sq N.length P,())=some (.inl (if (P u v).any (fun r=>leS r s)=true then (J.map encJ,sq N.length P,()) else ((J++extJ (sumN N) (edN E) u v s).map encJ,sq N.length (putT P u v s),()))):=by
  obtain ⟨hu,hv,hb,hsh⟩:=h.jbx g _ List.mem_cons_self
  have hn:=g.n12
  simp only at hu hv hb hsh
  have hPb:∀ x∈P u v,bx x:=fun x hx=>(h.gen u v x hx).2
  have hPl:=q9iju (h.an u v) hPb
  have hidx:IntKind.i64.wrap (IntKind.i64.wrap ((u:Int)*(N.length:Int))+(v:Int))=((u*N.length+v:Nat):Int):=qv3ni hu hv (by omega)
  have hset:(sq N.length P).set (u*N.length+v) (P u v)=sq N.length P:=by
    rw [sq_set P hu hv]
    refine q7mfg fun a b _ _=>?_
    split
    · rename_i e; rw [e.1,e.2]
    · rfl
  have hset2:(sq N.length P).set (u*N.length+v) (frontQ (P u v++[s]))=sq N.length (putT P u v s):=by
    rw [sq_set P hu hv]
    exact q7mfg fun a b _ _=>rfl
  have hL:=qdw8a (l:=P u v++[s]) (by rw [List.length_append,List.length_cons,List.length_nil]; omega) (fun x hx=>(List.mem_append.1 hx).elim (fun q=>(hPb x q).ok) fun q=>by rw [List.mem_singleton.1 q]; exact hb.ok)
  have hkn:=qog7d (l:=P u v) (s:=s) (fun r hr=>(hPb r hr).ok) hb.ok (by omega)
  have hext:=qbk4g g hN hE hok (u:=u) hv hb hsh.o (J:=J.map encJ) (by rw [List.length_map]; exact hJ)
  unfold srchL
  have e1:(((u,v,s) :: J).map encJ)[(0:Int).toNat]? = some (encJ (u,v,s)):=rfl
  have e2:((((u,v,s) :: J).map encJ).drop (1:Int).toNat)=J.map encJ:=rfl
  have hlen:(((u,v,s) :: J).map encJ).length=J.length+1:=by simp
  have hin:inB (0:Int) (J.length+1)=true:=inB_T (i:=0) (by omega)
  have d0:decide ((((J.length+1:Nat)):Int) > 0)=true:=dcT (by omega)
  have d1:decide ((1:Int)≤((J.length+1:Nat):Int))=true:=dcT (by omega)
  have d2:decide ((0:Int)≤1)=true:=rfl
  simp only [hlen,d0,hin,d1,d2,e1,e2,cond_true,Option.bind_some,Bool.and_self,Bool.true_and]
  have w:IntKind.i64.wrap (IntKind.i64.wrap ((encJ (u,v,s)).1*(N.length:Int))+(encJ (u,v,s)).2.1)=((u*N.length+v:Nat):Int):=hidx
  simp only [w,qvra3,qv0oy hu hv,cond_true,Int.toNat_natCast,sq_get P hu hv,Option.bind_some,hset,show (encJ (u,v,s)).2.2.1=s from rfl,hkn]
  cases hc:(P u v).any fun r=>leS r s with
  | true=>simp
  | false =>
    simp only [cond_false,List.length_cons,List.length_nil,qu8rx (show (P u v).length+(0+1)≤140737488355328 by omega) (show ((P u v).length+(0+1))*40≤140737488355328 by omega),Bool.and_true,cond_true,hL,Option.bind_some,Nat.beq_refl,hext,Sum.elim_inl,hset2,Bool.false_eq_true,if_false,List.map_append]
theorem q6pvp (g:GR N.length (depN N) (sumN N) (edN E)) (hN:N.all mayB=true) (hE:E.length≤20) (hok:∀ j,j < E.length→edgeC N E j=0):∀ (m:Nat),m≤1000000000→∀ (P:Tb) (J:List Jb),PI N.length (depN N) (sumN N) (edN E) P J→21*(22276800 - cntD N.length P)+J.length≤m →
    ∃ P':Tb,PI N.length (depN N) (sumN N) (edN E) P' []∧loopM (srchL N E) (J.map encJ,sq N.length P,())=some (.inl (sq N.length P',()))
  | m,hm,P,[],h,hl=>by
    refine ⟨P,h,q7xfb ?_⟩
    unfold srchL
    simp
  | 0,hm,P,j :: J,h,hl=>by rw [List.length_cons] at hl; omega
  | m+1,hm,P,(u,v,s) :: J,h,hl=>by
    rw [List.length_cons] at hl
    rw [q2k3l (qsggl g hN hE hok h (by omega))]
    by_cases hk:(P u v).any (fun r=>leS r s)=true
    · rw [if_pos hk]
      exact q6pvp g hN hE hok m (by omega) P J (h.known (List.any_eq_true.1 hk)) (by omega)
    · rw [if_neg hk]
      have hno:¬ ∃ y∈P u v,leS y s=true:=fun q=>hk (List.any_eq_true.2 q)
      obtain ⟨h1,h2⟩:=h.put g hno
      have h3:=qx1q3 N.length (putT P u v s) g.n12
      have h4:(extJ (sumN N) (edN E) u v s).length≤20:=by
        unfold extJ edN
        rw [List.length_map]
        refine Nat.le_trans (List.length_filter_le ..) ?_
        rw [List.length_map]; exact hE
      exact q6pvp g hN hE hok m (by omega) _ _ h1 (by rw [List.length_append]; omega)
theorem qy3ot (h0:(gval N E).1=0):∃ P:Tb,PF N.length (depN N) (sumN N) (edN E) P∧(∀ u v,∀ x∈P u v,bx x)∧∃ J:List JbI,loopM (srchI N) (([]:List JbI),(0:Int),())=some (.inl (J,()))∧loopM (srchL N E) (J,List.replicate (N.length*N.length) ([]:List Sm),())=some (.inl (sq N.length P,())):=by
  obtain ⟨e0,hn,hE,hN,hok,-⟩:=qr57u h0
  have g:=gr_of hn hN hok
  obtain ⟨P,hP,hrun⟩:=q6pvp g hN hE hok 500000000 (by omega) (fun _ _=>[]) _ (PI.start g) (by rw [List.length_map,List.length_range]; omega)
  rw [←rep_sq] at hrun
  exact ⟨P,hP.done,fun u v x hx=>(hP.gen u v x hx).2,_,qeb3o hn hN,hrun⟩
end
end

section
open Go Go.Abs

theorem okS_of {s:Sm} (hw:wfS s) (o4:oN s≤4) (p0:∀ i,0≤pN s i∧pN s i≤1048576):okS s:=by
  have h1:=hw.2
  have hb:∀ v:Int,0≤v∧v≤1048576→bad v=false:=fun v h=>by
    unfold bad
    simp only [Bool.or_eq_false_iff,decide_eq_false_iff_not]
    omega
  have hd:0≤s.2.1∧s.2.1≤1048576:=by
    have:=p0 (kN s - 1)
    unfold pN plc at this
    rw [if_pos (by omega),if_pos (by omega)] at this
    exact this
  have hl:∀ v∈s.2.2.1,0≤v∧v≤1048576:=by
    intro v hv
    obtain ⟨i,hi,rfl⟩:=List.mem_iff_getElem.1 hv
    have:=p0 (kN s+i)
    unfold pN plc at this
    rw [if_neg (by omega),Nat.add_sub_cancel_left,List.getD_eq_getElem?_getD,List.getElem?_eq_getElem hi] at this
    exact this
  obtain ⟨w1,w2⟩:=hw
  unfold oN at o4
  unfold kN at w2
  have hbb:(bad s.2.1 || s.2.2.1.any bad)=false:=by
    rw [Bool.or_eq_false_iff]
    refine ⟨hb _ hd,List.any_eq_false.2 fun v hv=>by rw [hb _ (hl v hv)]; simp⟩
  show (if (4:Int) < 1∨(4:Int) > 4∨s.1 < 1∨s.1 > (4:Int)∨(s.2.2.1.length:Int) > 4 - s.1 then (1:Int) else if (bad s.2.1 || s.2.2.1.any bad)=true then 2 else 0)=0
  rw [if_neg (by omega),if_neg (by rw [hbb]; simp)]
theorem ok_cS {s r:Sm} (hs:bx s) (hr:bx r):okS (cS s r):=by
  refine okS_of (wf_cS hs.wf hr.wf) (by rw [oN_cS]; exact hr.o4) fun i=>?_
  have h1:=hs.p0 i
  have h2:=hr.p0 i
  by_cases hi:i < oN r
  · rw [pN_cS hs.wf.2 hr.wf.2 hi]
    split <;> omega
  · rw [pN_out (by rw [oN_cS]; omega)]; omega
theorem qu6lo {s:Sm} (h:wfS s):outS s=((oN s:Nat):Int):=by
  have:=h.1
  unfold outS oN
  omega
theorem q5r0g {a b:List Sm} (ha:a.length≤20000000) (hp:∀ s∈a,s.2.2.1.length≤1000000):qlwc2 (a,b,())=some (decide (a=b),()):=by
  unfold qlwc2
  by_cases hl:a.length=b.length
  · have key:loopM (qeby7 (a,b,())) ((0:Int),())=some (if (List.range a.length).any (fun i=>!decide (a.getD i (0,0,[],())=b.getD i (0,0,[],())))=true then .inl (false,()) else .inr (.inl ())):=by
      refine q238v a.length () _ _ _ (fun i hi=>?_) ?_
      · have hi2:i < b.length:=by omega
        unfold qeby7
        rw [List.getD_eq_getElem?_getD,List.getElem?_eq_getElem hi,Option.getD_some,List.getD_eq_getElem?_getD,List.getElem?_eq_getElem hi2,Option.getD_some]
        simp only [dcT (show (i:Int) < (a.length:Int) by omega),cond_true,q1j71 hi,q1j71 hi2,Option.bind_some,qi7rb (hp _ (List.getElem_mem hi)),wrapS (show i < 9223372036854775807 by omega)]
        cases decide (a[i]=b[i]) <;> rfl
      · unfold qeby7
        simp only [dcF (show ¬ (a.length:Int) < (a.length:Int) by omega),cond_false]
    have e:(List.range a.length).any (fun i=>!decide (a.getD i (0,0,[],())=b.getD i (0,0,[],())))=!decide (a=b):=by
      rw [Bool.eq_iff_iff,List.any_eq_true,Bool.not_eq_true',decide_eq_false_iff_not]
      constructor
      · rintro ⟨i,hi,h⟩ e
        subst e
        simp at h
      · intro hne
        apply Classical.byContradiction
        intro hc
        refine hne (List.ext_getElem hl fun i h1 h2=>?_)
        apply Classical.byContradiction
        intro h3
        refine hc ⟨i,List.mem_range.2 h1,?_⟩
        rw [List.getD_eq_getElem?_getD,List.getElem?_eq_getElem h1,List.getD_eq_getElem?_getD,List.getElem?_eq_getElem h2]
        simpa using h3
    simp only [bneF (show (a.length:Int)=(b.length:Int) by omega),cond_false,key,e]
    by_cases h:a=b
    · simp [h]
    · simp [h]
  · have:¬ a=b:=fun e=>hl (by rw [e])
    simp only [bneT (show ¬ (a.length:Int)=(b.length:Int) by omega),cond_true,decide_eq_false this]
section
variable {N:List Node} {E:List Edge}
theorem q1hx3 (hN:N.all mayB=true) {a:Nat} (ha:a < N.length) (hb:bx (sumN N a)) {l K:List Sm} (hl:∀ r∈l,bx r∧kN r≤oN (sumN N a)) (hK:K.length+l.length≤20000000) (y2:Bool × Int × List (List Sm) × Unit) (hy:y2.2.1=(a:Int)) :
    loopM (q13yv ((N,E,()),()) l y2) (K,(0:Int),())=some (.inl (K++l.map (cS (sumN N a)),())):=by
  have key:loopM (q13yv ((N,E,()),()) l y2) (K,(0:Int),())=some (.inl (K++(l.take l.length).map (cS (sumN N a)),())):=by
    refine q9h1y l.length (fun i=>(K++(l.take i).map (cS (sumN N a)),(i:Int),())) _ (fun i hi=>?_) ?_ ?_
    · have hlen:(K++(l.take i).map (cS (sumN N a))).length≤20000000:=by rw [List.length_append,List.length_map,List.length_take]; omega
      rw [List.take_succ_eq_append_getElem hi,List.map_append,←List.append_assoc]
      generalize K++(l.take i).map (cS (sumN N a))=M at *
      obtain ⟨h1,h2⟩:=hl _ (List.getElem_mem hi)
      have hns:q8lmr (N.getD a v0,())=some (sumN N a,()):=qnvpx (may_N hN ha)
      unfold q13yv
      simp only [dcT (show (i:Int) < (l.length:Int) by omega),cond_true,q1j71 hi,hy,getI_D v0 (Int.natCast_nonneg a) (show (a:Int) < (N.length:Int) by omega),Int.toNat_natCast,Option.bind_some,hns,ql44q hb h1 h2,beqT (show (0:Int)=0 from rfl),List.length_cons,List.length_nil,qu8rx (show M.length+(0+1)≤140737488355328 by omega) (show (M.length+(0+1))*40≤140737488355328 by omega),Bool.and_true,wrapS (show i < 9223372036854775807 by omega)]
      rfl
    · unfold q13yv
      simp only [dcF (show ¬ (l.length:Int) < (l.length:Int) by omega),cond_false]
    · simp
  rw [List.take_length] at key
  exact key
def edT (N:List Node) (Q:Tb) (a b:Nat) (ed:List (Nat × Nat)):List Sm:=ed.flatMap fun e=>if e.1=a then (Q e.2 b).map (cS (sumN N a)) else []
theorem qwcv2 {Q:Tb} (hQ:∀ a b,(Q a b).length≤154700) (a b:Nat):∀ ed:List (Nat × Nat),(edT N Q a b ed).length≤ed.length*154700
  | []=>Nat.zero_le _
  | e :: ed=>by
    have ih:=qwcv2 hQ a b ed
    unfold edT at ih ⊢
    rw [List.flatMap_cons,List.length_append,List.length_cons,Nat.succ_mul]
    have:=hQ e.2 b
    split
    · rw [List.length_map]; omega
    · rw [List.length_nil]; omega
theorem qtxx7 (g:GR N.length (depN N) (sumN N) (edN E)) (hN:N.all mayB=true) (hE:E.length≤20) (hok:∀ j,j < E.length→edgeC N E j=0) {Q:Tb} (hQ:RI N.length (depN N) (sumN N) (edN E) Q) {a b:Nat} (ha:a < N.length) (hb:b < N.length) (y2 y3:Bool × Int × List (List Sm) × Unit) (hy2:y2.2.1=(a:Int)) (hy3:y3.2.1=(b:Int)) {K:List Sm} (hK:K.length≤1) :
    loopM (qktt4 ((N,E,()),()) y2 y3 (sq N.length Q,())) (K,(0:Int),())=some (.inl (K++edT N Q a b (edN E),())):=by
  have hlenQ:∀ c d,(Q c d).length≤154700:=fun c d=>q9iju (hQ.an c d) (hQ.bx g)
  have hn:=g.n12
  have key:loopM (qktt4 ((N,E,()),()) y2 y3 (sq N.length Q,())) (K,(0:Int),())=some (.inl (K++edT N Q a b (edN (E.take E.length)),())):=by
    refine q9h1y E.length (fun i=>(K++edT N Q a b (edN (E.take i)),(i:Int),())) _ (fun i hi=>?_) ?_ ?_
    · have hl1:=qwcv2 (N:=N) hlenQ a b (edN (E.take i))
      have hl2:(edN (E.take i)).length=i:=by unfold edN; rw [List.length_map,List.length_take]; omega
      have hlen:(K++edT N Q a b (edN (E.take i))).length≤4000000:=by rw [List.length_append]; omega
      obtain ⟨q1,q2,q3,q4,q5⟩:=qnsi9 hok _ (List.getElem_mem hi)
      have hsplit:edT N Q a b (edN (E.take (i+1)))=edT N Q a b (edN (E.take i))++(if E[i].1.toNat=a then (Q E[i].2.1.toNat b).map (cS (sumN N a)) else []):=by
        rw [List.take_succ_eq_append_getElem hi]
        unfold edT edN
        rw [List.map_append,List.flatMap_append]
        simp
      rw [hsplit,←List.append_assoc]
      generalize K++edT N Q a b (edN (E.take i))=M at *
      unfold qktt4
      simp only [dcT (show (i:Int) < (E.length:Int) by omega),cond_true,q1j71 hi,Option.bind_some,qerg8,wrapS (show i < 9223372036854775807 by omega),hy2,hy3]
      by_cases h:E[i].1=(a:Int)
      · have h':E[i].1.toNat=a:=by omega
        rw [if_pos h,if_pos h',q3]
        have hx:=hlenQ E[i].2.1.toNat b
        have hcond:∀ r∈Q E[i].2.1.toNat b,bx r∧kN r≤oN (sumN N a):=fun r hr=>by
          refine ⟨hQ.bx g r hr,?_⟩
          have h3:=(((hQ.gen _ _ r hr).1).ok g).2.2.k
          have h4:=(g.e a E[i].2.1.toNat (by rw [←h']; exact List.mem_map.2 ⟨E[i],List.getElem_mem hi,rfl⟩)).2.2
          rw [h4]; exact h3
        have ht:=q1hx3 (E:=E) hN ha (g.bxS ha) hcond (K:=M) (by omega) y2 hy2
        simp only [qv3ni q4 hb (by omega),qvra3,qv0oy q4 hb,cond_true,Int.toNat_natCast,sq_get Q q4 hb,Option.bind_some,ht,Sum.elim_inl]
      · have h':¬ E[i].1.toNat=a:=by omega
        rw [if_neg h,if_neg h',List.append_nil]
    · unfold qktt4
      simp only [dcF (show ¬ (E.length:Int) < (E.length:Int) by omega),cond_false]
    · simp [edT,edN]
  rw [List.take_length] at key
  exact key
def madeT (n:Nat) (T:Tb) (k:Nat):List (List Sm):=tab (n*n) fun p=>if p < k then T (p / n) (p % n) else []
def sameT (n:Nat) (T Q:Tb) (k:Nat):Bool:=(List.range k).all fun p=>decide (T (p / n) (p % n)=Q (p / n) (p % n))
theorem qhbtn {n a b:Nat} {T:Tb} (ha:a < n) (hb:b < n):(madeT n T (a*n+b)).set (a*n+b) (T a b)=madeT n T (a*n+b+1):=by
  unfold madeT
  rw [qq0ob]
  refine qrnyd fun p hp=>?_
  by_cases h:p=a*n+b
  · rw [if_pos h,if_pos (by omega),h,qzhw8 hb,q3g80 hb]
  · rw [if_neg h]
    by_cases h2:p < a*n+b
    · rw [if_pos h2,if_pos (by omega)]
    · rw [if_neg h2,if_neg (by omega)]
theorem q4s0k (n:Nat) (T:Tb):madeT n T (n*n)=sq n T:=qrnyd fun p hp=>if_pos hp
theorem q2241 (n:Nat) (T:Tb):List.replicate (n*n) ([]:List Sm)=madeT n T 0:=by
  rw [show List.replicate (n*n) ([]:List Sm)=tab (n*n) fun _=>[] from qeprz ..]
  exact qrnyd fun p hp=>(if_neg (by omega)).symm
theorem q5lec {n a b:Nat} (T Q:Tb) (hb:b < n):sameT n T Q (a*n+b+1)=(sameT n T Q (a*n+b) && decide (T a b=Q a b)):=by
  unfold sameT
  rw [List.range_succ,List.all_append]
  simp only [List.all_cons,List.all_nil,Bool.and_true,qzhw8 hb,q3g80 hb]
theorem sameT_all {n:Nat} {T Q:Tb}:sameT n T Q (n*n)=true↔∀ a b,a < n→b < n→T a b=Q a b:=by
  unfold sameT
  rw [List.all_eq_true]
  constructor
  · intro h a b ha hb
    have:=of_decide_eq_true (h (a*n+b) (List.mem_range.2 (idx_lt ha hb)))
    rwa [qzhw8 hb,q3g80 hb] at this
  · intro h p hp
    have:=idx_of (List.mem_range.1 hp)
    exact decide_eq_true (h _ _ this.1 this.2.1)
theorem q9jkt (g:GR N.length (depN N) (sumN N) (edN E)) (hN:N.all mayB=true) (hE:E.length≤20) (hok:∀ j,j < E.length→edgeC N E j=0) {Q:Tb} (hQ:RI N.length (depN N) (sumN N) (edN E) Q) {a b:Nat} (ha:a < N.length) (hb:b < N.length) (y2:Bool × Int × List (List Sm) × Unit) (hy2:y2.2.1=(a:Int)) :
    q50nd ((N,E,()),()) y2 (sq N.length Q,()) (sameT N.length (rndT N.length (depN N) (sumN N) (edN E) Q) Q (a*N.length+b),(b:Int),madeT N.length (rndT N.length (depN N) (sumN N) (edN E) Q) (a*N.length+b),()) =
      some (.inl (sameT N.length (rndT N.length (depN N) (sumN N) (edN E) Q) Q (a*N.length+(b+1)),((b+1:Nat):Int),madeT N.length (rndT N.length (depN N) (sumN N) (edN E) Q) (a*N.length+(b+1)),())):=by
  have hn:=g.n12
  have hlenQ:∀ c d,(Q c d).length≤154700:=fun c d=>q9iju (hQ.an c d) (hQ.bx g)
  have hT:rndT N.length (depN N) (sumN N) (edN E) Q a b=frontQ (preT (depN N) (sumN N) (edN E) Q a b):=if_pos ⟨ha,hb⟩
  have hpre:preT (depN N) (sumN N) (edN E) Q a b=(if a=b then [idS (depN N a)] else [])++edT N Q a b (edN E):=rfl
  have hnext:=hQ.next g
  have hl1:=qwcv2 (N:=N) hlenQ a b (edN E)
  have hl2:(edN E).length=E.length:=List.length_map ..
  have hprel:(preT (depN N) (sumN N) (edN E) Q a b).length≤10000000:=by
    rw [hpre,List.length_append]
    have:(if a=b then [idS (depN N a)] else []).length≤1:=by split <;> simp
    omega
  have hpok:∀ s∈preT (depN N) (sumN N) (edN E) Q a b,okS s∧outS s=((depN N b:Nat):Int):=fun s hs=>by
    rcases mem_pre.1 hs with ⟨h1,rfl⟩ | ⟨c,r,he,hr,rfl⟩
    · subst h1
      have hw:=wf_id (g.d1 a ha).1
      refine ⟨okS_of hw (by rw [oN_id]; exact (g.d1 a ha).2) fun i=>by rw [pN_id]; omega,by rw [qu6lo hw,oN_id]⟩
    · have hbr:=hQ.bx g r hr
      have hsr:=((hQ.gen c b r hr).1.ok g).2.2
      exact ⟨ok_cS (g.bxS ha) hbr,by rw [qu6lo (wf_cS (g.bxS ha).wf hbr.wf),oN_cS,hsr.o]⟩
  have hF:=qvkly hprel (fun s hs=>(hpok s hs).1) fun s hs r hr=>by rw [(hpok s hs).2,(hpok r hr).2]
  rw [←hT] at hF
  have hTb:∀ x∈rndT N.length (depN N) (sumN N) (edN E) Q a b,bx x:=hnext.bx g
  have hTl:=q9iju (hnext.an a b) hTb
  have hsame:=q5r0g (a:=rndT N.length (depN N) (sumN N) (edN E) Q a b) (b:=Q a b) (by omega) fun s hs=>by have:=q4qoc (hTb s hs).ok; omega
  have hset:=qhbtn (T:=rndT N.length (depN N) (sumN N) (edN E) Q) ha hb
  have hss:=q5lec (rndT N.length (depN N) (sumN N) (edN E) Q) Q (a:=a) hb
  have hmk:∀ R:List (List Sm),R.length=N.length*N.length→(inB ((a*N.length+b:Nat):Int) R.length=true)∧∃ v,R[a*N.length+b]? = some v:=fun R hR=>by
    refine ⟨by rw [hR]; exact qv0oy ha hb,?_⟩
    have:=idx_lt ha hb
    exact ⟨_,List.getElem?_eq_getElem (by omega)⟩
  generalize hRdef:madeT N.length (rndT N.length (depN N) (sumN N) (edN E) Q) (a*N.length+b)=R at *
  have hRl:R.length=N.length*N.length:=by rw [←hRdef]; exact qnjur ..
  obtain ⟨hRin,v,hRv⟩:=hmk R hRl
  have hinit:(((cond ((a:Int) == (b:Int)) ((getI N (a:Int)).bind fun v4=>(cond (roomOk ([(v4.2.1,(0:Int),([]:(List Int)),())]).length 40 && true && true) (some (Sum.inl ([(v4.2.1,(0:Int),([]:(List Int)),())],()))) none)) (some (Sum.inl (([]:(List (Int × (Int × ((List Int) × Unit))))),())))):Option ((List Sm × Unit) ⊕ Empty)))=some (.inl ((if a=b then [idS (depN N a)] else []),())):=by
    by_cases h:a=b
    · rw [beqT (show (a:Int)=(b:Int) by omega),if_pos h,cond_true,getI_D v0 (Int.natCast_nonneg a) (show (a:Int) < (N.length:Int) by omega),Int.toNat_natCast,Option.bind_some,qgtw1 hN ha]
      rfl
    · rw [beqF (show ¬ (a:Int)=(b:Int) by omega),if_neg h]
      rfl
  have hel:=fun y3 hy3=>qtxx7 g hN hE hok hQ ha hb y2 y3 hy2 hy3 (K:=if a=b then [idS (depN N a)] else []) (by split <;> simp)
  unfold q50nd
  simp only [dcT (show (b:Int) < (N.length:Int) by omega),cond_true,hy2]
  have hinit':=hinit
  rw [hinit']
  simp only [Option.bind_some,Sum.elim_inl]
  rw [hel _ rfl]
  simp only [Option.bind_some,Sum.elim_inl,←hpre,hF,qv3ni ha hb (show N.length≤16 by omega),hRin,cond_true,Int.toNat_natCast,hRv,qvra3,qv0oy ha hb,sq_get Q ha hb,hsame,wrapS (show b < 9223372036854775807 by omega),hset]
  rw [show a*N.length+(b+1)=a*N.length+b+1 from rfl,hss]
  cases decide (rndT N.length (depN N) (sumN N) (edN E) Q a b=Q a b) with
  | true=>simp
  | false=>simp
theorem qag4q (g:GR N.length (depN N) (sumN N) (edN E)) (hN:N.all mayB=true) (hE:E.length≤20) (hok:∀ j,j < E.length→edgeC N E j=0) {Q:Tb} (hQ:RI N.length (depN N) (sumN N) (edN E) Q) :
    loopM (q8ed0 ((N,E,()),()) (sq N.length Q,())) (true,(0:Int),List.replicate (N.length*N.length) ([]:List Sm),())=some (.inl (sameT N.length (rndT N.length (depN N) (sumN N) (edN E) Q) Q (N.length*N.length),sq N.length (rndT N.length (depN N) (sumN N) (edN E) Q),())):=by
  have hn:=g.n12
  rw [←q4s0k N.length (rndT N.length (depN N) (sumN N) (edN E) Q)]
  refine q9h1y N.length (fun a=>(sameT N.length (rndT N.length (depN N) (sumN N) (edN E) Q) Q (a*N.length),(a:Int),madeT N.length (rndT N.length (depN N) (sumN N) (edN E) Q) (a*N.length),())) _ (fun a ha=>?_) ?_ ?_
  · unfold q8ed0
    have hrow:∀ y2:Bool × Int × List (List Sm) × Unit,y2.2.1=(a:Int)→loopM (q50nd ((N,E,()),()) y2 (sq N.length Q,())) (sameT N.length (rndT N.length (depN N) (sumN N) (edN E) Q) Q (a*N.length),(0:Int),madeT N.length (rndT N.length (depN N) (sumN N) (edN E) Q) (a*N.length),())=some (.inl (sameT N.length (rndT N.length (depN N) (sumN N) (edN E) Q) Q ((a+1)*N.length),madeT N.length (rndT N.length (depN N) (sumN N) (edN E) Q) ((a+1)*N.length),())):=fun y2 hy2=>by
      refine q9h1y N.length (fun b=>(sameT N.length (rndT N.length (depN N) (sumN N) (edN E) Q) Q (a*N.length+b),(b:Int),madeT N.length (rndT N.length (depN N) (sumN N) (edN E) Q) (a*N.length+b),())) _ (fun b hb=>q9jkt g hN hE hok hQ ha hb y2 hy2) ?_ rfl
      unfold q50nd
      simp only [dcF (show ¬ (N.length:Int) < (N.length:Int) by omega),cond_false,Nat.succ_mul]
    simp only [dcT (show (a:Int) < (N.length:Int) by omega),cond_true]
    rw [hrow _ rfl]
    simp only [Option.bind_some,Sum.elim_inl,wrapS (show a < 9223372036854775807 by omega)]
  · unfold q8ed0
    simp only [dcF (show ¬ (N.length:Int) < (N.length:Int) by omega),cond_false]
  · rw [q2241 N.length (rndT N.length (depN N) (sumN N) (edN E) Q)]
    simp only [Nat.zero_mul]
    rfl
theorem qk7q6 (g:GR N.length (depN N) (sumN N) (edN E)) (hN:N.all mayB=true) (hE:E.length≤20) (hok:∀ j,j < E.length→edgeC N E j=0):∀ (m:Nat) (Q:Tb),RI N.length (depN N) (sumN N) (edN E) Q→22276800 - cntD N.length Q≤m →
    ∃ Q':Tb,QF N.length (depN N) (sumN N) (edN E) Q'∧loopM (q7jim ((N,E,()),())) (sq N.length Q,())=some (.inl (sq N.length Q',())):=by
  intro m
  induction m with
  | zero =>
    intro Q hQ hm
    have hg:=hQ.grow g
    have hle:=qx1q3 N.length (rndT N.length (depN N) (sumN N) (edN E) Q) g.n12
    have hf:∀ a b,a < N.length→b < N.length→rndT N.length (depN N) (sumN N) (edN E) Q a b=Q a b:=Classical.byContradiction fun hc=>by have:=hg hc; omega
    have hn:=g.n12
    have hsq:=sq_le (n:=N.length) (by omega)
    refine ⟨Q,hQ.fixed g hf,q7xfb ?_⟩
    unfold q7jim
    simp only [qep0l (n:=N.length) (by omega),dcT (show (0:Int)≤((N.length*N.length:Nat):Int) by omega),dcT (show ((N.length*N.length:Nat):Int)≤((N.length*N.length:Nat):Int) by omega),Int.toNat_natCast,qu8rx (show N.length*N.length≤140737488355328 by omega) (show N.length*N.length*24≤140737488355328 by omega),dcT (show ((N.length*N.length:Nat):Int)≤9223372036854775807 by omega),Bool.and_self,cond_true,qag4q g hN hE hok hQ,Option.bind_some,Sum.elim_inl,sameT_all.2 hf,q7mfg hf]
  | succ m ih =>
    intro Q hQ hm
    have hn:=g.n12
    have hsq:=sq_le (n:=N.length) (by omega)
    have hstep:q7jim ((N,E,()),()) (sq N.length Q,())=some (cond (sameT N.length (rndT N.length (depN N) (sumN N) (edN E) Q) Q (N.length*N.length)) (.inr (.inl (sq N.length (rndT N.length (depN N) (sumN N) (edN E) Q),()))) (.inl (sq N.length (rndT N.length (depN N) (sumN N) (edN E) Q),()))):=by
      unfold q7jim
      simp only [qep0l (n:=N.length) (by omega),dcT (show (0:Int)≤((N.length*N.length:Nat):Int) by omega),dcT (show ((N.length*N.length:Nat):Int)≤((N.length*N.length:Nat):Int) by omega),Int.toNat_natCast,qu8rx (show N.length*N.length≤140737488355328 by omega) (show N.length*N.length*24≤140737488355328 by omega),dcT (show ((N.length*N.length:Nat):Int)≤9223372036854775807 by omega),Bool.and_self,cond_true,qag4q g hN hE hok hQ,Option.bind_some,Sum.elim_inl]
      cases sameT N.length (rndT N.length (depN N) (sumN N) (edN E) Q) Q (N.length*N.length) <;> rfl
    cases hs:sameT N.length (rndT N.length (depN N) (sumN N) (edN E) Q) Q (N.length*N.length) with
    | true =>
      have hf:=sameT_all.1 hs
      rw [hs] at hstep
      exact ⟨Q,hQ.fixed g hf,by rw [q7xfb hstep,q7mfg hf]⟩
    | false =>
      rw [hs] at hstep
      rw [q2k3l hstep]
      have hg:=hQ.grow g fun hc=>by rw [sameT_all.2 hc] at hs; cases hs
      exact ih _ (hQ.next g) (by omega)
theorem qgk4o (h0:(gval N E).1=0):∃ Q:Tb,QF N.length (depN N) (sumN N) (edN E) Q∧q1gxc ((N,E,()),())=some (sq N.length Q,()):=by
  obtain ⟨e0,hn,hE,hN,hok,-⟩:=qr57u h0
  have g:=gr_of hn hN hok
  obtain ⟨Q,hQ,hrun⟩:=qk7q6 g hN hE hok 22276800 (fun _ _=>[]) (RI.start g) (by omega)
  refine ⟨Q,hQ,?_⟩
  have hsq:=sq_le (n:=N.length) (by omega)
  unfold q1gxc
  simp only [qep0l (n:=N.length) (by omega),dcT (show (0:Int)≤((N.length*N.length:Nat):Int) by omega),dcT (show ((N.length*N.length:Nat):Int)≤((N.length*N.length:Nat):Int) by omega),Int.toNat_natCast,qu8rx (show N.length*N.length≤140737488355328 by omega) (show N.length*N.length*24≤140737488355328 by omega),dcT (show ((N.length*N.length:Nat):Int)≤9223372036854775807 by omega),Bool.and_self,cond_true,rep_sq,hrun,Option.bind_some,Sum.elim_inl]
theorem qdkhp (h0:(gval N E).1=0):∃ P:Tb,(∀ u v,∀ x∈P u v,bx x)∧PF N.length (depN N) (sumN N) (edN E) P∧QF N.length (depN N) (sumN N) (edN E) P∧q1gxc ((N,E,()),())=some (sq N.length P,())∧∃ J:List JbI,loopM (srchI N) (([]:List JbI),(0:Int),())=some (.inl (J,()))∧loopM (srchL N E) (J,List.replicate (N.length*N.length) ([]:List Sm),())=some (.inl (sq N.length P,())):=by
  obtain ⟨P,hP,hb,h1⟩:=qy3ot h0
  obtain ⟨Q,hQ,h2⟩:=qgk4o h0
  obtain ⟨e0,hn,hE,hN,hok,-⟩:=qr57u h0
  have g:=gr_of hn hN hok
  have:P=Q:=funext fun u=>funext fun v=>PQ_eq g hP hQ u v
  subst this
  exact ⟨P,hb,hP,hQ,h2,h1⟩
end
end

section
open Go Go.Abs

theorem quel3 (l:List Int) (h:l.length≤1000000):qp7s9 (l,())=some (l,()):=by
  unfold qp7s9
  have hr:roomOk (([]:List Int).length+l.length) 8=true:=room8 (by simpa using h)
  rw [hr]; rfl
def app (n:Nat) (d:Int) (l t:List Int):List Int × Int :=
  if t.getD (n - 1) 0+d > 1048576 then ([],6) else ((t.take n++l).set (n - 1) (t.getD (n - 1) 0+d),0)
theorem q4w71 (n d:Int) (l t:List Int):qb24m ((n,d,l,()),t,()) =
    some (if chk t≠0 then ([],chk t,()) else if sck n d l t.length≠0 then ([],sck n d l t.length,()) else ((app n.toNat d l t).1,(app n.toNat d l t).2,())):=by
  unfold qb24m
  simp only [qslxk,qr2g6,Option.bind_some,qerg8]
  by_cases h1:chk t=0
  · by_cases h2:sck n d l t.length=0
    · obtain ⟨t1,t2,t3⟩:=qvov9 h1
      obtain ⟨s1,s2,s3,s4,s5,s6⟩:=q5p43 h2
      simp only [h1,h2,ne_eq,not_true_eq_false,if_false,if_true]
      have hc:(decide (0≤(0:Int)) && decide ((0:Int)≤n) && decide (n≤(t.length:Int)))=true:=by simp; omega
      have htk:(t.drop (0:Int).toNat).take (n.toNat - (0:Int).toNat)=t.take n.toNat:=by simp
      have hlen:(t.take n.toNat).length=n.toNat:=by rw [List.length_take]; omega
      rw [hc,cond_true,htk,quel3 _ (by omega),Option.bind_some]
      have hr:roomOk ((t.take n.toNat).length+l.length) 8=true:=room8 (by omega)
      have hw:IntKind.i64.wrap (n - 1)=n - 1:=wrap64 (by omega) (by omega)
      have hl:(t.take n.toNat++l).length=n.toNat+l.length:=by simp [hlen]
      have hib:inB (n - 1) (t.take n.toNat++l).length=true:=by simp only [inB,hl,Bool.and_eq_true,decide_eq_true_eq]; omega
      have hnat:(n - 1).toNat=n.toNat - 1:=by omega
      have hlt:n.toNat - 1 < t.length:=by omega
      have hg:(t.take n.toNat++l)[n.toNat - 1]? = some t[n.toNat - 1]:=by
        rw [List.getElem?_append_left (by omega),List.getElem?_take_of_lt (by omega),List.getElem?_eq_getElem hlt]
      have hgd:t.getD (n.toNat - 1) 0=t[n.toNat - 1]:=by rw [List.getD_eq_getElem?_getD,List.getElem?_eq_getElem hlt]; rfl
      have ht:=t3 _ _ (List.getElem?_eq_getElem hlt)
      have hw2:IntKind.i64.wrap (t[n.toNat - 1]+d)=t[n.toNat - 1]+d:=wrap64 (by omega) (by omega)
      simp only [hr,Bool.and_true,cond_true,hw,hib,hnat,hg,Option.bind_some,hw2]
      have hib2:inB (n - 1) ((t.take n.toNat++l).set (n.toNat - 1) (t[n.toNat - 1]+d)).length=true:=by rw [List.length_set]; exact hib
      have hg2:((t.take n.toNat++l).set (n.toNat - 1) (t[n.toNat - 1]+d))[n.toNat - 1]? = some (t[n.toNat - 1]+d):=by
        rw [List.getElem?_set_self (by omega)]
      simp only [hib2,cond_true,hg2,Option.bind_some,q9va3,Bool.not_not]
      unfold app
      rw [hgd]
      by_cases hb:t[n.toNat - 1]+d > 1048576
      · have:bad (t[n.toNat - 1]+d)=true:=by unfold bad; simp [hb]
        rw [this,if_pos hb]; rfl
      · have:bad (t[n.toNat - 1]+d)=false:=by unfold bad; simp; omega
        rw [this,if_neg hb]; rfl
    · simp [h1,h2]
  · simp [h1]
theorem q8ghv (n d:Int) (l:List Int) (hn:1≤n) (hn4:n≤4) (i:Nat) (hi:(i:Int) < n+l.length) (hl:l.length≤4) :
    qw20i ((n,d,l,()),(i:Int),())=some (if (i:Int) ≥ n then l.getD (i - n.toNat) 0 else if (i:Int)=n - 1 then d else 0,()):=by
  unfold qw20i
  simp only [qlytz,q0kjd]
  rw [wrap64 (by omega) (by omega),wrap64 (by omega) (by omega)]
  by_cases h1:(i:Int) ≥ n
  · rw [if_pos h1,if_pos h1]
    have:(i:Int) - n=((i - n.toNat:Nat):Int):=by omega
    have hlt:i - n.toNat < l.length:=by omega
    rw [this,qooa6,List.getElem?_eq_getElem hlt,List.getD_eq_getElem?_getD,List.getElem?_eq_getElem hlt]
    rfl
  · rw [if_neg h1,if_neg h1]
    split <;> rfl
theorem ql6yb (n d:Int) (l t:List Int):qf10e ((n,d,l,()),t,()) =
    some (if chk t≠0 then ([],chk t,()) else if sck n d l t.length≠0 then ([],sck n d l t.length,()) else ((app n.toNat d l t).1,(app n.toNat d l t).2,())):=by
  unfold qf10e
  simp only [qs2ti,q9949,Option.bind_some,qerg8]
  by_cases h1:chk t=0
  · by_cases h2:sck n d l t.length=0
    · obtain ⟨t1,t2,t3⟩:=qvov9 h1
      obtain ⟨s1,s2,s3,s4,s5,s6⟩:=q5p43 h2
      simp only [h1,h2,ne_eq,not_true_eq_false,if_false,if_true]
      have hout:q9a13 ((n,d,l,()),())=some (n+l.length,()):=by
        unfold q9a13
        simp only
        rw [wrap64 (by omega) (by omega)]
      let val:Nat→Int:=fun i=>if (i:Int) ≥ n then l.getD (i - n.toNat) 0 else (if (i:Int)=n - 1 then d else 0)+t.getD i 0
      have hstep:∀ (i:Nat),i < n.toNat+l.length→qykz7 ((n,d,l,()),t,()) ((List.range i).map val,(i:Int),())=some (if val i > 1048576 then .inr (.inl ([],6,())) else .inl ((List.range (i+1)).map val,((i+1:Nat):Int),())):=by
        intro i hi
        unfold qykz7
        have hlt:((i:Int) < n+l.length):=by omega
        have hr:roomOk (i+1) 8=true:=room8 (by omega)
        have hlen:((List.range i).map val).length=i:=by simp
        have hsucc:(List.range (i+1)).map val=(List.range i).map val++[val i]:=by rw [List.range_succ]; simp
        simp only [hout,Option.bind_some,hlt,decide_true,cond_true,q8ghv n d l s1 (by omega) i hlt (by omega),hlen,List.length_singleton,hr,Bool.and_true]
        rw [wrap64 (x:=(i:Int)+1) (by omega) (by omega),hsucc]
        by_cases hn:(i:Int) < n
        · have hge:¬ ((i:Int) ≥ n):=by omega
          have hit:i < t.length:=by omega
          have hti:=t3 _ _ (List.getElem?_eq_getElem hit)
          have hv:val i=(if (i:Int)=n - 1 then d else 0)+t[i]:=by
            show (if (i:Int) ≥ n then _ else _)=_
            rw [if_neg hge,List.getD_eq_getElem?_getD,List.getElem?_eq_getElem hit]; rfl
          have hw:IntKind.i64.wrap ((if (i:Int)=n - 1 then d else 0)+t[i])=val i:=by
            rw [hv]; split <;> exact wrap64 (by omega) (by omega)
          simp only [hn,decide_true,cond_true,qooa6,List.getElem?_eq_getElem hit,Option.bind_some,if_neg hge,hw,qlytz]
          split <;> rfl
        · have hge:(i:Int) ≥ n:=by omega
          have hv:val i=l.getD (i - n.toNat) 0:=by
            show (if (i:Int) ≥ n then _ else _)=_
            rw [if_pos hge]
          simp only [hn,decide_false,cond_false,if_pos hge,←hv,qlytz]
          split <;> rfl
      have hvn:val (n.toNat - 1)=d+t.getD (n.toNat - 1) 0:=by
        show (if ((n.toNat - 1:Nat):Int) ≥ n then _ else _)=_
        rw [if_neg (by omega),if_pos (by omega)]
      have hle:∀ i,i < n.toNat+l.length→i≠n.toNat - 1→¬ val i > 1048576:=by
        intro i hi hne
        show ¬ ((if (i:Int) ≥ n then _ else _):Int) > 1048576
        by_cases hge:(i:Int) ≥ n
        · rw [if_pos hge]
          have hlt:i - n.toNat < l.length:=by omega
          have:=s6 _ _ (List.getElem?_eq_getElem hlt)
          rw [List.getD_eq_getElem?_getD,List.getElem?_eq_getElem hlt]
          simp only [Option.getD_some]; omega
        · rw [if_neg hge,if_neg (by omega)]
          have hit:i < t.length:=by omega
          have:=t3 _ _ (List.getElem?_eq_getElem hit)
          rw [List.getD_eq_getElem?_getD,List.getElem?_eq_getElem hit]
          simp only [Option.getD_some]; omega
      have hlt:n.toNat - 1 < t.length:=by omega
      unfold app
      by_cases hb:t.getD (n.toNat - 1) 0+d > 1048576
      · rw [if_pos hb]
        have key:=q7t74 (f:=qykz7 ((n,d,l,()),t,())) (n.toNat - 1) (fun i=>(List.range i).map val) (.inl ([],6,()))
          (fun i hi=>by rw [hstep i (by omega),if_neg (hle i (by omega) (by omega))]) (by rw [hstep _ (by omega),if_pos (by rw [hvn]; omega)])
        simp only [List.range_zero,List.map_nil] at key
        rw [key]; rfl
      · rw [if_neg hb]
        have key:=q7t74 (f:=qykz7 ((n,d,l,()),t,()))
          (n.toNat+l.length) (fun i=>(List.range i).map val) (.inr (.inl ((List.range (n.toNat+l.length)).map val,())))
          (fun i hi=>by
            rw [hstep i hi]
            by_cases hne:i=n.toNat - 1
            · rw [if_neg (by rw [hne,hvn]; omega)]
            · rw [if_neg (hle i hi hne)]) (by
            have hge:¬ (((n.toNat+l.length:Nat):Int) < n+l.length):=by omega
            unfold qykz7
            simp only [hout,Option.bind_some,hge,decide_false,cond_false])
        simp only [List.range_zero,List.map_nil] at key
        rw [key]
        have heq:(List.range (n.toNat+l.length)).map val=(t.take n.toNat++l).set (n.toNat - 1) (t.getD (n.toNat - 1) 0+d):=by
          have hlen:(t.take n.toNat).length=n.toNat:=by rw [List.length_take]; omega
          apply List.ext_getElem?
          intro i
          by_cases hi:i < n.toNat+l.length
          · rw [List.getElem?_map,List.getElem?_range hi]
            show some (val i)=_
            by_cases hne:i=n.toNat - 1
            · rw [hne,List.getElem?_set_self (by simp [hlen]; omega),hvn,Int.add_comm]
            · rw [List.getElem?_set_ne (Ne.symm hne)]
              by_cases hge:(i:Int) ≥ n
              · have hlt2:i - n.toNat < l.length:=by omega
                rw [List.getElem?_append_right (by omega),hlen,List.getElem?_eq_getElem hlt2]
                show some (if (i:Int) ≥ n then _ else _)=_
                rw [if_pos hge,List.getD_eq_getElem?_getD,List.getElem?_eq_getElem hlt2]; rfl
              · have hit:i < t.length:=by omega
                rw [List.getElem?_append_left (by omega),List.getElem?_take_of_lt (by omega),List.getElem?_eq_getElem hit]
                show some (if (i:Int) ≥ n then _ else _)=_
                rw [if_neg hge,if_neg (by omega),List.getD_eq_getElem?_getD,List.getElem?_eq_getElem hit]
                simp
          · rw [List.getElem?_eq_none (by simp; omega),List.getElem?_eq_none (by simp [hlen]; omega)]
        rw [heq]; rfl
    · simp [h1,h2]
  · simp [h1]
end

section
open Go Go.Abs

theorem chk_of {l:List Int} (h1:1≤l.length) (h2:l.length≤4) (h:∀ v∈l,0≤v∧v≤1048576):chk l=0:=by
  have hb:l.any bad=false:=List.any_eq_false.2 fun v hv=>by
    have:=h v hv
    unfold bad
    simp only [Bool.or_eq_true,decide_eq_true_eq]
    omega
  unfold chk
  rw [if_neg (by omega),hb]; rfl
theorem chk_in {l:List Int} (h:chk l=0):∀ v∈l,0≤v∧v≤1048576:=fun v hv=>by
  obtain ⟨i,hi,rfl⟩:=List.mem_iff_getElem.1 hv
  exact (qvov9 h).2.2 i _ (List.getElem?_eq_getElem hi)
theorem app_ok {n:Nat} {d:Int} {l t:List Int} (ht:chk t=0) (hs:sck (n:Int) d l (t.length:Int)=0) (h:(app n d l t).2=0):chk (app n d l t).1=0∧(app n d l t).1.length=n+l.length:=by
  obtain ⟨t1,tq,t3⟩:=qvov9 ht
  obtain ⟨s1,s2,s3,s4,s5,s6⟩:=q5p43 hs
  unfold app at h ⊢
  by_cases hg:t.getD (n - 1) 0+d > 1048576
  · rw [if_pos hg] at h; cases h
  · rw [if_neg hg]
    have hlen:((t.take n++l).set (n - 1) (t.getD (n - 1) 0+d)).length=n+l.length:=by
      rw [List.length_set,List.length_append,List.length_take]; omega
    refine ⟨chk_of (by rw [hlen]; omega) (by rw [hlen]; omega) fun v hv=>?_,hlen⟩
    have hp:0≤t.getD (n - 1) 0:=by
      rw [List.getD_eq_getElem?_getD,List.getElem?_eq_getElem (show n - 1 < t.length by omega)]
      exact (t3 (n - 1) _ (List.getElem?_eq_getElem (show n - 1 < t.length by omega))).1
    rcases List.mem_or_eq_of_mem_set hv with hv | rfl
    · rcases List.mem_append.1 hv with hv | hv
      · exact chk_in ht v (List.mem_of_mem_take hv)
      · obtain ⟨i,hi,rfl⟩:=List.mem_iff_getElem.1 hv
        exact s6 i _ (List.getElem?_eq_getElem hi)
    · omega
def stampC (N:List Node) (a:Int) (t:List Int):Int:=if a < 0∨(N.length:Int)≤a then 2 else if chk t≠0 then chk t else if (t.length:Int)=(N.getD a.toNat v0).2.1 then 0 else 7
section
variable {N:List Node} {E:List Edge}
theorem qftu6 (a:Int) (t:List Int):qyd8i ((N,E,()),(a,t,()),())=some (stampC N a t,()):=by
  unfold qyd8i stampC
  by_cases h1:a < 0
  · simp only [dcT h1,cond_true,if_pos (Or.inl h1:a < 0∨(N.length:Int)≤a)]
  by_cases h2:a ≥ (N.length:Int)
  · simp only [dcF h1,dcT h2,cond_true,cond_false,if_pos (Or.inr h2:a < 0∨(N.length:Int)≤a)]
  simp only [dcF h1,dcF h2,cond_false,if_neg (show ¬ (a < 0∨(N.length:Int)≤a) by omega),qslxk,Option.bind_some,getI_D v0 (show 0≤a by omega) (show a < (N.length:Int) by omega),qerg8]
  by_cases h3:chk t=0
  · simp only [h3,if_true,ne_eq,not_true_eq_false,if_false]
    split <;> rfl
  · simp only [h3,if_false,ne_eq,not_false_eq_true,if_true]
theorem qzbv9 (a:Int) (t:List Int):qp6uv ((N,E,()),a,t,())=some (stampC N a t,()):=by
  unfold qp6uv stampC
  by_cases h1:a < 0
  · simp only [dcT h1,cond_true,if_pos (Or.inl h1:a < 0∨(N.length:Int)≤a)]
  by_cases h2:a ≥ (N.length:Int)
  · simp only [dcF h1,dcT h2,cond_true,cond_false,if_pos (Or.inr h2:a < 0∨(N.length:Int)≤a)]
  simp only [dcF h1,dcF h2,cond_false,if_neg (show ¬ (a < 0∨(N.length:Int)≤a) by omega),qs2ti,Option.bind_some,getI_D v0 (show 0≤a by omega) (show a < (N.length:Int) by omega),qerg8]
  by_cases h3:chk t=0
  · simp only [h3,if_true,ne_eq,not_true_eq_false,if_false]
    split <;> rfl
  · simp only [h3,if_false,ne_eq,not_false_eq_true,if_true]
theorem qvuc7 (hN:N.all mayB=true) {a:Int} {t:List Int} (h:stampC N a t=0):∃ k:Nat,a=(k:Int)∧k < N.length∧chk t=0∧t.length=depN N k:=by
  unfold stampC at h
  split at h
  · cases h
  · rename_i h1
    split at h
    · rename_i h2; exact absurd h h2
    · rename_i h2
      split at h
      · rename_i h3
        have hk:a.toNat < N.length:=by omega
        have:=qgtw1 hN hk
        exact ⟨a.toNat,by omega,hk,by simpa using h2,by omega⟩
      · cases h
end
end

section
open Go Go.Abs

section
variable {N:List Node} {E:List Edge}
theorem qgc1n {s:Sm} (hb:bx s) {t:List Int} (ht:chk t=0) (hk:kN s≤t.length):qb24m (s,t,())=some ((app s.1.toNat s.2.1 s.2.2.1 t).1,(app s.1.toNat s.2.1 s.2.2.1 t).2,())∧qf10e (s,t,())=some ((app s.1.toNat s.2.1 s.2.2.1 t).1,(app s.1.toNat s.2.1 s.2.2.1 t).2,()):=by
  have h4:=(qvov9 ht).2.1
  have hs:=hb.sck hk h4
  have h1:=q4w71 s.1 s.2.1 s.2.2.1 t
  have h2:=ql6yb s.1 s.2.1 s.2.2.1 t
  rw [if_neg (by rw [ht]; simp),if_neg (by rw [hs]; simp)] at h1 h2
  exact ⟨h1,h2⟩
theorem q1489 {s:Sm} (hb:bx s) {t:List Int} (ht:chk t=0) (hk:kN s≤t.length) (h:(app s.1.toNat s.2.1 s.2.2.1 t).2=0):chk (app s.1.toNat s.2.1 s.2.2.1 t).1=0∧(app s.1.toNat s.2.1 s.2.2.1 t).1.length=oN s:=by
  have h4:=(qvov9 ht).2.1
  have hs:=hb.sck hk h4
  have hz:s.1=((s.1.toNat:Nat):Int):=by have:=hb.wf.1; omega
  rw [hz] at hs
  exact app_ok ht hs h
end
end

end Go.Proofs.Tryz
