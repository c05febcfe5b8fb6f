/- Lemmas on functions of the program, by name. -/
import Derived.Test.YteeaadgpkammdaaDoorDPFuns
import Derived.Test.YteeaadgpkammdaaDoorAbsSums
namespace Go.Proofs.Tryd
section
open Go Go.Abs

theorem tz_table:∀ r:Fin 64,getI lit0 (shrI .u64 (IntKind.u64.wrap (((2 ^ r.val:Nat):Int)*(285870213051353865:Int))) (58:Int))=some (r.val:Int):=by decide +kernel
theorem tz_eq {r q:Nat} (h:2 ^ r*(2*q+1) < 2 ^ 64):math_bits_TrailingZeros64 (((2 ^ r*(2*q+1):Nat):Int),())=some ((r:Int),()):=by
  have hr:r < 64:=bit_lt h (by rw [odd_bit]; simp)
  have hp:0 < 2 ^ r*(2*q+1):=Nat.mul_pos (Nat.two_pow_pos r) (by omega)
  unfold math_bits_TrailingZeros64
  have e0:((((2 ^ r*(2*q+1):Nat):Int),()).1 == (0:Int))=false:=by
    simp only [beq_eq_false_iff_ne]; omega
  have e1:IntKind.u64.wrap (0 - ((2 ^ r*(2*q+1):Nat):Int))=((2 ^ 64 - 2 ^ r*(2*q+1):Nat):Int):=by
    unfold IntKind.wrap; simp only [IntKind.bits,IntKind.signed]
    generalize 2 ^ r*(2*q+1)=v at *
    simp; omega
  simp only [e0,cond_false]
  rw [e1,and_u64 h (by omega),low_one h,getS_eq,tab0_eq,tz_table ⟨r,hr⟩]
  simp only [Option.bind_some]
  rw [wrap64 (by omega) (by omega)]
theorem sets_One_eq {i:Nat} (h:i < 32):sets_One ((i:Int),())=some (((2 ^ i:Nat):Int),()):=by
  unfold sets_One
  have:decide ((i:Int) < 0)=false:=decide_eq_false (by omega)
  simp only [this,cond_false]
  rw [shl_u32 h]
theorem sets_All_eq {n:Nat} (h:n≤32):sets_All ((n:Int),())=some (((2 ^ n - 1:Nat):Int),()):=by
  unfold sets_All
  have:decide ((n:Int) < 0)=false:=decide_eq_false (by omega)
  simp only [this,cond_false]
  rw [all_u32 h]
theorem sets_Has_eq {a:Nat} (i:Nat) (h:a < 2 ^ 32):sets_Has_uint32 ((a:Int),(i:Int),())=some (a.testBit i,()):=by
  unfold sets_Has_uint32
  have:decide ((i:Int) < 0)=false:=decide_eq_false (by omega)
  simp only [this,cond_false]
  rw [has_u32 i h]
theorem ref_Bit_eq {a:Nat} {i:Nat} (h:a < 2 ^ 32) (hi:i < 2 ^ 64):ref_Bit ((a:Int),(i:Int),())=some (a.testBit i,()):=by
  unfold ref_Bit
  have:decide (IntKind.u64.wrap (i:Int) < 0)=false:=by rw [wrap_u64 hi]; exact decide_eq_false (by omega)
  simp only [this,cond_false]
  rw [wrap_u64 hi,bit_u32 i h]
def Fit (ws:List Nat):Prop:=∀ w∈ws,w < 2 ^ 32
def below (ws:List Nat) (i j:Nat):Bool:=(ws.getD i 0).testBit j
theorem below_eq {ws:List Nat} {i j w:Nat} (h:ws[i]? = some w):below ws i j=w.testBit j:=by
  unfold below; rw [List.getD_eq_getElem?_getD,h]; rfl
theorem ref_Below_eq {ws:List Nat} (hf:Fit ws) {N:Int} {i j:Nat} (hi:i < ws.length) (hj:j < 2 ^ 64):ref_Below ((N,cl ws,()),(i:Int),(j:Int),())=some (below ws i j,()):=by
  unfold ref_Below
  have e:ws[i]? = some ws[i]:=List.getElem?_eq_getElem hi
  simp only [cl_getI,e,Option.map_some,Option.bind_some]
  rw [ref_Bit_eq (hf _ (List.getElem_mem hi)) hj,below_eq e]
  rfl
theorem wf_u32 {x:Int} (h:(Lit.int .u32 x).wf=true):0≤x∧x < 4294967296:=by
  simp [Lit.wf,IntKind.min,IntKind.max,IntKind.bits,IntKind.signed] at h
  omega
theorem words_of {l:List Int} (h:Wf (.list (.int .u32)) l):∃ ws,l=cl ws∧Fit ws:=by
  obtain ⟨ws,rfl⟩:=cl_of (l:=l) fun v hv=>(wf_u32 (h.2 v hv)).1
  refine ⟨ws,rfl,fun w hw=>?_⟩
  have:=(wf_u32 (h.2 (w:Int) (List.mem_map.2 ⟨w,hw,rfl⟩))).2
  omega
theorem fit_tab {n:Nat} {g:Nat→Nat} (h:∀ i,i < n→g i < 2 ^ 32):Fit (tab n g):=fun w hw=>by
  obtain ⟨i,hi,rfl⟩:=mem_tab.1 hw
  exact h i hi
end

section
open Go Go.Abs

structure IsOrder (n:Nat) (ws:List Nat):Prop where
  refl:∀ i,i < n→below ws i i=true
  anti:∀ i j,i < n→j < n→i≠j→below ws i j=true→below ws j i=false
  trans:∀ i j k,i < n→j < n→k < n→below ws i j=true→below ws j k=true→below ws i k=true
def Inside (n:Nat) (ws:List Nat):Prop:=∀ w∈ws,∀ i,n≤i→w.testBit i=false
open Classical in
noncomputable def ordc (N:Int) (ws:List Nat):Int :=
  if N < 0 then 1 else if N > 16 then 1 else if (ws.length:Int)≠N then 2 else if ¬ Inside N.toNat ws then 2 else if IsOrder N.toNat ws then 0 else 3
theorem below_lt {n:Nat} {ws:List Nat} {i j:Nat} (hin:Inside n ws) (hi:i < ws.length) (h:below ws i j=true):j < n:=by
  rw [below_eq (List.getElem?_eq_getElem hi)] at h
  by_cases hj:j < n
  · exact hj
  · rw [hin _ (List.getElem_mem hi) j (by omega)] at h; cases h
theorem all_bit (n i:Nat):(2 ^ n - 1).testBit i=decide (i < n):=Nat.testBit_two_pow_sub_one n i
theorem dif_all {n w:Nat}:dif w (2 ^ n - 1)=0↔∀ i,n≤i→w.testBit i=false:=by
  rw [dif_zero]
  constructor
  · intro h i hi
    cases hb:w.testBit i
    · rfl
    · have:=h i hb; rw [all_bit] at this; simp at this; omega
  · intro h i hb
    rw [all_bit]
    by_cases hi:i < n
    · simpa using hi
    · rw [h i (by omega)] at hb; cases hb
def badJ (ws:List Nat) (i w:Nat) (j:Nat):Bool:=below ws j i || !decide (dif (ws.getD j 0) w=0)
def badI (ws:List Nat) (i:Nat):Bool:=!below ws i i || (bitsL (dif (ws.getD i 0) (2 ^ i))).any (badJ ws i (ws.getD i 0))
theorem order_Check_l4_eq {N:Int} {ws:List Nat} (hf:Fit ws) {i w:Nat} (hi:i < 32) (hw:w < 2 ^ 32) (hlen:∀ j,w.testBit j=true→j < ws.length) (y:(Int × Unit) × Unit) (s:(Int × Unit) × Unit) :
    loopM (order_Check_l4 ((N,cl ws,()),()) ((i:Int),y) (w:Int)) (((dif w (2 ^ i):Nat):Int),s) =
      some (if (bitsL (dif w (2 ^ i))).any (badJ ws i w)=true then .inl ((3,()),()) else .inr (.inl (s.1,()))):=by
  have hd:dif w (2 ^ i) < 2 ^ 64:=Nat.lt_of_lt_of_le (dif_lt hw) (by decide)
  refine loopM_each (g:=fun r s=>some (if badJ ws i w r=true then .inr (.inl ((3,()),())) else .inl s)) (e:=fun s=>.inr (.inl (s.1,()))) hd (fun r q s h hb=>?_) (fun s=>?_) s _
    (eachM_any (badJ ws i w) _ _ _ fun r _=>rfl)
  · rw [dif_bit] at hb
    have hr:=hlen r (Bool.and_eq_true_iff.1 hb).1
    have hr64:r < 64:=bit_lt hd (by rw [dif_bit]; exact hb)
    have e:ws[r]? = some ws[r]:=List.getElem?_eq_getElem hr
    have hfr:=hf _ (List.getElem_mem hr)
    unfold order_Check_l4
    simp only [nz_eq,cond_true,tz_eq h,Option.bind_some,cl_getI,e,Option.map_some]
    rw [sets_Has_eq i hfr]
    simp only [Option.bind_some]
    rw [not_u32 hfr hw,clr_eq h,show (0:Int)=((0:Nat):Int) from rfl,cast_bne]
    have e2:badJ ws i w r=(ws[r].testBit i || !decide (dif ws[r] w=0)):=by
      unfold badJ; rw [below_eq e,List.getD_eq_getElem?_getD,e]; rfl
    rw [e2]
    cases ws[r].testBit i <;> cases decide (dif ws[r] w=0) <;> rfl
  · unfold order_Check_l4
    rfl
theorem order_Check_l5_eq {n:Nat} {ws:List Nat} (hf:Fit ws) (hl:ws.length=n) (hn:n≤16) (hin:Inside n ws) :
    loopM (order_Check_l5 (((n:Int),cl ws,()),())) (0,((0:Int),()),())=some (if (List.range n).any (badI ws)=true then .inl ((3,()),()) else .inr (.inl ((0,()),()))):=by
  refine loopM_any0 n _ (badI ws) _ _ (fun i hi=>?_) ?_
  · have hi':i < ws.length:=by omega
    have e:ws[i]? = some ws[i]:=List.getElem?_eq_getElem hi'
    have hfr:=hf _ (List.getElem_mem hi')
    unfold order_Check_l5
    have e0:decide ((i:Int) < ((cl ws).length:Int))=true:=by rw [cl_length]; exact decide_eq_true (by omega)
    simp only [e0,cond_true,cl_getI,e,Option.map_some,Option.bind_some]
    rw [sets_Has_eq i hfr,sets_One_eq (by omega)]
    simp only [Option.bind_some]
    have hp:2 ^ i < 2 ^ 32:=Nat.pow_lt_pow_right (by decide) (by omega)
    have hd:dif ws[i] (2 ^ i) < 2 ^ 64:=Nat.lt_of_lt_of_le (dif_lt hfr) (by decide)
    rw [not_u32 hfr hp,wrap_u64 hd,order_Check_l4_eq hf (by omega) hfr (fun j hj=>by
      have:=below_lt hin hi' (by rw [below_eq e]; exact hj)
      omega)]
    have e2:badI ws i=(!ws[i].testBit i || (bitsL (dif ws[i] (2 ^ i))).any (badJ ws i ws[i])):=by
      unfold badI; rw [below_eq e,List.getD_eq_getElem?_getD,e]; rfl
    rw [e2,wrap64 (by omega) (by omega)]
    cases ws[i].testBit i <;> cases (bitsL (dif ws[i] (2 ^ i))).any (badJ ws i ws[i]) <;> rfl
  · unfold order_Check_l5
    have e0:decide ((n:Int) < ((cl ws).length:Int))=false:=by rw [cl_length]; exact decide_eq_false (by omega)
    simp only [e0,cond_false]
theorem badI_iff {n:Nat} {ws:List Nat} (hf:Fit ws) (hl:ws.length=n) (hn:n≤16) (hin:Inside n ws):(List.range n).any (badI ws)=false↔IsOrder n ws:=by
  have hget:∀ i (hi:i < n),∃ w,ws[i]? = some w∧w < 2 ^ 32:=fun i hi=>⟨ws[i],List.getElem?_eq_getElem (by omega),hf _ (List.getElem_mem _)⟩
  rw [List.any_eq_false]
  constructor
  · intro h
    have h1:∀ i,i < n→below ws i i=true∧∀ j,j≠i→below ws i j=true→below ws j i=false∧∀ k,below ws j k=true→below ws i k=true:=by
      intro i hi
      have hb:=h i (List.mem_range.2 hi)
      obtain ⟨w,hw,hw32⟩:=hget i hi
      have hgd:ws.getD i 0=w:=by rw [List.getD_eq_getElem?_getD,hw]; rfl
      unfold badI at hb
      rw [hgd] at hb
      simp only [Bool.or_eq_true,not_or,Bool.not_eq_true,Bool.not_eq_false'] at hb
      refine ⟨hb.1,fun j hji hij=>?_⟩
      have hj:j∈bitsL (dif w (2 ^ i)):=(mem_bitsL (Nat.lt_of_lt_of_le (dif_lt hw32) (by decide))).2 (by
        rw [dif_bit,←below_eq hw,hij,Nat.testBit_two_pow]; simp [Ne.symm hji])
      have hb2:=List.any_eq_false.1 hb.2 j hj
      unfold badJ at hb2
      simp only [Bool.or_eq_true,not_or,Bool.not_eq_true,Bool.not_eq_false',decide_eq_true_eq] at hb2
      refine ⟨hb2.1,fun k hk=>?_⟩
      have:=dif_zero.1 hb2.2 k hk
      rw [below_eq hw]; exact this
    refine ⟨fun i hi=>(h1 i hi).1,fun i j hi _ hne hij=>((h1 i hi).2 j (Ne.symm hne) hij).1,fun i j k hi _ _ hij hjk=>?_⟩
    by_cases e:j=i
    · subst e; exact hjk
    · exact ((h1 i hi).2 j e hij).2 k hjk
  · intro o i hi
    have hi:=List.mem_range.1 hi
    obtain ⟨w,hw,hw32⟩:=hget i hi
    have hgd:ws.getD i 0=w:=by rw [List.getD_eq_getElem?_getD,hw]; rfl
    unfold badI
    rw [hgd,o.refl i hi]
    simp only [Bool.not_true,Bool.false_or,Bool.not_eq_true]
    refine List.any_eq_false.2 fun j hj=>?_
    have hb:=(mem_bitsL (Nat.lt_of_lt_of_le (dif_lt hw32) (by decide))).1 hj
    rw [dif_bit,Nat.testBit_two_pow,←below_eq hw] at hb
    have hb2:=Bool.and_eq_true_iff.1 hb
    have hji:i≠j:=by intro e; subst e; simp at hb2
    have hjn:=below_lt hin (by omega) hb2.1
    unfold badJ
    rw [o.anti i j hi hjn hji hb2.1]
    simp only [Bool.false_or,Bool.not_eq_true,Bool.not_eq_false',decide_eq_true_eq]
    refine dif_zero.2 fun k hk=>?_
    have hjk:below ws j k=true:=hk
    rw [←below_eq hw]
    exact o.trans i j k hi hjn (below_lt hin (by omega) hjk) hb2.1 hjk
end

section
open Go Go.Abs

theorem order_Check_l1_eq {n:Nat} {ws:List Nat} (hf:Fit ws) (hl:ws.length=n) (hn:n≤16) :
    loopM (order_Check_l1 (((n:Int),cl ws,()),())) (0,())=some (((List.range n).findSome? fun i=>if dif (ws.getD i 0) (2 ^ n - 1)=0 then none else some (.inl ((i:Int),()))).getD (.inr (.inl ()))):=by
  refine loopM_find n _ _ _ (fun i hi=>?_) ?_
  · have hi':i < ws.length:=by omega
    have e:ws[i]? = some ws[i]:=List.getElem?_eq_getElem hi'
    have hfr:=hf _ (List.getElem_mem hi')
    have hgd:ws.getD i 0=ws[i]:=by rw [List.getD_eq_getElem?_getD,e]; rfl
    unfold order_Check_l1
    have e0:decide ((i:Int) < ((cl ws).length:Int))=true:=by rw [cl_length]; exact decide_eq_true (by omega)
    have hp:2 ^ n - 1 < 2 ^ 32:=by have:2 ^ n < 2 ^ 32:=Nat.pow_lt_pow_right (by decide) (by omega); omega
    simp only [e0,cond_true,cl_getI,e,Option.map_some,Option.bind_some,sets_All_eq (show n≤32 by omega),hgd]
    rw [not_u32 hfr hp,show (0:Int)=((0:Nat):Int) from rfl,cast_bne,wrap64 (by omega) (by omega)]
    by_cases hz:dif ws[i] (2 ^ n - 1)=0 <;> simp [hz]
  · unfold order_Check_l1
    have e0:decide ((n:Int) < ((cl ws).length:Int))=false:=by rw [cl_length]; exact decide_eq_false (by omega)
    simp only [e0,cond_false]
theorem findIdx_cases {n:Nat} {ws:List Nat} (hl:ws.length=n) {β:Type} (b:Nat→β) :
    (¬ Inside n ws∧∃ i,i < n∧((List.range n).findSome? fun i=>if dif (ws.getD i 0) (2 ^ n - 1)=0 then none else some (b i))=some (b i)) ∨
    (Inside n ws∧((List.range n).findSome? fun i=>if dif (ws.getD i 0) (2 ^ n - 1)=0 then none else some (b i))=none):=by
  cases h:((List.range n).findSome? fun i=>if dif (ws.getD i 0) (2 ^ n - 1)=0 then none else some (b i)) with
  | some z =>
    left
    obtain ⟨i,hi,hz⟩:=List.exists_of_findSome?_eq_some h
    have hi:=List.mem_range.1 hi
    have e:ws[i]? = some ws[i]:=List.getElem?_eq_getElem (by omega)
    have hgd:ws.getD i 0=ws[i]:=by rw [List.getD_eq_getElem?_getD,e]; rfl
    by_cases hd:dif (ws.getD i 0) (2 ^ n - 1)=0
    · rw [if_pos hd] at hz; cases hz
    · rw [if_neg hd] at hz
      exact ⟨fun hin=>hd (by rw [hgd]; exact dif_all.2 (hin _ (List.getElem_mem _))),i,hi,hz.symm⟩
  | none =>
    right
    refine ⟨fun w hw=>?_,rfl⟩
    obtain ⟨i,hi,rfl⟩:=List.getElem_of_mem hw
    have hz:=List.findSome?_eq_none_iff.1 h i (List.mem_range.2 (by omega))
    have e:ws[i]? = some ws[i]:=List.getElem?_eq_getElem hi
    have hgd:ws.getD i 0=ws[i]:=by rw [List.getD_eq_getElem?_getD,e]; rfl
    rw [hgd] at hz
    by_cases hd:dif ws[i] (2 ^ n - 1)=0
    · exact dif_all.1 hd
    · rw [if_neg hd] at hz; cases hz
theorem order_Check_eq {N:Int} {ws:List Nat} (hf:Fit ws):order_Check ((N,cl ws,()),())=some (ordc N ws,()):=by
  unfold order_Check ordc
  by_cases h1:N < 0
  · simp only [decide_eq_true h1,cond_true,if_pos h1]
  by_cases h2:N > 16
  · simp only [decide_eq_false h1,cond_false,decide_eq_true h2,cond_true,if_neg h1,if_pos h2]
  simp only [decide_eq_false h1,cond_false,decide_eq_false h2,if_neg h1,if_neg h2,cl_length,cond_bne]
  by_cases h3:(ws.length:Int)=N
  · obtain ⟨n,rfl⟩:=Int.eq_ofNat_of_zero_le (show 0≤N by omega)
    have hl:ws.length=n:=by omega
    rw [if_pos h3,if_neg (show ¬ ¬ (ws.length:Int)=(n:Int) from fun h=>h h3),order_Check_l1_eq hf hl (by omega)]
    rcases findIdx_cases hl (β:=(Int × Unit) ⊕ Unit ⊕ Empty) (fun i=>.inl ((i:Int),())) with ⟨hin,i,hi,hz⟩ | ⟨hin,hz⟩
    · rw [hz]
      have e0:decide ((i:Int) ≥ 0)=true:=decide_eq_true (by omega)
      simp only [Option.getD_some,Option.bind_some,Sum.elim_inl,e0,cond_true]
      rw [if_pos (by simpa using hin)]
    · rw [hz]
      have e0:decide ((-1:Int) ≥ 0)=false:=by decide
      simp only [Option.getD_none,Option.bind_some,Sum.elim_inl,Sum.elim_inr,e0,cond_false]
      rw [order_Check_l5_eq hf hl (by omega) hin,if_neg (show ¬ ¬ Inside (n:Int).toNat ws from fun h=>h hin)]
      have hb:=badI_iff hf hl (by omega) hin
      by_cases hany:(List.range n).any (badI ws)=true
      · have:¬ IsOrder (n:Int).toNat ws:=fun o=>by rw [hb.2 o] at hany; cases hany
        rw [if_pos hany,if_neg this]; rfl
      · have:IsOrder (n:Int).toNat ws:=hb.1 (by simpa using hany)
        rw [if_neg hany,if_pos this]; rfl
  · rw [if_neg h3,if_pos h3]
theorem any_range'_iff {a k:Nat} {bad:Nat→Bool}:(List.range' a k).any bad=true↔∃ i,a≤i∧i < a+k∧bad i=true:=by
  rw [List.any_eq_true]
  constructor
  · rintro ⟨i,hi,hb⟩
    rw [List.mem_range'_1] at hi
    exact ⟨i,hi.1,hi.2,hb⟩
  · rintro ⟨i,h1,h2,hb⟩
    exact ⟨i,List.mem_range'_1.2 ⟨h1,h2⟩,hb⟩
theorem ref_Outside_eq {w n:Nat} (hw:w < 2 ^ 32) (hn:n≤32):ref_Outside ((w:Int),(n:Int),())=some ((List.range' n (32 - n)).any (w.testBit ·),()):=by
  unfold ref_Outside
  rw [loopM_any n 32 () (w.testBit ·) (.inl (true,())) (.inr (.inl ())) hn (fun i _ hi=>?_) ?_]
  · cases (List.range' n (32 - n)).any (w.testBit ·) <;> rfl
  · unfold ref_Outside_l1
    rfl
  · unfold ref_Outside_l1
    have e0:decide ((i:Int) < 32)=true:=decide_eq_true (by omega)
    simp only [e0,cond_true]
    rw [ref_Bit_eq hw (by omega),wrap64 (by omega) (by omega)]
    cases w.testBit i <;> rfl
theorem outside_iff {w n:Nat} (hw:w < 2 ^ 32):(List.range' n (32 - n)).any (w.testBit ·)=false↔∀ i,n≤i→w.testBit i=false:=by
  rw [←Bool.not_eq_true,any_range'_iff]
  constructor
  · intro h i hi
    cases hb:w.testBit i
    · rfl
    · exact absurd ⟨i,hi,by have:=bit_lt hw hb; omega,hb⟩ h
  · rintro h ⟨i,h1,_,h3⟩
    rw [h i h1] at h3; cases h3
def badK (ws:List Nat) (i j k:Nat):Bool:=below ws i j && (below ws j k && !below ws i k)
def badIJ (n:Nat) (ws:List Nat) (i j:Nat):Bool:=(if i=j then !below ws i i else below ws i j && below ws j i) || (List.range n).any (badK ws i j)
theorem ref_l2_eq {n:Nat} {ws:List Nat} (hf:Fit ws) (hl:ws.length=n) (hn:n≤16) {i j:Nat} (hi:i < n) (hj:j < n) :
    loopM (ref_OrderCheck_l2 (((n:Int),cl ws,()),()) ((i:Int),()) ((j:Int),())) (0,())=some (if (List.range n).any (badK ws i j)=true then .inl (3,()) else .inr (.inl ())):=by
  refine loopM_any0 n _ _ _ _ (fun k hk=>?_) ?_
  · unfold ref_OrderCheck_l2
    have e0:decide ((k:Int) < (n:Int))=true:=decide_eq_true (by omega)
    simp only [e0,cond_true]
    rw [ref_Below_eq hf (by omega) (by omega),ref_Below_eq hf (by omega) (by omega),ref_Below_eq hf (by omega) (by omega),wrap64 (by omega) (by omega)]
    unfold badK
    cases below ws i j <;> cases below ws j k <;> cases below ws i k <;> rfl
  · unfold ref_OrderCheck_l2
    have e0:decide ((n:Int) < (n:Int))=false:=decide_eq_false (by omega)
    simp only [e0,cond_false]
theorem ref_l3_same:ref_OrderCheck_l3=ref_OrderCheck_l2:=rfl
theorem ref_l4_same:ref_OrderCheck_l4=ref_OrderCheck_l2:=rfl
theorem ref_l5_same:ref_OrderCheck_l5=ref_OrderCheck_l2:=rfl
theorem ref_l6_same:ref_OrderCheck_l6=ref_OrderCheck_l2:=rfl
theorem ref_l7_same:ref_OrderCheck_l7=ref_OrderCheck_l2:=rfl
theorem ref_l8_eq {n:Nat} {ws:List Nat} (hf:Fit ws) (hl:ws.length=n) (hn:n≤16) {i:Nat} (hi:i < n) :
    loopM (ref_OrderCheck_l8 (((n:Int),cl ws,()),()) ((i:Int),())) (0,())=some (if (List.range n).any (badIJ n ws i)=true then .inl (3,()) else .inr (.inl ())):=by
  refine loopM_any0 n _ _ _ _ (fun j hj=>?_) ?_
  · unfold ref_OrderCheck_l8
    rw [ref_l3_same,ref_l4_same,ref_l5_same,ref_l6_same,ref_l7_same]
    have e0:decide ((j:Int) < (n:Int))=true:=decide_eq_true (by omega)
    simp only [e0,cond_true]
    rw [ref_l2_eq hf hl hn hi hj,ref_Below_eq hf (by omega) (by omega),ref_Below_eq hf (by omega) (by omega),ref_Below_eq hf (by omega) (by omega),wrap64 (by omega) (by omega),cond_beq,cond_bne]
    simp only [Option.bind_some]
    unfold badIJ
    by_cases hij:i=j
    · subst hij
      simp only [if_true]
      cases below ws i i <;> cases (List.range n).any (badK ws i i) <;> rfl
    · have:¬ (i:Int)=(j:Int):=by omega
      simp only [this,hij,if_false]
      cases below ws i j <;> cases below ws j i <;> cases (List.range n).any (badK ws i j) <;> rfl
  · unfold ref_OrderCheck_l8
    have e0:decide ((n:Int) < (n:Int))=false:=decide_eq_false (by omega)
    simp only [e0,cond_false]
theorem ref_l9_eq {n:Nat} {ws:List Nat} (hf:Fit ws) (hl:ws.length=n) (hn:n≤16) :
    loopM (ref_OrderCheck_l9 (((n:Int),cl ws,()),())) (0,())=some (if (List.range n).any (fun i=>(List.range n).any (badIJ n ws i))=true then .inl (3,()) else .inr (.inl ())):=by
  refine loopM_any0 n _ _ _ _ (fun i hi=>?_) ?_
  · unfold ref_OrderCheck_l9
    have e0:decide ((i:Int) < (n:Int))=true:=decide_eq_true (by omega)
    simp only [e0,cond_true]
    rw [ref_l8_eq hf hl hn hi,wrap64 (by omega) (by omega)]
    cases (List.range n).any (badIJ n ws i) <;> rfl
  · unfold ref_OrderCheck_l9
    have e0:decide ((n:Int) < (n:Int))=false:=decide_eq_false (by omega)
    simp only [e0,cond_false]
theorem badIJ_iff {n:Nat} {ws:List Nat}:(List.range n).any (fun i=>(List.range n).any (badIJ n ws i))=false↔IsOrder n ws:=by
  have hb:∀ i j,badIJ n ws i j=false↔(if i=j then below ws i i=true else (below ws i j=true→below ws j i=false))∧∀ k,k < n→below ws i j=true→below ws j k=true→below ws i k=true:=by
    intro i j
    unfold badIJ
    rw [Bool.or_eq_false_iff,List.any_eq_false]
    refine and_congr ?_ ?_
    · by_cases h:i=j
      · simp [h]
      · simp only [h,if_false]; cases below ws i j <;> cases below ws j i <;> simp
    · constructor
      · intro h k hk h1 h2
        have:=h k (List.mem_range.2 hk)
        unfold badK at this
        rw [h1,h2] at this
        simpa using this
      · intro h k hk
        unfold badK
        have:=h k (List.mem_range.1 hk)
        cases h1:below ws i j <;> cases h2:below ws j k <;> simp_all
  rw [List.any_eq_false]
  constructor
  · intro h
    have h':∀ i j,i < n→j < n→badIJ n ws i j=false:=fun i j hi hj=>by
      have:=List.any_eq_false.1 (by simpa using h i (List.mem_range.2 hi)) j (List.mem_range.2 hj)
      simpa using this
    refine ⟨fun i hi=>?_,fun i j hi hj hij h1=>?_,fun i j k hi hj hk=>((hb i j).1 (h' i j hi hj)).2 k hk⟩
    · simpa using ((hb i i).1 (h' i i hi hi)).1
    · have:=((hb i j).1 (h' i j hi hj)).1
      rw [if_neg hij] at this
      exact this h1
  · intro o i hi
    have hi:=List.mem_range.1 hi
    rw [Bool.not_eq_true,List.any_eq_false]
    intro j hj
    have hj:=List.mem_range.1 hj
    rw [Bool.not_eq_true,hb]
    refine ⟨?_,fun k hk=>o.trans i j k hi hj hk⟩
    by_cases h:i=j
    · subst h; simpa using o.refl i hi
    · rw [if_neg h]; exact o.anti i j hi hj h
theorem ref_l1_eq {n:Nat} {ws:List Nat} (hf:Fit ws) (hl:ws.length=n) (hn:n≤16) :
    loopM (ref_OrderCheck_l1 (((n:Int),cl ws,()),())) (0,())=some (if (List.range n).any (fun i=>(List.range' n (32 - n)).any ((ws.getD i 0).testBit ·))=true then .inl (2,()) else .inr (.inl ())):=by
  refine loopM_any0 n _ _ _ _ (fun i hi=>?_) ?_
  · unfold ref_OrderCheck_l1
    have e:ws[i]? = some ws[i]:=List.getElem?_eq_getElem (by omega)
    have hgd:ws.getD i 0=ws[i]:=by rw [List.getD_eq_getElem?_getD,e]; rfl
    have e0:decide ((i:Int) < (n:Int))=true:=decide_eq_true (by omega)
    simp only [e0,cond_true,cl_getI,e,Option.map_some,Option.bind_some,hgd]
    rw [ref_Outside_eq (hf _ (List.getElem_mem _)) (by omega),wrap64 (by omega) (by omega)]
    simp only [Option.bind_some]
    cases (List.range' n (32 - n)).any (ws[i].testBit ·) <;> rfl
  · unfold ref_OrderCheck_l1
    have e0:decide ((n:Int) < (n:Int))=false:=decide_eq_false (by omega)
    simp only [e0,cond_false]
theorem inside_any {n:Nat} {ws:List Nat} (hf:Fit ws) (hl:ws.length=n):(List.range n).any (fun i=>(List.range' n (32 - n)).any ((ws.getD i 0).testBit ·))=false↔Inside n ws:=by
  rw [List.any_eq_false]
  constructor
  · intro h w hw
    obtain ⟨i,hi,rfl⟩:=List.getElem_of_mem hw
    have e:ws[i]? = some ws[i]:=List.getElem?_eq_getElem hi
    have hgd:ws.getD i 0=ws[i]:=by rw [List.getD_eq_getElem?_getD,e]; rfl
    have:=h i (List.mem_range.2 (by omega))
    rw [Bool.not_eq_true,hgd] at this
    exact (outside_iff (hf _ (List.getElem_mem _))).1 this
  · intro hin i hi
    have hi:=List.mem_range.1 hi
    have e:ws[i]? = some ws[i]:=List.getElem?_eq_getElem (by omega)
    have hgd:ws.getD i 0=ws[i]:=by rw [List.getD_eq_getElem?_getD,e]; rfl
    rw [Bool.not_eq_true,hgd]
    exact (outside_iff (hf _ (List.getElem_mem _))).2 (hin _ (List.getElem_mem _))
theorem ref_OrderCheck_eq {N:Int} {ws:List Nat} (hf:Fit ws):ref_OrderCheck ((N,cl ws,()),())=some (ordc N ws,()):=by
  unfold ref_OrderCheck ordc
  by_cases h1:N < 0
  · simp only [decide_eq_true h1,cond_true,if_pos h1]
  by_cases h2:N > 16
  · simp only [decide_eq_false h1,cond_false,decide_eq_true h2,cond_true,if_neg h1,if_pos h2]
  simp only [decide_eq_false h1,cond_false,decide_eq_false h2,if_neg h1,if_neg h2,cl_length,cond_bne]
  by_cases h3:(ws.length:Int)=N
  · obtain ⟨n,rfl⟩:=Int.eq_ofNat_of_zero_le (show 0≤N by omega)
    have hl:ws.length=n:=by omega
    rw [if_pos h3,if_neg (show ¬ ¬ (ws.length:Int)=(n:Int) from fun h=>h h3),ref_l1_eq hf hl (by omega),ref_l9_eq hf hl (by omega)]
    have hi:=inside_any hf hl
    have hb:=badIJ_iff (n:=n) (ws:=ws)
    by_cases hin:Inside n ws
    · rw [hi.2 hin,if_neg (show ¬ ¬ Inside (n:Int).toNat ws by simpa using hin)]
      by_cases ho:IsOrder n ws
      · rw [hb.2 ho,if_pos (show IsOrder (n:Int).toNat ws from ho)]; rfl
      · have:(List.range n).any (fun i=>(List.range n).any (badIJ n ws i))=true:=by
          cases h:(List.range n).any (fun i=>(List.range n).any (badIJ n ws i))
          · exact absurd (hb.1 h) ho
          · rfl
        rw [this,if_neg (show ¬ IsOrder (n:Int).toNat ws from ho)]; rfl
    · have:(List.range n).any (fun i=>(List.range' n (32 - n)).any ((ws.getD i 0).testBit ·))=true:=by
        cases h:(List.range n).any (fun i=>(List.range' n (32 - n)).any ((ws.getD i 0).testBit ·))
        · exact absurd (hi.1 h) hin
        · rfl
      rw [this,if_pos (show ¬ Inside (n:Int).toNat ws from hin)]; rfl
  · rw [if_neg h3,if_pos h3]
theorem ordc_zero {N:Int} {ws:List Nat} (h:ordc N ws=0):0≤N∧N≤16∧(ws.length:Int)=N∧Inside N.toNat ws∧IsOrder N.toNat ws:=by
  unfold ordc at h
  by_cases h1:N < 0
  · rw [if_pos h1] at h; cases h
  rw [if_neg h1] at h
  by_cases h2:N > 16
  · rw [if_pos h2] at h; cases h
  rw [if_neg h2] at h
  by_cases h3:(ws.length:Int)=N
  · rw [if_neg (fun k=>k h3)] at h
    by_cases h4:Inside N.toNat ws
    · rw [if_neg (fun k=>k h4)] at h
      by_cases h5:IsOrder N.toNat ws
      · exact ⟨by omega,by omega,h3,h4,h5⟩
      · rw [if_neg h5] at h; cases h
    · rw [if_pos h4] at h; cases h
  · rw [if_pos h3] at h; cases h
end

section
open Go Go.Abs

def downW (n:Nat) (ws:List Nat):List Nat:=tab n fun j=>wordOf n fun i=>below ws i j
theorem order_Down_l1_eq {n:Nat} (hn:n≤16) {w i:Nat} (hw:w < 2 ^ 32) (hin:∀ j,w.testBit j=true→j < n) (hi:i < 32) (y:List Int × Unit) (g:Nat→Nat) (hg:∀ j,j < n→g j < 2 ^ 32) :
    loopM (order_Down_l1 ((i:Int),y)) ((w:Int),cl (tab n g),())=some (.inl (cl (tab n fun j=>if w.testBit j=true then g j ||| 2 ^ i else g j),())):=by
  have hw64:w < 2 ^ 64:=Nat.lt_of_lt_of_le hw (by decide)
  have hp:2 ^ i < 2 ^ 32:=Nat.pow_lt_pow_right (by decide) hi
  have hsim:=eachM_sim (e:=fun s=>(.inl (s.1,()):(List Int × Unit) ⊕ Empty)) (g:=fun r (s:List Int × Unit)=>(s.1[r]?).map fun v=>(.inl (s.1.set r (bitsI .or .u32 v ((2 ^ i:Nat):Int)),()):(List Int × Unit) ⊕ ((List Int × Unit) ⊕ Empty)))
    (fun g:Nat→Nat=>(cl (tab n g),())) (fun g r=>fun j=>if j=r then g j ||| 2 ^ i else g j) (fun g=>∀ j,j < n→g j < 2 ^ 32) (bitsL w) g hg (fun r hr g hg=>by
      have hr:=hin r ((mem_bitsL hw64).1 hr)
      refine ⟨?_,fun j hj=>?_⟩
      · simp only [cl_get,tab_get g hr,Option.map_some]
        rw [or_u32 (hg r hr) hp,cl_set,tab_set]
        have:tab n (fun j=>if j=r then g r ||| 2 ^ i else g j)=tab n (fun j=>if j=r then g j ||| 2 ^ i else g j):=tab_congr fun j _=>by
          by_cases h:j=r
          · subst h; rfl
          · simp [h]
        rw [this]
      · dsimp only
        split
        · exact Nat.or_lt_two_pow (hg j hj) hp
        · exact hg j hj)
  have hloop:=loopM_each (f:=order_Down_l1 ((i:Int),y)) hw64 (fun r q s h hb=>?_) (fun s=>?_) _ _ hsim.1
  · rw [hloop]
    have:tab n (List.foldl (fun g r j=>if j=r then g j ||| 2 ^ i else g j) g (bitsL w))=tab n fun j=>if w.testBit j=true then g j ||| 2 ^ i else g j:=tab_congr fun j _=>by
      rw [foldl_or_at]
      simp only [mem_bitsL hw64]
    rw [←this]
  · have hr:=hin r hb
    unfold order_Down_l1
    simp only [nz_eq,cond_true,tz_eq h,Option.bind_some,sets_One_eq hi,inB_nat,clr_eq h,Int.toNat_natCast]
    cases hv:s.1[r]? with
    | none =>
      have:decide (r < s.1.length)=false:=by
        rw [List.getElem?_eq_none_iff] at hv; exact decide_eq_false (by omega)
      simp [this]
    | some v =>
      have:decide (r < s.1.length)=true:=by
        have:=(List.getElem?_eq_some_iff.1 hv).1; exact decide_eq_true this
      simp [this]
  · unfold order_Down_l1
    rfl
theorem order_Down_eq {n:Nat} {ws:List Nat} (hf:Fit ws) (hl:ws.length=n) (hn:n≤16) (hin:Inside n ws):order_Down (((n:Int),cl ws,()),())=some (cl (downW n ws),()):=by
  have hloop:loopM (order_Down_l2 (((n:Int),cl ws,()),())) (0,(fun k=>(cl (tab n fun j=>wordOf k fun i=>below ws i j),())) 0)=some (.inl (cl (downW n ws),())):=by
    refine loopM_up n (fun k=>(cl (tab n fun j=>wordOf k fun i=>below ws i j),())) _ (fun i hi=>?_) ?_
    · have hi':i < ws.length:=by omega
      have e:ws[i]? = some ws[i]:=List.getElem?_eq_getElem hi'
      have hfr:=hf _ (List.getElem_mem hi')
      have e0:decide ((i:Int) < ((cl ws).length:Int))=true:=by rw [cl_length]; exact decide_eq_true (by omega)
      unfold order_Down_l2
      simp only [e0,cond_true,cl_getI,e,Option.map_some,Option.bind_some]
      rw [wrap_u64 (Nat.lt_of_lt_of_le hfr (by decide)),order_Down_l1_eq hn hfr (fun j hj=>below_lt hin hi' (by rw [below_eq e]; exact hj)) (by omega) _ _ (fun j _=>wordOf_lt32 _ (by omega)),wrap64 (by omega) (by omega)]
      simp only [Option.bind_some,Sum.elim_inl]
      have:tab n (fun j=>if ws[i].testBit j=true then (wordOf i fun i=>below ws i j) ||| 2 ^ i else wordOf i fun i=>below ws i j)=tab n fun j=>wordOf (i+1) fun i=>below ws i j:=tab_congr fun j _=>by
        rw [wordOf,below_eq e]
      rw [this]; rfl
    · have e0:decide ((n:Int) < ((cl ws).length:Int))=false:=by rw [cl_length]; exact decide_eq_false (by omega)
      unfold order_Down_l2
      simp only [e0,cond_false]
      rfl
  unfold order_Down
  have c1:(decide (0≤(n:Int)) && decide ((n:Int)≤(n:Int)) && roomOk n 4 && decide ((n:Int)≤9223372036854775807) && true && true)=true:=by
    rw [room4 (by omega)]
    simp; omega
  simp only [Int.toNat_natCast,c1,cond_true]
  have e1:List.replicate n (0:Int)=cl (tab n fun j=>wordOf 0 fun i=>below ws i j):=by
    rw [cl_rep,rep_tab]; rfl
  rw [e1]
  have hloop':loopM (order_Down_l2 (((n:Int),cl ws,()),())) (0,cl (tab n fun j=>wordOf 0 fun i=>below ws i j),())=some (.inl (cl (downW n ws),())):=hloop
  rw [hloop']
  rfl
theorem ref_OrderDual_eq {n:Nat} {ws:List Nat} (hf:Fit ws) (hl:ws.length=n) (hn:n≤16):ref_OrderDual (((n:Int),cl ws,()),())=some (((n:Int),cl (downW n ws),()),()):=by
  have h1:∀ (i:Nat) (y:List Int × (Int × Unit) × Unit),i < n→loopM (ref_OrderDual_l1 (((n:Int),cl ws,()),()) ((i:Int),y)) (0,0,())=some (.inl (((wordOf n fun j=>below ws j i:Nat):Int),())):=by
    intro i y hi
    refine loopM_fold' n (fun k=>((wordOf k fun j=>below ws j i:Nat):Int)) _ (fun j hj=>?_) ?_
    · unfold ref_OrderDual_l1
      have e0:decide ((j:Int) < (n:Int))=true:=decide_eq_true (by omega)
      have e3:decide (IntKind.u64.wrap (j:Int) < 0)=false:=by rw [wrap_u64 (by omega)]; exact decide_eq_false (by omega)
      simp only [e0,cond_true]
      rw [ref_Below_eq hf (by omega) (by omega),wrap64 (by omega) (by omega)]
      simp only [Option.bind_some,e3,cond_false]
      rw [wrap_u64 (by omega),shl_u32 (by omega),or_u32 (wordOf_lt32 _ (by omega)) (Nat.pow_lt_pow_right (by decide) (by omega)),wordOf]
      cases below ws j i <;> rfl
    · unfold ref_OrderDual_l1
      have e0:decide ((n:Int) < (n:Int))=false:=decide_eq_false (by omega)
      simp only [e0,cond_false]
  have h2:loopM (ref_OrderDual_l2 (((n:Int),cl ws,()),())) (0,(fun k=>(cl (tab k fun i=>wordOf n fun j=>below ws j i),((n:Int),()),())) 0)=some (.inl (cl (downW n ws),((n:Int),()),())):=by
    refine loopM_up n (fun k=>(cl (tab k fun i=>wordOf n fun j=>below ws j i),((n:Int),()),())) _ (fun i hi=>?_) ?_
    · unfold ref_OrderDual_l2
      have e0:decide ((i:Int) < (n:Int))=true:=decide_eq_true (by omega)
      simp only [e0,cond_true]
      rw [h1 i _ hi,wrap64 (by omega) (by omega)]
      simp only [Option.bind_some,Sum.elim_inl,cl_length,tab_length,List.length_singleton]
      rw [room4 (by omega),tab_succ,←cl_app]
      rfl
    · unfold ref_OrderDual_l2
      have e0:decide ((n:Int) < (n:Int))=false:=decide_eq_false (by omega)
      simp only [e0,cond_false]
      rfl
  unfold ref_OrderDual
  have h3:loopM (ref_OrderDual_l2 (((n:Int),cl ws,()),())) (0,[],((n:Int),()),())=some (.inl (cl (downW n ws),((n:Int),()),())):=h2
  simp only [h3,Option.bind_some,Sum.elim_inl]
end

section
open Go Go.Abs

theorem fitD {ws:List Nat} (hf:Fit ws) (i:Nat):ws.getD i 0 < 2 ^ 32:=by
  rw [List.getD_eq_getElem?_getD]
  by_cases h:i < ws.length
  · rw [List.getElem?_eq_getElem h]; exact hf _ (List.getElem_mem h)
  · rw [List.getElem?_eq_none (by omega)]; decide
theorem insideD {n:Nat} {ws:List Nat} (hin:Inside n ws) {i j:Nat} (h:(ws.getD i 0).testBit j=true):j < n:=by
  by_cases hi:i < ws.length
  · exact below_lt hin hi h
  · rw [List.getD_eq_getElem?_getD,List.getElem?_eq_none (by omega)] at h; simp at h
theorem has_D {ws:List Nat} (hf:Fit ws) (i j:Nat):sets_Has_uint32 (((ws.getD i 0:Nat):Int),(j:Int),())=some (below ws i j,()):=sets_Has_eq j (fitD hf i)
theorem all_succ (k:Nat) (p:Nat→Bool):(List.range (k+1)).all p=((List.range k).all p && p k):=by simp [List.range_succ]
end

section
open Go Go.Abs

theorem downW_bit {n:Nat} {ws:List Nat} {i:Nat} (hi:i < n) (j:Nat):((downW n ws).getD i 0).testBit j=(decide (j < n) && below ws j i):=by
  unfold downW; rw [getD_tab hi,wordOf_bit]
theorem fit_downW {n:Nat} {ws:List Nat} (hn:n≤16):Fit (downW n ws):=fit_tab fun i _=>wordOf_lt32 _ (by omega)
theorem below_down {n:Nat} {ws:List Nat} {i j:Nat} (hi:i < n) (hj:j < n):below (downW n ws) i j=below ws j i:=by
  unfold below; rw [downW_bit hi,decide_eq_true hj,Bool.true_and]; rfl
theorem inside_down {n:Nat} {ws:List Nat}:Inside n (downW n ws):=fun w hw i hi=>by
  obtain ⟨j,hj,rfl⟩:=mem_tab.1 hw
  rw [wordOf_bit,decide_eq_false (by omega)]; rfl
theorem length_down {n:Nat} {ws:List Nat}:(downW n ws).length=n:=tab_length ..
theorem order_down {n:Nat} {ws:List Nat} (o:IsOrder n ws):IsOrder n (downW n ws) where
  refl i hi:=by rw [below_down hi hi]; exact o.refl i hi
  anti i j hi hj hne h:=by
    rw [below_down hi hj] at h
    rw [below_down hj hi]
    exact o.anti j i hj hi (Ne.symm hne) h
  trans i j k hi hj hk h1 h2:=by
    rw [below_down hi hj] at h1
    rw [below_down hj hk] at h2
    rw [below_down hi hk]
    exact o.trans k j i hk hj hi h2 h1
theorem order_anti {n:Nat} {ws:List Nat} (o:IsOrder n ws) {i j:Nat} (hi:i < n) (hj:j < n) (h1:below ws i j=true) (h2:below ws j i=true):i=j :=
  Classical.byContradiction fun hne=>by rw [o.anti i j hi hj hne h1] at h2; cases h2
end

section
open Go Go.Abs

def sq {α:Type} (n:Nat) (G:Nat→Nat→α):List α:=tab (n*n) fun p=>G (p / n) (p % n)
theorem sq_length {α:Type} (n:Nat) (G:Nat→Nat→α):(sq n G).length=n*n:=tab_length ..
theorem idx_lt {a b n:Nat} (ha:a < n) (hb:b < n):a*n+b < n*n:=by
  have:(a+1)*n≤n*n:=Nat.mul_le_mul_right n ha
  rw [Nat.succ_mul] at this; omega
theorem idx_div {a b n:Nat} (hb:b < n):(a*n+b) / n=a:=by
  rw [Nat.mul_comm,Nat.mul_add_div (by omega),Nat.div_eq_of_lt hb]; rfl
theorem idx_mod {a b n:Nat} (hb:b < n):(a*n+b) % n=b:=by
  rw [Nat.mul_comm,Nat.mul_add_mod,Nat.mod_eq_of_lt hb]
theorem sq_le {n:Nat} (hn:n≤16):n*n≤256:=Nat.mul_le_mul hn hn
theorem idx_wrap {a b n:Nat} (ha:a < n) (hb:b < n) (hn:n≤16):IntKind.i64.wrap (IntKind.i64.wrap ((a:Int)*(n:Int))+(b:Int))=((a*n+b:Nat):Int):=by
  have h1:=idx_lt ha hb
  have h2:=sq_le hn
  have e:(a:Int)*(n:Int)=((a*n:Nat):Int):=by simp
  rw [e,wrap64 (x:=((a*n:Nat):Int)) (by omega) (by omega),wrap64 (by omega) (by omega)]; rfl
theorem sq_get {α:Type} {n a b:Nat} (G:Nat→Nat→α) (ha:a < n) (hb:b < n):(sq n G)[a*n+b]? = some (G a b):=by
  unfold sq; rw [tab_get _ (idx_lt ha hb),idx_div hb,idx_mod hb]
theorem idx_inB {a b n:Nat} (ha:a < n) (hb:b < n):inB ((a*n+b:Nat):Int) (n*n)=true:=inB_T (idx_lt ha hb)
def sqTo {α:Type} (n:Nat) (G:Nat→Nat→α) (k:Nat):List α:=tab k fun p=>G (p / n) (p % n)
theorem sqTo_length {α:Type} (n k:Nat) (G:Nat→Nat→α):(sqTo n G k).length=k:=tab_length ..
theorem sqTo_succ {α:Type} {n a b:Nat} (G:Nat→Nat→α) (hb:b < n):sqTo n G (a*n+b)++[G a b]=sqTo n G (a*n+(b+1)):=by
  unfold sqTo
  rw [←Nat.add_assoc,tab_succ,idx_div hb,idx_mod hb]
theorem sqTo_row {α:Type} {n a:Nat} (G:Nat→Nat→α):sqTo n G (a*n+n)=sqTo n G ((a+1)*n+0):=by
  rw [Nat.succ_mul]; rfl
end

section
open Go Go.Abs

theorem find_congr {α:Type} {p q:α→Bool}:∀ {l:List α},(∀ x∈l,p x=q x)→l.find? p=l.find? q
  | [],_=>rfl
  | a :: l,h=>by rw [List.find?_cons,List.find?_cons,h a (List.mem_cons_self ..),find_congr fun x hx=>h x (List.mem_cons_of_mem _ hx)]
theorem findSome_if' {β:Type} (p:Nat→Bool) (b:Nat→β):∀ (l:List Nat),(l.findSome? fun r=>cond (p r) (some (b r)) none)=(l.find? p).map b
  | []=>rfl
  | a :: l=>by
    rw [List.findSome?_cons,List.find?_cons,findSome_if' p b l]
    cases p a <;> rfl
theorem fsome_congr {β:Type} {f g:Nat→Option β}:∀ {l:List Nat},(∀ x∈l,f x=g x)→l.findSome? f=l.findSome? g
  | [],_=>rfl
  | a :: l,h=>by
    rw [List.findSome?_cons,List.findSome?_cons,h a (List.mem_cons_self ..),fsome_congr fun x hx=>h x (List.mem_cons_of_mem _ hx)]
theorem find_range {n i:Nat} {p:Nat→Bool} (h:(List.range n).find? p=some i):i < n∧p i=true:=⟨List.mem_range.1 (List.mem_of_find?_eq_some h),List.find?_some h⟩
theorem word_lt' {n:Nat} {w:Nat} (h:∀ j,w.testBit j=true→j < n):w < 2 ^ n :=
  Nat.lt_pow_two_of_testBit _ fun j hj=>by
    cases hb:w.testBit j
    · rfl
    · have:=h j hb; omega
def orNo:Option Nat→Int
  | some i=>(i:Int)
  | none=>-1
def lubAt (n:Nat) (ws:List Nat) (a b x:Nat):Bool:=(below ws a x && below ws b x) && (List.range n).all fun y=>!(below ws a y && below ws b y) || below ws x y
def lub (n:Nat) (ws:List Nat) (a b:Nat):Option Nat:=(List.range n).find? (lubAt n ws a b)
def bestOf (n:Nat) (set:Nat) (rs:List Nat):Option Nat:=(List.range n).find? fun i=>set.testBit i && decide (dif set (rs.getD i 0)=0)
theorem lattice_best_eq {n:Nat} {rs:List Nat} (hf:Fit rs) (hl:rs.length=n) (hn:n≤16) {set:Nat} (hs:set < 2 ^ n):lattice_best ((set:Int),cl rs,())=some (orNo (bestOf n set rs),()):=by
  have h32:set < 2 ^ 32:=Nat.lt_of_lt_of_le hs (Nat.pow_le_pow_right (by decide) (by omega))
  have key:=loopM_bitsStop (f:=lattice_best_l1 ((set:Int),cl rs,())) n (fun _=>(((0:Int),()),())) (fun r=>cond (decide (dif set (rs.getD r 0)=0)) (some (.inl (((r:Int),()),()))) none) (.inr (.inl ((0,()),()))) hs (by omega) (fun r q h1 h2 h3=>by
    have e:(((dif set (rs.getD r 0):Nat):Int) == 0)=decide (dif set (rs.getD r 0)=0):=by rw [Bool.eq_iff_iff,beq_iff_eq,decide_eq_true_eq]; omega
    unfold lattice_best_l1
    simp (disch:=first | assumption | omega) only [cond_true,Option.bind_some,getI_cl,nz_eq,tz_eq h1,clr_eq h1,not_u32 h32 (fitD hf r),e]
    cases decide (dif set (rs.getD r 0)=0) <;> rfl) (fun _ _ _=>rfl) rfl
  have e:((List.range n).findSome? fun r=>if set.testBit r=true then cond (decide (dif set (rs.getD r 0)=0)) (some (Sum.inl (((r:Int),()),()))) none else none) =
      (bestOf n set rs).map fun r:Nat=>((Sum.inl (((r:Int),()),())):((Int × Unit) × Unit) ⊕ (((Int × Unit) × Unit) ⊕ Empty)):=by
    unfold bestOf
    rw [←findSome_if']
    refine fsome_congr fun r hr=>?_
    cases set.testBit r <;> rfl
  unfold lattice_best
  rw [e] at key
  simp (disch:=first | assumption | omega) only [Option.bind_some,wrap_u64 (lt_64 h32),key]
  cases bestOf n set rs <;> rfl
theorem best_lub {n:Nat} {ws:List Nat} (hin:Inside n ws) {a b:Nat}:bestOf n (ws.getD a 0 &&& ws.getD b 0) ws=lub n ws a b:=by
  refine find_congr fun x hx=>?_
  unfold lubAt
  rw [Nat.testBit_and]
  have e:decide (dif (ws.getD a 0 &&& ws.getD b 0) (ws.getD x 0)=0)=(List.range n).all fun y=>!(below ws a y && below ws b y) || below ws x y:=?_
  · rw [e]; rfl
  rw [Bool.eq_iff_iff,decide_eq_true_eq,dif_zero,List.all_eq_true]
  constructor
  · intro h y hy
    cases h1:below ws a y
    · rfl
    · cases h2:below ws b y
      · rfl
      · have:=h y (by rw [Nat.testBit_and]; unfold below at h1 h2; rw [h1,h2]; rfl)
        unfold below; rw [this]; rfl
  · intro h y hy
    rw [Nat.testBit_and,Bool.and_eq_true] at hy
    have:=h y (List.mem_range.2 (insideD hin hy.1))
    unfold below at this
    rw [hy.1,hy.2] at this
    simpa using this
theorem ref_join_eq {n:Nat} {ws:List Nat} (hf:Fit ws) (hl:ws.length=n) (hn:n≤16) {a b:Nat} (ha:a < n) (hb:b < n):ref_join (((n:Int),cl ws,()),(a:Int),(b:Int),())=some (orNo (lub n ws a b),()):=by
  have l1:∀ (x:Nat) (c:Bool),x < n→loopM (ref_join_l1 (((n:Int),cl ws,()),(a:Int),(b:Int),()) ((x:Int),())) (c,0,())=some (.inl (c && (List.range n).all fun y=>!(below ws a y && below ws b y) || below ws x y,())):=fun x c hx=>by
    refine loopM_sim (f:=ref_join_l1 (((n:Int),cl ws,()),(a:Int),(b:Int),()) ((x:Int),())) n (fun k=>(c && (List.range k).all fun y=>!(below ws a y && below ws b y) || below ws x y,(k:Int),())) _ (fun y hy=>?_) ?_ (by simp)
    · unfold ref_join_l1
      simp (disch:=first | assumption | omega) only [cond_true,Option.bind_some,dcT,wrapS,ref_Below_eq hf (show a < ws.length by omega) (show y < 2 ^ 64 by omega),ref_Below_eq hf (show b < ws.length by omega) (show y < 2 ^ 64 by omega),ref_Below_eq hf (show x < ws.length by omega) (show y < 2 ^ 64 by omega),all_succ]
      cases below ws a y <;> cases below ws b y <;> cases below ws x y <;> simp
    · unfold ref_join_l1
      simp (disch:=first | assumption | omega) only [cond_false,dcF,wrapS]
  have l2:ref_join_l2=ref_join_l1:=rfl
  have key:=loopM_stop (f:=ref_join_l3 (((n:Int),cl ws,()),(a:Int),(b:Int),())) n (fun k=>((k:Int),())) (fun x=>cond (lubAt n ws a b x) (some (.inl ((x:Int),()))) none) (.inr (.inl ())) (fun x hx=>by
    unfold ref_join_l3
    rw [l2]
    simp (disch:=first | assumption | omega) only [cond_true,Option.bind_some,Sum.elim_inl,dcT,wrapS,ref_Below_eq hf (show a < ws.length by omega) (show x < 2 ^ 64 by omega),ref_Below_eq hf (show b < ws.length by omega) (show x < 2 ^ 64 by omega),l1 x _ hx]
    unfold lubAt
    cases below ws a x
    · rfl
    · cases below ws b x
      · rfl
      · cases (List.range n).all fun y=>!(below ws a y && below ws b y) || below ws x y <;> rfl) (by
    unfold ref_join_l3
    simp (disch:=first | assumption | omega) only [cond_false,dcF,wrapS])
  rw [findSome_if'] at key
  unfold ref_join lub
  rw [show ((0:Int),())=(((0:Nat):Int),()) from rfl,key]
  cases (List.range n).find? (lubAt n ws a b) <;> rfl
def joinT (n:Nat) (ws:List Nat) (a b:Nat):Int:=orNo (lub n ws a b)
def meetT (n:Nat) (ws:List Nat) (a b:Nat):Int:=orNo (lub n (downW n ws) a b)
def lacks (n:Nat) (ws:List Nat) (a b:Nat):Bool:=decide (joinT n ws a b < 0) || decide (meetT n ws a b < 0)
def latB (n:Nat) (ws:List Nat):Bool:=(List.range n).all fun a=>(List.range n).all fun b=>!lacks n ws a b
theorem rows_find {β:Type} (n:Nat) (bad:Nat→Nat→Bool) (V:Nat→Nat→β) :
    ((List.range n).all (fun a=>(List.range n).all fun b=>!bad a b)=true∧((List.range n).findSome? fun a=>(List.range n).findSome? fun b=>cond (bad a b) (some (V a b)) none)=none) ∨
    ((List.range n).all (fun a=>(List.range n).all fun b=>!bad a b)=false∧∃ a b,((List.range n).findSome? fun a=>(List.range n).findSome? fun b=>cond (bad a b) (some (V a b)) none)=some (V a b)):=by
  cases h:(List.range n).findSome? fun a=>(List.range n).findSome? fun b=>cond (bad a b) (some (V a b)) none with
  | none =>
    left
    refine ⟨?_,rfl⟩
    rw [List.all_eq_true]
    intro a ha
    rw [List.all_eq_true]
    intro b hb
    have:=List.findSome?_eq_none_iff.1 (List.findSome?_eq_none_iff.1 h a ha) b hb
    cases hb:bad a b
    · rfl
    · rw [hb] at this; cases this
  | some v =>
    right
    obtain ⟨a,ha,h1⟩:=List.exists_of_findSome?_eq_some h
    obtain ⟨b,hb,h2⟩:=List.exists_of_findSome?_eq_some h1
    cases hbad:bad a b
    · rw [hbad] at h2; cases h2
    · rw [hbad] at h2
      have hv:V a b=v:=Option.some.inj h2
      refine ⟨?_,a,b,by rw [hv]⟩
      rw [←Bool.not_eq_true,List.all_eq_true]
      intro hall
      have:=List.all_eq_true.1 (hall a ha) b hb
      rw [hbad] at this; cases this
def topTo (n:Nat) (ws:List Nat):Nat→Nat
  | 0=>0
  | k+1=>(lub n ws (topTo n ws k) k).getD 0
theorem lub_spec {n:Nat} {ws:List Nat} {a b x:Nat} (h:lub n ws a b=some x):x < n∧below ws a x=true∧below ws b x=true∧∀ y,y < n→below ws a y=true→below ws b y=true→below ws x y=true:=by
  obtain ⟨h1,h2⟩:=find_range h
  unfold lubAt at h2
  rw [Bool.and_eq_true,Bool.and_eq_true,List.all_eq_true] at h2
  refine ⟨h1,h2.1.1,h2.1.2,fun y hy h3 h4=>?_⟩
  have:=h2.2 y (List.mem_range.2 hy)
  rw [h3,h4] at this
  simpa using this
theorem topTo_spec {n:Nat} {ws:List Nat} (o:IsOrder n ws) (hlat:∀ a b,a < n→b < n→∃ x,lub n ws a b=some x) (h0:0 < n):∀ k,k≤n→topTo n ws k < n∧∀ j,j < k→below ws j (topTo n ws k)=true
  | 0,_=>⟨h0,fun j hj=>by omega⟩
  | k+1,hk=>by
    obtain ⟨h1,h2⟩:=topTo_spec o hlat h0 k (by omega)
    obtain ⟨x,hx⟩:=hlat (topTo n ws k) k h1 (by omega)
    obtain ⟨h3,h4,h5,-⟩:=lub_spec hx
    have e:topTo n ws (k+1)=x:=by rw [topTo,hx]; rfl
    rw [e]
    refine ⟨h3,fun j hj=>?_⟩
    by_cases h:j=k
    · subst h; exact h5
    · exact o.trans j _ x (by omega) h1 h3 (h2 j (by omega)) h4
theorem best_all {n:Nat} {ws rs:List Nat} (o:IsOrder n ws) (hrs:∀ i j,i < n→j < n→below rs i j=below ws j i) {t:Nat} (ht:t < n) (hall:∀ j,j < n→below ws j t=true):bestOf n (2 ^ n - 1) rs=some t:=by
  have hp:∀ i,i < n→((2 ^ n - 1).testBit i && decide (dif (2 ^ n - 1) (rs.getD i 0)=0))=decide (i=t):=fun i hi=>by
    rw [all_bit,decide_eq_true hi,Bool.true_and,Bool.eq_iff_iff,decide_eq_true_eq,decide_eq_true_eq,dif_zero]
    constructor
    · intro h
      have h1:=h t (by rw [all_bit]; simpa using ht)
      have h2:below rs i t=true:=h1
      rw [hrs i t hi ht] at h2
      exact order_anti o hi ht (hall i hi) h2
    · rintro rfl j hj
      rw [all_bit,decide_eq_true_eq] at hj
      have:=hrs i j hi hj
      rw [hall j hj] at this
      exact this
  unfold bestOf
  rw [find_congr (q:=fun i=>decide (i=t)) fun i hi=>hp i (List.mem_range.1 hi)]
  cases h:(List.range n).find? fun i=>decide (i=t) with
  | none=>exact absurd (List.find?_eq_none.1 h t (List.mem_range.2 ht)) (by simp)
  | some j =>
    have:=(find_range h).2
    rw [decide_eq_true_eq] at this
    rw [this]
theorem latB_iff {n:Nat} {ws:List Nat}:latB n ws=true↔∀ a b,a < n→b < n→(∃ x,lub n ws a b=some x)∧∃ x,lub n (downW n ws) a b=some x:=by
  have hno:∀ (q:Option Nat),¬ orNo q < 0↔∃ x,q=some x:=fun q=>by
    cases q with
    | none=>exact ⟨fun h=>absurd (show (-1:Int) < 0 by decide) h,fun ⟨x,h⟩=>by cases h⟩
    | some i=>exact ⟨fun _=>⟨i,rfl⟩,fun _ h=>by have:(i:Int) < 0:=h; omega⟩
  unfold latB
  rw [List.all_eq_true]
  constructor
  · intro h a b ha hb
    have h1:=List.all_eq_true.1 (h a (List.mem_range.2 ha)) b (List.mem_range.2 hb)
    unfold lacks at h1
    rw [Bool.not_eq_true',Bool.or_eq_false_iff,decide_eq_false_iff_not,decide_eq_false_iff_not] at h1
    exact ⟨(hno _).1 h1.1,(hno _).1 h1.2⟩
  · intro h a ha
    rw [List.all_eq_true]
    intro b hb
    obtain ⟨h1,h2⟩:=h a b (List.mem_range.1 ha) (List.mem_range.1 hb)
    unfold lacks
    rw [Bool.not_eq_true',Bool.or_eq_false_iff,decide_eq_false_iff_not,decide_eq_false_iff_not]
    exact ⟨(hno _).2 h1,(hno _).2 h2⟩
noncomputable def latc (N:Int) (ws:List Nat):Int:=if ordc N ws=0 then cond (decide (N≠0) && latB N.toNat ws) 0 5 else ordc N ws
def latR (n:Nat) (ws:List Nat):List Int × List Int × Int × Int × Unit:=(sq n (joinT n ws),sq n (meetT n ws),((topTo n (downW n ws) n:Nat):Int),((topTo n ws n:Nat):Int),())
theorem latc_zero {N:Int} {ws:List Nat} (h:latc N ws=0):ordc N ws=0∧0 < N∧latB N.toNat ws=true:=by
  unfold latc at h
  by_cases h0:ordc N ws=0
  · rw [if_pos h0] at h
    have:=(ordc_zero h0).1
    cases h1:(decide (N≠0) && latB N.toNat ws)
    · rw [h1] at h; cases h
    · rw [Bool.and_eq_true,decide_eq_true_eq] at h1
      exact ⟨h0,by omega,h1.2⟩
  · rw [if_neg h0] at h; exact absurd h h0
abbrev LatT:Type:=(Int × List Int × List Int × List Int × Int × Int × Unit)
abbrev LatU:Type:=(Int × LatT × List Int × List Int × (Int × List Int × Int × Int × Unit) × Unit)
def latG (n:Nat) (ws:List Nat) (t:Int × List Int × Int × Int × Unit) (a:Nat):Option LatU :=
  (List.range n).findSome? fun b=>cond (lacks n ws a b) (some (5,(0,[],[],[],0,0,()),sqTo n (joinT n ws) (a*n+b),sqTo n (meetT n ws) (a*n+b),t,())) none
theorem lattice_Of_l1_eq {n:Nat} {ws:List Nat} (hf:Fit ws) (hl:ws.length=n) (hn:n≤16) (hin:Inside n ws) (t:Int × List Int × Int × Int × Unit) {a:Nat} (ha:a < n) (y:LatT × List Int × List Int × (Int × List Int × Int × Int × Unit) × Unit) :
    loopM (lattice_Of_l1 (((n:Int),cl ws,()),()) ((a:Int),y) (cl (downW n ws),())) (0,(0,[],[],[],0,0,()),sqTo n (joinT n ws) (a*n+0),sqTo n (meetT n ws) (a*n+0),t,()) =
      some (exitOr (latG n ws t a) (.inl ((0,[],[],[],0,0,()),sqTo n (joinT n ws) ((a+1)*n+0),sqTo n (meetT n ws) ((a+1)*n+0),t,()))):=by
  have hsq:=sq_le hn
  have fd:Fit (downW n ws):=fit_downW hn
  have hld:(downW n ws).length=n:=length_down
  have wl:∀ {rs:List Nat},Inside n rs→∀ a b,rs.getD a 0 &&& rs.getD b 0 < 2 ^ n:=fun hi a b=>word_lt' fun j hj=>by
    rw [Nat.testBit_and,Bool.and_eq_true] at hj; exact insideD hi hj.1
  refine loopM_exit (f:=lattice_Of_l1 (((n:Int),cl ws,()),()) ((a:Int),y) (cl (downW n ws),())) n (fun b=>((b:Int),(0,[],[],[],0,0,()),sqTo n (joinT n ws) (a*n+b),sqTo n (meetT n ws) (a*n+b),t,())) _ _ (fun b hb=>?_) ?_ rfl
  · have:=idx_lt ha hb
    unfold lattice_Of_l1
    simp (disch:=first | assumption | omega) only [cond_true,Option.bind_some,dcT,getI_cl,get_cl,inB_T,Int.toNat_natCast,wrapS,length_cl,List.length_cons,List.length_nil,room8,Bool.and_self,and_u32 (fitD hf a) (fitD hf b),and_u32 (fitD fd a) (fitD fd b),lattice_best_eq hf hl hn (wl hin a b),lattice_best_eq fd hld hn (wl inside_down a b),best_lub hin,best_lub (inside_down (n:=n) (ws:=ws)),sqTo_length]
    unfold lacks
    show cond (decide (joinT n ws a b < 0)) _ (cond (decide (meetT n ws a b < 0)) _ (some (Sum.inl (_,_,sqTo n (joinT n ws) (a*n+b)++[joinT n ws a b],sqTo n (meetT n ws) (a*n+b)++[meetT n ws a b],_))))=_
    rw [sqTo_succ (joinT n ws) hb,sqTo_succ (meetT n ws) hb]
    cases decide (joinT n ws a b < 0) <;> cases decide (meetT n ws a b < 0) <;> rfl
  · unfold lattice_Of_l1
    simp (disch:=first | assumption | omega) only [cond_true,cond_false,Option.bind_some,dcF,getI_cl,get_cl,inB_T,Int.toNat_natCast,wrapS,length_cl,List.length_cons,List.length_nil,Bool.and_true,Bool.true_and,sqTo_row]
theorem lattice_Of_l2_eq {n:Nat} {ws:List Nat} (hf:Fit ws) (hl:ws.length=n) (hn:n≤16) (hin:Inside n ws) (t:Int × List Int × Int × Int × Unit) :
    loopM (lattice_Of_l2 (((n:Int),cl ws,()),()) (cl (downW n ws),())) (0,(0,[],[],[],0,0,()),[],[],t,()) =
      some (exitOr ((List.range n).findSome? (latG n ws t)) (.inl ((0,[],[],[],0,0,()),sq n (joinT n ws),sq n (meetT n ws),t,()))):=by
  refine loopM_exit (f:=lattice_Of_l2 (((n:Int),cl ws,()),()) (cl (downW n ws),())) n (fun a=>((a:Int),(0,[],[],[],0,0,()),sqTo n (joinT n ws) (a*n+0),sqTo n (meetT n ws) (a*n+0),t,())) _ _ (fun a ha=>?_) ?_ (by rw [Nat.zero_mul]; rfl)
  · unfold lattice_Of_l2
    simp (disch:=first | assumption | omega) only [cond_true,dcT,wrapS]
    rw [lattice_Of_l1_eq hf hl hn hin t ha]
    cases latG n ws t a <;> rfl
  · unfold lattice_Of_l2
    simp (disch:=first | assumption | omega) only [cond_false,dcF,wrapS]
    rfl
theorem lattice_Of_eq {N:Int} {ws:List Nat} (hf:Fit ws):lattice_Of ((N,cl ws,()),()) =
    some (if latc N ws=0 then (((N,cl ws,()),latR N.toNat ws,()),0,()) else (((0,[],()),([],[],0,0,()),()),latc N ws,())):=by
  unfold lattice_Of latc
  simp (disch:=first | assumption | omega) only [Option.bind_some,order_Check_eq hf]
  by_cases h:ordc N ws=0
  · obtain ⟨h1,h2,h3,hin,o⟩:=ordc_zero h
    obtain ⟨n,rfl⟩:=Int.eq_ofNat_of_zero_le h1
    have hl:ws.length=n:=by omega
    have hn:n≤16:=by omega
    have o:IsOrder n ws:=o
    have hin:Inside n ws:=hin
    by_cases h0:n=0
    · subst h0
      simp (disch:=first | assumption | omega) only [cond_true,cond_false,dcF,Int.toNat_natCast,if_true,h,bneF,beqT]
      rfl
    · have fd:Fit (downW n ws):=fit_downW hn
      have hld:(downW n ws).length=n:=length_down
      simp (disch:=first | assumption | omega) only [cond_false,Option.bind_some,dcT,Int.toNat_natCast,Bool.true_and,if_true,h,bneF,beqF,order_Down_eq hf hl hn hin]
      rw [lattice_Of_l2_eq hf hl hn hin]
      rcases rows_find n (lacks n ws) (fun a b=>((5,(0,[],[],[],0,0,()),sqTo n (joinT n ws) (a*n+b),sqTo n (meetT n ws) (a*n+b),((n:Int),cl ws,0,0,()),()):LatU)) with ⟨hb,he⟩ | ⟨hb,a,b,he⟩
      · have hb:latB n ws=true:=hb
        have hlat:=latB_iff.1 hb
        have hp:2 ^ n - 1 < 2 ^ n:=by have:=Nat.two_pow_pos n; omega
        have h0':0 < n:=by omega
        obtain ⟨t1,t2⟩:=topTo_spec o (fun a b ha hb=>(hlat a b ha hb).1) h0' n (Nat.le_refl n)
        obtain ⟨b1,b2⟩:=topTo_spec (order_down o) (fun a b ha hb=>(hlat a b ha hb).2) h0' n (Nat.le_refl n)
        have e1:=best_all (rs:=ws) (order_down o) (fun i j hi hj=>(below_down hj hi).symm) b1 b2
        have e2:=best_all (rs:=downW n ws) o (fun i j hi hj=>below_down hi hj) t1 t2
        have he:(List.range n).findSome? (latG n ws ((n:Int),cl ws,0,0,()))=none:=he
        rw [he]
        simp (disch:=first | assumption | omega) only [exitOr_none,cond_true,Option.bind_some,Sum.elim_inl,Sum.elim_inr,if_true,sets_All_eq (show n≤32 by omega),lattice_best_eq hf hl hn hp,lattice_best_eq fd hld hn hp,e1,e2,hb]
        rfl
      · have hb:latB n ws=false:=hb
        have he:(List.range n).findSome? (latG n ws ((n:Int),cl ws,0,0,()))=_:=he
        rw [he,hb]
        rfl
  · simp (disch:=first | assumption | omega) only [cond_true,if_false,h,bneT]
abbrev RLatT:Type:=(List Int × List Int × Int × Int × Unit)
abbrev RLatU:Type:=(Int × RLatT × List Int × List Int × (Int × Int × Unit) × Unit)
def rlatG (n:Nat) (ws:List Nat) (a:Nat):Option RLatU :=
  (List.range n).findSome? fun b=>cond (lacks n ws a b) (some (5,([],[],0,0,()),sqTo n (joinT n ws) (a*n+b),sqTo n (meetT n ws) (a*n+b),(0,0,()),())) none
theorem ref_LatticeMake_l1_eq {n:Nat} {ws:List Nat} (hf:Fit ws) (hl:ws.length=n) (hn:n≤16) {a:Nat} (ha:a < n) (y:RLatT × List Int × List Int × (Int × Int × Unit) × Unit) :
    loopM (ref_LatticeMake_l1 (((n:Int),cl ws,()),()) ((a:Int),y) (((n:Int),cl (downW n ws),()),())) (0,([],[],0,0,()),sqTo n (joinT n ws) (a*n+0),sqTo n (meetT n ws) (a*n+0),(0,0,()),()) =
      some (exitOr (rlatG n ws a) (.inl (([],[],0,0,()),sqTo n (joinT n ws) ((a+1)*n+0),sqTo n (meetT n ws) ((a+1)*n+0),(0,0,()),()))):=by
  have hsq:=sq_le hn
  have fd:Fit (downW n ws):=fit_downW hn
  have hld:(downW n ws).length=n:=length_down
  refine loopM_exit (f:=ref_LatticeMake_l1 (((n:Int),cl ws,()),()) ((a:Int),y) (((n:Int),cl (downW n ws),()),())) n (fun b=>((b:Int),([],[],0,0,()),sqTo n (joinT n ws) (a*n+b),sqTo n (meetT n ws) (a*n+b),(0,0,()),())) _ _ (fun b hb=>?_) ?_ rfl
  · have:=idx_lt ha hb
    unfold ref_LatticeMake_l1
    simp (disch:=first | assumption | omega) only [cond_true,Option.bind_some,dcT,wrapS,List.length_cons,List.length_nil,room8,Bool.and_self,ref_join_eq hf hl hn ha hb,ref_join_eq fd hld hn ha hb,sqTo_length]
    unfold lacks
    show cond (decide (joinT n ws a b < 0)) _ (cond (decide (meetT n ws a b < 0)) _ (some (Sum.inl (_,_,sqTo n (joinT n ws) (a*n+b)++[joinT n ws a b],sqTo n (meetT n ws) (a*n+b)++[meetT n ws a b],_))))=_
    rw [sqTo_succ (joinT n ws) hb,sqTo_succ (meetT n ws) hb]
    cases decide (joinT n ws a b < 0) <;> cases decide (meetT n ws a b < 0) <;> rfl
  · unfold ref_LatticeMake_l1
    simp (disch:=first | assumption | omega) only [cond_false,dcF,wrapS,List.length_cons,List.length_nil,Bool.and_true,Bool.true_and,sqTo_row]
theorem ref_LatticeMake_l2_eq {n:Nat} {ws:List Nat} (hf:Fit ws) (hl:ws.length=n) (hn:n≤16) :
    loopM (ref_LatticeMake_l2 (((n:Int),cl ws,()),()) (((n:Int),cl (downW n ws),()),())) (0,([],[],0,0,()),[],[],(0,0,()),()) =
      some (exitOr ((List.range n).findSome? (rlatG n ws)) (.inl (([],[],0,0,()),sq n (joinT n ws),sq n (meetT n ws),(0,0,()),()))):=by
  refine loopM_exit (f:=ref_LatticeMake_l2 (((n:Int),cl ws,()),()) (((n:Int),cl (downW n ws),()),())) n (fun a=>((a:Int),([],[],0,0,()),sqTo n (joinT n ws) (a*n+0),sqTo n (meetT n ws) (a*n+0),(0,0,()),())) _ _ (fun a ha=>?_) ?_ (by rw [Nat.zero_mul]; rfl)
  · unfold ref_LatticeMake_l2
    simp (disch:=first | assumption | omega) only [cond_true,dcT,wrapS]
    rw [ref_LatticeMake_l1_eq hf hl hn ha]
    cases rlatG n ws a <;> rfl
  · unfold ref_LatticeMake_l2
    simp (disch:=first | assumption | omega) only [cond_false,dcF,wrapS]
    rfl
theorem ref_LatticeMake_l3_eq {n:Nat} {ws:List Nat} (o:IsOrder n ws) (hn:n≤16) (h0:0 < n) (hlat:∀ a b,a < n→b < n→(∃ x,lub n ws a b=some x)∧∃ x,lub n (downW n ws) a b=some x) (c:RLatT) (d:(Int × Int × Unit) × Unit) :
    loopM (ref_LatticeMake_l3 (((n:Int),cl ws,()),()) (c,sq n (joinT n ws),sq n (meetT n ws),d)) (0,(0,0,()),())=some (.inl ((((topTo n (downW n ws) n:Nat):Int),((topTo n ws n:Nat):Int),()),())):=by
  refine loopM_sim (f:=ref_LatticeMake_l3 (((n:Int),cl ws,()),()) (c,sq n (joinT n ws),sq n (meetT n ws),d)) n (fun k=>((k:Int),(((topTo n (downW n ws) k:Nat):Int),((topTo n ws k:Nat):Int),()),())) _ (fun k hk=>?_) ?_ rfl
  · obtain ⟨t1,-⟩:=topTo_spec o (fun a b ha hb=>(hlat a b ha hb).1) h0 k (by omega)
    obtain ⟨b1,-⟩:=topTo_spec (order_down o) (fun a b ha hb=>(hlat a b ha hb).2) h0 k (by omega)
    obtain ⟨x,hx⟩:=(hlat _ k t1 hk).1
    obtain ⟨y,hy⟩:=(hlat _ k b1 hk).2
    unfold ref_LatticeMake_l3
    simp (disch:=first | assumption | omega) only [cond_true,Option.bind_some,dcT,Int.toNat_natCast,wrapS,idx_wrap t1 hk hn,idx_wrap b1 hk hn,sq_length,idx_inB t1 hk,idx_inB b1 hk,sq_get _ t1 hk,sq_get _ b1 hk]
    unfold joinT meetT
    rw [hx,hy,topTo,topTo,hx,hy]
    rfl
  · unfold ref_LatticeMake_l3
    simp (disch:=first | assumption | omega) only [cond_false,dcF,wrapS]
theorem ref_LatticeMake_eq {N:Int} {ws:List Nat} (hf:Fit ws):ref_LatticeMake ((N,cl ws,()),()) =
    some (if latc N ws=0 then (latR N.toNat ws,0,()) else (([],[],0,0,()),latc N ws,())):=by
  unfold ref_LatticeMake latc
  simp (disch:=first | assumption | omega) only [Option.bind_some,ref_OrderCheck_eq hf]
  by_cases h:ordc N ws=0
  · obtain ⟨h1,h2,h3,hin,o⟩:=ordc_zero h
    obtain ⟨n,rfl⟩:=Int.eq_ofNat_of_zero_le h1
    have hl:ws.length=n:=by omega
    have hn:n≤16:=by omega
    have o:IsOrder n ws:=o
    by_cases h0:n=0
    · subst h0
      simp (disch:=first | assumption | omega) only [cond_true,cond_false,dcF,Int.toNat_natCast,if_true,h,bneF,beqT]
      rfl
    · simp (disch:=first | assumption | omega) only [cond_false,Option.bind_some,dcT,Int.toNat_natCast,Bool.true_and,if_true,h,bneF,beqF,ref_OrderDual_eq hf hl hn]
      rw [ref_LatticeMake_l2_eq hf hl hn]
      rcases rows_find n (lacks n ws) (fun a b=>((5,([],[],0,0,()),sqTo n (joinT n ws) (a*n+b),sqTo n (meetT n ws) (a*n+b),(0,0,()),()):RLatU)) with ⟨hb,he⟩ | ⟨hb,a,b,he⟩
      · have hb:latB n ws=true:=hb
        have hlat:=latB_iff.1 hb
        have he:(List.range n).findSome? (rlatG n ws)=none:=he
        rw [he]
        simp (disch:=first | assumption | omega) only [exitOr_none,cond_true,Option.bind_some,Sum.elim_inl,Sum.elim_inr,if_true,ref_LatticeMake_l3_eq o hn (show 0 < n by omega) hlat,hb]
        rfl
      · have hb:latB n ws=false:=hb
        have he:(List.range n).findSome? (rlatG n ws)=_:=he
        rw [he,hb]
        rfl
  · simp (disch:=first | assumption | omega) only [cond_true,if_false,h,bneT]
end

section
open Go Go.Abs

abbrev Pe:=Int × Int × Int × Int × Unit
abbrev Pq:=Int × Int × Int × Int × Int × Unit
abbrev Pk:=Int × Int × Int × Unit
abbrev PK:Ty:=.cons (.int .i64) (.cons (.int .i64) (.cons (.int .i64) .nil))
theorem pk_flat:PK.flat=true:=rfl
theorem roomP {n b:Nat} (h:n≤200000) (hb:b≤64):roomOk n b=true:=by
  unfold roomOk
  have:n*b≤200000*64:=Nat.mul_le_mul h hb
  simp []
  omega
def eKey (e:Pe):Pk:=(e.1,e.2.1,e.2.2.1,())
def stT (m:List (Pk × Int)) (e:Pe):List (Pk × Int):=mapSet PK m (eKey e) e.2.2.2.1
def mpT (T:List Pe):List (Pk × Int):=T.foldl stT []
theorem mpT_snoc (T:List Pe) (e:Pe):mpT (T++[e])=mapSet PK (mpT T) (eKey e) e.2.2.2.1:=by unfold mpT; rw [List.foldl_append]; rfl
theorem fold_any (k:Pk):∀ (T:List Pe) (m:List (Pk × Int)),(mapGet PK (T.foldl stT m) k).isSome=((mapGet PK m k).isSome || T.any fun e=>decide (eKey e=k))
  | [],m=>by simp
  | e :: T,m=>by
    rw [List.foldl_cons,fold_any k T,List.any_cons]
    by_cases h:eKey e=k
    · subst h
      unfold stT
      rw [mapGet_self pk_flat,decide_eq_true rfl]; simp
    · unfold stT
      rw [mapGet_other pk_flat _ _ _ _ (Ne.symm h),decide_eq_false h,Bool.false_or]
theorem mpT_any (T:List Pe) (k:Pk):(mapGet PK (mpT T) k).isSome=T.any fun e=>decide (eKey e=k):=by
  unfold mpT
  rw [fold_any]; rfl
theorem fold_find (k:Pk):∀ (T:List Pe) (m:List (Pk × Int)),(∀ e∈T,mapGet PK m (eKey e)=none)→T.Pairwise (fun a b=>eKey a≠eKey b) →
    mapGet PK (T.foldl stT m) k=(mapGet PK m k).or ((T.find? fun e=>decide (eKey e=k)).map fun e=>e.2.2.2.1)
  | [],m,_,_=>by simp
  | e :: T,m,h1,h2=>by
    obtain ⟨h3,h4⟩:=List.pairwise_cons.1 h2
    rw [List.foldl_cons,fold_find k T _ (fun e' he'=>by
      unfold stT
      rw [mapGet_other pk_flat _ _ _ _ (Ne.symm (h3 e' he'))]
      exact h1 e' (List.mem_cons_of_mem _ he')) h4]
    by_cases h:eKey e=k
    · subst h
      unfold stT
      rw [mapGet_self pk_flat,h1 e List.mem_cons_self,List.find?_cons,decide_eq_true rfl]; rfl
    · unfold stT
      rw [mapGet_other pk_flat _ _ _ _ (Ne.symm h),List.find?_cons,decide_eq_false h]
theorem mpT_find {T:List Pe} (h:T.Pairwise fun a b=>eKey a≠eKey b) (k:Pk):mapGet PK (mpT T) k=(T.find? fun e=>decide (eKey e=k)).map fun e=>e.2.2.2.1:=by
  unfold mpT
  rw [fold_find k T [] (fun _ _=>rfl) h]; rfl
def outB (n:Nat) (a f g q:Int):Prop:=a < 0∨¬ (0≤f∧f < n)∨¬ (0≤g∧g < n)∨¬ (0≤q∧q≤1000)
instance (n:Nat) (a f g q:Int):Decidable (outB n a f g q):=by unfold outB; infer_instance
def badOf (n:Nat) (ws:List Nat) (P:List Pe) (e:Pe):Option Int :=
  if outB n e.1 e.2.1 e.2.2.1 e.2.2.2.1 then some 2 else if below ws e.2.1.toNat e.2.2.1.toNat=true then some 12 else if (P.any fun f=>decide (eKey f=eKey e))=true then some 3 else none
def badE (n:Nat) (ws:List Nat) (T:List Pe) (i:Nat):Option Int:=(T[i]?).bind fun e=>badOf n ws (T.take i) e
def firstB (n:Nat) (ws:List Nat) (T:List Pe):Option (Int × Nat):=(List.range T.length).findSome? fun i=>(badE n ws T i).map fun c=>(c,i)
theorem fs_pair {β:Type} (b:Nat→Option Int) (h:Int→Nat→β):∀ l:List Nat,(l.findSome? fun i=>(b i).map fun c=>h c i)=(l.findSome? fun i=>(b i).map fun c=>(c,i)).map fun p=>h p.1 p.2
  | []=>rfl
  | i :: l=>by
    rw [List.findSome?_cons,List.findSome?_cons]
    cases b i with
    | none=>exact fs_pair b h l
    | some c=>rfl
theorem badOf_ne {n:Nat} {ws:List Nat} {P:List Pe} {e:Pe} {c:Int} (h:badOf n ws P e=some c):c≠0:=by
  unfold badOf at h
  split at h
  · cases h; decide
  · split at h
    · cases h; decide
    · split at h
      · cases h; decide
      · cases h
theorem firstB_ne {n:Nat} {ws:List Nat} {T:List Pe} {p:Int × Nat} (h:firstB n ws T=some p):p.1≠0:=by
  unfold firstB at h
  obtain ⟨i,-,hi⟩:=List.exists_of_findSome?_eq_some h
  unfold badE at hi
  cases hT:T[i]? with
  | none=>rw [hT] at hi; cases hi
  | some e =>
    rw [hT,Option.bind_some] at hi
    cases hb:badOf n ws (T.take i) e with
    | none=>rw [hb] at hi; cases hi
    | some c=>rw [hb] at hi; cases hi; exact badOf_ne hb
theorem firstB_none {n:Nat} {ws:List Nat} {T:List Pe} (h:firstB n ws T=none) {i:Nat} (hi:i < T.length):badOf n ws (T.take i) T[i]=none:=by
  unfold firstB at h
  have h1:=List.findSome?_eq_none_iff.1 h i (List.mem_range.2 hi)
  unfold badE at h1
  rw [List.getElem?_eq_getElem hi,Option.bind_some] at h1
  cases hb:badOf n ws (T.take i) T[i] with
  | none=>rfl
  | some c=>rw [hb] at h1; cases h1
theorem apart_of {n:Nat} {ws:List Nat} {T:List Pe} (h:firstB n ws T=none):T.Pairwise fun a b=>eKey a≠eKey b:=by
  rw [List.pairwise_iff_getElem]
  intro i j hi hj hij he
  have h1:=firstB_none h hj
  unfold badOf at h1
  split at h1
  · cases h1
  · split at h1
    · cases h1
    · split at h1
      · cases h1
      · rename_i h2
        apply h2
        rw [List.any_eq_true]
        refine ⟨T[i],?_,decide_eq_true he⟩
        rw [List.mem_take_iff_getElem]
        exact ⟨i,by omega,rfl⟩
theorem number_eq (q:Int):policy_number (q,())=some (decide (0≤q∧q≤1000),()):=by
  unfold policy_number
  by_cases h:0≤q
  · rw [dcT (show q ≥ 0 from h),cond_true]
    by_cases h2:q≤1000
    · rw [dcT h2,dcT (And.intro h h2)]
    · rw [dcF h2,dcF (fun hh=>h2 hh.2)]
  · rw [dcF (show ¬ q ≥ 0 from h),cond_false,dcF (fun hh=>h hh.1)]
theorem min_iff (f g:Int):((if g < f then g else f) ≥ 0)↔(0≤f∧0≤g):=by split <;> omega
theorem max_iff (f g n:Int):((if g > f then g else f) < n)↔(f < n∧g < n):=by split <;> omega
theorem table_Below_eq {n:Nat} {ws:List Nat} (hf:Fit ws) (t:List Int × List Int × Int × Int × Unit) {a b:Nat} (ha:a < ws.length):lattice_Table_Under ((((n:Int),cl ws,()),t,()),(a:Int),(b:Int),())=some (below ws a b,()):=by
  unfold lattice_Table_Under
  simp (disch:=first | assumption | omega) only [Option.bind_some,getI_cl,has_D hf]
theorem take_snoc {α:Type} {T:List α} {i:Nat} (hi:i < T.length):T.take (i+1)=T.take i++[T[i]]:=by
  rw [List.take_add_one,List.getElem?_eq_getElem hi]; rfl
theorem badOf_out {n:Nat} {ws:List Nat} {P:List Pe} {a f g q:Int} {u:Unit} (h:outB n a f g q):badOf n ws P (a,f,g,q,u)=some 2:=if_pos h
theorem badOf_in {n:Nat} {ws:List Nat} {P:List Pe} {a q:Int} {x y:Nat} {u:Unit} (h:¬ outB n a x y q):badOf n ws P (a,(x:Int),(y:Int),q,u) =
    if below ws x y=true then some 12 else if (P.any fun f=>decide (eKey f=(a,(x:Int),(y:Int),())))=true then some 3 else none:=by
  unfold badOf
  rw [if_neg h]; rfl
abbrev CkB:=((Int × Int × Unit) × List (Pk × Int) × Unit) ⊕ ((Int × Int × Unit) × List (Pk × Int) × Unit) ⊕ Empty
abbrev RkB:=((Int × Int × Unit) × Unit) ⊕ ((Int × Int × Unit) × Unit) ⊕ Empty
section
variable {n:Nat} {ws:List Nat} {T:List Pe} (hf:Fit ws) (hw:ws.length=n) (hT:T.length≤16)
include hf hw hT
theorem chk_step (o:Int × List Int × Unit) (t:List Int × List Int × Int × Int × Unit) (z:Int × Int × Unit) {i:Nat} (hi:i < T.length) :
    policy_Check_l1 (o,T,()) ((((n:Int),cl ws,()),t,()),0,()) ((i:Int),z,mpT (T.take i),()) =
      some (match (badE n ws T i).map fun c=>(Sum.inl ((c,(i:Int),()),mpT (T.take i),()):CkB) with
        | some b=>.inr b
        | none=>.inl (((i+1:Nat):Int),z,mpT (T.take (i+1)),())):=by
  unfold policy_Check_l1 badE
  rw [take_snoc hi,mpT_snoc]
  generalize he:T[i]=e
  have he':T[i]? = some e:=by rw [List.getElem?_eq_getElem hi,he]
  obtain ⟨a,f,g,q,u⟩:=e
  simp only [dcT (show (i:Int) < (T.length:Int) by omega),cond_true,getI_nat,he',Option.bind_some,number_eq,wrapS (show i < 9223372036854775807 by omega)]
  by_cases h1:a < 0
  · rw [dcT h1,cond_true,badOf_out (.inl h1)]; rfl
  · rw [dcF h1,cond_false]
    by_cases h2:0≤f∧0≤g
    · rw [dcT ((min_iff f g).2 h2),cond_true]
      by_cases h3:f < (n:Int)∧g < (n:Int)
      · rw [dcT ((max_iff f g n).2 h3),Bool.not_true,cond_false]
        by_cases h4:0≤q∧q≤1000
        · rw [dcT h4,Bool.not_true,cond_false]
          obtain ⟨x,rfl⟩:∃ x:Nat,f=(x:Int):=⟨f.toNat,by omega⟩
          obtain ⟨y,rfl⟩:∃ y:Nat,g=(y:Int):=⟨g.toNat,by omega⟩
          rw [table_Below_eq hf t (show x < ws.length by omega),Option.bind_some,badOf_in (by unfold outB; omega)]
          cases hb:below ws x y with
          | true=>rfl
          | false =>
            simp only [cond_false,Bool.false_eq_true,if_false,mpT_any]
            cases hd:(T.take i).any (fun e=>decide (eKey e=(a,(x:Int),(y:Int),()))) with
            | true=>rfl
            | false=>rfl
        · rw [dcF h4,Bool.not_false,cond_true,badOf_out (.inr (.inr (.inr h4)))]; rfl
      · rw [dcF (fun hh=>h3 ((max_iff f g n).1 hh)),Bool.not_false,cond_true,badOf_out (by unfold outB; omega)]; rfl
    · rw [dcF (fun hh=>h2 ((min_iff f g).1 hh)),cond_false,badOf_out (by unfold outB; omega)]; rfl
theorem chk_loop (o:Int × List Int × Unit) (t:List Int × List Int × Int × Int × Unit) :
    loopM (policy_Check_l1 (o,T,()) ((((n:Int),cl ws,()),t,()),0,())) ((0:Int),((0:Int),(0:Int),()),([]:List (Pk × Int)),()) =
      some (((firstB n ws T).map fun p=>(Sum.inl ((p.1,(p.2:Int),()),mpT (T.take p.2),()):CkB)).getD (.inr (.inl ((0,0,()),mpT T,())))):=by
  have h:=loopM_stop (f:=policy_Check_l1 (o,T,()) ((((n:Int),cl ws,()),t,()),0,())) T.length (fun i=>((i:Int),((0:Int),(0:Int),()),mpT (T.take i),()))
    (fun i=>(badE n ws T i).map fun c=>(Sum.inl ((c,(i:Int),()),mpT (T.take i),()):CkB)) (.inr (.inl ((0,0,()),mpT T,())))
    (fun i hi=>by rw [chk_step hf hw hT o t (0,0,()) hi]; cases badE n ws T i <;> rfl) (by
    unfold policy_Check_l1
    rw [dcF (show ¬ (((T.length:Nat):Int) < (T.length:Int)) by omega),cond_false,List.take_length])
  rw [fs_pair (fun i=>badE n ws T i) (fun c i=>(Sum.inl ((c,(i:Int),()),mpT (T.take i),()):CkB))] at h
  exact h
omit hf hw in
theorem rdup_loop (o:Int × List Int × Unit) (e:Pe) {i:Nat} (hi:i < T.length) (z:Int × Int × Unit) :
    loopM (ref_PolicyCheck_l1 (o,T,()) ((i:Int),z,()) e) ((0:Int),z,())=some (if ((T.take i).any fun f=>decide (eKey f=eKey e))=true then (.inl ((3,(i:Int),()),()):RkB) else .inr (.inl (z,()))):=by
  have h:=loopM_any0 (f:=ref_PolicyCheck_l1 (o,T,()) ((i:Int),z,()) e) i (z,()) (fun j=>decide (eKey (T.getD j (0,0,0,0,()))=eKey e)) (.inl ((3,(i:Int),()),()):RkB) (.inr (.inl (z,())))
    (fun j hj=>by
      unfold ref_PolicyCheck_l1
      have hjT:j < T.length:=by omega
      have hg:T.getD j (0,0,0,0,())=T[j]:=by rw [List.getD_eq_getElem?_getD,List.getElem?_eq_getElem hjT]; rfl
      rw [hg]
      simp only [dcT (show (j:Int) < (i:Int) by omega),cond_true,getI_nat,List.getElem?_eq_getElem hjT,Option.bind_some,wrapS (show j < 9223372036854775807 by omega),cond_beq]
      unfold eKey
      simp only [Prod.mk.injEq,decide_eq_true_eq,and_true]
      by_cases h1:T[j].1=e.1
      · by_cases h2:T[j].2.1=e.2.1
        · by_cases h3:T[j].2.2.1=e.2.2.1
          · simp only [h1,h2,h3,if_true,and_self]
          · simp only [h1,h2,h3,if_true,if_false,and_false]
        · simp only [h1,h2,if_true,if_false,false_and,and_false]
      · simp only [h1,if_false,false_and])
    (by
      unfold ref_PolicyCheck_l1
      simp only [dcF (show ¬ (i:Int) < (i:Int) by omega),cond_false])
  have hany:((List.range i).any fun j=>decide (eKey (T.getD j (0,0,0,0,()))=eKey e))=(T.take i).any fun f=>decide (eKey f=eKey e):=by
    rw [Bool.eq_iff_iff,List.any_eq_true,List.any_eq_true]
    constructor
    · rintro ⟨j,h1,h2⟩
      have hj:=List.mem_range.1 h1
      refine ⟨T.getD j (0,0,0,0,()),?_,h2⟩
      rw [List.mem_take_iff_getElem]
      refine ⟨j,by omega,?_⟩
      rw [List.getD_eq_getElem?_getD,List.getElem?_eq_getElem (by omega)]; rfl
    · rintro ⟨f,h1,h2⟩
      obtain ⟨j,hj,rfl⟩:=List.mem_take_iff_getElem.1 h1
      refine ⟨j,List.mem_range.2 (by omega),?_⟩
      rw [List.getD_eq_getElem?_getD,List.getElem?_eq_getElem (by omega)]
      exact h2
  rw [hany] at h
  exact h
theorem rchk_step (hn:n≤16) (z:Int × Int × Unit) {i:Nat} (hi:i < T.length) :
    ref_PolicyCheck_l2 (((n:Int),cl ws,()),T,()) ((i:Int),z,()) =
      some (match (badE n ws T i).map fun c=>(Sum.inl ((c,(i:Int),()),()):RkB) with
        | some b=>.inr b
        | none=>.inl (((i+1:Nat):Int),z,())):=by
  have hd:=fun e=>rdup_loop hT ((n:Int),cl ws,()) e hi z
  unfold ref_PolicyCheck_l2 badE
  generalize he:T[i]=e
  have he':T[i]? = some e:=by rw [List.getElem?_eq_getElem hi,he]
  obtain ⟨a,f,g,q,u⟩:=e
  simp only [dcT (show (i:Int) < (T.length:Int) by omega),cond_true,getI_nat,he',Option.bind_some,wrapS (show i < 9223372036854775807 by omega)]
  by_cases h1:a < 0
  · rw [dcT h1,cond_true,badOf_out (.inl h1)]; rfl
  rw [dcF h1,cond_false]
  by_cases h2:f < 0
  · rw [dcT h2,cond_true,badOf_out (by unfold outB; omega)]; rfl
  rw [dcF h2,cond_false]
  by_cases h3:f ≥ (n:Int)
  · rw [dcT h3,cond_true,badOf_out (by unfold outB; omega)]; rfl
  rw [dcF h3,cond_false]
  by_cases h4:g < 0
  · rw [dcT h4,cond_true,badOf_out (by unfold outB; omega)]; rfl
  rw [dcF h4,cond_false]
  by_cases h5:g ≥ (n:Int)
  · rw [dcT h5,cond_true,badOf_out (by unfold outB; omega)]; rfl
  rw [dcF h5,cond_false]
  by_cases h6:q < 0
  · rw [dcT h6,cond_true,badOf_out (by unfold outB; omega)]; rfl
  rw [dcF h6,cond_false]
  by_cases h7:q > 1000
  · rw [dcT h7,cond_true,badOf_out (by unfold outB; omega)]; rfl
  rw [dcF h7,cond_false]
  obtain ⟨x,rfl⟩:∃ x:Nat,f=(x:Int):=⟨f.toNat,by omega⟩
  obtain ⟨y,rfl⟩:∃ y:Nat,g=(y:Int):=⟨g.toNat,by omega⟩
  rw [ref_Below_eq hf (show x < ws.length by omega) (show y < 2 ^ 64 by omega),Option.bind_some,badOf_in (by unfold outB; omega)]
  cases hb:below ws x y with
  | true=>rfl
  | false =>
    simp only [cond_false,Bool.false_eq_true,if_false,hd,Option.bind_some]
    have hk:(fun f:Pe=>decide (eKey f=eKey (a,(x:Int),(y:Int),q,u)))=fun f=>decide (eKey f=(a,(x:Int),(y:Int),())):=rfl
    rw [hk]
    cases hd2:(T.take i).any (fun e=>decide (eKey e=(a,(x:Int),(y:Int),()))) with
    | true=>rfl
    | false=>rfl
theorem rchk_loop (hn:n≤16) :
    loopM (ref_PolicyCheck_l2 (((n:Int),cl ws,()),T,())) ((0:Int),((0:Int),(0:Int),()),()) =
      some (((firstB n ws T).map fun p=>(Sum.inl ((p.1,(p.2:Int),()),()):RkB)).getD (.inr (.inl ((0,0,()),())))):=by
  have h:=loopM_stop (f:=ref_PolicyCheck_l2 (((n:Int),cl ws,()),T,())) T.length (fun i=>((i:Int),((0:Int),(0:Int),()),()))
    (fun i=>(badE n ws T i).map fun c=>(Sum.inl ((c,(i:Int),()),()):RkB)) (.inr (.inl ((0,0,()),())))
    (fun i hi=>by rw [rchk_step hf hw hT hn (0,0,()) hi]; cases badE n ws T i <;> rfl) (by
    unfold ref_PolicyCheck_l2
    rw [dcF (show ¬ (((T.length:Nat):Int) < (T.length:Int)) by omega),cond_false])
  rw [fs_pair (fun i=>badE n ws T i) (fun c i=>(Sum.inl ((c,(i:Int),()),()):RkB))] at h
  exact h
end
noncomputable def cvalP (N:Int) (ws:List Nat) (T:List Pe):Int × Int × Unit :=
  if latc N ws=0 then if (T.length:Int) > 16 then (1,0,()) else ((firstB N.toNat ws T).map fun p=>(p.1,(p.2:Int),())).getD (0,0,()) else (latc N ws,0,())
theorem policy_Check_eq {N:Int} {ws:List Nat} (hf:Fit ws) (T:List Pe):policy_Check ((N,cl ws,()),T,())=some (cvalP N ws T,()):=by
  unfold policy_Check cvalP
  rw [show (((N,cl ws,()),T,()):(Int × List Int × Unit) × List Pe × Unit).1=(N,cl ws,()) from rfl,lattice_Of_eq hf]
  by_cases h:latc N ws=0
  · obtain ⟨h1,h2,-⟩:=latc_zero h
    obtain ⟨-,h16,h3,-,-⟩:=ordc_zero h1
    obtain ⟨n,rfl⟩:=Int.eq_ofNat_of_zero_le (show 0≤N by omega)
    rw [if_pos h,if_pos h,Option.bind_some]
    simp only [bne_self_eq_false,cond_false]
    by_cases h4:(T.length:Int) > 16
    · rw [if_pos h4,dcT h4,cond_true]
    · rw [if_neg h4,dcF h4,cond_false]
      have hl:=chk_loop hf (show ws.length=n by omega) (show T.length≤16 by omega) ((n:Int),cl ws,()) (latR (n:Int).toNat ws)
      rw [show (((n:Nat):Int).toNat)=n from rfl] at hl ⊢
      rw [hl,Option.bind_some]
      cases firstB n ws T with
      | none=>rfl
      | some p=>rfl
  · rw [if_neg h,if_neg h,Option.bind_some]
    simp only [bneT h,cond_true]
theorem ref_PolicyCheck_eq {N:Int} {ws:List Nat} (hf:Fit ws) (T:List Pe):ref_PolicyCheck ((N,cl ws,()),T,())=some (cvalP N ws T,()):=by
  unfold ref_PolicyCheck cvalP
  rw [show (((N,cl ws,()),T,()):(Int × List Int × Unit) × List Pe × Unit).1=(N,cl ws,()) from rfl,ref_LatticeMake_eq hf]
  by_cases h:latc N ws=0
  · obtain ⟨h1,h2,-⟩:=latc_zero h
    obtain ⟨-,h16,h3,-,-⟩:=ordc_zero h1
    obtain ⟨n,rfl⟩:=Int.eq_ofNat_of_zero_le (show 0≤N by omega)
    rw [if_pos h,if_pos h,Option.bind_some]
    simp only [bne_self_eq_false,cond_false]
    by_cases h4:(T.length:Int) > 16
    · rw [if_pos h4,dcT h4,cond_true]
    · rw [if_neg h4,dcF h4,cond_false]
      have hl:=rchk_loop hf (show ws.length=n by omega) (show T.length≤16 by omega) (show n≤16 by omega)
      rw [show (((n:Nat):Int).toNat)=n from rfl]
      rw [hl,Option.bind_some]
      cases firstB n ws T with
      | none=>rfl
      | some p=>rfl
  · rw [if_neg h,if_neg h,Option.bind_some]
    simp only [bneT h,cond_true]
end

section
open Go Go.Abs

def qKey (q:Pq):Pk:=(q.2.1,q.2.2.1,q.2.2.2.1,())
def addU (R:Int) (k:Pk) (u:Int) (t:Pq):Int:=if t.1=R∧qKey t=k then u+t.2.2.2.2.1 else u
def usedOf (V:List Pq) (R:Int) (k:Pk):Int:=V.foldl (addU R k) 0
theorem used_snoc (V:List Pq) (t:Pq) (R:Int) (k:Pk):usedOf (V++[t]) R k=addU R k (usedOf V R k) t:=by unfold usedOf; rw [List.foldl_append]; rfl
theorem used_fold (R:Int) (k:Pk):∀ (V:List Pq) (u:Int),(∀ t∈V,0≤t.2.2.2.2.1∧t.2.2.2.2.1≤1000)→u≤V.foldl (addU R k) u∧V.foldl (addU R k) u≤u+1000*(V.length:Int)
  | [],u,_=>by simp
  | t :: V,u,h=>by
    have h1:=h t List.mem_cons_self
    obtain ⟨h2,h3⟩:=used_fold R k V (addU R k u t) fun t ht=>h t (List.mem_cons_of_mem _ ht)
    rw [List.foldl_cons,List.length_cons]
    have h4:u≤addU R k u t∧addU R k u t≤u+1000:=by unfold addU; split <;> omega
    omega
theorem used_le {V:List Pq} (h:∀ t∈V,0≤t.2.2.2.2.1∧t.2.2.2.2.1≤1000) (R:Int) (k:Pk):0≤usedOf V R k∧usedOf V R k≤1000*(V.length:Int):=by
  have:=used_fold R k V 0 h
  unfold usedOf; omega
theorem used_new (R:Int) (k:Pk):∀ (V:List Pq) (u:Int),(∀ t∈V,t.1≤R)→V.foldl (addU (R+1) k) u=u
  | [],u,_=>rfl
  | t :: V,u,h=>by
    have h1:=h t List.mem_cons_self
    rw [List.foldl_cons,show addU (R+1) k u t=u from if_neg (fun hh=>by omega)]
    exact used_new R k V u fun t ht=>h t (List.mem_cons_of_mem _ ht)
def askP (n:Nat) (ws:List Nat) (T:List Pe) (V:List Pq) (R:Int) (q:Pq):Int :=
  if outB n q.2.1 q.2.2.1 q.2.2.2.1 q.2.2.2.2.1 then 2 else if below ws q.2.2.1.toNat q.2.2.2.1.toNat=true then 0 else
    match T.find? fun e=>decide (eKey e=qKey q) with
    | none=>5
    | some e=>if usedOf V R (qKey q)+q.2.2.2.2.1 > e.2.2.2.1 then 13 else 0
def grants (n:Nat) (ws:List Nat) (T:List Pe) (V:List Pq) (R:Int) (q:Pq):Bool:=decide (askP n ws T V R q=0) && !below ws q.2.2.1.toNat q.2.2.2.1.toNat
theorem fs_range {α β:Type} (F:α→Option β):∀ T:List α,(List.range T.length).findSome? (fun j=>(T[j]?).bind F)=T.findSome? F
  | []=>rfl
  | e :: T=>by
    rw [List.length_cons,List.range_succ_eq_map,List.findSome?_cons,List.findSome?_map,List.findSome?_cons]
    have:=fs_range F T
    simp only [List.getElem?_cons_zero,Option.bind_some]
    cases F e with
    | some b=>rfl
    | none=>exact this
theorem fs_find {α β:Type} (p:α→Bool) (h:α→β):∀ T:List α,(T.findSome? fun e=>if p e=true then some (h e) else none)=(T.find? p).map h
  | []=>rfl
  | e :: T=>by
    rw [List.findSome?_cons,List.find?_cons]
    cases p e with
    | true=>rfl
    | false=>simpa using fs_find p h T
section
variable {n:Nat} {ws:List Nat} {T:List Pe} {V:List Pq} {R:Int} {q:Pq}
theorem rask_l1 (o:Int × List Int × Unit) (hV:V.length≤60) (hb:∀ t∈V,0≤t.2.2.2.2.1∧t.2.2.2.2.1≤1000) :
    loopM (ref_PolicyAsk_l1 (o,T,V,R,q,())) ((0:Int),(0:Int),())=some (.inl (usedOf V R (qKey q),())):=by
  refine loopM_sim (f:=ref_PolicyAsk_l1 (o,T,V,R,q,())) V.length (fun i=>(usedOf (V.take i) R (qKey q),(i:Int),())) (.inl (usedOf V R (qKey q),())) (fun i hi=>?_) ?_ rfl
  · have hb1:=used_le (V:=V.take i) (fun t ht=>hb t (List.mem_of_mem_take ht)) R (qKey q)
    have hb2:=hb V[i] (List.getElem_mem hi)
    have hl:(V.take i).length≤60:=by rw [List.length_take]; omega
    rw [take_snoc hi,used_snoc]
    unfold ref_PolicyAsk_l1 addU
    simp only [dcT (show (i:Int) < (V.length:Int) by omega),cond_true,getI_nat,List.getElem?_eq_getElem hi,Option.bind_some,wrapS (show i < 9223372036854775807 by omega),cond_beq,wrap64 (show -9223372036854775808≤usedOf (V.take i) R (qKey q)+V[i].2.2.2.2.1 by omega) (by omega)]
    have hq:qKey V[i]=qKey q↔V[i].2.1=q.2.1∧V[i].2.2.1=q.2.2.1∧V[i].2.2.2.1=q.2.2.2.1:=by unfold qKey; simp
    simp only [hq]
    by_cases h1:V[i].1=R
    · by_cases h2:V[i].2.1=q.2.1
      · by_cases h3:V[i].2.2.1=q.2.2.1
        · by_cases h4:V[i].2.2.2.1=q.2.2.2.1
          · simp only [h1,h2,h3,h4,if_true,and_self]
          · simp only [h1,h2,h3,h4,if_true,if_false,and_false]
        · simp only [h1,h2,h3,if_true,if_false,false_and,and_false]
      · simp only [h1,h2,if_true,if_false,false_and,and_false]
    · simp only [h1,if_false,false_and]
  · unfold ref_PolicyAsk_l1
    rw [dcF (show ¬ (((V.length:Nat):Int) < (V.length:Int)) by omega),cond_false,List.take_length]
abbrev AkB:=(Int × Unit) ⊕ Unit ⊕ Empty
theorem rask_l2 (o:Int × List Int × Unit) (hT:T.length≤16) (hu:0≤usedOf V R (qKey q)∧usedOf V R (qKey q)≤60000) (hN:0≤q.2.2.2.2.1∧q.2.2.2.2.1≤1000) :
    loopM (ref_PolicyAsk_l2 (o,T,V,R,q,()) (usedOf V R (qKey q),())) ((0:Int),()) =
      some (((T.find? fun e=>decide (eKey e=qKey q)).map fun e=>(.inl (if usedOf V R (qKey q)+q.2.2.2.2.1 > e.2.2.2.1 then 13 else 0,()):AkB)).getD (.inr (.inl ()))):=by
  have h:=loopM_find (f:=ref_PolicyAsk_l2 (o,T,V,R,q,()) (usedOf V R (qKey q),())) T.length () (fun j=>(T[j]?).bind fun e=>if decide (eKey e=qKey q)=true then some (.inl (if usedOf V R (qKey q)+q.2.2.2.2.1 > e.2.2.2.1 then 13 else 0,()):AkB) else none) (.inr (.inl ()))
    (fun j hj=>by
      unfold ref_PolicyAsk_l2
      simp only [dcT (show (j:Int) < (T.length:Int) by omega),cond_true,getI_nat,List.getElem?_eq_getElem hj,Option.bind_some,wrapS (show j < 9223372036854775807 by omega),cond_beq,wrap64 (show -9223372036854775808≤usedOf V R (qKey q)+q.2.2.2.2.1 by omega) (by omega),cond_dec,decide_eq_true_eq]
      have hq:eKey T[j]=qKey q↔T[j].1=q.2.1∧T[j].2.1=q.2.2.1∧T[j].2.2.1=q.2.2.2.1:=by unfold eKey qKey; simp
      simp only [hq]
      by_cases h2:T[j].1=q.2.1
      · by_cases h3:T[j].2.1=q.2.2.1
        · by_cases h4:T[j].2.2.1=q.2.2.2.1
          · simp only [h2,h3,h4,if_true,and_self]
            split <;> rfl
          · simp only [h2,h3,h4,if_true,if_false,and_false]
        · simp only [h2,h3,if_true,if_false,false_and,and_false]
      · simp only [h2,if_false,false_and])
    (by
      unfold ref_PolicyAsk_l2
      rw [dcF (show ¬ (((T.length:Nat):Int) < (T.length:Int)) by omega),cond_false])
  rw [fs_range,fs_find (fun e=>decide (eKey e=qKey q)) (fun e=>(.inl (if usedOf V R (qKey q)+q.2.2.2.2.1 > e.2.2.2.1 then 13 else 0,()):AkB))] at h
  exact h
theorem ref_PolicyAsk_eq (hf:Fit ws) (hw:ws.length=n) (hn:n≤16) (hT:T.length≤16) (hV:V.length≤60) (hb:∀ t∈V,0≤t.2.2.2.2.1∧t.2.2.2.2.1≤1000) :
    ref_PolicyAsk (((n:Int),cl ws,()),T,V,R,q,())=some (askP n ws T V R q,()):=by
  have hu:=used_le hb R (qKey q)
  have k1:=rask_l1 (T:=T) (q:=q) (R:=R) ((n:Int),cl ws,()) hV hb
  have k2:=rask_l2 (T:=T) (V:=V) (q:=q) (R:=R) ((n:Int),cl ws,()) hT (by omega)
  unfold ref_PolicyAsk askP
  simp only []
  by_cases h1:q.2.1 < 0
  · rw [dcT h1,cond_true,if_pos (by unfold outB; omega)]
  rw [dcF h1,cond_false]
  by_cases h2:q.2.2.1 < 0
  · rw [dcT h2,cond_true,if_pos (by unfold outB; omega)]
  rw [dcF h2,cond_false]
  by_cases h3:q.2.2.1 ≥ (n:Int)
  · rw [dcT h3,cond_true,if_pos (by unfold outB; omega)]
  rw [dcF h3,cond_false]
  by_cases h4:q.2.2.2.1 < 0
  · rw [dcT h4,cond_true,if_pos (by unfold outB; omega)]
  rw [dcF h4,cond_false]
  by_cases h5:q.2.2.2.1 ≥ (n:Int)
  · rw [dcT h5,cond_true,if_pos (by unfold outB; omega)]
  rw [dcF h5,cond_false]
  by_cases h6:q.2.2.2.2.1 < 0
  · rw [dcT h6,cond_true,if_pos (by unfold outB; omega)]
  rw [dcF h6,cond_false]
  by_cases h7:q.2.2.2.2.1 > 1000
  · rw [dcT h7,cond_true,if_pos (by unfold outB; omega)]
  rw [dcF h7,cond_false,if_neg (by unfold outB; omega),k1]
  have k3:=k2 (by omega)
  have hB:=ref_Below_eq hf (N:=(n:Int)) (show q.2.2.1.toNat < ws.length by omega) (show q.2.2.2.1.toNat < 2 ^ 64 by omega)
  rw [show ((q.2.2.1.toNat:Nat):Int)=q.2.2.1 by omega,show ((q.2.2.2.1.toNat:Nat):Int)=q.2.2.2.1 by omega] at hB
  rw [hB,Option.bind_some]
  cases hbl:below ws q.2.2.1.toNat q.2.2.2.1.toNat with
  | true=>rfl
  | false =>
    simp only [cond_false,Option.bind_some,Sum.elim_inl,Bool.false_eq_true,if_false,k3]
    cases T.find? fun e=>decide (eKey e=qKey q) with
    | none=>rfl
    | some e=>rfl
end
structure Pst where
  C:List Int
  V:List Pq
  R:Int
  U:List (Pk × Int)
def pstep (n:Nat) (ws:List Nat) (T:List Pe) (s:Pst) (q:Pq):Pst :=
  if q.1=2 then ⟨s.C++[0],s.V,s.R+1,[]⟩ else if q.1=1 then
    cond (grants n ws T s.V s.R q) ⟨s.C++[0],s.V++[(s.R,q.2)],s.R,mapSet PK (mapEnt PK s.U (qKey q) 0) (qKey q) (usedOf s.V s.R (qKey q)+q.2.2.2.2.1)⟩ ⟨s.C++[askP n ws T s.V s.R q],s.V,s.R,s.U⟩
  else ⟨s.C++[17],s.V,s.R,s.U⟩
def psts (n:Nat) (ws:List Nat) (T:List Pe) (S:List Pq) (i:Nat):Pst:=(S.take i).foldl (pstep n ws T) ⟨[],[],0,[]⟩
theorem psts_succ {n:Nat} {ws:List Nat} {T:List Pe} {S:List Pq} {i:Nat} (hi:i < S.length):psts n ws T S (i+1)=pstep n ws T (psts n ws T S i) S[i]:=by
  unfold psts
  rw [take_snoc hi,List.foldl_append]; rfl
structure PInv (i:Nat) (s:Pst):Prop where
  C:s.C.length=i
  V:s.V.length≤i
  R:0≤s.R∧s.R≤i
  b:∀ t∈s.V,0≤t.2.2.2.2.1∧t.2.2.2.2.1≤1000
  r:∀ t∈s.V,t.1≤s.R
  U:∀ k,(mapGet PK s.U k).getD 0=usedOf s.V s.R k
theorem ent_getD (U:List (Pk × Int)) (k j:Pk):(mapGet PK (mapEnt PK U k 0) j).getD 0=(mapGet PK U j).getD 0:=by
  unfold mapEnt
  by_cases h:j=k
  · subst h; rw [mapGet_self pk_flat]; rfl
  · rw [mapGet_other pk_flat _ _ _ _ h]
theorem grants_in {n:Nat} {ws:List Nat} {T:List Pe} {V:List Pq} {R:Int} {q:Pq} (h:grants n ws T V R q=true):¬ outB n q.2.1 q.2.2.1 q.2.2.2.1 q.2.2.2.2.1:=by
  intro ho
  unfold grants askP at h
  rw [if_pos ho] at h
  simp at h
theorem pinv_step {n:Nat} {ws:List Nat} {T:List Pe} {i:Nat} {s:Pst} (h:PInv i s) (q:Pq):PInv (i+1) (pstep n ws T s q):=by
  obtain ⟨h1,h2,h3,h4,h5,h6⟩:=h
  unfold pstep
  split
  · refine ⟨by simp [h1],by simp; omega,by simp; omega,h4,fun t ht=>by have:=h5 t ht; show t.1≤s.R+1; omega,fun k=>?_⟩
    show (mapGet PK [] k).getD 0=usedOf s.V (s.R+1) k
    unfold usedOf
    rw [used_new s.R k s.V 0 h5]; rfl
  · split
    · cases hg:grants n ws T s.V s.R q with
      | true =>
        have hin:=grants_in hg
        unfold outB at hin
        have hV:∀ t∈s.V++[(s.R,q.2)],t∈s.V∨t=(s.R,q.2):=fun t ht=>by
          rcases List.mem_append.1 ht with h | h
          · exact .inl h
          · exact .inr (List.mem_singleton.1 h)
        refine ⟨by simp [h1],by simp; omega,by simp; omega,fun t ht=>?_,fun t ht=>?_,fun k=>?_⟩
        · rcases hV t ht with h | rfl
          · exact h4 t h
          · show 0≤q.2.2.2.2.1∧q.2.2.2.2.1≤1000; omega
        · rcases hV t ht with h | rfl
          · exact h5 t h
          · exact Int.le_refl _
        · show (mapGet PK (mapSet PK (mapEnt PK s.U (qKey q) 0) (qKey q) (usedOf s.V s.R (qKey q)+q.2.2.2.2.1)) k).getD 0=usedOf (s.V++[(s.R,q.2)]) s.R k
          rw [used_snoc]
          unfold addU
          by_cases hk:k=qKey q
          · subst hk
            rw [mapGet_self pk_flat,if_pos ⟨rfl,rfl⟩]; rfl
          · rw [mapGet_other pk_flat _ _ _ _ hk,ent_getD,h6,if_neg (fun hh=>hk hh.2.symm)]
      | false=>exact ⟨by simp [h1],by simp; omega,by simp; omega,h4,h5,h6⟩
    · exact ⟨by simp [h1],by simp; omega,by simp; omega,h4,h5,h6⟩
theorem pinv {n:Nat} {ws:List Nat} {T:List Pe} {S:List Pq}:∀ i,i≤S.length→PInv i (psts n ws T S i)
  | 0,_=>⟨rfl,Nat.le_refl _,⟨Int.le_refl _,Int.le_refl _⟩,fun t ht=>(nomatch ht),fun t ht=>(nomatch ht),fun k=>rfl⟩
  | i+1,h=>by
    rw [psts_succ (show i < S.length by omega)]
    exact pinv_step (pinv i (by omega)) _
end

end Go.Proofs.Tryd
