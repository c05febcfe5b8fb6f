/- Lemmas on functions of the program, by name. -/
import Derived.Test.YteeaadgpkammdaaDoorD9Funs
import Derived.Test.YteeaadgpkammdaaDoorAbsSums
namespace Go.Proofs.Tryd
section
open Go Go.Abs

theorem tz_table:∀ r:Fin 64,getI lit0 (shrI .u64 (IntKind.u64.wrap (((2 ^ r.val:Nat):Int)*(285870213051353865:Int))) (58:Int))=some (r.val:Int):=by decide +kernel
theorem tz_eq {r q:Nat} (h:2 ^ r*(2*q+1) < 2 ^ 64):math_bits_TrailingZeros64 (((2 ^ r*(2*q+1):Nat):Int),())=some ((r:Int),()):=by
  have hr:r < 64:=bit_lt h (by rw [odd_bit]; simp)
  have hp:0 < 2 ^ r*(2*q+1):=Nat.mul_pos (Nat.two_pow_pos r) (by omega)
  unfold math_bits_TrailingZeros64
  have e0:((((2 ^ r*(2*q+1):Nat):Int),()).1 == (0:Int))=false:=by
    simp only [beq_eq_false_iff_ne]; omega
  have e1:IntKind.u64.wrap (0 - ((2 ^ r*(2*q+1):Nat):Int))=((2 ^ 64 - 2 ^ r*(2*q+1):Nat):Int):=by
    unfold IntKind.wrap; simp only [IntKind.bits,IntKind.signed]
    generalize 2 ^ r*(2*q+1)=v at *
    simp; omega
  simp only [e0,cond_false]
  rw [e1,and_u64 h (by omega),low_one h,getS_eq,tab0_eq,tz_table ⟨r,hr⟩]
  simp only [Option.bind_some]
  rw [wrap64 (by omega) (by omega)]
theorem sets_One_eq {i:Nat} (h:i < 32):sets_One ((i:Int),())=some (((2 ^ i:Nat):Int),()):=by
  unfold sets_One
  have:decide ((i:Int) < 0)=false:=decide_eq_false (by omega)
  simp only [this,cond_false]
  rw [shl_u32 h]
theorem sets_All_eq {n:Nat} (h:n≤32):sets_All ((n:Int),())=some (((2 ^ n - 1:Nat):Int),()):=by
  unfold sets_All
  have:decide ((n:Int) < 0)=false:=decide_eq_false (by omega)
  simp only [this,cond_false]
  rw [all_u32 h]
theorem sets_Has_eq {a:Nat} (i:Nat) (h:a < 2 ^ 32):sets_Has_uint32 ((a:Int),(i:Int),())=some (a.testBit i,()):=by
  unfold sets_Has_uint32
  have:decide ((i:Int) < 0)=false:=decide_eq_false (by omega)
  simp only [this,cond_false]
  rw [has_u32 i h]
theorem ref_Bit_eq {a:Nat} {i:Nat} (h:a < 2 ^ 32) (hi:i < 2 ^ 64):ref_Bit ((a:Int),(i:Int),())=some (a.testBit i,()):=by
  unfold ref_Bit
  have:decide (IntKind.u64.wrap (i:Int) < 0)=false:=by rw [wrap_u64 hi]; exact decide_eq_false (by omega)
  simp only [this,cond_false]
  rw [wrap_u64 hi,bit_u32 i h]
def Fit (ws:List Nat):Prop:=∀ w∈ws,w < 2 ^ 32
def below (ws:List Nat) (i j:Nat):Bool:=(ws.getD i 0).testBit j
theorem below_eq {ws:List Nat} {i j w:Nat} (h:ws[i]? = some w):below ws i j=w.testBit j:=by
  unfold below; rw [List.getD_eq_getElem?_getD,h]; rfl
theorem ref_Below_eq {ws:List Nat} (hf:Fit ws) {N:Int} {i j:Nat} (hi:i < ws.length) (hj:j < 2 ^ 64):ref_Below ((N,cl ws,()),(i:Int),(j:Int),())=some (below ws i j,()):=by
  unfold ref_Below
  have e:ws[i]? = some ws[i]:=List.getElem?_eq_getElem hi
  simp only [cl_getI,e,Option.map_some,Option.bind_some]
  rw [ref_Bit_eq (hf _ (List.getElem_mem hi)) hj,below_eq e]
  rfl
theorem wf_u32 {x:Int} (h:(Lit.int .u32 x).wf=true):0≤x∧x < 4294967296:=by
  simp [Lit.wf,IntKind.min,IntKind.max,IntKind.bits,IntKind.signed] at h
  omega
theorem words_of {l:List Int} (h:Wf (.list (.int .u32)) l):∃ ws,l=cl ws∧Fit ws:=by
  obtain ⟨ws,rfl⟩:=cl_of (l:=l) fun v hv=>(wf_u32 (h.2 v hv)).1
  refine ⟨ws,rfl,fun w hw=>?_⟩
  have:=(wf_u32 (h.2 (w:Int) (List.mem_map.2 ⟨w,hw,rfl⟩))).2
  omega
theorem fit_tab {n:Nat} {g:Nat→Nat} (h:∀ i,i < n→g i < 2 ^ 32):Fit (tab n g):=fun w hw=>by
  obtain ⟨i,hi,rfl⟩:=mem_tab.1 hw
  exact h i hi
end

section
open Go Go.Abs

structure IsOrder (n:Nat) (ws:List Nat):Prop where
  refl:∀ i,i < n→below ws i i=true
  anti:∀ i j,i < n→j < n→i≠j→below ws i j=true→below ws j i=false
  trans:∀ i j k,i < n→j < n→k < n→below ws i j=true→below ws j k=true→below ws i k=true
def Inside (n:Nat) (ws:List Nat):Prop:=∀ w∈ws,∀ i,n≤i→w.testBit i=false
open Classical in
noncomputable def ordc (N:Int) (ws:List Nat):Int :=
  if N < 0 then 1 else if N > 16 then 1 else if (ws.length:Int)≠N then 2 else if ¬ Inside N.toNat ws then 2 else if IsOrder N.toNat ws then 0 else 3
theorem below_lt {n:Nat} {ws:List Nat} {i j:Nat} (hin:Inside n ws) (hi:i < ws.length) (h:below ws i j=true):j < n:=by
  rw [below_eq (List.getElem?_eq_getElem hi)] at h
  by_cases hj:j < n
  · exact hj
  · rw [hin _ (List.getElem_mem hi) j (by omega)] at h; cases h
theorem all_bit (n i:Nat):(2 ^ n - 1).testBit i=decide (i < n):=Nat.testBit_two_pow_sub_one n i
theorem dif_all {n w:Nat}:dif w (2 ^ n - 1)=0↔∀ i,n≤i→w.testBit i=false:=by
  rw [dif_zero]
  constructor
  · intro h i hi
    cases hb:w.testBit i
    · rfl
    · have:=h i hb; rw [all_bit] at this; simp at this; omega
  · intro h i hb
    rw [all_bit]
    by_cases hi:i < n
    · simpa using hi
    · rw [h i (by omega)] at hb; cases hb
def badJ (ws:List Nat) (i w:Nat) (j:Nat):Bool:=below ws j i || !decide (dif (ws.getD j 0) w=0)
def badI (ws:List Nat) (i:Nat):Bool:=!below ws i i || (bitsL (dif (ws.getD i 0) (2 ^ i))).any (badJ ws i (ws.getD i 0))
theorem order_Check_l4_eq {N:Int} {ws:List Nat} (hf:Fit ws) {i w:Nat} (hi:i < 32) (hw:w < 2 ^ 32) (hlen:∀ j,w.testBit j=true→j < ws.length) (y:(Int × Unit) × Unit) (s:(Int × Unit) × Unit) :
    loopM (order_Check_l4 ((N,cl ws,()),()) ((i:Int),y) (w:Int)) (((dif w (2 ^ i):Nat):Int),s) =
      some (if (bitsL (dif w (2 ^ i))).any (badJ ws i w)=true then .inl ((3,()),()) else .inr (.inl (s.1,()))):=by
  have hd:dif w (2 ^ i) < 2 ^ 64:=Nat.lt_of_lt_of_le (dif_lt hw) (by decide)
  refine loopM_each (g:=fun r s=>some (if badJ ws i w r=true then .inr (.inl ((3,()),())) else .inl s)) (e:=fun s=>.inr (.inl (s.1,()))) hd (fun r q s h hb=>?_) (fun s=>?_) s _
    (eachM_any (badJ ws i w) _ _ _ fun r _=>rfl)
  · rw [dif_bit] at hb
    have hr:=hlen r (Bool.and_eq_true_iff.1 hb).1
    have hr64:r < 64:=bit_lt hd (by rw [dif_bit]; exact hb)
    have e:ws[r]? = some ws[r]:=List.getElem?_eq_getElem hr
    have hfr:=hf _ (List.getElem_mem hr)
    unfold order_Check_l4
    simp only [nz_eq,cond_true,tz_eq h,Option.bind_some,cl_getI,e,Option.map_some]
    rw [sets_Has_eq i hfr]
    simp only [Option.bind_some]
    rw [not_u32 hfr hw,clr_eq h,show (0:Int)=((0:Nat):Int) from rfl,cast_bne]
    have e2:badJ ws i w r=(ws[r].testBit i || !decide (dif ws[r] w=0)):=by
      unfold badJ; rw [below_eq e,List.getD_eq_getElem?_getD,e]; rfl
    rw [e2]
    cases ws[r].testBit i <;> cases decide (dif ws[r] w=0) <;> rfl
  · unfold order_Check_l4
    rfl
theorem order_Check_l5_eq {n:Nat} {ws:List Nat} (hf:Fit ws) (hl:ws.length=n) (hn:n≤16) (hin:Inside n ws) :
    loopM (order_Check_l5 (((n:Int),cl ws,()),())) (0,((0:Int),()),())=some (if (List.range n).any (badI ws)=true then .inl ((3,()),()) else .inr (.inl ((0,()),()))):=by
  refine loopM_any0 n _ (badI ws) _ _ (fun i hi=>?_) ?_
  · have hi':i < ws.length:=by omega
    have e:ws[i]? = some ws[i]:=List.getElem?_eq_getElem hi'
    have hfr:=hf _ (List.getElem_mem hi')
    unfold order_Check_l5
    have e0:decide ((i:Int) < ((cl ws).length:Int))=true:=by rw [cl_length]; exact decide_eq_true (by omega)
    simp only [e0,cond_true,cl_getI,e,Option.map_some,Option.bind_some]
    rw [sets_Has_eq i hfr,sets_One_eq (by omega)]
    simp only [Option.bind_some]
    have hp:2 ^ i < 2 ^ 32:=Nat.pow_lt_pow_right (by decide) (by omega)
    have hd:dif ws[i] (2 ^ i) < 2 ^ 64:=Nat.lt_of_lt_of_le (dif_lt hfr) (by decide)
    rw [not_u32 hfr hp,wrap_u64 hd,order_Check_l4_eq hf (by omega) hfr (fun j hj=>by
      have:=below_lt hin hi' (by rw [below_eq e]; exact hj)
      omega)]
    have e2:badI ws i=(!ws[i].testBit i || (bitsL (dif ws[i] (2 ^ i))).any (badJ ws i ws[i])):=by
      unfold badI; rw [below_eq e,List.getD_eq_getElem?_getD,e]; rfl
    rw [e2,wrap64 (by omega) (by omega)]
    cases ws[i].testBit i <;> cases (bitsL (dif ws[i] (2 ^ i))).any (badJ ws i ws[i]) <;> rfl
  · unfold order_Check_l5
    have e0:decide ((n:Int) < ((cl ws).length:Int))=false:=by rw [cl_length]; exact decide_eq_false (by omega)
    simp only [e0,cond_false]
theorem badI_iff {n:Nat} {ws:List Nat} (hf:Fit ws) (hl:ws.length=n) (hn:n≤16) (hin:Inside n ws):(List.range n).any (badI ws)=false↔IsOrder n ws:=by
  have hget:∀ i (hi:i < n),∃ w,ws[i]? = some w∧w < 2 ^ 32:=fun i hi=>⟨ws[i],List.getElem?_eq_getElem (by omega),hf _ (List.getElem_mem _)⟩
  rw [List.any_eq_false]
  constructor
  · intro h
    have h1:∀ i,i < n→below ws i i=true∧∀ j,j≠i→below ws i j=true→below ws j i=false∧∀ k,below ws j k=true→below ws i k=true:=by
      intro i hi
      have hb:=h i (List.mem_range.2 hi)
      obtain ⟨w,hw,hw32⟩:=hget i hi
      have hgd:ws.getD i 0=w:=by rw [List.getD_eq_getElem?_getD,hw]; rfl
      unfold badI at hb
      rw [hgd] at hb
      simp only [Bool.or_eq_true,not_or,Bool.not_eq_true,Bool.not_eq_false'] at hb
      refine ⟨hb.1,fun j hji hij=>?_⟩
      have hj:j∈bitsL (dif w (2 ^ i)):=(mem_bitsL (Nat.lt_of_lt_of_le (dif_lt hw32) (by decide))).2 (by
        rw [dif_bit,←below_eq hw,hij,Nat.testBit_two_pow]; simp [Ne.symm hji])
      have hb2:=List.any_eq_false.1 hb.2 j hj
      unfold badJ at hb2
      simp only [Bool.or_eq_true,not_or,Bool.not_eq_true,Bool.not_eq_false',decide_eq_true_eq] at hb2
      refine ⟨hb2.1,fun k hk=>?_⟩
      have:=dif_zero.1 hb2.2 k hk
      rw [below_eq hw]; exact this
    refine ⟨fun i hi=>(h1 i hi).1,fun i j hi _ hne hij=>((h1 i hi).2 j (Ne.symm hne) hij).1,fun i j k hi _ _ hij hjk=>?_⟩
    by_cases e:j=i
    · subst e; exact hjk
    · exact ((h1 i hi).2 j e hij).2 k hjk
  · intro o i hi
    have hi:=List.mem_range.1 hi
    obtain ⟨w,hw,hw32⟩:=hget i hi
    have hgd:ws.getD i 0=w:=by rw [List.getD_eq_getElem?_getD,hw]; rfl
    unfold badI
    rw [hgd,o.refl i hi]
    simp only [Bool.not_true,Bool.false_or,Bool.not_eq_true]
    refine List.any_eq_false.2 fun j hj=>?_
    have hb:=(mem_bitsL (Nat.lt_of_lt_of_le (dif_lt hw32) (by decide))).1 hj
    rw [dif_bit,Nat.testBit_two_pow,←below_eq hw] at hb
    have hb2:=Bool.and_eq_true_iff.1 hb
    have hji:i≠j:=by intro e; subst e; simp at hb2
    have hjn:=below_lt hin (by omega) hb2.1
    unfold badJ
    rw [o.anti i j hi hjn hji hb2.1]
    simp only [Bool.false_or,Bool.not_eq_true,Bool.not_eq_false',decide_eq_true_eq]
    refine dif_zero.2 fun k hk=>?_
    have hjk:below ws j k=true:=hk
    rw [←below_eq hw]
    exact o.trans i j k hi hjn (below_lt hin (by omega) hjk) hb2.1 hjk
end

section
open Go Go.Abs

theorem order_Check_l1_eq {n:Nat} {ws:List Nat} (hf:Fit ws) (hl:ws.length=n) (hn:n≤16) :
    loopM (order_Check_l1 (((n:Int),cl ws,()),())) (0,())=some (((List.range n).findSome? fun i=>if dif (ws.getD i 0) (2 ^ n - 1)=0 then none else some (.inl ((i:Int),()))).getD (.inr (.inl ()))):=by
  refine loopM_find n _ _ _ (fun i hi=>?_) ?_
  · have hi':i < ws.length:=by omega
    have e:ws[i]? = some ws[i]:=List.getElem?_eq_getElem hi'
    have hfr:=hf _ (List.getElem_mem hi')
    have hgd:ws.getD i 0=ws[i]:=by rw [List.getD_eq_getElem?_getD,e]; rfl
    unfold order_Check_l1
    have e0:decide ((i:Int) < ((cl ws).length:Int))=true:=by rw [cl_length]; exact decide_eq_true (by omega)
    have hp:2 ^ n - 1 < 2 ^ 32:=by have:2 ^ n < 2 ^ 32:=Nat.pow_lt_pow_right (by decide) (by omega); omega
    simp only [e0,cond_true,cl_getI,e,Option.map_some,Option.bind_some,sets_All_eq (show n≤32 by omega),hgd]
    rw [not_u32 hfr hp,show (0:Int)=((0:Nat):Int) from rfl,cast_bne,wrap64 (by omega) (by omega)]
    by_cases hz:dif ws[i] (2 ^ n - 1)=0 <;> simp [hz]
  · unfold order_Check_l1
    have e0:decide ((n:Int) < ((cl ws).length:Int))=false:=by rw [cl_length]; exact decide_eq_false (by omega)
    simp only [e0,cond_false]
theorem findIdx_cases {n:Nat} {ws:List Nat} (hl:ws.length=n) {β:Type} (b:Nat→β) :
    (¬ Inside n ws∧∃ i,i < n∧((List.range n).findSome? fun i=>if dif (ws.getD i 0) (2 ^ n - 1)=0 then none else some (b i))=some (b i)) ∨
    (Inside n ws∧((List.range n).findSome? fun i=>if dif (ws.getD i 0) (2 ^ n - 1)=0 then none else some (b i))=none):=by
  cases h:((List.range n).findSome? fun i=>if dif (ws.getD i 0) (2 ^ n - 1)=0 then none else some (b i)) with
  | some z =>
    left
    obtain ⟨i,hi,hz⟩:=List.exists_of_findSome?_eq_some h
    have hi:=List.mem_range.1 hi
    have e:ws[i]? = some ws[i]:=List.getElem?_eq_getElem (by omega)
    have hgd:ws.getD i 0=ws[i]:=by rw [List.getD_eq_getElem?_getD,e]; rfl
    by_cases hd:dif (ws.getD i 0) (2 ^ n - 1)=0
    · rw [if_pos hd] at hz; cases hz
    · rw [if_neg hd] at hz
      exact ⟨fun hin=>hd (by rw [hgd]; exact dif_all.2 (hin _ (List.getElem_mem _))),i,hi,hz.symm⟩
  | none =>
    right
    refine ⟨fun w hw=>?_,rfl⟩
    obtain ⟨i,hi,rfl⟩:=List.getElem_of_mem hw
    have hz:=List.findSome?_eq_none_iff.1 h i (List.mem_range.2 (by omega))
    have e:ws[i]? = some ws[i]:=List.getElem?_eq_getElem hi
    have hgd:ws.getD i 0=ws[i]:=by rw [List.getD_eq_getElem?_getD,e]; rfl
    rw [hgd] at hz
    by_cases hd:dif ws[i] (2 ^ n - 1)=0
    · exact dif_all.1 hd
    · rw [if_neg hd] at hz; cases hz
theorem order_Check_eq {N:Int} {ws:List Nat} (hf:Fit ws):order_Check ((N,cl ws,()),())=some (ordc N ws,()):=by
  unfold order_Check ordc
  by_cases h1:N < 0
  · simp only [decide_eq_true h1,cond_true,if_pos h1]
  by_cases h2:N > 16
  · simp only [decide_eq_false h1,cond_false,decide_eq_true h2,cond_true,if_neg h1,if_pos h2]
  simp only [decide_eq_false h1,cond_false,decide_eq_false h2,if_neg h1,if_neg h2,cl_length,cond_bne]
  by_cases h3:(ws.length:Int)=N
  · obtain ⟨n,rfl⟩:=Int.eq_ofNat_of_zero_le (show 0≤N by omega)
    have hl:ws.length=n:=by omega
    rw [if_pos h3,if_neg (show ¬ ¬ (ws.length:Int)=(n:Int) from fun h=>h h3),order_Check_l1_eq hf hl (by omega)]
    rcases findIdx_cases hl (β:=(Int × Unit) ⊕ Unit ⊕ Empty) (fun i=>.inl ((i:Int),())) with ⟨hin,i,hi,hz⟩ | ⟨hin,hz⟩
    · rw [hz]
      have e0:decide ((i:Int) ≥ 0)=true:=decide_eq_true (by omega)
      simp only [Option.getD_some,Option.bind_some,Sum.elim_inl,e0,cond_true]
      rw [if_pos (by simpa using hin)]
    · rw [hz]
      have e0:decide ((-1:Int) ≥ 0)=false:=by decide
      simp only [Option.getD_none,Option.bind_some,Sum.elim_inl,Sum.elim_inr,e0,cond_false]
      rw [order_Check_l5_eq hf hl (by omega) hin,if_neg (show ¬ ¬ Inside (n:Int).toNat ws from fun h=>h hin)]
      have hb:=badI_iff hf hl (by omega) hin
      by_cases hany:(List.range n).any (badI ws)=true
      · have:¬ IsOrder (n:Int).toNat ws:=fun o=>by rw [hb.2 o] at hany; cases hany
        rw [if_pos hany,if_neg this]; rfl
      · have:IsOrder (n:Int).toNat ws:=hb.1 (by simpa using hany)
        rw [if_neg hany,if_pos this]; rfl
  · rw [if_neg h3,if_pos h3]
theorem any_range'_iff {a k:Nat} {bad:Nat→Bool}:(List.range' a k).any bad=true↔∃ i,a≤i∧i < a+k∧bad i=true:=by
  rw [List.any_eq_true]
  constructor
  · rintro ⟨i,hi,hb⟩
    rw [List.mem_range'_1] at hi
    exact ⟨i,hi.1,hi.2,hb⟩
  · rintro ⟨i,h1,h2,hb⟩
    exact ⟨i,List.mem_range'_1.2 ⟨h1,h2⟩,hb⟩
theorem ref_Outside_eq {w n:Nat} (hw:w < 2 ^ 32) (hn:n≤32):ref_Outside ((w:Int),(n:Int),())=some ((List.range' n (32 - n)).any (w.testBit ·),()):=by
  unfold ref_Outside
  rw [loopM_any n 32 () (w.testBit ·) (.inl (true,())) (.inr (.inl ())) hn (fun i _ hi=>?_) ?_]
  · cases (List.range' n (32 - n)).any (w.testBit ·) <;> rfl
  · unfold ref_Outside_l1
    rfl
  · unfold ref_Outside_l1
    have e0:decide ((i:Int) < 32)=true:=decide_eq_true (by omega)
    simp only [e0,cond_true]
    rw [ref_Bit_eq hw (by omega),wrap64 (by omega) (by omega)]
    cases w.testBit i <;> rfl
theorem outside_iff {w n:Nat} (hw:w < 2 ^ 32):(List.range' n (32 - n)).any (w.testBit ·)=false↔∀ i,n≤i→w.testBit i=false:=by
  rw [←Bool.not_eq_true,any_range'_iff]
  constructor
  · intro h i hi
    cases hb:w.testBit i
    · rfl
    · exact absurd ⟨i,hi,by have:=bit_lt hw hb; omega,hb⟩ h
  · rintro h ⟨i,h1,_,h3⟩
    rw [h i h1] at h3; cases h3
def badK (ws:List Nat) (i j k:Nat):Bool:=below ws i j && (below ws j k && !below ws i k)
def badIJ (n:Nat) (ws:List Nat) (i j:Nat):Bool:=(if i=j then !below ws i i else below ws i j && below ws j i) || (List.range n).any (badK ws i j)
theorem ref_l2_eq {n:Nat} {ws:List Nat} (hf:Fit ws) (hl:ws.length=n) (hn:n≤16) {i j:Nat} (hi:i < n) (hj:j < n) :
    loopM (ref_OrderCheck_l2 (((n:Int),cl ws,()),()) ((i:Int),()) ((j:Int),())) (0,())=some (if (List.range n).any (badK ws i j)=true then .inl (3,()) else .inr (.inl ())):=by
  refine loopM_any0 n _ _ _ _ (fun k hk=>?_) ?_
  · unfold ref_OrderCheck_l2
    have e0:decide ((k:Int) < (n:Int))=true:=decide_eq_true (by omega)
    simp only [e0,cond_true]
    rw [ref_Below_eq hf (by omega) (by omega),ref_Below_eq hf (by omega) (by omega),ref_Below_eq hf (by omega) (by omega),wrap64 (by omega) (by omega)]
    unfold badK
    cases below ws i j <;> cases below ws j k <;> cases below ws i k <;> rfl
  · unfold ref_OrderCheck_l2
    have e0:decide ((n:Int) < (n:Int))=false:=decide_eq_false (by omega)
    simp only [e0,cond_false]
theorem ref_l3_same:ref_OrderCheck_l3=ref_OrderCheck_l2:=rfl
theorem ref_l4_same:ref_OrderCheck_l4=ref_OrderCheck_l2:=rfl
theorem ref_l5_same:ref_OrderCheck_l5=ref_OrderCheck_l2:=rfl
theorem ref_l6_same:ref_OrderCheck_l6=ref_OrderCheck_l2:=rfl
theorem ref_l7_same:ref_OrderCheck_l7=ref_OrderCheck_l2:=rfl
theorem ref_l8_eq {n:Nat} {ws:List Nat} (hf:Fit ws) (hl:ws.length=n) (hn:n≤16) {i:Nat} (hi:i < n) :
    loopM (ref_OrderCheck_l8 (((n:Int),cl ws,()),()) ((i:Int),())) (0,())=some (if (List.range n).any (badIJ n ws i)=true then .inl (3,()) else .inr (.inl ())):=by
  refine loopM_any0 n _ _ _ _ (fun j hj=>?_) ?_
  · unfold ref_OrderCheck_l8
    rw [ref_l3_same,ref_l4_same,ref_l5_same,ref_l6_same,ref_l7_same]
    have e0:decide ((j:Int) < (n:Int))=true:=decide_eq_true (by omega)
    simp only [e0,cond_true]
    rw [ref_l2_eq hf hl hn hi hj,ref_Below_eq hf (by omega) (by omega),ref_Below_eq hf (by omega) (by omega),ref_Below_eq hf (by omega) (by omega),wrap64 (by omega) (by omega),cond_beq,cond_bne]
    simp only [Option.bind_some]
    unfold badIJ
    by_cases hij:i=j
    · subst hij
      simp only [if_true]
      cases below ws i i <;> cases (List.range n).any (badK ws i i) <;> rfl
    · have:¬ (i:Int)=(j:Int):=by omega
      simp only [this,hij,if_false]
      cases below ws i j <;> cases below ws j i <;> cases (List.range n).any (badK ws i j) <;> rfl
  · unfold ref_OrderCheck_l8
    have e0:decide ((n:Int) < (n:Int))=false:=decide_eq_false (by omega)
    simp only [e0,cond_false]
theorem ref_l9_eq {n:Nat} {ws:List Nat} (hf:Fit ws) (hl:ws.length=n) (hn:n≤16) :
    loopM (ref_OrderCheck_l9 (((n:Int),cl ws,()),())) (0,())=some (if (List.range n).any (fun i=>(List.range n).any (badIJ n ws i))=true then .inl (3,()) else .inr (.inl ())):=by
  refine loopM_any0 n _ _ _ _ (fun i hi=>?_) ?_
  · unfold ref_OrderCheck_l9
    have e0:decide ((i:Int) < (n:Int))=true:=decide_eq_true (by omega)
    simp only [e0,cond_true]
    rw [ref_l8_eq hf hl hn hi,wrap64 (by omega) (by omega)]
    cases (List.range n).any (badIJ n ws i) <;> rfl
  · unfold ref_OrderCheck_l9
    have e0:decide ((n:Int) < (n:Int))=false:=decide_eq_false (by omega)
    simp only [e0,cond_false]
theorem badIJ_iff {n:Nat} {ws:List Nat}:(List.range n).any (fun i=>(List.range n).any (badIJ n ws i))=false↔IsOrder n ws:=by
  have hb:∀ i j,badIJ n ws i j=false↔(if i=j then below ws i i=true else (below ws i j=true→below ws j i=false))∧∀ k,k < n→below ws i j=true→below ws j k=true→below ws i k=true:=by
    intro i j
    unfold badIJ
    rw [Bool.or_eq_false_iff,List.any_eq_false]
    refine and_congr ?_ ?_
    · by_cases h:i=j
      · simp [h]
      · simp only [h,if_false]; cases below ws i j <;> cases below ws j i <;> simp
    · constructor
      · intro h k hk h1 h2
        have:=h k (List.mem_range.2 hk)
        unfold badK at this
        rw [h1,h2] at this
        simpa using this
      · intro h k hk
        unfold badK
        have:=h k (List.mem_range.1 hk)
        cases h1:below ws i j <;> cases h2:below ws j k <;> simp_all
  rw [List.any_eq_false]
  constructor
  · intro h
    have h':∀ i j,i < n→j < n→badIJ n ws i j=false:=fun i j hi hj=>by
      have:=List.any_eq_false.1 (by simpa using h i (List.mem_range.2 hi)) j (List.mem_range.2 hj)
      simpa using this
    refine ⟨fun i hi=>?_,fun i j hi hj hij h1=>?_,fun i j k hi hj hk=>((hb i j).1 (h' i j hi hj)).2 k hk⟩
    · simpa using ((hb i i).1 (h' i i hi hi)).1
    · have:=((hb i j).1 (h' i j hi hj)).1
      rw [if_neg hij] at this
      exact this h1
  · intro o i hi
    have hi:=List.mem_range.1 hi
    rw [Bool.not_eq_true,List.any_eq_false]
    intro j hj
    have hj:=List.mem_range.1 hj
    rw [Bool.not_eq_true,hb]
    refine ⟨?_,fun k hk=>o.trans i j k hi hj hk⟩
    by_cases h:i=j
    · subst h; simpa using o.refl i hi
    · rw [if_neg h]; exact o.anti i j hi hj h
theorem ref_l1_eq {n:Nat} {ws:List Nat} (hf:Fit ws) (hl:ws.length=n) (hn:n≤16) :
    loopM (ref_OrderCheck_l1 (((n:Int),cl ws,()),())) (0,())=some (if (List.range n).any (fun i=>(List.range' n (32 - n)).any ((ws.getD i 0).testBit ·))=true then .inl (2,()) else .inr (.inl ())):=by
  refine loopM_any0 n _ _ _ _ (fun i hi=>?_) ?_
  · unfold ref_OrderCheck_l1
    have e:ws[i]? = some ws[i]:=List.getElem?_eq_getElem (by omega)
    have hgd:ws.getD i 0=ws[i]:=by rw [List.getD_eq_getElem?_getD,e]; rfl
    have e0:decide ((i:Int) < (n:Int))=true:=decide_eq_true (by omega)
    simp only [e0,cond_true,cl_getI,e,Option.map_some,Option.bind_some,hgd]
    rw [ref_Outside_eq (hf _ (List.getElem_mem _)) (by omega),wrap64 (by omega) (by omega)]
    simp only [Option.bind_some]
    cases (List.range' n (32 - n)).any (ws[i].testBit ·) <;> rfl
  · unfold ref_OrderCheck_l1
    have e0:decide ((n:Int) < (n:Int))=false:=decide_eq_false (by omega)
    simp only [e0,cond_false]
theorem inside_any {n:Nat} {ws:List Nat} (hf:Fit ws) (hl:ws.length=n):(List.range n).any (fun i=>(List.range' n (32 - n)).any ((ws.getD i 0).testBit ·))=false↔Inside n ws:=by
  rw [List.any_eq_false]
  constructor
  · intro h w hw
    obtain ⟨i,hi,rfl⟩:=List.getElem_of_mem hw
    have e:ws[i]? = some ws[i]:=List.getElem?_eq_getElem hi
    have hgd:ws.getD i 0=ws[i]:=by rw [List.getD_eq_getElem?_getD,e]; rfl
    have:=h i (List.mem_range.2 (by omega))
    rw [Bool.not_eq_true,hgd] at this
    exact (outside_iff (hf _ (List.getElem_mem _))).1 this
  · intro hin i hi
    have hi:=List.mem_range.1 hi
    have e:ws[i]? = some ws[i]:=List.getElem?_eq_getElem (by omega)
    have hgd:ws.getD i 0=ws[i]:=by rw [List.getD_eq_getElem?_getD,e]; rfl
    rw [Bool.not_eq_true,hgd]
    exact (outside_iff (hf _ (List.getElem_mem _))).2 (hin _ (List.getElem_mem _))
theorem ref_OrderCheck_eq {N:Int} {ws:List Nat} (hf:Fit ws):ref_OrderCheck ((N,cl ws,()),())=some (ordc N ws,()):=by
  unfold ref_OrderCheck ordc
  by_cases h1:N < 0
  · simp only [decide_eq_true h1,cond_true,if_pos h1]
  by_cases h2:N > 16
  · simp only [decide_eq_false h1,cond_false,decide_eq_true h2,cond_true,if_neg h1,if_pos h2]
  simp only [decide_eq_false h1,cond_false,decide_eq_false h2,if_neg h1,if_neg h2,cl_length,cond_bne]
  by_cases h3:(ws.length:Int)=N
  · obtain ⟨n,rfl⟩:=Int.eq_ofNat_of_zero_le (show 0≤N by omega)
    have hl:ws.length=n:=by omega
    rw [if_pos h3,if_neg (show ¬ ¬ (ws.length:Int)=(n:Int) from fun h=>h h3),ref_l1_eq hf hl (by omega),ref_l9_eq hf hl (by omega)]
    have hi:=inside_any hf hl
    have hb:=badIJ_iff (n:=n) (ws:=ws)
    by_cases hin:Inside n ws
    · rw [hi.2 hin,if_neg (show ¬ ¬ Inside (n:Int).toNat ws by simpa using hin)]
      by_cases ho:IsOrder n ws
      · rw [hb.2 ho,if_pos (show IsOrder (n:Int).toNat ws from ho)]; rfl
      · have:(List.range n).any (fun i=>(List.range n).any (badIJ n ws i))=true:=by
          cases h:(List.range n).any (fun i=>(List.range n).any (badIJ n ws i))
          · exact absurd (hb.1 h) ho
          · rfl
        rw [this,if_neg (show ¬ IsOrder (n:Int).toNat ws from ho)]; rfl
    · have:(List.range n).any (fun i=>(List.range' n (32 - n)).any ((ws.getD i 0).testBit ·))=true:=by
        cases h:(List.range n).any (fun i=>(List.range' n (32 - n)).any ((ws.getD i 0).testBit ·))
        · exact absurd (hi.1 h) hin
        · rfl
      rw [this,if_pos (show ¬ Inside (n:Int).toNat ws from hin)]; rfl
  · rw [if_neg h3,if_pos h3]
theorem ordc_zero {N:Int} {ws:List Nat} (h:ordc N ws=0):0≤N∧N≤16∧(ws.length:Int)=N∧Inside N.toNat ws∧IsOrder N.toNat ws:=by
  unfold ordc at h
  by_cases h1:N < 0
  · rw [if_pos h1] at h; cases h
  rw [if_neg h1] at h
  by_cases h2:N > 16
  · rw [if_pos h2] at h; cases h
  rw [if_neg h2] at h
  by_cases h3:(ws.length:Int)=N
  · rw [if_neg (fun k=>k h3)] at h
    by_cases h4:Inside N.toNat ws
    · rw [if_neg (fun k=>k h4)] at h
      by_cases h5:IsOrder N.toNat ws
      · exact ⟨by omega,by omega,h3,h4,h5⟩
      · rw [if_neg h5] at h; cases h
    · rw [if_pos h4] at h; cases h
  · rw [if_pos h3] at h; cases h
end

section
open Go Go.Abs

def downW (n:Nat) (ws:List Nat):List Nat:=tab n fun j=>wordOf n fun i=>below ws i j
theorem order_Down_l1_eq {n:Nat} (hn:n≤16) {w i:Nat} (hw:w < 2 ^ 32) (hin:∀ j,w.testBit j=true→j < n) (hi:i < 32) (y:List Int × Unit) (g:Nat→Nat) (hg:∀ j,j < n→g j < 2 ^ 32) :
    loopM (order_Down_l1 ((i:Int),y)) ((w:Int),cl (tab n g),())=some (.inl (cl (tab n fun j=>if w.testBit j=true then g j ||| 2 ^ i else g j),())):=by
  have hw64:w < 2 ^ 64:=Nat.lt_of_lt_of_le hw (by decide)
  have hp:2 ^ i < 2 ^ 32:=Nat.pow_lt_pow_right (by decide) hi
  have hsim:=eachM_sim (e:=fun s=>(.inl (s.1,()):(List Int × Unit) ⊕ Empty)) (g:=fun r (s:List Int × Unit)=>(s.1[r]?).map fun v=>(.inl (s.1.set r (bitsI .or .u32 v ((2 ^ i:Nat):Int)),()):(List Int × Unit) ⊕ ((List Int × Unit) ⊕ Empty)))
    (fun g:Nat→Nat=>(cl (tab n g),())) (fun g r=>fun j=>if j=r then g j ||| 2 ^ i else g j) (fun g=>∀ j,j < n→g j < 2 ^ 32) (bitsL w) g hg (fun r hr g hg=>by
      have hr:=hin r ((mem_bitsL hw64).1 hr)
      refine ⟨?_,fun j hj=>?_⟩
      · simp only [cl_get,tab_get g hr,Option.map_some]
        rw [or_u32 (hg r hr) hp,cl_set,tab_set]
        have:tab n (fun j=>if j=r then g r ||| 2 ^ i else g j)=tab n (fun j=>if j=r then g j ||| 2 ^ i else g j):=tab_congr fun j _=>by
          by_cases h:j=r
          · subst h; rfl
          · simp [h]
        rw [this]
      · dsimp only
        split
        · exact Nat.or_lt_two_pow (hg j hj) hp
        · exact hg j hj)
  have hloop:=loopM_each (f:=order_Down_l1 ((i:Int),y)) hw64 (fun r q s h hb=>?_) (fun s=>?_) _ _ hsim.1
  · rw [hloop]
    have:tab n (List.foldl (fun g r j=>if j=r then g j ||| 2 ^ i else g j) g (bitsL w))=tab n fun j=>if w.testBit j=true then g j ||| 2 ^ i else g j:=tab_congr fun j _=>by
      rw [foldl_or_at]
      simp only [mem_bitsL hw64]
    rw [←this]
  · have hr:=hin r hb
    unfold order_Down_l1
    simp only [nz_eq,cond_true,tz_eq h,Option.bind_some,sets_One_eq hi,inB_nat,clr_eq h,Int.toNat_natCast]
    cases hv:s.1[r]? with
    | none =>
      have:decide (r < s.1.length)=false:=by
        rw [List.getElem?_eq_none_iff] at hv; exact decide_eq_false (by omega)
      simp [this]
    | some v =>
      have:decide (r < s.1.length)=true:=by
        have:=(List.getElem?_eq_some_iff.1 hv).1; exact decide_eq_true this
      simp [this]
  · unfold order_Down_l1
    rfl
theorem order_Down_eq {n:Nat} {ws:List Nat} (hf:Fit ws) (hl:ws.length=n) (hn:n≤16) (hin:Inside n ws):order_Down (((n:Int),cl ws,()),())=some (cl (downW n ws),()):=by
  have hloop:loopM (order_Down_l2 (((n:Int),cl ws,()),())) (0,(fun k=>(cl (tab n fun j=>wordOf k fun i=>below ws i j),())) 0)=some (.inl (cl (downW n ws),())):=by
    refine loopM_up n (fun k=>(cl (tab n fun j=>wordOf k fun i=>below ws i j),())) _ (fun i hi=>?_) ?_
    · have hi':i < ws.length:=by omega
      have e:ws[i]? = some ws[i]:=List.getElem?_eq_getElem hi'
      have hfr:=hf _ (List.getElem_mem hi')
      have e0:decide ((i:Int) < ((cl ws).length:Int))=true:=by rw [cl_length]; exact decide_eq_true (by omega)
      unfold order_Down_l2
      simp only [e0,cond_true,cl_getI,e,Option.map_some,Option.bind_some]
      rw [wrap_u64 (Nat.lt_of_lt_of_le hfr (by decide)),order_Down_l1_eq hn hfr (fun j hj=>below_lt hin hi' (by rw [below_eq e]; exact hj)) (by omega) _ _ (fun j _=>wordOf_lt32 _ (by omega)),wrap64 (by omega) (by omega)]
      simp only [Option.bind_some,Sum.elim_inl]
      have:tab n (fun j=>if ws[i].testBit j=true then (wordOf i fun i=>below ws i j) ||| 2 ^ i else wordOf i fun i=>below ws i j)=tab n fun j=>wordOf (i+1) fun i=>below ws i j:=tab_congr fun j _=>by
        rw [wordOf,below_eq e]
      rw [this]; rfl
    · have e0:decide ((n:Int) < ((cl ws).length:Int))=false:=by rw [cl_length]; exact decide_eq_false (by omega)
      unfold order_Down_l2
      simp only [e0,cond_false]
      rfl
  unfold order_Down
  have c1:(decide (0≤(n:Int)) && decide ((n:Int)≤(n:Int)) && roomOk n 4 && decide ((n:Int)≤9223372036854775807) && true && true)=true:=by
    rw [room4 (by omega)]
    simp; omega
  simp only [Int.toNat_natCast,c1,cond_true]
  have e1:List.replicate n (0:Int)=cl (tab n fun j=>wordOf 0 fun i=>below ws i j):=by
    rw [cl_rep,rep_tab]; rfl
  rw [e1]
  have hloop':loopM (order_Down_l2 (((n:Int),cl ws,()),())) (0,cl (tab n fun j=>wordOf 0 fun i=>below ws i j),())=some (.inl (cl (downW n ws),())):=hloop
  rw [hloop']
  rfl
theorem ref_OrderDual_eq {n:Nat} {ws:List Nat} (hf:Fit ws) (hl:ws.length=n) (hn:n≤16):ref_OrderDual (((n:Int),cl ws,()),())=some (((n:Int),cl (downW n ws),()),()):=by
  have h1:∀ (i:Nat) (y:List Int × (Int × Unit) × Unit),i < n→loopM (ref_OrderDual_l1 (((n:Int),cl ws,()),()) ((i:Int),y)) (0,0,())=some (.inl (((wordOf n fun j=>below ws j i:Nat):Int),())):=by
    intro i y hi
    refine loopM_fold' n (fun k=>((wordOf k fun j=>below ws j i:Nat):Int)) _ (fun j hj=>?_) ?_
    · unfold ref_OrderDual_l1
      have e0:decide ((j:Int) < (n:Int))=true:=decide_eq_true (by omega)
      have e3:decide (IntKind.u64.wrap (j:Int) < 0)=false:=by rw [wrap_u64 (by omega)]; exact decide_eq_false (by omega)
      simp only [e0,cond_true]
      rw [ref_Below_eq hf (by omega) (by omega),wrap64 (by omega) (by omega)]
      simp only [Option.bind_some,e3,cond_false]
      rw [wrap_u64 (by omega),shl_u32 (by omega),or_u32 (wordOf_lt32 _ (by omega)) (Nat.pow_lt_pow_right (by decide) (by omega)),wordOf]
      cases below ws j i <;> rfl
    · unfold ref_OrderDual_l1
      have e0:decide ((n:Int) < (n:Int))=false:=decide_eq_false (by omega)
      simp only [e0,cond_false]
  have h2:loopM (ref_OrderDual_l2 (((n:Int),cl ws,()),())) (0,(fun k=>(cl (tab k fun i=>wordOf n fun j=>below ws j i),((n:Int),()),())) 0)=some (.inl (cl (downW n ws),((n:Int),()),())):=by
    refine loopM_up n (fun k=>(cl (tab k fun i=>wordOf n fun j=>below ws j i),((n:Int),()),())) _ (fun i hi=>?_) ?_
    · unfold ref_OrderDual_l2
      have e0:decide ((i:Int) < (n:Int))=true:=decide_eq_true (by omega)
      simp only [e0,cond_true]
      rw [h1 i _ hi,wrap64 (by omega) (by omega)]
      simp only [Option.bind_some,Sum.elim_inl,cl_length,tab_length,List.length_singleton]
      rw [room4 (by omega),tab_succ,←cl_app]
      rfl
    · unfold ref_OrderDual_l2
      have e0:decide ((n:Int) < (n:Int))=false:=decide_eq_false (by omega)
      simp only [e0,cond_false]
      rfl
  unfold ref_OrderDual
  have h3:loopM (ref_OrderDual_l2 (((n:Int),cl ws,()),())) (0,[],((n:Int),()),())=some (.inl (cl (downW n ws),((n:Int),()),())):=h2
  simp only [h3,Option.bind_some,Sum.elim_inl]
end

section
open Go Go.Abs

end

section
open Go Go.Abs

theorem downW_bit {n:Nat} {ws:List Nat} {i:Nat} (hi:i < n) (j:Nat):((downW n ws).getD i 0).testBit j=(decide (j < n) && below ws j i):=by
  unfold downW; rw [getD_tab hi,wordOf_bit]
theorem fit_downW {n:Nat} {ws:List Nat} (hn:n≤16):Fit (downW n ws):=fit_tab fun i _=>wordOf_lt32 _ (by omega)
theorem length_down {n:Nat} {ws:List Nat}:(downW n ws).length=n:=tab_length ..
end

section
open Go Go.Abs

theorem ref_Words_same {l:List Int} (h:l.length≤1000000):ref_Words (l,l,())=some (true,()):=by
  unfold ref_Words
  rw [cond_bne,if_pos rfl,loopM_any0 l.length () (fun _=>false) (.inl (false,())) (.inr (.inl ())) (fun i hi=>?_) ?_]
  · simp
  · unfold ref_Words_l1
    simp
  · unfold ref_Words_l1
    have e0:decide ((i:Int) < (l.length:Int))=true:=decide_eq_true (by omega)
    simp only [e0,cond_true,getI_nat,List.getElem?_eq_getElem hi,Option.bind_some,cond_bne,if_true]
    rw [wrap64 (by omega) (by omega)]
    rfl
theorem ref_Orders_same {N:Int} {l:List Int} (h:l.length≤1000000):ref_Orders ((N,l,()),(N,l,()),())=some (true,()):=by
  unfold ref_Orders
  simp only [cond_beq,if_true,ref_Words_same h,Option.bind_some]
end

section
open Go Go.Abs

def walkL (ws dn:List Nat):Nat→Nat→Nat→List Nat
  | 0,a,_=>[a]
  | k+1,a,b=>cond (a.testBit k) [] (walkL ws dn k a (b ||| ws.getD k 0))++cond (b.testBit k || decide (dn.getD k 0 &&& b≠0)) [] (walkL ws dn k (a ||| dn.getD k 0) b)
theorem fit_get {ws:List Nat} (hf:Fit ws) (k:Nat):ws.getD k 0 < 2 ^ 32:=by
  rw [List.getD_eq_getElem?_getD]
  cases h:ws[k]? with
  | none=>simp
  | some w=>exact hf w (List.mem_of_getElem? h)
def feed (l xs:List Nat):List Nat:=l++xs.take (257 - l.length)
theorem feed_nil (l:List Nat):feed l []=l:=by simp [feed]
theorem feed_app_full {l xs ys:List Nat} (h:¬ (feed l xs).length≤256):feed l (xs++ys)=feed l xs:=by
  unfold feed at h ⊢
  rw [List.length_append,List.length_take] at h
  rw [List.take_append_of_le_length (by omega)]
theorem feed_app {l xs ys:List Nat} (h:(feed l xs).length≤256) (hl:l.length≤256):feed l (xs++ys)=feed (feed l xs) ys:=by
  unfold feed at h ⊢
  rw [List.length_append,List.length_take] at h
  have e:xs.length≤257 - l.length:=by omega
  rw [List.take_append,List.take_of_length_le e,List.append_assoc,List.length_append]
  congr 3
  omega
theorem and_ne {d b:Nat} (hd:d < 2 ^ 32) (hb:b < 2 ^ 32):(bitsI .and .u32 (d:Int) (b:Int) != (0:Int))=decide (d &&& b≠0):=by
  rw [and_u32 hd hb]
  by_cases h:d &&& b=0
  · rw [h]; simp
  · simp only [ne_eq,h,not_false_eq_true,decide_true]
    exact bneT (by omega)
theorem wrap_pred {k:Nat} (hk:k≤16):IntKind.i64.wrap ((k:Int) - 1)=(k:Int) - 1:=wrap64 (by omega) (by omega)
theorem all_rec {n:Nat} {ws dn:List Nat} (hf:Fit ws) (hl:ws.length=n) (hn:n≤16) (hd:Fit dn) (hld:dn.length=n):∀ (k m:Nat),k≤n→k < m→∀ (a b:Nat) (l:List Nat),a < 2 ^ 32→b < 2 ^ 32→l.length≤256 →
    fixN downs_All_rec m ((((k:Int) - 1),(a:Int),(b:Int),()),((),(cl l,()),(),((n:Int),cl ws,()),(cl dn,()),())) =
      some ((decide ((feed l (walkL ws dn k a b)).length≤256),()),((),(cl (feed l (walkL ws dn k a b)),()),(),((n:Int),cl ws,()),(cl dn,()),()))
  | 0,m+1,_,_,a,b,l,ha,hb,hll=>by
    show downs_All_rec _ _=_
    unfold downs_All_rec
    have e:feed l (walkL ws dn 0 a b)=l++[a]:=by
      unfold feed walkL; rw [List.take_of_length_le (by simp; omega)]
    have h1:decide (((l.length+(0+1):Nat):Int)≤256)=decide (l.length+(0+1)≤256):=decide_eq_decide.2 (by omega)
    have hc:cl l++[(a:Int)]=cl (l++[a]):=by rw [cl_one,cl_app]
    simp (disch:=first | assumption | omega) only [cond_true,dcT,length_cl,List.length_append,List.length_cons,List.length_nil,room4,Bool.and_true,Bool.true_and,Bool.and_self,hc,e,h1]
  | k+1,m+1,hk,hm,a,b,l,ha,hb,hll=>by
    have ih:=all_rec hf hl hn hd hld k m (by omega) (by omega)
    show downs_All_rec (fixN downs_All_rec m) _=_
    generalize fixN downs_All_rec m=R at ih ⊢
    have hkw:=fit_get hf k
    have hkd:=fit_get hd k
    have e0:((k+1:Nat):Int) - 1=(k:Int):=by omega
    have hkn:k < n:=by omega
    unfold downs_All_rec
    rw [e0]
    have second:∀ (l:List Nat),l.length≤256→(sets_Has_uint32 ((b:Int),(k:Int),())).bind (fun r6=>cond r6.1 (some ((true,()),((),(cl l,()),(),((n:Int),cl ws,()),(cl dn,()),())))
          (cond (inB (k:Int) (cl dn).length) ((cl dn)[(k:Int).toNat]?.bind fun v7=>cond (bitsI .and .u32 v7 (b:Int) != (0:Int)) (some ((true,()),((),(cl l,()),(),((n:Int),cl ws,()),(cl dn,()),())))
            (cond (inB (k:Int) (cl dn).length) ((cl dn)[(k:Int).toNat]?.bind fun v8=>(R ((IntKind.i64.wrap ((k:Int) - 1),bitsI .or .u32 (a:Int) v8,(b:Int),()),((),(cl l,()),(),((n:Int),cl ws,()),(cl dn,()),()))).bind fun z9=>some (z9.1,((),z9.2.2.1,(),z9.2.2.2.2.1,z9.2.2.2.2.2.1,()))) none)) none)) =
        some ((decide ((feed l (cond (b.testBit k || decide (dn.getD k 0 &&& b≠0)) [] (walkL ws dn k (a ||| dn.getD k 0) b))).length≤256),()),((),(cl (feed l (cond (b.testBit k || decide (dn.getD k 0 &&& b≠0)) [] (walkL ws dn k (a ||| dn.getD k 0) b))),()),(),((n:Int),cl ws,()),(cl dn,()),())):=fun l hll=>by
      simp (disch:=first | assumption | omega) only [cond_true,Option.bind_some,get_cl,inB_T,Int.toNat_natCast,length_cl,sets_Has_eq k hb,and_ne hkd hb,or_u32 ha hkd,wrap_pred,ih (a ||| dn.getD k 0) b l (Nat.or_lt_two_pow ha hkd) hb hll]
      cases hbk:b.testBit k
      · cases hdk:decide (dn.getD k 0 &&& b≠0)
        · simp (disch:=first | assumption | omega) only [cond_false,Bool.or_self]
        · simp (disch:=first | assumption | omega) only [decide_true,cond_true,cond_false,Bool.or_true,feed_nil,hll]
      · simp (disch:=first | assumption | omega) only [decide_true,cond_true,Bool.true_or,feed_nil,hll]
    have hs:=sets_Has_eq k ha
    simp only [hs,Option.bind_some]
    rw [dcF (show ¬ (k:Int) < 0 by omega),cond_false]
    cases hak:a.testBit k
    · simp only [Bool.not_false,cond_true]
      rw [getI_cl (by omega),Option.bind_some,or_u32 hb hkw,wrap_pred (by omega),ih a (b ||| ws.getD k 0) l ha (Nat.or_lt_two_pow hb hkw) hll]
      simp only [Option.bind_some]
      have ew:walkL ws dn (k+1) a b=walkL ws dn k a (b ||| ws.getD k 0)++cond (b.testBit k || decide (dn.getD k 0 &&& b≠0)) [] (walkL ws dn k (a ||| dn.getD k 0) b):=by
        simp only [walkL,hak,cond_false]
      by_cases hfull:(feed l (walkL ws dn k a (b ||| ws.getD k 0))).length≤256
      · rw [decide_eq_true hfull]
        simp only [Bool.not_true,cond_false]
        rw [ew,feed_app hfull hll]
        have:=second (feed l (walkL ws dn k a (b ||| ws.getD k 0))) hfull
        rw [wrap_pred (by omega)] at this
        exact this
      · rw [decide_eq_false hfull]
        simp only [Bool.not_false,cond_true]
        rw [ew,feed_app_full hfull,decide_eq_false hfull]
    · simp only [Bool.not_true,cond_false]
      have ew:walkL ws dn (k+1) a b=cond (b.testBit k || decide (dn.getD k 0 &&& b≠0)) [] (walkL ws dn k (a ||| dn.getD k 0) b):=by
        simp only [walkL,hak,cond_true,List.nil_append]
      rw [ew]
      exact second l hll
def closedW (n:Nat) (dn:List Nat) (w:Nat):Bool:=(List.range n).all fun i=>!w.testBit i || decide (w &&& dn.getD i 0=dn.getD i 0)
def pS (n:Nat) (dn:List Nat) (a b w:Nat):Bool:=closedW n dn w && (List.range n).all fun j=>(!a.testBit j || w.testBit j) && (!b.testBit j || !w.testBit j)
theorem and_self_iff {w d:Nat}:w &&& d=d↔∀ j,d.testBit j=true→w.testBit j=true:=by
  constructor
  · intro h j hj
    rw [←h,Nat.testBit_and,Bool.and_eq_true] at hj
    exact hj.1
  · intro h
    refine Nat.eq_of_testBit_eq fun j=>?_
    rw [Nat.testBit_and]
    cases hd:d.testBit j
    · simp
    · simp [h j hd]
theorem and_ne_iff {d b:Nat}:d &&& b≠0↔∃ j,d.testBit j=true∧b.testBit j=true:=by
  constructor
  · intro h
    obtain ⟨j,hj⟩:=Nat.exists_testBit_of_ne_zero h
    rw [Nat.testBit_and,Bool.and_eq_true] at hj
    exact ⟨j,hj⟩
  · rintro ⟨j,h1,h2⟩ h
    have:(d &&& b).testBit j=true:=by rw [Nat.testBit_and,h1,h2]; rfl
    rw [h] at this; simp at this
def Shutd (n:Nat) (ws:List Nat) (w:Nat):Prop:=∀ i j,i < n→j < n→w.testBit i=true→below ws j i=true→w.testBit j=true
theorem closedW_iff {n:Nat} {ws:List Nat} (w:Nat):closedW n (downW n ws) w=true↔Shutd n ws w:=by
  unfold closedW Shutd
  simp only [List.all_eq_true,List.mem_range,Bool.or_eq_true,Bool.not_eq_true',decide_eq_true_eq,and_self_iff]
  constructor
  · intro h i j hi hj hw hb
    rcases h i hi with h1 | h1
    · rw [hw] at h1; cases h1
    · exact h1 j (by rw [downW_bit hi,Bool.and_eq_true]; exact ⟨decide_eq_true hj,hb⟩)
  · intro h i hi
    cases hw:w.testBit i
    · exact .inl rfl
    · refine .inr fun j hj=>?_
      rw [downW_bit hi,Bool.and_eq_true] at hj
      exact h i j hi (of_decide_eq_true hj.1) hw hj.2
theorem pS_iff {n:Nat} {ws:List Nat} {a b:Nat} (w:Nat):pS n (downW n ws) a b w=true↔Shutd n ws w∧∀ j,j < n→(a.testBit j=true→w.testBit j=true)∧(b.testBit j=true→w.testBit j=false):=by
  unfold pS
  rw [Bool.and_eq_true,closedW_iff]
  refine and_congr Iff.rfl ?_
  simp only [List.all_eq_true,List.mem_range,Bool.and_eq_true,Bool.or_eq_true,Bool.not_eq_true']
  constructor
  · intro h j hj
    obtain ⟨h1,h2⟩:=h j hj
    refine ⟨fun ha=>?_,fun hb=>?_⟩
    · rcases h1 with h1 | h1
      · rw [ha] at h1; cases h1
      · exact h1
    · rcases h2 with h2 | h2
      · rw [hb] at h2; cases h2
      · exact h2
  · intro h j hj
    obtain ⟨h1,h2⟩:=h j hj
    refine ⟨?_,?_⟩
    · cases ha:a.testBit j
      · exact .inl rfl
      · exact .inr (h1 ha)
    · cases hb:b.testBit j
      · exact .inl rfl
      · exact .inr (h2 hb)
theorem filter_split {p t:Nat→Bool}:∀ {l:List Nat},l.Pairwise (· < ·)→(∀ x∈l,∀ y∈l,p x=true→p y=true→t x=false→t y=true→x < y)→l.filter p=l.filter (fun x=>p x && !t x)++l.filter (fun x=>p x && t x)
  | [],_,_=>rfl
  | x :: r,hs,h=>by
    rw [List.pairwise_cons] at hs
    have ih:=filter_split hs.2 fun a ha b hb=>h a (List.mem_cons_of_mem _ ha) b (List.mem_cons_of_mem _ hb)
    simp only [List.filter_cons]
    cases hp:p x
    · simpa using ih
    · cases ht:t x
      · simp only [if_true,Bool.not_false,Bool.and_self,Bool.and_false,Bool.false_eq_true,if_false,List.cons_append]
        rw [ih]
      · have e:r.filter (fun x=>p x && !t x)=[]:=List.filter_eq_nil_iff.2 fun y hy hc=>by
          rw [Bool.and_eq_true,Bool.not_eq_true'] at hc
          have:=h y (List.mem_cons_of_mem _ hy) x List.mem_cons_self hc.1 hp hc.2 ht
          have:=hs.1 y hy
          omega
        simp only [if_true,Bool.not_true,Bool.and_false,Bool.and_self,Bool.false_eq_true,if_false]
        rw [ih,e]; rfl
theorem filter_one {p:Nat→Bool} {a N:Nat} (ha:a < N) (h:∀ x,x < N→(p x=true↔x=a)):(List.range N).filter p=[a]:=by
  have e:(List.range N).filter p=(List.range N).filter (fun x=>x == a):=List.filter_congr fun x hx=>by
    have:=h x (List.mem_range.1 hx)
    by_cases hxa:x=a
    · rw [this.2 hxa]; simp [hxa]
    · have:p x=false:=by cases hp:p x with
        | false=>rfl
        | true=>exact absurd (this.1 hp) hxa
      rw [this]; simp [hxa]
  rw [e,List.filter_beq,(List.nodup_range).count,if_pos (List.mem_range.2 ha)]
  rfl
theorem lt_of_bit {x y k:Nat} (h1:x.testBit k=false) (h2:y.testBit k=true) (h:∀ j,k < j→x.testBit j=y.testBit j):x < y:=by
  have e:x >>> (k+1)=y >>> (k+1):=Nat.eq_of_testBit_eq fun i=>by
    rw [Nat.testBit_shiftRight,Nat.testBit_shiftRight]; exact h _ (by omega)
  have hx:=hiPart_step x k
  have hy:=hiPart_step y k
  rw [h1,e] at hx
  rw [h2] at hy
  simp only [Bool.false_eq_true,if_false,if_true] at hx hy
  have hlt:x >>> k < y >>> k:=by omega
  rw [Nat.shiftRight_eq_div_pow,Nat.shiftRight_eq_div_pow] at hlt
  by_cases hle:y≤x
  · have:=Nat.div_le_div_right (c:=2 ^ k) hle
    omega
  · omega
theorem lt_bit {n x y k:Nat} (hx:x < 2 ^ n) (hy:y < 2 ^ n) (h:∀ j,k < j→j < n→x.testBit j=y.testBit j) (h1:x.testBit k=false) (h2:y.testBit k=true):x < y :=
  lt_of_bit h1 h2 fun j hj=>by
    by_cases hjn:j < n
    · exact h j hj hjn
    · rw [Nat.testBit_lt_two_pow (Nat.lt_of_lt_of_le hx (Nat.pow_le_pow_right (by decide) (by omega))),Nat.testBit_lt_two_pow (Nat.lt_of_lt_of_le hy (Nat.pow_le_pow_right (by decide) (by omega)))]
theorem walkL_eq {n:Nat} {ws:List Nat} (o:IsOrder n ws) (hin:Inside n ws) (hl:ws.length=n):∀ (k a b:Nat),k≤n→a < 2 ^ n→Shutd n ws a→(∀ j,a.testBit j=true→b.testBit j=false)→(∀ j,k≤j→j < n→a.testBit j=true∨b.testBit j=true) →
    walkL ws (downW n ws) k a b=(List.range (2 ^ n)).filter (pS n (downW n ws) a b)
  | 0,a,b,_,ha,hsh,hd,hall=>by
    simp only [walkL]
    refine (filter_one ha fun x hx=>?_).symm
    rw [pS_iff]
    constructor
    · rintro ⟨_,h⟩
      refine Nat.eq_of_testBit_eq fun j=>?_
      by_cases hj:j < n
      · obtain ⟨h1,h2⟩:=h j hj
        rcases hall j (Nat.zero_le _) hj with ht | ht
        · rw [ht,h1 ht]
        · rw [h2 ht]
          cases hq:a.testBit j with
          | false=>rfl
          | true=>rw [hd j hq] at ht; cases ht
      · rw [Nat.testBit_lt_two_pow (Nat.lt_of_lt_of_le hx (Nat.pow_le_pow_right (by decide) (by omega))),Nat.testBit_lt_two_pow (Nat.lt_of_lt_of_le ha (Nat.pow_le_pow_right (by decide) (by omega)))]
    · rintro rfl
      exact ⟨hsh,fun j _=>⟨fun h=>h,fun hb=>by
        cases hq:x.testBit j with
        | false=>rfl
        | true=>rw [hd j hq] at hb; cases hb⟩⟩
  | k+1,a,b,hk,ha,hsh,hd,hall=>by
    have hkn:k < n:=by omega
    have lift:∀ {x y:Nat},x < 2 ^ n→y < 2 ^ n→pS n (downW n ws) a b x=true→pS n (downW n ws) a b y=true→∀ j,k < j→j < n→x.testBit j=y.testBit j:=fun {x y} _ _ hx hy j h1 h2=>by
      obtain ⟨x1,x2⟩:=((pS_iff x).1 hx).2 j h2
      obtain ⟨y1,y2⟩:=((pS_iff y).1 hy).2 j h2
      rcases hall j (by omega) h2 with ht | ht
      · rw [x1 ht,y1 ht]
      · rw [x2 ht,y2 ht]
    have hrefl:below ws k k=true:=o.refl k hkn
    have split:=filter_split (p:=pS n (downW n ws) a b) (t:=fun x=>x.testBit k) (l:=List.range (2 ^ n)) List.pairwise_lt_range fun x hx y hy px py tx ty=>lt_bit (List.mem_range.1 hx) (List.mem_range.1 hy) (lift (List.mem_range.1 hx) (List.mem_range.1 hy) px py) tx ty
    rw [split]
    simp only [walkL]
    have dbit:∀ j,((downW n ws).getD k 0).testBit j=(decide (j < n) && below ws j k):=downW_bit hkn
    have ubit:∀ j,(ws.getD k 0).testBit j=below ws k j:=fun j=>rfl
    congr 1
    ·
      cases hak:a.testBit k
      · rw [cond_false]
        have hdis:∀ j,a.testBit j=true→(b ||| ws.getD k 0).testBit j=false:=fun j hj=>by
          rw [Nat.testBit_or,hd j hj,ubit]
          cases hq:below ws k j with
          | false=>rfl
          | true =>
            have hjn:j < n:=below_lt hin (by omega) hq
            rw [hsh j k hjn hkn hj hq] at hak; cases hak
        rw [walkL_eq o hin hl k a (b ||| ws.getD k 0) (by omega) ha hsh hdis (fun j h1 h2=>by
          by_cases hjk:j=k
          · subst hjk; exact .inr (by rw [Nat.testBit_or,ubit,hrefl,Bool.or_true])
          · rcases hall j (by omega) h2 with ht | ht
            · exact .inl ht
            · exact .inr (by rw [Nat.testBit_or,ht,Bool.true_or]))]
        refine List.filter_congr fun x hx=>?_
        rw [Bool.eq_iff_iff,Bool.and_eq_true,pS_iff,pS_iff,Bool.not_eq_true']
        constructor
        · rintro ⟨h1,h2⟩
          refine ⟨⟨h1,fun j hj=>⟨(h2 j hj).1,fun hb=>(h2 j hj).2 (by rw [Nat.testBit_or,hb,Bool.true_or])⟩⟩,(h2 k hkn).2 (by rw [Nat.testBit_or,ubit,hrefl,Bool.or_true])⟩
        · rintro ⟨⟨h1,h2⟩,h3⟩
          refine ⟨h1,fun j hj=>⟨(h2 j hj).1,fun hb=>?_⟩⟩
          rw [Nat.testBit_or,Bool.or_eq_true] at hb
          rcases hb with hb | hb
          · exact (h2 j hj).2 hb
          · cases hq:x.testBit j with
            | false=>rfl
            | true=>rw [h1 j k hj hkn hq hb] at h3; cases h3
      · rw [cond_true]
        refine (List.filter_eq_nil_iff.2 fun x hx hc=>?_).symm
        rw [Bool.and_eq_true,pS_iff,Bool.not_eq_true'] at hc
        rw [(hc.1.2 k hkn).1 hak] at hc; cases hc.2
    ·
      cases hbk:(b.testBit k || decide ((downW n ws).getD k 0 &&& b≠0))
      · rw [cond_false]
        rw [Bool.or_eq_false_iff,decide_eq_false_iff_not] at hbk
        obtain ⟨hbk,hdk⟩:=hbk
        have hdk:∀ j,j < n→below ws j k=true→b.testBit j=false:=fun j hj hb=>by
          cases hq:b.testBit j with
          | false=>rfl
          | true=>exact absurd (and_ne_iff.2 ⟨j,by rw [dbit,hb]; simp [hj],hq⟩) hdk
        have hsh2:Shutd n ws (a ||| (downW n ws).getD k 0):=fun i j hi hj h1 h2=>by
          rw [Nat.testBit_or,Bool.or_eq_true] at h1 ⊢
          rcases h1 with h1 | h1
          · exact .inl (hsh i j hi hj h1 h2)
          · rw [dbit,Bool.and_eq_true] at h1
            exact .inr (by rw [dbit,o.trans j i k hj hi hkn h2 h1.2]; simp [hj])
        rw [walkL_eq o hin hl k (a ||| (downW n ws).getD k 0) b (by omega) (Nat.or_lt_two_pow ha (by rw [show (downW n ws).getD k 0=wordOf n (fun i=>below ws i k) from getD_tab hkn]; exact wordOf_lt _ _)) hsh2 (fun j hj=>by
          rw [Nat.testBit_or,Bool.or_eq_true] at hj
          rcases hj with hj | hj
          · exact hd j hj
          · rw [dbit,Bool.and_eq_true] at hj
            exact hdk j (of_decide_eq_true hj.1) hj.2) (fun j h1 h2=>by
          by_cases hjk:j=k
          · subst hjk; exact .inl (by rw [Nat.testBit_or,dbit,hrefl]; simp [h2])
          · rcases hall j (by omega) h2 with ht | ht
            · exact .inl (by rw [Nat.testBit_or,ht,Bool.true_or])
            · exact .inr ht)]
        refine List.filter_congr fun x hx=>?_
        rw [Bool.eq_iff_iff,Bool.and_eq_true,pS_iff,pS_iff]
        constructor
        · rintro ⟨h1,h2⟩
          refine ⟨⟨h1,fun j hj=>⟨fun ha=>(h2 j hj).1 (by rw [Nat.testBit_or,ha,Bool.true_or]),(h2 j hj).2⟩⟩,(h2 k hkn).1 (by rw [Nat.testBit_or,dbit,hrefl]; simp [hkn])⟩
        · rintro ⟨⟨h1,h2⟩,h3⟩
          refine ⟨h1,fun j hj=>⟨fun ha=>?_,(h2 j hj).2⟩⟩
          rw [Nat.testBit_or,Bool.or_eq_true] at ha
          rcases ha with ha | ha
          · exact (h2 j hj).1 ha
          · rw [dbit,Bool.and_eq_true] at ha
            exact h1 k j hkn hj h3 ha.2
      · rw [cond_true]
        refine (List.filter_eq_nil_iff.2 fun x hx hc=>?_).symm
        rw [Bool.and_eq_true,pS_iff] at hc
        obtain ⟨⟨h1,h2⟩,h3⟩:=hc
        rw [Bool.or_eq_true,decide_eq_true_eq,and_ne_iff] at hbk
        rcases hbk with hbk | ⟨j,j1,j2⟩
        · rw [(h2 k hkn).2 hbk] at h3; cases h3
        · rw [dbit,Bool.and_eq_true] at j1
          have hj:=of_decide_eq_true j1.1
          have:=h1 k j hkn hj h3 j1.2
          rw [(h2 j hj).2 j2] at this; cases this
def downL (n:Nat) (ws:List Nat):List Nat:=(List.range (2 ^ n)).filter (closedW n (downW n ws))
theorem walk_all {n:Nat} {ws:List Nat} (o:IsOrder n ws) (hin:Inside n ws) (hl:ws.length=n):walkL ws (downW n ws) n 0 0=downL n ws:=by
  rw [walkL_eq o hin hl n 0 0 (Nat.le_refl _) (Nat.two_pow_pos n) (fun i j _ _ h _=>by simp at h) (fun j h=>by simp at h) (fun j h1 h2=>by omega)]
  refine List.filter_congr fun x _=>?_
  rw [Bool.eq_iff_iff,pS_iff,closedW_iff]
  exact ⟨fun h=>h.1,fun h=>⟨h,fun j _=>⟨fun h=>by simp at h,fun h=>by simp at h⟩⟩⟩
end

section
open Go Go.Abs

theorem downs_All_eq {N:Int} {ws:List Nat} (hf:Fit ws):downs_All ((N,cl ws,()),()) =
    some (if ordc N ws=0 then (if (downL N.toNat ws).length≤256 then (cl (downL N.toNat ws),0,()) else ([],1,())) else ([],ordc N ws,())):=by
  unfold downs_All
  rw [order_Check_eq hf]
  simp only [Option.bind_some]
  by_cases h:ordc N ws=0
  · obtain ⟨h1,h2,h3,hin,o⟩:=ordc_zero h
    obtain ⟨n,rfl⟩:=Int.eq_ofNat_of_zero_le h1
    rw [Int.toNat_natCast] at hin o
    have hl:ws.length=n:=by omega
    have hn:n≤16:=by omega
    rw [h,bneF rfl,cond_false,order_Down_eq hf hl hn hin,if_pos rfl,Int.toNat_natCast]
    simp only [Option.bind_some]
    have hr:=all_rec hf hl hn (fit_downW (ws:=ws) hn) length_down n 20 (Nat.le_refl _) (by omega) 0 0 [] (by decide) (by decide) (by simp)
    rw [walk_all o hin hl] at hr
    have e1:IntKind.i64.wrap ((n:Int) - 1)=(n:Int) - 1:=wrap_pred hn
    have e2:feed [] (downL n ws)=(downL n ws).take 257:=by simp [feed]
    rw [e1]
    refine (congrArg (fun o=>Option.bind o _) hr).trans ?_
    simp only [Option.bind_some,e2,length_cl,List.length_take]
    by_cases hle:(downL n ws).length≤256
    · rw [dcF (by omega),cond_false,if_pos hle,List.take_of_length_le (by omega)]
    · rw [dcT (by omega),cond_true,if_neg hle]
  · rw [bneT h,cond_true,if_neg h]
theorem ref_closed_eq {n:Nat} {dn:List Nat} (hd:Fit dn) (hl:dn.length=n) (hn:n≤16) {w:Nat} (hw:w < 2 ^ 32):ref_closed (cl dn,(w:Int),())=some (closedW n dn w,()):=by
  unfold ref_closed
  have hloop:loopM (ref_closed_l1 (cl dn,(w:Int),())) (0,())=some (((List.range n).findSome? fun i=>if (!w.testBit i || decide (w &&& dn.getD i 0=dn.getD i 0))=true then none else some (.inl (false,()))).getD (.inr (.inl ()))):=by
    refine loopM_find n () _ _ (fun i hi=>?_) ?_
    · unfold ref_closed_l1
      have hi':i < dn.length:=by omega
      have hdi:=fit_get hd i
      have hb:=ref_Bit_eq hw (show i < 2 ^ 64 by omega)
      simp (disch:=first | assumption | omega) only [cond_true,Option.bind_some,dcT,getI_cl,wrapS,length_cl,hb,and_u32 hw hdi]
      cases hwi:w.testBit i
      · simp (disch:=first | assumption | omega) only [cond_false,Bool.not_false,if_true,Bool.true_or]
      · by_cases he:w &&& dn.getD i 0=dn.getD i 0
        · rw [he]
          simp (disch:=first | assumption | omega) only [decide_true,cond_true,cond_false,Bool.not_true,if_true,bneF,Bool.false_or]
        · have:(((w &&& dn.getD i 0:Nat):Int) != ((dn.getD i 0:Nat):Int))=true:=bneT (by omega)
          simp (disch:=first | assumption | omega) only [decide_false,cond_true,Bool.not_true,Bool.false_eq_true,if_false,this,Bool.false_or,he]
    · unfold ref_closed_l1
      rw [length_cl,dcF (by omega),cond_false]
  rw [hloop]
  simp only [Option.bind_some]
  unfold closedW
  cases hall:(List.range n).all fun i=>!w.testBit i || decide (w &&& dn.getD i 0=dn.getD i 0)
  · obtain ⟨i,hi,hb⟩:∃ i∈List.range n,(!w.testBit i || decide (w &&& dn.getD i 0=dn.getD i 0))=false:=by
      have:=List.all_eq_false.1 hall
      obtain ⟨i,hi,hb⟩:=this
      exact ⟨i,hi,by simpa using hb⟩
    have:((List.range n).findSome? fun i=>if (!w.testBit i || decide (w &&& dn.getD i 0=dn.getD i 0))=true then none else some (Sum.inl (false,()):(Bool × Unit) ⊕ Unit ⊕ Empty))=some (.inl (false,())):=by
      cases hf:((List.range n).findSome? fun i=>if (!w.testBit i || decide (w &&& dn.getD i 0=dn.getD i 0))=true then none else some (Sum.inl (false,()):(Bool × Unit) ⊕ Unit ⊕ Empty)) with
      | none =>
        have:=List.findSome?_eq_none_iff.1 hf i hi
        rw [if_neg (by rw [hb]; decide)] at this
        cases this
      | some b =>
        obtain ⟨j,_,hj⟩:=List.exists_of_findSome?_eq_some hf
        split at hj
        · cases hj
        · cases hj; rfl
    rw [this]; rfl
  · have:((List.range n).findSome? fun i=>if (!w.testBit i || decide (w &&& dn.getD i 0=dn.getD i 0))=true then none else some (Sum.inl (false,()):(Bool × Unit) ⊕ Unit ⊕ Empty))=none :=
      List.findSome?_eq_none_iff.2 fun i hi=>by rw [if_pos (List.all_eq_true.1 hall i hi)]
    rw [this]; rfl
theorem filter_snoc {p:Nat→Bool} (k:Nat):(List.range (k+1)).filter p=(List.range k).filter p++(if p k=true then [k] else []):=by
  rw [List.range_succ,List.filter_append]
  congr 1
  simp [List.filter_cons]
theorem ref_DownsAll_eq {n:Nat} {ws:List Nat} (hf:Fit ws) (hl:ws.length=n) (hn:n≤16) {most:Nat} (hm:most≤256):ref_DownsAll (((n:Int),cl ws,()),(most:Int),()) =
    some (cl ((downL n ws).take most),((downL n ws).length:Int),()):=by
  unfold ref_DownsAll
  rw [ref_OrderDual_eq hf hl hn]
  simp only [Option.bind_some]
  have hp:2 ^ n≤65536:=Nat.le_trans (Nat.pow_le_pow_right (by decide) hn) (by decide)
  have hloop:loopM (ref_DownsAll_l1 (((n:Int),cl ws,()),(most:Int),()) (((n:Int),cl (downW n ws),()),())) ((fun k:Nat=>(cl (((List.range k).filter (closedW n (downW n ws))).take most),(((List.range k).filter (closedW n (downW n ws))).length:Int),(k:Int),())) 0) =
      some (.inl (cl ((downL n ws).take most),((downL n ws).length:Int),())):=by
    have e0:IntKind.u64.wrap (n:Int)=(n:Int):=wrap_u64 (by omega)
    refine loopM_go (2 ^ n) (fun k:Nat=>(cl (((List.range k).filter (closedW n (downW n ws))).take most),(((List.range k).filter (closedW n (downW n ws))).length:Int),(k:Int),())) _ (fun k hk=>?_) ?_
    · unfold ref_DownsAll_l1
      have hlen:((List.range k).filter (closedW n (downW n ws))).length≤k:=Nat.le_trans (List.length_filter_le _ _) (by rw [List.length_range]; exact Nat.le_refl _)
      have ew:IntKind.u32.wrap ((k:Int)+1)=((k+1:Nat):Int):=by
        rw [show ((k:Int)+1)=((k+1:Nat):Int) by omega]; exact wrap_u32 (by omega)
      have hsn:=filter_snoc (p:=closedW n (downW n ws)) k
      simp only [e0,shl_u32 (show n < 32 by omega)]
      rw [dcF (show ¬ (n:Int) < 0 by omega),cond_false,dcT (show (k:Int) < ((2 ^ n:Nat):Int) by omega),cond_true,ref_closed_eq (fit_downW (ws:=ws) hn) length_down hn (show k < 2 ^ 32 by omega)]
      simp only [Option.bind_some,ew]
      cases hc:closedW n (downW n ws) k
      · rw [hc] at hsn
        simp only [Bool.false_eq_true,if_false,List.append_nil] at hsn
        rw [cond_false,hsn]
      · rw [hc] at hsn
        simp only [if_true] at hsn
        rw [cond_true,hsn]
        generalize (List.range k).filter (closedW n (downW n ws))=F at hlen ⊢
        have ewl:IntKind.i64.wrap ((F.length:Int)+1)=((F.length+1:Nat):Int):=wrapS (by omega)
        rw [ewl]
        by_cases hle:F.length+1≤most
        · rw [dcT (show ((F.length+1:Nat):Int)≤(most:Int) by omega),cond_true]
          have er:roomOk ((cl (F.take most)).length+[(k:Int)].length) 4=true:=room4 (by rw [length_cl,List.length_take]; simp; omega)
          rw [er]
          simp only [Bool.and_self,cond_true]
          rw [List.take_of_length_le (show F.length≤most by omega),List.take_of_length_le (by simp; omega),cl_one,cl_app,List.length_append]
          rfl
        · rw [dcF (show ¬ ((F.length+1:Nat):Int)≤(most:Int) by omega),cond_false]
          rw [List.take_append_of_le_length (by omega),List.length_append]
          rfl
    · unfold ref_DownsAll_l1
      simp only [e0,shl_u32 (show n < 32 by omega)]
      rw [dcF (show ¬ (n:Int) < 0 by omega),cond_false,dcF (by omega),cond_false]
      rfl
  have hloop:loopM (ref_DownsAll_l1 (((n:Int),cl ws,()),(most:Int),()) (((n:Int),cl (downW n ws),()),())) ([],0,0,())=some (.inl (cl ((downL n ws).take most),((downL n ws).length:Int),())):=by
    simpa [cl] using hloop
  rw [hloop]
  rfl
end

section
open Go Go.Abs

def inclW (m:Nat) (L:List Nat) (i:Nat):Nat:=wordOf m fun j=>decide (dif (L.getD i 0) (L.getD j 0)=0)
theorem or_dif {a b:Nat}:a ||| b=b↔dif a b=0:=by
  rw [dif_zero]
  constructor
  · intro h i hi
    rw [←h,Nat.testBit_or,hi,Bool.true_or]
  · intro h
    refine Nat.eq_of_testBit_eq fun i=>?_
    rw [Nat.testBit_or]
    cases ha:a.testBit i
    · simp
    · simp [h i ha]
theorem incl_l1 {L:List Nat} (hf:Fit L) {m:Nat} (hl:L.length=m) (hm:m≤16) (q:Int × Unit) {i:Nat} (hi:i < m) :
    loopM (downs_Inclusion_l1 (cl L,q) ((L.getD i 0:Nat):Int)) (0,0,())=some (.inl (((inclW m L i:Nat):Int),())):=by
  refine loopM_fold' m (fun k=>((wordOf k fun j=>decide (dif (L.getD i 0) (L.getD j 0)=0):Nat):Int)) _ (fun j hj=>?_) ?_
  · unfold downs_Inclusion_l1
    have hj':j < L.length:=by omega
    have hw:=wordOf_lt32 (n:=j) (fun j=>decide (dif (L.getD i 0) (L.getD j 0)=0)) (by omega)
    simp (disch:=first | assumption | omega) only [cond_true,Option.bind_some,dcT,get_cl,inB_T,Int.toNat_natCast,wrapS,length_cl,not_u32 (fit_get hf i) (fit_get hf j),sets_One_eq,or_u32 hw (two_pow_32 (show j < 32 by omega))]
    by_cases he:dif (L.getD i 0) (L.getD j 0)=0
    · simp (disch:=first | assumption | omega) only [decide_true,cond_true,he,beqT,wordOf_step]
    · rw [beqF (by omega),wordOf_step,decide_eq_false he]
      rfl
  · unfold downs_Inclusion_l1
    dsimp only
    rw [length_cl,dcF (by omega),cond_false]
    rfl
theorem downs_incl {L:List Nat} (hf:Fit L) {m:Nat} (hl:L.length=m) (hm:m≤16) (q:Int × Unit) :
    loopM (downs_Inclusion_l2 (cl L,q)) (0,[],((m:Int),()),())=some (.inl (cl (tab m (inclW m L)),((m:Int),()),())):=by
  have:=loopM_up (f:=downs_Inclusion_l2 (cl L,q)) m (fun k=>(cl (tab k (inclW m L)),((m:Int),()),())) (.inl (cl (tab m (inclW m L)),((m:Int),()),())) (fun i hi=>?_) ?_
  · exact this
  · unfold downs_Inclusion_l2
    have hi':i < L.length:=by omega
    simp (disch:=first | assumption | omega) only [cond_true,Option.bind_some,Sum.elim_inl,dcT,get_cl,inB_T,Int.toNat_natCast,wrapS,length_cl,length_tab,List.length_cons,List.length_nil,room4,Bool.and_self,incl_l1 hf hl hm q hi,cl_one,cl_app,tab_one]
  · unfold downs_Inclusion_l2
    rw [length_cl,dcF (by omega),cond_false]
theorem refincl_l1 {L:List Nat} (hf:Fit L) {m:Nat} (hl:L.length=m) (hm:m≤16) (y:List Int × (Int × Unit) × Unit) {i:Nat} (hi:i < m) :
    loopM (ref_Inclusion_l1 (cl L,()) ((i:Int),y)) (0,0,())=some (.inl (((inclW m L i:Nat):Int),())):=by
  refine loopM_fold' m (fun k=>((wordOf k fun j=>decide (dif (L.getD i 0) (L.getD j 0)=0):Nat):Int)) _ (fun j hj=>?_) ?_
  · unfold ref_Inclusion_l1
    have hj':j < L.length:=by omega
    have hi':i < L.length:=by omega
    have hw:=wordOf_lt32 (n:=j) (fun j=>decide (dif (L.getD i 0) (L.getD j 0)=0)) (by omega)
    have e3:decide (IntKind.u64.wrap (j:Int) < 0)=false:=by rw [wrap_u64 (by omega)]; exact decide_eq_false (by omega)
    have e4:shlI .u32 1 (IntKind.u64.wrap (j:Int))=((2 ^ j:Nat):Int):=by rw [wrap_u64 (by omega)]; exact shl_u32 (by omega)
    simp (disch:=first | assumption | omega) only [cond_true,cond_false,Option.bind_some,dcT,getI_cl,wrapS,length_cl,or_u32 (fit_get hf i) (fit_get hf j),e3,e4,or_u32 hw (two_pow_32 (show j < 32 by omega))]
    by_cases he:dif (L.getD i 0) (L.getD j 0)=0
    · rw [or_dif.2 he,beqT rfl,wordOf_step,decide_eq_true he]
      rfl
    · have:¬ (L.getD i 0 ||| L.getD j 0=L.getD j 0):=fun h=>he (or_dif.1 h)
      rw [beqF (by omega),wordOf_step,decide_eq_false he]
      rfl
  · unfold ref_Inclusion_l1
    dsimp only
    rw [length_cl,dcF (by omega),cond_false]
    rfl
theorem ref_Inclusion_eq {L:List Nat} (hf:Fit L) {m:Nat} (hl:L.length=m) (hm:m≤16):ref_Inclusion (cl L,())=some (((m:Int),cl (tab m (inclW m L)),()),()):=by
  unfold ref_Inclusion
  have hloop:=loopM_up (f:=ref_Inclusion_l2 (cl L,())) m (fun k=>(cl (tab k (inclW m L)),((m:Int),()),())) (.inl (cl (tab m (inclW m L)),((m:Int),()),())) (fun i hi=>?_) ?_
  · have hloop:loopM (ref_Inclusion_l2 (cl L,())) (0,[],(((cl L).length:Int),()),())=some (.inl (cl (tab m (inclW m L)),((m:Int),()),())):=by rw [length_cl,hl]; exact hloop
    rw [hloop]
    rfl
  · unfold ref_Inclusion_l2
    have hi':i < L.length:=by omega
    simp (disch:=first | assumption | omega) only [cond_true,Option.bind_some,Sum.elim_inl,dcT,wrapS,length_cl,length_tab,List.length_cons,List.length_nil,room4,Bool.and_self,refincl_l1 hf hl hm _ hi,cl_one,cl_app,tab_one]
  · unfold ref_Inclusion_l2
    rw [length_cl,dcF (by omega),cond_false]
theorem fit_downL {n:Nat} {ws:List Nat} (hn:n≤16):Fit (downL n ws):=fun w hw=>by
  have:=List.mem_range.1 (List.mem_filter.1 hw).1
  exact Nat.lt_of_lt_of_le this (Nat.pow_le_pow_right (by decide) (by omega))
theorem downs_Inclusion_eq {N:Int} {ws:List Nat} (hf:Fit ws):downs_Inclusion ((N,cl ws,()),()) =
    some (if ordc N ws=0 then (if (downL N.toNat ws).length≤16 then ((((downL N.toNat ws).length:Int),cl (tab (downL N.toNat ws).length (inclW (downL N.toNat ws).length (downL N.toNat ws))),()),0,()) else ((0,[],()),1,())) else ((0,[],()),ordc N ws,())):=by
  unfold downs_Inclusion
  rw [downs_All_eq hf]
  simp only [Option.bind_some]
  by_cases h:ordc N ws=0
  · obtain ⟨h1,h2,h3,hin,o⟩:=ordc_zero h
    obtain ⟨n,rfl⟩:=Int.eq_ofNat_of_zero_le h1
    have hn:n≤16:=by omega
    rw [if_pos h,if_pos h,Int.toNat_natCast]
    by_cases hle:(downL n ws).length≤256
    · rw [if_pos hle]
      rw [bneF rfl,cond_false,length_cl]
      by_cases h16:(downL n ws).length≤16
      · rw [dcF (by omega),cond_false,downs_incl (fit_downL hn) rfl h16,if_pos h16]
        rfl
      · rw [dcT (by omega),cond_true,if_neg h16]
    · rw [if_neg hle,bneT (by decide),cond_true,if_neg (by omega)]
  · rw [if_neg h,if_neg h,bneT h,cond_true]
end

end Go.Proofs.Tryd
