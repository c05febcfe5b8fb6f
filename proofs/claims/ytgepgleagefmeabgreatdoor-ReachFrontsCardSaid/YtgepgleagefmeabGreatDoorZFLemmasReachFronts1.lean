/- Lemmas on functions of the program, by name. -/
import Derived.Test.YtgepgleagefmeabGreatDoorZFFuns
import Derived.Test.YtgepgleagefmeabGreatDoorAbsSums
namespace Go.Proofs.Tryz
section
open Go Go.Abs

def bad (v:Int):Bool:=decide (v < 0) || decide (v > 1048576)
theorem q38lk {β:Type} (v:Int) (b:β) (s:Int × Unit):(cond (decide (v < (0:Int))) (some (Sum.inr b)) (cond (decide (v > (1048576:Int))) (some (Sum.inr b)) (some (Sum.inl s))):Option ((Int × Unit) ⊕ β))=some (if bad v=true then .inr b else .inl s):=by
  unfold bad
  by_cases h1:v < 0
  · simp [h1]
  · by_cases h2:v > 1048576
    · simp [h1,h2]
    · simp [h1,h2]
theorem bad_ok {v:Int} (h:bad v=false):0≤v∧v≤1048576:=by
  unfold bad at h
  simp at h
  omega
end

section
open Go Go.Abs

theorem q9va3 (v:Int):qntzs (v,())=some (!bad v,()):=by
  unfold qntzs bad
  simp only [qlytz]
  by_cases h1:v ≥ 0
  · have h2:¬ v < 0:=by omega
    by_cases h3:v≤1048576
    · have h4:¬ v > 1048576:=by omega
      simp [h1,h2,h3,h4]
    · have h4:v > 1048576:=by omega
      simp [h1,h2,h3,h4]
  · have h2:v < 0:=by omega
    simp [h1,h2]
def sck (n d:Int) (l:List Int) (m:Int):Int:=if m < 1∨m > 4∨n < 1∨n > m∨(l.length:Int) > 4 - n then 1 else if (bad d || l.any bad)=true then 2 else 0
theorem q5p43 {n d m:Int} {l:List Int} (h:sck n d l m=0):1≤n∧n≤m∧m≤4∧(l.length:Int)≤4 - n∧(0≤d∧d≤1048576)∧∀ (i:Nat) (v:Int),l[i]? = some v→0≤v∧v≤1048576:=by
  unfold sck at h
  split at h
  · cases h
  · rename_i h1
    split at h
    · cases h
    · rename_i h2
      rw [Bool.not_eq_true,Bool.or_eq_false_iff] at h2
      refine ⟨by omega,by omega,by omega,by omega,bad_ok h2.1,fun i v hi=>bad_ok ?_⟩
      cases hb:bad v with
      | false=>rfl
      | true =>
        have:=List.any_eq_true.2 ⟨v,List.mem_of_getElem? hi,hb⟩
        rw [h2.2] at this; cases this
theorem qr2g6 (n d m:Int) (l:List Int):qbg1g ((n,d,l,()),m,())=some (sck n d l m,()):=by
  unfold qbg1g sck
  simp only [qlytz]
  by_cases h1:m < 1
  · simp [h1]
  · by_cases h2:m > 4
    · simp [h1,h2]
    · by_cases h3:n < 1
      · simp [h1,h2,h3]
      · by_cases h4:n > m
        · simp [h1,h2,h3,h4]
        · rw [wrap64 (by omega) (by omega)]
          by_cases h5:(l.length:Int) > 4 - n
          · simp [h1,h2,h3,h4,h5]
          · rw [if_neg h1,if_neg h2,if_neg h3,if_neg h4,if_neg h5,if_neg (by omega)]
            have hlen:([d]++l).length=l.length+1:=by simp
            have hr:roomOk (([d]).length+l.length) 8=true:=room8 (by simp; omega)
            rw [hr,Bool.and_true,Bool.and_true,Bool.and_true,cond_true]
            have key:=q2sm4 (f:=q2p64 ((n,d,l,()),m,())) ([d]++l) bad (Sum.inl (2,())) (Sum.inr (Sum.inl ())) (fun i v hi=>by
                have hlt:=(List.getElem?_eq_some_iff.1 hi).1
                have hi':((i:Int) < (([d]++l).length:Int)):=by omega
                have hib:inB (i:Int) ([d]++l).length=true:=by simp only [inB,Bool.and_eq_true,decide_eq_true_eq]; omega
                unfold q2p64
                simp only [hi',decide_true,hib,cond_true,Int.toNat_natCast,hi,Option.bind_some,q9va3,Bool.not_not]
                rw [wrap64 (by omega) (by omega)]
                cases bad v <;> rfl) (by simp [q2p64])
            rw [key]
            have hany:([d]++l).any bad=(bad d || l.any bad):=by simp
            rw [hany]
            split <;> rfl
theorem qol8w (n d m:Int) (l:List Int) (hl:l.length≤4):loopM (qa3ps ((n,d,l,()),m,())) (0,())=some (if l.any bad=true then Sum.inl (2,()) else Sum.inr (Sum.inl ())):=by
  refine q2sm4 l bad (Sum.inl (2,())) (Sum.inr (Sum.inl ())) (fun i v hi=>?_) ?_
  · have hlt:=(List.getElem?_eq_some_iff.1 hi).1
    have hi':((i:Int) < (l.length:Int)):=by omega
    unfold qa3ps
    simp only [hi',decide_true,cond_true,qooa6,hi,Option.bind_some]
    rw [wrap64 (by omega) (by omega)]
    exact q38lk v _ _
  · simp [qa3ps]
theorem q9949 (n d m:Int) (l:List Int):qnukb ((n,d,l,()),m,())=some (sck n d l m,()):=by
  unfold qnukb sck
  by_cases h1:m < 1
  · simp [h1]
  · by_cases h2:m > 4
    · simp [h1,h2]
    · by_cases h3:n < 1
      · simp [h1,h2,h3]
      · by_cases h4:n > m
        · simp [h1,h2,h3,h4]
        · by_cases h5:(l.length:Int) > 4
          · have h6:(l.length:Int) > 4 - n:=by omega
            simp [h1,h2,h3,h4,h5,h6]
          · by_cases h6:(l.length:Int) > 4 - n
            · have h7:IntKind.i64.wrap (n+(l.length:Int)) > 4:=by rw [wrap64 (by omega) (by omega)]; omega
              simp [h1,h2,h3,h4,h5,h6,h7]
            · have h7:¬ (IntKind.i64.wrap (n+(l.length:Int)) > 4):=by rw [wrap64 (by omega) (by omega)]; omega
              simp only [h1,h2,h3,h4,h5,h7,decide_false,cond_false]
              have hn:¬ (False∨False∨False∨False∨(l.length:Int) > 4 - n):=by simp; omega
              rw [if_neg hn]
              by_cases h8:bad d=true
              · rw [h8,Bool.true_or,if_pos rfl]
                unfold bad at h8
                by_cases h9:d < 0
                · simp [h9]
                · have h10:d > 1048576:=by simpa [h9] using h8
                  simp [h9,h10]
              · have h8:bad d=false:=by simpa using h8
                have hd:=bad_ok h8
                have h9:¬ d < 0:=by omega
                have h10:¬ d > 1048576:=by omega
                simp only [h9,h10,decide_false,cond_false]
                rw [qol8w n d m l (by omega),h8,Bool.false_or]
                split <;> rfl
end

section
open Go Go.Abs

def plc (n:Nat) (d:Int) (l:List Int) (i:Nat):Int:=if i < n then (if i+1=n then d else 0) else l.getD (i - n) 0
theorem qoa3m {n:Nat} {d:Int} {l:List Int} (hn1:1≤n) (hn:n+l.length≤4) {i:Nat} (hi:i < n+l.length):qw20i (((n:Int),d,l,()),(i:Int),())=some (plc n d l i,()):=by
  have e1:IntKind.i64.wrap ((n:Int) - 1)=(n:Int) - 1:=wrap64 (by omega) (by omega)
  unfold qw20i plc
  by_cases h:i < n
  · by_cases h1:i+1=n
    · have:((i:Int) == (n:Int) - 1)=true:=beqT (by omega)
      simp (disch:=first | assumption | omega) only [cond_true,cond_false,dcF,if_true,e1,this,h,h1]
    · have:((i:Int) == (n:Int) - 1)=false:=beqF (by omega)
      simp (disch:=first | assumption | omega) only [cond_false,dcF,if_true,if_false,e1,this,h,h1]
  · have e2:IntKind.i64.wrap ((i:Int) - (n:Int))=((i - n:Nat):Int):=by rw [wrap64 (by omega) (by omega)]; omega
    simp (disch:=first | assumption | omega) only [cond_true,Option.bind_some,dcT,if_false,e2,h,qf5xd]
theorem plc_in {n:Nat} {d:Int} {l:List Int} (hd:0≤d∧d≤1048576) (hl:∀ (i:Nat) (v:Int),l[i]? = some v→0≤v∧v≤1048576) (i:Nat):0≤plc n d l i∧plc n d l i≤1048576:=by
  unfold plc
  split
  · split
    · exact hd
    · omega
  · by_cases h:i - n < l.length
    · exact hl (i - n) _ (q5s8r h)
    · rw [List.getD_eq_getElem?_getD,List.getElem?_eq_none (by omega)]; simp
def thenX (n:Nat) (d:Int) (l:List Int) (m:Nat) (e:Int) (k:List Int) (i:Nat):Int:=if i < m then plc m e k i+plc n d l i else plc m e k i
def thenR (n:Nat) (d:Int) (l:List Int) (m:Nat) (e:Int) (k:List Int):(Int × Int × List Int × Unit) × Int × Unit :=
  if thenX n d l m e k (m - 1) > 1048576 then ((0,0,[],()),6,()) else ((((min m n:Nat):Int),thenX n d l m e k (min m n - 1),(List.range' (min m n) (m+k.length - min m n)).map (thenX n d l m e k),()),0,())
theorem q032v {n:Nat} {d:Int} {l:List Int} (h:n+l.length≤4):qy6me (((n:Int),d,l,()),())=some (((n+l.length:Nat):Int),()):=by
  unfold qy6me
  exact congrArg (fun x=>some (x,())) (wrap64 (x:=(n:Int)+(l.length:Int)) (by omega) (by omega))
theorem qwekz {n:Nat} {d:Int} {l:List Int} (h:n+l.length≤4):q9a13 (((n:Int),d,l,()),())=some (((n+l.length:Nat):Int),()):=by
  unfold q9a13
  exact congrArg (fun x=>some (x,())) (wrap64 (x:=(n:Int)+(l.length:Int)) (by omega) (by omega))
theorem qdfmu {v:Int} (h:0≤v):bad v=decide (v > 1048576):=by
  unfold bad
  have:¬ v < 0:=by omega
  simp [this]
theorem qhrl3 {a:Nat} (f:Nat→Int) (l:List Int) (h:∀ i,i < l.length→f (a+i)=l.getD i 0):(List.range' a l.length).map f=l:=by
  apply List.ext_getElem?
  intro i
  by_cases hi:i < l.length
  · rw [List.getElem?_map,List.getElem?_range' hi]
    simp only [Option.map_some,Nat.one_mul,h i hi]
    exact (q5s8r hi).symm
  · rw [List.getElem?_eq_none (by simpa using hi),List.getElem?_eq_none (by omega)]
theorem qvt2l {n m:Nat} {d e:Int} {l k:List Int} (hs:sck n d l 4=0) (hr:sck m e k ((n+l.length:Nat):Int)=0) :
    qaw8o (((n:Int),d,l,()),((m:Int),e,k,()),())=some (thenR n d l m e k):=by
  obtain ⟨s1,s2,s3,s4,s5,s6⟩:=q5p43 hs
  obtain ⟨r1,r2,r3,r4,r5,r6⟩:=q5p43 hr
  have p0:∀ v:Int,0≤v→qntzs (v,())=some (!decide (v > 1048576),()):=fun v hv=>by rw [q9va3,qdfmu hv]
  have hk:k.length≤4:=by omega
  unfold qaw8o
  simp (disch:=first | assumption | omega) only [cond_true,cond_false,Option.bind_some,dcT,room8,Bool.and_true,Bool.true_and,Bool.and_self,qr2g6,hs,bneF,q032v (show n+l.length≤4 by omega),hr]
  have e0:IntKind.i64.wrap ((m:Int) - (n:Int))=(m:Int) - (n:Int):=wrap64 (by omega) (by omega)
  rw [e0]
  have hpush:min m n=m→(List.range' (min m n) (m+k.length - min m n)).map (thenX n d l m e k)=k:=fun h=>by
    rw [h,show m+k.length - m=k.length by omega]
    refine qhrl3 _ _ fun i hi=>?_
    unfold thenX plc
    rw [if_neg (by omega),if_neg (by omega),show m+i - m=i by omega]
  by_cases h1:m=n
  · have hx:thenX n d l m e k (m - 1)=e+d:=by
      unfold thenX plc
      rw [if_pos (by omega),if_pos (by omega),if_pos (by omega),if_pos (by omega),if_pos (by omega)]
    have e1:IntKind.i64.wrap (e+d)=e+d:=wrap64 (by omega) (by omega)
    have hmin:min m n=m:=by omega
    unfold thenR
    rw [hpush hmin,hmin,hx]
    have h0:((m:Int) - (n:Int) == 0)=true:=beqT (by omega)
    simp (disch:=first | assumption | omega) only [cond_true,cond_false,Option.bind_some,dcT,dcF,Bool.and_self,h0,e1,p0 (e+d) (by omega)]
    by_cases hb:e+d > 1048576
    · simp (disch:=first | assumption | omega) only [decide_true,cond_true,Bool.not_true,Bool.not_false,if_true,hb] <;> rfl
    · simp (disch:=first | assumption | omega) only [decide_false,cond_false,Bool.not_true,Bool.not_false,if_false,hb] <;> rfl
  · have h0:((m:Int) - (n:Int) == 0)=false:=beqF (by omega)
    by_cases h2:m > n
    · have hmin:min m n=n:=by omega
      have hq:m - n≤l.length:=by omega
      have e2:((m:Int) - (n:Int)).toNat=m - n:=by omega
      have e3:IntKind.i64.wrap ((m:Int) - (n:Int) - 1)=((m - n - 1:Nat):Int):=by rw [wrap64 (by omega) (by omega)]; omega
      have hlen:(l.take (m - n)).length=m - n:=by rw [List.length_take]; omega
      have hc:qp7s9 (l.take (m - n),())=some (l.take (m - n),()):=by
        unfold qp7s9
        simp (disch:=first | assumption | omega) only [cond_true,List.length_nil,room8,Bool.and_self,hlen]
        rfl
      have hg:(l.take (m - n))[m - n - 1]? = some (l.getD (m - n - 1) 0):=by
        rw [List.getElem?_take_of_lt (by omega)]; exact q5s8r (by omega)
      have hv:=s6 (m - n - 1) _ (q5s8r (d:=0) (show m - n - 1 < l.length by omega))
      have hx:thenX n d l m e k (m - 1)=l.getD (m - n - 1) 0+e:=by
        unfold thenX plc
        rw [if_pos (by omega),if_pos (by omega),if_pos (by omega),if_neg (by omega),show m - 1 - n=m - n - 1 by omega]; omega
      have hy:thenX n d l m e k (n - 1)=d:=by
        unfold thenX plc
        rw [if_pos (by omega),if_pos (by omega),if_neg (by omega),if_pos (by omega),if_pos (by omega)]; omega
      have e4:IntKind.i64.wrap (l.getD (m - n - 1) 0+e)=l.getD (m - n - 1) 0+e:=wrap64 (by omega) (by omega)
      have hg2:((l.take (m - n)).set (m - n - 1) (l.getD (m - n - 1) 0+e))[m - n - 1]? = some (l.getD (m - n - 1) 0+e):=by
        rw [List.getElem?_set_self (by omega)]
      have hl2:(l.take (m - n)).set (m - n - 1) (l.getD (m - n - 1) 0+e)++k=(List.range' n (m+k.length - n)).map (thenX n d l m e k):=by
        have hll:((l.take (m - n)).set (m - n - 1) (l.getD (m - n - 1) 0+e)++k).length=m+k.length - n:=by rw [List.length_append,List.length_set,hlen]; omega
        rw [←hll]
        refine (qhrl3 _ _ fun i hi=>?_).symm
        rw [hll] at hi
        rw [List.getD_eq_getElem?_getD]
        by_cases hi2:i < m - n
        · rw [List.getElem?_append_left (by rw [List.length_set,hlen]; exact hi2)]
          unfold thenX plc
          rw [if_pos (by omega),if_pos (by omega),if_neg (show ¬ n+i < n by omega),show n+i - n=i by omega]
          by_cases hi3:i=m - n - 1
          · rw [hi3,List.getElem?_set_self (by omega),if_pos (by omega)]; simp; omega
          · rw [List.getElem?_set_ne (Ne.symm hi3),List.getElem?_take_of_lt hi2,if_neg (by omega),←List.getD_eq_getElem?_getD]; omega
        · rw [List.getElem?_append_right (by rw [List.length_set,hlen]; omega),List.length_set,hlen]
          unfold thenX plc
          rw [if_neg (by omega),if_neg (by omega),←List.getD_eq_getElem?_getD,show n+i - m=i - (m - n) by omega]
      unfold thenR
      rw [hmin,hx,hy,←hl2]
      have d1:decide ((m:Int) - (n:Int) > 0)=true:=decide_eq_true (by omega)
      have d2:decide ((m:Int) - (n:Int)≤(l.length:Int))=true:=decide_eq_true (by omega)
      simp (disch:=first | assumption | omega) only [cond_true,cond_false,Option.bind_some,dcT,inB_T,Int.toNat_natCast,room8,Bool.and_self,h0,e2,e3,List.drop_zero,Nat.sub_zero,hc,hlen,hg,e4,hg2,p0 _ (show 0≤l.getD (m - n - 1) 0+e by omega),List.length_set,show (0:Int).toNat=0 from rfl]
      by_cases hb:l.getD (m - n - 1) 0+e > 1048576
      · simp (disch:=first | assumption | omega) only [decide_true,cond_true,Bool.not_true,Bool.not_false,if_true,hb] <;> rfl
      · simp (disch:=first | assumption | omega) only [decide_false,cond_false,Bool.not_true,Bool.not_false,if_false,hb] <;> rfl
    · have hmin:min m n=m:=by omega
      have hx:thenX n d l m e k (m - 1)=e:=by
        unfold thenX plc
        rw [if_pos (by omega),if_pos (by omega),if_pos (by omega),if_pos (by omega),if_neg (by omega)]; omega
      unfold thenR
      rw [hpush hmin,hmin,hx]
      have d1:decide ((m:Int) - (n:Int) > 0)=false:=decide_eq_false (by omega)
      have d2:¬ e > 1048576:=by omega
      simp (disch:=first | assumption | omega) only [decide_false,cond_false,Option.bind_some,dcT,dcF,Bool.and_true,Bool.not_true,Bool.not_false,if_false,h0,p0 e (by omega),d2] <;> rfl
theorem q7tfe {n m:Nat} {d e:Int} {l k:List Int} (hs:sck n d l 4=0) (hr:sck m e k ((n+l.length:Nat):Int)=0) {i:Nat} (h:¬ i=m - 1):thenX n d l m e k i≤1048576:=by
  obtain ⟨s1,s2,s3,s4,s5,s6⟩:=q5p43 hs
  obtain ⟨r1,r2,r3,r4,r5,r6⟩:=q5p43 hr
  have h1:=plc_in (n:=n) s5 s6 i
  have h2:=plc_in (n:=m) r5 r6 i
  unfold thenX
  by_cases hi:i < m
  · rw [if_pos hi]
    have:plc m e k i=0:=by unfold plc; rw [if_pos hi,if_neg (by omega)]
    omega
  · rw [if_neg hi]; omega
theorem q5s0p {n m:Nat} {d e:Int} {l k:List Int} (hs:sck n d l 4=0) (hr:sck m e k ((n+l.length:Nat):Int)=0) (i:Nat):0≤thenX n d l m e k i∧thenX n d l m e k i≤2097152:=by
  obtain ⟨s1,s2,s3,s4,s5,s6⟩:=q5p43 hs
  obtain ⟨r1,r2,r3,r4,r5,r6⟩:=q5p43 hr
  have h1:=plc_in (n:=n) s5 s6 i
  have h2:=plc_in (n:=m) r5 r6 i
  unfold thenX
  split <;> omega
abbrev ThenU:Type:=(Int × (Int × Int × List Int × Unit) × List Int × (Int × Int × Unit) × Unit)
def pushTo (M:Nat) (x:Nat→Int) (j:Nat):List Int:=(List.range' M (j - M)).map x
def addTo (M:Nat) (x:Nat→Int) (j:Nat):Int:=if M≤j then x (M - 1) else 0
theorem q174k {M j:Nat} (x:Nat→Int) (h:j < M):pushTo M x (j+1)=pushTo M x j:=by
  unfold pushTo; rw [show j+1 - M=0 by omega,show j - M=0 by omega]
theorem qxqn5 {M j:Nat} (x:Nat→Int) (h:¬ j < M):pushTo M x (j+1)=pushTo M x j++[x j]:=by
  unfold pushTo
  rw [show j+1 - M=(j - M)+1 by omega,List.range'_concat,List.map_append]
  simp only [Nat.one_mul,List.map_cons,List.map_nil]
  rw [show M+(j - M)=j by omega]
theorem qoot8 (M:Nat) (x:Nat→Int) (j:Nat):(pushTo M x j).length≤j:=by
  unfold pushTo; simp
theorem qjm3w {n m:Nat} {d e:Int} {l k:List Int} (hs:sck n d l 4=0) (hr:sck m e k ((n+l.length:Nat):Int)=0) :
    qpb1b (((n:Int),d,l,()),((m:Int),e,k,()),())=some (thenR n d l m e k):=by
  obtain ⟨s1,s2,s3,s4,s5,s6⟩:=q5p43 hs
  obtain ⟨r1,r2,r3,r4,r5,r6⟩:=q5p43 hr
  have hk:k.length≤4:=by omega
  let M:=min m n
  let x:=thenX n d l m e k
  let U:=fun j=>((6,(0,0,[],()),pushTo M x (j+1),(((min (j+1) M:Nat):Int),addTo M x (j+1),()),()):ThenU)
  have key:=qw17v (f:=qx9n2 (((n:Int),d,l,()),((m:Int),e,k,()),())) (m+k.length) (fun j=>((j:Int),(0,0,[],()),pushTo M x j,(((min j M:Nat):Int),addTo M x j,()),())) (fun j=>cond (decide (x j > 1048576)) (some ((6,(0,0,[],()),pushTo M x (j+1),(((min (j+1) M:Nat):Int),addTo M x (j+1),()),()):ThenU)) none) (.inl ((0,0,[],()),pushTo M x (m+k.length),(((M:Nat):Int),x (M - 1),()),())) (fun j hj=>by
    have hb:=q5s0p hs hr j
    have hlen:=qoot8 M x j
    have e1:IntKind.i64.wrap ((n:Int) - 1)=(n:Int) - 1:=wrap64 (by omega) (by omega)
    have e2:IntKind.i64.wrap ((m:Int) - 1)=(m:Int) - 1:=wrap64 (by omega) (by omega)
    have hp:=qoa3m (n:=m) (d:=e) (l:=k) (by omega) (by omega) hj
    unfold qx9n2
    by_cases hjm:j < m
    · have hq:=qoa3m (n:=n) (d:=d) (l:=l) (by omega) (by omega) (show j < n+l.length by omega)
      have hx:IntKind.i64.wrap (plc m e k j+plc n d l j)=x j:=by
        have:x j=plc m e k j+plc n d l j:=by show thenX n d l m e k j=_; unfold thenX; rw [if_pos hjm]
        rw [this]
        have h2:0≤x j∧x j≤2097152:=hb
        rw [this] at h2
        exact wrap64 (by omega) (by omega)
      simp (disch:=first | assumption | omega) only [cond_true,Option.bind_some,Sum.elim_inl,dcT,wrapS,List.length_cons,List.length_nil,room8,Bool.and_self,qwekz (show m+k.length≤4 by omega),hp,hq,hx]
      by_cases hjn:j < n
      · have hM:j < M:=by show j < min m n; omega
        have hmin:((min (j+1) M:Nat):Int)=((j+1:Nat):Int):=by rw [Nat.min_eq_left (by omega)]
        rw [q174k x hM,hmin]
        by_cases hlast:j+1=M
        · have ha:addTo M x (j+1)=x j:=by unfold addTo; rw [if_pos (by omega),←hlast]; rfl
          rw [ha]
          by_cases hn1:j+1=n
          · have q1:((j:Int) == (n:Int) - 1)=true:=beqT (by omega)
            simp (disch:=first | assumption | omega) only [cond_true,dcT,e1,e2,q1]
            by_cases hx2:x j > 1048576 <;> simp (disch:=first | assumption | omega) only [decide_true,decide_false,cond_true,cond_false,hx2] <;> rfl
          · have hm1:j+1=m:=by have:M=min m n:=rfl; omega
            have q1:((j:Int) == (n:Int) - 1)=false:=beqF (by omega)
            have q2:((j:Int) == (m:Int) - 1)=true:=beqT (by omega)
            simp (disch:=first | assumption | omega) only [cond_true,cond_false,dcT,e1,e2,q1,q2]
            by_cases hx2:x j > 1048576 <;> simp (disch:=first | assumption | omega) only [decide_true,decide_false,cond_true,cond_false,hx2] <;> rfl
        · have q1:((j:Int) == (n:Int) - 1)=false:=beqF (by have:M=min m n:=rfl; omega)
          have q2:((j:Int) == (m:Int) - 1)=false:=beqF (by have:M=min m n:=rfl; omega)
          have ha:addTo M x (j+1)=0:=by unfold addTo; rw [if_neg (by omega)]
          have hb:addTo M x j=0:=by unfold addTo; rw [if_neg (by omega)]
          rw [ha,hb]
          simp (disch:=first | assumption | omega) only [cond_true,cond_false,dcT,e1,e2,q1,q2]
          by_cases hx2:x j > 1048576 <;> simp (disch:=first | assumption | omega) only [decide_true,decide_false,cond_true,cond_false,hx2] <;> rfl
      · have hM:¬ j < M:=by show ¬ j < min m n; omega
        have hmin:((min (j+1) M:Nat):Int)=((min j M:Nat):Int):=by rw [Nat.min_eq_right (by omega),Nat.min_eq_right (by omega)]
        have ha:addTo M x (j+1)=addTo M x j:=by unfold addTo; rw [if_pos (by omega),if_pos (by omega)]
        rw [qxqn5 x hM,hmin,ha]
        simp (disch:=first | assumption | omega) only [cond_false,dcF]
        by_cases hx2:x j > 1048576 <;> simp (disch:=first | assumption | omega) only [decide_true,decide_false,cond_true,cond_false,hx2] <;> rfl
    · have hM:¬ j < M:=by show ¬ j < min m n; omega
      have hx:plc m e k j=x j:=by show _=thenX n d l m e k j; unfold thenX; rw [if_neg hjm]
      have hmin:((min (j+1) M:Nat):Int)=((min j M:Nat):Int):=by rw [Nat.min_eq_right (by omega),Nat.min_eq_right (by omega)]
      have ha:addTo M x (j+1)=addTo M x j:=by unfold addTo; rw [if_pos (by omega),if_pos (by omega)]
      rw [qxqn5 x hM,hmin,ha]
      simp (disch:=first | assumption | omega) only [cond_true,cond_false,Option.bind_some,Sum.elim_inl,dcT,dcF,wrapS,List.length_cons,List.length_nil,room8,Bool.and_self,qwekz (show m+k.length≤4 by omega),hp,hx]
      by_cases hx2:x j > 1048576 <;> simp (disch:=first | assumption | omega) only [decide_true,decide_false,cond_true,cond_false,hx2] <;> rfl) (by
    have hmin:((min (m+k.length) M:Nat):Int)=((M:Nat):Int):=by rw [Nat.min_eq_right (by show min m n≤_; omega)]
    have ha:addTo M x (m+k.length)=x (M - 1):=by unfold addTo; rw [if_pos (by show min m n≤_; omega)]
    rw [hmin,ha]
    unfold qx9n2
    simp (disch:=first | assumption | omega) only [cond_false,Option.bind_some,Sum.elim_inl,dcF,wrapS,List.length_cons,List.length_nil,Bool.and_true,Bool.true_and,qwekz (show m+k.length≤4 by omega)]) (s0:=(0,(0,0,[],()),[],(0,0,()),())) (by
    have h1:pushTo M x 0=[]:=by unfold pushTo; rw [Nat.zero_sub]; rfl
    have h2:addTo M x 0=0:=by unfold addTo; rw [if_neg (by show ¬ min m n≤0; omega)]
    rw [h1,h2,Nat.zero_min]; rfl)
  unfold qpb1b
  simp (disch:=first | assumption | omega) only [cond_false,Option.bind_some,q9949,hs,hr,bneF,qwekz (show n+l.length≤4 by omega),key]
  have hU:∀ j,((6,(0,0,[],()),pushTo M x (j+1),(((min (j+1) M:Nat):Int),addTo M x (j+1),()),()):ThenU)=U j:=fun j=>rfl
  unfold thenR
  by_cases hx:x (m - 1) > 1048576
  · have hf:∃ j,((List.range (m+k.length)).findSome? fun j=>cond (decide (x j > 1048576)) (some (U j)) none)=some (U j):=by
      cases hf:(List.range (m+k.length)).findSome? fun j=>cond (decide (x j > 1048576)) (some (U j)) none with
      | none =>
        have:=List.findSome?_eq_none_iff.1 hf (m - 1) (List.mem_range.2 (by omega))
        rw [decide_eq_true hx] at this; cases this
      | some v =>
        obtain ⟨j,_,hj⟩:=List.exists_of_findSome?_eq_some hf
        cases hd:decide (x j > 1048576)
        · rw [hd] at hj; cases hj
        · rw [hd] at hj; cases hj; exact ⟨j,rfl⟩
    obtain ⟨j,hj⟩:=hf
    rw [hj,if_pos hx]; rfl
  · have hf:((List.range (m+k.length)).findSome? fun j=>cond (decide (x j > 1048576)) (some (U j)) none)=none:=List.findSome?_eq_none_iff.2 fun j _=>by
      have:¬ x j > 1048576:=by
        by_cases h:j=m - 1
        · rw [h]; exact hx
        · have:x j≤1048576:=q7tfe hs hr h
          omega
      rw [decide_eq_false this]; rfl
    rw [hf,if_neg hx]; rfl
def plcs (n:Nat) (d:Int) (l:List Int) (i:Nat):Int × Bool × Unit:=(plc n d l i,decide (i < n),())
theorem qkr8a {n:Nat} {d:Int} {l:List Int} (h1:1≤n) (h:n+l.length≤4):qzro4 (((n:Int),d,l,()),())=some (tab (n+l.length) (plcs n d l),()):=by
  have l1:=q9h1y (f:=qb4a6 (((n:Int),d,l,()),())) n (fun j=>((j:Int),tab n (fun i=>((0:Int),decide (i < j),())),())) (.inl (tab n (fun i=>((0:Int),decide (i < n),())),())) (fun j hj=>by
    unfold qb4a6
    simp (disch:=first | assumption | omega) only [cond_true,Option.bind_some,dcT,dcF,qtauo,inB_T,Int.toNat_natCast,wrapS,qf6uf,List.length_replicate,qq0ob]
    refine congrArg (fun x=>some (Sum.inl (_,x,()))) (qrnyd fun i _=>?_)
    by_cases e:i=j
    · subst e; simp
    · have:decide (i < j+1)=decide (i < j):=by simp; omega
      rw [if_neg e,this]) (by
    unfold qb4a6
    simp (disch:=first | assumption | omega) only [cond_false,dcF,Int.toNat_natCast,wrapS,qf6uf,List.length_replicate]) (s0:=(0,List.replicate n ((0:Int),false,()),())) (by rw [qeprz]; rfl)
  have e1:IntKind.i64.wrap ((n:Int) - 1)=((n - 1:Nat):Int):=by rw [wrap64 (by omega) (by omega)]; omega
  have e2:(tab n (fun i=>((0:Int),decide (i < n),()))).set (n - 1) (d,true,())=tab n (plcs n d l):=by
    rw [qq0ob]
    refine qrnyd fun i hi=>?_
    unfold plcs plc
    by_cases e:i=n - 1
    · rw [if_pos e,if_pos hi,if_pos (by omega),e,decide_eq_true (show n - 1 < n by omega)]
    · rw [if_neg e,if_pos hi,if_neg (by omega)]
  have l2:=q9h1y (f:=qkorp (((n:Int),d,l,()),())) l.length (fun j=>(tab (n+j) (plcs n d l),(j:Int),())) (.inl (tab (n+l.length) (plcs n d l),())) (fun j hj=>by
    have e3:plcs n d l (n+j)=(l.getD j 0,false,()):=by
      unfold plcs plc
      rw [if_neg (by omega),decide_eq_false (by omega),show n+j - n=j by omega]
    unfold qkorp
    simp (disch:=first | assumption | omega) only [cond_true,Option.bind_some,dcT,wrapS,qf6uf,List.length_cons,List.length_nil,room16,Bool.and_self,qf5xd,←Nat.add_assoc,qne2u,e3]) (by
    unfold qkorp
    simp (disch:=first | assumption | omega) only [cond_true,cond_false,dcF,wrapS,qf6uf,List.length_cons,List.length_nil,room16,Bool.and_self]) (s0:=(tab n (plcs n d l),0,())) rfl
  unfold qzro4
  simp (disch:=first | assumption | omega) only [cond_true,Option.bind_some,Sum.elim_inl,dcT,qtauo,inB_T,Int.toNat_natCast,qf6uf,room16,Bool.and_true,Bool.true_and,Bool.and_self,q032v h,l1,e1,e2,l2]
def qafgx (n:Nat) (d:Int) (l:List Int) (m:Nat) (e:Int) (k:List Int) (i:Nat):Bool:=decide (plc n d l i > plc m e k i) || (decide (i < n) && !decide (i < m))
theorem qxrq2 {n m:Nat} {d e:Int} {l k:List Int} (hs:sck n d l 4=0) (hr:sck m e k 4=0) :
    qkjw2 (((n:Int),d,l,()),((m:Int),e,k,()),())=some (decide (n+l.length=m+k.length) && !(List.range (n+l.length)).any (qafgx n d l m e k),()):=by
  obtain ⟨s1,s2,s3,s4,s5,s6⟩:=q5p43 hs
  obtain ⟨r1,r2,r3,r4,r5,r6⟩:=q5p43 hr
  unfold qkjw2
  simp (disch:=first | assumption | omega) only [cond_false,Option.bind_some,qr2g6,hs,hr,bneF,q032v (show n+l.length≤4 by omega),q032v (show m+k.length≤4 by omega)]
  by_cases hq:n+l.length=m+k.length
  · have q1:(((n+l.length:Nat):Int) != ((m+k.length:Nat):Int))=false:=bneF (by omega)
    have key:loopM (qrcpz (tab (n+l.length) (plcs n d l),()) (tab (m+k.length) (plcs m e k),())) (0,())=some (if (List.range (n+l.length)).any (qafgx n d l m e k)=true then .inl (false,()) else .inr (.inl ())):=by
      refine q238v (n+l.length) () _ _ _ (fun i hi=>?_) ?_
      · have hi2:i < m+k.length:=by omega
        unfold qrcpz
        simp (disch:=first | assumption | omega) only [cond_true,Option.bind_some,dcT,qtauo,inB_T,Int.toNat_natCast,wrapS,qf6uf]
        unfold qafgx plcs
        by_cases h1:plc n d l i > plc m e k i
        · simp (disch:=first | assumption | omega) only [decide_true,cond_true,h1] <;> rfl
        · simp (disch:=first | assumption | omega) only [decide_false,cond_false,h1,Bool.false_or]
          cases decide (i < n) <;> cases decide (i < m) <;> rfl
      · unfold qrcpz
        simp (disch:=first | assumption | omega) only [cond_false,dcF,Int.toNat_natCast,wrapS,qf6uf]
    simp (disch:=first | assumption | omega) only [cond_false,Option.bind_some,dcT,Bool.true_and,q1,qkr8a (n:=n) (d:=d) (l:=l) (by omega) (by omega),qkr8a (n:=m) (d:=e) (l:=k) (by omega) (by omega),key]
    cases (List.range (n+l.length)).any (qafgx n d l m e k) <;> rfl
  · have q1:(((n+l.length:Nat):Int) != ((m+k.length:Nat):Int))=true:=bneT (by omega)
    simp (disch:=first | assumption | omega) only [decide_false,cond_true,q1,hq,Bool.false_and]
theorem qnt10 {n m:Nat} {d e:Int} {l k:List Int} (hs:sck n d l 4=0) (hr:sck m e k 4=0) :
    q5r8z (((n:Int),d,l,()),((m:Int),e,k,()),())=some (decide (n+l.length=m+k.length) && !(List.range (n+l.length)).any (qafgx n d l m e k),()):=by
  obtain ⟨s1,s2,s3,s4,s5,s6⟩:=q5p43 hs
  obtain ⟨r1,r2,r3,r4,r5,r6⟩:=q5p43 hr
  unfold q5r8z
  simp (disch:=first | assumption | omega) only [cond_false,Option.bind_some,q9949,hs,hr,bneF,qwekz (show n+l.length≤4 by omega),qwekz (show m+k.length≤4 by omega)]
  by_cases hq:n+l.length=m+k.length
  · have q1:(((n+l.length:Nat):Int) != ((m+k.length:Nat):Int))=false:=bneF (by omega)
    have key:loopM (qykqs (((n:Int),d,l,()),((m:Int),e,k,()),())) (0,())=some (if (List.range (n+l.length)).any (qafgx n d l m e k)=true then .inl (false,()) else .inr (.inl ())):=by
      refine q238v (n+l.length) () _ _ _ (fun i hi=>?_) ?_
      · have hp:=qoa3m (n:=n) (d:=d) (l:=l) (by omega) (by omega) hi
        have hp2:=qoa3m (n:=m) (d:=e) (l:=k) (by omega) (by omega) (show i < m+k.length by omega)
        unfold qykqs
        simp (disch:=first | assumption | omega) only [cond_true,Option.bind_some,dcT,wrapS,qwekz (show n+l.length≤4 by omega),hp,hp2]
        unfold qafgx
        by_cases h1:plc n d l i > plc m e k i
        · simp (disch:=first | assumption | omega) only [decide_true,cond_true,h1] <;> rfl
        · by_cases h2:i < n
          · by_cases h3:i < m
            · simp (disch:=first | assumption | omega) only [decide_true,decide_false,cond_true,cond_false,dcT,dcF,Bool.true_and,Bool.not_true,h1,h2,h3] <;> rfl
            · simp (disch:=first | assumption | omega) only [decide_true,decide_false,cond_true,cond_false,dcT,Bool.and_self,Bool.not_false,h1,h2,h3] <;> rfl
          · simp (disch:=first | assumption | omega) only [decide_false,cond_false,dcF,h1,h2] <;> rfl
      · unfold qykqs
        simp (disch:=first | assumption | omega) only [cond_true,cond_false,Option.bind_some,dcT,dcF,wrapS,qwekz (show n+l.length≤4 by omega)]
    simp (disch:=first | assumption | omega) only [cond_false,Option.bind_some,dcT,Bool.true_and,q1,key]
    cases (List.range (n+l.length)).any (qafgx n d l m e k) <;> rfl
  · have q1:(((n+l.length:Nat):Int) != ((m+k.length:Nat):Int))=true:=bneT (by omega)
    simp (disch:=first | assumption | omega) only [decide_false,cond_true,q1,hq,Bool.false_and]
end

section
open Go Go.Abs

def chk (l:List Int):Int:=if l.length=0∨l.length > 4 then 1 else if l.any bad=true then 2 else 0
theorem qvov9 {l:List Int} (h:chk l=0):0 < l.length∧l.length≤4∧∀ (i:Nat) (v:Int),l[i]? = some v→0≤v∧v≤1048576:=by
  unfold chk at h
  split at h
  · cases h
  · split at h
    · cases h
    · rename_i h1 h2
      refine ⟨by omega,by omega,fun i v hi=>bad_ok ?_⟩
      have hm:=List.mem_of_getElem? hi
      cases hb:bad v with
      | false=>rfl
      | true=>exact absurd (List.any_eq_true.2 ⟨v,hm,hb⟩) h2
theorem q5umu (l:List Int) (hl:l.length≤4):loopM (qjmxa (l,())) (0,())=some (if l.any bad=true then Sum.inl (2,()) else Sum.inr (Sum.inl ())):=by
  refine q2sm4 l bad (Sum.inl (2,())) (Sum.inr (Sum.inl ())) (fun i v hi=>?_) ?_
  · have hlt:=(List.getElem?_eq_some_iff.1 hi).1
    have hi':((i:Int) < (l.length:Int)):=by omega
    unfold qjmxa
    simp only [hi',decide_true,cond_true,qooa6,hi,Option.bind_some]
    rw [wrap64 (by omega) (by omega)]
    exact q38lk v _ _
  · simp [qjmxa]
theorem q3ong (l:List Int) (hl:l.length≤4):loopM (q5wa9 (l,())) (0,())=some (if l.any bad=true then Sum.inl (2,()) else Sum.inr (Sum.inl ())):=by
  refine q2sm4 l bad (Sum.inl (2,())) (Sum.inr (Sum.inl ())) (fun i v hi=>?_) ?_
  · have hlt:=(List.getElem?_eq_some_iff.1 hi).1
    have hi':((i:Int) < (l.length:Int)):=by omega
    unfold q5wa9
    simp only [hi',decide_true,cond_true,qooa6,hi,Option.bind_some]
    rw [wrap64 (by omega) (by omega)]
    exact q38lk v _ _
  · simp [q5wa9]
theorem qslxk (l:List Int):qo8y9 (l,())=some (chk l,()):=by
  unfold qo8y9 chk
  by_cases h0:l.length=0
  · simp [h0]
  · by_cases h4:l.length > 4
    · have:((l.length:Int) > 4):=by omega
      simp [h0,h4,this]
    · have h5:¬ ((l.length:Int) > 4):=by omega
      have h6:((l.length:Int) == 0)=false:=by simp; exact fun h=>h0 (by simp [h])
      simp only [h6,cond_false,h5,decide_false]
      have hn:¬ (l.length=0∨l.length > 4):=by omega
      rw [q5umu l (by omega),if_neg hn]
      split <;> rfl
theorem qs2ti (l:List Int):qu5bu (l,())=some (chk l,()):=by
  unfold qu5bu chk
  by_cases h0:l.length=0
  · simp [h0]
  · have h6:¬ ((l.length:Int) < 1):=by omega
    by_cases h4:l.length > 4
    · have:((l.length:Int) > 4):=by omega
      simp [h4,this,h6]
    · have h5:¬ ((l.length:Int) > 4):=by omega
      simp only [h6,cond_false,h5,decide_false]
      have hn:¬ (l.length=0∨l.length > 4):=by omega
      rw [q3ong l (by omega),if_neg hn]
      split <;> rfl
end

section
open Go Go.Abs

theorem q3cir {β:Type} (p:Nat→Bool) (g:Nat→β) (l:List Nat):(l.findSome? fun i=>cond (p i) (some (g i)) none)=(l.find? p).map g:=by
  induction l with
  | nil=>rfl
  | cons a r ih =>
    rw [List.findSome?_cons,List.find?_cons]
    cases p a with
    | true=>rfl
    | false=>exact ih
theorem q1bzg {p:Nat→Bool} {n:Nat} (h:(List.range n).find? p=none):∀ i,i < n→p i=false:=fun i hi=>by
  have:=List.find?_eq_none.1 h i (List.mem_range.2 hi)
  simpa using this
theorem qzvyn {β:Type} (p:Nat→Bool) (b:β) (l:List Nat):(l.findSome? fun r=>cond (p r) (some b) none)=if l.any p=true then some b else none:=by
  induction l with
  | nil=>rfl
  | cons a r ih =>
    rw [List.findSome?_cons,List.any_cons]
    cases p a with
    | true=>rfl
    | false=>rw [cond_false,ih]; simp
theorem getI_D {α:Type} {l:List α} {i:Int} (d:α) (h0:0≤i) (h1:i < l.length):getI l i=some (l.getD i.toNat d):=by
  obtain ⟨k,rfl⟩:=Int.eq_ofNat_of_zero_le h0
  rw [qooa6]
  rw [Int.toNat_natCast]
  exact q5s8r (by omega)
theorem q1j71 {α:Type} {l:List α} {i:Nat} (h:i < l.length):getI l (i:Int)=some l[i]:=by
  rw [qooa6,List.getElem?_eq_getElem h]
theorem qu8rx {n k:Nat} (h:n≤140737488355328) (h2:n*k≤140737488355328):roomOk n k=true:=by
  unfold roomOk
  rw [Bool.and_eq_true]
  exact ⟨Nat.ble_eq_true_of_le h,Nat.ble_eq_true_of_le h2⟩
end

section
open Go Go.Abs

def cmpL:List Int→List Int→Int
  | [],[]=>0
  | [],_ :: _=>-1
  | _ :: _,[]=>1
  | a :: r,b :: s=>if a < b then -1 else if a > b then 1 else cmpL r s
theorem cmpL_eq:∀ {a b:List Int},cmpL a b=0↔a=b
  | [],[]=>by simp [cmpL]
  | [],_ :: _=>by simp [cmpL]
  | _ :: _,[]=>by simp [cmpL]
  | a :: r,b :: s=>by
    have ih:=cmpL_eq (a:=r) (b:=s)
    simp only [cmpL,List.cons.injEq]
    split
    · constructor
      · intro h; omega
      · intro h; omega
    · split
      · constructor
        · intro h; omega
        · intro h; omega
      · rw [ih]; constructor
        · intro h; exact ⟨by omega,h⟩
        · exact fun h=>h.2
theorem qbq04:∀ (a b:List Int),cmpL b a=- cmpL a b
  | [],[]=>rfl
  | [],_ :: _=>rfl
  | _ :: _,[]=>rfl
  | a :: r,b :: s=>by
    have ih:=qbq04 r s
    simp only [cmpL]
    by_cases h1:a < b
    · rw [if_pos h1,if_neg (by omega),if_pos (by omega)]; rfl
    · by_cases h2:a > b
      · rw [if_pos (show b < a from h2),if_neg h1,if_pos h2]
      · rw [if_neg h1,if_neg h2,if_neg (by omega),if_neg (by omega),ih]
theorem qzobx:∀ {a b c:List Int},cmpL a b < 0→cmpL b c < 0→cmpL a c < 0
  | [],[],c,h,_=>by simp [cmpL] at h
  | [],_ :: _,[],_,h=>by simp [cmpL] at h
  | [],_ :: _,_ :: _,_,_=>by simp [cmpL]
  | _ :: _,[],_,h,_=>by simp [cmpL] at h
  | _ :: _,_ :: _,[],_,h=>by simp [cmpL] at h
  | a :: r,b :: s,c :: t,h1,h2=>by
    simp only [cmpL] at h1 h2 ⊢
    have ih:=qzobx (a:=r) (b:=s) (c:=t)
    by_cases hab:a < b
    · by_cases hbc:b < c
      · rw [if_pos (by omega)]; decide
      · rw [if_neg hbc] at h2
        by_cases hbc2:b > c
        · rw [if_pos hbc2] at h2; omega
        · rw [if_pos (by omega)]; decide
    · rw [if_neg hab] at h1
      by_cases hab2:a > b
      · rw [if_pos hab2] at h1; omega
      · rw [if_neg hab2] at h1
        by_cases hbc:b < c
        · rw [if_pos (by omega)]; decide
        · rw [if_neg hbc] at h2
          by_cases hbc2:b > c
          · rw [if_pos hbc2] at h2; omega
          · rw [if_neg hbc2] at h2
            rw [if_neg (by omega),if_neg (by omega)]
            exact ih h1 h2
theorem qjd07 (a:List Int):¬ cmpL a a < 0:=by rw [cmpL_eq.2 rfl]; decide
theorem qafso (v w:Int):qjids (v,w,())=some (if v < w then -1 else if v > w then 1 else 0,()):=by
  unfold qjids qmet9
  simp only [bneF rfl,Option.bind_some,cond_false,qlytz]
  split
  · rfl
  · split <;> rfl
theorem qx54q {a b:List Int} (ha:a.length≤1000000):q5twe (a,b,())=some (cmpL a b,()):=by
  have key:∀ k i,i+k=a.length→i≤b.length→(loopM (qu8on (a,b,())) ((i:Int),())).bind (Sum.elim (fun z5=>(some z5)) (Sum.elim (fun z6=>(cond (decide ((a.length:Int) < (b.length:Int))) (some ((-1:Int),())) (some ((0:Int),())))) Empty.elim))=some (cmpL (a.drop i) (b.drop i),()):=by
    intro k
    induction k with
    | zero =>
      intro i hi hb
      have hi':i=a.length:=by omega
      rw [q7xfb (b:=.inr (.inl ())) (by
        unfold qu8on
        simp only [dcF (show ¬ (i:Int) < (a.length:Int) by omega),cond_false])]
      rw [List.drop_of_length_le (by omega)]
      simp only [Option.bind_some,Sum.elim_inl,Sum.elim_inr,qlytz]
      by_cases hlt:i < b.length
      · rw [List.drop_eq_getElem_cons hlt,if_pos (by omega)]; rfl
      · rw [List.drop_of_length_le (by omega),if_neg (by omega)]; rfl
    | succ k ih =>
      intro i hi hb
      have hia:i < a.length:=by omega
      by_cases hib:i < b.length
      · have hst:qu8on (a,b,()) ((i:Int),())=cond (cmpL [a[i]] [b[i]] != 0) (some (.inr (.inl (cmpL [a[i]] [b[i]],())))) (some (.inl (((i+1:Nat):Int),()))):=by
          unfold qu8on
          simp only [dcT (show (i:Int) < (a.length:Int) by omega),dcF (show ¬ (i:Int) ≥ (b.length:Int) by omega),cond_true,cond_false,q1j71 hia,q1j71 hib,Option.bind_some,qafso,wrapS (show i < 9223372036854775807 by omega)]
          rfl
        rw [List.drop_eq_getElem_cons hia,List.drop_eq_getElem_cons hib]
        by_cases h1:a[i] < b[i]
        · have hc:cmpL [a[i]] [b[i]]=-1:=by simp only [cmpL,if_pos h1]
          rw [hc] at hst
          rw [q7xfb hst]; simp only [cmpL,if_pos h1]; rfl
        · by_cases h2:a[i] > b[i]
          · have hc:cmpL [a[i]] [b[i]]=1:=by simp only [cmpL,if_neg h1,if_pos h2]
            rw [hc] at hst
            rw [q7xfb hst]; simp only [cmpL,if_neg h1,if_pos h2]; rfl
          · have hc:cmpL [a[i]] [b[i]]=0:=by simp only [cmpL,if_neg h1,if_neg h2]
            rw [hc] at hst
            rw [q2k3l hst,ih (i+1) (by omega) (by omega)]
            simp only [cmpL,if_neg h1,if_neg h2]
      · have hst:qu8on (a,b,()) ((i:Int),())=some (.inr (.inl ((1:Int),()))):=by
          unfold qu8on
          simp only [dcT (show (i:Int) < (a.length:Int) by omega),dcT (show (i:Int) ≥ (b.length:Int) by omega),cond_true,q1j71 hia,Option.bind_some]
        rw [q7xfb hst,List.drop_eq_getElem_cons hia,List.drop_of_length_le (l:=b) (show b.length≤i by omega)]
        rfl
  unfold q5twe
  exact key a.length 0 (by omega) (by omega)
def lessB (a b:List Int):Bool:=decide (a.length=b.length) && (decide (chk a=0) && (decide (chk b=0) && decide (cmpL a b < 0)))
theorem qg4se {a b:List Int} (h:a.length=b.length) (ha:chk a=0) (hb:chk b=0):lessB a b=decide (cmpL a b < 0):=by
  unfold lessB
  rw [decide_eq_true h,decide_eq_true ha,decide_eq_true hb]; rfl
theorem qhixv (a b:List Int):qmz58 (a,b,())=some (lessB a b,()):=by
  unfold qmz58 lessB
  simp only [qs2ti,Option.bind_some,qerg8]
  by_cases h:a.length=b.length
  · rw [if_pos (by omega),decide_eq_true h]
    by_cases h2:chk a=0
    · rw [if_pos h2,decide_eq_true h2]
      by_cases h3:chk b=0
      · rw [if_pos h3,decide_eq_true h3]
        have h4:=(qvov9 h2).2.1
        have key:∀ k i,i+k=a.length→(loopM (qswza (a,b,())) ((i:Int),())).bind (Sum.elim (fun z8=>(some z8)) (Sum.elim (fun z9=>(some (false,()))) Empty.elim))=some (decide (cmpL (a.drop i) (b.drop i) < 0),()):=by
          intro k
          induction k with
          | zero =>
            intro i hi
            rw [q7xfb (b:=.inr (.inl ())) (by
              unfold qswza
              simp only [dcF (show ¬ (i:Int) < (a.length:Int) by omega),cond_false])]
            rw [List.drop_of_length_le (by omega),List.drop_of_length_le (by omega)]; rfl
          | succ k ih =>
            intro i hi
            have hia:i < a.length:=by omega
            have hib:i < b.length:=by omega
            have hst:qswza (a,b,()) ((i:Int),())=cond (a[i] != b[i]) (some (.inr (.inl (decide (a[i] < b[i]),())))) (some (.inl (((i+1:Nat):Int),()))):=by
              unfold qswza
              simp only [dcT (show (i:Int) < (a.length:Int) by omega),cond_true,q1j71 hia,q1j71 hib,Option.bind_some,wrapS (show i < 9223372036854775807 by omega)]
            rw [List.drop_eq_getElem_cons hia,List.drop_eq_getElem_cons hib]
            by_cases he:a[i]=b[i]
            · rw [bneF he,cond_false] at hst
              rw [q2k3l hst,ih (i+1) (by omega)]
              simp only [cmpL,if_neg (show ¬ a[i] < b[i] by omega),if_neg (show ¬ a[i] > b[i] by omega)]
            · rw [bneT he,cond_true] at hst
              rw [q7xfb hst]
              by_cases h1:a[i] < b[i]
              · simp only [cmpL,if_pos h1,decide_eq_true h1]; rfl
              · simp only [cmpL,if_neg h1,if_pos (show a[i] > b[i] by omega),decide_eq_false h1]; rfl
        exact key a.length 0 (by omega)
      · rw [if_neg h3,decide_eq_false h3]; rfl
    · rw [if_neg h2,decide_eq_false h2]; rfl
  · rw [if_neg (by omega),decide_eq_false h]; rfl
theorem qkwh8 {a b:List Int} (ha:a.length≤1000000):q8gh2 (a,b,())=some (decide (a=b),()):=by
  unfold q8gh2
  simp only [qerg8]
  by_cases h:a.length=b.length
  · rw [if_pos (by omega)]
    have key:∀ k i,i+k=a.length→(loopM (qtyzz (a,b,())) ((i:Int),())).bind (Sum.elim (fun z8=>(some z8)) (Sum.elim (fun z9=>(some (true,()))) Empty.elim))=some (decide (a.drop i=b.drop i),()):=by
      intro k
      induction k with
      | zero =>
        intro i hi
        rw [q7xfb (b:=.inr (.inl ())) (by
          unfold qtyzz
          simp only [dcF (show ¬ (i:Int) < (a.length:Int) by omega),cond_false])]
        rw [List.drop_of_length_le (by omega),List.drop_of_length_le (by omega)]; rfl
      | succ k ih =>
        intro i hi
        have hia:i < a.length:=by omega
        have hib:i < b.length:=by omega
        have hst:qtyzz (a,b,()) ((i:Int),())=cond (a[i] != b[i]) (some (.inr (.inl (false,())))) (some (.inl (((i+1:Nat):Int),()))):=by
          unfold qtyzz
          simp only [dcT (show (i:Int) < (a.length:Int) by omega),cond_true,q1j71 hia,q1j71 hib,Option.bind_some,wrapS (show i < 9223372036854775807 by omega)]
        rw [List.drop_eq_getElem_cons hia,List.drop_eq_getElem_cons hib]
        by_cases he:a[i]=b[i]
        · rw [bneF he,cond_false] at hst
          rw [q2k3l hst,ih (i+1) (by omega)]
          exact congrArg (fun x=>some (x,())) (decide_eq_decide.2 (by rw [List.cons.injEq]; exact ⟨fun h=>⟨he,h⟩,fun h=>h.2⟩))
        · rw [bneT he,cond_true] at hst
          rw [q7xfb hst]
          rw [decide_eq_false (fun h=>he (List.cons.inj h).1)]; rfl
    exact key a.length 0 (by omega)
  · rw [if_neg (by omega),decide_eq_false (fun e=>h (by rw [e]))]
end

section
open Go Go.Abs

end

section
open Go Go.Abs

end

section
open Go Go.Abs

def insT (t:List Int):List (List Int)→List (List Int)
  | []=>[t]
  | u :: l=>if cmpL u t < 0 then u :: insT t l else if u=t then u :: l else t :: u :: l
def ltP (t:List Int) (u:List Int):Bool:=decide (cmpL u t < 0)
theorem ins_split (t:List Int):∀ out:List (List Int),insT t out=match out.dropWhile (ltP t) with
    | []=>out.takeWhile (ltP t)++[t]
    | u :: l=>if u=t then out else out.takeWhile (ltP t)++t :: u :: l
  | []=>rfl
  | u :: l=>by
    have ih:=ins_split t l
    rw [insT,List.dropWhile_cons,List.takeWhile_cons]
    by_cases h:cmpL u t < 0
    · have hp:ltP t u=true:=decide_eq_true h
      rw [if_pos h,if_pos hp,if_pos hp,ih]
      cases List.dropWhile (ltP t) l with
      | nil=>rfl
      | cons v m =>
        simp only
        split
        · rfl
        · rfl
    · have hp:¬ ltP t u=true:=fun e=>h (of_decide_eq_true e)
      rw [if_neg h,if_neg hp,if_neg hp]
      rfl
theorem qbxe8 {p:List Int→Bool}:∀ l:List (List Int),l.take (l.takeWhile p).length=l.takeWhile p
  | []=>rfl
  | u :: l=>by
    rw [List.takeWhile_cons]
    split
    · rw [List.length_cons,List.take_succ_cons,qbxe8 l]
    · rfl
theorem qa0wd {p:List Int→Bool}:∀ l:List (List Int),l.drop (l.takeWhile p).length=l.dropWhile p
  | []=>rfl
  | u :: l=>by
    rw [List.takeWhile_cons,List.dropWhile_cons]
    split
    · rw [List.length_cons,List.drop_succ_cons,qa0wd l]
    · rfl
theorem qjryv {p:List Int→Bool} (l:List (List Int)):(l.takeWhile p).length≤l.length:=(List.takeWhile_prefix p).length_le
theorem q2ebt {out:List (List Int)} {t:List Int} (z:Int × Unit) (hl:out.length≤30000000) (hp:∀ u∈out,lessB u t=ltP t u) :
    loopM (q89sy (out,z) t) ((0:Int),())=some (.inl ((((out.takeWhile (ltP t)).length:Nat):Int),())):=by
  have key:∀ k i,i+k=out.length→loopM (q89sy (out,z) t) ((i:Int),())=some (.inl (((i+((out.drop i).takeWhile (ltP t)).length:Nat):Int),())):=by
    intro k
    induction k with
    | zero =>
      intro i hi
      rw [q7xfb (b:=.inl ((i:Int),())) (by
        unfold q89sy
        simp only [dcF (show ¬ (i:Int) < (out.length:Int) by omega),cond_false])]
      rw [List.drop_of_length_le (by omega)]; rfl
    | succ k ih =>
      intro i hi
      have hlt:i < out.length:=by omega
      have hst:q89sy (out,z) t ((i:Int),())=cond (ltP t out[i]) (some (.inl (((i+1:Nat):Int),()))) (some (.inr (.inl ((i:Int),())))):=by
        unfold q89sy
        simp only [dcT (show (i:Int) < (out.length:Int) by omega),cond_true,q1j71 hlt,Option.bind_some,qhixv,hp _ (List.getElem_mem hlt),wrapS (show i < 9223372036854775807 by omega)]
      rw [List.drop_eq_getElem_cons hlt,List.takeWhile_cons]
      cases hb:ltP t out[i] with
      | true =>
        rw [hb,cond_true] at hst
        rw [q2k3l hst,ih (i+1) (by omega)]
        simp only [if_true,List.length_cons]
        rw [show i+1+((out.drop (i+1)).takeWhile (ltP t)).length=i+(((out.drop (i+1)).takeWhile (ltP t)).length+1) by omega]
      | false =>
        rw [hb,cond_false] at hst
        rw [q7xfb hst]; rfl
  have:=key out.length 0 (by omega)
  rw [List.drop_zero,Nat.zero_add] at this
  exact this
theorem qz15o {out:List (List Int)} (z:Int × Unit) {m:Nat} (hm:m≤out.length) (hl:out.length≤30000000) :
    loopM (qbbql ((m:Int),()) (out,z)) (([]:List (List Int)),(0:Int),())=some (.inl (out.take m,())):=by
  refine q9h1y m (fun i=>(out.take i,(i:Int),())) _ (fun i hi=>?_) ?_ rfl
  · unfold qbbql
    have hlt:i < out.length:=by omega
    have hlen:(out.take i).length+(0+1)=i+1:=by rw [List.length_take]; omega
    simp only [dcT (show (i:Int) < (m:Int) by omega),cond_true,q1j71 hlt,Option.bind_some,List.length_cons,List.length_nil,hlen,qu8rx (show i+1≤140737488355328 by omega) (show (i+1)*24≤140737488355328 by omega),wrapS (show i < 9223372036854775807 by omega),Bool.and_true]
    rw [List.take_succ_eq_append_getElem hlt]
  · unfold qbbql
    simp only [dcF (show ¬ (m:Int) < (m:Int) by omega),cond_false]
theorem qcl0p {out pre:List (List Int)} (z:Int × Unit) {m:Nat} (hm:m≤out.length) (hl:out.length≤30000000) (hp:pre.length≤30000000) :
    loopM (qaqps (out,z)) (pre,(m:Int),())=some (.inl (pre++out.drop m,())):=by
  have e:pre++out.drop m=pre++(out.drop m).take (out.length - m):=by rw [List.take_of_length_le (by rw [List.length_drop]; omega)]
  rw [e]
  refine q9h1y (out.length - m) (fun i=>(pre++(out.drop m).take i,((m+i:Nat):Int),())) _ (fun i hi=>?_) ?_ (by simp)
  · unfold qaqps
    have hlt:m+i < out.length:=by omega
    have hlt2:i < (out.drop m).length:=by rw [List.length_drop]; omega
    have hlen:(pre++(out.drop m).take i).length+(0+1)=pre.length+i+1:=by rw [List.length_append,List.length_take,List.length_drop]; omega
    simp only [dcT (show ((m+i:Nat):Int) < (out.length:Int) by omega),cond_true,q1j71 hlt,Option.bind_some,List.length_cons,List.length_nil,hlen,qu8rx (show pre.length+i+1≤140737488355328 by omega) (show (pre.length+i+1)*24≤140737488355328 by omega),wrapS (show m+i < 9223372036854775807 by omega),Bool.and_true]
    rw [List.take_succ_eq_append_getElem hlt2,List.getElem_drop,List.append_assoc]
    rfl
  · unfold qaqps
    simp only [dcF (show ¬ ((m+(out.length - m):Nat):Int) < (out.length:Int) by omega),cond_false]
theorem l4_l2:q5ytb=qbbql:=rfl
theorem l5_l3:q3vo1=qaqps:=rfl
theorem qlh9y (t:List Int):∀ out:List (List Int),(insT t out).length≤out.length+1
  | []=>Nat.le_refl _
  | u :: l=>by
    have:=qlh9y t l
    simp only [insT]
    split
    · simp only [List.length_cons]; omega
    · split <;> simp only [List.length_cons] <;> omega
theorem ins_mem {t v:List Int}:∀ {out:List (List Int)},v∈insT t out↔v=t∨v∈out
  | []=>by simp [insT]
  | u :: l=>by
    have ih:=ins_mem (t:=t) (v:=v) (out:=l)
    simp only [insT]
    split
    · rw [List.mem_cons,ih,List.mem_cons]
      constructor
      · rintro (h | h | h)
        · exact .inr (.inl h)
        · exact .inl h
        · exact .inr (.inr h)
      · rintro (h | h | h)
        · exact .inr (.inl h)
        · exact .inl h
        · exact .inr (.inr h)
    · split
      · rename_i h
        rw [List.mem_cons,←h]
        constructor
        · exact fun h=>.inr h
        · rintro (h | h)
          · exact .inl h
          · exact h
      · rw [List.mem_cons]
theorem ins_up {t:List Int}:∀ {out:List (List Int)},out.Pairwise (fun a b=>cmpL a b < 0)→(insT t out).Pairwise fun a b=>cmpL a b < 0
  | [],_=>by simp [insT]
  | u :: l,h=>by
    have h1:=List.pairwise_cons.1 h
    simp only [insT]
    split
    · rename_i hu
      rw [List.pairwise_cons]
      refine ⟨fun v hv=>?_,ins_up h1.2⟩
      rcases ins_mem.1 hv with rfl | hv
      · exact hu
      · exact h1.1 v hv
    · rename_i hu
      split
      · exact h
      · rename_i hne
        have htu:cmpL t u < 0:=by
          have h2:=qbq04 u t
          have h3:cmpL u t≠0:=fun e=>hne (cmpL_eq.1 e)
          omega
        rw [List.pairwise_cons]
        refine ⟨fun v hv=>?_,h⟩
        rcases List.mem_cons.1 hv with rfl | hv
        · exact htu
        · exact qzobx htu (h1.1 v hv)
def sortT (l:List (List Int)):List (List Int):=l.foldl (fun out t=>insT t out) []
theorem qjz6a (l:List (List Int)) (t:List Int):sortT (l++[t])=insT t (sortT l):=by
  unfold sortT; rw [List.foldl_append]; rfl
theorem qzjcq (l:List (List Int)):(sortT l).length≤l.length∧(∀ v,v∈sortT l↔v∈l)∧(sortT l).Pairwise fun a b=>cmpL a b < 0:=by
  have key:∀ k,k≤l.length→(sortT (l.take k)).length≤k∧(∀ v,v∈sortT (l.take k)↔v∈l.take k)∧(sortT (l.take k)).Pairwise fun a b=>cmpL a b < 0:=by
    intro k
    induction k with
    | zero=>intro _; rw [List.take_zero]; exact ⟨Nat.le_refl _,fun v=>Iff.rfl,List.Pairwise.nil⟩
    | succ k ih =>
      intro hk
      obtain ⟨h1,h2,h3⟩:=ih (by omega)
      rw [List.take_succ_eq_append_getElem (by omega),qjz6a]
      refine ⟨Nat.le_trans (qlh9y _ _) (by omega),fun v=>?_,ins_up h3⟩
      rw [ins_mem,h2,List.mem_append,List.mem_singleton]
      exact Or.comm
  have:=key l.length (Nat.le_refl _)
  rwa [List.take_length] at this
theorem qfvjj {l:List (List Int)} (hl:l.length≤20000000) (d:Nat) (hf:∀ t∈l,chk t=0∧t.length=d):q3z3c (l,())=some (sortT l,()):=by
  have key:loopM (q371h (l,())) (([]:List (List Int)),(0:Int),())=some (.inl (sortT l,())):=by
    refine q9h1y l.length (fun i=>(sortT (l.take i),(i:Int),())) _ (fun i hi=>?_) ?_ rfl
    · have hfi:=hf l[i] (List.getElem_mem hi)
      obtain ⟨s1,s2,s3⟩:=qzjcq (l.take i)
      have hso:(sortT (l.take i)).length≤20000000:=by rw [List.length_take] at s1; omega
      have hok:∀ u∈sortT (l.take i),chk u=0∧u.length=d:=fun u hu=>hf u (List.mem_of_mem_take ((s2 u).1 hu))
      have hless:∀ u∈sortT (l.take i),lessB u l[i]=ltP l[i] u:=fun u hu=>by
        have:=hok u hu
        rw [qg4se (by omega) this.1 hfi.1]; rfl
      rw [List.take_succ_eq_append_getElem hi,qjz6a]
      generalize sortT (l.take i)=out at *
      unfold q371h
      have hw:=qjryv (p:=ltP l[i]) out
      have k1:=q2ebt (((i:Int),())) (show out.length≤30000000 by omega) hless
      have hsplit:=ins_split l[i] out
      have htw:=qbxe8 (p:=ltP l[i]) out
      have hdw:=qa0wd (p:=ltP l[i]) out
      simp only [dcT (show (i:Int) < (l.length:Int) by omega),cond_true,q1j71 hi,Option.bind_some,k1,Sum.elim_inl,wrapS (show i < 9223372036854775807 by omega)]
      have hr:∀ n:Nat,n≤30000000→roomOk (n+(0+1)) 24=true:=fun n hn=>qu8rx (by omega) (by omega)
      by_cases hat:(out.takeWhile (ltP l[i])).length < out.length
      · rw [List.drop_eq_getElem_cons hat] at hdw
        rw [←hdw] at hsplit
        simp only at hsplit
        have hlen:(out[(out.takeWhile (ltP l[i])).length]).length≤1000000:=by
          have:=(hok _ (List.getElem_mem hat)).1
          have:=(qvov9 this).2.1
          omega
        simp only [dcT (show (((out.takeWhile (ltP l[i])).length:Nat):Int) < (out.length:Int) by omega),cond_true,q1j71 hat,Option.bind_some,qkwh8 hlen]
        by_cases he:out[(out.takeWhile (ltP l[i])).length]=l[i]
        · rw [if_pos he] at hsplit
          rw [decide_eq_true he,cond_true,hsplit]
        · rw [if_neg he] at hsplit
          rw [decide_eq_false he,cond_false,qz15o _ hw (by omega),Option.bind_some,Sum.elim_inl]
          simp only [List.length_cons,List.length_nil]
          rw [hr _ (by rw [List.length_take]; omega)]
          simp only [Bool.and_true,cond_true]
          rw [qcl0p _ hw (by omega) (by rw [List.length_append,List.length_take]; simp only [List.length_cons,List.length_nil]; omega),Option.bind_some,Sum.elim_inl,hsplit,htw]
          rw [List.append_assoc,List.drop_eq_getElem_cons hat]
          rfl
      · have hd0:out.drop (out.takeWhile (ltP l[i])).length=[]:=List.drop_of_length_le (by omega)
        rw [hd0] at hdw
        rw [←hdw] at hsplit
        simp only at hsplit
        simp only [dcF (show ¬ (((out.takeWhile (ltP l[i])).length:Nat):Int) < (out.length:Int) by omega),cond_false]
        rw [l4_l2,qz15o _ hw (by omega),Option.bind_some,Sum.elim_inl]
        simp only [List.length_cons,List.length_nil]
        rw [hr _ (by rw [List.length_take]; omega)]
        simp only [Bool.and_true,cond_true]
        rw [l5_l3,qcl0p _ hw (by omega) (by rw [List.length_append,List.length_take]; simp only [List.length_cons,List.length_nil]; omega),Option.bind_some,Sum.elim_inl,hsplit,htw,hd0,List.append_nil]
    · unfold q371h
      simp only [dcF (show ¬ (l.length:Int) < (l.length:Int) by omega),cond_false,List.take_length]
  unfold q3z3c
  rw [key]; rfl
end

section
open Go Go.Abs

def up (l:List (List Int)):Prop:=l.Pairwise fun a b=>cmpL a b < 0
theorem q134b:∀ {l m:List (List Int)},up l→up m→(∀ t,t∈l↔t∈m)→l=m
  | [],[],_,_,_=>rfl
  | [],b :: m,_,_,h=>absurd ((h b).2 (List.mem_cons_self ..)) (by simp)
  | a :: l,[],_,_,h=>absurd ((h a).1 (List.mem_cons_self ..)) (by simp)
  | a :: l,b :: m,h1,h2,h=>by
    have p1:=List.pairwise_cons.1 h1
    have p2:=List.pairwise_cons.1 h2
    have hab:a=b:=by
      rcases List.mem_cons.1 ((h a).1 (List.mem_cons_self ..)) with e | ha
      · exact e
      · rcases List.mem_cons.1 ((h b).2 (List.mem_cons_self ..)) with e | hb
        · exact e.symm
        · exact absurd (qzobx (p2.1 a ha) (p1.1 b hb)) (qjd07 b)
    subst hab
    rw [q134b p1.2 p2.2 fun t=>?_]
    constructor
    · intro ht
      rcases List.mem_cons.1 ((h t).1 (List.mem_cons_of_mem _ ht)) with e | ht'
      · exact absurd (p1.1 t ht) (e ▸ qjd07 _)
      · exact ht'
    · intro ht
      rcases List.mem_cons.1 ((h t).2 (List.mem_cons_of_mem _ ht)) with e | ht'
      · exact absurd (p2.1 t ht) (e ▸ qjd07 _)
      · exact ht'
end

end Go.Proofs.Tryz
