/- Lemmas on functions of the program, by name. -/
import Derived.Test.YteeaadgpkammdaaGreatDoorZTFuns
import Derived.Test.YteeaadgpkammdaaGreatDoorAbsSums
import Derived.Test.YteeaadgpkammdaaGreatDoorZTLemmasTrackStands1
namespace Go.Proofs.Tryz
section
open Go Go.Abs

def plc (n:Nat) (d:Int) (l:List Int) (i:Nat):Int:=if i<n then(if i+1=n then d else 0)else l.getD (i-n) 0
theorem z3l {n:Nat} {d:Int} {l:List Int} (hn1:1<=n) (hn:n+l.length<=4) {i:Nat} (hi:i<n+l.length):X8 (((n:Int),d,l,()),(i:Int),())=some (plc n d l i,()):=by
 have e1:IntKind.i64.wrap ((n:Int)-1)=(n:Int)-1:=E7 (by omega) (by omega)
 unfold X8 plc
 by_cases h:i<n
 ·by_cases h1:i+1=n
  ·have:((i:Int)==(n:Int)-1)=true:=N2 (by omega)
   simp (disch:=first | assumption | omega) only [cond_true,cond_false,dcF,if_true,e1,this,h,h1]
  ·have:((i:Int)==(n:Int)-1)=false:=q03 (by omega)
   simp (disch:=first | assumption | omega) only [cond_false,dcF,if_true,if_false,e1,this,h,h1]
 ·have e2:IntKind.i64.wrap ((i:Int)-(n:Int))=((i-n:Nat):Int):=by rw[E7 (by omega) (by omega)];omega
  simp (disch:=first | assumption | omega) only [cond_true,Option.bind_some,dcT,if_false,e2,h,j4m]
theorem z2l {n:Nat} {d:Int} {l:List Int} (hd:0<=d/\d<=1048576) (hl:∀ (i:Nat) (v:Int),l[i]? = some v->0<=v/\v<=1048576) (i:Nat):0<=plc n d l i/\plc n d l i<=1048576:=by
 unfold plc
 split
 ·split
  ·exact hd
  ·omega
 ·by_cases h:i-n<l.length
  ·exact hl (i-n) _ (R9 h)
  ·rw[List.getD_eq_getElem?_getD,List.getElem?_eq_none (by omega)];simp
def H2 (n:Nat) (d:Int) (l:List Int) (m:Nat) (e:Int) (k:List Int) (i:Nat):Int:=if i<m then plc m e k i+plc n d l i else plc m e k i
def q2x (n:Nat) (d:Int) (l:List Int) (m:Nat) (e:Int) (k:List Int):(Int×Int×List Int×Unit)×Int×Unit :=
 if H2 n d l m e k (m-1)>1048576 then((0,0,[],()),6,())else((((min m n:Nat):Int),H2 n d l m e k (min m n-1),(List.range' (min m n) (m+k.length-min m n)).map (H2 n d l m e k),()),0,())
theorem z58 {n:Nat} {d:Int} {l:List Int} (h:n+l.length<=4):q3t (((n:Int),d,l,()),())=some (((n+l.length:Nat):Int),()):=by
 unfold q3t
 exact congrArg (fun x=>some (x,())) (E7 (x:=(n:Int)+(l.length:Int)) (by omega) (by omega))
theorem q2p {n:Nat} {d:Int} {l:List Int} (h:n+l.length<=4):P4 (((n:Int),d,l,()),())=some (((n+l.length:Nat):Int),()):=by
 unfold P4
 exact congrArg (fun x=>some (x,())) (E7 (x:=(n:Int)+(l.length:Int)) (by omega) (by omega))
theorem y4c {v:Int} (h:0<=v):bad v=decide (v>1048576):=by
 unfold bad
 have:¬ v<0:=by omega
 simp[this]
theorem j7k {a:Nat} (f:Nat->Int) (l:List Int) (h:∀ i,i<l.length->f (a+i)=l.getD i 0):(List.range' a l.length).map f=l:=by
 apply List.ext_getElem?
 intro i
 by_cases hi:i<l.length
 ·rw[List.getElem?_map,List.getElem?_range' hi]
  simp only[Option.map_some,Nat.one_mul,h i hi]
  exact(R9 hi).symm
 ·rw[List.getElem?_eq_none (by simpa using hi),List.getElem?_eq_none (by omega)]
theorem v5i {n m:Nat} {d e:Int} {l k:List Int} (hs:sck n d l 4=0) (hr:sck m e k ((n+l.length:Nat):Int)=0) :
  q2w (((n:Int),d,l,()),((m:Int),e,k,()),())=some (q2x n d l m e k):=by
 obtain⟨s1,s2,s3,s4,s5,s6⟩:=N9 hs
 obtain⟨r1,r2,r3,r4,r5,r6⟩:=N9 hr
 have p0:∀ v:Int,0<=v->q1g (v,())=some (!decide (v>1048576),()):=fun v hv=>by rw[j0v,y4c hv]
 have hk:k.length<=4:=by omega
 unfold q2w
 simp (disch:=first | assumption | omega) only [cond_true,cond_false,Option.bind_some,dcT,q0l,Bool.and_true,Bool.true_and,Bool.and_self,j0u,hs,L1,z58 (show n+l.length<=4 by omega),hr]
 have e0:IntKind.i64.wrap ((m:Int)-(n:Int))=(m:Int)-(n:Int):=E7 (by omega) (by omega)
 rw[e0]
 have hpush:min m n=m->(List.range' (min m n) (m+k.length-min m n)).map (H2 n d l m e k)=k:=fun h=>by
  rw[h,show m+k.length-m=k.length by omega]
  refine j7k _ _ fun i hi=>?_
  unfold H2 plc
  rw[if_neg (by omega),if_neg (by omega),show m+i-m=i by omega]
 by_cases h1:m=n
 ·have hx:H2 n d l m e k (m-1)=e+d:=by
   unfold H2 plc
   rw[if_pos (by omega),if_pos (by omega),if_pos (by omega),if_pos (by omega),if_pos (by omega)]
  have e1:IntKind.i64.wrap (e+d)=e+d:=E7 (by omega) (by omega)
  have hmin:min m n=m:=by omega
  unfold q2x
  rw[hpush hmin,hmin,hx]
  have h0:((m:Int)-(n:Int)==0)=true:=N2 (by omega)
  simp (disch:=first | assumption | omega) only [cond_true,cond_false,Option.bind_some,dcT,dcF,Bool.and_self,h0,e1,p0 (e+d) (by omega)]
  by_cases hb:e+d>1048576
  ·simp (disch:=first | assumption | omega) only [decide_true,cond_true,Bool.not_true,Bool.not_false,if_true,hb]<;>rfl
  ·simp (disch:=first | assumption | omega) only [decide_false,cond_false,Bool.not_true,Bool.not_false,if_false,hb]<;>rfl
 ·have h0:((m:Int)-(n:Int)==0)=false:=q03 (by omega)
  by_cases h2:m>n
  ·have hmin:min m n=n:=by omega
   have hq:m-n<=l.length:=by omega
   have e2:((m:Int)-(n:Int)).toNat=m-n:=by omega
   have e3:IntKind.i64.wrap ((m:Int)-(n:Int)-1)=((m-n-1:Nat):Int):=by rw[E7 (by omega) (by omega)];omega
   have hlen:(l.take (m-n)).length=m-n:=by rw[List.length_take];omega
   have hc:R1 (l.take (m-n),())=some (l.take (m-n),()):=by
    unfold R1
    simp (disch:=first | assumption | omega) only [cond_true,List.length_nil,q0l,Bool.and_self,hlen]
    rfl
   have hg:(l.take (m-n))[m-n-1]? = some (l.getD (m-n-1) 0):=by
    rw[List.getElem?_take_of_lt (by omega)];exact R9 (by omega)
   have hv:=s6 (m-n-1) _ (R9 (d:=0) (show m-n-1<l.length by omega))
   have hx:H2 n d l m e k (m-1)=l.getD (m-n-1) 0+e:=by
    unfold H2 plc
    rw[if_pos (by omega),if_pos (by omega),if_pos (by omega),if_neg (by omega),show m-1-n=m-n-1 by omega];omega
   have hy:H2 n d l m e k (n-1)=d:=by
    unfold H2 plc
    rw[if_pos (by omega),if_pos (by omega),if_neg (by omega),if_pos (by omega),if_pos (by omega)];omega
   have e4:IntKind.i64.wrap (l.getD (m-n-1) 0+e)=l.getD (m-n-1) 0+e:=E7 (by omega) (by omega)
   have hg2:((l.take (m-n)).set (m-n-1) (l.getD (m-n-1) 0+e))[m-n-1]? = some (l.getD (m-n-1) 0+e):=by
    rw[List.getElem?_set_self (by omega)]
   have hl2:(l.take (m-n)).set (m-n-1) (l.getD (m-n-1) 0+e)++k=(List.range' n (m+k.length-n)).map (H2 n d l m e k):=by
    have hll:((l.take (m-n)).set (m-n-1) (l.getD (m-n-1) 0+e)++k).length=m+k.length-n:=by rw[List.length_append,List.length_set,hlen];omega
    rw[<-hll]
    refine(j7k _ _ fun i hi=>?_).symm
    rw[hll]at hi
    rw[List.getD_eq_getElem?_getD]
    by_cases hi2:i<m-n
    ·rw[List.getElem?_append_left (by rw[List.length_set,hlen];exact hi2)]
     unfold H2 plc
     rw[if_pos (by omega),if_pos (by omega),if_neg (show ¬ n+i<n by omega),show n+i-n=i by omega]
     by_cases hi3:i=m-n-1
     ·rw[hi3,List.getElem?_set_self (by omega),if_pos (by omega)];simp;omega
     ·rw[List.getElem?_set_ne (Ne.symm hi3),List.getElem?_take_of_lt hi2,if_neg (by omega),<-List.getD_eq_getElem?_getD];omega
    ·rw[List.getElem?_append_right (by rw[List.length_set,hlen];omega),List.length_set,hlen]
     unfold H2 plc
     rw[if_neg (by omega),if_neg (by omega),<-List.getD_eq_getElem?_getD,show n+i-m=i-(m-n)by omega]
   unfold q2x
   rw[hmin,hx,hy,<-hl2]
   have d1:decide ((m:Int)-(n:Int)>0)=true:=decide_eq_true (by omega)
   have d2:decide ((m:Int)-(n:Int)<=(l.length:Int))=true:=decide_eq_true (by omega)
   simp (disch:=first | assumption | omega) only [cond_true,cond_false,Option.bind_some,dcT,H7,Int.toNat_natCast,q0l,Bool.and_self,h0,e2,e3,List.drop_zero,Nat.sub_zero,hc,hlen,hg,e4,hg2,p0 _ (show 0<=l.getD (m-n-1) 0+e by omega),List.length_set,show(0:Int).toNat=0 from rfl]
   by_cases hb:l.getD (m-n-1) 0+e>1048576
   ·simp (disch:=first | assumption | omega) only [decide_true,cond_true,Bool.not_true,Bool.not_false,if_true,hb]<;>rfl
   ·simp (disch:=first | assumption | omega) only [decide_false,cond_false,Bool.not_true,Bool.not_false,if_false,hb]<;>rfl
  ·have hmin:min m n=m:=by omega
   have hx:H2 n d l m e k (m-1)=e:=by
    unfold H2 plc
    rw[if_pos (by omega),if_pos (by omega),if_pos (by omega),if_pos (by omega),if_neg (by omega)];omega
   unfold q2x
   rw[hpush hmin,hmin,hx]
   have d1:decide ((m:Int)-(n:Int)>0)=false:=decide_eq_false (by omega)
   have d2:¬ e>1048576:=by omega
   simp (disch:=first | assumption | omega) only [decide_false,cond_false,Option.bind_some,dcT,dcF,Bool.and_true,Bool.not_true,Bool.not_false,if_false,h0,p0 e (by omega),d2]<;>rfl
theorem v5p {n m:Nat} {d e:Int} {l k:List Int} (hs:sck n d l 4=0) (hr:sck m e k ((n+l.length:Nat):Int)=0) {i:Nat} (h:¬ i=m-1):H2 n d l m e k i<=1048576:=by
 obtain⟨s1,s2,s3,s4,s5,s6⟩:=N9 hs
 obtain⟨r1,r2,r3,r4,r5,r6⟩:=N9 hr
 have h1:=z2l (n:=n) s5 s6 i
 have h2:=z2l (n:=m) r5 r6 i
 unfold H2
 by_cases hi:i<m
 ·rw[if_pos hi]
  have:plc m e k i=0:=by unfold plc;rw[if_pos hi,if_neg (by omega)]
  omega
 ·rw[if_neg hi];omega
theorem v5o {n m:Nat} {d e:Int} {l k:List Int} (hs:sck n d l 4=0) (hr:sck m e k ((n+l.length:Nat):Int)=0) (i:Nat):0<=H2 n d l m e k i/\H2 n d l m e k i<=2097152:=by
 obtain⟨s1,s2,s3,s4,s5,s6⟩:=N9 hs
 obtain⟨r1,r2,r3,r4,r5,r6⟩:=N9 hr
 have h1:=z2l (n:=n) s5 s6 i
 have h2:=z2l (n:=m) r5 r6 i
 unfold H2
 split<;>omega
abbrev z5s:Type:=(Int×(Int×Int×List Int×Unit)×List Int×(Int×Int×Unit)×Unit)
def P2 (M:Nat) (x:Nat->Int) (j:Nat):List Int:=(List.range' M (j-M)).map x
def J9 (M:Nat) (x:Nat->Int) (j:Nat):Int:=if M<=j then x (M-1)else 0
theorem v0e {M j:Nat} (x:Nat->Int) (h:j<M):P2 M x (j+1)=P2 M x j:=by
 unfold P2;rw[show j+1-M=0 by omega,show j-M=0 by omega]
theorem j7d {M j:Nat} (x:Nat->Int) (h:¬ j<M):P2 M x (j+1)=P2 M x j++[x j]:=by
 unfold P2
 rw[show j+1-M=(j-M)+1 by omega,List.range'_concat,List.map_append]
 simp only[Nat.one_mul,List.map_cons,List.map_nil]
 rw[show M+(j-M)=j by omega]
theorem v0f (M:Nat) (x:Nat->Int) (j:Nat):(P2 M x j).length<=j:=by
 unfold P2;simp
theorem v0z {n m:Nat} {d e:Int} {l k:List Int} (hs:sck n d l 4=0) (hr:sck m e k ((n+l.length:Nat):Int)=0) :
  q8h (((n:Int),d,l,()),((m:Int),e,k,()),())=some (q2x n d l m e k):=by
 obtain⟨s1,s2,s3,s4,s5,s6⟩:=N9 hs
 obtain⟨r1,r2,r3,r4,r5,r6⟩:=N9 hr
 have hk:k.length<=4:=by omega
 let M:=min m n
 let x:=H2 n d l m e k
 let U:=fun j=>((6,(0,0,[],()),P2 M x (j+1),(((min (j+1) M:Nat):Int),J9 M x (j+1),()),()):z5s)
 have key:=U6 (f:=z3m (((n:Int),d,l,()),((m:Int),e,k,()),())) (m+k.length) (fun j=>((j:Int),(0,0,[],()),P2 M x j,(((min j M:Nat):Int),J9 M x j,()),())) (fun j=>cond (decide (x j>1048576)) (some ((6,(0,0,[],()),P2 M x (j+1),(((min (j+1) M:Nat):Int),J9 M x (j+1),()),()):z5s)) none) (.inl ((0,0,[],()),P2 M x (m+k.length),(((M:Nat):Int),x (M-1),()),())) (fun j hj=>by
  have hb:=v5o hs hr j
  have hlen:=v0f M x j
  have e1:IntKind.i64.wrap ((n:Int)-1)=(n:Int)-1:=E7 (by omega) (by omega)
  have e2:IntKind.i64.wrap ((m:Int)-1)=(m:Int)-1:=E7 (by omega) (by omega)
  have hp:=z3l (n:=m) (d:=e) (l:=k) (by omega) (by omega) hj
  unfold z3m
  by_cases hjm:j<m
  ·have hq:=z3l (n:=n) (d:=d) (l:=l) (by omega) (by omega) (show j<n+l.length by omega)
   have hx:IntKind.i64.wrap (plc m e k j+plc n d l j)=x j:=by
    have:x j=plc m e k j+plc n d l j:=by show H2 n d l m e k j=_;unfold H2;rw[if_pos hjm]
    rw[this]
    have h2:0<=x j/\x j<=2097152:=hb
    rw[this]at h2
    exact E7 (by omega) (by omega)
   simp (disch:=first | assumption | omega) only [cond_true,Option.bind_some,Sum.elim_inl,dcT,B7,List.length_cons,List.length_nil,q0l,Bool.and_self,q2p (show m+k.length<=4 by omega),hp,hq,hx]
   by_cases hjn:j<n
   ·have hM:j<M:=by show j<min m n;omega
    have hmin:((min (j+1) M:Nat):Int)=((j+1:Nat):Int):=by rw[Nat.min_eq_left (by omega)]
    rw[v0e x hM,hmin]
    by_cases hlast:j+1=M
    ·have ha:J9 M x (j+1)=x j:=by unfold J9;rw[if_pos (by omega),<-hlast];rfl
     rw[ha]
     by_cases hn1:j+1=n
     ·have q1:((j:Int)==(n:Int)-1)=true:=N2 (by omega)
      simp (disch:=first | assumption | omega) only [cond_true,dcT,e1,e2,q1]
      by_cases hx2:x j>1048576<;>simp (disch:=first | assumption | omega) only [decide_true,decide_false,cond_true,cond_false,hx2]<;>rfl
     ·have hm1:j+1=m:=by have:M=min m n:=rfl;omega
      have q1:((j:Int)==(n:Int)-1)=false:=q03 (by omega)
      have q2:((j:Int)==(m:Int)-1)=true:=N2 (by omega)
      simp (disch:=first | assumption | omega) only [cond_true,cond_false,dcT,e1,e2,q1,q2]
      by_cases hx2:x j>1048576<;>simp (disch:=first | assumption | omega) only [decide_true,decide_false,cond_true,cond_false,hx2]<;>rfl
    ·have q1:((j:Int)==(n:Int)-1)=false:=q03 (by have:M=min m n:=rfl;omega)
     have q2:((j:Int)==(m:Int)-1)=false:=q03 (by have:M=min m n:=rfl;omega)
     have ha:J9 M x (j+1)=0:=by unfold J9;rw[if_neg (by omega)]
     have hb:J9 M x j=0:=by unfold J9;rw[if_neg (by omega)]
     rw[ha,hb]
     simp (disch:=first | assumption | omega) only [cond_true,cond_false,dcT,e1,e2,q1,q2]
     by_cases hx2:x j>1048576<;>simp (disch:=first | assumption | omega) only [decide_true,decide_false,cond_true,cond_false,hx2]<;>rfl
   ·have hM:¬ j<M:=by show ¬ j<min m n;omega
    have hmin:((min (j+1) M:Nat):Int)=((min j M:Nat):Int):=by rw[Nat.min_eq_right (by omega),Nat.min_eq_right (by omega)]
    have ha:J9 M x (j+1)=J9 M x j:=by unfold J9;rw[if_pos (by omega),if_pos (by omega)]
    rw[j7d x hM,hmin,ha]
    simp (disch:=first | assumption | omega) only [cond_false,dcF]
    by_cases hx2:x j>1048576<;>simp (disch:=first | assumption | omega) only [decide_true,decide_false,cond_true,cond_false,hx2]<;>rfl
  ·have hM:¬ j<M:=by show ¬ j<min m n;omega
   have hx:plc m e k j=x j:=by show _=H2 n d l m e k j;unfold H2;rw[if_neg hjm]
   have hmin:((min (j+1) M:Nat):Int)=((min j M:Nat):Int):=by rw[Nat.min_eq_right (by omega),Nat.min_eq_right (by omega)]
   have ha:J9 M x (j+1)=J9 M x j:=by unfold J9;rw[if_pos (by omega),if_pos (by omega)]
   rw[j7d x hM,hmin,ha]
   simp (disch:=first | assumption | omega) only [cond_true,cond_false,Option.bind_some,Sum.elim_inl,dcT,dcF,B7,List.length_cons,List.length_nil,q0l,Bool.and_self,q2p (show m+k.length<=4 by omega),hp,hx]
   by_cases hx2:x j>1048576<;>simp (disch:=first | assumption | omega) only [decide_true,decide_false,cond_true,cond_false,hx2]<;>rfl) (by
  have hmin:((min (m+k.length) M:Nat):Int)=((M:Nat):Int):=by rw[Nat.min_eq_right (by show min m n<=_;omega)]
  have ha:J9 M x (m+k.length)=x (M-1):=by unfold J9;rw[if_pos (by show min m n<=_;omega)]
  rw[hmin,ha]
  unfold z3m
  simp (disch:=first | assumption | omega) only [cond_false,Option.bind_some,Sum.elim_inl,dcF,B7,List.length_cons,List.length_nil,Bool.and_true,Bool.true_and,q2p (show m+k.length<=4 by omega)]) (s0:=(0,(0,0,[],()),[],(0,0,()),())) (by
  have h1:P2 M x 0=[]:=by unfold P2;rw[Nat.zero_sub];rfl
  have h2:J9 M x 0=0:=by unfold J9;rw[if_neg (by show ¬ min m n<=0;omega)]
  rw[h1,h2,Nat.zero_min];rfl)
 unfold q8h
 simp (disch:=first | assumption | omega) only [cond_false,Option.bind_some,z9s,hs,hr,L1,q2p (show n+l.length<=4 by omega),key]
 have hU:∀ j,((6,(0,0,[],()),P2 M x (j+1),(((min (j+1) M:Nat):Int),J9 M x (j+1),()),()):z5s)=U j:=fun j=>rfl
 unfold q2x
 by_cases hx:x (m-1)>1048576
 ·have hf:∃ j,((List.range (m+k.length)).findSome? fun j=>cond (decide (x j>1048576)) (some (U j)) none)=some (U j):=by
   cases hf:(List.range (m+k.length)).findSome? fun j=>cond (decide (x j>1048576)) (some (U j)) none with
   | none =>
    have:=List.findSome?_eq_none_iff.1 hf (m-1) (List.mem_range.2 (by omega))
    rw[decide_eq_true hx]at this;cases this
   | some v =>
    obtain⟨j,_,hj⟩:=List.exists_of_findSome?_eq_some hf
    cases hd:decide (x j>1048576)
    ·rw[hd]at hj;cases hj
    ·rw[hd]at hj;cases hj;exact⟨j,rfl⟩
  obtain⟨j,hj⟩:=hf
  rw[hj,if_pos hx];rfl
 ·have hf:((List.range (m+k.length)).findSome? fun j=>cond (decide (x j>1048576)) (some (U j)) none)=none:=List.findSome?_eq_none_iff.2 fun j _=>by
   have:¬ x j>1048576:=by
    by_cases h:j=m-1
    ·rw[h];exact hx
    ·have:x j<=1048576:=v5p hs hr h
     omega
   rw[decide_eq_false this];rfl
  rw[hf,if_neg hx];rfl
def X6 (n:Nat) (d:Int) (l:List Int) (i:Nat):Int×Bool×Unit:=(plc n d l i,decide (i<n),())
theorem y0a {n:Nat} {d:Int} {l:List Int} (h1:1<=n) (h:n+l.length<=4):q9c (((n:Int),d,l,()),())=some (tab (n+l.length) (X6 n d l),()):=by
 have l1:=F6 (f:=z59 (((n:Int),d,l,()),())) n (fun j=>((j:Int),tab n (fun i=>((0:Int),decide (i<j),())),())) (.inl (tab n (fun i=>((0:Int),decide (i<n),())),())) (fun j hj=>by
  unfold z59
  simp (disch:=first | assumption | omega) only [cond_true,Option.bind_some,dcT,dcF,z8o,H7,Int.toNat_natCast,B7,K9,List.length_replicate,q1h]
  refine congrArg (fun x=>some (Sum.inl (_,x,()))) (J8 fun i _=>?_)
  by_cases e:i=j
  ·subst e;simp
  ·have:decide (i<j+1)=decide (i<j):=by simp;omega
   rw[if_neg e,this]) (by
  unfold z59
  simp (disch:=first | assumption | omega) only [cond_false,dcF,Int.toNat_natCast,B7,K9,List.length_replicate]) (s0:=(0,List.replicate n ((0:Int),false,()),())) (by rw[q3k];rfl)
 have e1:IntKind.i64.wrap ((n:Int)-1)=((n-1:Nat):Int):=by rw[E7 (by omega) (by omega)];omega
 have e2:(tab n (fun i=>((0:Int),decide (i<n),()))).set (n-1) (d,true,())=tab n (X6 n d l):=by
  rw[q1h]
  refine J8 fun i hi=>?_
  unfold X6 plc
  by_cases e:i=n-1
  ·rw[if_pos e,if_pos hi,if_pos (by omega),e,decide_eq_true (show n-1<n by omega)]
  ·rw[if_neg e,if_pos hi,if_neg (by omega)]
 have l2:=F6 (f:=z5a (((n:Int),d,l,()),())) l.length (fun j=>(tab (n+j) (X6 n d l),(j:Int),())) (.inl (tab (n+l.length) (X6 n d l),())) (fun j hj=>by
  have e3:X6 n d l (n+j)=(l.getD j 0,false,()):=by
   unfold X6 plc
   rw[if_neg (by omega),decide_eq_false (by omega),show n+j-n=j by omega]
  unfold z5a
  simp (disch:=first | assumption | omega) only [cond_true,Option.bind_some,dcT,B7,K9,List.length_cons,List.length_nil,z9w,Bool.and_self,j4m,<-Nat.add_assoc,j0y,e3]) (by
  unfold z5a
  simp (disch:=first | assumption | omega) only [cond_true,cond_false,dcF,B7,K9,List.length_cons,List.length_nil,z9w,Bool.and_self]) (s0:=(tab n (X6 n d l),0,())) rfl
 unfold q9c
 simp (disch:=first | assumption | omega) only [cond_true,Option.bind_some,Sum.elim_inl,dcT,z8o,H7,Int.toNat_natCast,K9,z9w,Bool.and_true,Bool.true_and,Bool.and_self,z58 h,l1,e1,e2,l2]
def X2 (n:Nat) (d:Int) (l:List Int) (m:Nat) (e:Int) (k:List Int) (i:Nat):Bool:=decide (plc n d l i>plc m e k i)||(decide (i<n)&&!decide (i<m))
theorem v5h {n m:Nat} {d e:Int} {l k:List Int} (hs:sck n d l 4=0) (hr:sck m e k 4=0) :
  q5r (((n:Int),d,l,()),((m:Int),e,k,()),())=some (decide (n+l.length=m+k.length)&&!(List.range (n+l.length)).any (X2 n d l m e k),()):=by
 obtain⟨s1,s2,s3,s4,s5,s6⟩:=N9 hs
 obtain⟨r1,r2,r3,r4,r5,r6⟩:=N9 hr
 unfold q5r
 simp (disch:=first | assumption | omega) only [cond_false,Option.bind_some,j0u,hs,hr,L1,z58 (show n+l.length<=4 by omega),z58 (show m+k.length<=4 by omega)]
 by_cases hq:n+l.length=m+k.length
 ·have q1:(((n+l.length:Nat):Int) != ((m+k.length:Nat):Int))=false:=L1 (by omega)
  have key:A2 (z57 (tab (n+l.length) (X6 n d l),()) (tab (m+k.length) (X6 m e k),())) (0,())=some (if(List.range (n+l.length)).any (X2 n d l m e k)=true then .inl (false,())else .inr (.inl ())):=by
   refine q4r (n+l.length) () _ _ _ (fun i hi=>?_) ?_
   ·have hi2:i<m+k.length:=by omega
    unfold z57
    simp (disch:=first | assumption | omega) only [cond_true,Option.bind_some,dcT,z8o,H7,Int.toNat_natCast,B7,K9]
    unfold X2 X6
    by_cases h1:plc n d l i>plc m e k i
    ·simp (disch:=first | assumption | omega) only [decide_true,cond_true,h1]<;>rfl
    ·simp (disch:=first | assumption | omega) only [decide_false,cond_false,h1,Bool.false_or]
     cases decide (i<n)<;>cases decide (i<m)<;>rfl
   ·unfold z57
    simp (disch:=first | assumption | omega) only [cond_false,dcF,Int.toNat_natCast,B7,K9]
  simp (disch:=first | assumption | omega) only [cond_false,Option.bind_some,dcT,Bool.true_and,q1,y0a (n:=n) (d:=d) (l:=l) (by omega) (by omega),y0a (n:=m) (d:=e) (l:=k) (by omega) (by omega),key]
  cases(List.range (n+l.length)).any (X2 n d l m e k)<;>rfl
 ·have q1:(((n+l.length:Nat):Int) != ((m+k.length:Nat):Int))=true:=R4 (by omega)
  simp (disch:=first | assumption | omega) only [decide_false,cond_true,q1,hq,Bool.false_and]
theorem v0w {n m:Nat} {d e:Int} {l k:List Int} (hs:sck n d l 4=0) (hr:sck m e k 4=0) :
  q8f (((n:Int),d,l,()),((m:Int),e,k,()),())=some (decide (n+l.length=m+k.length)&&!(List.range (n+l.length)).any (X2 n d l m e k),()):=by
 obtain⟨s1,s2,s3,s4,s5,s6⟩:=N9 hs
 obtain⟨r1,r2,r3,r4,r5,r6⟩:=N9 hr
 unfold q8f
 simp (disch:=first | assumption | omega) only [cond_false,Option.bind_some,z9s,hs,hr,L1,q2p (show n+l.length<=4 by omega),q2p (show m+k.length<=4 by omega)]
 by_cases hq:n+l.length=m+k.length
 ·have q1:(((n+l.length:Nat):Int) != ((m+k.length:Nat):Int))=false:=L1 (by omega)
  have key:A2 (z3k (((n:Int),d,l,()),((m:Int),e,k,()),())) (0,())=some (if(List.range (n+l.length)).any (X2 n d l m e k)=true then .inl (false,())else .inr (.inl ())):=by
   refine q4r (n+l.length) () _ _ _ (fun i hi=>?_) ?_
   ·have hp:=z3l (n:=n) (d:=d) (l:=l) (by omega) (by omega) hi
    have hp2:=z3l (n:=m) (d:=e) (l:=k) (by omega) (by omega) (show i<m+k.length by omega)
    unfold z3k
    simp (disch:=first | assumption | omega) only [cond_true,Option.bind_some,dcT,B7,q2p (show n+l.length<=4 by omega),hp,hp2]
    unfold X2
    by_cases h1:plc n d l i>plc m e k i
    ·simp (disch:=first | assumption | omega) only [decide_true,cond_true,h1]<;>rfl
    ·by_cases h2:i<n
     ·by_cases h3:i<m
      ·simp (disch:=first | assumption | omega) only [decide_true,decide_false,cond_true,cond_false,dcT,dcF,Bool.true_and,Bool.not_true,h1,h2,h3]<;>rfl
      ·simp (disch:=first | assumption | omega) only [decide_true,decide_false,cond_true,cond_false,dcT,Bool.and_self,Bool.not_false,h1,h2,h3]<;>rfl
     ·simp (disch:=first | assumption | omega) only [decide_false,cond_false,dcF,h1,h2]<;>rfl
   ·unfold z3k
    simp (disch:=first | assumption | omega) only [cond_true,cond_false,Option.bind_some,dcT,dcF,B7,q2p (show n+l.length<=4 by omega)]
  simp (disch:=first | assumption | omega) only [cond_false,Option.bind_some,dcT,Bool.true_and,q1,key]
  cases(List.range (n+l.length)).any (X2 n d l m e k)<;>rfl
 ·have q1:(((n+l.length:Nat):Int) != ((m+k.length:Nat):Int))=true:=R4 (by omega)
  simp (disch:=first | assumption | omega) only [decide_false,cond_true,q1,hq,Bool.false_and]
end

section
open Go Go.Abs

def up (l:List (List Int)):Prop:=l.Pairwise fun a b=>B0 a b<0
theorem j1a:∀ {l m:List (List Int)},up l->up m->(∀ t,t∈l↔t∈m)->l=m
 | [],[],_,_,_=>rfl
 | [],b::m,_,_,h=>absurd ((h b).2 (List.mem_cons_self ..)) (by simp)
 | a::l,[],_,_,h=>absurd ((h a).1 (List.mem_cons_self ..)) (by simp)
 | a::l,b::m,h1,h2,h=>by
  have p1:=List.pairwise_cons.1 h1
  have p2:=List.pairwise_cons.1 h2
  have hab:a=b:=by
   rcases List.mem_cons.1 ((h a).1 (List.mem_cons_self ..))with e | ha
   ·exact e
   ·rcases List.mem_cons.1 ((h b).2 (List.mem_cons_self ..))with e | hb
    ·exact e.symm
    ·exact absurd (q05 (p2.1 a ha) (p1.1 b hb)) (T9 b)
  subst hab
  rw[j1a p1.2 p2.2 fun t=>?_]
  constructor
  ·intro ht
   rcases List.mem_cons.1 ((h t).1 (List.mem_cons_of_mem _ ht))with e | ht'
   ·exact absurd (p1.1 t ht) (e▸T9 _)
   ·exact ht'
  ·intro ht
   rcases List.mem_cons.1 ((h t).2 (List.mem_cons_of_mem _ ht))with e | ht'
   ·exact absurd (p2.1 t ht) (e▸T9 _)
   ·exact ht'
end

section
open Go Go.Abs

def G0:List Int->List Int->Bool
 | a::r,b::s=>decide (a<=b)&&G0 r s
 | _,_=>true
theorem j19:∀ a:List Int,G0 a a=true
 | []=>rfl
 | a::r=>by simp[G0,j19 r]
theorem y0r:∀ {a b c:List Int},a.length=b.length->b.length=c.length->G0 a b=true->G0 b c=true->G0 a c=true
 | [],_,_,_,_,_,_=>rfl
 | a::r,[],_,h,_,_,_=>by simp at h
 | a::r,b::s,[],_,h,_,_=>by simp at h
 | a::r,b::s,c::t,h1,h2,h3,h4=>by
  simp only[G0,Bool.and_eq_true,decide_eq_true_eq,List.length_cons]at *
  exact⟨by omega,y0r (by omega) (by omega) h3.2 h4.2⟩
theorem j18:∀ {a b:List Int},a.length=b.length->G0 a b=true->a=b\/(B0 a b<0/\a.sum<b.sum)
 | [],[],_,_=>.inl rfl
 | [],_::_,h,_=>by simp at h
 | _::_,[],h,_=>by simp at h
 | a::r,b::s,h,hu=>by
  simp only[G0,Bool.and_eq_true,decide_eq_true_eq,List.length_cons]at *
  simp only[B0,List.sum_cons]
  rcases j18 (a:=r) (b:=s) (by omega) hu.2 with e | ⟨h1,h2⟩
  ·subst e
   by_cases hab:a=b
   ·left;rw[hab]
   ·right;rw[if_pos (by omega)];exact⟨by decide,by omega⟩
  ·right
   by_cases hab:a<b
   ·rw[if_pos hab];exact⟨by decide,by omega⟩
   ·rw[if_neg hab,if_neg (by omega)];exact⟨h1,by omega⟩
theorem v5t {a b:List Int} (hl:a.length=b.length) (ha:a.length<=1000000):z5f (a,b,())=some (G0 a b,()):=by
 have key:∀ k i,i+k=a.length->(A2 (q9f (a,b,())) ((i:Int),())).bind (Sum.elim (fun z4=>(some z4)) (Sum.elim (fun z5=>(some (true,()))) Empty.elim))=some (G0 (a.drop i) (b.drop i),()):=by
  intro k
  induction k with
  | zero =>
   intro i hi
   rw[D6 (b:=.inr (.inl ())) (by
    unfold q9f
    simp only[dcF (show ¬ (i:Int)<(a.length:Int)by omega),cond_false])]
   rw[List.drop_of_length_le (by omega),List.drop_of_length_le (by omega)];rfl
  | succ k ih =>
   intro i hi
   have hia:i<a.length:=by omega
   have hib:i<b.length:=by omega
   have hst:q9f (a,b,()) ((i:Int),())=cond (decide (a[i]>b[i])) (some (.inr (.inl (false,())))) (some (.inl (((i+1:Nat):Int),()))):=by
    unfold q9f
    simp only[dcT (show(i:Int)<(a.length:Int)by omega),cond_true,E9 hia,E9 hib,Option.bind_some,B7 (show i<9223372036854775807 by omega)]
   rw[List.drop_eq_getElem_cons hia,List.drop_eq_getElem_cons hib]
   by_cases he:a[i]<=b[i]
   ·rw[dcF (show ¬ a[i]>b[i]by omega),cond_false]at hst
    rw[H9 hst,ih (i+1) (by omega)]
    simp only[G0,decide_eq_true he,Bool.true_and]
   ·rw[dcT (show a[i]>b[i]by omega),cond_true]at hst
    rw[D6 hst]
    simp only[G0,decide_eq_false he,Bool.false_and];rfl
 unfold z5f
 exact key a.length 0 (by omega)
def leB (a b:List Int):Bool:=decide (a.length=b.length)&&(decide (chk a=0)&&(decide (chk b=0)&&G0 a b))
theorem y7i {a b:List Int} (h:a.length=b.length) (ha:chk a=0) (hb:chk b=0):leB a b=G0 a b:=by
 unfold leB
 rw[decide_eq_true h,decide_eq_true ha,decide_eq_true hb];rfl
theorem v1d (a b:List Int):z3r (a,b,())=some (leB a b,()):=by
 unfold z3r leB
 simp only[z3n,Option.bind_some,K2]
 by_cases h:a.length=b.length
 ·rw[if_pos (by omega),decide_eq_true h]
  by_cases h2:chk a=0
  ·rw[if_pos h2,decide_eq_true h2]
   by_cases h3:chk b=0
   ·rw[if_pos h3,decide_eq_true h3]
    have h4:=(W3 h2).2.1
    have key:∀ k i,i+k=a.length->(A2 (q8j (a,b,())) ((i:Int),())).bind (Sum.elim (fun z6=>(some z6)) (Sum.elim (fun z7=>(some (true,()))) Empty.elim))=some (G0 (a.drop i) (b.drop i),()):=by
     intro k
     induction k with
     | zero =>
      intro i hi
      rw[D6 (b:=.inr (.inl ())) (by
       unfold q8j
       simp only[dcF (show ¬ (i:Int)<(a.length:Int)by omega),cond_false])]
      rw[List.drop_of_length_le (by omega),List.drop_of_length_le (by omega)];rfl
     | succ k ih =>
      intro i hi
      have hia:i<a.length:=by omega
      have hib:i<b.length:=by omega
      have hst:q8j (a,b,()) ((i:Int),())=cond (decide (a[i]>b[i])) (some (.inr (.inl (false,())))) (some (.inl (((i+1:Nat):Int),()))):=by
       unfold q8j
       simp only[dcT (show(i:Int)<(a.length:Int)by omega),cond_true,E9 hia,E9 hib,Option.bind_some,B7 (show i<9223372036854775807 by omega)]
      rw[List.drop_eq_getElem_cons hia,List.drop_eq_getElem_cons hib]
      by_cases he:a[i]<=b[i]
      ·rw[dcF (show ¬ a[i]>b[i]by omega),cond_false]at hst
       rw[H9 hst,ih (i+1) (by omega)]
       simp only[G0,decide_eq_true he,Bool.true_and]
      ·rw[dcT (show a[i]>b[i]by omega),cond_true]at hst
       rw[D6 hst]
       simp only[G0,decide_eq_false he,Bool.false_and];rfl
    exact key a.length 0 (by omega)
   ·rw[if_neg h3,decide_eq_false h3];rfl
  ·rw[if_neg h2,decide_eq_false h2];rfl
 ·rw[if_neg (by omega),decide_eq_false h];rfl
end

section
open Go Go.Abs

noncomputable def z06 (a b:List Int):Option Int:=(q2t (a,b,())).map fun r=>r.1
theorem j2y {a b:List Int} (ha:a.length<=1000000):z06 a b=some (B0 a b):=by
 unfold z06;rw[j04 ha];rfl
theorem q3g {a b:List Int} (ha:a.length<=1000000):ltF z06 a b↔B0 a b<0:=by
 unfold ltF
 rw[j2y ha]
 constructor
 ·rintro ⟨v,h1,h2⟩;cases h1;exact h2
 ·exact fun h=>⟨_,rfl,h⟩
def q39 (t:List Int):List (List Int)->List (List Int)
 | []=>[t]
 | u::l=>if B0 u t<0 then u::q39 t l else t::u::l
def E2:List (List Int)->List (List Int)
 | []=>[]
 | t::l=>q39 t (E2 l)
theorem z8v (t:List Int):∀ l,(q39 t l).Perm (t::l)
 | []=>List.Perm.refl _
 | u::l=>by
  simp only[q39]
  split
  ·exact((z8v t l).cons u).trans (List.Perm.swap t u l)
  ·exact List.Perm.refl _
theorem q1e:∀ l,(E2 l).Perm l
 | []=>List.Perm.refl _
 | t::l=>(z8v t (E2 l)).trans ((q1e l).cons t)
theorem j58 {t:List Int}:∀ {l:List (List Int)},l.Pairwise (fun a b=>¬ B0 b a<0)->(q39 t l).Pairwise fun a b=>¬ B0 b a<0
 | [],_=>by simp[q39]
 | u::l,h=>by
  have h1:=List.pairwise_cons.1 h
  simp only[q39]
  split
  ·rename_i hu
   refine List.pairwise_cons.2 ⟨fun v hv=>?_,j58 h1.2⟩
   rcases List.mem_cons.1 ((z8v t l).mem_iff.1 hv)with rfl | hv
   ·intro h;rw[P8]at h;omega
   ·exact h1.1 v hv
  ·rename_i hu
   refine List.pairwise_cons.2 ⟨fun v hv=>?_,h⟩
   rcases List.mem_cons.1 hv with rfl | hv
   ·exact hu
   ·intro hvt
    rw[P8]at hu
    have h2:=h1.1 v hv
    rw[P8]at h2
    by_cases e:B0 t u=0
    ·rw[cmpL_eq.1 e]at hvt;rw[P8]at hvt;omega
    ·exact absurd (q05 hvt (show B0 t u<0 by omega)) (by rw[P8];omega)
theorem q90:∀ l:List (List Int),(E2 l).Pairwise fun a b=>¬ B0 b a<0
 | []=>List.Pairwise.nil
 | t::l=>j58 (q90 l)
theorem v4p {l:List (List Int)} (h:∀ t∈l,t.length<=1000000):O0 z06 l=some (E2 l):=by
 refine j05 ⟨fun x hx y _=>⟨_,j2y (h x hx)⟩,fun x hx hlt=>T9 x ((q3g (h x hx)).1 hlt),fun x hx y hy z _ h1 h2=>(q3g (h x hx)).2 (q05 ((q3g (h x hx)).1 h1) ((q3g (h y hy)).1 h2)),fun x hx y hy h1 h2=>?_⟩ (q1e l) ?_
 ·have a1:¬ B0 x y<0:=fun e=>h1 ((q3g (h x hx)).2 e)
  have a2:¬ B0 y x<0:=fun e=>h2 ((q3g (h y hy)).2 e)
  rw[P8]at a2
  exact cmpL_eq.1 (by omega)
 ·unfold Srt
  have hm:∀ t∈E2 l,t.length<=1000000:=fun t ht=>h t ((q1e l).mem_iff.1 ht)
  refine(List.Pairwise.and_mem.1 (q90 l)).imp fun {a b} hab hlt=>hab.2.2 ((q3g (hm b hab.2.1)).1 hlt)
def q7e (K:List (List Int)) (t:List Int):List (List Int):=if(K.any fun u=>G0 u t)=true then K else K++[t]
def N8 (S:List (List Int)):List (List Int):=S.foldl q7e []
theorem z91 (S:List (List Int)) (t:List Int):N8 (S++[t])=q7e (N8 S) t:=by unfold N8;rw[List.foldl_append];rfl
theorem y77:∀ (S:List (List Int)) (k:Nat),k<=S.length->(N8 (S.take k)).length<=k/\∀ u∈N8 (S.take k),u∈S.take k:=by
 intro S k
 induction k with
 | zero=>intro _;rw[List.take_zero];exact⟨Nat.le_refl _,fun u hu=>by cases hu⟩
 | succ k ih =>
  intro hk
  obtain⟨h1,h2⟩:=ih (by omega)
  rw[List.take_succ_eq_append_getElem (by omega),z91]
  unfold q7e
  split
  ·exact⟨by omega,fun u hu=>List.mem_append_left _ (h2 u hu)⟩
  ·refine⟨by rw[List.length_append,List.length_cons,List.length_nil];omega,fun u hu=>?_⟩
   rcases List.mem_append.1 hu with hu | hu
   ·exact List.mem_append_left _ (h2 u hu)
   ·exact List.mem_append_right _ hu
theorem j2u {t:List Int} (h:t.length<=1000000):R1 (t,())=some (t,()):=by
 unfold R1
 simp only[List.length_nil,Nat.zero_add,G3 (show t.length<=140737488355328 by omega) (show t.length*8<=140737488355328 by omega),Bool.and_true,cond_true,List.nil_append]
theorem y7l {K:List (List Int)} (z:Int×Unit) {t:List Int} {d:Nat} (hK:∀ u∈K,u.length=d) (ht:t.length=d) (hd:d<=4) (hl:K.length<=20000000) :
  (((A2 (q9e (K,z) t) ((0:Int),())).bind (Sum.elim (fun z8=>(some (Sum.inl z8))) (Sum.elim (fun z9=>(some (Sum.inl ((-1:Int),())))) Empty.elim))):Option ((Int×Unit)⊕Empty))=some (.inl (((((List.range K.length).find? fun i=>G0 (K.getD i []) t).map fun i:Nat=>(i:Int)).getD (-1)),())):=by
 have k:=U6 (f:=q9e (K,z) t) K.length (fun i=>((i:Int),())) (fun i=>cond (G0 (K.getD i []) t) (some ((i:Int),())) none) (.inl ()) (fun i hi=>by
  have hlen:(K.getD i []).length=d:=by rw[List.getD_eq_getElem?_getD,List.getElem?_eq_getElem hi];exact hK _ (List.getElem_mem hi)
  unfold q9e
  simp only[dcT (show(i:Int)<(K.length:Int)by omega),cond_true,H7 hi,Int.toNat_natCast,R9 (d:=[]) hi,Option.bind_some,v5t (show(K.getD i []).length=t.length by omega) (show(K.getD i []).length<=1000000 by omega)]
  rw[B7 (by omega)]
  cases G0 (K.getD i []) t<;>rfl) (by
  unfold q9e
  simp only[dcF (show ¬ (K.length:Int)<(K.length:Int)by omega),cond_false]) (s0:=((0:Int),())) rfl
 rw[q13 (fun i=>G0 (K.getD i []) t) fun i=>((i:Int),())]at k
 rw[k]
 cases(List.range K.length).find? fun i=>G0 (K.getD i []) t<;>rfl
theorem y43 (K:List (List Int)) (t:List Int):(K.any fun u=>G0 u t)=((List.range K.length).find? fun i=>G0 (K.getD i []) t).isSome:=by
 rw[Bool.eq_iff_iff,List.any_eq_true,List.find?_isSome]
 constructor
 ·rintro ⟨u,hu,h⟩
  obtain⟨i,hi,rfl⟩:=List.mem_iff_getElem.1 hu
  exact⟨i,List.mem_range.2 hi,by rw[List.getD_eq_getElem?_getD,List.getElem?_eq_getElem hi];exact h⟩
 ·rintro ⟨i,hi,h⟩
  have hi:=List.mem_range.1 hi
  rw[List.getD_eq_getElem?_getD,List.getElem?_eq_getElem hi]at h
  exact⟨K[i],List.getElem_mem hi,h⟩
theorem y0f {l:List (List Int)} {d:Nat} (hl:l.length<=10000000) (hd:d<=4) (h:∀ t∈l,t.length=d):q5s (l,())=some (N8 (E2 l),()):=by
 have hc:z4m (l,())=some (l,()):=by
  unfold z4m
  simp only[List.length_nil,Nat.zero_add,G3 (show l.length<=140737488355328 by omega) (show l.length*24<=140737488355328 by omega),Bool.and_true,cond_true,List.nil_append]
 have hs:=v4p (l:=l) fun t ht=>by rw[h t ht];omega
 have hs':O0 (fun a b=>(q2t (a,b,())).map fun r=>r.1) l=some (E2 l):=hs
 have hSl:(E2 l).length=l.length:=(q1e l).length_eq
 have hSd:∀ t∈E2 l,t.length=d:=fun t ht=>h t ((q1e l).mem_iff.1 ht)
 have key:A2 (z5e (E2 l)) (([]:List (List Int)),(0:Int),())=some (.inl (N8 (E2 l),())):=by
  refine F6 (E2 l).length (fun i=>(N8 ((E2 l).take i),(i:Int),())) _ (fun i hi=>?_) ?_ rfl
  ·obtain⟨m1,m2⟩:=y77 (E2 l) i (by omega)
   have hK:∀ u∈N8 ((E2 l).take i),u.length=d:=fun u hu=>hSd u (List.mem_of_mem_take (m2 u hu))
   have ht:((E2 l)[i]).length=d:=hSd _ (List.getElem_mem hi)
   rw[List.take_succ_eq_append_getElem hi,z91]
   generalize N8 ((E2 l).take i)=K at *
   unfold z5e
   simp only[dcT (show(i:Int)<((E2 l).length:Int)by omega),cond_true,H7 hi,Int.toNat_natCast,List.getElem?_eq_getElem hi,Option.bind_some]
   rw[y7l _ hK ht hd (by omega),Option.bind_some,Sum.elim_inl]
   unfold q7e
   rw[y43]
   cases(List.range K.length).find? fun j=>G0 (K.getD j []) (E2 l)[i]with
   | some j =>
    simp only[Option.map_some,Option.getD_some,dcT (show(j:Int)≥0 by omega),Bool.not_true,cond_false,Option.isSome_some,if_true]
    rw[B7 (by omega)]
   | none =>
    have d1:decide ((-1:Int)≥0)=false:=by decide
    simp only[Option.map_none,Option.getD_none,d1,Bool.not_false,cond_true,j2u (show((E2 l)[i]).length<=1000000 by omega),Option.bind_some,List.length_cons,List.length_nil,G3 (show K.length+(0+1)<=140737488355328 by omega) (show(K.length+(0+1))*24<=140737488355328 by omega),Bool.and_true,Option.isSome_none,Bool.false_eq_true,if_false]
    rw[B7 (by omega)]
  ·unfold z5e
   simp only[dcF (show ¬ ((E2 l).length:Int)<((E2 l).length:Int)by omega),cond_false,List.take_length]
 unfold q5s
 simp only[hc,Option.bind_some,G3 (show l.length<=140737488355328 by omega) (show l.length*1<=140737488355328 by omega),cond_true,hs',key,Sum.elim_inl]
end

section
open Go Go.Abs

def L9 (l:List (List Int)) (t:List Int):Bool:=l.all fun u=>!(G0 u t&&decide (u≠t))
theorem min_iff {l:List (List Int)} {t:List Int}:L9 l t=true↔∀ u∈l,G0 u t=true->u=t:=by
 unfold L9
 rw[List.all_eq_true]
 constructor
 ·intro h u hu hut
  have:=h u hu
  rw[hut]at this
  simpa using this
 ·intro h u hu
  cases hq:G0 u t with
  | false=>rfl
  | true=>simp[h u hu hq]
theorem v1s {l:List (List Int)} {t:List Int} {d:Nat} (hl:l.length<=10000000) (hf:∀ u∈l,chk u=0/\u.length=d) (ht:chk t=0/\t.length=d):A2 (z3p (l,()) t) (true,(0:Int),())=some (.inl (L9 l t,())):=by
 refine F6 l.length (fun i=>(L9 (l.take i) t,(i:Int),())) _ (fun i hi=>?_) ?_ rfl
 ·have hu:=hf _ (List.getElem_mem hi)
  have h4:=(W3 hu.1).2.1
  unfold z3p
  simp only[dcT (show(i:Int)<(l.length:Int)by omega),cond_true,E9 hi,Option.bind_some,v1d,y7i (show l[i].length=t.length by omega) hu.1 ht.1,q56 (show l[i].length<=1000000 by omega),B7 (show i<9223372036854775807 by omega)]
  have hs:L9 (l.take (i+1)) t=(L9 (l.take i) t&&!(G0 l[i] t&&decide (l[i]≠t))):=by
   unfold L9
   rw[List.take_succ_eq_append_getElem hi,List.all_append,List.all_cons,List.all_nil,Bool.and_true]
  rw[hs]
  cases G0 l[i] t with
  | false=>rw[cond_false,Bool.false_and,Bool.not_false,Bool.and_true]
  | true =>
   rw[cond_true,Bool.true_and]
   by_cases he:l[i]=t
   ·rw[decide_eq_true he,decide_eq_false (not_not_intro he)];simp
   ·rw[decide_eq_false he,decide_eq_true he];simp
 ·unfold z3p
  simp only[dcF (show ¬ (l.length:Int)<(l.length:Int)by omega),cond_false,List.take_length]
theorem v1c {l:List (List Int)} {d:Nat} (hl:l.length<=10000000) (hf:∀ u∈l,chk u=0/\u.length=d):q8i (l,())=some ((E3 l).filter (L9 l),()):=by
 obtain⟨s1,s2,s3⟩:=V3 l
 have key:A2 (z3q (l,()) (E3 l,())) (([]:List (List Int)),(0:Int),())=some (.inl ((E3 l).filter (L9 l),())):=by
  refine F6 (E3 l).length (fun i=>(((E3 l).take i).filter (L9 l),(i:Int),())) _ (fun i hi=>?_) ?_ rfl
  ·have hfl:(((E3 l).take i).filter (L9 l)).length<=i:=Nat.le_trans (List.length_filter_le _ _) (by rw[List.length_take];omega)
   unfold z3q
   simp only[dcT (show(i:Int)<((E3 l).length:Int)by omega),cond_true,E9 hi,Option.bind_some,v1s hl hf (hf _ ((s2 _).1 (List.getElem_mem hi))),Sum.elim_inl,List.length_cons,List.length_nil,B7 (show i<9223372036854775807 by omega),G3 (show(((E3 l).take i).filter (L9 l)).length+(0+1)<=140737488355328 by omega) (show((((E3 l).take i).filter (L9 l)).length+(0+1))*24<=140737488355328 by omega),Bool.and_true]
   rw[List.take_succ_eq_append_getElem hi,List.filter_append,List.filter_cons,List.filter_nil]
   cases L9 l (E3 l)[i]with
   | true=>rfl
   | false=>simp
  ·unfold z3q
   simp only[dcF (show ¬ ((E3 l).length:Int)<((E3 l).length:Int)by omega),cond_false,List.take_length]
 unfold q8i
 rw[j7o (show l.length<=20000000 by omega) d hf,Option.bind_some,key];rfl
theorem y7j {p:List Int->Prop} (f:List Int->Nat) (h:∃ i,p i):∃ i,p i/\∀ j,p j->f i<=f j:=by
 have key:∀ m i,p i->f i<=m->∃ i,p i/\∀ j,p j->f i<=f j:=by
  intro m
  induction m with
  | zero=>intro i hi h0;exact⟨i,hi,fun j _=>by omega⟩
  | succ m ih =>
   intro i hi hm
   by_cases hx:∃ j,p j/\f j<=m
   ·obtain⟨j,h1,h2⟩:=hx;exact ih j h1 h2
   ·refine⟨i,hi,fun j hj=>?_⟩
    by_cases hjm:f j<=m
    ·exact absurd ⟨j,hj,hjm⟩ hx
    ·omega
 obtain⟨i,hi⟩:=h
 exact key (f i) i hi (Nat.le_refl _)
theorem y07:∀ {a:List Int},(∀ v∈a,0<=v)->0<=a.sum
 | [],_=>by simp
 | v::a,h=>by
  rw[List.sum_cons]
  have h1:=h v (List.mem_cons_self ..)
  have h2:=y07 fun w hw=>h w (List.mem_cons_of_mem _ hw)
  omega
theorem j2t {a:List Int} (h:chk a=0):0<=a.sum:=y07 fun v hv=>by
 obtain⟨i,hi,rfl⟩:=List.mem_iff_getElem.1 hv
 exact((W3 h).2.2 i _ (List.getElem?_eq_getElem hi)).1
section
variable {l:List (List Int)} {d:Nat}
theorem y8l (hf:∀ u∈l,chk u=0/\u.length=d) {t:List Int} (ht:t∈l):∃ u,u∈l/\G0 u t=true/\L9 l u=true:=by
 obtain⟨u,⟨hu,hut⟩,hmin⟩:=y7j (p:=fun u=>u∈l/\G0 u t=true) (fun u=>u.sum.toNat) ⟨t,ht,j19 t⟩
 refine⟨u,hu,hut,min_iff.2 fun v hv hvu=>?_⟩
 have lv:=hf v hv
 have lu:=hf u hu
 have lt:=hf t ht
 rcases j18 (by omega) hvu with e | ⟨_,hs⟩
 ·exact e
 ·have:=hmin v ⟨hv,y0r (by omega) (by omega) hvu hut⟩
  have:=j2t lv.1
  have:=j2t lu.1
  omega
theorem y78 (hf:∀ u∈l,chk u=0/\u.length=d):∀ k,k<=(E2 l).length->(∀ t,t∈N8 ((E2 l).take k)↔t∈(E2 l).take k/\L9 l t=true)/\up (N8 ((E2 l).take k)):=by
 intro k
 induction k with
 | zero=>intro _;rw[List.take_zero];exact⟨fun t=>⟨fun h=>(by cases h),fun h=>(by cases h.1)⟩,List.Pairwise.nil⟩
 | succ k ih =>
  intro hk
  have hk':k<(E2 l).length:=by omega
  obtain⟨h1,h2⟩:=ih (by omega)
  have hin:∀ u,u∈E2 l↔u∈l:=fun u=>(q1e l).mem_iff
  have hsrt:=List.pairwise_iff_getElem.1 (q90 l)
  have hlow:∀ u∈l,B0 u (E2 l)[k]<0->u∈(E2 l).take k:=fun u hu hc=>by
   obtain⟨j,hj,rfl⟩:=List.mem_iff_getElem.1 ((hin u).2 hu)
   rcases Nat.lt_trichotomy j k with h | h | h
   ·exact List.mem_iff_getElem.2 ⟨j,by rw[List.length_take];omega,by rw[List.getElem_take]⟩
   ·subst h;exact absurd hc (T9 _)
   ·exact absurd hc (hsrt k j hk' hj h)
  have htl:(E2 l)[k]∈l:=(hin _).1 (List.getElem_mem hk')
  have hft:=hf _ htl
  rw[List.take_succ_eq_append_getElem hk',z91]
  unfold q7e
  by_cases hany:((N8 ((E2 l).take k)).any fun u=>G0 u (E2 l)[k])=true
  ·rw[if_pos hany]
   refine⟨fun t=>?_,h2⟩
   rw[h1,List.mem_append,List.mem_singleton]
   constructor
   ·exact fun h=>⟨.inl h.1,h.2⟩
   ·rintro ⟨h | h,hm⟩
    ·exact⟨h,hm⟩
    ·subst h
     obtain⟨u,hu,hut⟩:=List.any_eq_true.1 hany
     have hu':=(h1 u).1 hu
     have:=min_iff.1 hm u ((hin u).1 (List.mem_of_mem_take hu'.1)) hut
     rw[this]at hu'
     exact hu'
  ·rw[if_neg hany]
   have hno:∀ u∈N8 ((E2 l).take k),G0 u (E2 l)[k]=false:=fun u hu=>by
    cases hq:G0 u (E2 l)[k]with
    | false=>rfl
    | true=>exact absurd (List.any_eq_true.2 ⟨u,hu,hq⟩) hany
   have hmin:L9 l (E2 l)[k]=true:=by
    obtain⟨u,hu,hut,hum⟩:=y8l hf htl
    have hfu:=hf u hu
    rcases j18 (by omega) hut with e | ⟨hc,_⟩
    ·rw[<-e];exact hum
    ·have:=hno u ((h1 u).2 ⟨hlow u hu hc,hum⟩)
     rw[hut]at this;cases this
   refine⟨fun t=>?_,?_⟩
   ·rw[List.mem_append,List.mem_singleton,List.mem_append,List.mem_singleton,h1]
    constructor
    ·rintro (h | h)
     ·exact⟨.inl h.1,h.2⟩
     ·exact⟨.inr h,h▸hmin⟩
    ·rintro ⟨h | h,hm⟩
     ·exact .inl ⟨h,hm⟩
     ·exact .inr h
   ·unfold up
    rw[List.pairwise_append]
    refine⟨h2,List.pairwise_singleton _ _,fun u hu t ht=>?_⟩
    rw[List.mem_singleton]at ht
    subst ht
    have hu':=(h1 u).1 hu
    obtain⟨j,hj,hje⟩:=List.mem_iff_getElem.1 hu'.1
    rw[List.length_take]at hj
    rw[List.getElem_take]at hje
    have hs:=hsrt j k (by omega) hk' (by omega)
    rw[hje]at hs
    rw[P8]at hs
    by_cases e:B0 u (E2 l)[k]=0
    ·have:=hno u hu
     rw[cmpL_eq.1 e,j19]at this
     cases this
    ·omega
theorem j4i (hf:∀ u∈l,chk u=0/\u.length=d):N8 (E2 l)=(E3 l).filter (L9 l):=by
 obtain⟨s1,s2,s3⟩:=V3 l
 have h:=y78 hf (E2 l).length (Nat.le_refl _)
 rw[List.take_length]at h
 refine j1a h.2 (s3.filter _) fun t=>?_
 rw[h.1,List.mem_filter,s2,(q1e l).mem_iff]
end
theorem v0n {l:List (List Int)} (hl:l.length<=20000000) (h:∀ x∈l,x.length<=1000000):z2x (l,l,())=some (true,()):=by
 unfold z2x
 simp only[L1 rfl,cond_false]
 have key:=U6 (f:=z2y (l,l,())) l.length (fun i=>((i:Int),())) (fun _=>(none:Option (Bool×Unit))) (.inl ()) (fun i hi=>by
  unfold z2y
  simp only[dcT (show(i:Int)<(l.length:Int)by omega),cond_true,E9 hi,Option.bind_some,q56 (h _ (List.getElem_mem hi)),decide_true,Bool.not_true,cond_false,B7 (show i<9223372036854775807 by omega)]
  rfl) (by
  unfold z2y
  simp only[dcF (show ¬ (l.length:Int)<(l.length:Int)by omega),cond_false]) (s0:=((0:Int),())) rfl
 rw[key,show(List.range l.length).findSome? (fun _=>(none:Option (Bool×Unit)))=none by simp]
 rfl
end

section
open Go Go.Abs

structure Part {α:Type} (p:α->Bool) (s:List α) (i j:Nat) (l:List α):Prop where
 ij:i<=j
 js:j<=s.length
 len:l.length=s.length
 head:l.take i=(s.take j).filter p
 tail:l.drop j=s.drop j
theorem Part.get {α:Type} {p:α->Bool} {s l:List α} {i j:Nat} (h:Part p s i j l) (hj:j<s.length):l[j]? = some s[j]:=by
 have:=h.tail
 have h1:(l.drop j)[0]? = (s.drop j)[0]?:=by rw[this]
 rw[List.getElem?_drop,List.getElem?_drop,Nat.add_zero]at h1
 rw[h1,List.getElem?_eq_getElem hj]
theorem Part.skip {α:Type} {p:α->Bool} {s l:List α} {i j:Nat} (h:Part p s i j l) (hj:j<s.length) (hp:p s[j]=false):Part p s i (j+1) l:=by
 refine⟨by have:=h.ij;omega,hj,h.len,?_,?_⟩
 ·rw[List.take_succ_eq_append_getElem hj,List.filter_append,h.head]
  simp[hp]
 ·have h1:=congrArg (List.drop 1) h.tail
  rw[List.drop_drop,List.drop_drop]at h1
  exact h1
theorem Part.keep {α:Type} {p:α->Bool} {s l:List α} {i j:Nat} (h:Part p s i j l) (hj:j<s.length) (hp:p s[j]=true):Part p s (i+1) (j+1) (l.set i s[j]):=by
 have h0:=h.ij
 have h9:=h.len
 refine⟨by omega,hj,by rw[List.length_set];exact h.len,?_,?_⟩
 ·rw[List.take_succ_eq_append_getElem hj,List.filter_append,<-h.head]
  have hi:i<(l.set i s[j]).length:=by rw[List.length_set];omega
  rw[List.take_succ_eq_append_getElem hi,List.getElem_set_self,List.take_set_of_le (Nat.le_refl i)]
  simp[hp]
 ·rw[List.drop_set_of_lt (by omega)]
  have h1:=congrArg (List.drop 1) h.tail
  rw[List.drop_drop,List.drop_drop]at h1
  exact h1
theorem Part.done {α:Type} {p:α->Bool} {s l:List α} {i:Nat} (h:Part p s i s.length l):l.take i=s.filter p:=by
 have:=h.head;rw[List.take_length]at this;exact this
end

section
open Go Go.Abs

abbrev Sm:=Int×Int×List Int×Unit
def okS (s:Sm):Prop:=sck s.1 s.2.1 s.2.2.1 4=0
def leS (a b:Sm):Bool:=decide (a.1.toNat+a.2.2.1.length=b.1.toNat+b.2.2.1.length)&&!(List.range (a.1.toNat+a.2.2.1.length)).any (X2 a.1.toNat a.2.1 a.2.2.1 b.1.toNat b.2.1 b.2.2.1)
theorem q7s {s:Sm} (h:okS s):∃ (n:Nat) (d:Int) (p:List Int),s=((n:Int),d,p,())/\1<=n/\n+p.length<=4:=by
 obtain⟨n,d,p,⟨⟩⟩:=s
 obtain⟨h1,h2,h3,h4,h5,h6⟩:=N9 (show sck n d p 4=0 from h)
 obtain⟨k,rfl⟩:=Int.eq_ofNat_of_zero_le (show 0<=n by omega)
 exact⟨k,d,p,rfl,by omega,by omega⟩
theorem y09 {a b:Sm} (ha:okS a) (hb:okS b):q5r (a,b,())=some (leS a b,()):=by
 obtain⟨n,d,p,rfl,-⟩:=q7s ha
 obtain⟨m,e,q,rfl,-⟩:=q7s hb
 exact v5h ha hb
theorem v0x {a b:Sm} (ha:okS a) (hb:okS b):q8f (a,b,())=some (leS a b,()):=by
 obtain⟨n,d,p,rfl,-⟩:=q7s ha
 obtain⟨m,e,q,rfl,-⟩:=q7s hb
 exact v0w ha hb
def q0f (s:Sm):Int:=s.1+(s.2.2.1.length:Int)
def C9 (s:Sm):List Int:=s.1::s.2.1::s.2.2.1
def q5w:List Int->Sm
 | n::d::p=>(n,d,p,())
 | _=>(0,0,[],())
theorem z5j (s:Sm):q5w (C9 s)=s:=rfl
theorem z1k {a b:Sm} (h:C9 a=C9 b):a=b:=by rw[<-z5j a,h,z5j]
theorem y5b (a b c:Int):q34 ([a,b,c],())=some (if a≠0 then a else if b≠0 then b else c,()):=by
 have st:∀ (i:Nat) (v:Int),[a,b,c][i]? = some v->U1 ([a,b,c],()) ((i:Int),())=some (if v≠0 then .inr (.inl (v,()))else .inl (((i+1:Nat):Int),())):=fun i v hi=>by
  have hlt:=(List.getElem?_eq_some_iff.1 hi).1
  unfold U1
  simp only[dcT (show(i:Int)<(([a,b,c]:List Int).length:Int)by omega),cond_true,U2,hi,Option.bind_some,K2,B7 (show i<9223372036854775807 by simp at hlt;omega)]
  by_cases hv:v=0<;>simp[hv]
 have s0:U1 ([a,b,c],()) ((0:Int),())=some (if a≠0 then .inr (.inl (a,()))else .inl ((1:Int),())):=st 0 a rfl
 have s1:U1 ([a,b,c],()) ((1:Int),())=some (if b≠0 then .inr (.inl (b,()))else .inl ((2:Int),())):=st 1 b rfl
 have s2:U1 ([a,b,c],()) ((2:Int),())=some (if c≠0 then .inr (.inl (c,()))else .inl ((3:Int),())):=st 2 c rfl
 have s3:U1 ([a,b,c],()) ((3:Int),())=some (.inr (.inr (.inl ()))):=rfl
 unfold q34
 by_cases ha:a=0
 ·rw[if_neg (by simpa using ha)]at s0
  rw[H9 s0]
  by_cases hb:b=0
  ·rw[if_neg (by simpa using hb)]at s1
   rw[H9 s1]
   by_cases hc:c=0
   ·rw[if_neg (by simpa using hc)]at s2
    rw[H9 s2,D6 s3];simp[ha,hb,hc]
   ·rw[if_pos hc]at s2
    rw[D6 s2];simp[ha,hb]
  ·rw[if_pos hb]at s1
   rw[D6 s1];simp[ha,hb]
 ·rw[if_pos ha]at s0
  rw[D6 s0];simp[ha]
theorem y08 (a b:Sm) (ha:a.2.2.1.length<=1000000):q3s (a,b,())=some (B0 (C9 a) (C9 b),()):=by
 unfold q3s
 simp only[j2z,j04 ha,Option.bind_some,y5b]
 congr 2
 unfold C9
 simp only[B0]
 by_cases h1:a.1<b.1
 ·simp[h1]
 ·by_cases h2:a.1>b.1
  ·simp[h1,h2]
  ·by_cases h3:a.2.1<b.2.1
   ·simp[h1,h2,h3]
   ·by_cases h4:a.2.1>b.2.1<;>simp[h1,h2,h3,h4]
theorem z6g (a b:Sm) (ha:a.2.2.1.length<=1000000):q9a (a,b,())=some (decide (a=b),()):=by
 unfold q9a
 rw[y08 a b ha]
 simp only[Option.bind_some]
 by_cases h:a=b
 ·subst h
  rw[cmpL_eq.2 rfl];simp
 ·have:¬ B0 (C9 a) (C9 b)=0:=fun e=>h (z1k (cmpL_eq.1 e))
  simp[h,this]
noncomputable def z05 (a b:Sm):Option Int:=(q3s (a,b,())).map fun r=>r.1
theorem j2x {a b:Sm} (ha:a.2.2.1.length<=1000000):z05 a b=some (B0 (C9 a) (C9 b)):=by
 unfold z05;rw[y08 a b ha];rfl
theorem q3f {a b:Sm} (ha:a.2.2.1.length<=1000000):ltF z05 a b↔B0 (C9 a) (C9 b)<0:=by
 unfold ltF
 rw[j2x ha]
 constructor
 ·rintro ⟨v,h1,h2⟩;cases h1;exact h2
 ·exact fun h=>⟨_,rfl,h⟩
def M9 (l:List Sm):List Sm:=(E2 (l.map C9)).map q5w
theorem q91 (l:List Sm):(M9 l).Perm l:=by
 have h:=(q1e (l.map C9)).map q5w
 rw[List.map_map]at h
 have e:l.map (q5w∘C9)=l:=(List.map_congr_left fun a _=>z5j a).trans (List.map_id _)
 rw[e]at h
 exact h
theorem j8o (l:List Sm):(M9 l).map C9=E2 (l.map C9):=by
 unfold M9
 rw[List.map_map]
 refine(List.map_congr_left fun k hk=>?_).trans (List.map_id _)
 obtain⟨s,-,rfl⟩:=List.mem_map.1 ((q1e _).mem_iff.1 hk)
 rfl
theorem v4o {l:List Sm} (h:∀ s∈l,s.2.2.1.length<=1000000):O0 z05 l=some (M9 l):=by
 refine j05 ⟨fun x hx y _=>⟨_,j2x (h x hx)⟩,fun x hx hlt=>T9 _ ((q3f (h x hx)).1 hlt),fun x hx y hy z _ h1 h2=>(q3f (h x hx)).2 (q05 ((q3f (h x hx)).1 h1) ((q3f (h y hy)).1 h2)),fun x hx y hy h1 h2=>?_⟩ (q91 l) ?_
 ·have a1:¬ B0 (C9 x) (C9 y)<0:=fun e=>h1 ((q3f (h x hx)).2 e)
  have a2:¬ B0 (C9 y) (C9 x)<0:=fun e=>h2 ((q3f (h y hy)).2 e)
  rw[P8]at a2
  exact z1k (cmpL_eq.1 (by omega))
 ·have:=q90 (l.map C9)
  rw[<-j8o]at this
  rw[List.pairwise_map]at this
  exact this.imp_of_mem fun {a b} ha hb hab hlt=>hab ((q3f (h b ((q91 l).mem_iff.1 hb))).1 hlt)
def L5 (s:List Sm) (k:Nat):Bool:=decide (k=0)||!decide (s.getD k (0,0,[],())=s.getD (k-1) (0,0,[],()))
structure PartI (q:Nat->Bool) (s:List Sm) (i j:Nat) (l:List Sm):Prop where
 ij:i<j
 js:j<=s.length
 len:l.length=s.length
 head:l.take i=((List.range j).filter q).map fun k=>s.getD k (0,0,[],())
 tail:l.drop i=s.drop i
theorem PartI.get {q:Nat->Bool} {s l:List Sm} {i j k:Nat} (h:PartI q s i j l) (hk:i<=k) (hk2:k<s.length):l[k]? = some (s.getD k (0,0,[],())):=by
 have h1:(l.drop i)[k-i]? = (s.drop i)[k-i]?:=by rw[h.tail]
 rw[List.getElem?_drop,List.getElem?_drop,show i+(k-i)=k from by omega]at h1
 rw[h1];exact R9 hk2
theorem PartI.skip {q:Nat->Bool} {s l:List Sm} {i j:Nat} (h:PartI q s i j l) (hj:j<s.length) (hp:q j=false):PartI q s i (j+1) l:=by
 refine⟨by have:=h.ij;omega,hj,h.len,?_,h.tail⟩
 rw[List.range_succ,List.filter_append,h.head]
 simp[hp]
theorem PartI.keep {q:Nat->Bool} {s l:List Sm} {i j:Nat} (h:PartI q s i j l) (hj:j<s.length) (hp:q j=true):PartI q s (i+1) (j+1) (l.set i (s.getD j (0,0,[],()))):=by
 have h0:=h.ij
 have h9:=h.len
 refine⟨by omega,hj,by rw[List.length_set];exact h.len,?_,?_⟩
 ·rw[List.range_succ,List.filter_append,List.map_append,<-h.head]
  have hi:i<(l.set i (s.getD j (0,0,[],()))).length:=by rw[List.length_set];omega
  rw[List.take_succ_eq_append_getElem hi,List.getElem_set_self,List.take_set_of_le (Nat.le_refl i)]
  simp[hp]
 ·rw[List.drop_set_of_lt (by omega)]
  have h1:=congrArg (List.drop 1) h.tail
  rw[List.drop_drop,List.drop_drop]at h1
  exact h1
theorem v08 {q:Nat->Bool} {s:List Sm} {i:Nat} (hi:i<s.length) (h:∀ k,k<i->q k=true) (hp:q i=false):PartI q s i (i+1) s:=by
 refine⟨by omega,hi,rfl,?_,rfl⟩
 rw[List.range_succ,List.filter_append,List.map_append]
 have:(List.range i).filter q=List.range i:=by
  rw[List.filter_eq_self]
  intro a ha
  exact h a (List.mem_range.1 ha)
 rw[this]
 simp only[List.filter_cons,hp,List.filter_nil,Bool.false_eq_true,if_false,List.map_nil,List.append_nil]
 refine List.ext_getElem (by simp;omega) fun k h1 h2=>?_
 simp only[List.length_take]at h1
 rw[List.getElem_take,List.getElem_map,List.getElem_range,List.getD_eq_getElem?_getD,List.getElem?_eq_getElem (by omega)]
 rfl
def O9 (s:List Sm):List Sm:=((List.range s.length).filter (L5 s)).map fun k=>s.getD k (0,0,[],())
theorem z8t {s:List Sm} (hs:s.length<=20000000) (hp:∀ x∈s,x.2.2.1.length<=1000000) {k0:Nat} (z:List Sm×Unit) (hz:z.1.length=s.length) (hk0:k0<s.length) :
  ∀ (n i j:Nat) (l:List Sm),k0+j+n=s.length->0<j->k0<=i->PartI (L5 s) s i (k0+j) l ->
   ∃ (i':Nat) (l':List Sm),A2 (q9b ((k0:Int),z)) ((i:Int),(j:Int),l,())=some (.inl ((i':Int),l',()))/\PartI (L5 s) s i' s.length l'
 | 0,i,j,l,hn,hj,hki,h=>by
  obtain rfl:j=s.length-k0:=by omega
  have e:k0+(s.length-k0)=s.length:=by omega
  rw[e]at h
  refine⟨i,l,D6 ?_,h⟩
  unfold q9b
  have d1:decide (((s.length-k0:Nat):Int)<((z.1.length-k0:Nat):Int))=false:=dcF (by rw[hz];omega)
  simp only[Int.toNat_natCast,d1,cond_false]
 | n+1,i,j,l,hn,hj,hki,h=>by
  have hl:=h.len
  have hij:=h.ij
  have hlt:k0+j<s.length:=by omega
  have m1:s.getD (k0+j) (0,0,[],())∈s:=by
   rw[List.getD_eq_getElem?_getD,List.getElem?_eq_getElem hlt];exact List.getElem_mem hlt
  have w1:IntKind.i64.wrap ((j:Int)-1)=((j-1:Nat):Int):=by rw[E7 (by omega) (by omega)];omega
  have b1:inB (j:Int) (z.1.length-k0)=true:=H7 (by rw[hz];omega)
  have b2:inB ((j-1:Nat):Int) (z.1.length-k0)=true:=H7 (by rw[hz];omega)
  have d1:decide ((j:Int)<((z.1.length-k0:Nat):Int))=true:=dcT (by rw[hz];omega)
  have g1:l[k0+j]? = some (s.getD (k0+j) (0,0,[],())):=h.get (by omega) hlt
  have g2:l[k0+(j-1)]? = some (s.getD (k0+j-1) (0,0,[],())):=by
   rw[show k0+(j-1)=k0+j-1 from by omega];exact h.get (by omega) (by omega)
  have hq:L5 s (k0+j)=!decide (s.getD (k0+j) (0,0,[],())=s.getD (k0+j-1) (0,0,[],())):=by
   unfold L5
   rw[decide_eq_false (show ¬ k0+j=0 by omega),Bool.false_or]
  have key:q9b ((k0:Int),z) ((i:Int),(j:Int),l,())=some (.inl (if L5 s (k0+j)=true then(((i+1:Nat):Int),((j+1:Nat):Int),l.set i (s.getD (k0+j) (0,0,[],())),())else((i:Int),((j+1:Nat):Int),l,()))):=by
   unfold q9b
   simp only[Int.toNat_natCast,d1,cond_true,b1,w1,b2,g1,g2,Option.bind_some,z6g _ _ (hp _ m1),<-hq,B7 (show j<9223372036854775807 by omega)]
   cases L5 s (k0+j)with
   | true=>simp only[cond_true,H7 (show i<l.length by omega),List.getElem?_eq_getElem (show i<l.length by omega),Option.bind_some,B7 (show i<9223372036854775807 by omega),if_true]
   | false=>simp only[cond_false,Bool.false_eq_true,if_false]
  rw[H9 key]
  cases hq':L5 s (k0+j)with
  | true=>simp only[if_true];exact z8t hs hp z hz hk0 n (i+1) (j+1) _ (by omega) (by omega) (by omega) (h.keep hlt hq')
  | false=>simp only[Bool.false_eq_true,if_false];exact z8t hs hp z hz hk0 n i (j+1) _ (by omega) (by omega) hki (h.skip hlt hq')
theorem y5g {s:List Sm} (hs:s.length<=20000000) (hp:∀ x∈s,x.2.2.1.length<=1000000) :
  (((cond (decide ((s.length:Int)<(2:Int))) (some (Sum.inl (s,()))) ((A2 (q1f) ((1:Int),s,())).bind (Sum.elim (fun z14=>(some (Sum.inl (((z14.2.2.1.drop z14.1).take z14.2.1),())))) (Sum.elim (fun z15=>(some (Sum.inl z15))) Empty.elim)))):Option ((List Sm×Unit)⊕Empty)))=some (.inl (O9 s,())):=by
 by_cases h2:s.length<2
 ·simp only[dcT (show(s.length:Int)<2 by omega),cond_true]
  congr 3
  match s,h2 with
  | [],_=>rfl
  | [a],_=>rfl
 ·simp only[dcF (show ¬ (s.length:Int)<2 by omega),cond_false]
  have hstep:∀ k:Nat,1<=k->k<s.length->L5 s k=true->q1f ((k:Int),s,())=some (.inl (((k+1:Nat):Int),s,())):=fun k hk1 hk hq=>by
   have w1:IntKind.i64.wrap ((k:Int)-1)=((k-1:Nat):Int):=by rw[E7 (by omega) (by omega)];omega
   have m1:s.getD k (0,0,[],())∈s:=by
    rw[List.getD_eq_getElem?_getD,List.getElem?_eq_getElem hk];exact List.getElem_mem hk
   unfold L5 at hq
   rw[decide_eq_false (show ¬ k=0 by omega),Bool.false_or,Bool.not_eq_true']at hq
   unfold q1f
   simp only[dcT (show(k:Int)<(s.length:Int)by omega),cond_true,H7 hk,w1,H7 (show k-1<s.length by omega),Int.toNat_natCast,R9 (d:=((0,0,[],()):Sm)) hk,R9 (d:=((0,0,[],()):Sm)) (show k-1<s.length by omega),Option.bind_some,z6g _ _ (hp _ m1),hq,cond_false,B7 (show k<9223372036854775807 by omega)]
  have hend:q1f ((s.length:Int),s,())=some (.inr (.inr (.inl (s,())))):=by
   unfold q1f
   simp only[dcF (show ¬ (s.length:Int)<(s.length:Int)by omega),cond_false]
  have hdup:∀ k:Nat,1<=k->k<s.length->(∀ m,m<k->L5 s m=true)->L5 s k=false->∃ (i':Nat) (l':List Sm),i'<=l'.length/\l'.take i'=O9 s/\∃ z:List Sm,q1f ((k:Int),s,())=some (.inr (.inl (0,i',l'.take i'++z,()))):=fun k hk1 hk hall hq=>by
   have w1:IntKind.i64.wrap ((k:Int)-1)=((k-1:Nat):Int):=by rw[E7 (by omega) (by omega)];omega
   have m1:s.getD k (0,0,[],())∈s:=by
    rw[List.getD_eq_getElem?_getD,List.getElem?_eq_getElem hk];exact List.getElem_mem hk
   obtain⟨i',l',hrun,hpi⟩:=z8t hs hp (k0:=k) (s,()) rfl hk (s.length-(k+1)) k 1 s (by omega) (by omega) (Nat.le_refl _) (v08 hk hall hq)
   have h1:=hpi.ij
   have h3:=hpi.len
   refine⟨i',l',by omega,hpi.head,?_⟩
   unfold L5 at hq
   rw[decide_eq_false (show ¬ k=0 by omega),Bool.false_or,Bool.not_eq_false']at hq
   have g0:(decide (0<=(k:Int))&&decide ((k:Int)<=(s.length:Int))&&decide ((s.length:Int)<=s.length))=true:=by
    rw[dcT (show(0:Int)<=k by omega),dcT (show(k:Int)<=s.length by omega),dcT (show(s.length:Int)<=s.length by omega)];rfl
   have g1:(decide (0<=(i':Int))&&decide ((i':Int)<=(l'.length:Int))&&decide ((l'.length:Int)<=l'.length))=true:=by
    rw[dcT (show(0:Int)<=i' by omega),dcT (show(i':Int)<=l'.length by omega),dcT (show(l'.length:Int)<=l'.length by omega)];rfl
   have g2:∀ z:List Sm,(decide (0<=(0:Int))&&decide ((0:Int)<=(i':Int))&&decide ((i':Int)<=(l'.take i'++z).length))=true:=fun z=>by
    rw[dcT (show(0:Int)<=0 by omega),dcT (show(0:Int)<=i' by omega),dcT (show(i':Int)<=((l'.take i'++z).length:Nat)by rw[List.length_append,List.length_take];omega)];rfl
   have e1:((1:Nat):Int)=1:=rfl
   rw[e1]at hrun
   unfold q1f
   simp only[dcT (show(k:Int)<(s.length:Int)by omega),cond_true,H7 hk,w1,H7 (show k-1<s.length by omega),Int.toNat_natCast,R9 (d:=((0,0,[],()):Sm)) hk,R9 (d:=((0,0,[],()):Sm)) (show k-1<s.length by omega),Option.bind_some,z6g _ _ (hp _ m1),hq,g0,hrun,Sum.elim_inl,g1]
   simp only[List.append_assoc,g2,cond_true,Int.toNat_zero,Nat.sub_zero]
   exact⟨_,rfl⟩
  have hrun:∀ (n k:Nat),k+n=s.length->1<=k->(∀ m,m<k->L5 s m=true)->((A2 (q1f) ((k:Int),s,())).bind (Sum.elim (fun z14=>(some (Sum.inl (((z14.2.2.1.drop z14.1).take z14.2.1),())))) (Sum.elim (fun z15=>(some (Sum.inl z15))) Empty.elim)):Option ((List Sm×Unit)⊕Empty))=some (.inl (O9 s,())):=by
   intro n
   induction n with
   | zero =>
    intro k hk hk1 hall
    obtain rfl:k=s.length:=by omega
    rw[D6 hend]
    simp only[Option.bind_some,Sum.elim_inr,Sum.elim_inl]
    congr 3
    unfold O9
    have:(List.range s.length).filter (L5 s)=List.range s.length:=by
     rw[List.filter_eq_self]
     intro a ha
     exact hall a (List.mem_range.1 ha)
    rw[this]
    refine List.ext_getElem (by simp) fun k h1 h2=>?_
    rw[List.getElem_map,List.getElem_range,List.getD_eq_getElem?_getD,List.getElem?_eq_getElem h1]
    rfl
   | succ n ih =>
    intro k hk hk1 hall
    cases hq:L5 s k with
    | true =>
     rw[H9 (hstep k hk1 (by omega) hq)]
     exact ih (k+1) (by omega) (by omega) fun m hm=>by
      rcases Nat.lt_succ_iff_lt_or_eq.1 hm with h | rfl
      ·exact hall m h
      ·exact hq
    | false =>
     obtain⟨i',l',hi',ht,z,hz⟩:=hdup k hk1 (by omega) hall hq
     rw[D6 hz]
     simp only[Option.bind_some,Sum.elim_inl,List.drop_zero]
     rw[List.take_append_of_le_length (by rw[List.length_take];omega),List.take_take,Nat.min_self,ht]
  exact hrun (s.length-1) 1 (by omega) (Nat.le_refl _) fun m hm=>by
   obtain rfl:m=0:=by omega
   rfl
end

section
open Go Go.Abs

theorem z2g {l:List Sm}:up ((O9 (M9 l)).map C9)/\(∀ s,s∈O9 (M9 l)↔s∈l):=by
 have hsrt:((M9 l).map C9).Pairwise fun a b=>¬ B0 b a<0:=by rw[j8o];exact q90 _
 have hmem:∀ s,s∈M9 l↔s∈l:=fun s=>(q91 l).mem_iff
 generalize M9 l=S at hsrt hmem
 rw[List.pairwise_map,List.pairwise_iff_getElem]at hsrt
 have gd:∀ k (hk:k<S.length),S.getD k (0,0,[],())=S[k]:=fun k hk=>by
  rw[List.getD_eq_getElem?_getD,List.getElem?_eq_getElem hk];rfl
 have le:∀ i j (hi:i<S.length) (hj:j<S.length),i<=j->¬ B0 (C9 S[j]) (C9 S[i])<0:=fun i j hi hj hij=>by
  rcases Nat.lt_or_ge i j with h | h
  ·exact hsrt i j hi hj h
  ·obtain rfl:i=j:=by omega
   exact T9 _
 constructor
 ·show(((O9 S).map C9)).Pairwise _
  unfold O9
  rw[List.map_map,List.pairwise_map]
  refine((List.pairwise_lt_range (n:=S.length)).filter _).imp_of_mem fun {a b} ha hb hab=>?_
  have hb':=List.mem_filter.1 hb
  have ha':=List.mem_filter.1 ha
  have hbn:=List.mem_range.1 hb'.1
  have han:=List.mem_range.1 ha'.1
  show B0 (C9 (S.getD a _)) (C9 (S.getD b _))<0
  rw[gd a han,gd b hbn]
  have hf:=hb'.2
  unfold L5 at hf
  rw[decide_eq_false (show ¬ b=0 by omega),Bool.false_or,Bool.not_eq_true',decide_eq_false_iff_not,gd b hbn,gd (b-1) (by omega)]at hf
  have h1:=le a (b-1) han (by omega) (by omega)
  have h2:=le (b-1) b (by omega) hbn (by omega)
  have h3:¬ B0 (C9 S[b-1]) (C9 S[b])=0:=fun e=>hf (z1k (cmpL_eq.1 e)).symm
  rw[P8]at h2
  have h4:B0 (C9 S[b-1]) (C9 S[b])<0:=by omega
  by_cases h5:B0 (C9 S[a]) (C9 S[b-1])<0
  ·exact q05 h5 h4
  ·rw[P8]at h1
   rw[cmpL_eq.1 (show B0 (C9 S[a]) (C9 S[b-1])=0 by omega)]
   exact h4
 ·intro s
  rw[<-hmem]
  unfold O9
  rw[List.mem_map]
  constructor
  ·rintro ⟨k,hk,rfl⟩
   have:=List.mem_range.1 (List.mem_filter.1 hk).1
   rw[gd k this];exact List.getElem_mem this
  ·intro hs
   obtain⟨i,hi,rfl⟩:=List.mem_iff_getElem.1 hs
   have:∃ k,k<S.length/\S.getD k (0,0,[],())=S[i]/\∀ m,m<k->S.getD m (0,0,[],())≠S[i]:=by
    cases hf:(List.range S.length).find? fun k=>decide (S.getD k (0,0,[],())=S[i])with
    | none =>
     have:=q4g hf i hi
     rw[gd i hi]at this
     simp at this
    | some k =>
     have h1:=List.find?_range_eq_some.1 hf
     refine⟨k,List.mem_range.1 h1.2.1,of_decide_eq_true h1.1,fun m hm e=>?_⟩
     have:=h1.2.2 m hm
     rw[decide_eq_true e]at this
     cases this
   obtain⟨k,hk,e,hmin⟩:=this
   refine⟨k,List.mem_filter.2 ⟨List.mem_range.2 hk,?_⟩,e⟩
   unfold L5
   by_cases h0:k=0
   ·simp[h0]
   ·have:=hmin (k-1) (by omega)
    rw[e,decide_eq_false h0,decide_eq_false (Ne.symm this)];rfl
def K5 (D:List Sm) (s:Sm):Bool:=D.all fun r=>decide (r=s)||!leS r s
theorem y8k {D E:List Sm} (h:∀ r,r∈D↔r∈E) (s:Sm):K5 D s=K5 E s:=by
 rw[Bool.eq_iff_iff]
 unfold K5
 rw[List.all_eq_true,List.all_eq_true]
 exact⟨fun g r hr=>g r ((h r).2 hr),fun g r hr=>g r ((h r).1 hr)⟩
theorem y8w {D:List Sm} (h:D.Nodup) {i j:Nat} (hi:i<D.length) (hj:j<D.length) (e:D[j]=D[i]):j=i:=by
 have h:=List.pairwise_iff_getElem.1 h
 rcases Nat.lt_trichotomy i j with g | g | g
 ·exact absurd e.symm (h i j hi hj g)
 ·exact g.symm
 ·exact absurd e (h j i hj hi g)
theorem y7k {D:List Sm} (hD:D.length<=20000000) (hok:∀ s∈D,okS s) (hnd:D.Nodup) (zu:Unit) {K:List Sm} {i:Nat} (hi:i<D.length) :
  A2 (z55 (D,zu) (K,(i:Int),()) D[i]) (true,(0:Int),())=some (.inl (K5 D D[i],())):=by
 have hmin:K5 D D[i]=(List.range D.length).all fun j=>decide (j=i)||!leS (D.getD j (0,0,[],())) D[i]:=by
  rw[Bool.eq_iff_iff]
  unfold K5
  rw[List.all_eq_true,List.all_eq_true]
  constructor
  ·intro h j hj
   have hj:=List.mem_range.1 hj
   have:=h D[j] (List.getElem_mem hj)
   rw[List.getD_eq_getElem?_getD,List.getElem?_eq_getElem hj,Option.getD_some]
   simp only[Bool.or_eq_true,decide_eq_true_eq]at this ⊢
   rcases this with e | e
   ·exact .inl (y8w hnd hi hj e)
   ·exact .inr e
  ·intro h r hr
   obtain⟨j,hj,rfl⟩:=List.mem_iff_getElem.1 hr
   have:=h j (List.mem_range.2 hj)
   rw[List.getD_eq_getElem?_getD,List.getElem?_eq_getElem hj,Option.getD_some]at this
   simp only[Bool.or_eq_true,decide_eq_true_eq]at this ⊢
   rcases this with rfl | e
   ·exact .inl rfl
   ·exact .inr e
 rw[hmin]
 refine F6 D.length (fun k=>((List.range k).all fun j=>decide (j=i)||!leS (D.getD j (0,0,[],())) D[i],(k:Int),())) _ (fun k hk=>?_) ?_ rfl
 ·rw[List.range_succ,List.all_append]
  generalize ((List.range k).all fun j=>decide (j=i)||!leS (D.getD j (0,0,[],())) D[i])=b
  unfold z55
  simp only[dcT (show(k:Int)<(D.length:Int)by omega),cond_true,E9 hk,Option.bind_some,B7 (show k<9223372036854775807 by omega),List.all_cons,List.all_nil,Bool.and_true]
  rw[List.getD_eq_getElem?_getD,List.getElem?_eq_getElem hk,Option.getD_some]
  cases b with
  | false=>rfl
  | true =>
   by_cases h:k=i
   ·subst h
    simp
   ·have e:((i:Int)==(k:Int))=false:=q03 (by omega)
    simp only[e,cond_true,cond_false,y09 (hok _ (List.getElem_mem hk)) (hok _ (List.getElem_mem hi)),Option.bind_some,Bool.true_and,decide_eq_false h,Bool.false_or]
 ·unfold z55
  simp only[dcF (show ¬ (D.length:Int)<(D.length:Int)by omega),cond_false]
def N7 (l:List Sm):List Sm:=(O9 (M9 l)).filter (K5 l)
theorem v05 (s:List Sm):(O9 s).length<=s.length:=by
 unfold O9
 rw[List.length_map]
 exact Nat.le_trans (List.length_filter_le ..) (by rw[List.length_range];exact Nat.le_refl _)
theorem j6h {D:List Sm} (h:up (D.map C9)):D.Nodup:=by
 unfold up at h
 rw[List.pairwise_map]at h
 exact h.imp fun {a b} hab e=>by subst e;exact T9 _ hab
theorem q4z {s:Sm} (h:okS s):s.2.2.1.length<=4:=by
 obtain⟨n,d,p,rfl,h1,h2⟩:=q7s h
 show p.length<=4
 omega
theorem v5g {l:List Sm} (hl:l.length<=10000000) (hok:∀ s∈l,okS s):q5q (l,())=some (N7 l,()):=by
 obtain⟨hup,hmem⟩:=z2g (l:=l)
 have hSl:(M9 l).length=l.length:=(q91 l).length_eq
 have hlen:=v05 (M9 l)
 have hokD:∀ s∈O9 (M9 l),okS s:=fun s hs=>hok s ((hmem s).1 hs)
 have hc:z4l (l,())=some (l,()):=by
  unfold z4l
  simp only[List.length_nil,Nat.zero_add,G3 (show l.length<=140737488355328 by omega) (show l.length*40<=140737488355328 by omega),Bool.and_true,cond_true,List.nil_append]
 have hs:O0 (fun a b=>(q3s (a,b,())).map fun r=>r.1) l=some (M9 l):=v4o fun s hs=>by have:=q4z (hok s hs);omega
 have hcmp:=y5g (s:=M9 l) (by omega) fun x hx=>by have:=q4z (hok x ((q91 l).mem_iff.1 hx));omega
 have hmin:∀ s,K5 (O9 (M9 l)) s=K5 l s:=y8k hmem
 have hnd:=j6h hup
 unfold N7
 generalize O9 (M9 l)=D at *
 have key:A2 (z56 (D,())) (([]:List Sm),(0:Int),())=some (.inl (D.filter (K5 l),())):=by
  refine F6 D.length (fun i=>((D.take i).filter (K5 l),(i:Int),())) _ (fun i hi=>?_) ?_ rfl
  ·have hK:((D.take i).filter (K5 l)).length<=i:=Nat.le_trans (List.length_filter_le ..) (by rw[List.length_take];omega)
   rw[List.take_succ_eq_append_getElem hi,List.filter_append]
   generalize (D.take i).filter (K5 l)=K at *
   unfold z56
   simp only[dcT (show(i:Int)<(D.length:Int)by omega),cond_true,E9 hi,Option.bind_some]
   rw[y7k (by omega) hokD hnd () hi,hmin]
   have hp:=q4z (hokD _ (List.getElem_mem hi))
   simp only[Option.bind_some,Sum.elim_inl]
   cases hm:K5 l D[i]with
   | true =>
    simp only[cond_true,j2u (show(D[i]).2.2.1.length<=1000000 by omega),Option.bind_some,List.length_cons,List.length_nil,G3 (show K.length+(0+1)<=140737488355328 by omega) (show(K.length+(0+1))*40<=140737488355328 by omega),Bool.and_true,B7 (show i<9223372036854775807 by omega)]
    simp[hm]
   | false =>
    simp only[cond_false,B7 (show i<9223372036854775807 by omega)]
    simp[hm]
  ·unfold z56
   simp only[dcF (show ¬ (D.length:Int)<(D.length:Int)by omega),cond_false,List.take_length]
 unfold q5q
 simp only[hc,Option.bind_some,G3 (show l.length<=140737488355328 by omega) (show l.length*1<=140737488355328 by omega),cond_true,hs,hcmp,Sum.elim_inl,key]
theorem j7n {a b:Sm} (ha:a.2.2.1.length<=1000000):q8g (a,b,())=some (decide (a=b),()):=by
 unfold q8g
 obtain⟨n,d,p,⟨⟩⟩:=a
 obtain⟨m,e,q,⟨⟩⟩:=b
 simp only[q56 ha,Option.bind_some]
 by_cases h1:n=m
 ·by_cases h2:d=e
  ·rw[N2 h1,N2 h2];simp[h1,h2]
  ·rw[N2 h1,q03 h2];simp[h2]
 ·rw[q03 h1];simp[h1]
theorem z6p (a b:Int) (r s:List Int):B0 (a::r) (b::s)<0↔a<b\/a=b/\B0 r s<0:=by
 simp only[B0]
 by_cases h1:a<b
 ·simp[h1]
 ·rw[if_neg h1]
  by_cases h2:a>b
  ·rw[if_pos h2]
   constructor
   ·intro h;omega
   ·rintro (h | ⟨h,-⟩)<;>omega
  ·rw[if_neg h2]
   exact⟨fun h=>.inr ⟨by omega,h⟩,fun h=>(h.resolve_left h1).2⟩
theorem q8z {p q:Prop} [Decidable p] [Decidable q] (h:p↔q):some (decide p,())=some (decide q,()):=by rw[decide_eq_decide.2 h]
def M3 (a b:Sm):Bool:=decide (B0 (C9 a) (C9 b)<0)
theorem j1r {p q:List Int} (hp:p.length<=1000) (hq:q.length=p.length) (a b:Sm) (ha:a.2.2.1=p) (hb:b.2.2.1=q):∀ (n i:Nat),i+n=p.length->p.take i=q.take i ->
  (A2 (q59 (a,b,())) ((i:Int),())).bind (Sum.elim (fun z6=>(some z6)) (Sum.elim (fun z7=>(some (false,()))) Empty.elim))=some (decide (B0 (p.drop i) (q.drop i)<0),())
 | 0,i,hn,_=>by
  obtain rfl:i=p.length:=by omega
  have:q59 (a,b,()) ((p.length:Int),())=some (.inr (.inr (.inl ()))):=by
   unfold q59
   simp only[ha,hb,dcF (show ¬ (p.length:Int)<(p.length:Int)by omega),cond_false]
  rw[D6 this,List.drop_length,<-hq,List.drop_length]
  rfl
 | n+1,i,hn,he=>by
  have hi:i<p.length:=by omega
  have hi2:i<q.length:=by omega
  have key:q59 (a,b,()) ((i:Int),())=some (if p[i]=q[i]then .inl (((i+1:Nat):Int),())else .inr (.inl (decide (p[i]<q[i]),()))):=by
   unfold q59
   simp only[ha,hb,dcT (show(i:Int)<(p.length:Int)by omega),dcT (show(i:Int)<(q.length:Int)by omega),cond_true,E9 hi,E9 hi2,Option.bind_some,K2,B7 (show i<9223372036854775807 by omega)]
   split<;>rfl
  rw[List.drop_eq_getElem_cons hi,List.drop_eq_getElem_cons hi2,decide_eq_decide.2 (z6p p[i] q[i] _ _)]
  by_cases h:p[i]=q[i]
  ·rw[if_pos h]at key
   rw[H9 key,j1r hp hq a b ha hb n (i+1) (by omega) (by rw[List.take_succ_eq_append_getElem hi,List.take_succ_eq_append_getElem hi2,he,h])]
   refine q8z ⟨fun g=>.inr ⟨h,g⟩,fun g=>?_⟩
   rcases g with g | g
   ·omega
   ·exact g.2
  ·rw[if_neg h]at key
   rw[D6 key]
   simp only[Option.bind_some,Sum.elim_inl]
   exact q8z ⟨.inl,fun g=>g.resolve_right fun g=>h g.1⟩
theorem v1f {a b:Sm} (ha:okS a) (hb:okS b) (ho:q0f a=q0f b):z3y (a,b,())=some (M3 a b,()):=by
 have h4:=q4z ha
 have hab:M3 a b=decide (a.1<b.1\/a.1=b.1/\(a.2.1<b.2.1\/a.2.1=b.2.1/\B0 a.2.2.1 b.2.2.1<0)):=decide_eq_decide.2 ((z6p a.1 b.1 _ _).trans (or_congr_right (and_congr_right fun _=>z6p a.2.1 b.2.1 a.2.2.1 b.2.2.1)))
 rw[hab]
 unfold z3y
 simp only[K2]
 by_cases h1:a.1=b.1
 ·rw[if_pos h1]
  by_cases h2:a.2.1=b.2.1
  ·rw[if_pos h2]
   have hlen:b.2.2.1.length=a.2.2.1.length:=by unfold q0f at ho;omega
   have:=j1r (p:=a.2.2.1) (q:=b.2.2.1) (by omega) hlen a b rfl rfl a.2.2.1.length 0 (by omega) rfl
   simp only[List.drop_zero]at this
   refine this.trans ?_
   refine q8z ⟨fun g=>.inr ⟨h1,.inr ⟨h2,g⟩⟩,fun g=>?_⟩
   rcases g with g | ⟨-,g | g⟩
   ·omega
   ·omega
   ·exact g.2
  ·rw[if_neg h2]
   refine q8z ⟨fun g=>.inr ⟨h1,.inl g⟩,fun g=>?_⟩
   rcases g with g | ⟨-,g | g⟩
   ·omega
   ·exact g
   ·exact absurd g.1 h2
 ·rw[if_neg h1]
  exact q8z ⟨.inl,fun g=>g.resolve_right fun g=>h1 g.1⟩
def J2 (s:Sm):List Sm->List Sm
 | []=>[s]
 | r::o=>if M3 s r=true then s::r::o else r::J2 s o
theorem j56 {s r:Sm}:∀ {m:List Sm},m.any (M3 s)=true->J2 s (m++[r])=J2 s m++[r]
 | [],h=>by simp at h
 | x::m,h=>by
  rw[List.any_cons,Bool.or_eq_true]at h
  simp only[List.cons_append,J2]
  cases hx:M3 s x with
  | true=>simp
  | false =>
   rw[hx]at h
   simp only[Bool.false_eq_true,if_false,List.cons_append]
   rw[j56 (h.resolve_left (by simp))]
theorem z8u {s:Sm}:∀ {m t:List Sm},m.any (M3 s)=false->J2 s (m++t)=m++J2 s t
 | [],t,_=>rfl
 | x::m,t,h=>by
  rw[List.any_cons,Bool.or_eq_false_iff]at h
  simp only[List.cons_append,J2,h.1,Bool.false_eq_true,if_false]
  rw[z8u h.2]
theorem insA_mem {s x:Sm}:∀ {m:List Sm},x∈J2 s m↔x=s\/x∈m
 | []=>by simp[J2]
 | r::m=>by
  simp only[J2]
  split
  ·simp
  ·rw[List.mem_cons,insA_mem,List.mem_cons]
   constructor
   ·rintro (h | h | h)
    ·exact .inr (.inl h)
    ·exact .inl h
    ·exact .inr (.inr h)
   ·rintro (h | h | h)
    ·exact .inr (.inl h)
    ·exact .inl h
    ·exact .inr (.inr h)
theorem z1j (s:Sm):∀ m:List Sm,(J2 s m).length=m.length+1
 | []=>rfl
 | r::m=>by
  simp only[J2]
  split
  ·rfl
  ·rw[List.length_cons,z1j,List.length_cons]
theorem j57 {s:Sm}:∀ {m:List Sm},up (m.map C9)->s∉m->up ((J2 s m).map C9)
 | [],_,_=>by simp[J2,up]
 | r::m,h,hn=>by
  unfold up at h ⊢
  rw[List.map_cons,List.pairwise_cons]at h
  have hne:¬ B0 (C9 s) (C9 r)=0:=fun e=>hn (by rw[z1k (cmpL_eq.1 e)];exact List.mem_cons_self)
  simp only[J2]
  split
  ·rename_i hs
   unfold M3 at hs
   have hs:=of_decide_eq_true hs
   rw[List.map_cons,List.pairwise_cons]
   refine⟨fun t ht=>?_,by rw[List.map_cons,List.pairwise_cons];exact h⟩
   rw[List.map_cons]at ht
   rcases List.mem_cons.1 ht with rfl | ht
   ·exact hs
   ·exact q05 hs (h.1 t ht)
  ·rename_i hs
   unfold M3 at hs
   have hs:¬ B0 (C9 s) (C9 r)<0:=fun e=>hs (decide_eq_true e)
   have hr:B0 (C9 r) (C9 s)<0:=by rw[P8];omega
   rw[List.map_cons,List.pairwise_cons]
   refine⟨fun t ht=>?_,j57 h.2 fun hm=>hn (List.mem_cons_of_mem _ hm)⟩
   obtain⟨x,hx,rfl⟩:=List.mem_map.1 ht
   rcases insA_mem.1 hx with rfl | hx
   ·exact hr
   ·exact h.1 _ (List.mem_map.2 ⟨x,hx,rfl⟩)
theorem y73 {s:Sm} {out:List Sm} (hs:okS s) (ho:∀ r∈out,okS r/\q0f r=q0f s) (hl:out.length<=20000000) (i:Int) (z:Unit) :
  ∃ (next:List Sm) (put:Bool),A2 (q8d (out,i,z) s) (([]:List Sm),false,(0:Int),())=some (.inl (next,put,()))/\next.length<=out.length+1/\(if put=true then next else next++[s])=J2 s out:=by
 refine⟨if out.any (M3 s)=true then J2 s out else out,out.any (M3 s),?_,?_,?_⟩
 ·have key:A2 (q8d (out,i,z) s) (([]:List Sm),false,(0:Int),())=some (.inl (if(out.take out.length).any (M3 s)=true then J2 s (out.take out.length)else out.take out.length,(out.take out.length).any (M3 s),())):=by
   refine F6 out.length (fun k=>(if(out.take k).any (M3 s)=true then J2 s (out.take k)else out.take k,(out.take k).any (M3 s),(k:Int),())) _ (fun k hk=>?_) ?_ rfl
   ·have hmr:=ho _ (List.getElem_mem hk)
    rw[List.take_succ_eq_append_getElem hk,List.any_append]
    have hlk:(out.take k).length=k:=by rw[List.length_take];omega
    generalize out.take k=m at *
    have hlI:=z1j s m
    unfold q8d
    simp only[dcT (show(k:Int)<(out.length:Int)by omega),cond_true,E9 hk,Option.bind_some,B7 (show k<9223372036854775807 by omega),List.any_cons,List.any_nil,Bool.or_false]
    cases hb:m.any (M3 s)with
    | true =>
     simp only[if_true,Bool.not_true,cond_false,Bool.true_or,j56 hb,List.length_cons,List.length_nil,G3 (show(J2 s m).length+(0+1)<=140737488355328 by omega) (show((J2 s m).length+(0+1))*40<=140737488355328 by omega),Bool.and_true,cond_true]
    | false =>
     simp only[Bool.false_eq_true,if_false,Bool.not_false,cond_true,v1f hs hmr.1 hmr.2.symm,Option.bind_some,Bool.false_or]
     cases hx:M3 s out[k]with
     | true =>
      rw[z8u hb]
      simp only[cond_true,List.length_append,List.length_cons,List.length_nil,G3 (show m.length+(0+1)<=140737488355328 by omega) (show(m.length+(0+1))*40<=140737488355328 by omega),G3 (show m.length+(0+1)+(0+1)<=140737488355328 by omega) (show(m.length+(0+1)+(0+1))*40<=140737488355328 by omega),Bool.and_true,if_true,J2,hx]
      simp
     | false =>
      simp only[cond_false,List.length_cons,List.length_nil,G3 (show m.length+(0+1)<=140737488355328 by omega) (show(m.length+(0+1))*40<=140737488355328 by omega),Bool.and_true,cond_true,Bool.false_eq_true,if_false]
   ·unfold q8d
    simp only[dcF (show ¬ (out.length:Int)<(out.length:Int)by omega),cond_false]
  rw[List.take_length]at key
  exact key
 ·split
  ·rw[z1j];exact Nat.le_refl _
  ·omega
 ·cases hb:out.any (M3 s)with
  | true=>rfl
  | false =>
   simp only[Bool.false_eq_true,if_false]
   have:=z8u (t:=[]) hb
   rw[List.append_nil]at this
   rw[this];rfl
def q37 (l:List Sm) (i:Nat):Bool:=((List.range l.length).all fun j=>!decide (l.getD j (0,0,[],())=l.getD i (0,0,[],()))||decide (i<=j))&&K5 l (l.getD i (0,0,[],()))
theorem y6r {l:List Sm} (hl:l.length<=20000000) (hok:∀ s∈l,okS s) (z:Unit) (K:List Sm) {i:Nat} (hi:i<l.length) :
  A2 (z3j (l,z) l[i] (K,(i:Int),())) (true,(0:Int),())=some (.inl (q37 l i,())):=by
 have hg:q37 l i=(List.range l.length).all fun j=>if l.getD j (0,0,[],())=l[i]then decide (i<=j)else !leS (l.getD j (0,0,[],())) l[i]:=by
  have gi:l.getD i (0,0,[],())=l[i]:=by rw[List.getD_eq_getElem?_getD,List.getElem?_eq_getElem hi];rfl
  rw[Bool.eq_iff_iff]
  unfold q37 K5
  rw[Bool.and_eq_true,List.all_eq_true,List.all_eq_true,List.all_eq_true,gi]
  constructor
  ·rintro ⟨h1,h2⟩ j hj
   have hj':=List.mem_range.1 hj
   have gj:l.getD j (0,0,[],())=l[j]:=by rw[List.getD_eq_getElem?_getD,List.getElem?_eq_getElem hj'];rfl
   have a1:=h1 j hj
   have a2:=h2 l[j] (List.getElem_mem hj')
   rw[gj]at a1 ⊢
   by_cases e:l[j]=l[i]
   ·simpa[e]using a1
   ·simpa[e]using a2
  ·intro h
   refine⟨fun j hj=>?_,fun r hr=>?_⟩
   ·have:=h j hj
    split at this
    ·rename_i e;simp[of_decide_eq_true this]
    ·rename_i e
     rw[decide_eq_false e];rfl
   ·obtain⟨j,hj,rfl⟩:=List.mem_iff_getElem.1 hr
    have gj:l.getD j (0,0,[],())=l[j]:=by rw[List.getD_eq_getElem?_getD,List.getElem?_eq_getElem hj];rfl
    have:=h j (List.mem_range.2 hj)
    rw[gj]at this
    split at this
    ·rename_i e;simp[e]
    ·rename_i e;simp[e];simpa using this
 rw[hg]
 refine F6 l.length (fun k=>((List.range k).all fun j=>if l.getD j (0,0,[],())=l[i]then decide (i<=j)else !leS (l.getD j (0,0,[],())) l[i],(k:Int),())) _ (fun k hk=>?_) ?_ rfl
 ·rw[List.range_succ,List.all_append]
  generalize ((List.range k).all fun j=>if l.getD j (0,0,[],())=l[i]then decide (i<=j)else !leS (l.getD j (0,0,[],())) l[i])=b
  have gk:l.getD k (0,0,[],())=l[k]:=by rw[List.getD_eq_getElem?_getD,List.getElem?_eq_getElem hk];rfl
  have h4:=q4z (hok _ (List.getElem_mem hi))
  unfold z3j
  simp only[dcT (show(k:Int)<(l.length:Int)by omega),cond_true,E9 hk,Option.bind_some,B7 (show k<9223372036854775807 by omega),List.all_cons,List.all_nil,Bool.and_true,gk,j7n (show(l[i]).2.2.1.length<=1000000 by omega),v0x (hok _ (List.getElem_mem hk)) (hok _ (List.getElem_mem hi))]
  by_cases e:l[i]=l[k]
  ·rw[decide_eq_true e,if_pos e.symm]
   simp only[cond_true]
   cases b with
   | true =>
    simp only[cond_true,Bool.true_and]
    rw[show decide ((i:Int)<=(k:Int))=decide (i<=k)from decide_eq_decide.2 (by omega)]
   | false=>rfl
  ·rw[decide_eq_false e,if_neg fun h=>e h.symm]
   simp only[cond_false]
   cases leS l[k] l[i]with
   | true=>simp
   | false=>simp
 ·unfold z3j
  simp only[dcF (show ¬ (l.length:Int)<(l.length:Int)by omega),cond_false]
theorem v0v {l:List Sm} (hl:l.length<=10000000) (hok:∀ s∈l,okS s) (ho:∀ s∈l,∀ r∈l,q0f s=q0f r):z3i (l,())=some (N7 l,()):=by
 have main:∀ n i (out:List Sm),i+n=l.length->out.length<=i->(∀ s,s∈out↔s∈l.take i/\K5 l s=true)->up (out.map C9) ->
   ∃ out2:List Sm,A2 (q8e (l,())) (out,(i:Int),())=some (.inl (out2,()))/\(∀ s,s∈out2↔s∈l/\K5 l s=true)/\up (out2.map C9):=by
  intro n
  induction n with
  | zero =>
   intro i out hn _ hm hu
   obtain rfl:i=l.length:=by omega
   refine⟨out,D6 ?_,by rw[List.take_length]at hm;exact hm,hu⟩
   unfold q8e
   simp only[dcF (show ¬ (l.length:Int)<(l.length:Int)by omega),cond_false]
  | succ n ih =>
   intro i out hn hlo hm hu
   have hi:i<l.length:=by omega
   have gi:l.getD i (0,0,[],())=l[i]:=by rw[List.getD_eq_getElem?_getD,List.getElem?_eq_getElem hi];rfl
   have hmi:=List.getElem_mem hi
   obtain⟨next,put,h1,h2,h3⟩:=y73 (out:=out) (hok _ hmi) (fun r hr=>by
    have:=List.mem_of_mem_take ((hm r).1 hr).1
    exact⟨hok r this,ho r this _ hmi⟩) (by omega) (i:Int) ()
   have key:q8e (l,()) (out,(i:Int),())=some (.inl (if q37 l i=true then J2 l[i] out else out,((i+1:Nat):Int),())):=by
    unfold q8e
    simp only[dcT (show(i:Int)<(l.length:Int)by omega),cond_true,E9 hi,Option.bind_some]
    rw[y6r (by omega) hok () out hi]
    simp only[Option.bind_some,Sum.elim_inl,B7 (show i<9223372036854775807 by omega)]
    cases q37 l i with
    | false=>rfl
    | true =>
     simp only[Bool.not_true,cond_false,h1,Option.bind_some,Sum.elim_inl,if_true]
     cases put with
     | true =>
      simp only[if_true]at h3
      simp only[Bool.not_true,cond_false,h3]
     | false =>
      simp only[Bool.false_eq_true,if_false]at h3
      simp only[Bool.not_false,cond_true,List.length_cons,List.length_nil,G3 (show next.length+(0+1)<=140737488355328 by omega) (show(next.length+(0+1))*40<=140737488355328 by omega),Bool.and_true,h3]
   rw[H9 key]
   have hfirst:q37 l i=true↔l[i]∉l.take i/\K5 l l[i]=true:=by
    unfold q37
    rw[Bool.and_eq_true,List.all_eq_true,gi]
    constructor
    ·rintro ⟨a1,a2⟩
     refine⟨fun hmem=>?_,a2⟩
     obtain⟨j,hj,e⟩:=List.mem_iff_getElem.1 hmem
     rw[List.length_take]at hj
     rw[List.getElem_take]at e
     have:=a1 j (List.mem_range.2 (by omega))
     rw[List.getD_eq_getElem?_getD,List.getElem?_eq_getElem (show j<l.length by omega),Option.getD_some,e]at this
     simp at this
     omega
    ·rintro ⟨a1,a2⟩
     refine⟨fun j hj=>?_,a2⟩
     have hj:=List.mem_range.1 hj
     rw[List.getD_eq_getElem?_getD,List.getElem?_eq_getElem hj,Option.getD_some]
     by_cases e:l[j]=l[i]
     ·have:i<=j:=Classical.byContradiction fun h=>a1 (List.mem_iff_getElem.2 ⟨j,by rw[List.length_take];omega,by rw[List.getElem_take];exact e⟩)
      simp[this]
     ·simp[e]
   refine ih (i+1) _ (by omega) ?_ (fun s=>?_) ?_
   ·split
    ·rw[z1j];omega
    ·omega
   ·rw[List.take_succ_eq_append_getElem hi,List.mem_append,List.mem_singleton]
    split
    ·rename_i hg
     have hg:=hfirst.1 hg
     rw[insA_mem,hm]
     constructor
     ·rintro (rfl | ⟨b1,b2⟩)
      ·exact⟨.inr rfl,hg.2⟩
      ·exact⟨.inl b1,b2⟩
     ·rintro ⟨b1 | rfl,b2⟩
      ·exact .inr ⟨b1,b2⟩
      ·exact .inl rfl
    ·rename_i hg
     rw[hm]
     constructor
     ·rintro ⟨b1,b2⟩;exact⟨.inl b1,b2⟩
     ·rintro ⟨b1 | rfl,b2⟩
      ·exact⟨b1,b2⟩
      ·exact⟨Classical.byContradiction fun h=>hg (hfirst.2 ⟨h,b2⟩),b2⟩
   ·split
    ·rename_i hg
     have hg:=hfirst.1 hg
     exact j57 hu fun hmem=>hg.1 ((hm _).1 hmem).1
    ·exact hu
 obtain⟨out,h1,h2,h3⟩:=main l.length 0 [] (by omega) (Nat.le_refl _) (fun s=>by simp) (by simp[up])
 have e0:((0:Nat):Int)=0:=rfl
 rw[e0]at h1
 unfold z3i
 rw[h1]
 simp only[Option.bind_some,Sum.elim_inl]
 congr 2
 obtain⟨hup,hmem⟩:=z2g (l:=l)
 have hk:out.map C9=(N7 l).map C9:=by
  refine j1a h3 ?_ fun t=>?_
  ·unfold N7 up
   unfold up at hup
   rw[List.pairwise_map]at hup ⊢
   exact hup.filter _
  ·rw[List.mem_map,List.mem_map]
   constructor
   ·rintro ⟨s,hs,rfl⟩
    have:=(h2 s).1 hs
    exact⟨s,List.mem_filter.2 ⟨(hmem s).2 this.1,this.2⟩,rfl⟩
   ·rintro ⟨s,hs,rfl⟩
    have:=List.mem_filter.1 hs
    exact⟨s,(h2 s).2 ⟨(hmem s).1 this.1,this.2⟩,rfl⟩
 have:=congrArg (List.map q5w) hk
 rw[List.map_map,List.map_map]at this
 have e:∀ m:List Sm,m.map (q5w∘C9)=m:=fun m=>(List.map_congr_left fun a _=>z5j a).trans (List.map_id _)
 rw[e,e]at this
 exact this
end

section
open Go Go.Abs

def kN (s:Sm):Nat:=s.1.toNat
def oN (s:Sm):Nat:=s.1.toNat+s.2.2.1.length
def pN (s:Sm) (i:Nat):Int:=plc (kN s) s.2.1 s.2.2.1 i
theorem q27 (s:Sm):kN s<=oN s:=Nat.le_add_right ..
theorem z2k {s:Sm} {i:Nat} (h:i+1<kN s):pN s i=0:=by
 unfold pN plc
 rw[if_pos (by omega),if_neg (by omega)]
theorem q7w {s:Sm} {i:Nat} (h:oN s<=i):pN s i=0:=by
 unfold oN at h
 unfold pN plc kN
 rw[if_neg (by omega),List.getD_eq_getElem?_getD,List.getElem?_eq_none (by omega)];rfl
theorem leS_iff {a b:Sm}:leS a b=true↔oN a=oN b/\∀ i,i<oN a->pN a i<=pN b i/\(i<kN a->i<kN b):=by
 unfold leS
 rw[Bool.and_eq_true,decide_eq_true_eq,Bool.not_eq_true',List.any_eq_false]
 show oN a=oN b/\_↔_
 refine and_congr_right fun ho=>⟨fun h i hi=>?_,fun h i hi=>?_⟩
 ·have:=h i (List.mem_range.2 hi)
  unfold X2 at this
  rw[Bool.or_eq_true,decide_eq_true_eq,Bool.and_eq_true,Bool.not_eq_true',decide_eq_true_eq,decide_eq_false_iff_not]at this
  show plc _ _ _ i<=plc _ _ _ i/\_
  unfold kN
  omega
 ·have:=h i (List.mem_range.1 hi)
  unfold pN kN at this
  unfold X2
  rw[Bool.or_eq_true,decide_eq_true_eq,Bool.and_eq_true,Bool.not_eq_true',decide_eq_true_eq,decide_eq_false_iff_not]
  omega
theorem S6 (a:Sm):leS a a=true:=leS_iff.2 ⟨rfl,fun i _=>⟨Int.le_refl _,id⟩⟩
theorem M6 {a b c:Sm} (h1:leS a b=true) (h2:leS b c=true):leS a c=true:=by
 obtain⟨o1,p1⟩:=leS_iff.1 h1
 obtain⟨o2,p2⟩:=leS_iff.1 h2
 exact leS_iff.2 ⟨o1.trans o2,fun i hi=>⟨Int.le_trans (p1 i hi).1 (p2 i (by omega)).1,fun h=>(p2 i (by omega)).2 ((p1 i hi).2 h)⟩⟩
def wfS (s:Sm):Prop:=0<=s.1/\1<=kN s
theorem z4n {a b:Sm} (ha:wfS a) (hb:wfS b) (hk:kN a=kN b) (ho:oN a=oN b) (hp:∀ i,i<oN a->pN a i=pN b i):a=b:=by
 obtain⟨n,d,l,⟨⟩⟩:=a
 obtain⟨m,e,k,⟨⟩⟩:=b
 obtain⟨a1,a2⟩:=ha
 obtain⟨b1,b2⟩:=hb
 unfold kN at a2 b2 hk
 unfold oN at ho
 unfold pN kN oN at hp
 simp only at a1 a2 b1 b2 hk ho hp
 obtain rfl:n=m:=by omega
 have hl:l.length=k.length:=by omega
 have hd:d=e:=by
  have:=hp (n.toNat-1) (by omega)
  unfold plc at this
  rw[if_pos (by omega),if_pos (by omega),if_pos (by omega),if_pos (by omega)]at this
  exact this
 have hlk:l=k:=by
  refine List.ext_getElem hl fun i h1 h2=>?_
  have:=hp (n.toNat+i) (by omega)
  unfold plc at this
  rw[if_neg (by omega),if_neg (by omega),Nat.add_sub_cancel_left,List.getD_eq_getElem?_getD,List.getD_eq_getElem?_getD,List.getElem?_eq_getElem h1,List.getElem?_eq_getElem h2]at this
  exact this
 rw[hd,hlk]
theorem z93 {a b:Sm} (ha:wfS a) (hb:wfS b) (h1:leS a b=true) (h2:leS b a=true):a=b:=by
 obtain⟨o1,p1⟩:=leS_iff.1 h1
 obtain⟨o2,p2⟩:=leS_iff.1 h2
 have ka:=q27 a
 have kb:=q27 b
 obtain⟨a1,a2⟩:=ha
 obtain⟨b1,b2⟩:=hb
 refine z4n ⟨a1,a2⟩ ⟨b1,b2⟩ ?_ o1 fun i hi=>Int.le_antisymm (p1 i hi).1 (p2 i (by omega)).1
 have q1:=(p1 (kN a-1) (by omega)).2 (by omega)
 have q2:=(p2 (kN b-1) (by omega)).2 (by omega)
 omega
def cS (s r:Sm):Sm:=(((min (kN r) (kN s):Nat):Int),H2 (kN s) s.2.1 s.2.2.1 (kN r) r.2.1 r.2.2.1 (min (kN r) (kN s)-1),(List.range' (min (kN r) (kN s)) (oN r-min (kN r) (kN s))).map (H2 (kN s) s.2.1 s.2.2.1 (kN r) r.2.1 r.2.2.1),())
theorem O7 (s r:Sm):kN (cS s r)=min (kN r) (kN s):=by
 show Int.toNat ((min (kN r) (kN s):Nat):Int)=_
 exact Int.toNat_natCast _
theorem J3 (s r:Sm):oN (cS s r)=oN r:=by
 have h1:=O7 s r
 have:=q27 r
 show kN (cS s r)+(((List.range' (min (kN r) (kN s)) (oN r-min (kN r) (kN s))).map _).length)=_
 rw[h1,List.length_map,List.length_range']
 omega
theorem K7 {s r:Sm} (hs:1<=kN s) (hr:1<=kN r) {i:Nat} (hi:i<oN r):pN (cS s r) i=if i<kN r then pN r i+pN s i else pN r i:=by
 show plc (kN (cS s r)) (H2 (kN s) s.2.1 s.2.2.1 (kN r) r.2.1 r.2.2.1 (min (kN r) (kN s)-1)) ((List.range' (min (kN r) (kN s)) (oN r-min (kN r) (kN s))).map (H2 (kN s) s.2.1 s.2.2.1 (kN r) r.2.1 r.2.2.1)) i=_
 have ht:∀ j,H2 (kN s) s.2.1 s.2.2.1 (kN r) r.2.1 r.2.2.1 j=if j<kN r then pN r j+pN s j else pN r j:=fun j=>rfl
 rw[O7]
 unfold plc
 by_cases h1:i<min (kN r) (kN s)
 ·rw[if_pos h1]
  by_cases h2:i+1=min (kN r) (kN s)
  ·rw[if_pos h2,ht,show min (kN r) (kN s)-1=i by omega]
  ·rw[if_neg h2,if_pos (by omega),z2k (s:=r) (by omega),z2k (s:=s) (by omega)];rfl
 ·rw[if_neg h1,List.getD_eq_getElem?_getD,List.getElem?_map,List.getElem?_range' (by omega),Option.map_some,Option.getD_some,ht,show min (kN r) (kN s)+1*(i-min (kN r) (kN s))=i by omega]
theorem T1 {s r:Sm} (hs:wfS s) (hr:wfS r):wfS (cS s r):=⟨Int.natCast_nonneg _,by have:=hs.2;have:=hr.2;rw[O7];omega⟩
theorem j2h {x s q:Sm} (hx:wfS x) (hs:wfS s) (hq:wfS q) (h1:kN q<=oN s):cS (cS x s) q=cS x (cS s q):=by
 have a1:=hx.2
 have a2:=hs.2
 have a3:=hq.2
 have hxs:=T1 hx hs
 have hsq:=T1 hs hq
 refine z4n (T1 hxs hq) (T1 hx hsq) (by simp only[O7];omega) (by simp only[J3]) fun i hi=>?_
 rw[J3]at hi
 rw[K7 hxs.2 a3 hi,K7 a1 hsq.2 (by rw[J3];exact hi),K7 a2 a3 hi,O7 s q]
 by_cases h2:i<kN q
 ·rw[if_pos h2,K7 a1 a2 (by omega)]
  by_cases h3:i<kN s
  ·rw[if_pos h3,if_pos (by omega),if_pos h2];omega
  ·rw[if_neg h3,if_neg (by omega),if_pos h2]
 ·rw[if_neg h2,if_neg (by omega),if_neg h2]
theorem z6h {x q q':Sm} (hx:wfS x) (hx0:∀ i,0<=pN x i) (hq:wfS q) (hq':wfS q') (h:leS q q'=true):leS (cS x q) (cS x q')=true:=by
 obtain⟨o,p⟩:=leS_iff.1 h
 refine leS_iff.2 ⟨by rw[J3,J3,o],fun i hi=>?_⟩
 rw[J3]at hi
 have h0:=hx0 i
 have hp:=p i hi
 rw[K7 hx.2 hq.2 hi,K7 hx.2 hq'.2 (by omega),O7,O7]
 refine⟨?_,fun g=>?_⟩
 ·by_cases g:i<kN q
  ·rw[if_pos g,if_pos (hp.2 g)];omega
  ·rw[if_neg g]
   split<;>omega
 ·have:=hp.2 (by omega)
  omega
theorem j2j {x x' q:Sm} (hx:wfS x) (hx':wfS x') (hq:wfS q) (hk:kN q<=oN x) (h:leS x x'=true):leS (cS x q) (cS x' q)=true:=by
 obtain⟨o,p⟩:=leS_iff.1 h
 refine leS_iff.2 ⟨by rw[J3,J3],fun i hi=>?_⟩
 rw[J3]at hi
 rw[K7 hx.2 hq.2 hi,K7 hx'.2 hq.2 hi,O7,O7]
 refine⟨?_,fun g=>?_⟩
 ·by_cases g:i<kN q
  ·have:=(p i (by omega)).1
   rw[if_pos g,if_pos g];omega
  ·rw[if_neg g,if_neg g];exact Int.le_refl _
 ·have:=(p i (by omega)).2 (by omega)
  omega
structure bx (s:Sm):Prop where
 wf:wfS s
 o4:oN s<=4
 p0:∀ i,0<=pN s i/\pN s i<=12
theorem j28 {v:Int} (h:0<=v/\v<=12):bad v=false:=by
 unfold bad
 simp only[Bool.or_eq_false_iff,decide_eq_false_iff_not]
 omega
theorem bx.parts {s:Sm} (h:bx s):(0<=s.2.1/\s.2.1<=12)/\∀ v∈s.2.2.1,0<=v/\v<=12:=by
 have h1:=h.wf.2
 constructor
 ·have:=h.p0 (kN s-1)
  unfold pN plc at this
  rw[if_pos (by omega),if_pos (by omega)]at this
  exact this
 ·intro v hv
  obtain⟨i,hi,rfl⟩:=List.mem_iff_getElem.1 hv
  have:=h.p0 (kN s+i)
  unfold pN plc at this
  rw[if_neg (by omega),Nat.add_sub_cancel_left,List.getD_eq_getElem?_getD,List.getElem?_eq_getElem hi]at this
  exact this
theorem bx.sck {s:Sm} (h:bx s) {m:Nat} (h1:kN s<=m) (h2:m<=4):sck s.1 s.2.1 s.2.2.1 (m:Int)=0:=by
 obtain⟨hd,hl⟩:=h.parts
 obtain⟨w1,w2⟩:=h.wf
 have o4:=h.o4
 unfold oN at o4
 unfold kN at w2 h1
 have hb:(bad s.2.1||s.2.2.1.any bad)=false:=by
  rw[Bool.or_eq_false_iff]
  refine⟨j28 hd,List.any_eq_false.2 fun v hv=>by rw[j28 (hl v hv)];simp⟩
 show(if(m:Int)<1\/(m:Int)>4\/s.1<1\/s.1>(m:Int)\/(s.2.2.1.length:Int)>4-s.1 then(1:Int)else if(bad s.2.1||s.2.2.1.any bad)=true then 2 else 0)=0
 rw[if_neg (by omega),if_neg (by rw[hb];simp)]
theorem bx.ok {s:Sm} (h:bx s):okS s:=h.sck (m:=4) (Nat.le_trans (q27 s) h.o4) (Nat.le_refl _)
theorem bx.nat {s:Sm} (h:bx s):s=(((kN s:Nat):Int),s.2.1,s.2.2.1,()):=by
 have:=h.wf.1
 obtain⟨n,d,l,⟨⟩⟩:=s
 show(n,d,l,())=(((n.toNat:Nat):Int),d,l,())
 rw[Int.toNat_of_nonneg this]
theorem y0d {s r:Sm} (hs:bx s) (hr:bx r):q2x (kN s) s.2.1 s.2.2.1 (kN r) r.2.1 r.2.2.1=(cS s r,0,()):=by
 unfold q2x
 have h1:=hs.p0 (kN r-1)
 have h2:=hr.p0 (kN r-1)
 have:¬ H2 (kN s) s.2.1 s.2.2.1 (kN r) r.2.1 r.2.2.1 (kN r-1)>1048576:=by
  show ¬ (if kN r-1<kN r then pN r (kN r-1)+pN s (kN r-1)else pN r (kN r-1))>1048576
  split<;>omega
 rw[if_neg this]
 rfl
theorem v5j {s r:Sm} (hs:bx s) (hr:bx r) (h:kN r<=oN s):q2w (s,r,())=some (cS s r,0,()):=by
 have h1:=hs.ok
 have h2:=hr.sck h hs.o4
 have e1:=hs.nat
 have e2:=hr.nat
 have:=v5i (n:=kN s) (d:=s.2.1) (l:=s.2.2.1) (m:=kN r) (e:=r.2.1) (k:=r.2.2.1) (by unfold okS at h1;rw[e1]at h1;exact h1) (by rw[e2]at h2;exact h2)
 rw[<-e1,<-e2,y0d hs hr]at this
 exact this
theorem v1a {s r:Sm} (hs:bx s) (hr:bx r) (h:kN r<=oN s):q8h (s,r,())=some (cS s r,0,()):=by
 have h1:=hs.ok
 have h2:=hr.sck h hs.o4
 have e1:=hs.nat
 have e2:=hr.nat
 have:=v0z (n:=kN s) (d:=s.2.1) (l:=s.2.2.1) (m:=kN r) (e:=r.2.1) (k:=r.2.2.1) (by unfold okS at h1;rw[e1]at h1;exact h1) (by rw[e2]at h2;exact h2)
 rw[<-e1,<-e2,y0d hs hr]at this
 exact this
theorem q6f {α:Type} {p q:α->Bool}:∀ {l:List α},(∀ x∈l,p x=true->q x=true)->(∃ x∈l,p x=false/\q x=true)->l.countP p<l.countP q
 | [],_,⟨x,hx,_⟩=>by cases hx
 | a::l,h,⟨x,hx,h1,h2⟩=>by
  have hm:l.countP p<=l.countP q:=List.countP_mono_left fun y hy=>h y (List.mem_cons_of_mem _ hy)
  rw[List.countP_cons,List.countP_cons]
  rcases List.mem_cons.1 hx with rfl | hx
  ·rw[h1,h2]
   simp only[Bool.false_eq_true,if_false,if_true]
   omega
  ·have ih:=q6f (l:=l) (fun y hy=>h y (List.mem_cons_of_mem _ hy)) ⟨x,hx,h1,h2⟩
   have:=h a List.mem_cons_self
   cases hp:p a with
   | true=>rw[this hp];simp only[if_true];omega
   | false=>simp only[Bool.false_eq_true,if_false];split<;>omega
theorem mem_front {l:List Sm} {x:Sm}:x∈N7 l↔x∈l/\∀ r∈l,leS r x=true->r=x:=by
 unfold N7
 rw[List.mem_filter,(z2g (l:=l)).2]
 refine and_congr_right fun _=>?_
 unfold K5
 rw[List.all_eq_true]
 refine forall_congr' fun r=>forall_congr' fun _=>?_
 rw[Bool.or_eq_true,decide_eq_true_eq,Bool.not_eq_true']
 cases leS r x<;>simp
theorem y6h (l:List Sm):up ((N7 l).map C9):=by
 have h:=(z2g (l:=l)).1
 unfold up at h ⊢
 rw[List.pairwise_map]at h ⊢
 exact h.filter _
theorem z0q {l:List Sm} (hw:∀ s∈l,wfS s):∀ {x:Sm},x∈l->∃ y∈N7 l,leS y x=true:=by
 have key:∀ (n:Nat) (x:Sm),x∈l->l.countP (fun r=>leS r x)<=n->∃ y∈N7 l,leS y x=true:=by
  intro n
  induction n with
  | zero =>
   intro x hx hn
   have:0<l.countP (fun r=>leS r x):=List.countP_pos_iff.2 ⟨x,hx,S6 x⟩
   omega
  | succ n ih =>
   intro x hx hn
   by_cases hm:∀ r∈l,leS r x=true->r=x
   ·exact⟨x,mem_front.2 ⟨hx,hm⟩,S6 x⟩
   ·have:∃ r,r∈l/\leS r x=true/\r≠x:=by
     apply Classical.byContradiction
     intro hc
     exact hm fun r hr h=>Classical.byContradiction fun hne=>hc ⟨r,hr,h,hne⟩
    obtain⟨r,hr,h1,h2⟩:=this
    have hlt:l.countP (fun t=>leS t r)<l.countP (fun t=>leS t x):=q6f (fun t _ ht=>M6 ht h1) ⟨x,hx,by
     cases hc:leS x r with
     | false=>rfl
     | true=>exact absurd (z93 (hw r hr) (hw x hx) h1 hc) h2,S6 x⟩
    obtain⟨y,hy,h3⟩:=ih r hr (by omega)
    exact⟨y,hy,M6 h3 h1⟩
 exact fun {x} hx=>key _ x hx (Nat.le_refl _)
theorem y0s:∀ {a b:List Sm},up (a.map C9)->up (b.map C9)->(∀ x,x∈a↔x∈b)->a=b
 | [],[],_,_,_=>rfl
 | [],y::b,_,_,h=>by have:=(h y).2 List.mem_cons_self;cases this
 | x::a,[],_,_,h=>by have:=(h x).1 List.mem_cons_self;cases this
 | x::a,y::b,ha,hb,h=>by
  unfold up at ha hb
  rw[List.map_cons,List.pairwise_cons]at ha hb
  have hxy:x=y:=by
   rcases List.mem_cons.1 ((h x).1 List.mem_cons_self)with e | hx
   ·exact e
   rcases List.mem_cons.1 ((h y).2 List.mem_cons_self)with e | hy
   ·exact e.symm
   exact absurd (q05 (ha.1 _ (List.mem_map_of_mem hy)) (hb.1 _ (List.mem_map_of_mem hx))) (T9 _)
  subst hxy
  have nx:∀ {l:List Sm},(∀ t∈l.map C9,B0 (C9 x) t<0)->x∉l:=fun g hx=>T9 _ (g _ (List.mem_map_of_mem hx))
  congr 1
  refine y0s ha.2 hb.2 fun t=>⟨fun ht=>?_,fun ht=>?_⟩
  ·rcases List.mem_cons.1 ((h t).1 (List.mem_cons_of_mem _ ht))with rfl | g
   ·exact absurd ht (nx ha.1)
   ·exact g
  ·rcases List.mem_cons.1 ((h t).2 (List.mem_cons_of_mem _ ht))with rfl | g
   ·exact absurd ht (nx hb.1)
   ·exact g
structure anti (l:List Sm):Prop where
 u:up (l.map C9)
 m:∀ x∈l,∀ y∈l,leS y x=true->y=x
theorem j1z (l:List Sm):anti (N7 l):=⟨y6h l,fun x hx y hy h=>(mem_front.1 hx).2 y (mem_front.1 hy).1 h⟩
theorem z5w:anti []:=⟨List.Pairwise.nil,fun x hx=>by cases hx⟩
theorem j1y {a b:List Sm} (ha:anti a) (hb:anti b) (wa:∀ s∈a,wfS s) (wb:∀ s∈b,wfS s) (h1:∀ x∈a,∃ y∈b,leS y x=true) (h2:∀ x∈b,∃ y∈a,leS y x=true):a=b:=by
 refine y0s ha.u hb.u fun x=>⟨fun hx=>?_,fun hx=>?_⟩
 ·obtain⟨y,hy,hyx⟩:=h1 x hx
  obtain⟨z,hz,hzy⟩:=h2 y hy
  have e:=ha.m x hx z hz (M6 hzy hyx)
  subst e
  rw[z93 (wa _ hx) (wb _ hy) hzy hyx];exact hy
 ·obtain⟨y,hy,hyx⟩:=h2 x hx
  obtain⟨z,hz,hzy⟩:=h1 y hy
  have e:=hb.m x hx z hz (M6 hzy hyx)
  subst e
  rw[z93 (wb _ hx) (wa _ hy) hzy hyx];exact hy
end

section
open Go Go.Abs

theorem z2a {α:Type} [DecidableEq α]:∀ {l m:List α},l.Nodup->(∀ x∈l,x∈m)->l.length<=m.length
 | [],_,_,_=>Nat.zero_le _
 | a::l,m,h,hs=>by
  have h':=List.nodup_cons.1 h
  have ha:=hs a List.mem_cons_self
  have h1:=z2a (l:=l) (m:=m.erase a) h'.2 fun x hx=>(List.mem_erase_of_ne (fun e=>h'.1 (by rw[<-e];exact hx))).2 (hs x (List.mem_cons_of_mem _ hx))
  have h2:=List.length_erase_of_mem ha
  have h3:=List.length_pos_of_mem ha
  rw[List.length_cons];omega
end

end Go.Proofs.Tryz
