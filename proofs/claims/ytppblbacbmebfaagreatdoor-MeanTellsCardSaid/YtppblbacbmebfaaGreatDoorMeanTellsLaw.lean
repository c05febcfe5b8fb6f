/- The plain law of MeanTells. -/
import Derived.Test.YtppblbacbmebfaaGreatDoorMTFuns
import Derived.Test.YtppblbacbmebfaaGreatDoorAbsSums
import Derived.Test.YtppblbacbmebfaaGreatDoorMTLemmasMeanTells3
namespace Go.Proofs.Tryz
open Go Go.Abs

def q00 (op:Op3):Int:=if 1<=op.1/\op.1<=8 then 1 else if op.1=9\/op.1=10 then 2 else 0
theorem j7b (op:Op3):q8c (op,())=some (q00 op,()):=by
 unfold q8c q00
 have tail:cond (op.1==(9:Int)) (some ((2:Int),())) (cond (op.1==(10:Int)) (some ((2:Int),())) (some ((0:Int),())))=some (if op.1=9\/op.1=10 then 2 else 0,()):=by
  rw[R1,R1]
  by_cases h9:op.1=9
  ·rw[if_pos h9,if_pos (.inl h9)]
  ·rw[if_neg h9]
   by_cases h10:op.1=10
   ·rw[if_pos h10,if_pos (.inr h10)]
   ·rw[if_neg h10,if_neg (fun h=>h.elim h9 h10)]
 by_cases h1:1<=op.1
 ·by_cases h8:op.1<=8
  ·simp only[dcT (show op.1≥1 by omega),dcT h8,cond_true,if_pos (And.intro h1 h8)]
  ·simp only[dcT (show op.1≥1 by omega),dcF h8,cond_true,cond_false,if_neg (show ¬ (1<=op.1/\op.1<=8)from fun h=>h8 h.2)]
   exact tail
 ·simp only[dcF (show ¬ op.1≥1 by omega),cond_false,if_neg (show ¬ (1<=op.1/\op.1<=8)from fun h=>h1 h.1)]
  exact tail
theorem v2c (op:Op3):q91 (op,())=some (q00 op,()):=j7b op
def q2w (v:B4):Bool:=(v.1==2&&q00 v.2.2.1 != 1)||(v.1==3&&q00 v.2.2.1 != 2)
def q3v (N:List B4) (E:List Edge) (Rd:Int):Int×Int×Unit :=
 if(R5 N E).1≠0 then R5 N E else match(List.range N.length).find? fun i=>q2w (N.getD i v0)with
 | some i=>(17,(i:Int),())
 | none=>if Rd<0\/8<Rd then(2,0,())else(0,0,())
section
variable {N:List B4} {E:List Edge} {Rd:Int} {F:List Fd}
theorem y6q (h:(R5 N E).1=0):R5 N E=(0,0,()):=by
 unfold R5 at h ⊢
 split at h
 ·cases h
 ·rename_i h1
  rw[if_neg h1]
  split at h
  ·cases h
  ·split at h
   ·rename_i i h3
    have:=List.find?_some h3
    simp at this h
    exact absurd h this
   ·split at h
    ·cases h
    ·split at h
     ·cases h
     ·rfl
theorem y3n (hn:N.length<=12):A4 (q80 (((N,E,()),Rd,()),())) ((0:Int),((0:Int),(0:Int),()),())=some (J4 (((List.range N.length).find? fun i=>q2w (N.getD i v0)).map fun i:Nat=>(((17:Int),(i:Int),()),())) (.inl ((0,0,()),()))):=by
 rw[<-M4]
 refine L3 (f:=q80 (((N,E,()),Rd,()),())) N.length (fun i=>((i:Int),((0:Int),(0:Int),()),())) _ _ (fun i hi=>?_) ?_ rfl
 ·unfold q80
  simp only[dcT (show(i:Int)<(N.length:Int)by omega),cond_true,G7 v0 (Int.natCast_nonneg i) (show(i:Int)<(N.length:Int)by omega),Int.toNat_natCast,Option.bind_some,j7b,z1l]
  rw[C7 (by omega)]
  unfold q2w D6
  generalize N.getD i v0=v
  by_cases k2:v.1=2
  ·have k1:¬ v.1=1:=by omega
   have k3:¬ v.1=3:=by omega
   rw[U8 k2,cond_true,if_neg k1,if_neg k3]
   by_cases hp:q00 v.2.2.1=1
   ·simp[hp,k2,L8]
   ·simp[q0d hp,k2,L8]
  ·by_cases k3:v.1=3
   ·have k1:¬ v.1=1:=by omega
    rw[O8 k2,cond_false,U8 k3,cond_true,if_neg k1,if_pos k3]
    by_cases hp:q00 v.2.2.1=2
    ·simp[hp,k3,L8]
    ·simp[q0d hp,k3,L8]
   ·rw[O8 k2,cond_false,O8 k3,cond_false]
    simp[L8]
 ·unfold q80
  simp only[dcF (show ¬ (N.length:Int)<(N.length:Int)by omega),cond_false]
theorem v1j (hn:N.length<=12):A4 (q92 (((N,E,()),Rd,()),())) ((0:Int),((0:Int),(0:Int),()),())=some (J4 (((List.range N.length).find? fun i=>q2w (N.getD i v0)).map fun i:Nat=>(((17:Int),(i:Int),()),())) (.inl ((0,0,()),()))):=by
 rw[<-M4]
 refine L3 (f:=q92 (((N,E,()),Rd,()),())) N.length (fun i=>((i:Int),((0:Int),(0:Int),()),())) _ _ (fun i hi=>?_) ?_ rfl
 ·unfold q92
  simp only[dcT (show(i:Int)<(N.length:Int)by omega),cond_true,G7 v0 (Int.natCast_nonneg i) (show(i:Int)<(N.length:Int)by omega),Int.toNat_natCast,Option.bind_some,v2c]
  rw[C7 (by omega)]
  unfold q2w
  generalize N.getD i v0=v
  by_cases k2:v.1=2
  ·have k3:¬ v.1=3:=by omega
   rw[U8 k2,cond_true,O8 k3,cond_false]
   by_cases hp:q00 v.2.2.1=1
   ·simp[hp,L8]
   ·simp[q0d hp,L8]
  ·by_cases k3:v.1=3
   ·rw[O8 k2,cond_false,U8 k3,cond_true]
    by_cases hp:q00 v.2.2.1=2
    ·simp[hp,L8]
    ·simp[q0d hp,L8]
   ·rw[O8 k2,cond_false,O8 k3,cond_false]
    simp[L8]
 ·unfold q92
  simp only[dcF (show ¬ (N.length:Int)<(N.length:Int)by omega),cond_false]
theorem y8u (N:List B4) (E:List Edge) (Rd:Int):q7z (((N,E,()),Rd,()),())=some (q3v N E Rd,()):=by
 unfold q7z q3v
 simp only[y6j,Option.bind_some,V1]
 by_cases h:(R5 N E).1=0
 ·have g:=z8y h
  rw[if_pos h,if_neg (fun hh=>hh h),y3n g.n12]
  cases(List.range N.length).find? fun i=>q2w (N.getD i v0)with
  | some i=>rfl
  | none =>
   simp only[Option.map_none,T3,Option.bind_some,Sum.elim_inr,Sum.elim_inl]
   by_cases h1:Rd<0
   ·rw[dcT h1,cond_true,if_pos (.inl h1)]
   ·by_cases h2:8<Rd
    ·rw[dcF h1,cond_false,dcT (show Rd>8 from h2),cond_true,if_pos (.inr h2)]
    ·rw[dcF h1,cond_false,dcF (show ¬ Rd>8 from h2),cond_false,if_neg (fun hh=>hh.elim h1 h2)]
 ·rw[if_neg h,if_pos h]
theorem v2k (N:List B4) (E:List Edge) (Rd:Int):q32 (((N,E,()),Rd,()),())=some (q3v N E Rd,()):=by
 unfold q32 q3v
 simp only[v2e,Option.bind_some,V1]
 by_cases h:(R5 N E).1=0
 ·have g:=z8y h
  rw[if_pos h,if_neg (fun hh=>hh h),v1j g.n12]
  cases(List.range N.length).find? fun i=>q2w (N.getD i v0)with
  | some i=>rfl
  | none =>
   simp only[Option.map_none,T3,Option.bind_some,Sum.elim_inr,Sum.elim_inl]
   by_cases h1:Rd<0
   ·rw[dcT h1,cond_true,if_pos (.inl h1)]
   ·by_cases h2:8<Rd
    ·rw[dcF h1,cond_false,dcT (show Rd>8 from h2),cond_true,if_pos (.inr h2)]
    ·rw[dcF h1,cond_false,dcF (show ¬ Rd>8 from h2),cond_false,if_neg (fun hh=>hh.elim h1 h2),y6q h]
 ·rw[if_neg h,if_pos h]
theorem v1k (h:(q3v N E Rd).1=0):GrP N E/\q3d N/\0<=Rd/\Rd<=8:=by
 unfold q3v at h
 split at h
 ·rename_i h1;exact absurd h h1
 ·rename_i h1
  have h1:(R5 N E).1=0:=Classical.not_not.1 h1
  split at h
  ·cases h
  ·rename_i h2
   split at h
   ·cases h
   ·refine⟨z8y h1,fun v hv k2=>?_,by omega,by omega⟩
    obtain⟨i,hi,rfl⟩:=List.getElem_of_mem hv
    have:=q50 h2 i hi
    rw[List.getD_eq_getElem?_getD,List.getElem?_eq_getElem hi]at this
    unfold q2w at this
    rw[Option.getD_some,Bool.or_eq_false_iff,U8 k2,Bool.true_and]at this
    have hp:q00 N[i].2.2.1=1:=by simpa using this.1
    unfold q00 at hp
    split at hp
    ·rename_i h3;exact h3
    ·split at hp<;>cases hp
def q1j (N:List B4) (f:Fd):Bool:=decide (f.1<0)||decide ((N.length:Int)<=f.1)||(N.getD f.1.toNat v0).1 != 1||decide (f.2.1<0)||decide (f.2.1>1048576)
def X2 (f:Fd):Bool:=decide (f.2.2.1.length>128)
def q3n (N:List B4) (F:List Fd):Int:=if 60<F.length then 1 else if F.any X2=true then 1 else if F.any (q1j N)=true then 2 else 0
def fd0:Fd:=(0,0,[],())
theorem y33 {α:Type} (P:α->Bool) (d:α) (l:List α):((List.range l.length).any fun i=>P (l.getD i d))=l.any P:=by
 have h:=z8q P d l
 cases hq:(List.range l.length).find? fun i=>P (l.getD i d)with
 | none =>
  rw[hq]at h
  have h1:l.find? P=none:=h
  rw[List.find?_eq_none]at h1 hq
  rw[List.any_eq_false.2 h1,List.any_eq_false.2 hq]
 | some i =>
  rw[hq]at h
  have h1:l.find? P=some (l.getD i d):=h
  rw[List.any_eq_true.2 ⟨_,List.mem_of_find?_eq_some h1,List.find?_some h1⟩,List.any_eq_true.2 ⟨i,List.mem_of_find?_eq_some hq,List.find?_some hq⟩]
theorem z0y {α β:Type} (P:α->Bool) (d:α) (l:List α) (c:Nat->β):(((List.range l.length).find? fun i=>P (l.getD i d)).map c).isSome=l.any P:=by
 rw[<-y33 P d l,Option.isSome_map]
 cases hq:(List.range l.length).find? fun i=>P (l.getD i d)with
 | none=>rw[List.find?_eq_none]at hq;rw[List.any_eq_false.2 hq];rfl
 | some i=>rw[List.any_eq_true.2 ⟨i,List.mem_of_find?_eq_some hq,List.find?_some hq⟩];rfl
theorem j3b (f:Fd):decide ((f.2.2.1.length:Int)>(128:Int))=X2 f:=decide_eq_decide.2 (by omega)
theorem y5t (P:((List B4×List Edge×Unit)×Int×Unit)) (hF:F.length<=60):A4 (q81 (P,F,())) ((0:Int),())=some (J4 (((List.range F.length).find? fun i=>X2 (F.getD i fd0)).map fun i:Nat=>((i:Int),())) (.inl ())):=by
 rw[<-M4]
 refine L3 (f:=q81 (P,F,())) F.length (fun i=>((i:Int),())) _ _ (fun i hi=>?_) ?_ rfl
 ·unfold q81 z9z
  simp only[dcT (show(i:Int)<(F.length:Int)by omega),cond_true,G7 fd0 (Int.natCast_nonneg i) (show(i:Int)<(F.length:Int)by omega),Int.toNat_natCast,Option.bind_some,j3b]
  rw[C7 (by omega)]
  cases X2 (F.getD i fd0)<;>rfl
 ·unfold q81
  simp only[dcF (show ¬ (F.length:Int)<(F.length:Int)by omega),cond_false]
theorem y5u (hF:F.length<=60):A4 (q82 (((N,E,()),Rd,()),F,())) ((0:Int),())=some (J4 (((List.range F.length).find? fun i=>q1j N (F.getD i fd0)).map fun _:Nat=>((2:Int),())) (.inl ())):=by
 rw[<-M4]
 refine L3 (f:=q82 (((N,E,()),Rd,()),F,())) F.length (fun i=>((i:Int),())) _ _ (fun i hi=>?_) ?_ rfl
 ·unfold q82
  simp only[dcT (show(i:Int)<(F.length:Int)by omega),cond_true,G7 fd0 (Int.natCast_nonneg i) (show(i:Int)<(F.length:Int)by omega),Int.toNat_natCast,Option.bind_some]
  rw[C7 (by omega)]
  generalize F.getD i fd0=f
  unfold q1j
  by_cases h1:f.1<0
  ·simp[h1,L8]
  ·by_cases h2:(N.length:Int)<=f.1
   ·simp[h1,h2,L8]
   ·rw[G7 v0 (show 0<=f.1 by omega) (show f.1<(N.length:Int)by omega)]
    simp only[dcF h1,cond_false,dcF (show ¬ f.1≥(N.length:Int)by omega),Option.bind_some,dcF h2,Bool.false_or]
    by_cases h3:(N.getD f.1.toNat v0).1=1
    ·simp only[z5v h3,cond_false,Bool.false_or]
     by_cases h4:f.2.1<0
     ·simp[h4,L8]
     ·by_cases h5:f.2.1>1048576
      ·simp[h4,h5,L8]
      ·simp only[dcF h4,dcF h5,cond_false,Bool.or_self];rfl
    ·simp only[q0d h3,cond_true,Bool.true_or];rfl
 ·unfold q82
  simp only[dcF (show ¬ (F.length:Int)<(F.length:Int)by omega),cond_false]
theorem v37 (P:((List B4×List Edge×Unit)×Int×Unit)) (hF:F.length<=60):A4 (q8q (P,F,())) ((0:Int),())=some (J4 (((List.range F.length).find? fun i=>X2 (F.getD i fd0)).map fun _:Nat=>((1:Int),())) (.inl ())):=by
 rw[<-M4]
 refine L3 (f:=q8q (P,F,())) F.length (fun i=>((i:Int),())) _ _ (fun i hi=>?_) ?_ rfl
 ·unfold q8q q5n
  simp only[dcT (show(i:Int)<(F.length:Int)by omega),cond_true,G7 fd0 (Int.natCast_nonneg i) (show(i:Int)<(F.length:Int)by omega),Int.toNat_natCast,Option.bind_some,j3b]
  rw[C7 (by omega)]
  cases X2 (F.getD i fd0)<;>rfl
 ·unfold q8q
  simp only[dcF (show ¬ (F.length:Int)<(F.length:Int)by omega),cond_false]
theorem v38 (hF:F.length<=60):A4 (q8r (((N,E,()),Rd,()),F,())) ((0:Int),())=some (J4 (((List.range F.length).find? fun i=>q1j N (F.getD i fd0)).map fun _:Nat=>((2:Int),())) (.inl ())):=by
 rw[<-M4]
 refine L3 (f:=q8r (((N,E,()),Rd,()),F,())) F.length (fun i=>((i:Int),())) _ _ (fun i hi=>?_) ?_ rfl
 ·unfold q8r j0v
  simp only[dcT (show(i:Int)<(F.length:Int)by omega),cond_true,G7 fd0 (Int.natCast_nonneg i) (show(i:Int)<(F.length:Int)by omega),Int.toNat_natCast,Option.bind_some]
  rw[C7 (by omega)]
  generalize F.getD i fd0=f
  unfold q1j
  by_cases h1:f.1<0
  ·simp[h1,dcF (show ¬ f.1≥0 by omega),L8]
  ·by_cases h2:(N.length:Int)<=f.1
   ·simp[dcT (show f.1≥0 by omega),dcF (show ¬ f.1<(N.length:Int)by omega),h2,L8]
   ·rw[G7 v0 (show 0<=f.1 by omega) (show f.1<(N.length:Int)by omega)]
    simp only[dcF h1,dcT (show f.1≥0 by omega),dcT (show f.1<(N.length:Int)by omega),cond_true,Option.bind_some,dcF h2,Bool.false_or]
    by_cases h3:(N.getD f.1.toNat v0).1=1
    ·simp only[U8 h3,z5v h3,Bool.not_true,cond_false,Bool.false_or]
     by_cases h4:f.2.1<0
     ·simp[h4,L8]
     ·by_cases h5:f.2.1>1048576
      ·simp[h4,h5,L8]
      ·simp only[dcF h4,dcF h5,cond_false,Bool.or_self];rfl
    ·simp only[O8 h3,q0d h3,Bool.not_false,cond_true,Bool.true_or];rfl
 ·unfold q8r
  simp only[dcF (show ¬ (F.length:Int)<(F.length:Int)by omega),cond_false]
theorem y8v (N:List B4) (E:List Edge) (Rd:Int) (F:List Fd):z2h (((N,E,()),Rd,()),F,())=some (q3n N F,()):=by
 unfold z2h q3n
 by_cases h1:60<F.length
 ·simp only[dcT (show(F.length:Int)>60 by omega),cond_true,if_pos h1]
 ·have hF:F.length<=60:=by omega
  simp only[dcF (show ¬ (F.length:Int)>60 by omega),cond_false,if_neg h1,y5t _ hF,Option.bind_some]
  rw[<-z0y X2 fd0 F fun i:Nat=>((i:Int),())]
  cases(List.range F.length).find? fun i=>X2 (F.getD i fd0)with
  | some i=>simp only[Option.map_some,q1g,Sum.elim_inl,Option.bind_some,dcT (show(i:Int)≥0 by omega),cond_true,Option.isSome_some,if_true]
  | none =>
   have hd:decide ((-1:Int)≥0)=false:=rfl
   simp only[Option.map_none,T3,Sum.elim_inr,Sum.elim_inl,Option.bind_some,hd,cond_false,Option.isSome_none,y5u hF,Bool.false_eq_true,if_false]
   rw[<-z0y (q1j N) fd0 F fun _:Nat=>((2:Int),())]
   cases(List.range F.length).find? fun i=>q1j N (F.getD i fd0)with
   | some i=>rfl
   | none=>rfl
theorem v2d (N:List B4) (E:List Edge) (Rd:Int) (F:List Fd):q30 (((N,E,()),Rd,()),F,())=some (q3n N F,()):=by
 unfold q30 q3n
 by_cases h1:60<F.length
 ·simp only[dcT (show(F.length:Int)>60 by omega),cond_true,if_pos h1]
 ·have hF:F.length<=60:=by omega
  simp only[dcF (show ¬ (F.length:Int)>60 by omega),cond_false,if_neg h1,v37 _ hF,Option.bind_some]
  rw[<-z0y X2 fd0 F fun _:Nat=>((1:Int),())]
  cases(List.range F.length).find? fun i=>X2 (F.getD i fd0)with
  | some i=>rfl
  | none =>
   simp only[Option.map_none,T3,Sum.elim_inr,Sum.elim_inl,Option.isSome_none,v38 hF,Option.bind_some,Bool.false_eq_true,if_false]
   rw[<-z0y (q1j N) fd0 F fun _:Nat=>((2:Int),())]
   cases(List.range F.length).find? fun i=>q1j N (F.getD i fd0)with
   | some i=>rfl
   | none=>rfl
theorem y5s (h:q3n N F=0):F.length<=60/\∀ f∈F,f.2.2.1.length<=128:=by
 unfold q3n at h
 split at h
 ·cases h
 ·split at h
  ·cases h
  ·rename_i h2
   refine⟨by omega,fun f hf=>?_⟩
   have h3:=List.any_eq_false.1 (Bool.eq_false_iff.2 h2) f hf
   unfold X2 at h3
   have:¬ f.2.2.1.length>128:=by simpa using h3
   omega
def q6j (x:Int):Bool:=decide (x<0)||decide (x>1048576)
def W5 (t:List Int):Int:=if t.length=0\/4<t.length then 1 else if(List.range t.length).any (fun i=>q6j (t.getD i 0))=true then 2 else 0
theorem y0k {t:List Int} (ht:t.length<=4):A4 (q9k (t,())) ((0:Int),())=some (if(List.range t.length).any (fun i=>q6j (t.getD i 0))=true then .inl ((2:Int),())else .inr (.inl ())):=by
 refine y7x t.length () (fun i=>q6j (t.getD i 0)) _ _ (fun i hi=>?_) ?_
 ·unfold q9k q6j
  simp only[dcT (show(i:Int)<(t.length:Int)by omega),cond_true,j5c hi,Option.bind_some]
  rw[C7 (by omega)]
  by_cases h1:t.getD i 0<0
  ·simp only[dcT h1,cond_true,Bool.true_or,if_true]
  ·by_cases h2:t.getD i 0>1048576
   ·simp only[dcF h1,dcT h2,cond_false,cond_true,Bool.or_true,if_true]
   ·simp only[dcF h1,dcF h2,cond_false,Bool.or_self,Bool.false_eq_true,if_false]
 ·unfold q9k
  simp only[dcF (show ¬ (t.length:Int)<(t.length:Int)by omega),cond_false]
theorem v3k:j7r=q9k:=rfl
theorem v78 (t:List Int):z4y (t,())=some (W5 t,()):=by
 unfold z4y W5
 by_cases h0:t.length=0
 ·rw[if_pos (.inl h0),U8 (show(t.length:Int)=0 by omega)];rfl
 ·by_cases h4:4<t.length
  ·simp only[O8 (show ¬ (t.length:Int)=0 by omega),cond_false,dcT (show(t.length:Int)>4 by omega),cond_true,if_pos (Or.inr h4:t.length=0\/4<t.length)]
  ·simp only[O8 (show ¬ (t.length:Int)=0 by omega),cond_false,dcF (show ¬ (t.length:Int)>4 by omega),if_neg (show ¬ (t.length=0\/4<t.length)by omega),y0k (show t.length<=4 by omega),Option.bind_some]
   split<;>rfl
theorem v2m (t:List Int):q94 (t,())=some (W5 t,()):=by
 unfold q94 W5
 rw[v3k]
 by_cases h0:t.length=0
 ·rw[if_pos (.inl h0),dcT (show(t.length:Int)<1 by omega)];rfl
 ·by_cases h4:4<t.length
  ·simp only[dcF (show ¬ (t.length:Int)<1 by omega),cond_false,dcT (show(t.length:Int)>4 by omega),cond_true,if_pos (Or.inr h4:t.length=0\/4<t.length)]
  ·simp only[dcF (show ¬ (t.length:Int)<1 by omega),cond_false,dcF (show ¬ (t.length:Int)>4 by omega),if_neg (show ¬ (t.length=0\/4<t.length)by omega),y0k (show t.length<=4 by omega),Option.bind_some]
   split<;>rfl
theorem j1q {t:List Int} (h:W5 t=0):1<=t.length/\t.length<=4/\∀ (i:Nat) x,t[i]? = some x->0<=x/\x<=1048576:=by
 unfold W5 at h
 split at h
 ·cases h
 ·split at h
  ·cases h
  ·rename_i h2
   refine⟨by omega,by omega,fun i x hx=>?_⟩
   have hi:i<t.length:=(List.getElem?_eq_some_iff.1 hx).1
   have:=List.any_eq_false.1 (Bool.eq_false_iff.2 h2) i (List.mem_range.2 hi)
   rw[List.getD_eq_getElem?_getD,hx,Option.getD_some]at this
   unfold q6j at this
   have h3:0<=x/\x<=1048576:=by simpa using this
   exact h3
def z3i (Rd:Int) (t:List Int):Bool:=(List.range' 1 (t.length-1)).any fun i=>decide (t.getD i 0>Rd)
def q3w (N:List B4) (Rd nd pt:Int) (t:List Int):Int :=
 if nd<0\/(N.length:Int)<=nd then 2 else if pt<0\/D6 (N.getD nd.toNat v0)<=pt then 2 else if W5 t≠0 then W5 t else if(t.length:Int)≠(N.getD nd.toNat v0).2.1 then 7 else if z3i Rd t=true then 2 else 0
theorem v3j {t:List Int} (ht:1<=t.length) (h4:t.length<=4) (nd pt:Int):A4 (q93 (((N,E,()),Rd,()),nd,pt,t,())) ((1:Int),())=some (if z3i Rd t=true then .inl ((2:Int),())else .inr (.inl ())):=by
 refine j6c (f:=q93 (((N,E,()),Rd,()),nd,pt,t,())) 1 t.length () (fun i=>decide (t.getD i 0>Rd)) _ _ ht (fun i _ hi=>?_) ?_
 ·unfold q93
  simp only[dcT (show(i:Int)<(t.length:Int)by omega),cond_true,j5c hi,Option.bind_some]
  rw[C7 (by omega)]
  cases decide (t.getD i 0>Rd)<;>rfl
 ·unfold q93
  simp only[dcF (show ¬ (t.length:Int)<(t.length:Int)by omega),cond_false]
theorem v1m {t:List Int} (ht:1<=t.length) (h4:t.length<=4) (nd pt:Int):∃ o:Option Nat,A4 (q83 (((N,E,()),Rd,()),nd,pt,t,())) ((0:Int),())=some (J4 (o.map fun i:Nat=>((i:Int),())) (.inl ()))/\o.isSome=z3i Rd t:=by
 refine⟨(List.range (t.length-1)).find? fun i=>decide (t.getD (i+1) 0>Rd),?_,?_⟩
 ·have hu:(t.drop (1:Int).toNat).take ((t.length:Int).toNat-(1:Int).toNat)=t.drop 1:=by
   show(t.drop 1).take ((t.length:Int).toNat-1)=t.drop 1
   rw[Int.toNat_natCast,List.take_of_length_le (by rw[List.length_drop];exact Nat.le_refl _)]
  rw[<-M4]
  refine L3 (f:=q83 (((N,E,()),Rd,()),nd,pt,t,())) (t.length-1) (fun i=>((i:Int),())) _ _ (fun i hi=>?_) ?_ rfl
  ·have hg:A7 (t.drop 1) (i:Int)=some (t.getD (i+1) 0):=by
    rw[J5,List.getElem?_drop,Nat.add_comm]
    exact z1b (by omega)
   unfold q83
   simp only[hu,List.length_drop,dcT (show(i:Int)<((t.length-1:Nat):Int)by omega),cond_true,hg,Option.bind_some]
   rw[C7 (by omega)]
   cases decide (t.getD (i+1) 0>Rd)<;>rfl
  ·unfold q83
   simp only[hu,List.length_drop,dcF (show ¬ ((t.length-1:Nat):Int)<((t.length-1:Nat):Int)by omega),cond_false]
 ·unfold z3i
  rw[List.range'_eq_map_range,List.any_map]
  have:((fun i=>decide (t.getD i 0>Rd))∘fun x=>1+x)=fun i=>decide (t.getD (i+1) 0>Rd):=by
   funext i
   simp only[Function.comp,Nat.add_comm]
  rw[this]
  cases hq:(List.range (t.length-1)).find? fun i=>decide (t.getD (i+1) 0>Rd)with
  | none=>rw[List.find?_eq_none]at hq;rw[List.any_eq_false.2 hq];rfl
  | some i=>rw[List.any_eq_true.2 ⟨i,List.mem_of_find?_eq_some hq,List.find?_some (p:=fun i=>decide (t.getD (i+1) 0>Rd)) hq⟩];rfl
theorem y8w (N:List B4) (E:List Edge) (Rd nd pt:Int) (t:List Int):z2i (((N,E,()),Rd,()),nd,pt,t,())=some (q3w N Rd nd pt t,()):=by
 unfold z2i q3w
 by_cases h1:nd<0
 ·simp only[dcT h1,cond_true,if_pos (Or.inl h1:nd<0\/(N.length:Int)<=nd)]
 ·by_cases h2:(N.length:Int)<=nd
  ·simp only[dcF h1,cond_false,dcT (show nd≥(N.length:Int)from h2),cond_true,if_pos (Or.inr h2:nd<0\/(N.length:Int)<=nd)]
  ·simp only[dcF h1,cond_false,dcF (show ¬ nd≥(N.length:Int)from h2),if_neg (show ¬ (nd<0\/(N.length:Int)<=nd)by omega),G7 v0 (show 0<=nd by omega) (show nd<(N.length:Int)by omega),Option.bind_some,z1l]
   by_cases h3:pt<0
   ·simp only[dcT h3,cond_true,if_pos (Or.inl h3:pt<0\/D6 (N.getD nd.toNat v0)<=pt)]
   ·by_cases h4:D6 (N.getD nd.toNat v0)<=pt
    ·simp only[dcF h3,cond_false,dcT (show pt≥D6 (N.getD nd.toNat v0)from h4),cond_true,if_pos (Or.inr h4:pt<0\/D6 (N.getD nd.toNat v0)<=pt)]
    ·simp only[dcF h3,cond_false,dcF (show ¬ pt≥D6 (N.getD nd.toNat v0)from h4),if_neg (show ¬ (pt<0\/D6 (N.getD nd.toNat v0)<=pt)by omega),v78,Option.bind_some,V1]
     by_cases h5:W5 t=0
     ·obtain⟨t1,t4,-⟩:=j1q h5
      rw[if_pos h5,if_neg (show ¬ (W5 t≠0)from fun hh=>hh h5)]
      by_cases h6:(t.length:Int)=(N.getD nd.toNat v0).2.1
      ·rw[if_pos h6,if_neg (show ¬ ((t.length:Int)≠(N.getD nd.toNat v0).2.1)from fun hh=>hh h6)]
       obtain⟨o,hl,ho⟩:=v1m (N:=N) (E:=E) (Rd:=Rd) t1 t4 nd pt
       have hd0:decide ((0:Int)<=1)=true:=rfl
       simp only[hd0,dcT (show(1:Int)<=(t.length:Int)by omega),dcT (show(t.length:Int)<=(t.length:Int)by omega),Bool.and_self,cond_true,hl,Option.bind_some]
       rw[<-ho]
       cases o with
       | none=>rfl
       | some i=>simp only[Option.map_some,q1g,Sum.elim_inl,Option.bind_some,dcT (show(i:Int)≥0 by omega),cond_true,Option.isSome_some,if_true]
      ·rw[if_neg h6,if_pos h6]
     ·rw[if_neg h5,if_pos h5]
theorem v2l (N:List B4) (E:List Edge) (Rd nd pt:Int) (t:List Int):q33 (((N,E,()),Rd,()),nd,pt,t,())=some (q3w N Rd nd pt t,()):=by
 unfold q33 q3w j0w
 by_cases h1:nd<0
 ·simp only[dcT h1,cond_true,if_pos (Or.inl h1:nd<0\/(N.length:Int)<=nd)]
 ·by_cases h2:(N.length:Int)<=nd
  ·simp only[dcF h1,cond_false,dcT (show nd≥(N.length:Int)from h2),cond_true,if_pos (Or.inr h2:nd<0\/(N.length:Int)<=nd)]
  ·simp only[dcF h1,cond_false,dcF (show ¬ nd≥(N.length:Int)from h2),if_neg (show ¬ (nd<0\/(N.length:Int)<=nd)by omega),G7 v0 (show 0<=nd by omega) (show nd<(N.length:Int)by omega),Option.bind_some,q5s]
   by_cases h3:pt<0
   ·simp only[dcT h3,cond_true,if_pos (Or.inl h3:pt<0\/D6 (N.getD nd.toNat v0)<=pt)]
   ·by_cases h4:D6 (N.getD nd.toNat v0)<=pt
    ·simp only[dcF h3,cond_false,dcT (show pt≥D6 (N.getD nd.toNat v0)from h4),cond_true,if_pos (Or.inr h4:pt<0\/D6 (N.getD nd.toNat v0)<=pt)]
    ·simp only[dcF h3,cond_false,dcF (show ¬ pt≥D6 (N.getD nd.toNat v0)from h4),if_neg (show ¬ (pt<0\/D6 (N.getD nd.toNat v0)<=pt)by omega),v2m,Option.bind_some,V1]
     by_cases h5:W5 t=0
     ·obtain⟨t1,t4,-⟩:=j1q h5
      rw[if_pos h5,if_neg (show ¬ (W5 t≠0)from fun hh=>hh h5)]
      by_cases h6:(t.length:Int)=(N.getD nd.toNat v0).2.1
      ·rw[if_pos h6,if_neg (show ¬ ((t.length:Int)≠(N.getD nd.toNat v0).2.1)from fun hh=>hh h6)]
       simp only[Option.bind_some,if_true,v3j t1 t4]
       split<;>rfl
      ·rw[if_neg h6,if_pos h6]
       rfl
     ·rw[if_neg h5,if_pos h5]
      simp only[Option.bind_some,if_neg h5]
theorem v1l {nd pt:Int} {t:List Int} (h:q3w N Rd nd pt t=0):∃ ep:Int,ep<=1048576/\OkP N Rd ep (nd,pt,t,()):=by
 unfold q3w at h
 split at h
 ·cases h
 ·rename_i h1
  split at h
  ·cases h
  ·rename_i h2
   split at h
   ·rename_i h3;exact absurd h h3
   ·rename_i h3
    obtain⟨t1,t4,tb⟩:=j1q (Classical.not_not.1 h3)
    split at h
    ·cases h
    ·rename_i h5
     split at h
     ·cases h
     ·rename_i h6
      obtain⟨ep,he⟩:∃ ep,t[0]? = some ep:=⟨t[0],List.getElem?_eq_getElem (by omega)⟩
      refine⟨ep,(tb 0 ep he).2,by show 0<=nd;omega,by show nd<N.length;omega,by show 0<=pt;omega,by show pt<D6 (N.getD nd.toNat v0);omega,Classical.not_not.1 h5,he,fun i x hx=>⟨(tb i x hx).1,fun hi=>?_⟩⟩
      have hx:t[i]? = some x:=hx
      have hil:i<t.length:=(List.getElem?_eq_some_iff.1 hx).1
      have h7:=List.any_eq_false.1 (Bool.eq_false_iff.2 h6) i (List.mem_range'_1.2 ⟨hi,by omega⟩)
      rw[List.getD_eq_getElem?_getD,hx,Option.getD_some]at h7
      have:¬ x>Rd:=by simpa using h7
      omega
end
theorem y8o (N:List B4) (E:List Edge) (Rd:Int) (F:List Fd) (nd pt:Int) (t:List Int):z1v (((N,E,()),Rd,()),F,nd,pt,t,())=some (true,()):=by
 have e0:((0:Int)==0)=true:=rfl
 have n0:((0:Int) != 0)=false:=rfl
 have hsame:q1x (([]:List Rw),([]:List Rw),())=some (true,()):=j8b [] (Nat.zero_le _)
 unfold z1v
 simp only[y8u,v2k,y8v,v2d,y8w,v2l,Option.bind_some,beq_self_eq_true,Bool.and_true,Bool.not_true,cond_false]
 by_cases h1:(q3v N E Rd).1=0
 ·obtain⟨g,ho,hR,hR8⟩:=v1k h1
  simp only[h1,n0,e0,cond_false,cond_true,Option.bind_some,Sum.elim_inl]
  by_cases h2:q3n N F=0
  ·obtain⟨hF,hr⟩:=y5s h2
   simp only[h2,n0,e0,cond_false,cond_true,Option.bind_some,Sum.elim_inl]
   by_cases h3:q3w N Rd nd pt t=0
   ·obtain⟨ep,hep,hp⟩:=v1l h3
    obtain⟨z,hz,hz2⟩:=v1p g ho hF hr hR hR8 hep hp
    have hz:q1p q5d ((nd,pt,t,()),(N,E,Rd,F,()),[],())=some z:=hz
    have href:=v2p g hR hR8 hep ho hF hr hp
    simp only at href
    simp only[h3,n0,cond_false,hz,Option.bind_some]
    obtain⟨r,s⟩:=z
    cases r with
    | none =>
     rcases href with⟨b,hb,-⟩ | ⟨-,hm⟩
     ·exact absurd hz2 (j3s hb)
     ·simp only[j74,hm,Option.bind_some,hsame];rfl
    | some b =>
     obtain⟨b,⟨⟩⟩:=b
     have hc:Comes (B5 N E Rd) (F1 N E F) J8 (nd,pt,t,()) (b,()):=hz2
     rcases href with⟨b',hb,hm⟩ | ⟨hbig,-⟩
     ·have he:=j3t hc hb
      cases he
      obtain⟨q1,q2⟩:=z0g hc
      have q2:b.length<=128:=q2
      have hrows:=q5z (m:=b) q1 (by omega)
      have hs2:=j8b (b.map toR) (by rw[List.length_map];omega)
      simp only[z3h,hrows,hm,Option.bind_some,hs2]
      rfl
     ·exact absurd hbig (j3s hc)
   ·simp only[q0d h3,cond_true,beq_self_eq_true]
  ·simp only[q0d h2,O8 h2,cond_true,cond_false,Option.bind_some,Sum.elim_inl,beq_self_eq_true]
 ·simp only[q0d h1,O8 h1,cond_true,cond_false,Option.bind_some,Sum.elim_inl,beq_self_eq_true]
theorem meanTells_law (x:I8 sp3.args) (_h:WfA sp3.args x):z1v x=some (true,()):=by
 obtain⟨⟨⟨N,E,⟨⟩⟩,Rd,⟨⟩⟩,F,nd,pt,t,⟨⟩⟩:=x
 exact y8o N E Rd F nd pt t
end Go.Proofs.Tryz
