/- The plain law of WireGets. -/
import Derived.Test.YtkfjlcdaepckoaaBWFuns
import Derived.Test.YtkfjlcdaepckoaaAbsSums
import Derived.Test.YtkfjlcdaepckoaaBWLemmasWireGets4
namespace Go.Proofs.Try
open Go Go.Abs

theorem j9i {a b:Int} (ha:B8 a) (hb:B8 b):D0 .or .i64 (IntKind.i64.wrap a) (N1 .i64 (IntKind.i64.wrap b) 8)=a+256*b:=by
 obtain⟨h1,h2⟩:=ha
 obtain⟨h3,h4⟩:=hb
 obtain⟨x,rfl⟩:∃ x:Nat,a=(x:Int):=⟨a.toNat,by omega⟩
 obtain⟨y,rfl⟩:∃ y:Nat,b=(y:Int):=⟨b.toNat,by omega⟩
 have e:N1 .i64 (IntKind.i64.wrap (y:Int)) 8=((y*256:Nat):Int):=by
  rw[D7 (by omega) (by omega)]
  show IntKind.i64.wrap ((y:Int)*2^(min (8:Int).toNat 64))=_
  rw[show(2:Int)^(min (8:Int).toNat 64)=256 by decide,D7 (by omega) (by omega)]
  omega
 rw[e,D7 (x:=(x:Int)) (by omega) (by omega)]
 show IntKind.i64.wrap ((BitVec.ofInt 64 (x:Int) ||| BitVec.ofInt 64 ((y*256:Nat):Int)).toNat:Int)=_
 rw[q2d,q2d,BitVec.toNat_or,BitVec.toNat_ofNat,BitVec.toNat_ofNat,Nat.mod_eq_of_lt (by omega),Nat.mod_eq_of_lt (by omega)]
 have h8:=Nat.shiftLeft_add_eq_or_of_lt (b:=x) (i:=8) (by omega) y
 rw[Nat.shiftLeft_eq]at h8
 rw[Nat.or_comm,<-h8,D7 (by omega) (by omega)]
 omega
theorem y46 {b:List Int} (h2:2<=b.length):∃ b' x y,b=b'++[x,y]/\b'.length=b.length-2:=by
 refine⟨b.take (b.length-2),b[b.length-2],b[b.length-1],?_,by simp⟩
 have h:=(List.take_append_drop (b.length-2) b).symm
 rw[List.drop_eq_getElem_cons (by omega),show b.length-2+1=b.length-1 by omega,List.drop_eq_getElem_cons (by omega),show b.length-1+1=b.length by omega,List.drop_length]at h
 exact h
def q1g (b':List Int) (T:List Df):Prop:=Told T/\b'=B3 (H2 T)
theorem y3p {b':List Int} {x y:Int} (hx:B8 x) (hy:B8 y):x=G0 b' % 256/\y=G0 b' / 256↔G0 b'=x+256*y:=by
 obtain⟨s1,s2⟩:=q8g (l:=b')
 obtain⟨h1,h2⟩:=hx
 obtain⟨h3,h4⟩:=hy
 omega
theorem y4h {b':List Int} {x y:Int} (hs:x=G0 b' % 256/\y=G0 b' / 256) {T:List Df}:q1d T=b'++[x,y]↔b'=B3 (H2 T):=by
 constructor
 ·intro h
  unfold q1d at h
  exact(List.append_inj' h rfl).1.symm
 ·intro h
  unfold q1d
  rw[<-h,hs.1,hs.2]
section
variable {b':List Int} {x y:Int} (hb:∀ c∈b',B8 c) (hx:B8 x) (hy:B8 y) (hl:b'.length<=8190)
include hb hl
theorem y0c (T:List Df) (h:q1g b' T):q12 (b',())=some (H2 T,true,())/\U8 (H2 T,())=some (T,true,()):=by
 obtain⟨h1,h2⟩:=h
 obtain⟨q1,q2⟩:=z2l h1.put
 constructor
 ·rcases z9r hb (by omega)with⟨L,g1,g2,g3,g4⟩ | ⟨g1,-⟩
  ·rw[j54 (A:=H2 T) (B:=L) q1 g1 (by rw[<-h2];omega) (by rw[<-h2,<-g2])];exact g4
  ·exact absurd h2 (g1 _ q1)
 ·rcases z9n (by omega) q1 with⟨D,g1,g2,g3⟩ | ⟨g1,-⟩
  ·rw[z8v g2];rw[z8v g2]at g3;exact g3
  ·exact absurd rfl (g1 T h1.ok)
include hx hy
open Classical in
theorem j9r:q1e (b'++[x,y],())=some (if x=G0 b' % 256/\y=G0 b' / 256 then(if h:∃ T,q1g b' T then(h.choose,0,())else([],3,()))else([],16,())):=by
 have hlen:(b'++[x,y]).length=b'.length+2:=by simp
 have w0:IntKind.i64.wrap ((((b'++[x,y]).length:Nat):Int)-(2:Int))=((b'.length:Nat):Int):=by rw[D7 (by omega) (by omega)];omega
 have w1:IntKind.i64.wrap (((b'.length:Nat):Int)+1)=((b'.length+1:Nat):Int):=by rw[D7 (by omega) (by omega)];omega
 have gx:A9 (b'++[x,y]) ((b'.length:Nat):Int)=some x:=by rw[I2];simp
 have gy:A9 (b'++[x,y]) ((b'.length+1:Nat):Int)=some y:=by
  rw[I2,List.getElem?_append_right (by omega),show b'.length+1-b'.length=1 by omega];rfl
 have htk:(((b'++[x,y]).drop (0:Int).toNat).take (((b'.length:Nat):Int).toNat-(0:Int).toNat))=b':=by
  rw[show(0:Int).toNat=0 from rfl,List.drop_zero,Int.toNat_natCast,Nat.sub_zero];simp
 have hB:∀ c∈b'++[x,y],B8 c:=fun c hc=>by
  rcases List.mem_append.1 hc with h | h
  ·exact hb c h
  ·rcases List.mem_cons.1 h with rfl | h
   ·exact hx
   ·rw[List.mem_singleton.1 h];exact hy
 have iff:=y3p (b':=b') hx hy
 unfold q1e
 simp only[dcF (show ¬ (((b'++[x,y]).length:Nat):Int)>8192 by omega),cond_false,w0,dcF (show ¬ ((b'.length:Nat):Int)<0 by omega),dcT (show(0:Int)<=0 by omega),dcT (show(0:Int)<=((b'.length:Nat):Int)by omega),dcT (show((b'.length:Nat):Int)<=(((b'++[x,y]).length:Nat):Int)by omega),Bool.and_self,cond_true,htk,z3v hb (show b'.length<=140737488355328 by omega),Option.bind_some,gx,w1,gy,j9i hx hy]
 by_cases hs:x=G0 b' % 256/\y=G0 b' / 256
 rotate_left
 ·rw[if_neg hs,T3 (fun e=>hs (iff.2 e)),cond_true]
 rw[if_pos hs,N2 (iff.1 hs),cond_false]
 have wb:=fun T=>y4h hs (T:=T)
 by_cases hT:∃ T,q1g b' T
 ·rw[dif_pos hT]
  generalize hT.choose=T,hT.choose_spec=hP
  clear hT
  obtain⟨p1,p2⟩:=hP
  have hlen64:=(T5 p1.chk).len
  have e1:b'=E1 (T.length:Int)++(B3 (T.flatMap C5)++[]):=by rw[p2];simp[H2,B3]
  have r1:=q0y (Q9 (n:=T.length) (by omega)) (B3 (T.flatMap C5)++[]) 0
  rw[<-e1]at r1
  have r2:=z7f (((B3 (T.flatMap C5)++[],()),()):(List Int×Unit)×Unit) (c:=T.length) (by omega) [] T 0 [] (by omega) (by simp) p1.ok
  have r2:A3 (K1 ((T.length:Int),(B3 (T.flatMap C5)++[],()),())) (((0:Int),(B3 (T.flatMap C5)++[],()),[],(),()):HS)=_:=r2
  have r3:q3g (T,())=some (T,0,()):=by rw[j2h (by omega),if_pos p1.chk,p1.tidy]
  simp only[r1,Option.bind_some,Sum.elim_inl,dcF (show ¬ (T.length:Int)<0 by omega),dcF (show ¬ (T.length:Int)>64 by omega),cond_false,r2,Sum.elim_inr,List.nil_append,r3,N2 rfl,j38 p1.put]
  have hw:=(wb T).2 p2
  rw[z56 (by rw[hw];exact hB) hB,decide_eq_true hw]
  rfl
 ·rw[dif_neg hT]
  rcases q0x b' (by omega)with⟨v,r,h1,h2,h3⟩ | h1
  rotate_left
  ·simp only[h1,Option.bind_some,Sum.elim_inl,Sum.elim_inr]
  by_cases h0:v<0
  ·simp only[h1,Option.bind_some,Sum.elim_inl,dcT h0,cond_true]
  by_cases h64:v>64
  ·simp only[h1,Option.bind_some,Sum.elim_inl,dcF h0,cond_false,dcT h64,cond_true]
  obtain⟨n,rfl⟩:∃ n:Nat,v=(n:Int):=⟨v.toNat,by omega⟩
  simp only[h1,Option.bind_some,Sum.elim_inl,dcF h0,cond_false,dcF h64]
  rcases z7d (((r,()),()):(List Int×Unit)×Unit) (c:=n) (by omega) n 0 r [] (by omega) (by omega) rfl (fun d hd=>by cases hd)with⟨p,q1⟩ | ⟨r',H,q1,q2,q3⟩
  ·have q1:A3 (K1 ((n:Int),(r,()),())) (((0:Int),(r,()),[],(),()):HS)=_:=q1
   simp only[q1,Option.bind_some,Sum.elim_inl]
  ·have q1:A3 (K1 ((n:Int),(r,()),())) (((0:Int),(r,()),[],(),()):HS)=_:=q1
   simp only[q1,Option.bind_some,Sum.elim_inr,Sum.elim_inl]
   rw[j2h (by omega)]
   by_cases hd:M5 H=0
   ·rw[if_pos hd]
    have ht:=y44 q3 hd
    simp only[Option.bind_some,N2 rfl,cond_false,j38 ht.put]
    have hne:¬ q1d (D9 H)=b'++[x,y]:=fun e=>hT ⟨D9 H,ht,(wb _).1 e⟩
    have hB2:∀ c∈q1d (D9 H),B8 c:=fun c hc=>by
     unfold q1d at hc
     rcases List.mem_append.1 hc with h | h
     ·exact q5n (z2l ht.put).1 c h
     ·obtain⟨s1,s2⟩:=q8g (l:=B3 (H2 (D9 H)))
      rcases List.mem_cons.1 h with rfl | h
      ·unfold B8;omega
      ·rw[List.mem_singleton.1 h];unfold B8;omega
    rw[z56 hB2 hB,decide_eq_false hne]
    rfl
   ·rw[if_neg hd]
    simp only[Option.bind_some,T3 hd,cond_true]
open Classical in
theorem y0b:q11 (b'++[x,y],())=some (if x=G0 b' % 256/\y=G0 b' / 256 then(if h:∃ T,q1g b' T then(h.choose,0,())else([],3,()))else([],16,())):=by
 have hlen:(b'++[x,y]).length=b'.length+2:=by simp
 have w0:IntKind.i64.wrap ((((b'++[x,y]).length:Nat):Int)-(2:Int))=((b'.length:Nat):Int):=by rw[D7 (by omega) (by omega)];omega
 have w1:IntKind.i64.wrap (((b'.length:Nat):Int)+1)=((b'.length+1:Nat):Int):=by rw[D7 (by omega) (by omega)];omega
 have gx:A9 (b'++[x,y]) ((b'.length:Nat):Int)=some x:=by rw[I2];simp
 have gy:A9 (b'++[x,y]) ((b'.length+1:Nat):Int)=some y:=by
  rw[I2,List.getElem?_append_right (by omega),show b'.length+1-b'.length=1 by omega];rfl
 have htk:(((b'++[x,y]).drop (0:Int).toNat).take (((b'.length:Nat):Int).toNat-(0:Int).toNat))=b':=by
  rw[show(0:Int).toNat=0 from rfl,List.drop_zero,Int.toNat_natCast,Nat.sub_zero];simp
 obtain⟨s1,s2⟩:=q8g (l:=b')
 have m1:(G0 b').tmod 256=G0 b' % 256:=Int.tmod_eq_emod_of_nonneg s1
 have m2:IntKind.i64.wrap ((G0 b').tdiv 256)=G0 b' / 256:=by rw[Int.tdiv_eq_ediv_of_nonneg s1,D7 (by omega) (by omega)]
 unfold q11
 simp only[dcF (show ¬ (((b'++[x,y]).length:Nat):Int)>8192 by omega),cond_false,w0,dcF (show ¬ ((b'.length:Nat):Int)<0 by omega),dcT (show(0:Int)<=0 by omega),dcT (show(0:Int)<=((b'.length:Nat):Int)by omega),dcT (show((b'.length:Nat):Int)<=(((b'++[x,y]).length:Nat):Int)by omega),Bool.and_self,cond_true,htk,z9t hb (show b'.length<=140737488355328 by omega),Option.bind_some,gx,w1,gy,q8v hx,q8v hy,m1,m2]
 by_cases hs1:G0 b' % 256=x
 rotate_left
 ·rw[T3 hs1,cond_true,if_neg (fun h=>hs1 h.1.symm)]
 rw[N2 hs1,cond_false]
 by_cases hs2:G0 b' / 256=y
 rotate_left
 ·rw[T3 hs2,cond_true,if_neg (fun h=>hs2 h.2.symm)]
 rw[N2 hs2,cond_false,if_pos ⟨hs1.symm,hs2.symm⟩]
 by_cases hT:∃ T,q1g b' T
 ·rw[dif_pos hT]
  generalize hT.choose=T,hT.choose_spec=hP
  clear hT
  obtain⟨g1,g2⟩:=y0c hb hl T hP
  have hf:=(T5 hP.1.chk).fine
  simp only[g1,g2,Option.bind_some,Bool.not_true,cond_false,z9m T,hP.1.chk,N2 rfl,z9u hf,hP.1.tidy]
  rw[z2w (by have:=(T5 hP.1.chk).len;omega) (fun d hd=>⟨by have:=(hP.1.ok d hd).time;omega,by have:=(hP.1.ok d hd).len;omega⟩)]
  simp
 ·rw[dif_neg hT]
  rcases z9r hb (by omega)with⟨L,g1,g2,g3,g4⟩ | ⟨-,l,g4⟩
  rotate_left
  ·simp only[g4,Option.bind_some,Bool.not_false,cond_true]
  rcases z9n (l:=L) (by omega) g1 with⟨D,q1,q2,q3⟩ | ⟨-,D,q3⟩
  rotate_left
  ·simp only[g4,q3,Option.bind_some,Bool.not_true,cond_false,Bool.not_false,cond_true]
  simp only[g4,q3,Option.bind_some,Bool.not_true,cond_false,z9m D]
  by_cases hd:M5 D=0
  ·have hg:=T5 hd
   simp only[N2 hd,cond_false,z9u hg.fine,Option.bind_some]
   rw[z2w (by have:=hg.len;omega) (fun d hd=>⟨by have:=(q1 d hd).time;omega,by have:=(q1 d hd).len;omega⟩)]
   have hne:¬ D=D9 D:=fun e=>hT ⟨D,⟨hd,e.symm,q1⟩,by rw[g2,q2]⟩
   simp only[Option.bind_some,decide_eq_false hne,Bool.not_false,cond_true]
  ·simp only[T3 hd,cond_true]
end
theorem j7n {x:Int} (h:(Lit.int .u8 x).wf=true):B8 x:=by
 simp[Lit.wf,IntKind.signed,IntKind.bits,IntKind.min,IntKind.max]at h
 exact⟨by omega,by omega⟩
theorem y4i {b:List Int} (hb:∀ c∈b,B8 c) (hl:b.length<=140737488355328):q6s (b,())=some (true,()):=by
 classical
 have core:∃ T e,q1e (b,())=some (T,e,())/\q11 (b,())=some (T,e,())/\T.length<=1000000/\∀ d∈T,d.1.length<=1000000/\d.2.1.length<=1000000:=by
  by_cases h1:8192<b.length
  ·refine⟨[],1,?_,?_,by simp,fun d hd=>by cases hd⟩
   ·unfold q1e
    simp only[dcT (show(b.length:Int)>8192 by omega),cond_true]
   ·unfold q11
    simp only[dcT (show(b.length:Int)>8192 by omega),cond_true]
  by_cases h2:b.length<2
  ·have w0:IntKind.i64.wrap ((b.length:Int)-2)=(b.length:Int)-2:=D7 (by omega) (by omega)
   refine⟨[],16,?_,?_,by simp,fun d hd=>by cases hd⟩
   ·unfold q1e
    simp only[dcF (show ¬ (b.length:Int)>8192 by omega),cond_false,w0,dcT (show(b.length:Int)-2<0 by omega),cond_true]
   ·unfold q11
    simp only[dcF (show ¬ (b.length:Int)>8192 by omega),cond_false,w0,dcT (show(b.length:Int)-2<0 by omega),cond_true]
  obtain⟨b',x,y,rfl,hl'⟩:=y46 (b:=b) (by omega)
  have q1:∀ c∈b',B8 c:=fun c hc=>hb c (List.mem_append_left _ hc)
  have q2:B8 x:=hb x (by simp)
  have q3:B8 y:=hb y (by simp)
  have q4:b'.length<=8190:=by omega
  have e1:=j9r q1 q2 q3 q4
  have e2:=y0b q1 q2 q3 q4
  by_cases hs:x=G0 b' % 256/\y=G0 b' / 256
  ·rw[if_pos hs]at e1 e2
   by_cases hT:∃ T,q1g b' T
   ·rw[dif_pos hT]at e1 e2
    have hP:=hT.choose_spec
    exact⟨_,_,e1,e2,by have:=(T5 hP.1.chk).len;omega,fun d hd=>⟨by have:=(hP.1.ok d hd).time;omega,by have:=(hP.1.ok d hd).len;omega⟩⟩
   ·rw[dif_neg hT]at e1 e2
    exact⟨_,_,e1,e2,by simp,fun d hd=>by cases hd⟩
  ·rw[if_neg hs]at e1 e2
   exact⟨_,_,e1,e2,by simp,fun d hd=>by cases hd⟩
 obtain⟨T,e,e1,e2,e3,e4⟩:=core
 unfold q6s
 simp only[e1,e2,Option.bind_some,z3v hb hl,z9t hb hl,Z0 rfl,cond_true]
 rw[z2w e3 e4]
 simp
theorem wireGets_law (x:H6 sp3.args) (wf:WfA sp3.args x) (h0:List.length x.1*1<=140737488351232):q6s x=some (true,()):=by
 obtain⟨b,⟨⟩⟩:=x
 exact y4i (fun c hc=>j7n (wf.1.2 c hc)) (Nat.le_trans (by simpa using h0) (by decide))
end Go.Proofs.Try
