/- Lemmas on functions of the program, by name. -/
import Derived.Test.YtkfjlcdaepckoaaBWFuns
import Derived.Test.YtkfjlcdaepckoaaAbsSums
import Derived.Test.YtkfjlcdaepckoaaBWLemmasWireGets2
namespace Go.Proofs.Try
section
open Go Go.Abs

end

section
open Go Go.Abs

end

section
open Go Go.Abs

end

section
open Go Go.Abs

def zz (n:Int):Int:=if n<0 then -2*n-1 else 2*n
def leb (x:Nat):List Int:=if x<128 then [(x:Int)]else((x % 128+128:Nat):Int)::leb (x / 128)
termination_by x
decreasing_by omega
theorem X4 {x:Nat} (h:x<128):leb x=[(x:Int)]:=by rw[leb,if_pos h]
theorem q28 {x:Nat} (h:¬ x<128):leb x=((x % 128+128:Nat):Int)::leb (x / 128):=by rw[leb,if_neg h]
theorem q0h (x:Int):IntKind.u8.wrap x=x % 256:=by unfold IntKind.wrap;simp[IntKind.bits,IntKind.signed]
theorem M3 (x:Int):IntKind.u64.wrap x=x % 18446744073709551616:=by unfold IntKind.wrap;simp[IntKind.bits,IntKind.signed]
theorem j9g:∀ a:Fin 256,D0 .or .u8 ((a.1:Nat):Int) 128=((a.1 % 128+128:Nat):Int):=by decide +kernel
theorem j9h (x:Nat):D0 .or .u8 (IntKind.u8.wrap (x:Int)) 128=((x % 128+128:Nat):Int):=by
 have h:=j9g ⟨x % 256,Nat.mod_lt _ (by decide)⟩
 have e:IntKind.u8.wrap (x:Int)=((x % 256:Nat):Int):=by rw[q0h];omega
 rw[e]
 have h:D0 .or .u8 ((x % 256:Nat):Int) 128=((x % 256 % 128+128:Nat):Int):=h
 rw[h]
 congr 2
 omega
theorem y38 (x:Nat):O7 .u64 (x:Int) 7=((x / 128:Nat):Int):=by
 show Int.fdiv (x:Int) (2^(min (7:Int).toNat 64))=_
 rw[show(2:Int)^(min (7:Int).toNat 64)=128 by decide,Int.fdiv_eq_ediv_of_nonneg _ (by decide)]
 omega
theorem z8r:∀ (k x:Nat) (acc:List Int),x<128^(k+1)->acc.length+k<=1000->∃ z l,A3 q57 ((x:Int),acc,())=some (.inl (z,l,()))/\l++[IntKind.u8.wrap z]=acc++leb x/\l.length<=acc.length+k
 | 0,x,acc,hx,ha=>by
  have hx:x<128:=by simpa using hx
  refine⟨(x:Int),acc,C0 (by
   unfold q57
   simp only[dcF (show ¬ (x:Int)≥128 by omega),cond_false]),?_,by omega⟩
  rw[X4 hx,q0h,show(x:Int) % 256=x by omega]
 | k+1,x,acc,hx,ha=>by
  by_cases h:x<128
  ·refine⟨(x:Int),acc,C0 (by
    unfold q57
    simp only[dcF (show ¬ (x:Int)≥128 by omega),cond_false]),?_,by omega⟩
   rw[X4 h,q0h,show(x:Int) % 256=x by omega]
  ·have hd:x / 128<128^(k+1):=by
    rw[Nat.pow_succ]at hx
    exact Nat.div_lt_of_lt_mul (by rw[Nat.mul_comm];exact hx)
   obtain⟨z,l,h1,h2,h3⟩:=z8r k (x / 128) (acc++[((x % 128+128:Nat):Int)]) hd (by rw[List.length_append,List.length_singleton];omega)
   refine⟨z,l,?_,?_,by rw[List.length_append,List.length_singleton]at h3;omega⟩
   ·rw[H4 (s':=(((x / 128:Nat):Int),acc++[((x % 128+128:Nat):Int)],())) (by
     unfold q57
     simp only[dcT (show(x:Int)≥128 by omega),cond_true,j9h,y38]
     rw[O5 (show acc.length+([((x % 128+128:Nat):Int)]:List Int).length<=140737488355328 by simp;omega) (show(acc.length+([((x % 128+128:Nat):Int)]:List Int).length)*1<=140737488355328 by simp;omega)]
     rfl)]
    exact h1
   ·rw[h2,q28 h,List.append_assoc];rfl
theorem z9q:∀ (k x:Nat) (acc:List Int),x<128^(k+1)->x<18446744073709551616->acc.length+k<=1000->∃ z l,A3 q4s ((x:Int),acc,())=some (.inl (z,l,()))/\l++[IntKind.u8.wrap z]=acc++leb x/\l.length<=acc.length+k
 | 0,x,acc,hx,_,ha=>by
  have hx:x<128:=by simpa using hx
  refine⟨(x:Int),acc,C0 (by
   unfold q4s
   simp only[dcF (show ¬ (x:Int)>127 by omega),cond_false]),?_,by omega⟩
  rw[X4 hx,q0h,show(x:Int) % 256=x by omega]
 | k+1,x,acc,hx,hx2,ha=>by
  by_cases h:x<128
  ·refine⟨(x:Int),acc,C0 (by
    unfold q4s
    simp only[dcF (show ¬ (x:Int)>127 by omega),cond_false]),?_,by omega⟩
   rw[X4 h,q0h,show(x:Int) % 256=x by omega]
  ·have hd:x / 128<128^(k+1):=by
    rw[Nat.pow_succ]at hx
    exact Nat.div_lt_of_lt_mul (by rw[Nat.mul_comm];exact hx)
   obtain⟨z,l,h1,h2,h3⟩:=z9q k (x / 128) (acc++[((x % 128+128:Nat):Int)]) hd (by omega) (by rw[List.length_append,List.length_singleton];omega)
   refine⟨z,l,?_,?_,by rw[List.length_append,List.length_singleton]at h3;omega⟩
   ·have e1:IntKind.u8.wrap (IntKind.u64.wrap ((x:Int).tmod 128+128))=((x % 128+128:Nat):Int):=by
     rw[q0h,M3,Int.tmod_eq_emod_of_nonneg (by omega)]
     omega
    have e2:IntKind.u64.wrap ((x:Int).tdiv 128)=((x / 128:Nat):Int):=by
     rw[M3,Int.tdiv_eq_ediv_of_nonneg (by omega)]
     omega
    rw[H4 (s':=(((x / 128:Nat):Int),acc++[((x % 128+128:Nat):Int)],())) (by
     unfold q4s
     simp only[dcT (show(x:Int)>127 by omega),cond_true,e1,e2]
     rw[O5 (show acc.length+([((x % 128+128:Nat):Int)]:List Int).length<=140737488355328 by simp;omega) (show(acc.length+([((x % 128+128:Nat):Int)]:List Int).length)*1<=140737488355328 by simp;omega)]
     rfl)]
    exact h1
   ·rw[h2,q28 h,List.append_assoc];rfl
def I64 (n:Int):Prop:=-9223372036854775808<=n/\n<=9223372036854775807
def E1 (n:Int):List Int:=leb (zz n).toNat
theorem xor_zero (a:Int):D0 .xor .u64 (IntKind.u64.wrap a) 0=IntKind.u64.wrap a:=by
 show IntKind.u64.wrap ((BitVec.ofInt 64 (IntKind.u64.wrap a) ^^^ BitVec.ofInt 64 0).toNat:Int)=_
 rw[show BitVec.ofInt 64 0=0#64 from rfl,BitVec.xor_zero,BitVec.toNat_ofInt,M3,M3]
 omega
theorem y4u (a:Int):D0 .xor .u64 (IntKind.u64.wrap a) 18446744073709551615=18446744073709551615-IntKind.u64.wrap a:=by
 show IntKind.u64.wrap ((BitVec.ofInt 64 (IntKind.u64.wrap a) ^^^ BitVec.ofInt 64 18446744073709551615).toNat:Int)=_
 rw[show BitVec.ofInt 64 18446744073709551615=BitVec.allOnes 64 by decide,BitVec.xor_allOnes,BitVec.toNat_not,BitVec.toNat_ofInt,M3,M3]
 omega
theorem y4v (a:Int):D0 .xor .u64 18446744073709551615 (IntKind.u64.wrap a)=18446744073709551615-IntKind.u64.wrap a:=by
 show IntKind.u64.wrap ((BitVec.ofInt 64 18446744073709551615 ^^^ BitVec.ofInt 64 (IntKind.u64.wrap a)).toNat:Int)=_
 rw[show BitVec.ofInt 64 18446744073709551615=BitVec.allOnes 64 by decide,BitVec.allOnes_xor,BitVec.toNat_not,BitVec.toNat_ofInt,M3,M3]
 omega
theorem y34 (a:Int):N1 .u64 a 1=IntKind.u64.wrap (a*2):=by
 show IntKind.u64.wrap (a*2^(min (1:Int).toNat 64))=_
 rw[show(2:Int)^(min (1:Int).toNat 64)=2 by decide]
theorem y37 {n:Int} (h:I64 n):O7 .i64 n 63=if n<0 then -1 else 0:=by
 obtain⟨h1,h2⟩:=h
 show Int.fdiv n (2^(min (63:Int).toNat 64))=_
 rw[show(2:Int)^(min (63:Int).toNat 64)=9223372036854775808 by decide,Int.fdiv_eq_ediv_of_nonneg _ (by decide)]
 split<;>omega
theorem y4z {n:Int} (h:I64 n):D0 .xor .u64 (N1 .u64 (IntKind.u64.wrap n) 1) (IntKind.u64.wrap (O7 .i64 n 63))=zz n:=by
 rw[y34,y37 h]
 obtain⟨h1,h2⟩:=h
 unfold zz
 split
 ·rw[show IntKind.u64.wrap (-1)=18446744073709551615 by decide,y4u,M3,M3]
  omega
 ·rw[show IntKind.u64.wrap 0=0 by decide,xor_zero,M3,M3]
  omega
theorem y51 {n:Int} (h:I64 n):IntKind.u64.wrap (IntKind.u64.wrap n*2)=if n<0 then 18446744073709551615-zz n else zz n:=by
 obtain⟨h1,h2⟩:=h
 unfold zz
 rw[M3,M3]
 split<;>omega
theorem q1f {n:Int} (h:I64 n):zz n=((zz n).toNat:Int)/\(zz n).toNat<18446744073709551616:=by
 obtain⟨h1,h2⟩:=h
 unfold zz
 split<;>omega
theorem z3u {n:Int} (h:I64 n):Y6 (n,())=some (E1 n,()):=by
 obtain⟨h1,h2⟩:=q1f h
 obtain⟨z,l,e1,e2,e3⟩:=z8r 9 (zz n).toNat [] (Nat.lt_of_lt_of_le h2 (by decide)) (by simp)
 unfold Y6
 simp only[y4z h]
 rw[h1,e1]
 simp only[Option.bind_some,Sum.elim_inl]
 rw[List.length_nil]at e3
 rw[O5 (show l.length+([IntKind.u8.wrap z]:List Int).length<=140737488355328 by simp;omega) (show(l.length+([IntKind.u8.wrap z]:List Int).length)*1<=140737488355328 by simp;omega),e2]
 rfl
theorem y0d {n:Int} (h:I64 n):q4r (n,())=some (E1 n,()):=by
 obtain⟨h1,h2⟩:=q1f h
 obtain⟨z,l,e1,e2,e3⟩:=z9q 9 (zz n).toNat [] (Nat.lt_of_lt_of_le h2 (by decide)) h2 (by simp)
 have hz:=y51 h
 unfold q4r
 have hx:(((cond (decide (n<(0:Int))) (some (Sum.inl ((D0 .xor .u64 (if IntKind.u64.signed then -1 else IntKind.u64.max) (IntKind.u64.wrap ((IntKind.u64.wrap n)*(2:Int)))),()))) (some (Sum.inl ((IntKind.u64.wrap ((IntKind.u64.wrap n)*(2:Int))),())))):Option ((Int×Unit)⊕Empty)))=some (.inl (zz n,())):=by
  have hm:(if IntKind.u64.signed then(-1:Int)else IntKind.u64.max)=18446744073709551615:=by decide
  by_cases hn:n<0
  ·rw[dcT hn,cond_true,hm,y4v,hz,if_pos hn,show(18446744073709551615-(18446744073709551615-zz n))=zz n by omega]
  ·rw[dcF hn,cond_false,hz,if_neg hn]
 rw[hx]
 simp only[Option.bind_some,Sum.elim_inl]
 rw[h1,e1]
 simp only[Option.bind_some,Sum.elim_inl]
 rw[List.length_nil]at e3
 rw[O5 (show l.length+([IntKind.u8.wrap z]:List Int).length<=140737488355328 by simp;omega) (show(l.length+([IntKind.u8.wrap z]:List Int).length)*1<=140737488355328 by simp;omega),e2]
 rfl
def B8 (n:Int):Prop:=0<=n/\n<=255
theorem z7v:∀ (k x:Nat),x<128^(k+1)->(∀ b∈leb x,B8 b)/\(leb x).length<=k+1
 | 0,x,hx=>by
  have hx:x<128:=by simpa using hx
  rw[X4 hx]
  exact⟨fun b hb=>by rw[List.mem_singleton.1 hb];unfold B8;omega,by simp⟩
 | k+1,x,hx=>by
  by_cases h:x<128
  ·rw[X4 h]
   exact⟨fun b hb=>by rw[List.mem_singleton.1 hb];unfold B8;omega,by simp⟩
  ·have hd:x / 128<128^(k+1):=by
    rw[Nat.pow_succ]at hx
    exact Nat.div_lt_of_lt_mul (by rw[Nat.mul_comm];exact hx)
   obtain⟨h1,h2⟩:=z7v k _ hd
   rw[q28 h]
   refine⟨fun b hb=>?_,by rw[List.length_cons];omega⟩
   rcases List.mem_cons.1 hb with e | hb
   ·rw[e];unfold B8;omega
   ·exact h1 b hb
theorem q07 {n:Int} (h:I64 n):(∀ b∈E1 n,B8 b)/\(E1 n).length<=10:=z7v 9 _ (Nat.lt_of_lt_of_le (q1f h).2 (by decide))
end

section
open Go Go.Abs

def ws:Nat->List Int->Int
 | _,[]=>0
 | k,b::l=>((k:Int)+1)*b+ws (k+1) l
theorem j3a (b:Int):∀ (l:List Int) (k:Nat),ws k (l++[b])=ws k l+((k:Int)+(l.length:Int)+1)*b
 | [],k=>by
  show((k:Int)+1)*b+0=0+((k:Int)+((0:Nat):Int)+1)*b
  rw[show(k:Int)+((0:Nat):Int)+1=(k:Int)+1 by omega];omega
 | a::l,k=>by
  rw[List.cons_append,ws,ws,j3a b l (k+1),List.length_cons,show(((k+1:Nat):Int)+(l.length:Int)+1)=((k:Int)+((l.length+1:Nat):Int)+1)by omega]
  omega
theorem j3b:∀ (l:List Int) (k:Nat),ws (k+1) l=ws k l+l.sum
 | [],_=>by rfl
 | b::l,k=>by
  rw[ws,ws,List.sum_cons,j3b l (k+1),show(((k+1:Nat):Int)+1)*b=((k:Int)+1)*b+b by rw[show(((k+1:Nat):Int)+1)=((k:Int)+1)+1 by omega,Int.add_mul,Int.one_mul]]
  omega
theorem z3y:∀ (l:List Int) (k:Nat),(∀ b∈l,B8 b)->0<=ws k l
 | [],_,_=>Int.le_refl _
 | b::l,k,h=>by
  have h1:=z3y l (k+1) fun x hx=>h x (List.mem_cons_of_mem _ hx)
  have h2:=(h b List.mem_cons_self).1
  have h3:0<=((k:Int)+1)*b:=Int.mul_nonneg (by omega) h2
  rw[ws];omega
theorem j2d:∀ (l:List Int),(∀ b∈l,B8 b)->0<=l.sum
 | [],_=>Int.le_refl _
 | b::l,h=>by
  have h1:=j2d l fun x hx=>h x (List.mem_cons_of_mem _ hx)
  have h2:=(h b List.mem_cons_self).1
  rw[List.sum_cons];omega
def G0 (l:List Int):Int:=ws 0 l % 65521
theorem q8v {b:Int} (h:B8 b):IntKind.i64.wrap b=b:=by obtain⟨h1,h2⟩:=h;exact D7 (by omega) (by omega)
theorem z3v {l:List Int} (hb:∀ b∈l,B8 b) (hl:l.length<=140737488355328):q30 (l,())=some (G0 l,()):=by
 have h:=O1 (f:=q8p (l,())) (s0:=((0:Int),(0:Int),IntKind.i64.wrap ((l.length:Int)-1),())) l.length (fun m=>((l.drop (l.length-m)).sum % 65521,ws 0 (l.drop (l.length-m)) % 65521,(l.length:Int)-1-(m:Int),())) (.inl (G0 l,())) (fun m hm=>by
  have hk:l.length-(m+1)<l.length:=by omega
  obtain⟨k,hkd⟩:∃ k,k=l.length-(m+1):=⟨_,rfl⟩
  have hk':k<l.length:=by omega
  have e1:l.length-m=k+1:=by omega
  have e2:(l.length:Int)-1-(m:Int)=(k:Int):=by omega
  have e3:(l.length:Int)-1-((m+1:Nat):Int)=(k:Int)-1:=by omega
  have hd:l.drop k=l[k]::l.drop (k+1):=List.drop_eq_getElem_cons hk'
  have hB:=hb _ (List.getElem_mem hk')
  have n1:=j2d (l.drop (k+1)) fun x hx=>hb x (List.mem_of_mem_drop hx)
  have n2:=z3y (l.drop (k+1)) 0 fun x hx=>hb x (List.mem_of_mem_drop hx)
  have hu:=j3b (l.drop (k+1)) 0
  have hw:ws 0 (l.drop k)=l[k]+(ws 0 (l.drop (k+1))+(l.drop (k+1)).sum):=by
   rw[hd,ws,hu]
   show((0:Nat)+1:Int)*l[k]+_=_
   rw[show(((0:Nat):Int)+1)=1 by decide,Int.one_mul]
  have hs:(l.drop k).sum=l[k]+(l.drop (k+1)).sum:=by rw[hd,List.sum_cons]
  rw[<-hkd,e1,e2,e3,hw,hs]
  generalize (l.drop (k+1)).sum=s at n1
  generalize ws 0 (l.drop (k+1))=a at n2
  obtain⟨b1,b2⟩:=hB
  unfold q8p
  simp only[dcT (show(k:Int)≥0 by omega),cond_true,I2,List.getElem?_eq_getElem hk',Option.bind_some,q8v (show B8 l[k]from⟨b1,b2⟩)]
  generalize l[k]=b at b1 b2
  have w1:IntKind.i64.wrap (s % 65521+b)=s % 65521+b:=D7 (by omega) (by omega)
  have t1:(s % 65521+b).tmod 65521=(b+s) % 65521:=by
   rw[Int.tmod_eq_emod_of_nonneg (by omega)];omega
  rw[w1,t1]
  have w2:IntKind.i64.wrap (a % 65521+(b+s) % 65521)=a % 65521+(b+s) % 65521:=D7 (by omega) (by omega)
  have t2:(a % 65521+(b+s) % 65521).tmod 65521=(b+(a+s)) % 65521:=by
   rw[Int.tmod_eq_emod_of_nonneg (by omega)];omega
  have w3:IntKind.i64.wrap ((k:Int)-1)=(k:Int)-1:=D7 (by omega) (by omega)
  rw[w2,t2,w3]) (by
  unfold q8p
  simp only[dcF (show ¬ (l.length:Int)-1-(l.length:Int)≥0 by omega),cond_false,Nat.sub_self,List.drop_zero];rfl) (by
  have w:IntKind.i64.wrap ((l.length:Int)-1)=(l.length:Int)-1:=D7 (by omega) (by omega)
  show(_,_,(l.length:Int)-1-((0:Nat):Int),())=_
  rw[w,Nat.sub_zero,List.drop_length,show(l.length:Int)-1-((0:Nat):Int)=(l.length:Int)-1 by omega];rfl)
 unfold q30
 rw[h];rfl
theorem z9t {l:List Int} (hb:∀ b∈l,B8 b) (hl:l.length<=140737488355328):q2l (l,())=some (G0 l,()):=by
 have h:=O1 (f:=q7t (l,())) (s0:=((0:Int),(0:Int),())) l.length (fun i=>(ws 0 (l.take i) % 65521,(i:Int),())) (.inl (G0 l,())) (fun i hi=>by
  have hB:=hb _ (List.getElem_mem hi)
  have n2:=z3y (l.take i) 0 fun x hx=>hb x (List.mem_of_mem_take hx)
  have hlen:(l.take i).length=i:=by rw[List.length_take];omega
  have hsn:ws 0 (l.take (i+1))=ws 0 (l.take i)+((i:Int)+1)*l[i]:=by
   rw[List.take_succ_eq_append_getElem hi,j3a,hlen,show(((0:Nat):Int)+(i:Int)+1)=(i:Int)+1 by omega]
  rw[hsn]
  unfold q7t
  simp only[dcT (show(i:Int)<(l.length:Int)by omega),cond_true,I2,List.getElem?_eq_getElem hi,Option.bind_some,q8v hB,G8 (show i<9223372036854775807 by omega)]
  generalize ws 0 (l.take i)=a at n2
  obtain⟨b1,b2⟩:=hB
  generalize l[i]=b at b1 b2
  have t0:(((i+1:Nat):Int)).tmod 65521=((i+1:Nat):Int) % 65521:=Int.tmod_eq_emod_of_nonneg (by omega)
  rw[t0]
  have m1:0<=((i+1:Nat):Int) % 65521:=Int.emod_nonneg _ (by decide)
  have m2:((i+1:Nat):Int) % 65521<=65520:=by omega
  have p1:0<=((i+1:Nat):Int) % 65521*b:=Int.mul_nonneg m1 b1
  have p2:((i+1:Nat):Int) % 65521*b<=65520*255:=Int.mul_le_mul m2 b2 b1 (by decide)
  have w1:IntKind.i64.wrap (((i+1:Nat):Int) % 65521*b)=((i+1:Nat):Int) % 65521*b:=D7 (by omega) (by omega)
  rw[w1]
  have w2:IntKind.i64.wrap (a % 65521+((i+1:Nat):Int) % 65521*b)=a % 65521+((i+1:Nat):Int) % 65521*b:=D7 (by omega) (by omega)
  rw[w2,Int.tmod_eq_emod_of_nonneg (by omega)]
  have e:(a % 65521+((i+1:Nat):Int) % 65521*b) % 65521=(a+((i:Int)+1)*b) % 65521:=by
   rw[Int.add_emod,Int.emod_emod_of_dvd _ (Int.dvd_refl _),Int.mul_emod,Int.emod_emod_of_dvd _ (Int.dvd_refl _),<-Int.mul_emod,<-Int.add_emod];rfl
  rw[e]) (by
  unfold q7t
  simp only[dcF (show ¬ (l.length:Int)<(l.length:Int)by omega),cond_false,List.take_length];rfl) rfl
 unfold q2l
 rw[h];rfl
theorem q8g {l:List Int}:0<=G0 l/\G0 l<65521:=by unfold G0;omega
end

section
open Go Go.Abs

def C5 (d:Df):List Int:=((d.1.length:Int)::d.1)++((d.2.1.length:Int)::d.2.1.flatMap fun r=>[r.1,r.2.1,r.2.2.1])
def H2 (h:List Df):List Int:=(h.length:Int)::h.flatMap C5
def B3 (l:List Int):List Int:=l.flatMap E1
theorem q0l (a b:List Int):B3 (a++b)=B3 a++B3 b:=by unfold B3;rw[List.flatMap_append]
theorem q1n:∀ {l:List Int},(∀ n∈l,I64 n)->(B3 l).length<=10*l.length
 | [],_=>Nat.le_refl _
 | n::l,h=>by
  have h1:=q1n fun m hm=>h m (List.mem_cons_of_mem _ hm)
  have h2:=(q07 (h n List.mem_cons_self)).2
  unfold B3 at h1 ⊢
  rw[List.flatMap_cons,List.length_append,List.length_cons];omega
theorem q5n {l:List Int} (h:∀ n∈l,I64 n):∀ b∈B3 l,B8 b:=fun b hb=>by
 obtain⟨n,hn,hb⟩:=List.mem_flatMap.1 hb
 exact(q07 (h n hn)).1 b hb
theorem q81 {n:Nat} (h:n<=100000000):C1 n 1=true:=O5 (by omega) (by omega)
abbrev NS:=List Int×Int×Unit
abbrev NR:=Option (NS⊕((List Int×Unit)⊕Empty))
theorem z2n {f:NS->NR} (L:List Int) (acc:List Int) (hL:∀ n∈L,I64 n)
  (hf:∀ (i:Nat) (hi:i<L.length) (b:List Int),b.length<=acc.length+10*L.length->f (b,(i:Int),())=some (.inl (b++E1 L[i],((i+1:Nat):Int),())))
  (he:∀ b:List Int,f (b,(L.length:Int),())=some (.inr (.inl (b,())))):A3 f (acc,(0:Int),())=some (.inl (acc++B3 L,())):=by
 refine O1 L.length (fun i=>(acc++B3 (L.take i),(i:Int),())) _ (fun i hi=>?_) ?_ (by simp[B3])
 ·have hlen:=q1n (l:=L.take i) fun n hn=>hL n (List.mem_of_mem_take hn)
  rw[List.length_take]at hlen
  rw[hf i hi _ (by rw[List.length_append];omega),List.take_succ_eq_append_getElem hi,q0l,List.append_assoc]
  simp[B3]
 ·rw[he,List.take_length]
theorem z2u (n:Int) (acc:List Int) (hn:I64 n) (ha:acc.length<=50000000) {f:NS->NR}
  (hf:f=fun y4=>(cond (decide (y4.2.1<(([n]:List Int).length:Int))) (cond (inB y4.2.1 ([n]:List Int).length) ((([n]:List Int)[y4.2.1.toNat]?).bind fun v5=>((Y6 (v5,())).bind fun r6=>(cond (true&&C1 (y4.1.length+r6.1.length) 1&&true&&true) (some (Sum.inl ((y4.1++r6.1),(IntKind.i64.wrap (y4.2.1+(1:Int))),()))) none))) none) (some (Sum.inr (Sum.inl (y4.1,())))))) :
  A3 f (acc,(0:Int),())=some (.inl (acc++E1 n,())):=by
 have h:=z2n (f:=f) [n] acc (fun m hm=>by rw[List.mem_singleton.1 hm];exact hn) (fun i hi b hb=>by
  have hi0:i=0:=by simpa using hi
  subst hi0
  have h2:=(q07 hn).2
  subst hf
  simp only[show decide (((0:Nat):Int)<(([n]:List Int).length:Int))=true from rfl,cond_true,show inB ((0:Nat):Int) ([n]:List Int).length=true from rfl,show([n]:List Int)[((0:Nat):Int).toNat]? = some n from rfl,Option.bind_some,z3u hn]
  rw[q81 (by simp at hb;omega)]
  rfl) (fun b=>by subst hf;rfl)
 rw[h]
 simp[B3]
theorem j9u (v:Rw) (acc:List Int) (h1:I64 v.1) (h2:I64 v.2.1) (h3:I64 v.2.2.1) (ha:acc.length<=50000000) :
  A3 (q8s v) (acc,(0:Int),())=some (.inl (acc++B3 [v.1,v.2.1,v.2.2.1],())) :=
 z2n [v.1,v.2.1,v.2.2.1] acc (fun m hm=>by
  simp at hm
  rcases hm with rfl | rfl | rfl<;>assumption) (fun i hi b hb=>by
  have hm:I64 ([v.1,v.2.1,v.2.2.1]:List Int)[i]:=by
   have hm:=List.getElem_mem hi
   generalize ([v.1,v.2.1,v.2.2.1]:List Int)[i]=y at hm
   rcases List.mem_cons.1 hm with e | hm
   ·rw[e];exact h1
   ·rcases List.mem_cons.1 hm with e | hm
    ·rw[e];exact h2
    ·rw[List.mem_singleton.1 hm];exact h3
  have hl:=(q07 hm).2
  unfold q8s
  simp only[dcT (show(i:Int)<(([v.1,v.2.1,v.2.2.1]:List Int).length:Int)by omega),cond_true,Q4 hi,Int.toNat_natCast,List.getElem?_eq_getElem hi,Option.bind_some,z3u hm,G8 (show i<9223372036854775807 by simp at hi;omega)]
  rw[q81 (by simp at hb;omega)]
  rfl) (fun b=>by
  unfold q8s
  simp only[dcF (show ¬ ((([v.1,v.2.1,v.2.2.1]:List Int).length:Int))<(([v.1,v.2.1,v.2.2.1]:List Int).length:Int)by omega),cond_false])
theorem j9w (v:Df) (acc:List Int) (h:∀ n∈v.1,I64 n) (hl:v.1.length<=1000) (ha:acc.length<=50000000):A3 (q8r v) (acc,(0:Int),())=some (.inl (acc++B3 v.1,())) :=
 z2n v.1 acc h (fun i hi b hb=>by
  have hm:=h _ (List.getElem_mem hi)
  have hl2:=(q07 hm).2
  unfold q8r
  simp only[dcT (show(i:Int)<(v.1.length:Int)by omega),cond_true,I2,List.getElem?_eq_getElem hi,Option.bind_some,z3u hm,G8 (show i<9223372036854775807 by omega)]
  rw[q81 (by omega)]
  rfl) (fun b=>by
  unfold q8r
  simp only[dcF (show ¬ (v.1.length:Int)<(v.1.length:Int)by omega),cond_false])
def H7 (r:Rw):List Int:=[r.1,r.2.1,r.2.2.1]
structure RowOK (r:Rw):Prop where
 k:I64 r.1
 v:I64 r.2.1
 n:I64 r.2.2.1
theorem j03 {l:List Rw} (h:∀ r∈l,RowOK r):∀ n∈l.flatMap H7,I64 n:=fun n hn=>by
 obtain⟨r,hr,hn⟩:=List.mem_flatMap.1 hn
 have:=h r hr
 unfold H7 at hn
 simp at hn
 rcases hn with rfl | rfl | rfl
 ·exact this.k
 ·exact this.v
 ·exact this.n
theorem z36 (l:List Rw):(l.flatMap H7).length=3*l.length:=by
 induction l with
 | nil=>rfl
 | cons r l ih=>rw[List.flatMap_cons,List.length_append,ih,List.length_cons];simp[H7];omega
theorem j9v (v:Df) (acc:List Int) (h:∀ r∈v.2.1,RowOK r) (hl:v.2.1.length<=1000) (ha:acc.length<=40000000):A3 (q8t v) (acc,(0:Int),())=some (.inl (acc++B3 (v.2.1.flatMap H7),())):=by
 refine O1 v.2.1.length (fun i=>(acc++B3 ((v.2.1.take i).flatMap H7),(i:Int),())) _ (fun i hi=>?_) ?_ (by simp[B3])
 ·have hm:=h _ (List.getElem_mem hi)
  have hlen:=q1n (j03 (l:=v.2.1.take i) fun r hr=>h r (List.mem_of_mem_take hr))
  rw[z36,List.length_take]at hlen
  unfold q8t
  simp only[dcT (show(i:Int)<(v.2.1.length:Int)by omega),cond_true,I2,List.getElem?_eq_getElem hi,Option.bind_some,G8 (show i<9223372036854775807 by omega)]
  rw[j9u _ _ hm.k hm.v hm.n (by rw[List.length_append];omega)]
  simp only[Option.bind_some,Sum.elim_inl]
  rw[List.take_succ_eq_append_getElem hi,List.flatMap_append,q0l,List.append_assoc]
  simp[H7]
 ·unfold q8t
  simp only[dcF (show ¬ (v.2.1.length:Int)<(v.2.1.length:Int)by omega),cond_false,List.take_length]
structure PutOK (h:List Df):Prop where
 len:h.length<=64
 num:D1 h<=128
 dim:∀ d∈h,d.1.length<=4
 time:∀ d∈h,∀ n∈d.1,I64 n
 rows:∀ d∈h,∀ r∈d.2.1,RowOK r
theorem Q9 {n:Nat} (h:n<=1000000):I64 (n:Int):=⟨by omega,by omega⟩
theorem S9 (d:Df):C5 d=([(d.1.length:Int)]++d.1)++([(d.2.1.length:Int)]++d.2.1.flatMap H7):=rfl
theorem z8t {h:List Df} (p:PutOK h) {d:Df} (hd:d∈h):(∀ n∈C5 d,I64 n)/\(C5 d).length<=400:=by
 have h1:=p.dim d hd
 have h2:=q43 hd
 have h3:=p.num
 constructor
 ·intro n hn
  rw[S9,List.mem_append,List.mem_append,List.mem_append]at hn
  rcases hn with(hn | hn) | (hn | hn)
  ·rw[List.mem_singleton.1 hn];exact Q9 (by omega)
  ·exact p.time d hd n hn
  ·rw[List.mem_singleton.1 hn];exact Q9 (by omega)
  ·exact j03 (p.rows d hd) n hn
 ·rw[S9,List.length_append,List.length_append,List.length_append,z36,List.length_singleton,List.length_singleton];omega
theorem z2m:∀ {h:List Df},(∀ d∈h,(∀ n∈C5 d,I64 n)/\(C5 d).length<=400)->(∀ n∈h.flatMap C5,I64 n)/\(h.flatMap C5).length<=400*h.length
 | [],_=>⟨fun n hn=>(by cases hn),Nat.le_refl _⟩
 | d::h,hp=>by
  obtain⟨h1,h2⟩:=z2m (h:=h) fun e he=>hp e (List.mem_cons_of_mem _ he)
  obtain⟨h3,h4⟩:=hp d List.mem_cons_self
  rw[List.flatMap_cons]
  refine⟨fun n hn=>(List.mem_append.1 hn).elim (h3 n) (h1 n),?_⟩
  rw[List.length_append,List.length_cons];omega
theorem j55 {h:List Df} (p:PutOK h) (acc:List Int) (ha:acc.length<=1000):A3 (q8u (h,())) (acc,(0:Int),())=some (.inl (acc++B3 (h.flatMap C5),())):=by
 have p1:=p.len
 refine O1 h.length (fun i=>(acc++B3 ((h.take i).flatMap C5),(i:Int),())) _ (fun i hi=>?_) ?_ (by simp[B3])
 ·have hd:=List.getElem_mem hi
  have h1:=p.dim _ hd
  have h2:=q43 hd
  have h3:=p.num
  obtain⟨q1,q2⟩:=z2m (h:=h.take i) fun d hd=>z8t p (List.mem_of_mem_take hd)
  have hlen:=q1n q1
  rw[List.length_take]at q2
  generalize hA:acc++B3 ((h.take i).flatMap C5)=A
  have hAl:A.length<=1000000:=by rw[<-hA,List.length_append];omega
  have b1:=(q07 (Q9 (n:=h[i].1.length) (by omega))).2
  have b2:=(q07 (Q9 (n:=h[i].2.1.length) (by omega))).2
  have b3:=q1n (p.time _ hd)
  unfold q8u
  simp only[dcT (show(i:Int)<(h.length:Int)by omega),cond_true,I2,List.getElem?_eq_getElem hi,Option.bind_some,G8 (show i<9223372036854775807 by omega)]
  rw[z2u (h[i].1.length:Int) A (Q9 (by omega)) (by omega) (f:=j36 h[i]) rfl]
  simp only[Option.bind_some,Sum.elim_inl]
  rw[j9w _ _ (p.time _ hd) (by omega) (by rw[List.length_append];omega)]
  simp only[Option.bind_some,Sum.elim_inl]
  rw[z2u (h[i].2.1.length:Int) _ (Q9 (by omega)) (by rw[List.length_append,List.length_append];omega) (f:=j37 h[i]) rfl]
  simp only[Option.bind_some,Sum.elim_inl]
  rw[j9v _ _ (p.rows _ hd) (by omega) (by rw[List.length_append,List.length_append,List.length_append];omega)]
  simp only[Option.bind_some,Sum.elim_inl]
  rw[List.take_succ_eq_append_getElem hi,List.flatMap_append,q0l,<-List.append_assoc,hA]
  have e:B3 ([h[i]].flatMap C5)=E1 (h[i].1.length:Int)++B3 h[i].1++E1 (h[i].2.1.length:Int)++B3 (h[i].2.1.flatMap H7):=by
   rw[List.flatMap_singleton,S9,q0l,q0l,q0l]
   simp[B3]
  rw[e]
  simp only[List.append_assoc]
 ·unfold q8u
  simp only[dcF (show ¬ (h.length:Int)<(h.length:Int)by omega),cond_false,List.take_length]
def q1d (h:List Df):List Int:=B3 (H2 h)++[G0 (B3 (H2 h)) % 256,G0 (B3 (H2 h)) / 256]
theorem z2l {h:List Df} (p:PutOK h):(∀ n∈H2 h,I64 n)/\(H2 h).length<=30000:=by
 have p1:=p.len
 obtain⟨q1,q2⟩:=z2m (h:=h) fun d hd=>z8t p hd
 refine⟨fun n hn=>?_,by unfold H2;rw[List.length_cons];omega⟩
 rcases List.mem_cons.1 hn with e | hn
 ·rw[e];exact Q9 (by omega)
 ·exact q1 n hn
theorem j38 {h:List Df} (p:PutOK h):q8q (h,())=some (q1d h,()):=by
 have p1:=p.len
 obtain⟨q1,q2⟩:=z2l p
 have b1:=(q07 (Q9 (n:=h.length) (by omega))).2
 have hlen:=q1n q1
 unfold q8q
 rw[z2u (h.length:Int) [] (Q9 (by omega)) (by simp) (f:=j35 (h,())) rfl]
 simp only[Option.bind_some,Sum.elim_inl,List.nil_append]
 rw[j55 p _ (by omega)]
 simp only[Option.bind_some,Sum.elim_inl]
 have e:E1 (h.length:Int)++B3 (h.flatMap C5)=B3 (H2 h):=by
  unfold H2 B3
  rw[List.flatMap_cons]
 rw[e,z3v (q5n q1) (by omega)]
 obtain⟨s1,s2⟩:=q8g (l:=B3 (H2 h))
 have e1:IntKind.u8.wrap (G0 (B3 (H2 h)))=G0 (B3 (H2 h)) % 256:=q0h _
 have e2:IntKind.u8.wrap (O7 .i64 (G0 (B3 (H2 h))) 8)=G0 (B3 (H2 h)) / 256:=by
  show IntKind.u8.wrap (Int.fdiv (G0 (B3 (H2 h))) (2^(min (8:Int).toNat 64)))=_
  rw[show(2:Int)^(min (8:Int).toNat 64)=256 by decide,Int.fdiv_eq_ediv_of_nonneg _ (by decide),q0h]
  omega
 simp only[Option.bind_some,e1,e2]
 rw[q81 (by simp only[List.length_cons,List.length_nil];omega)]
 rfl
end

section
open Go Go.Abs

theorem j4k:∀ a:Fin 256,IntKind.u64.wrap (D0 .and .u8 ((a.1:Nat):Int) 127)=((a.1 % 128:Nat):Int):=by decide +kernel
theorem j4m {c:Nat} (h:c<256):IntKind.u64.wrap (D0 .and .u8 (c:Int) 127)=((c % 128:Nat):Int):=j4k ⟨c,h⟩
theorem j53 (op:BinOp) (a b:Int):I64 (D0 op .i64 a b):=by
 have:∃ x,D0 op .i64 a b=IntKind.i64.wrap x:=by unfold D0;cases op<;>exact⟨_,rfl⟩
 obtain⟨x,hx⟩:=this
 rw[hx]
 unfold I64
 rw[IntKind.wrap_i64]
 omega
theorem y4s (a:Int):D0 .xor .i64 a 0=IntKind.i64.wrap a:=by
 show IntKind.i64.wrap ((BitVec.ofInt 64 a ^^^ BitVec.ofInt 64 0).toNat:Int)=_
 rw[show BitVec.ofInt 64 0=0#64 from rfl,BitVec.xor_zero,BitVec.toNat_ofInt,IntKind.wrap_i64,IntKind.wrap_i64]
 omega
theorem y4t (a:Int):D0 .xor .i64 a (-1)=IntKind.i64.wrap (-1-a):=by
 show IntKind.i64.wrap ((BitVec.ofInt 64 a ^^^ BitVec.ofInt 64 (-1)).toNat:Int)=_
 rw[show BitVec.ofInt 64 (-1)=BitVec.allOnes 64 by decide,BitVec.xor_allOnes,BitVec.toNat_not,BitVec.toNat_ofInt,IntKind.wrap_i64,IntKind.wrap_i64]
 omega
theorem y36 (x:Nat):O7 .u64 (x:Int) 1=((x / 2:Nat):Int):=by
 show Int.fdiv (x:Int) (2^(min (1:Int).toNat 64))=_
 rw[show(2:Int)^(min (1:Int).toNat 64)=2 by decide,Int.fdiv_eq_ediv_of_nonneg _ (by decide)]
 omega
theorem j4l {x:Nat} (h:x<18446744073709551616):D0 .and .u64 (x:Int) 1=((x % 2:Nat):Int):=by
 rw[show(1:Int)=((1:Nat):Int)from rfl,j4n h (by decide),Nat.and_one_is_mod]
theorem unz {n:Int} (h:I64 n):D0 .xor .i64 (IntKind.i64.wrap (O7 .u64 (zz n) 1)) (IntKind.i64.wrap (0-IntKind.i64.wrap (D0 .and .u64 (zz n) 1)))=n:=by
 obtain⟨h1,h2⟩:=q1f h
 rw[h1,y36,j4l h2]
 have hw:zz n=if n<0 then -2*n-1 else 2*n:=rfl
 obtain⟨l1,l2⟩:=h
 by_cases hn:n<0
 ·rw[if_pos hn]at hw
  have e1:(((zz n).toNat % 2:Nat):Int)=1:=by omega
  have e2:(((zz n).toNat / 2:Nat):Int)=-n-1:=by omega
  rw[e1,e2,show IntKind.i64.wrap (0-IntKind.i64.wrap 1)=-1 by decide,y4t,D7 (x:=-n-1) (by omega) (by omega),D7 (by omega) (by omega)]
  omega
 ·rw[if_neg hn]at hw
  have e1:(((zz n).toNat % 2:Nat):Int)=0:=by omega
  have e2:(((zz n).toNat / 2:Nat):Int)=n:=by omega
  rw[e1,e2,show IntKind.i64.wrap (0-IntKind.i64.wrap 0)=0 by decide,y4s,y4r,D7 (by omega) (by omega)]
theorem y35 {i d:Nat} (hi:i<=9) (h:d*128^i<18446744073709551616):N1 .u64 (d:Int) (IntKind.i64.wrap (7*(i:Int)))=((d*128^i:Nat):Int):=by
 rw[D7 (by omega) (by omega)]
 show IntKind.u64.wrap ((d:Int)*2^(min (7*(i:Int)).toNat 64))=_
 have e:min (7*(i:Int)).toNat 64=7*i:=by omega
 have e2:∀ j:Fin 10,(2:Int)^(7*j.1)=((128^j.1:Nat):Int):=by decide
 have e3:(2:Int)^(7*i)=((128^i:Nat):Int):=e2 ⟨i,by omega⟩
 rw[e,e3,<-Int.natCast_mul,z3x h]
theorem j9j {i d x:Nat} (hx:x<128^i) (h:x+d*128^i<18446744073709551616):D0 .or .u64 (x:Int) ((d*128^i:Nat):Int)=((x+d*128^i:Nat):Int):=by
 rw[j9k (by omega) (by omega)]
 congr 1
 have e:(128:Nat)^i=2^(7*i):=by rw[Nat.pow_mul]
 rw[e]at hx ⊢
 have:=Nat.shiftLeft_add_eq_or_of_lt hx d
 rw[Nat.shiftLeft_eq]at this
 rw[Nat.or_comm,<-this];omega
abbrev RS:=Int×Int×Int×(List Int×Unit)×Unit
abbrev RO:=(Int×(List Int×Unit)×Unit)⊕(Int×(List Int×Unit)×Unit)⊕Empty
theorem z9f {n:Int} (hn:I64 n) (b r:List Int) (k i:Nat) (hi:i+k=9) (_:i=0\/128^i<=(zz n).toNat) (hd:b.drop i=leb ((zz n).toNat / 128^i)++r) (u:Int)
  (next:b.drop (i+1)=leb ((zz n).toNat / 128^(i+1))++r->128^(i+1)<=(zz n).toNat->A3 H9 (u,(((zz n).toNat % 128^(i+1):Nat):Int),((i+1:Nat):Int),(b,()),())=some (.inl ((n,(r,()),()):Int×(List Int×Unit)×Unit))) :
  A3 H9 (u,(((zz n).toNat % 128^i:Nat):Int),(i:Int),(b,()),())=some (.inl ((n,(r,()),()):Int×(List Int×Unit)×Unit)):=by
 have hz:=q1f hn
 generalize hq:(zz n).toNat / 128^i=q at hd
 generalize hx:(zz n).toNat % 128^i=x
 have hp:0<128^i:=Nat.pow_pos (by decide)
 have hxl:x<128^i:=by rw[<-hx];exact Nat.mod_lt _ hp
 have hZ:(zz n).toNat=x+q*128^i:=by rw[<-hx,<-hq,Nat.mul_comm];exact(Nat.mod_add_div _ _).symm
 have hlen:i<b.length:=by
  apply Nat.lt_of_not_le
  intro h
  rw[List.drop_eq_nil_of_le h]at hd
  have:=congrArg List.length hd
  rw[List.length_append]at this
  have h1:(leb q).length≠0:=by rw[leb];split<;>simp
  simp at this
  omega
 have hqd:x+q % 128*128^i<18446744073709551616:=by
  have:q % 128*128^i<=q*128^i:=Nat.mul_le_mul_right _ (Nat.mod_le _ _)
  omega
 have hhead:∀ (c:Int) (t:List Int),b.drop i=c::t->A9 b (i:Int)=some c/\b.drop (i+1)=t:=fun c t h=>by
  rw[I2]
  have h1:b[i]? = (b.drop i)[0]?:=by simp
  refine⟨by rw[h1,h];rfl,?_⟩
  rw[<-List.drop_drop,h];rfl
 have core:∀ c:Nat,c<256->c % 128=q % 128->D0 .or .u64 (x:Int) (N1 .u64 (IntKind.u64.wrap (D0 .and .u8 (c:Int) 127)) (IntKind.i64.wrap (7*(i:Int))))=((x+q % 128*128^i:Nat):Int):=fun c hc hcq=>by
  rw[j4m hc,hcq,y35 (by omega) (by omega),j9j hxl hqd]
 by_cases hlt:q<128
 ·rw[X4 hlt]at hd
  obtain⟨g1,g2⟩:=hhead _ _ hd
  have hc:=core q (by omega) rfl
  rw[Nat.mod_eq_of_lt hlt,<-hZ,<-hz.1]at hc
  rw[C0 (b:=.inl ((n,(r,()),()):Int×(List Int×Unit)×Unit)) (by
   unfold H9
   have e1:IntKind.i64.wrap ((i:Int)+1)=((i+1:Nat):Int):=by rw[D7 (by omega) (by omega)];omega
   simp only[dcT (show(i:Int)<(b.length:Int)by omega),dcT (show(i:Int)<10 by omega),cond_true,g1,Option.bind_some,dcF (show ¬ IntKind.i64.wrap (7*(i:Int))<0 by rw[D7 (by omega) (by omega)];omega),cond_false,dcT (show(q:Int)<128 by omega),e1,dcT (show(0:Int)<=((i+1:Nat):Int)by omega),dcT (show((i+1:Nat):Int)<=(b.length:Int)by omega),dcT (show(b.length:Int)<=(b.length:Int)by omega),Bool.and_self,hc,unz hn]
   rw[Int.toNat_natCast,Int.toNat_natCast,List.take_of_length_le (by rw[List.length_drop];omega),g2]
   rfl)]
 ·rw[q28 hlt]at hd
  obtain⟨g1,g2⟩:=hhead _ _ hd
  have hc:=core (q % 128+128) (by omega) (by omega)
  have hq2:(zz n).toNat / 128^(i+1)=q / 128:=by rw[Nat.pow_succ,<-Nat.div_div_eq_div_mul,hq]
  have hx2:(zz n).toNat % 128^(i+1)=x+q % 128*128^i:=by
   have:(zz n).toNat=(x+q % 128*128^i)+128^(i+1)*(q / 128):=by
    rw[hZ,Nat.pow_succ]
    have:=Nat.div_add_mod q 128
    generalize q / 128=s at *
    generalize q % 128=d at *
    rw[<-this,Nat.add_mul,Nat.mul_assoc]
    generalize 128^i=p
    have e:128*(s*p)=p*128*s:=by rw[Nat.mul_comm p 128,Nat.mul_assoc,Nat.mul_comm p s]
    rw[e];omega
   rw[this,Nat.add_mul_mod_self_left,Nat.mod_eq_of_lt]
   have:x+q % 128*128^i<128^i*128:=by
    have h1:q % 128*128^i<=127*128^i:=Nat.mul_le_mul_right _ (by omega)
    omega
   rw[Nat.pow_succ];exact this
  rw[H4 (s':=((u,((x+q % 128*128^i:Nat):Int),((i+1:Nat):Int),(b,()),()):RS)) (by
   unfold H9
   have e1:IntKind.i64.wrap ((i:Int)+1)=((i+1:Nat):Int):=by rw[D7 (by omega) (by omega)];omega
   simp only[dcT (show(i:Int)<(b.length:Int)by omega),dcT (show(i:Int)<10 by omega),cond_true,g1,Option.bind_some,dcF (show ¬ IntKind.i64.wrap (7*(i:Int))<0 by rw[D7 (by omega) (by omega)];omega),cond_false,dcF (show ¬ ((q % 128+128:Nat):Int)<128 by omega),e1,hc])]
  rw[<-hx2]
  refine next (by rw[g2,hq2];rfl) ?_
  have:1<=(zz n).toNat / 128^(i+1):=by rw[hq2];omega
  exact(Nat.le_div_iff_mul_le (Nat.pow_pos (by decide))).1 this |> fun h=>by omega
theorem y01 {n:Int} (hn:I64 n) (b r:List Int):∀ (k i:Nat),i+k=9->(i=0\/128^i<=(zz n).toNat)->b.drop i=leb ((zz n).toNat / 128^i)++r->∀ u,A3 H9 (u,(((zz n).toNat % 128^i:Nat):Int),(i:Int),(b,()),())=some (.inl ((n,(r,()),()):Int×(List Int×Unit)×Unit)):=by
 have hz:=q1f hn
 intro k
 induction k with
 | zero =>
  intro i hi h0 hd u
  refine z9f hn b r 0 i hi h0 hd u fun _ h=>?_
  exfalso
  have:(128:Nat)^(i+1)=128^10:=by rw[show i=9 by omega]
  rw[this]at h
  have:=hz.2
  omega
 | succ k ih=>exact fun i hi h0 hd u=>z9f hn b r (k+1) i hi h0 hd u fun h1 h2=>ih (i+1) (by omega) (.inr h2) h1 u
theorem q0y {n:Int} (hn:I64 n) (r:List Int) (u:Int):A3 H9 (u,0,0,(E1 n++r,()),())=some (.inl ((n,(r,()),()):Int×(List Int×Unit)×Unit)):=by
 have:=y01 hn (E1 n++r) r 9 0 rfl (.inl rfl) (by simp[E1]) u
 simpa[Nat.mod_one]using this
theorem y00 (b:List Int) (_:b.length<=100000):∀ (k i:Nat),i+k=10->∀ (u x:Int),
  (∃ v j,A3 H9 (u,x,(i:Int),(b,()),())=some (.inl ((v,(b.drop (j+1),()),()):Int×(List Int×Unit)×Unit))/\I64 v/\j<b.length) \/
  A3 H9 (u,x,(i:Int),(b,()),())=some (.inr (.inl ((u,(b,()),()):Int×(List Int×Unit)×Unit))):=by
 intro k
 induction k with
 | zero =>
  intro i hi u x
  right
  refine C0 ?_
  unfold H9
  by_cases h:i<b.length
  ·simp only[dcT (show(i:Int)<(b.length:Int)by omega),dcF (show ¬ (i:Int)<10 by omega),cond_true,cond_false]
  ·simp only[dcF (show ¬ (i:Int)<(b.length:Int)by omega),cond_false]
 | succ k ih =>
  intro i hi u x
  have e1:IntKind.i64.wrap ((i:Int)+1)=((i+1:Nat):Int):=by rw[D7 (by omega) (by omega)];omega
  by_cases h:i<b.length
  ·by_cases hc:b[i]<128
   ·left
    refine⟨_,i,C0 (by
     unfold H9
     simp only[dcT (show(i:Int)<(b.length:Int)by omega),dcT (show(i:Int)<10 by omega),cond_true,J5 h,Option.bind_some,dcF (show ¬ IntKind.i64.wrap (7*(i:Int))<0 by rw[D7 (by omega) (by omega)];omega),cond_false,dcT hc,e1,dcT (show(0:Int)<=((i+1:Nat):Int)by omega),dcT (show((i+1:Nat):Int)<=(b.length:Int)by omega),dcT (show(b.length:Int)<=(b.length:Int)by omega),Bool.and_self]
     rw[Int.toNat_natCast,Int.toNat_natCast,List.take_of_length_le (by rw[List.length_drop];omega)]),j53 _ _ _,h⟩
   ·rw[H4 (s':=((u,D0 .or .u64 x (N1 .u64 (IntKind.u64.wrap (D0 .and .u8 b[i] 127)) (IntKind.i64.wrap (7*(i:Int)))),((i+1:Nat):Int),(b,()),()):RS)) (by
     unfold H9
     simp only[dcT (show(i:Int)<(b.length:Int)by omega),dcT (show(i:Int)<10 by omega),cond_true,J5 h,Option.bind_some,dcF (show ¬ IntKind.i64.wrap (7*(i:Int))<0 by rw[D7 (by omega) (by omega)];omega),cond_false,dcF hc,e1])]
    exact ih (i+1) (by omega) _ _
  ·right
   refine C0 ?_
   unfold H9
   simp only[dcF (show ¬ (i:Int)<(b.length:Int)by omega),cond_false]
theorem q0x (b:List Int) (hb:b.length<=100000) :
  (∃ v r,A3 H9 (0,0,0,(b,()),())=some (.inl ((v,(r,()),()):Int×(List Int×Unit)×Unit))/\I64 v/\r.length<b.length) \/
  A3 H9 (0,0,0,(b,()),())=some (.inr (.inl ((0,(b,()),()):Int×(List Int×Unit)×Unit))):=by
 rcases y00 b hb 10 0 rfl 0 0 with⟨v,j,h1,h2,h3⟩ | h
 ·exact .inl ⟨v,_,h1,h2,by rw[List.length_drop];omega⟩
 ·exact .inr h
end

section
open Go Go.Abs

abbrev Crd (n:Int):Prop:=0<=n/\n<=1048576
abbrev TS:=Int×(List Int×Unit)×List Int×List Rw×Unit×Unit
abbrev TP:=(List Int×Unit)×List Int×List Rw×Unit×Unit
abbrev WS:=Int×(List Int×Unit)×List Rw×Unit×Unit
abbrev WP:=(List Int×Unit)×List Rw×Unit×Unit
abbrev HS:=Int×(List Int×Unit)×List Df×Unit×Unit
abbrev HP:=(List Int×Unit)×List Df×Unit×Unit
theorem W7 {i:Nat} (h:i<=100000):IntKind.i64.wrap ((i:Int)+1)=((i+1:Nat):Int):=by rw[D7 (by omega) (by omega)];omega
theorem q14 {α:Type} {l:List α} {x:α} {k:Nat} (h:l.length<=100000) (hk:k<=100):C1 (l.length+[x].length) k=true:=by
 have:(l.length+1)*k<=100001*100:=Nat.mul_le_mul (by omega) hk
 exact O5 (by simp;omega) (by simp only[List.length_singleton];omega)
theorem z5i {n:Int} (h:Crd n):I64 n:=⟨by have:=h.1;omega,by have:=h.2;omega⟩
section
variable (z2:(List Int×Unit)×Unit)
theorem j2n (c:Nat) (b t:List Int) (R:List Rw):A3 (P8 ((c:Int),z2)) (((c:Int),(b,()),t,R,(),()):TS)=some (.inr (.inl (((b,()),t,R,(),()):TP))):=C0 (by
 unfold P8
 simp only[dcF (show ¬ (c:Int)<(c:Int)by omega),cond_false])
theorem j2q {c i:Nat} (h:i<c) (hc:c<=4) {v:Int} (hv:Crd v) {b r t:List Int} (ht:t.length<=1000) (R:List Rw) (hr:A3 H9 (0,0,0,(b,()),())=some (.inl ((v,(r,()),()):Int×(List Int×Unit)×Unit))) :
  A3 (P8 ((c:Int),z2)) (((i:Int),(b,()),t,R,(),()):TS)=A3 (P8 ((c:Int),z2)) ((((i+1:Nat):Int),(r,()),t++[v],R,(),()):TS):=H4 (by
 unfold P8
 simp only[dcT (show(i:Int)<(c:Int)by omega),cond_true,hr,Option.bind_some,Sum.elim_inl,dcF (show ¬ v<0 by omega),dcF (show ¬ v>1048576 by omega),cond_false,q14 (x:=v) (k:=8) (show t.length<=100000 by omega) (by decide),Bool.and_self,W7 (show i<=100000 by omega)])
theorem j2p {c:Nat} (hc:c<=4) (r:List Int) (R:List Rw):∀ (L:List Int) (i:Nat) (t:List Int),i+L.length=c->t.length<=100+i->(∀ n∈L,Crd n)->A3 (P8 ((c:Int),z2)) (((i:Int),(B3 L++r,()),t,R,(),()):TS)=some (.inr (.inl (((r,()),t++L,R,(),()):TP)))
 | [],i,t,hi,_,_=>by
  rw[show i=c by simpa using hi,List.append_nil]
  exact j2n z2 c _ t R
 | n::L,i,t,hi,ht,hL=>by
  rw[List.length_cons]at hi
  have hn:=hL n (by simp)
  have:=q0y (z5i hn) (B3 L++r) 0
  rw[show B3 (n::L)++r=E1 n++(B3 L++r)by simp[B3]]
  rw[j2q z2 (by omega) hc hn (by omega) R this,j2p hc r R L (i+1) (t++[n]) (by omega) (by simp;omega) fun m hm=>hL m (by simp[hm])]
  simp
theorem j2m {c:Nat} (hc:c<=4) (R:List Rw):∀ (k i:Nat) (b t:List Int),i+k=c->b.length<=100000->t.length=i->(∀ n∈t,Crd n) ->
  (∃ p,A3 (P8 ((c:Int),z2)) (((i:Int),(b,()),t,R,(),()):TS)=some (.inl (p:TP))) \/
  ∃ r t',A3 (P8 ((c:Int),z2)) (((i:Int),(b,()),t,R,(),()):TS)=some (.inr (.inl (((r,()),t',R,(),()):TP)))/\r.length<=b.length/\t'.length=c/\∀ n∈t',Crd n
 | 0,i,b,t,hi,_,ht,htc=>by
  right
  obtain rfl:i=c:=by omega
  exact⟨b,t,j2n z2 i b t R,Nat.le_refl _,ht,htc⟩
 | k+1,i,b,t,hi,hb,ht,htc=>by
  rcases q0x b hb with⟨v,r,h1,h2,h3⟩ | h1
  ·by_cases hv:Crd v
   ·rw[j2q z2 (by omega) hc hv (by omega) R h1]
    rcases j2m hc R k (i+1) r (t++[v]) (by omega) (by omega) (by simp[ht]) (fun n hn=>by
     rcases List.mem_append.1 hn with h | h
     ·exact htc n h
     ·rw[List.mem_singleton.1 h];exact hv)with h | ⟨r',t',g1,g2,g3,g4⟩
    ·exact .inl h
    ·exact .inr ⟨r',t',g1,by omega,g3,g4⟩
   ·left
    by_cases h0:v<0
    ·exact⟨_,C0 (by
      unfold P8
      simp only[dcT (show(i:Int)<(c:Int)by omega),cond_true,h1,Option.bind_some,Sum.elim_inl,dcT h0]
      rfl)⟩
    ·exact⟨_,C0 (by
      unfold P8
      simp only[dcT (show(i:Int)<(c:Int)by omega),cond_true,h1,Option.bind_some,Sum.elim_inl,dcF h0,cond_false,dcT (show v>1048576 by unfold Crd at hv;omega)]
      rfl)⟩
  ·left
   exact⟨_,C0 (by
    unfold P8
    simp only[dcT (show(i:Int)<(c:Int)by omega),cond_true,h1,Option.bind_some,Sum.elim_inr,Sum.elim_inl]
    rfl)⟩
theorem j09 (c:Nat) (b:List Int) (R:List Rw):A3 (P9 ((c:Int),z2)) (((c:Int),(b,()),R,(),()):WS)=some (.inr (.inl (((b,()),R,(),()):WP))):=C0 (by
 unfold P9
 simp only[dcF (show ¬ (c:Int)<(c:Int)by omega),cond_false])
theorem j0b {c i:Nat} (h:i<c) (hc:c<=128) {v1 v2 v3:Int} {b r1 r2 r3:List Int} {R:List Rw} (hR:R.length<=1000) (h1:A3 H9 (0,0,0,(b,()),())=some (.inl ((v1,(r1,()),()):Int×(List Int×Unit)×Unit)))
  (h2:A3 H9 (0,0,0,(r1,()),())=some (.inl ((v2,(r2,()),()):Int×(List Int×Unit)×Unit))) (h3:A3 H9 (0,0,0,(r2,()),())=some (.inl ((v3,(r3,()),()):Int×(List Int×Unit)×Unit))) :
  A3 (P9 ((c:Int),z2)) (((i:Int),(b,()),R,(),()):WS)=A3 (P9 ((c:Int),z2)) ((((i+1:Nat):Int),(r3,()),R++[(v1,v2,v3,())],(),()):WS):=H4 (by
 unfold P9
 simp only[dcT (show(i:Int)<(c:Int)by omega),cond_true,h1,h2,h3,Option.bind_some,Sum.elim_inl,q14 (x:=((v1,v2,v3,()):Rw)) (k:=24) (show R.length<=100000 by omega) (by decide),Bool.and_self,W7 (show i<=100000 by omega)])
theorem j0a {c:Nat} (hc:c<=128) (r:List Int):∀ (L:List Rw) (i:Nat) (R:List Rw),i+L.length=c->R.length<=i->(∀ x∈L,RowOK x)->A3 (P9 ((c:Int),z2)) (((i:Int),(B3 (L.flatMap H7)++r,()),R,(),()):WS)=some (.inr (.inl (((r,()),R++L,(),()):WP)))
 | [],i,R,hi,_,_=>by
  rw[show i=c by simpa using hi,List.append_nil]
  exact j09 z2 c _ R
 | (a1,a2,a3,())::L,i,R,hi,hR,hL=>by
  rw[List.length_cons]at hi
  obtain⟨q1,q2,q3⟩:=hL (a1,a2,a3,()) (by simp)
  rw[show B3 (((a1,a2,a3,())::L:List Rw).flatMap H7)++r=E1 a1++(E1 a2++(E1 a3++(B3 (L.flatMap H7)++r)))by simp[B3,H7]]
  rw[j0b z2 (by omega) hc (by omega) (q0y q1 _ 0) (q0y q2 _ 0) (q0y q3 _ 0),j0a hc r L (i+1) (R++[(a1,a2,a3,())]) (by omega) (by simp;omega) fun m hm=>hL m (by simp[hm])]
  simp
theorem j07 {c:Nat} (hc:c<=128):∀ (k i:Nat) (b:List Int) (R:List Rw),i+k=c->b.length<=100000->R.length=i->(∀ x∈R,RowOK x) ->
  (∃ p,A3 (P9 ((c:Int),z2)) (((i:Int),(b,()),R,(),()):WS)=some (.inl (p:WP))) \/
  ∃ r R',A3 (P9 ((c:Int),z2)) (((i:Int),(b,()),R,(),()):WS)=some (.inr (.inl (((r,()),R',(),()):WP)))/\r.length<=b.length/\R'.length=c/\∀ x∈R',RowOK x
 | 0,i,b,R,hi,_,hR,hRc=>by
  right
  obtain rfl:i=c:=by omega
  exact⟨b,R,j09 z2 i b R,Nat.le_refl _,hR,hRc⟩
 | k+1,i,b,R,hi,hb,hR,hRc=>by
  have go:=dcT (show(i:Int)<(c:Int)by omega)
  rcases q0x b hb with⟨v1,r1,h1,g1,l1⟩ | h1
  ·rcases q0x r1 (by omega)with⟨v2,r2,h2,g2,l2⟩ | h2
   ·rcases q0x r2 (by omega)with⟨v3,r3,h3,g3,l3⟩ | h3
    ·rw[j0b z2 (by omega) hc (by omega) h1 h2 h3]
     rcases j07 hc k (i+1) r3 (R++[(v1,v2,v3,())]) (by omega) (by omega) (by simp[hR]) (fun n hn=>by
      rcases List.mem_append.1 hn with h | h
      ·exact hRc n h
      ·rw[List.mem_singleton.1 h];exact⟨g1,g2,g3⟩)with h | ⟨r',R',q1,q2,q3,q4⟩
     ·exact .inl h
     ·exact .inr ⟨r',R',q1,by omega,q3,q4⟩
    ·left
     exact⟨_,C0 (by
      unfold P9
      simp only[go,cond_true,h1,h2,h3,Option.bind_some,Sum.elim_inr,Sum.elim_inl]
      rfl)⟩
   ·left
    exact⟨_,C0 (by
     unfold P9
     simp only[go,cond_true,h1,h2,Option.bind_some,Sum.elim_inr,Sum.elim_inl]
     rfl)⟩
  ·left
   exact⟨_,C0 (by
    unfold P9
    simp only[go,cond_true,h1,Option.bind_some,Sum.elim_inr,Sum.elim_inl]
    rfl)⟩
end
structure DfOK (d:Df):Prop where
 time:d.1.length<=4
 crd:∀ n∈d.1,Crd n
 len:d.2.1.length<=128
 rows:∀ x∈d.2.1,RowOK x
section
variable (z2:(List Int×Unit)×Unit)
theorem z7e (c:Nat) (b:List Int) (D:List Df):A3 (K1 ((c:Int),z2)) (((c:Int),(b,()),D,(),()):HS)=some (.inr (.inl (((b,()),D,(),()):HP))):=C0 (by
 unfold K1
 simp only[dcF (show ¬ (c:Int)<(c:Int)by omega),cond_false])
theorem z7h {c i:Nat} (h:i<c) (hc:c<=64) {D:List Df} (hD:D.length<=1000) {a1 a2:Nat} {b r1 r2 r3 r4 t:List Int} {R:List Rw} (l1:a1<=4) (l2:a2<=128) (h1:A3 H9 (0,0,0,(b,()),())=some (.inl (((a1:Int),(r1,()),()):Int×(List Int×Unit)×Unit)))
  (h2:A3 (P8 ((a1:Int),(r1,()),())) ((((0:Nat):Int),(r1,()),[],[],(),()):TS)=some (.inr (.inl (((r2,()),t,[],(),()):TP)))) (h3:A3 H9 (0,0,0,(r2,()),())=some (.inl (((a2:Int),(r3,()),()):Int×(List Int×Unit)×Unit)))
  (h4:A3 (P9 ((a2:Int),(r3,()),())) ((((0:Nat):Int),(r3,()),[],(),()):WS)=some (.inr (.inl (((r4,()),R,(),()):WP)))) :
  A3 (K1 ((c:Int),z2)) (((i:Int),(b,()),D,(),()):HS)=A3 (K1 ((c:Int),z2)) ((((i+1:Nat):Int),(r4,()),D++[(t,R,())],(),()):HS):=H4 (by
 rw[show(((0:Nat):Int))=0 from rfl]at h2 h4
 unfold K1
 simp only[dcT (show(i:Int)<(c:Int)by omega),cond_true,h1,h2,h3,h4,Option.bind_some,Sum.elim_inl,Sum.elim_inr,dcF (show ¬ (a1:Int)<0 by omega),dcF (show ¬ (a1:Int)>4 by omega),dcF (show ¬ (a2:Int)<0 by omega),dcF (show ¬ (a2:Int)>128 by omega),cond_false,q14 (x:=((t,R,()):Df)) (k:=48) (show D.length<=100000 by omega) (by decide),Bool.and_self,W7 (show i<=100000 by omega)])
theorem z7f {c:Nat} (hc:c<=64) (r:List Int):∀ (L:List Df) (i:Nat) (D:List Df),i+L.length=c->D.length<=i->(∀ d∈L,DfOK d)->A3 (K1 ((c:Int),z2)) (((i:Int),(B3 (L.flatMap C5)++r,()),D,(),()):HS)=some (.inr (.inl (((r,()),D++L,(),()):HP)))
 | [],i,D,hi,_,_=>by
  rw[show i=c by simpa using hi,List.append_nil]
  exact z7e z2 c _ D
 | (t,R,())::L,i,D,hi,hD,hL=>by
  rw[List.length_cons]at hi
  have ok:=hL (t,R,()) (by simp)
  have e1:t.length<=4:=ok.time
  have e2:R.length<=128:=ok.len
  rw[show B3 (((t,R,())::L:List Df).flatMap C5)++r=E1 (t.length:Int)++(B3 t++(E1 (R.length:Int)++(B3 (R.flatMap H7)++(B3 (L.flatMap C5)++r))))by
   rw[List.flatMap_cons,S9];simp[B3]]
  rw[z7h z2 (by omega) hc (by omega) e1 e2 (q0y (Q9 (by omega)) _ 0) (j2p _ e1 _ [] t 0 [] (by simp) (by simp) ok.crd) (q0y (Q9 (by omega)) _ 0) (j0a _ e2 _ R 0 [] (by simp) (by simp) ok.rows),
   z7f hc r L (i+1) _ (by omega) (by simp;omega) fun m hm=>hL m (by simp[hm])]
  simp
theorem z7d {c:Nat} (hc:c<=64):∀ (k i:Nat) (b:List Int) (D:List Df),i+k=c->b.length<=100000->D.length=i->(∀ d∈D,DfOK d) ->
  (∃ p,A3 (K1 ((c:Int),z2)) (((i:Int),(b,()),D,(),()):HS)=some (.inl (p:HP))) \/
  ∃ r D',A3 (K1 ((c:Int),z2)) (((i:Int),(b,()),D,(),()):HS)=some (.inr (.inl (((r,()),D',(),()):HP)))/\D'.length=c/\∀ d∈D',DfOK d
 | 0,i,b,D,hi,_,hD,hDc=>by
  right
  obtain rfl:i=c:=by omega
  exact⟨b,D,z7e z2 i b D,hD,hDc⟩
 | k+1,i,b,D,hi,hb,hD,hDc=>by
  have go:=dcT (show(i:Int)<(c:Int)by omega)
  rcases q0x b hb with⟨v1,r1,h1,g1,l1⟩ | h1
  rotate_left
  ·left
   exact⟨_,C0 (by
    unfold K1
    simp only[go,cond_true,h1,Option.bind_some,Sum.elim_inr,Sum.elim_inl]
    rfl)⟩
  by_cases hv0:v1<0
  ·left
   exact⟨_,C0 (by
    unfold K1
    simp only[go,cond_true,h1,Option.bind_some,Sum.elim_inl,dcT hv0]
    rfl)⟩
  by_cases hv4:v1>4
  ·left
   exact⟨_,C0 (by
    unfold K1
    simp only[go,cond_true,h1,Option.bind_some,Sum.elim_inl,dcF hv0,cond_false,dcT hv4]
    rfl)⟩
  obtain⟨a1,rfl⟩:∃ a:Nat,v1=(a:Int):=⟨v1.toNat,by omega⟩
  rcases j2m (((r1,()),()):(List Int×Unit)×Unit) (c:=a1) (by omega) [] a1 0 r1 [] (by omega) (by omega) rfl (fun n hn=>by cases hn)with⟨p,h2⟩ | ⟨r2,t,h2,l2,tl,tc⟩
  ·left
   have h2':=h2
   rw[show(((0:Nat):Int))=0 from rfl]at h2'
   exact⟨_,C0 (by
    unfold K1
    simp only[go,cond_true,h1,h2',Option.bind_some,Sum.elim_inl,dcF hv0,cond_false,dcF hv4]
    rfl)⟩
  have h2':=h2
  rw[show(((0:Nat):Int))=0 from rfl]at h2'
  rcases q0x r2 (by omega)with⟨v2,r3,h3,g3,l3⟩ | h3
  rotate_left
  ·left
   exact⟨_,C0 (by
    unfold K1
    simp only[go,cond_true,h1,h2',h3,Option.bind_some,Sum.elim_inl,Sum.elim_inr,dcF hv0,cond_false,dcF hv4]
    rfl)⟩
  by_cases hw0:v2<0
  ·left
   exact⟨_,C0 (by
    unfold K1
    simp only[go,cond_true,h1,h2',h3,Option.bind_some,Sum.elim_inl,Sum.elim_inr,dcF hv0,cond_false,dcF hv4,dcT hw0]
    rfl)⟩
  by_cases hw4:v2>128
  ·left
   exact⟨_,C0 (by
    unfold K1
    simp only[go,cond_true,h1,h2',h3,Option.bind_some,Sum.elim_inl,Sum.elim_inr,dcF hv0,cond_false,dcF hv4,dcF hw0,dcT hw4]
    rfl)⟩
  obtain⟨a2,rfl⟩:∃ a:Nat,v2=(a:Int):=⟨v2.toNat,by omega⟩
  rcases j07 (((r3,()),()):(List Int×Unit)×Unit) (c:=a2) (by omega) a2 0 r3 [] (by omega) (by omega) rfl (fun n hn=>by cases hn)with⟨p,h4⟩ | ⟨r4,R,h4,l4,rl,rc⟩
  ·left
   have h4':=h4
   rw[show(((0:Nat):Int))=0 from rfl]at h4'
   exact⟨_,C0 (by
    unfold K1
    simp only[go,cond_true,h1,h2',h3,h4',Option.bind_some,Sum.elim_inl,Sum.elim_inr,dcF hv0,cond_false,dcF hv4,dcF hw0,dcF hw4]
    rfl)⟩
  rw[z7h z2 (by omega) hc (by omega) (by omega) (by omega) h1 h2 h3 h4]
  rcases z7d hc k (i+1) r4 (D++[(t,R,())]) (by omega) (by omega) (by simp[hD]) (fun d hd=>by
   rcases List.mem_append.1 hd with h | h
   ·exact hDc d h
   ·rw[List.mem_singleton.1 h];exact⟨by show t.length<=4;omega,tc,by show R.length<=128;omega,rc⟩)with h | ⟨r',D',q1,q3,q4⟩
  ·exact .inl h
  ·exact .inr ⟨r',D',q1,q3,q4⟩
end
end

section
open Go Go.Abs

def dv:List Int->Nat
 | []=>0
 | c::r=>c.toNat % 128+128*dv r
theorem j5u (x:Nat):dv (leb x)=x:=by
 induction x using Nat.strongRecOn with
 | _ x ih =>
  by_cases h:x<128
  ·rw[X4 h];simp[dv];omega
  ·rw[q28 h,dv,ih _ (by omega)]
   omega
theorem q6t (x:Nat):leb x≠[]:=by rw[leb];split<;>simp
theorem z7w (x:Nat):∀ (j:Nat) (c:Int),(leb x)[j]? = some c->(128<=c↔j+1<(leb x).length):=by
 induction x using Nat.strongRecOn with
 | _ x ih =>
  intro j c hj
  by_cases h:x<128
  ·rw[X4 h]at hj ⊢
   have hl:=(List.getElem?_eq_some_iff.1 hj).1
   simp at hl
   subst hl
   simp at hj ⊢
   omega
  ·rw[q28 h]at hj ⊢
   cases j with
   | zero =>
    simp at hj
    have:=List.length_pos_iff.2 (q6t (x / 128))
    simp only[List.length_cons]
    omega
   | succ j =>
    have:=ih (x / 128) (by omega) j c (by simpa using hj)
    simp only[List.length_cons]
    omega
def R5 (x:Nat):Int:=if x % 2=1 then -((x / 2:Nat):Int)-1 else((x / 2:Nat):Int)
theorem j2y {x:Nat} (h:x<18446744073709551616):I64 (R5 x)/\zz (R5 x)=x:=by
 unfold R5 zz I64
 split
 ·refine⟨⟨by omega,by omega⟩,?_⟩
  split<;>omega
 ·refine⟨⟨by omega,by omega⟩,?_⟩
  split<;>omega
theorem y4d {n:Int} (h:I64 n):R5 (zz n).toNat=n:=by
 obtain⟨h1,h2⟩:=h
 unfold R5 zz
 split<;>split<;>omega
theorem y4c {x:Nat} (h:x<18446744073709551616):(((cond (((x:Int).tmod (2:Int))==(1:Int)) (some (Sum.inl ((IntKind.i64.wrap ((IntKind.i64.wrap (0-(IntKind.i64.wrap (IntKind.u64.wrap ((x:Int).tdiv (2:Int))))))-(1:Int))),()))) (some (Sum.inl ((IntKind.i64.wrap (IntKind.u64.wrap ((x:Int).tdiv (2:Int)))),())))):Option ((Int×Unit)⊕Empty)))=some (.inl (R5 x,())):=by
 rw[Int.tmod_eq_emod_of_nonneg (by omega),Int.tdiv_eq_ediv_of_nonneg (by omega)]
 have e:IntKind.u64.wrap ((x:Int) / 2)=((x / 2:Nat):Int):=by rw[M3];omega
 rw[e,D7 (x:=((x / 2:Nat):Int)) (by omega) (by omega)]
 unfold R5
 by_cases h1:x % 2=1
 ·rw[Z0 (show(x:Int) % 2=1 by omega),cond_true,if_pos h1,D7 (x:=0-((x / 2:Nat):Int)) (by omega) (by omega),D7 (by omega) (by omega)]
  congr 3
  omega
 ·rw[W6 (show ¬ (x:Int) % 2=1 by omega),cond_false,if_neg h1]
abbrev NS3:=List Int×Int×Int×Unit
def seg (b:List Int) (f m:Nat):List Int:=(b.drop f).take m
theorem j0k {b:List Int} {f m:Nat} (h:f<b.length):seg b f (m+1)=b[f]::seg b (f+1) m:=by
 unfold seg
 rw[List.drop_eq_getElem_cons h,List.take_succ_cons]
theorem q2q {b:List Int} {f m:Nat} (h:f+m<=b.length):(seg b f m).length=m:=by unfold seg;simp;omega
theorem y0a {b:List Int} (hb:∀ c∈b,B8 c) (hl:b.length<=100000) {f i:Nat} (hi:i<b.length) (l:List Int) (z:Int×Unit) :
  ∀ m,f+m<=i+1->A3 (q4u (b,()) ((l,(f:Int),z):NS3)) ((((dv (seg b (f+m) (i+1-(f+m))) % 18446744073709551616:Nat):Int),((f+m:Nat):Int)-1,()):Int×Int×Unit)=some (.inl ((((dv (seg b f (i+1-f)) % 18446744073709551616:Nat):Int),()):Int×Unit)):=by
 intro m
 induction m with
 | zero =>
  intro _
  refine C0 ?_
  unfold q4u
  simp only[Nat.add_zero,dcF (show ¬ ((f:Int)-1≥(f:Int))by omega),cond_false]
 | succ m ih =>
  intro hm
  rw[H4 (s':=((((dv (seg b (f+m) (i+1-(f+m))) % 18446744073709551616:Nat):Int),((f+m:Nat):Int)-1,()):Int×Int×Unit)) ?_]
  ·exact ih (by omega)
  ·unfold q4u
   have hk:f+m<b.length:=by omega
   have e0:(((f+(m+1):Nat):Int)-1)=((f+m:Nat):Int):=by omega
   have hc:=hb b[f+m] (List.getElem_mem hk)
   have e1:seg b (f+m) (i+1-(f+m))=b[f+m]::seg b (f+(m+1)) (i+1-(f+(m+1))):=by
    rw[show i+1-(f+m)=(i+1-(f+(m+1)))+1 by omega,j0k hk];rfl
   simp only[e0,dcT (show((f+m:Nat):Int)≥(f:Int)by omega),cond_true,J5 hk,Option.bind_some]
   rw[e1,dv,D7 (x:=((f+m:Nat):Int)-1) (by omega) (by omega),Int.tmod_eq_emod_of_nonneg hc.1]
   simp only[M3]
   generalize dv (seg b (f+(m+1)) (i+1-(f+(m+1))))=d
   generalize hq:b[f+m]=c at hc
   congr 3
   obtain⟨h1,h2⟩:=hc
   omega
theorem y09 {b:List Int} (hl:b.length<=100000) {r:List Int} {f:Nat} (hr:f+r.length<=b.length) (l:List Int) (z:Int×Unit) :
  A3 (q4v (b,()) (r,()) ((l,(f:Int),z):NS3)) (0,())=some (if r=seg b f r.length then .inr (.inl ())else .inl (([]:List Int),false,())):=by
 have h:=j7p (f:=q4v (b,()) (r,()) ((l,(f:Int),z):NS3)) r.length () (fun k=>!decide (r[k]? = b[f+k]?)) (.inl (([]:List Int),false,())) (.inr (.inl ())) (fun k hk=>by
  have h2:f+k<b.length:=by omega
  unfold q4v
  simp only[dcT (show(k:Int)<(r.length:Int)by omega),cond_true,Q4 hk,Int.toNat_natCast,List.getElem?_eq_getElem hk,List.getElem?_eq_getElem h2,Option.bind_some,show IntKind.i64.wrap ((f:Int)+(k:Int))=((f+k:Nat):Int)from by rw[D7 (by omega) (by omega)];omega,J5 h2,W7 (show k<=100000 by omega)]
  by_cases he:r[k]=b[f+k]
  ·rw[N2 he,cond_false,he];simp
  ·rw[T3 he,cond_true,if_pos (by simp[he])]) (by
  unfold q4v
  simp only[dcF (show ¬ (r.length:Int)<(r.length:Int)by omega),cond_false])
 rw[h]
 by_cases he:r=seg b f r.length
 ·rw[if_pos he,if_neg]
  rw[List.any_eq_true]
  rintro ⟨k,hk,hb⟩
  have hk:=List.mem_range.1 hk
  have e:r[k]? = b[f+k]?:=by
   rw[he]
   unfold seg
   rw[List.getElem?_take_of_lt hk,List.getElem?_drop]
  rw[e]at hb
  simp at hb
 ·rw[if_neg he,if_pos]
  rw[List.any_eq_true]
  apply Classical.byContradiction
  intro hno
  apply he
  apply List.ext_getElem?
  intro k
  by_cases hk:k<r.length
  ·unfold seg
   rw[List.getElem?_take_of_lt hk,List.getElem?_drop]
   apply Classical.byContradiction
   intro hne
   exact hno ⟨k,List.mem_range.2 hk,by simpa using hne⟩
  ·rw[List.getElem?_eq_none (by omega),List.getElem?_eq_none (by rw[q2q hr];omega)]
theorem z9o {b:List Int} (hb:∀ c∈b,B8 c) (hl:b.length<=100000) {f i:Nat} (hi:i<b.length) (hf:f<=i) {l:List Int} (hll:l.length<=100000) (h128:b[i]<128) :
  A3 (L1 (b,())) ((l,(f:Int),(i:Int),()):NS3)=(if leb (dv (seg b f (i+1-f)) % 18446744073709551616)=seg b f (i+1-f)
   then A3 (L1 (b,())) ((l++[R5 (dv (seg b f (i+1-f)) % 18446744073709551616)],((i+1:Nat):Int),((i+1:Nat):Int),()):NS3)
   else some (.inl (([]:List Int),false,()))):=by
 generalize hX:dv (seg b f (i+1-f)) % 18446744073709551616=X
 have hX2:X<18446744073709551616:=by rw[<-hX];exact Nat.mod_lt _ (by decide)
 obtain⟨u1,u2⟩:=j2y hX2
 have hnum:q4r (R5 X,())=some (leb X,()):=by
  rw[y0d u1];unfold E1;rw[u2];rfl
 have hd:=y0a (f:=f) hb hl hi l ((i:Int),()) (i+1-f) (by omega)
 have e0:seg b (f+(i+1-f)) (i+1-(f+(i+1-f)))=[]:=by rw[show i+1-(f+(i+1-f))=0 by omega];simp[seg]
 rw[e0,show(((f+(i+1-f):Nat):Int)-1)=(i:Int)by omega,hX]at hd
 have hd:A3 (q4u (b,()) ((l,(f:Int),(i:Int),()):NS3)) (((0:Int),(i:Int),()):Int×Int×Unit)=some (.inl (((X:Int),()):Int×Unit)):=hd
 have hgo:L1 (b,()) ((l,(f:Int),(i:Int),()):NS3)=(if leb X=seg b f (i+1-f)then some (.inl ((l++[R5 X],((i+1:Nat):Int),((i+1:Nat):Int),()):NS3))else some (.inr (.inl (([]:List Int),false,())))):=by
  unfold L1
  simp only[dcT (show(i:Int)<(b.length:Int)by omega),cond_true,J5 hi,Option.bind_some,dcF (show ¬ b[i]≥128 by omega),cond_false,hd,Sum.elim_inl,y4c hX2,hnum]
  have e1:IntKind.i64.wrap (IntKind.i64.wrap ((i:Int)-(f:Int))+1)=((i+1-f:Nat):Int):=by
   rw[D7 (x:=(i:Int)-(f:Int)) (by omega) (by omega),D7 (by omega) (by omega)];omega
  rw[e1]
  by_cases hlen:(leb X).length=i+1-f
  ·rw[N2 (show((leb X).length:Int)=((i+1-f:Nat):Int)by omega),cond_false,y09 hl (r:=leb X) (f:=f) (by omega) l ((i:Int),()),hlen]
   by_cases he:leb X=seg b f (i+1-f)
   ·rw[if_pos he,if_pos he]
    simp only[Option.bind_some,Sum.elim_inr,Sum.elim_inl,q14 (x:=R5 X) (k:=8) hll (by decide),Bool.and_self,cond_true,W7 (show i<=100000 by omega)]
   ·rw[if_neg he,if_neg he]
    simp only[Option.bind_some,Sum.elim_inl]
  ·rw[T3 (show ¬ ((leb X).length:Int)=((i+1-f:Nat):Int)by omega),cond_true,if_neg]
   intro he
   rw[he,q2q (by omega)]at hlen
   exact hlen rfl
 by_cases he:leb X=seg b f (i+1-f)
 ·rw[if_pos he]at hgo ⊢
  exact H4 hgo
 ·rw[if_neg he]at hgo ⊢
  exact C0 hgo
theorem z9p {b:List Int} (hl:b.length<=100000) {i:Nat} (hi:i<b.length) {l:List Int} {f:Int} (h128:128<=b[i]) :
  A3 (L1 (b,())) ((l,f,(i:Int),()):NS3)=A3 (L1 (b,())) ((l,f,((i+1:Nat):Int),()):NS3):=H4 (by
 unfold L1
 simp only[dcT (show(i:Int)<(b.length:Int)by omega),cond_true,J5 hi,Option.bind_some,dcT (show b[i]≥128 by omega),W7 (show i<=100000 by omega)])
theorem z9s {b:List Int} {l:List Int} {f:Int}:A3 (L1 (b,())) ((l,f,(b.length:Int),()):NS3)=some (.inr (.inl ((l,f,()):List Int×Int×Unit))):=C0 (by
 unfold L1
 simp only[dcF (show ¬ (b.length:Int)<(b.length:Int)by omega),cond_false])
theorem z2y {b:List Int} (hb:∀ c∈b,B8 c) (hl:b.length<=100000):∀ (k i f:Nat) (l:List Int),i+k=b.length->f<=i->B3 l=b.take f->(∀ n∈l,I64 n)->l.length<=i ->
  A3 (L1 (b,())) ((l,(f:Int),(i:Int),()):NS3)=some (.inl (([]:List Int),false,())) \/
  ∃ (l':List Int) (f':Nat),A3 (L1 (b,())) ((l,(f:Int),(i:Int),()):NS3)=some (.inr (.inl ((l',(f':Int),()):List Int×Int×Unit)))/\B3 l'=b.take f'/\(∀ n∈l',I64 n)/\l'.length<=b.length
 | 0,i,f,l,hi,hf,h1,h2,h3=>by
  obtain rfl:i=b.length:=by omega
  exact .inr ⟨l,f,z9s,h1,h2,h3⟩
 | k+1,i,f,l,hi,hf,h1,h2,h3=>by
  have hlt:i<b.length:=by omega
  by_cases h128:128<=b[i]
  ·rw[z9p hl hlt h128]
   exact z2y hb hl k (i+1) f l (by omega) (by omega) h1 h2 (by omega)
  ·rw[z9o hb hl hlt hf (by omega) (by omega)]
   generalize hX:dv (seg b f (i+1-f)) % 18446744073709551616=X
   have hX2:X<18446744073709551616:=by rw[<-hX];exact Nat.mod_lt _ (by decide)
   obtain⟨u1,u2⟩:=j2y hX2
   by_cases he:leb X=seg b f (i+1-f)
   ·rw[if_pos he]
    refine z2y hb hl k (i+1) (i+1) _ (by omega) (Nat.le_refl _) ?_ (fun n hn=>?_) (by simp;omega)
    ·rw[q0l,h1]
     have:B3 [R5 X]=seg b f (i+1-f):=by rw[<-he];simp[B3,E1,u2]
     rw[this]
     unfold seg
     rw[<-List.take_add]
     congr 1
     omega
    ·rcases List.mem_append.1 hn with h | h
     ·exact h2 n h
     ·rw[List.mem_singleton.1 h];exact u1
   ·rw[if_neg he]
    exact .inl rfl
theorem y0e {b:List Int} (hb:∀ c∈b,B8 c) (hl:b.length<=100000) {n:Int} (hn:I64 n) {f:Nat} {r:List Int} (hd:b.drop f=E1 n++r) {l:List Int} (hll:l.length<=100000) :
  ∀ k i,i+k+1=f+(E1 n).length->f<=i->A3 (L1 (b,())) ((l,(f:Int),(i:Int),()):NS3)=A3 (L1 (b,())) ((l++[n],((f+(E1 n).length:Nat):Int),((f+(E1 n).length:Nat):Int),()):NS3):=by
 have hlen:f+(E1 n).length<=b.length:=by
  have:=congrArg List.length hd
  rw[List.length_drop,List.length_append]at this
  have hne:0<(E1 n).length:=List.length_pos_iff.2 (q6t _)
  omega
 have hget:∀ j,j<(E1 n).length->b[f+j]? = (E1 n)[j]?:=fun j hj=>by
  rw[<-List.getElem?_drop,hd,List.getElem?_append_left hj]
 intro k
 induction k with
 | zero =>
  intro i hi hf
  have hlt:i<b.length:=by omega
  have hc:=hget (i-f) (by omega)
  rw[show f+(i-f)=i by omega,List.getElem?_eq_getElem hlt]at hc
  have h128:=z7w _ _ _ hc.symm
  have hs:seg b f (i+1-f)=E1 n:=by
   unfold seg
   rw[hd,List.take_append_of_le_length (by omega),List.take_of_length_le (by omega)]
  rw[z9o hb hl hlt hf hll (by have:(leb (zz n).toNat).length=(E1 n).length:=rfl;omega),hs]
  have hX:dv (E1 n) % 18446744073709551616=(zz n).toNat:=by
   unfold E1;rw[j5u];exact Nat.mod_eq_of_lt (q1f hn).2
  rw[hX,if_pos (show leb (zz n).toNat=E1 n from rfl),y4d hn,show i+1=f+(E1 n).length by omega]
 | succ k ih =>
  intro i hi hf
  have hlt:i<b.length:=by omega
  have hc:=hget (i-f) (by omega)
  rw[show f+(i-f)=i by omega,List.getElem?_eq_getElem hlt]at hc
  have h128:=z7w _ _ _ hc.symm
  rw[z9p hl hlt (h128.2 (by have:(leb (zz n).toNat).length=(E1 n).length:=rfl;omega))]
  exact ih (i+1) (by omega) (by omega)
theorem q7u {b:List Int} (hb:∀ c∈b,B8 c) (hl:b.length<=100000):∀ (L l:List Int) (f:Nat),b.drop f=B3 L->f<=b.length->(∀ n∈L,I64 n)->l.length<=f ->
  A3 (L1 (b,())) ((l,(f:Int),(f:Int),()):NS3)=some (.inr (.inl ((l++L,(b.length:Int),()):List Int×Int×Unit)))
 | [],l,f,hd,hf,_,_=>by
  have:f=b.length:=by
   have:=congrArg List.length hd
   simp[B3]at this
   omega
  rw[this,List.append_nil];exact z9s
 | n::L,l,f,hd,hf,hL,hll=>by
  have hd':b.drop f=E1 n++B3 L:=by rw[hd];simp[B3]
  have hne:0<(E1 n).length:=List.length_pos_iff.2 (q6t _)
  have hlen:f+(E1 n).length<=b.length:=by
   have:=congrArg List.length hd'
   rw[List.length_drop,List.length_append]at this
   omega
  rw[y0e hb hl (hL n (by simp)) hd' (by omega) ((E1 n).length-1) f (by omega) (Nat.le_refl _),
   q7u hb hl L (l++[n]) (f+(E1 n).length) (by rw[<-List.drop_drop,hd',List.drop_left'];rfl) hlen (fun m hm=>hL m (by simp[hm])) (by simp;omega)]
  simp
theorem z54:∀ L:List Int,L.length<=(B3 L).length
 | []=>Nat.zero_le _
 | n::L=>by
  have h:=z54 L
  have hne:0<(E1 n).length:=List.length_pos_iff.2 (q6t _)
  rw[show B3 (n::L)=E1 n++B3 L by simp[B3],List.length_append,List.length_cons]
  omega
theorem z9r {b:List Int} (hb:∀ c∈b,B8 c) (hl:b.length<=100000) :
  (∃ L,(∀ n∈L,I64 n)/\b=B3 L/\L.length<=b.length/\q12 (b,())=some (L,true,()))\/((∀ L,(∀ n∈L,I64 n)->b≠B3 L)/\∃ l,q12 (b,())=some (l,false,())):=by
 by_cases h:∃ L,(∀ n∈L,I64 n)/\b=B3 L
 ·obtain⟨L,h1,h2⟩:=h
  left
  have h0:=q7u hb hl L [] 0 (by simpa using h2) (Nat.zero_le _) h1 (Nat.le_refl _)
  have h0:A3 (L1 (b,())) ((([]:List Int),(0:Int),(0:Int),()):NS3)=_:=h0
  refine⟨L,h1,h2,?_,?_⟩
  ·rw[h2];exact z54 L
  ·unfold q12
   rw[h0]
   simp only[Option.bind_some,Sum.elim_inr,Sum.elim_inl,Z0 rfl]
   rfl
 ·right
  have hno:∀ L,(∀ n∈L,I64 n)->b≠B3 L:=fun L h1 h2=>h ⟨L,h1,h2⟩
  refine⟨hno,?_⟩
  unfold q12
  rcases z2y hb hl b.length 0 0 [] (by omega) (Nat.le_refl _) (by simp[B3]) (fun n hn=>by cases hn) (Nat.le_refl _)with h0 | ⟨l',f',h0,h1,h2,h3⟩
  ·have h0:A3 (L1 (b,())) ((([]:List Int),(0:Int),(0:Int),()):NS3)=_:=h0
   rw[h0]
   exact⟨_,rfl⟩
  ·have h0:A3 (L1 (b,())) ((([]:List Int),(0:Int),(0:Int),()):NS3)=_:=h0
   rw[h0]
   refine⟨l',?_⟩
   simp only[Option.bind_some,Sum.elim_inr,Sum.elim_inl]
   rw[W6]
   intro he
   refine hno l' h2 ?_
   rw[h1,show f'=b.length by omega,List.take_length]
end

section
open Go Go.Abs

abbrev HS4:=List Df×Int×Int×Unit
theorem q86 {l:List Int} {o m:Nat} (h:o+m<l.length):seg l o (m+1)=seg l o m++[l[o+m]]:=by
 unfold seg
 rw[List.take_add_one,List.getElem?_drop,List.getElem?_eq_getElem h];rfl
theorem q87 (l:List Int) (o:Nat):seg l o 0=[]:=by simp[seg]
theorem j0l {l:List Int} {o:Nat} (h:o<l.length):seg l o 1=[l[o]]:=by
 have:=j0k (m:=0) h
 rw[q87]at this
 exact this
theorem q85 (l:List Int) (o a b:Nat):seg l o (a+b)=seg l o a++seg l (o+a) b:=by
 unfold seg
 rw[List.take_add,List.drop_drop]
theorem wr {a:Int} {n:Nat} (h:a=(n:Int)) (hn:n<=1000000):IntKind.i64.wrap a=(n:Int):=by rw[h,D7 (by omega) (by omega)]
section
variable {l:List Int} (hl:l.length<=100000)
include hl
theorem z7i {a1 o k0:Nat} (ha:a1<=4) (ho:o+1+a1<l.length) (D:List Df) (R:List Rw):∀ (k i:Nat),i+k=a1->(∀ n∈seg l (o+1) i,Crd n) ->
  (∃ t',A3 (q0c (l,()) (a1:Int) ((D,(o:Int),(k0:Int),()):HS4)) (((i:Int),seg l (o+1) i,R,(),()):Int×List Int×List Rw×Unit×Unit)=some (.inl ((([]:List Df),false,t',R,(),()):List Df×Bool×List Int×List Rw×Unit×Unit))/\¬ ∀ n∈seg l (o+1) a1,Crd n) \/
  (A3 (q0c (l,()) (a1:Int) ((D,(o:Int),(k0:Int),()):HS4)) (((i:Int),seg l (o+1) i,R,(),()):Int×List Int×List Rw×Unit×Unit)=some (.inr (.inl ((seg l (o+1) a1,R,(),()):List Int×List Rw×Unit×Unit)))/\∀ n∈seg l (o+1) a1,Crd n)
 | 0,i,hi,hc=>by
  obtain rfl:i=a1:=by omega
  right
  exact⟨C0 (by
   unfold q0c
   simp only[dcF (show ¬ (i:Int)<(i:Int)by omega),cond_false]),hc⟩
 | k+1,i,hi,hc=>by
  have h1:o+1+i<l.length:=by omega
  have hg:A9 l (IntKind.i64.wrap (IntKind.i64.wrap ((o:Int)+1)+(i:Int)))=some l[o+1+i]:=by
   rw[wr (a:=(o:Int)+1) (n:=o+1) (by omega) (by omega),wr (n:=o+1+i) (by omega) (by omega),J5 h1]
  have hs:=q86 (l:=l) (o:=o+1) (m:=i) h1
  have hno:¬ Crd l[o+1+i]->¬ ∀ n∈seg l (o+1) a1,Crd n:=fun h hall=>h (hall _ (by
   rw[show a1=(i+1)+k by omega,q85,hs];simp))
  by_cases hv:Crd l[o+1+i]
  ·have hlen:(seg l (o+1) i).length=i:=q2q (by omega)
   rw[H4 (s':=((((i+1:Nat):Int),seg l (o+1) (i+1),R,(),()):Int×List Int×List Rw×Unit×Unit)) (by
    unfold q0c
    simp only[dcT (show(i:Int)<(a1:Int)by omega),cond_true,hg,Option.bind_some,dcF (show ¬ l[o+1+i]<0 by have:=hv.1;omega),dcF (show ¬ l[o+1+i]>1048576 by have:=hv.2;omega),cond_false,q14 (x:=l[o+1+i]) (k:=8) (show(seg l (o+1) i).length<=100000 by omega) (by decide),Bool.and_self,W7 (show i<=100000 by omega),hs])]
   exact z7i ha ho D R k (i+1) (by omega) (fun n hn=>by
    rw[hs]at hn
    rcases List.mem_append.1 hn with h | h
    ·exact hc n h
    ·rw[List.mem_singleton.1 h];exact hv)
  ·left
   refine⟨seg l (o+1) i,C0 ?_,hno hv⟩
   ·unfold q0c
    simp only[dcT (show(i:Int)<(a1:Int)by omega),cond_true,hg,Option.bind_some]
    by_cases h0:l[o+1+i]<0
    ·rw[dcT h0,cond_true]
    ·rw[dcF h0,cond_false,dcT (show l[o+1+i]>1048576 by unfold Crd at hv;omega),cond_true]
theorem z7g {a1 a2 o k0:Nat} (ha:a2<=128) (ho:o+2+a1+3*a2<=l.length) (D:List Df):∀ (k i:Nat) (R:List Rw),i+k=a2->R.length=i->R.flatMap H7=seg l (o+2+a1) (3*i) ->
  ∃ R',A3 (q4t (l,()) (a2:Int) ((D,(o:Int),(k0:Int),()):HS4) (a1:Int)) (((i:Int),R,(),()):Int×List Rw×Unit×Unit)=some (.inl ((R',(),()):List Rw×Unit×Unit))/\R'.length=a2/\R'.flatMap H7=seg l (o+2+a1) (3*a2)
 | 0,i,R,hi,hR,hf=>by
  obtain rfl:i=a2:=by omega
  exact⟨R,C0 (by
   unfold q4t
   simp only[dcF (show ¬ (i:Int)<(i:Int)by omega),cond_false]),hR,hf⟩
 | k+1,i,R,hi,hR,hf=>by
  have g:∀ (j:Nat),j<3->A9 l (IntKind.i64.wrap (IntKind.i64.wrap (IntKind.i64.wrap (IntKind.i64.wrap ((o:Int)+1)+(a1:Int))+(((j+1:Nat):Int)))+IntKind.i64.wrap (3*(i:Int))))=l[o+2+a1+(3*i+j)]?:=fun j hj=>by
   rw[wr (a:=(o:Int)+1) (n:=o+1) (by omega) (by omega),wr (a:=((o+1:Nat):Int)+(a1:Int)) (n:=o+1+a1) (by omega) (by omega),wr (a:=((o+1+a1:Nat):Int)+((j+1:Nat):Int)) (n:=o+1+a1+(j+1)) (by omega) (by omega),wr (a:=3*(i:Int)) (n:=3*i) (by omega) (by omega),wr (n:=o+2+a1+(3*i+j)) (by omega) (by omega),I2]
  have b0:o+2+a1+(3*i+0)<l.length:=by omega
  have b1:o+2+a1+(3*i+1)<l.length:=by omega
  have b2:o+2+a1+(3*i+2)<l.length:=by omega
  have g0:=g 0 (by decide)
  have g1:=g 1 (by decide)
  have g2:=g 2 (by decide)
  rw[List.getElem?_eq_getElem b0]at g0
  rw[List.getElem?_eq_getElem b1]at g1
  rw[List.getElem?_eq_getElem b2]at g2
  simp only[show(((0+1:Nat)):Int)=1 from rfl,show(((1+1:Nat)):Int)=2 from rfl,show(((2+1:Nat)):Int)=3 from rfl]at g0 g1 g2
  rw[H4 (s':=((((i+1:Nat):Int),R++[(l[o+2+a1+(3*i+0)],l[o+2+a1+(3*i+1)],l[o+2+a1+(3*i+2)],())],(),()):Int×List Rw×Unit×Unit)) (by
   unfold q4t
   simp only[dcT (show(i:Int)<(a2:Int)by omega),cond_true,g0,g1,g2,Option.bind_some,q14 (x:=((l[o+2+a1+(3*i+0)],l[o+2+a1+(3*i+1)],l[o+2+a1+(3*i+2)],()):Rw)) (k:=24) (show R.length<=100000 by omega) (by decide),Bool.and_self,W7 (show i<=100000 by omega)])]
  refine z7g ha ho D k (i+1) _ (by omega) (by simp[hR]) ?_
  rw[List.flatMap_append,hf,show 3*(i+1)=3*i+1+1+1 by omega,q86 (by omega),q86 (by omega),q86 (by omega)]
  simp[H7]
theorem j71 (hI:∀ n∈l,I64 n) {c:Int} (h0:A9 l 0=some c) {D:List Df} {o k0:Nat} (hk:(k0:Int)<c) (hD:D.length=k0) (ho:o<=l.length) (hko:k0<=o) :
  A3 (L0 (l,())) ((D,(o:Int),(k0:Int),()):HS4)=some (.inl (([]:List Df),false,()))/\(∀ d r,DfOK d->l.drop o≠C5 d++r) \/
  ∃ d,DfOK d/\o+(C5 d).length<=l.length/\seg l o (C5 d).length=C5 d/\A3 (L0 (l,())) ((D,(o:Int),(k0:Int),()):HS4)=A3 (L0 (l,())) ((D++[d],((o+(C5 d).length:Nat):Int),((k0+1:Nat):Int),()):HS4):=by
 have hlt:=dcT hk
 have bad:∀ d r,DfOK d->l.drop o=C5 d++r->∃ a1 a2:Nat,a1<=4/\a2<=128/\l[o]? = some (a1:Int)/\o+1+a1<l.length/\(∀ n∈seg l (o+1) a1,Crd n)/\l[o+1+a1]? = some (a2:Int)/\o+1+a1+3*a2<l.length:=fun d r ok he=>by
  have e1:=ok.time
  have e2:=ok.len
  have hlen:(C5 d).length=2+d.1.length+3*d.2.1.length:=by
   rw[S9,List.length_append,List.length_append,List.length_append,z36]
   simp
   omega
  have hle:=congrArg List.length he
  rw[List.length_drop,List.length_append,hlen]at hle
  have hg:∀ j,l[o+j]? = (C5 d++r)[j]?:=fun j=>by rw[<-he,List.getElem?_drop]
  refine⟨d.1.length,d.2.1.length,e1,e2,?_,by omega,?_,?_,by omega⟩
  ·have:=hg 0;rw[Nat.add_zero]at this;rw[this,S9];simp
  ·have:seg l (o+1) d.1.length=d.1:=by
    unfold seg
    rw[<-List.drop_drop,he,S9];simp
   rw[this];exact ok.crd
  ·have:=hg (1+d.1.length)
   rw[show o+(1+d.1.length)=o+1+d.1.length by omega]at this
   rw[this,S9];simp[Nat.add_comm 1]
 by_cases ho1:o<l.length
 rotate_left
 ·left
  refine⟨C0 ?_,fun d r ok he=>?_⟩
  ·unfold L0
   simp only[h0,Option.bind_some,hlt,cond_true,dcT (show(o:Int)≥(l.length:Int)by omega)]
  ·obtain⟨a1,a2,-,-,h1,h2,-⟩:=bad d r ok he
   omega
 have hg:=J5 ho1
 have ge1:=dcF (show ¬ (o:Int)≥(l.length:Int)by omega)
 by_cases hv0:l[o]<0
 ·left
  refine⟨C0 ?_,fun d r ok he=>?_⟩
  ·unfold L0
   simp only[h0,Option.bind_some,hlt,cond_true,ge1,cond_false,hg,dcT hv0]
  ·obtain⟨a1,a2,-,-,h1,-⟩:=bad d r ok he
   rw[List.getElem?_eq_getElem ho1]at h1
   have h1:=Option.some.inj h1
   omega
 by_cases hv4:l[o]>4
 ·left
  refine⟨C0 ?_,fun d r ok he=>?_⟩
  ·unfold L0
   simp only[h0,Option.bind_some,hlt,cond_true,ge1,cond_false,hg,dcF hv0,dcT hv4]
  ·obtain⟨a1,a2,l1,-,h1,-⟩:=bad d r ok he
   rw[List.getElem?_eq_getElem ho1]at h1
   have h1:=Option.some.inj h1
   omega
 obtain⟨a1,ha1⟩:∃ a:Nat,l[o]=(a:Int):=⟨l[o].toNat,by omega⟩
 rw[ha1]at hg hv0 hv4
 have w1:IntKind.i64.wrap (IntKind.i64.wrap ((o:Int)+1)+(a1:Int))=((o+1+a1:Nat):Int):=by
  rw[wr (a:=(o:Int)+1) (n:=o+1) (by omega) (by omega),wr (n:=o+1+a1) (by omega) (by omega)]
 by_cases ho2:o+1+a1<l.length
 rotate_left
 ·left
  refine⟨C0 ?_,fun d r ok he=>?_⟩
  ·unfold L0
   simp only[h0,Option.bind_some,hlt,cond_true,ge1,cond_false,hg,dcF hv0,dcF hv4,w1,dcT (show((o+1+a1:Nat):Int)≥(l.length:Int)by omega)]
  ·obtain⟨b1,a2,l1,-,h1,h2,-⟩:=bad d r ok he
   rw[List.getElem?_eq_getElem ho1,ha1]at h1
   have h1:=Option.some.inj h1
   omega
 have ge2:=dcF (show ¬ ((o+1+a1:Nat):Int)≥(l.length:Int)by omega)
 have hT:=z7i hl (a1:=a1) (o:=o) (k0:=k0) (by omega) ho2 D [] a1 0 (by omega) (by rw[q87];intro n hn;cases hn)
 rw[q87]at hT
 rcases hT with⟨t',hT,hno⟩ | ⟨hT,hcrd⟩
 ·left
  have hT:A3 (q0c (l,()) (a1:Int) ((D,(o:Int),(k0:Int),()):HS4)) (((0:Int),([]:List Int),([]:List Rw),(),()):Int×List Int×List Rw×Unit×Unit)=_:=hT
  refine⟨C0 ?_,fun d r ok he=>?_⟩
  ·unfold L0
   simp only[h0,Option.bind_some,hlt,cond_true,ge1,cond_false,hg,dcF hv0,dcF hv4,w1,ge2,hT,Sum.elim_inl]
  ·obtain⟨b1,a2,l1,-,h1,h2,h3,-⟩:=bad d r ok he
   rw[List.getElem?_eq_getElem ho1,ha1]at h1
   have h1:=Option.some.inj h1
   obtain rfl:b1=a1:=by omega
   exact hno h3
 have hT:A3 (q0c (l,()) (a1:Int) ((D,(o:Int),(k0:Int),()):HS4)) (((0:Int),([]:List Int),([]:List Rw),(),()):Int×List Int×List Rw×Unit×Unit)=_:=hT
 have hg2:=J5 ho2
 by_cases hw0:l[o+1+a1]<0
 ·left
  refine⟨C0 ?_,fun d r ok he=>?_⟩
  ·unfold L0
   simp only[h0,Option.bind_some,hlt,cond_true,ge1,cond_false,hg,dcF hv0,dcF hv4,w1,ge2,hT,Sum.elim_inl,Sum.elim_inr,hg2,dcT hw0]
  ·obtain⟨b1,a2,l1,-,h1,h2,h3,h4,-⟩:=bad d r ok he
   rw[List.getElem?_eq_getElem ho1,ha1]at h1
   have h1:=Option.some.inj h1
   obtain rfl:b1=a1:=by omega
   rw[List.getElem?_eq_getElem ho2]at h4
   have h4:=Option.some.inj h4
   omega
 by_cases hw4:l[o+1+a1]>128
 ·left
  refine⟨C0 ?_,fun d r ok he=>?_⟩
  ·unfold L0
   simp only[h0,Option.bind_some,hlt,cond_true,ge1,cond_false,hg,dcF hv0,dcF hv4,w1,ge2,hT,Sum.elim_inl,Sum.elim_inr,hg2,dcF hw0,dcT hw4]
  ·obtain⟨b1,a2,l1,l2,h1,h2,h3,h4,-⟩:=bad d r ok he
   rw[List.getElem?_eq_getElem ho1,ha1]at h1
   have h1:=Option.some.inj h1
   obtain rfl:b1=a1:=by omega
   rw[List.getElem?_eq_getElem ho2]at h4
   have h4:=Option.some.inj h4
   omega
 obtain⟨a2,ha2⟩:∃ a:Nat,l[o+1+a1]=(a:Int):=⟨l[o+1+a1].toNat,by omega⟩
 rw[ha2]at hg2 hw0 hw4
 have w2:IntKind.i64.wrap (((o+1+a1:Nat):Int)+IntKind.i64.wrap (3*(a2:Int)))=((o+1+a1+3*a2:Nat):Int):=by
  rw[wr (a:=3*(a2:Int)) (n:=3*a2) (by omega) (by omega),wr (n:=o+1+a1+3*a2) (by omega) (by omega)]
 by_cases ho3:o+1+a1+3*a2<l.length
 rotate_left
 ·left
  refine⟨C0 ?_,fun d r ok he=>?_⟩
  ·unfold L0
   simp only[h0,Option.bind_some,hlt,cond_true,ge1,cond_false,hg,dcF hv0,dcF hv4,w1,ge2,hT,Sum.elim_inl,Sum.elim_inr,hg2,dcF hw0,dcF hw4,w2,dcT (show((o+1+a1+3*a2:Nat):Int)≥(l.length:Int)by omega)]
  ·obtain⟨b1,b2,l1,l2,h1,h2,h3,h4,h5⟩:=bad d r ok he
   rw[List.getElem?_eq_getElem ho1,ha1]at h1
   have h1:=Option.some.inj h1
   obtain rfl:b1=a1:=by omega
   rw[List.getElem?_eq_getElem ho2,ha2]at h4
   have h4:=Option.some.inj h4
   omega
 have ge3:=dcF (show ¬ ((o+1+a1+3*a2:Nat):Int)≥(l.length:Int)by omega)
 obtain⟨R,hR,hRl,hRf⟩:=z7g hl (a1:=a1) (a2:=a2) (o:=o) (k0:=k0) (by omega) (by omega) D a2 0 [] (by omega) rfl (by rw[Nat.mul_zero,q87];rfl)
 have hR:A3 (q4t (l,()) (a2:Int) ((D,(o:Int),(k0:Int),()):HS4) (a1:Int)) (((0:Int),([]:List Rw),(),()):Int×List Rw×Unit×Unit)=_:=hR
 have htl:(seg l (o+1) a1).length=a1:=q2q (by omega)
 have hnd:C5 (seg l (o+1) a1,R,())=seg l o (2+a1+3*a2):=by
  rw[S9]
  show([((seg l (o+1) a1).length:Int)]++seg l (o+1) a1)++([(R.length:Int)]++R.flatMap H7)=_
  rw[htl,hRl,hRf,show 2+a1+3*a2=(1+a1)+(1+3*a2)by omega,q85,q85 l o 1 a1,q85 l (o+(1+a1)) 1 (3*a2)]
  rw[j0l ho1,show seg l (o+(1+a1)) 1=[l[o+1+a1]]from by rw[show o+(1+a1)=o+1+a1 by omega];exact j0l ho2,ha1,ha2,show o+(1+a1)+1=o+2+a1 by omega]
 have hndl:(C5 (seg l (o+1) a1,R,())).length=2+a1+3*a2:=by rw[hnd,q2q (by omega)]
 right
 refine⟨(seg l (o+1) a1,R,()),⟨by show(seg l (o+1) a1).length<=4;omega,hcrd,by show R.length<=128;omega,fun x hx=>?_⟩,by rw[hndl];omega,by rw[hndl,hnd],?_⟩
 ·have hm:∀ n∈H7 x,I64 n:=fun n hn=>hI n (by
   have:n∈R.flatMap H7:=List.mem_flatMap.2 ⟨x,hx,hn⟩
   rw[hRf]at this
   exact List.mem_of_mem_drop (List.mem_of_mem_take this))
  exact⟨hm _ (by simp[H7]),hm _ (by simp[H7]),hm _ (by simp[H7])⟩
 ·rw[hndl]
  refine H4 ?_
  have w3:IntKind.i64.wrap (IntKind.i64.wrap (((o+1+a1:Nat):Int)+1)+IntKind.i64.wrap (3*(a2:Int)))=((o+(2+a1+3*a2):Nat):Int):=by
   rw[wr (a:=3*(a2:Int)) (n:=3*a2) (by omega) (by omega),wr (a:=((o+1+a1:Nat):Int)+1) (n:=o+1+a1+1) (by omega) (by omega),wr (n:=o+(2+a1+3*a2)) (by omega) (by omega)]
  unfold L0
  simp only[h0,Option.bind_some,hlt,cond_true,ge1,cond_false,hg,dcF hv0,dcF hv4,w1,ge2,hT,Sum.elim_inl,Sum.elim_inr,hg2,dcF hw0,dcF hw4,w2,ge3,hR,q14 (x:=((seg l (o+1) a1,R,()):Df)) (k:=48) (show D.length<=100000 by omega) (by decide),Bool.and_self,w3,W7 (show k0<=100000 by omega)]
end
end

end Go.Proofs.Try
