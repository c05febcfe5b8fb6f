/- Lemmas on functions of the program, by name. -/
import Derived.Test.YtkfjlcdaepckoaaBWFuns
import Derived.Test.YtkfjlcdaepckoaaAbsSums
import Derived.Test.YtkfjlcdaepckoaaBWLemmasWireGets1
namespace Go.Proofs.Try
section
open Go Go.Abs

def P6 (t:List Int):List (List Int)->List (List Int)
 | []=>[t]
 | u::l=>if C8 u t<0 then u::P6 t l else if u=t then u::l else t::u::l
def ltP (t:List Int) (u:List Int):Bool:=decide (C8 u t<0)
theorem z7n (t:List Int):∀ out:List (List Int),P6 t out=match out.dropWhile (ltP t)with
  | []=>out.takeWhile (ltP t)++[t]
  | u::l=>if u=t then out else out.takeWhile (ltP t)++t::u::l
 | []=>rfl
 | u::l=>by
  have ih:=z7n t l
  rw[P6,List.dropWhile_cons,List.takeWhile_cons]
  by_cases h:C8 u t<0
  ·have hp:ltP t u=true:=decide_eq_true h
   rw[if_pos h,if_pos hp,if_pos hp,ih]
   cases List.dropWhile (ltP t) l with
   | nil=>rfl
   | cons v m =>
    simp only
    split
    ·rfl
    ·rfl
  ·have hp:¬ ltP t u=true:=fun e=>h (of_decide_eq_true e)
   rw[if_neg h,if_neg hp,if_neg hp]
   rfl
theorem j2e {p:List Int->Bool}:∀ l:List (List Int),l.take (l.takeWhile p).length=l.takeWhile p
 | []=>rfl
 | u::l=>by
  rw[List.takeWhile_cons]
  split
  ·rw[List.length_cons,List.take_succ_cons,j2e l]
  ·rfl
theorem z5n {p:List Int->Bool}:∀ l:List (List Int),l.drop (l.takeWhile p).length=l.dropWhile p
 | []=>rfl
 | u::l=>by
  rw[List.takeWhile_cons,List.dropWhile_cons]
  split
  ·rw[List.length_cons,List.drop_succ_cons,z5n l]
  ·rfl
theorem y4g {p:List Int->Bool} (l:List (List Int)):(l.takeWhile p).length<=l.length:=(List.takeWhile_prefix p).length_le
theorem y3c {out:List (List Int)} {t:List Int} (z:Int×Unit) (hl:out.length<=30000000) (hp:∀ u∈out,q29 u t=ltP t u) :
  A3 (q2k (out,z) t) ((0:Int),())=some (.inl ((((out.takeWhile (ltP t)).length:Nat):Int),())):=by
 have key:∀ k i,i+k=out.length->A3 (q2k (out,z) t) ((i:Int),())=some (.inl (((i+((out.drop i).takeWhile (ltP t)).length:Nat):Int),())):=by
  intro k
  induction k with
  | zero =>
   intro i hi
   rw[C0 (b:=.inl ((i:Int),())) (by
    unfold q2k
    simp only[dcF (show ¬ (i:Int)<(out.length:Int)by omega),cond_false])]
   rw[List.drop_of_length_le (by omega)];rfl
  | succ k ih =>
   intro i hi
   have hlt:i<out.length:=by omega
   have hst:q2k (out,z) t ((i:Int),())=cond (ltP t out[i]) (some (.inl (((i+1:Nat):Int),()))) (some (.inr (.inl ((i:Int),())))):=by
    unfold q2k
    simp only[dcT (show(i:Int)<(out.length:Int)by omega),cond_true,Q4 hlt,Int.toNat_natCast,List.getElem?_eq_getElem hlt,Option.bind_some,y06,hp _ (List.getElem_mem hlt),G8 (show i<9223372036854775807 by omega)]
   rw[List.drop_eq_getElem_cons hlt,List.takeWhile_cons]
   cases hb:ltP t out[i]with
   | true =>
    rw[hb,cond_true]at hst
    rw[H4 hst,ih (i+1) (by omega)]
    simp only[if_true,List.length_cons]
    rw[show i+1+((out.drop (i+1)).takeWhile (ltP t)).length=i+(((out.drop (i+1)).takeWhile (ltP t)).length+1)by omega]
   | false =>
    rw[hb,cond_false]at hst
    rw[C0 hst];rfl
 have:=key out.length 0 (by omega)
 rw[List.drop_zero,Nat.zero_add]at this
 exact this
theorem j15 {out:List (List Int)} (z:Int×Unit) {m:Nat} (hm:m<=out.length) (hl:out.length<=30000000) :
  A3 (q4p ((m:Int),()) (out,z)) (([]:List (List Int)),(0:Int),())=some (.inl (out.take m,())):=by
 refine O1 m (fun i=>(out.take i,(i:Int),())) _ (fun i hi=>?_) ?_ rfl
 ·unfold q4p
  have hlt:i<out.length:=by omega
  have hlen:(out.take i).length+(0+1)=i+1:=by rw[List.length_take];omega
  simp only[dcT (show(i:Int)<(m:Int)by omega),cond_true,Q4 hlt,Int.toNat_natCast,List.getElem?_eq_getElem hlt,Option.bind_some,List.length_cons,List.length_nil,hlen,O5 (show i+1<=140737488355328 by omega) (show(i+1)*24<=140737488355328 by omega),G8 (show i<9223372036854775807 by omega),Bool.and_true]
  rw[List.take_succ_eq_append_getElem hlt]
 ·unfold q4p
  simp only[dcF (show ¬ (m:Int)<(m:Int)by omega),cond_false]
theorem j16 {out pre:List (List Int)} (z:Int×Unit) {m:Nat} (hm:m<=out.length) (hl:out.length<=30000000) (hp:pre.length<=30000000) :
  A3 (q4q (out,z)) (pre,(m:Int),())=some (.inl (pre++out.drop m,())):=by
 have e:pre++out.drop m=pre++(out.drop m).take (out.length-m):=by rw[List.take_of_length_le (by rw[List.length_drop];omega)]
 rw[e]
 refine O1 (out.length-m) (fun i=>(pre++(out.drop m).take i,((m+i:Nat):Int),())) _ (fun i hi=>?_) ?_ (by simp)
 ·unfold q4q
  have hlt:m+i<out.length:=by omega
  have hlt2:i<(out.drop m).length:=by rw[List.length_drop];omega
  have hlen:(pre++(out.drop m).take i).length+(0+1)=pre.length+i+1:=by rw[List.length_append,List.length_take,List.length_drop];omega
  simp only[dcT (show((m+i:Nat):Int)<(out.length:Int)by omega),cond_true,Q4 hlt,Int.toNat_natCast,List.getElem?_eq_getElem hlt,Option.bind_some,List.length_cons,List.length_nil,hlen,O5 (show pre.length+i+1<=140737488355328 by omega) (show(pre.length+i+1)*24<=140737488355328 by omega),G8 (show m+i<9223372036854775807 by omega),Bool.and_true]
  rw[List.take_succ_eq_append_getElem hlt2,List.getElem_drop,List.append_assoc]
  rfl
 ·unfold q4q
  simp only[dcF (show ¬ ((m+(out.length-m):Nat):Int)<(out.length:Int)by omega),cond_false]
theorem j7h:z9k=q4p:=rfl
theorem j7i:z9l=q4q:=rfl
theorem z7m (t:List Int):∀ out:List (List Int),(P6 t out).length<=out.length+1
 | []=>Nat.le_refl _
 | u::l=>by
  have:=z7m t l
  simp only[P6]
  split
  ·simp only[List.length_cons];omega
  ·split<;>simp only[List.length_cons]<;>omega
theorem ins_mem {t v:List Int}:∀ {out:List (List Int)},v∈P6 t out↔v=t\/v∈out
 | []=>by simp[P6]
 | u::l=>by
  have ih:=ins_mem (t:=t) (v:=v) (out:=l)
  simp only[P6]
  split
  ·rw[List.mem_cons,ih,List.mem_cons]
   constructor
   ·rintro (h | h | h)
    ·exact .inr (.inl h)
    ·exact .inl h
    ·exact .inr (.inr h)
   ·rintro (h | h | h)
    ·exact .inr (.inl h)
    ·exact .inl h
    ·exact .inr (.inr h)
  ·split
   ·rename_i h
    rw[List.mem_cons,<-h]
    constructor
    ·exact fun h=>.inr h
    ·rintro (h | h)
     ·exact .inl h
     ·exact h
   ·rw[List.mem_cons]
theorem z7o {t:List Int}:∀ {out:List (List Int)},out.Pairwise (fun a b=>C8 a b<0)->(P6 t out).Pairwise fun a b=>C8 a b<0
 | [],_=>by simp[P6]
 | u::l,h=>by
  have h1:=List.pairwise_cons.1 h
  simp only[P6]
  split
  ·rename_i hu
   rw[List.pairwise_cons]
   refine⟨fun v hv=>?_,z7o h1.2⟩
   rcases ins_mem.1 hv with rfl | hv
   ·exact hu
   ·exact h1.1 v hv
  ·rename_i hu
   split
   ·exact h
   ·rename_i hne
    have htu:C8 t u<0:=by
     have h2:=q9m u t
     have h3:C8 u t≠0:=fun e=>hne (cmpL_eq.1 e)
     omega
    rw[List.pairwise_cons]
    refine⟨fun v hv=>?_,h⟩
    rcases List.mem_cons.1 hv with rfl | hv
    ·exact htu
    ·exact q3e htu (h1.1 v hv)
def I4 (l:List (List Int)):List (List Int):=l.foldl (fun out t=>P6 t out) []
theorem z6w (l:List (List Int)) (t:List Int):I4 (l++[t])=P6 t (I4 l):=by
 unfold I4;rw[List.foldl_append];rfl
theorem q17 (l:List (List Int)):(I4 l).length<=l.length/\(∀ v,v∈I4 l↔v∈l)/\(I4 l).Pairwise fun a b=>C8 a b<0:=by
 have key:∀ k,k<=l.length->(I4 (l.take k)).length<=k/\(∀ v,v∈I4 (l.take k)↔v∈l.take k)/\(I4 (l.take k)).Pairwise fun a b=>C8 a b<0:=by
  intro k
  induction k with
  | zero=>intro _;rw[List.take_zero];exact⟨Nat.le_refl _,fun v=>Iff.rfl,List.Pairwise.nil⟩
  | succ k ih =>
   intro hk
   obtain⟨h1,h2,h3⟩:=ih (by omega)
   rw[List.take_succ_eq_append_getElem (by omega),z6w]
   refine⟨Nat.le_trans (z7m _ _) (by omega),fun v=>?_,z7o h3⟩
   rw[ins_mem,h2,List.mem_append,List.mem_singleton]
   exact Or.comm
 have:=key l.length (Nat.le_refl _)
 rwa [List.take_length]at this
theorem y08 {l:List (List Int)} (hl:l.length<=20000000) (d:Nat) (hf:∀ t∈l,chk t=0/\t.length=d):q7r (l,())=some (I4 l,()):=by
 have key:A3 (q7s (l,())) (([]:List (List Int)),(0:Int),())=some (.inl (I4 l,())):=by
  refine O1 l.length (fun i=>(I4 (l.take i),(i:Int),())) _ (fun i hi=>?_) ?_ rfl
  ·have hfi:=hf l[i] (List.getElem_mem hi)
   obtain⟨s1,s2,s3⟩:=q17 (l.take i)
   have hso:(I4 (l.take i)).length<=20000000:=by rw[List.length_take]at s1;omega
   have hok:∀ u∈I4 (l.take i),chk u=0/\u.length=d:=fun u hu=>hf u (List.mem_of_mem_take ((s2 u).1 hu))
   have hless:∀ u∈I4 (l.take i),q29 u l[i]=ltP l[i] u:=fun u hu=>by
    have:=hok u hu
    rw[j7k (by omega) this.1 hfi.1];rfl
   rw[List.take_succ_eq_append_getElem hi,z6w]
   generalize I4 (l.take i)=out at *
   unfold q7s
   have hw:=y4g (p:=ltP l[i]) out
   have k1:=y3c (((i:Int),())) (show out.length<=30000000 by omega) hless
   have hsplit:=z7n l[i] out
   have htw:=j2e (p:=ltP l[i]) out
   have hdw:=z5n (p:=ltP l[i]) out
   simp only[dcT (show(i:Int)<(l.length:Int)by omega),cond_true,J5 hi,Option.bind_some,k1,Sum.elim_inl,G8 (show i<9223372036854775807 by omega)]
   have hr:∀ n:Nat,n<=30000000->C1 (n+(0+1)) 24=true:=fun n hn=>O5 (by omega) (by omega)
   by_cases hat:(out.takeWhile (ltP l[i])).length<out.length
   ·rw[List.drop_eq_getElem_cons hat]at hdw
    rw[<-hdw]at hsplit
    simp only at hsplit
    have hlen:(out[(out.takeWhile (ltP l[i])).length]).length<=1000000:=by
     have:=(hok _ (List.getElem_mem hat)).1
     have:=(q5p this).2.1
     omega
    simp only[dcT (show(((out.takeWhile (ltP l[i])).length:Nat):Int)<(out.length:Int)by omega),cond_true,Q4 hat,Int.toNat_natCast,List.getElem?_eq_getElem hat,Option.bind_some,z2x hlen]
    by_cases he:out[(out.takeWhile (ltP l[i])).length]=l[i]
    ·rw[if_pos he]at hsplit
     rw[decide_eq_true he,cond_true,hsplit]
    ·rw[if_neg he]at hsplit
     rw[decide_eq_false he,cond_false,j15 _ hw (by omega),Option.bind_some,Sum.elim_inl]
     simp only[List.length_cons,List.length_nil]
     rw[hr _ (by rw[List.length_take];omega)]
     simp only[Bool.and_true,cond_true]
     rw[j16 _ hw (by omega) (by rw[List.length_append,List.length_take];simp only[List.length_cons,List.length_nil];omega),Option.bind_some,Sum.elim_inl,hsplit,htw]
     rw[List.append_assoc,List.drop_eq_getElem_cons hat]
     rfl
   ·have hd0:out.drop (out.takeWhile (ltP l[i])).length=[]:=List.drop_of_length_le (by omega)
    rw[hd0]at hdw
    rw[<-hdw]at hsplit
    simp only at hsplit
    simp only[dcF (show ¬ (((out.takeWhile (ltP l[i])).length:Nat):Int)<(out.length:Int)by omega),cond_false]
    rw[j7h,j15 _ hw (by omega),Option.bind_some,Sum.elim_inl]
    simp only[List.length_cons,List.length_nil]
    rw[hr _ (by rw[List.length_take];omega)]
    simp only[Bool.and_true,cond_true]
    rw[j7i,j16 _ hw (by omega) (by rw[List.length_append,List.length_take];simp only[List.length_cons,List.length_nil];omega),Option.bind_some,Sum.elim_inl,hsplit,htw,hd0,List.append_nil]
  ·unfold q7s
   simp only[dcF (show ¬ (l.length:Int)<(l.length:Int)by omega),cond_false,List.take_length]
 unfold q7r
 rw[key];rfl
end

section
open Go Go.Abs

abbrev HKy:=Int×(Int×Int×Int×Int×Unit)×Unit
abbrev HT:Ty:=.cons (.int .i64) (.cons (.cons (.int .i64) (.cons (.int .i64) (.cons (.int .i64) (.cons (.int .i64) .nil)))) .nil)
theorem N7:HT.flat=true:=rfl
def G1 (t:List Int):HKy:=((t.length:Int),((t[0]?).getD 0,(t[1]?).getD 0,(t[2]?).getD 0,(t[3]?).getD 0,()),())
def q55 (k:HKy):List Int:=([k.2.1.1,k.2.1.2.1,k.2.1.2.2.1,k.2.1.2.2.2.1]:List Int).take k.1.toNat
theorem q0f {t:List Int} (h:t.length<=4):q55 (G1 t)=t:=by
 match t,h with
 | [],_=>rfl
 | [a],_=>rfl
 | [a,b],_=>rfl
 | [a,b,c],_=>rfl
 | [a,b,c,d],_=>rfl
 | _::_::_::_::_::_,h=>simp at h
theorem j7d {t u:List Int} (ht:t.length<=4) (hu:u.length<=4) (h:G1 t=G1 u):t=u:=by
 rw[<-q0f ht,h,q0f hu]
end

section
open Go Go.Abs

abbrev Df:=List Int×List Rw×Unit
abbrev Hm:=List (HKy×Option Bg)
theorem j7c (t:List Int):q9s (t,())=some (G1 t,()):=rfl
section
variable {t:Ty} {β:Type}
open Classical in
theorem z26 (hf:t.flat=true) (k j:t.den) (x:β):∀ l:List (t.den×β),B4 t (J1 t l k x) j=if j=k then(B4 t l k).map (fun _=>x)else B4 t l j
 | []=>by
  by_cases h:j=k
  ·rw[if_pos h];rfl
  ·rw[if_neg h];rfl
 | p::r=>by
  have ih:=z26 hf k j x r
  unfold B4 J1 at ih ⊢
  rw[List.map_cons,List.find?_cons,List.find?_cons,List.find?_cons]
  cases hk:t.eqb k p.1 with
  | true =>
   have e:=(t.eqb_iff hf _ _).1 hk
   subst e
   simp only[cond_true]
   by_cases h:j=p.1
   ·subst h
    rw[t.eqb_self hf,if_pos rfl];rfl
   ·have hj:t.eqb j p.1=false:=by
     cases hq:t.eqb j p.1 with
     | false=>rfl
     | true=>exact absurd ((t.eqb_iff hf _ _).1 hq) h
    rw[hj,if_neg h]
    rw[if_neg h]at ih
    exact ih
  | false =>
   simp only[cond_false]
   cases hj:t.eqb j p.1 with
   | true =>
    have e:=(t.eqb_iff hf _ _).1 hj
    subst e
    rw[if_neg (fun h=>by rw[<-h,t.eqb_self hf]at hk;cases hk)]
   | false=>exact ih
theorem z8h (hf:t.flat=true) {l m:List (t.den×β)} (hl:Rise t l) (hm:Rise t m) (h:∀ k,B4 t l k=B4 t m k):l=m:=by
 have nd:∀ {l:List (t.den×β)},Rise t l->l.Nodup:=fun h=>List.Pairwise.imp (fun {a b} hab e=>hab (by rw[e])) (h.ne hf)
 refine j00 hf hl hm ((List.perm_ext_iff_of_nodup (nd hl) (nd hm)).2 fun p=>?_)
 have h1:=K4 hf hl (k:=p.1) (v:=p.2)
 have h2:=K4 hf hm (k:=p.1) (v:=p.2)
 rw[h p.1]at h1
 exact h1.symm.trans h2
theorem j9x (hf:t.flat=true) {l:List (t.den×β)} (hl:Rise t l) (k:t.den) (a b:β):J1 t (A8 t l k a) k b=A8 t l k b:=by
 have h1:=O2 hf (k:=k) (v:=a) hl
 refine z8h hf (z27 h1 k b) (O2 hf hl) fun j=>?_
 rw[z26 hf]
 by_cases h:j=k
 ·subst h;rw[if_pos rfl,U1 hf,U1 hf];rfl
 ·rw[if_neg h,U0 hf _ _ _ _ h,U0 hf _ _ _ _ h]
theorem j9y (hf:t.flat=true) {l:List (t.den×β)} (hl:Rise t l) {k:t.den} {a:β} (hg:B4 t l k=some a) (b:β):J1 t l k b=A8 t l k b:=by
 refine z8h hf (z27 hl k b) (O2 hf hl) fun j=>?_
 rw[z26 hf]
 by_cases h:j=k
 ·subst h;rw[if_pos rfl,U1 hf,hg];rfl
 ·rw[if_neg h,U0 hf _ _ _ _ h]
end
def H8 (D:List Df) (t:List Int):List Rw:=D.flatMap fun d=>if d.1=t then d.2.1 else []
def B7 (D:List Df) (t:List Int):Bg:=E9 ((H8 D t).map (sc 1)) []
structure HIs (D:List Df) (H:Hm):Prop where
 rise:Rise HT H
 get:∀ t,t.length<=4->B4 HT H (G1 t)=if t∈D.map (·.1)then some (some (B7 D t))else none
 keys:∀ p∈H,∃ t∈D.map (·.1),p.1=G1 t
theorem z37 (D:List Df) (d:Df) (t:List Int):H8 (D++[d]) t=H8 D t++(if d.1=t then d.2.1 else []):=by
 unfold H8
 rw[List.flatMap_append]
 simp
theorem j04 {D:List Df} {t:List Int} (h:t∉D.map (·.1)):H8 D t=[]:=by
 unfold H8
 rw[List.flatMap_eq_nil_iff]
 intro d hd
 rw[if_neg (fun e=>h (List.mem_map.2 ⟨d,hd,e⟩))]
theorem j4v {D:List Df} {t:List Int} (h:t∉D.map (·.1)):B7 D t=[]:=by
 unfold B7;rw[j04 h];rfl
theorem j4w (D:List Df) (d:Df):B7 (D++[d]) d.1=E9 (d.2.1.map (sc 1)) (B7 D d.1):=by
 unfold B7
 rw[z37,if_pos rfl,List.map_append,j4x]
theorem j6z {D:List Df} {H:Hm} (h:HIs D H) {d:Df} (h4:∀ e∈D++[d],e.1.length<=4):HIs (D++[d]) (A8 HT H (G1 d.1) (some (E9 (d.2.1.map (sc 1)) (B7 D d.1)))) where
 rise:=O2 N7 h.rise
 get t ht:=by
  have hd:d.1.length<=4:=h4 d (by simp)
  by_cases e:t=d.1
  ·subst e
   rw[U1 N7,if_pos (by simp),j4w]
  ·rw[U0 N7 _ _ _ _ (fun e2=>e (j7d ht hd e2)),h.get t ht]
   have hm:t∈(D++[d]).map (·.1)↔t∈D.map (·.1):=by
    rw[List.map_append,List.mem_append]
    refine⟨fun h=>h.elim (fun h=>h) (fun h=>absurd (by simpa using h) e),.inl⟩
   have hb:B7 (D++[d]) t=B7 D t:=by
    unfold B7
    rw[z37,if_neg (fun e2=>e e2.symm),List.append_nil]
   by_cases hq:t∈D.map (·.1)
   ·rw[if_pos hq,if_pos (hm.2 hq),hb]
   ·rw[if_neg hq,if_neg (fun h=>hq (hm.1 h))]
 keys p hp:=by
  by_cases hk:p.1=G1 d.1
  ·exact⟨d.1,by simp,hk⟩
  ·have h1:B4 HT (A8 HT H (G1 d.1) (some (E9 (d.2.1.map (sc 1)) (B7 D d.1)))) p.1=some p.2:=(K4 N7 (O2 N7 h.rise)).2 hp
   rw[U0 N7 _ _ _ _ hk]at h1
   obtain⟨t,ht,he⟩:=h.keys p ((K4 N7 h.rise).1 h1)
   exact⟨t,by rw[List.map_append];exact List.mem_append_left _ ht,he⟩
theorem j2l (d:Df) (m:Bg) (hl:d.2.1.length<=3000000000000):A3 (q3h d) ((0:Int),m,())=some (.inl (E9 (d.2.1.map (sc 1)) m,())):=by
 refine O1 d.2.1.length (fun i=>((i:Int),E9 ((d.2.1.take i).map (sc 1)) m,())) _ (fun i hi=>?_) ?_ rfl
 ·unfold q3h
  simp only[dcT (show(i:Int)<(d.2.1.length:Int)by omega),cond_true,I2,List.getElem?_eq_getElem hi,Option.bind_some,G8 (show i<9223372036854775807 by omega)]
  rw[show E9 ((d.2.1.take (i+1)).map (sc 1)) m=U7 (E9 ((d.2.1.take i).map (sc 1)) m) (B1 d.2.1[i]) (W (1*d.2.1[i].2.2.1))from j4z d.2.1 1 m hi]
  unfold U7 nOf W B1
  cases hq:(((B4 KT (A8 KT (F4 KT (E9 ((d.2.1.take i).map (sc 1)) m) (d.2.1[i].1,d.2.1[i].2.1,()) 0) (d.2.1[i].1,d.2.1[i].2.1,()) (IntKind.i64.wrap (((B4 KT (E9 ((d.2.1.take i).map (sc 1)) m) (d.2.1[i].1,d.2.1[i].2.1,())).getD 0)+IntKind.i64.wrap (1*d.2.1[i].2.2.1)))) (d.2.1[i].1,d.2.1[i].2.1,())).getD 0)==0)with
  | true=>simp only[cond_true]
  | false=>simp only[cond_false]
 ·unfold q3h
  simp only[dcF (show ¬ (d.2.1.length:Int)<(d.2.1.length:Int)by omega),cond_false,List.take_length]
theorem y3x {D:List Df} (hl:D.length<=3000000000000) (hr:∀ d∈D,d.1.length<=4/\d.2.1.length<=3000000000000) {i:Nat} (hi:i<D.length) {H:Hm} (h:HIs (D.take i) H) :
  q3i (D,()) ((i:Int),H,())=some (.inl (((i+1:Nat):Int),A8 HT H (G1 D[i].1) (some (E9 (D[i].2.1.map (sc 1)) (B7 (D.take i) D[i].1))),())):=by
 obtain⟨h4,hrl⟩:=hr D[i] (List.getElem_mem hi)
 have hg:=h.get D[i].1 h4
 unfold q3i
 simp only[dcT (show(i:Int)<(D.length:Int)by omega),cond_true,I2,List.getElem?_eq_getElem hi,Option.bind_some,G8 (show i<9223372036854775807 by omega),j7c]
 by_cases hm:D[i].1∈(D.take i).map (·.1)
 ·rw[if_pos hm]at hg
  rw[show B4 HT H (G1 D[i].1)=_ from hg]
  simp only[Option.getD_some,q0w]
  rw[show J1 HT H (G1 D[i].1) (some (B7 (D.take i) D[i].1))=H from z8d N7 h.rise hg,show B4 HT H (G1 D[i].1)=_ from hg]
  simp only[Option.getD_some]
  rw[show z5m=q3h from rfl,j2l _ _ hrl]
  simp only[Option.bind_some,Sum.elim_inl]
  rw[show J1 HT H (G1 D[i].1) (some (E9 (D[i].2.1.map (sc 1)) (B7 (D.take i) D[i].1)))=_ from j9y N7 h.rise hg _]
 ·rw[if_neg hm]at hg
  rw[show B4 HT H (G1 D[i].1)=_ from hg]
  simp only[Option.getD_none,q0w]
  rw[show B4 HT (A8 HT H (G1 D[i].1) (some ([]:Bg))) (G1 D[i].1)=_ from U1 N7 _ _ _]
  simp only[Option.getD_some]
  rw[j2l _ _ hrl]
  simp only[Option.bind_some,Sum.elim_inl]
  rw[show J1 HT (A8 HT H (G1 D[i].1) (some ([]:Bg))) (G1 D[i].1) (some (E9 (D[i].2.1.map (sc 1)) []))=_ from j9x N7 h.rise _ _ _,j4v hm]
def P4 (D:List Df):Nat->Hm
 | 0=>[]
 | i+1=>match D[i]? with
  | some d=>A8 HT (P4 D i) (G1 d.1) (some (E9 (d.2.1.map (sc 1)) (B7 (D.take i) d.1)))
  | none=>P4 D i
theorem z1p {D:List Df} (h4:∀ d∈D,d.1.length<=4):∀ i,i<=D.length->HIs (D.take i) (P4 D i)
 | 0,_=>⟨List.Pairwise.nil,fun t _=>rfl,fun p hp=>by cases hp⟩
 | i+1,h=>by
  have hi:i<D.length:=h
  have ih:=z1p h4 i (by omega)
  rw[List.take_succ_eq_append_getElem hi]
  unfold P4
  rw[List.getElem?_eq_getElem hi]
  refine j6z ih fun e he=>h4 e ?_
  rcases List.mem_append.1 he with he | he
  ·exact List.mem_of_mem_take he
  ·rw[List.mem_singleton.1 he];exact List.getElem_mem hi
theorem y3v {D:List Df} (hl:D.length<=3000000000000) (hr:∀ d∈D,d.1.length<=4/\d.2.1.length<=3000000000000):A3 (q3i (D,())) ((0:Int),([]:Hm),())=some (.inl (P4 D D.length,())):=by
 refine O1 D.length (fun i=>((i:Int),P4 D i,())) _ (fun i hi=>?_) ?_ rfl
 ·rw[y3x hl hr hi (z1p (fun d hd=>(hr d hd).1) i (by omega))]
  show _=some (Sum.inl (_,(match D[i]? with
   | some d=>A8 HT (P4 D i) (G1 d.1) (some (E9 (d.2.1.map (sc 1)) (B7 (D.take i) d.1)))
   | none=>P4 D i),()))
  rw[List.getElem?_eq_getElem hi]
 ·unfold q3i
  simp only[dcF (show ¬ (D.length:Int)<(D.length:Int)by omega),cond_false]
end

section
open Go Go.Abs

def up (l:List (List Int)):Prop:=l.Pairwise fun a b=>C8 a b<0
end

section
open Go Go.Abs

theorem z4c {E σ β γ:Type} {L:List E} {st:E->σ->σ} {I:Nat->σ->Prop} {k:β->Option γ} {f:List E->E->σ->Option (σ⊕β)} {g:σ->Option (σ⊕β)} {hh:σ->β} {c:γ} (hf:∀ r e y n,e∈L->I (n+1) y->f r e y=some (.inl (st e y))/\I n (st e y)) (hg:∀ y,g y=some (.inr (hh y))) :
  ∀ (n:Nat) (l:List E) (y:σ),l.length=n->(∀ e∈l,e∈L)->I n y->(∀ ord:List E,ord.Perm l->k (hh (ord.foldl (fun y e=>st e y) y))=some c)->q0i f g k n l y c
 | 0,l,y,hl,_,_,h=>by
  have:l=[]:=List.eq_nil_of_length_eq_zero hl
  subst this
  exact⟨hh y,hg y,h [] (List.Perm.refl _)⟩
 | n+1,[],y,hl,_,_,_=>by simp at hl
 | n+1,e::l,y,hl,hL,hi,h=>by
  intro p r hp
  have hpm:p∈e::l:=hp.symm.mem_iff.1 List.mem_cons_self
  obtain⟨h1,h2⟩:=hf r p y n (hL p hpm) hi
  refine .inr ⟨_,h1,z4c hf hg n r (st p y) ?_ (fun x hx=>hL x (hp.symm.mem_iff.1 (List.mem_cons_of_mem _ hx))) h2 fun ord ho=>?_⟩
  ·have:=hp.length_eq
   simp only[List.length_cons]at this hl
   omega
  ·exact h (p::ord) ((ho.cons p).trans hp.symm)
abbrev Hb:=List (HKy×Bg)
def ent (p:HKy×Bg):Df:=(q55 p.1,p.2.map toR,())
def neB (p:HKy×Bg):Bool:=!p.2.isEmpty
def q2x (l:Hb):Nat:=(l.map fun p=>p.2.length).sum
abbrev Tst:=List Df×Int×Unit
def tst (p:HKy×Bg) (y:Tst):Tst:=cond (neB p) (y.1++[ent p],y.2.1+(p.2.length:Int),()) y
theorem j2s:∀ (l:Hb) (y:Tst),l.foldl (fun y e=>tst e y) y=(y.1++(l.filter neB).map ent,y.2.1+(q2x l:Int),())
 | [],y=>by simp[q2x]
 | p::l,y=>by
  rw[List.foldl_cons,j2s l]
  unfold tst q2x
  rw[List.map_cons,List.sum_cons]
  cases hp:neB p with
  | true =>
   rw[cond_true,List.filter_cons_of_pos (by simpa using hp),List.map_cons,List.append_assoc]
   simp only[List.singleton_append]
   rw[show y.2.1+(p.2.length:Int)+((l.map fun p=>p.2.length).sum:Nat)=y.2.1+((p.2.length+(l.map fun p=>p.2.length).sum:Nat):Int)by omega]
  | false =>
   have h0:p.2.length=0:=by
    unfold neB at hp
    simp at hp
    rw[hp];rfl
   rw[cond_false,List.filter_cons_of_neg (by simp[hp]),h0,Nat.zero_add]
def L7 (D:List Df) (t:List Int):Option Df:=cond (B7 D t).isEmpty none (some (t,(B7 D t).map toR,()))
def D9 (D:List Df):List Df:=(I4 (D.map (·.1))).filterMap (L7 D)
def D1 (l:List Df):Nat:=(l.map fun d=>d.2.1.length).sum
structure MIs (D:List Df) (M:Hb):Prop where
 nd:M.Nodup
 mem:∀ p,p∈M↔∃ t∈D.map (·.1),p=(G1 t,B7 D t)
theorem z3q (D:List Df):(D9 D).Nodup:=by
 have hs:=(q17 (D.map (·.1))).2.2
 have hp:(D9 D).Pairwise fun a b=>C8 a.1 b.1<0:=by
  unfold D9
  rw[List.pairwise_filterMap]
  refine hs.imp fun {a b} hab x hx y hy=>?_
  unfold L7 at hx hy
  cases ha:(B7 D a).isEmpty with
  | true=>rw[ha]at hx;cases hx
  | false =>
   cases hb:(B7 D b).isEmpty with
   | true=>rw[hb]at hy;cases hy
   | false =>
    rw[ha]at hx;rw[hb]at hy
    cases hx;cases hy
    exact hab
 exact hp.imp fun {a b} hab e=>by rw[e]at hab;exact Z3 _ hab
theorem q8i (D:List Df):(D9 D).Pairwise fun a b=>C8 a.1 b.1<0:=by
 have hs:=(q17 (D.map (·.1))).2.2
 unfold D9
 rw[List.pairwise_filterMap]
 refine hs.imp fun {a b} hab x hx y hy=>?_
 unfold L7 at hx hy
 cases ha:(B7 D a).isEmpty with
 | true=>rw[ha]at hx;cases hx
 | false =>
  cases hb:(B7 D b).isEmpty with
  | true=>rw[hb]at hy;cases hy
  | false =>
   rw[ha]at hx;rw[hb]at hy
   cases hx;cases hy
   exact hab
theorem tidyL_mem {D:List Df} {d:Df}:d∈D9 D↔∃ t∈D.map (·.1),(B7 D t).isEmpty=false/\d=(t,(B7 D t).map toR,()):=by
 unfold D9
 rw[List.mem_filterMap]
 have hs:=(q17 (D.map (·.1))).2.1
 constructor
 ·rintro ⟨t,ht,he⟩
  unfold L7 at he
  cases hb:(B7 D t).isEmpty with
  | true=>rw[hb]at he;cases he
  | false=>rw[hb]at he;cases he;exact⟨t,(hs t).1 ht,hb,rfl⟩
 ·rintro ⟨t,ht,hb,rfl⟩
  exact⟨t,(hs t).2 ht,by unfold L7;rw[hb];rfl⟩
theorem j2g {D:List Df} (h4:∀ t∈D.map (·.1),t.length<=4) {M ord:Hb} (hM:MIs D M) (ho:ord.Perm M):((ord.filter neB).map ent).Perm (D9 D):=by
 have hnd:(ord.filter neB).Nodup:=List.Pairwise.filter _ (ho.nodup_iff.2 hM.nd)
 have hinj:∀ p∈ord.filter neB,∀ q∈ord.filter neB,ent p=ent q->p=q:=fun p hp q hq e=>by
  obtain⟨t,ht,rfl⟩:=(hM.mem p).1 (ho.mem_iff.1 (List.mem_filter.1 hp).1)
  obtain⟨u,hu,rfl⟩:=(hM.mem q).1 (ho.mem_iff.1 (List.mem_filter.1 hq).1)
  have:q55 (G1 t)=q55 (G1 u):=congrArg Prod.fst e
  rw[q0f (h4 t ht),q0f (h4 u hu)]at this
  rw[this]
 have hmn:((ord.filter neB).map ent).Nodup:=by
  unfold List.Nodup
  rw[List.pairwise_map]
  exact List.Pairwise.imp_of_mem (fun {a b} ha hb hab e=>hab (hinj a ha b hb e)) hnd
 refine(List.perm_ext_iff_of_nodup hmn (z3q D)).2 fun d=>?_
 rw[tidyL_mem,List.mem_map]
 constructor
 ·rintro ⟨p,hp,rfl⟩
  obtain⟨t,ht,rfl⟩:=(hM.mem p).1 (ho.mem_iff.1 (List.mem_filter.1 hp).1)
  have hn:=(List.mem_filter.1 hp).2
  unfold neB at hn
  exact⟨t,ht,by simpa using hn,by unfold ent;rw[q0f (h4 t ht)]⟩
 ·rintro ⟨t,ht,hb,rfl⟩
  exact⟨(G1 t,B7 D t),List.mem_filter.2 ⟨ho.mem_iff.2 ((hM.mem _).2 ⟨t,ht,rfl⟩),by unfold neB;rw[hb];rfl⟩,by unfold ent;rw[q0f (h4 t ht)]⟩
theorem j2t:∀ l:Hb,D1 ((l.filter neB).map ent)=q2x l
 | []=>rfl
 | p::l=>by
  have ih:=j2t l
  unfold D1 q2x at ih ⊢
  cases hp:neB p with
  | true =>
   rw[List.filter_cons_of_pos (by simpa using hp),List.map_cons,List.map_cons,List.sum_cons,ih,List.map_cons,List.sum_cons]
   unfold ent
   rw[List.length_map]
  | false =>
   have h0:p.2.length=0:=by
    unfold neB at hp
    simp at hp
    rw[hp];rfl
   rw[List.filter_cons_of_neg (by simp[hp]),ih,List.map_cons,List.sum_cons,h0,Nat.zero_add]
theorem j8g {l m:List Df} (h:l.Perm m):D1 l=D1 m:=(h.map _).sum_nat
theorem j2f {a b:Df} (ha:a.1.length<=1000000):q1t (a,b,())=some (C8 a.1 b.1,()):=by
 unfold q1t
 rw[y3a ha];rfl
theorem y3r {D:List Df} (h4:∀ t∈D.map (·.1),t.length<=4) {z:List Df} (hz:z.Perm (D9 D)):R0 (fun a b=>(q1t (a,b,())).map fun r=>r.1) z=some (D9 D):=by
 have hlen:∀ x∈z,x.1.length<=1000000:=fun x hx=>by
  obtain⟨t,ht,-,rfl⟩:=tidyL_mem.1 (hz.mem_iff.1 hx)
  have:=h4 t ht
  show t.length<=_
  omega
 have hlt:∀ x∈z,∀ y:Df,ltF (fun a b=>(q1t (a,b,())).map fun r=>r.1) x y↔C8 x.1 y.1<0:=fun x hx y=>by
  unfold ltF
  simp only[j2f (hlen x hx),Option.map_some]
  exact⟨fun ⟨v,h1,h2⟩=>by cases h1;exact h2,fun h=>⟨_,rfl,h⟩⟩
 have huniq:∀ x∈z,∀ y∈z,x.1=y.1->x=y:=by
  intro x hx y hy e
  obtain⟨t,ht,-,rfl⟩:=tidyL_mem.1 (hz.mem_iff.1 hx)
  obtain⟨u,hu,-,rfl⟩:=tidyL_mem.1 (hz.mem_iff.1 hy)
  have e:t=u:=e
  rw[e]
 refine j13 ⟨fun x hx y _=>⟨_,by rw[j2f (hlen x hx)];rfl⟩,fun x hx=>?_,fun x hx y hy w _=>?_,fun x hx y hy h1 h2=>?_⟩ hz.symm ?_
 ·rw[hlt x hx];exact Z3 _
 ·rw[hlt x hx,hlt x hx,hlt y hy];exact q3e
 ·rw[hlt x hx]at h1
  rw[hlt y hy]at h2
  refine huniq x hx y hy (cmpL_eq.1 ?_)
  rw[q9m]at h2
  omega
 ·unfold Srt
  refine List.Pairwise.imp_of_mem (fun {a b} ha hb hab=>?_) (q8i D)
  rw[hlt b (hz.mem_iff.2 hb)]
  intro hba
  exact Z3 _ (q3e hab hba)
end

section
open Go Go.Abs

def q0j (H:Hm):Hb:=H.map fun p=>(p.1,p.2.getD [])
theorem z4f:∀ {H:Hm},(∀ p∈H,∃ b,p.2=some b)->W4 H=some (q0j H)
 | [],_=>rfl
 | (k,v)::r,h=>by
  obtain⟨b,hb⟩:=h (k,v) List.mem_cons_self
  have hb:v=some b:=hb
  subst hb
  have ih:=z4f fun p hp=>h p (List.mem_cons_of_mem _ hp)
  show(W4 r).map ((k,b)::·)=_
  rw[ih];rfl
theorem z7c {D:List Df} (h4:∀ t∈D.map (·.1),t.length<=4) {H:Hm} (h:HIs D H):∀ p∈H,∃ t∈D.map (·.1),p=(G1 t,some (B7 D t)):=fun p hp=>by
 obtain⟨t,ht,hk⟩:=h.keys p hp
 have hg:=h.get t (h4 t ht)
 rw[if_pos ht]at hg
 have h2:=(K4 N7 h.rise).2 (show(p.1,p.2)∈H from hp)
 rw[hk,hg]at h2
 exact⟨t,ht,Prod.ext hk (Option.some.inj h2).symm⟩
theorem j6y {D:List Df} (h4:∀ t∈D.map (·.1),t.length<=4) {H:Hm} (h:HIs D H):MIs D (q0j H) where
 nd:=by
  unfold q0j List.Nodup
  rw[List.pairwise_map]
  exact List.Pairwise.imp (fun {a b} hab e=>hab (congrArg (fun p:HKy×Bg=>p.1) e)) (h.rise.ne N7)
 mem p:=by
  unfold q0j
  rw[List.mem_map]
  constructor
  ·rintro ⟨q,hq,rfl⟩
   obtain⟨t,ht,rfl⟩:=z7c h4 h q hq
   exact⟨t,ht,rfl⟩
  ·rintro ⟨t,ht,rfl⟩
   have hg:=h.get t (h4 t ht)
   rw[if_pos ht]at hg
   exact⟨(G1 t,some (B7 D t)),(K4 N7 h.rise).1 hg,rfl⟩
theorem j6x {D:List Df} (h4:∀ t∈D.map (·.1),t.length<=4) {H:Hm} (h:HIs D H):W4 H=some (q0j H):=z4f fun p hp=>by
 obtain⟨t,-,rfl⟩:=z7c h4 h p hp
 exact⟨_,rfl⟩
theorem y3y {t:List Int} (h:t.length<=4):q61 (G1 t,())=some (t,()):=by
 have e:=q0f h
 unfold q55 at e
 unfold q61
 have hl:(G1 t).1=(t.length:Int):=rfl
 rw[e,hl,dcT (show(0:Int)<=(t.length:Int)by omega),dcT (show(t.length:Int)<=((4:Nat):Int)by omega)]
 simp only[Bool.and_self,cond_true]
 rw[j5c (by omega)];rfl
def told (l:List Df):List Df×Int×Unit:=if l.length>64 then([],1,())else if D1 l>128 then([],1,())else(l,0,())
theorem y3s {D:List Df} (hD:D.length<=2000) (h4:∀ t∈D.map (·.1),t.length<=4) (hb:∀ t,(B7 D t).length<=3000000000000) {M:Hb} (hM:MIs D M) (hl:M.length<=2000):q60 (M,())=some (told (D9 D)):=by
 unfold q60
 refine z4h ?_
 refine z4c (L:=M) (st:=tst) (I:=fun n y=>y.1.length+n<=2000/\0<=y.2.1/\y.2.1+3000000000000*(n:Int)<=9000000000000000) (hh:=fun y=>(Sum.inl y:Tst⊕Empty)) (fun r e y n he hI=>?_) (fun y=>rfl) _ M (([]:List Df),(0:Int),()) rfl (fun e he=>he) ⟨by simp;omega,by simp,by simp;omega⟩ fun ord ho=>?_
 ·obtain⟨t,ht,rfl⟩:=(hM.mem e).1 he
  obtain⟨i1,i2,i3⟩:=hI
  have hbl:=hb t
  unfold z5l tst neB
  cases hq:(B7 D t).isEmpty with
  | true =>
   have h0:(B7 D t).length=0:=by
    have:B7 D t=[]:=by simpa using hq
    rw[this];rfl
   simp only[h0,Bool.not_true,cond_false]
   exact⟨rfl,by omega,i2,by omega⟩
  | false =>
   have h1:0<(B7 D t).length:=by
    cases hbb:B7 D t with
    | nil=>rw[hbb]at hq;cases hq
    | cons a r=>simp
   have hw:IntKind.i64.wrap (y.2.1+((B7 D t).length:Int))=y.2.1+((B7 D t).length:Int):=D7 (by omega) (by omega)
   simp only[dcT (show((B7 D t).length:Int)>0 by omega),cond_true,Bool.not_false,y3y (h4 t ht),Option.bind_some]
   rw[show q39 (B7 D t,())=_ from y0m (z4t _) hbl]
   simp only[Option.bind_some,hw]
   rw[O5 (show y.1.length+([(t,(B7 D t).map toR,())]:List Df).length<=140737488355328 by simp;omega) (show(y.1.length+([(t,(B7 D t).map toR,())]:List Df).length)*48<=140737488355328 by simp;omega)]
   have he2:ent (G1 t,B7 D t)=(t,(B7 D t).map toR,()):=by unfold ent;rw[q0f (h4 t ht)]
   rw[he2]
   refine⟨rfl,?_,?_,?_⟩
   ·show(y.1++[_]).length+n<=2000
    rw[List.length_append,List.length_singleton];omega
   ·show 0<=y.2.1+((B7 D t).length:Int)
    omega
   ·show y.2.1+((B7 D t).length:Int)+3000000000000*(n:Int)<=9000000000000000
    omega
 ·rw[j2s]
  have hp:=j2g h4 hM ho
  have hlen:=hp.length_eq
  have hnum:q2x ord=D1 (D9 D):=by rw[<-j2t,j8g hp]
  simp only[List.nil_append,Sum.elim_inl,hnum,hlen,Int.zero_add]
  have hle:(D9 D).length<=2000:=by
   rw[<-hlen,List.length_map]
   have h1:=List.length_filter_le neB ord
   have h2:=ho.length_eq
   omega
  unfold told
  by_cases c1:(D9 D).length>64
  ·rw[dcT (show((D9 D).length:Int)>64 by omega),if_pos c1];rfl
  ·rw[dcF (show ¬ ((D9 D).length:Int)>64 by omega),if_neg c1,cond_false]
   by_cases c2:D1 (D9 D)>128
   ·rw[dcT (show(D1 (D9 D):Int)>128 by omega),if_pos c2];rfl
   ·rw[dcF (show ¬ (D1 (D9 D):Int)>128 by omega),if_neg c2,cond_false]
    rw[O5 (show(D9 D).length<=140737488355328 by omega) (show(D9 D).length*1<=140737488355328 by omega),cond_true,y3r h4 hp];rfl
end

section
open Go Go.Abs

def G9 (n:Nat):Int:=if 129<(n:Int)then 129 else n
theorem q77 (D:List Df) {i:Nat} (h:i<D.length):D1 (D.take (i+1))=D1 (D.take i)+D[i].2.1.length:=by
 unfold D1
 rw[List.take_succ_eq_append_getElem h,List.map_append,List.sum_append]
 simp
def M5 (D:List Df):Int:=if D.length>64\/D1 D>128 then 1 else q0g (D.map (·.1))
theorem j2o {D:List Df} (hl:D.length<=100000):q62 (D,())=some (D.map (·.1),()):=by
 have h:=O1 (f:=q63 (D,())) (s0:=(([]:List (List Int)),(0:Int),())) D.length (fun i=>((D.take i).map (·.1),(i:Int),())) (.inl (D.map (·.1),())) (fun i hi=>by
  unfold q63
  have hlen:((D.take i).map (·.1)).length=i:=by rw[List.length_map,List.length_take];omega
  simp only[dcT (show(i:Int)<(D.length:Int)by omega),cond_true,I2,List.getElem?_eq_getElem hi,Option.bind_some,G8 (show i<9223372036854775807 by omega),hlen]
  rw[O5 (show i+([D[i].1]:List (List Int)).length<=140737488355328 by simp;omega) (show(i+([D[i].1]:List (List Int)).length)*24<=140737488355328 by simp;omega),List.take_succ_eq_append_getElem hi,List.map_append]
  rfl) (by
  unfold q63
  simp only[dcF (show ¬ (D.length:Int)<(D.length:Int)by omega),cond_false,List.take_length]) rfl
 unfold q62
 rw[h];rfl
theorem z9v {D:List Df} (hl:D.length<=100000):q7k (D,())=some (D.map (·.1),()):=j2o hl
theorem j5b {D:List Df} (h:D.length*48<=140737488355328):q5y (D,())=some (M5 D,()):=by
 have hl:=O1 (f:=q5z (D,())) (s0:=((0:Int),(0:Int),())) D.length (fun i=>(G9 (D1 (D.take i)),(i:Int),())) (.inl (G9 (D1 D),())) (fun i hi=>by
  unfold q5z
  simp only[dcT (show(i:Int)<(D.length:Int)by omega),cond_true,I2,List.getElem?_eq_getElem hi,Option.bind_some,G8 (show i<9223372036854775807 by omega)]
  rw[q77 D hi]
  generalize D1 (D.take i)=n
  generalize D[i].2.1.length=L
  have hc:∀ a b:Int,a=b->(some (Sum.inl (a,((i+1:Nat):Int),())):Option ((Int×Int×Unit)⊕((Int×Unit)⊕Empty)))=some (Sum.inl (b,((i+1:Nat):Int),())):=fun a b e=>by rw[e]
  refine hc _ _ ?_
  have hw:IntKind.i64.wrap (G9 n+(if(129:Int)<(L:Int)then(129:Int)else(L:Int)))=G9 n+(if(129:Int)<(L:Int)then(129:Int)else(L:Int)):=by
   unfold G9
   refine D7 ?_ ?_<;>split<;>split<;>omega
  rw[hw]
  unfold G9
  split<;>split<;>split<;>split<;>omega) (by
  unfold q5z
  simp only[dcF (show ¬ (D.length:Int)<(D.length:Int)by omega),cond_false,List.take_length]) rfl
 unfold q5y M5
 rw[hl]
 simp only[Option.bind_some,Sum.elim_inl]
 by_cases c1:D.length>64
 ·rw[dcT (show(D.length:Int)>64 by omega),if_pos (.inl c1)];rfl
 ·rw[dcF (show ¬ (D.length:Int)>64 by omega),cond_false]
  by_cases c2:D1 D>128
  ·rw[dcT (show G9 (D1 D)>128 by unfold G9;split<;>omega),if_pos (.inr c2)];rfl
  ·rw[dcF (show ¬ G9 (D1 D)>128 by unfold G9;split<;>omega),if_neg (by omega),cond_false,j2o (by omega)]
   simp only[Option.bind_some,y41]
theorem z9m (D:List Df):q7g (D,())=some (M5 D,()):=by
 unfold q7g M5
 by_cases c1:D.length>64
 ·rw[dcT (show(D.length:Int)>64 by omega),if_pos (.inl c1)];rfl
 ·rw[dcF (show ¬ (D.length:Int)>64 by omega),cond_false]
  have hl:=z88 (f:=q4i (D,())) D.length (fun i=>(G9 (D1 (D.take i)),(i:Int),())) (fun i=>if((D[i]?).getD ([],[],())).2.1.length+G9 (D1 (D.take i))>128 then some (Sum.inl ((1:Int),()))else none) (.inr (.inl ())) (fun i hi=>by
   unfold q4i
   simp only[dcT (show(i:Int)<(D.length:Int)by omega),cond_true,I2,List.getElem?_eq_getElem hi,Option.bind_some,Option.getD_some,G8 (show i<9223372036854775807 by omega)]
   rw[q77 D hi]
   generalize D1 (D.take i)=n
   generalize D[i].2.1.length=L
   have hw:IntKind.i64.wrap ((128:Int)-G9 n)=128-G9 n:=by
    unfold G9
    refine D7 ?_ ?_<;>split<;>omega
   rw[hw]
   by_cases hs:(L:Int)+G9 n>128
   ·rw[dcT (show(L:Int)>128-G9 n by omega),if_pos hs];rfl
   ·rw[dcF (show ¬ (L:Int)>128-G9 n by omega),if_neg hs]
    have hc:G9 (n+L)=G9 n+L:=by
     unfold G9 at hs ⊢
     split at hs<;>split<;>omega
    have hw2:IntKind.i64.wrap (G9 n+(L:Int))=G9 n+(L:Int):=by
     unfold G9 at hs ⊢
     refine D7 ?_ ?_<;>split at hs<;>split<;>omega
    simp only[cond_false,hw2,hc]) (by
   unfold q4i
   simp only[dcF (show ¬ (D.length:Int)<(D.length:Int)by omega),cond_false])
  have hl:A3 (q4i (D,())) ((0:Int),(0:Int),())=_:=hl
  rw[hl]
  by_cases c2:D1 D>128
  ·rw[if_pos (.inr c2)]
   have hex:∃ z,((List.range D.length).findSome? fun i=>if((D[i]?).getD ([],[],())).2.1.length+G9 (D1 (D.take i))>128 then some (Sum.inl ((1:Int),()):(Int×Unit)⊕(Unit⊕Empty))else none)=some z:=by
    cases hf:((List.range D.length).findSome? fun i=>if((D[i]?).getD ([],[],())).2.1.length+G9 (D1 (D.take i))>128 then some (Sum.inl ((1:Int),()):(Int×Unit)⊕(Unit⊕Empty))else none)with
    | some z=>exact⟨z,rfl⟩
    | none =>
     exfalso
     have hall:∀ i,i<=D.length->D1 (D.take i)<=128:=by
      intro i
      induction i with
      | zero=>intro _;exact Nat.zero_le _
      | succ i ih =>
       intro hi
       have h1:=List.findSome?_eq_none_iff.1 hf i (List.mem_range.2 hi)
       have h2:=ih (by omega)
       rw[List.getElem?_eq_getElem hi,Option.getD_some]at h1
       rw[q77 D hi]
       split at h1
       ·cases h1
       ·rename_i h3
        unfold G9 at h3
        split at h3<;>omega
     have:=hall D.length (Nat.le_refl _)
     rw[List.take_length]at this
     omega
   obtain⟨z,hz⟩:=hex
   obtain⟨i,-,hi⟩:=List.exists_of_findSome?_eq_some hz
   rw[hz]
   split at hi
   ·cases hi;rfl
   ·cases hi
  ·rw[if_neg (by omega)]
   have hall:∀ i (hi:i<D.length),D1 (D.take i)+D[i].2.1.length<=128:=fun i hi=>by
    rw[<-q77 D hi]
    have:D1 (D.take (i+1))<=D1 D:=by
     have e:D1 D=D1 (D.take (i+1))+D1 (D.drop (i+1)):=by
      unfold D1
      rw[<-List.sum_append,<-List.map_append,List.take_append_drop]
     omega
    omega
   have hf:((List.range D.length).findSome? fun i=>if((D[i]?).getD ([],[],())).2.1.length+G9 (D1 (D.take i))>128 then some (Sum.inl ((1:Int),()):(Int×Unit)⊕(Unit⊕Empty))else none)=none:=List.findSome?_eq_none_iff.2 fun i hi=>by
    have hi:=List.mem_range.1 hi
    have:=hall i hi
    rw[List.getElem?_eq_getElem hi,Option.getD_some,if_neg]
    unfold G9
    split<;>omega
   rw[hf]
   simp only[Option.getD_none,Option.bind_some,Sum.elim_inr,Sum.elim_inl]
   rw[z9v (by omega)]
   simp only[Option.bind_some,y07]
structure Good (D:List Df):Prop where
 len:D.length<=64
 num:D1 D<=128
 chk:∀ d∈D,chk d.1=0
 same:∃ n,∀ d∈D,d.1.length=n
theorem T5 {D:List Df} (h:M5 D=0):Good D:=by
 unfold M5 at h
 split at h
 ·cases h
 ·rename_i hn
  obtain⟨t1,t2⟩:=y42 h
  exact⟨by omega,by omega,fun d hd=>(t2 _ (List.mem_map_of_mem hd)).1,_,fun d hd=>(t2 _ (List.mem_map_of_mem hd)).2⟩
structure Fine (D:List Df):Prop where
 len:D.length<=2000
 num:D1 D<=1000000000000
 chk:∀ d∈D,chk d.1=0
 same:∃ n,∀ d∈D,d.1.length=n
theorem Good.fine {D:List Df} (g:Good D):Fine D:=⟨Nat.le_trans g.len (by decide),Nat.le_trans g.num (by decide),g.chk,g.same⟩
theorem j6j {D:List Df} (g:Fine D):∀ t∈D.map (·.1),t.length<=4:=fun t ht=>by
 obtain⟨d,hd,rfl⟩:=List.mem_map.1 ht
 exact(q5p (g.chk d hd)).2.1
end

section
open Go Go.Abs

theorem z2j (d:Df) (D:List Df):D1 (d::D)=d.2.1.length+D1 D:=by unfold D1;rw[List.map_cons,List.sum_cons]
theorem q43 {D:List Df} {d:Df} (h:d∈D):d.2.1.length<=D1 D:=by
 induction D with
 | nil=>cases h
 | cons e D ih =>
  rw[z2j]
  rcases List.mem_cons.1 h with h | h
  ·rw[h];omega
  ·have:=ih h;omega
theorem z3a:∀ (D:List Df) {T:List (List Int)},T.Nodup->(T.map fun t=>(H8 D t).length).sum<=D1 D
 | [],T,_=>by
  have:∀ T:List (List Int),(T.map fun t=>(H8 [] t).length).sum=0:=fun T=>by
   induction T with
   | nil=>rfl
   | cons a T ih=>rw[List.map_cons,List.sum_cons,ih];rfl
  rw[this];exact Nat.zero_le _
 | d::D,T,hT=>by
  have ih:=z3a D hT
  have one:∀ T:List (List Int),T.Nodup->(T.map fun t=>(H8 (d::D) t).length).sum<=(T.map fun t=>(H8 D t).length).sum+(if d.1∈T then d.2.1.length else 0):=by
   intro T
   induction T with
   | nil=>intro _;exact Nat.zero_le _
   | cons a T ih =>
    intro hn
    have hn':=List.nodup_cons.1 hn
    have h1:=ih hn'.2
    have h2:(H8 (d::D) a).length=(if d.1=a then d.2.1.length else 0)+(H8 D a).length:=by
     unfold H8
     rw[List.flatMap_cons,List.length_append]
     by_cases e:d.1=a
     ·rw[if_pos e,if_pos e]
     ·rw[if_neg e,if_neg e];rfl
    rw[List.map_cons,List.sum_cons,List.map_cons,List.sum_cons,h2]
    by_cases e:d.1=a
    ·subst e
     rw[if_neg hn'.1]at h1
     rw[if_pos rfl,if_pos List.mem_cons_self]
     omega
    ·rw[if_neg e]
     by_cases hm:d.1∈T
     ·rw[if_pos hm]at h1
      rw[if_pos (List.mem_cons_of_mem _ hm)]
      omega
     ·rw[if_neg hm]at h1
      have:d.1∉a::T:=fun h=>(List.mem_cons.1 h).elim e hm
      rw[if_neg this]
      omega
  have h1:=one T hT
  rw[z2j]
  split at h1<;>omega
theorem z4u (D:List Df) (t:List Int):(B7 D t).length<=(H8 D t).length:=by
 have:=z4r ((H8 D t).map (sc 1)) []
 rw[List.length_nil,List.length_map]at this
 unfold B7;omega
theorem y3b (l:List (List Int)):(I4 l).Nodup:=(q17 l).2.2.imp fun {a b} hab e=>by rw[e]at hab;exact Z3 _ hab
theorem j2k (D:List Df):D1 (D9 D)<=D1 D:=by
 have h1:=z3a D (y3b (D.map (·.1)))
 have h2:∀ T:List (List Int),D1 (T.filterMap (L7 D))<=(T.map fun t=>(H8 D t).length).sum:=by
  intro T
  induction T with
  | nil=>exact Nat.le_refl _
  | cons a T ih =>
   rw[List.map_cons,List.sum_cons,List.filterMap_cons]
   unfold L7
   cases hb:(B7 D a).isEmpty with
   | true=>simp only[cond_true];exact Nat.le_trans ih (Nat.le_add_left _ _)
   | false =>
    simp only[cond_false]
    rw[z2j]
    have:=z4u D a
    have e:((B7 D a).map toR).length=(B7 D a).length:=List.length_map _
    show((B7 D a).map toR).length+D1 (T.filterMap (L7 D))<=_
    omega
 exact Nat.le_trans (h2 _) h1
theorem j2j (D:List Df):(D9 D).length<=D.length:=by
 have h1:=(q17 (D.map (·.1))).1
 have h2:=List.length_filterMap_le (L7 D) (I4 (D.map (·.1)))
 rw[List.length_map]at h1
 unfold D9;omega
theorem j6t {D:List Df} (g:Good D):∀ t∈D.map (·.1),t.length<=4:=fun t ht=>by
 obtain⟨d,hd,rfl⟩:=List.mem_map.1 ht
 exact(q5p (g.chk d hd)).2.1
theorem z39 (D:List Df) (t:List Int):(H8 D t).length<=D1 D:=by
 have:=z3a D (T:=[t]) (List.nodup_cons.2 ⟨by simp,List.nodup_nil⟩)
 simpa using this
theorem j2h {D:List Df} (h:D.length*48<=140737488355328):q3g (D,())=some (if M5 D=0 then(D9 D,0,())else([],M5 D,())):=by
 unfold q3g
 rw[j5b h]
 simp only[Option.bind_some]
 by_cases h0:M5 D=0
 ·have g:=T5 h0
  have g1:=g.len
  have g2:=g.num
  have h4:=j6t g
  rw[N2 h0,cond_false,if_pos h0,y3v (by omega) (fun d hd=>⟨h4 d.1 (List.mem_map_of_mem hd),by have:=q43 hd;omega⟩)]
  simp only[Option.bind_some,Sum.elim_inl]
  have hi:=z1p (D:=D) (fun d hd=>h4 d.1 (List.mem_map_of_mem hd)) D.length (Nat.le_refl _)
  rw[List.take_length]at hi
  rw[j6x h4 hi]
  simp only[Option.bind_some]
  have hM:=j6y h4 hi
  have hlen:(q0j (P4 D D.length)).length<=2000:=by
   have hp:=j2g h4 hM (List.Perm.refl _)
   have:∀ i,i<=D.length->(P4 D i).length<=i:=by
    intro i
    induction i with
    | zero=>intro _;exact Nat.le_refl _
    | succ i ih =>
     intro hi2
     have:=ih (by omega)
     unfold P4
     rw[List.getElem?_eq_getElem hi2]
     have ml:∀ (m:Hm) (k:HKy) (v:Option Bg),(A8 HT m k v).length<=m.length+1:=by
      intro m
      induction m with
      | nil=>intro k v;simp[A8]
      | cons p r ih =>
       intro k v
       have:=ih k v
       simp only[A8]
       cases HT.eqb k p.1 with
       | true=>simp
       | false =>
        cases HT.lt k p.1 with
        | true=>simp
        | false=>simp only[cond_false,List.length_cons];omega
     have:=ml (P4 D i) (G1 D[i].1) (some (E9 (D[i].2.1.map (sc 1)) (B7 (D.take i) D[i].1)))
     show(A8 HT (P4 D i) (G1 D[i].1) (some (E9 (D[i].2.1.map (sc 1)) (B7 (D.take i) D[i].1)))).length<=i+1
     omega
   have:=this D.length (Nat.le_refl _)
   unfold q0j
   rw[List.length_map];omega
  rw[y3s (by omega) h4 (fun t=>by have:=z4u D t;have:=z39 D t;omega) hM hlen]
  have t1:=j2j D
  have t2:=j2k D
  unfold told
  rw[if_neg (by omega),if_neg (by omega)];rfl
 ·rw[T3 h0,cond_true,if_neg h0]
theorem y0w (l:List Rw):∀ r∈l.map (sc 1),InR r.2.2.1:=fun r hr=>by
 obtain⟨q,-,rfl⟩:=List.mem_map.1 hr
 exact q6p _
theorem y0g {D:List Df} (hl:D.length<=2000) (hn:D1 D<=1000000000000) (h4:∀ t∈D.map (·.1),t.length<=4) (t:List Int):A3 (q7i (D,()) t) (([]:List Rw),(0:Int),())=some (.inl ((H8 D t).map (sc 1),())):=by
 refine O1 D.length (fun i=>((H8 (D.take i) t).map (sc 1),(i:Int),())) _ (fun i hi=>?_) ?_ rfl
 ·have hd:=List.getElem_mem hi
  have hdl:=q43 hd
  have h4i:=h4 D[i].1 (List.mem_map_of_mem hd)
  have hrl:(H8 (D.take i) t).length<=1000000000000:=by
   have h1:=z39 (D.take i) t
   have h2:D1 D=D1 (D.take i)+D1 (D.drop i):=by
    unfold D1
    rw[<-List.sum_append,<-List.map_append,List.take_append_drop]
   omega
  unfold q7i
  simp only[dcT (show(i:Int)<(D.length:Int)by omega),cond_true,I2,List.getElem?_eq_getElem hi,Option.bind_some,G8 (show i<9223372036854775807 by omega),z2x (show D[i].1.length<=1000000 by omega)]
  rw[List.take_succ_eq_append_getElem hi,z37]
  by_cases e:D[i].1=t
  ·rw[decide_eq_true e,cond_true,if_pos e,j9q _ _ 1 (by rw[List.length_map];omega) (by omega),List.map_append];rfl
  ·rw[decide_eq_false e,cond_false,if_neg e,List.append_nil]
 ·unfold q7i
  simp only[dcF (show ¬ (D.length:Int)<(D.length:Int)by omega),cond_false,List.take_length]
theorem z9u {D:List Df} (g:Fine D):q7h (D,())=some (D9 D,()):=by
 have g1:=g.len
 have g2:=g.num
 have h4:=j6j g
 obtain⟨n,hn⟩:=g.same
 unfold q7h
 rw[z9v (by omega)]
 simp only[Option.bind_some]
 rw[y08 (by rw[List.length_map];omega) n (fun t ht=>by
  obtain⟨d,hd,rfl⟩:=List.mem_map.1 ht
  exact⟨g.chk d hd,hn d hd⟩)]
 simp only[Option.bind_some]
 have hsl:=(q17 (D.map (·.1))).1
 rw[List.length_map]at hsl
 have hl:=O1 (f:=q7j (D,()) (I4 (D.map (·.1)),())) (s0:=(([]:List Df),(0:Int),())) (I4 (D.map (·.1))).length (fun i=>(((I4 (D.map (·.1))).take i).filterMap (L7 D),(i:Int),())) (.inl (D9 D,())) (fun i hi=>by
  generalize hS:I4 (D.map (·.1))=S at hi hsl
  have hrl:=z39 D S[i]
  have hfl:=List.length_filterMap_le (L7 D) (S.take i)
  rw[List.length_take]at hfl
  unfold q7j
  simp only[dcT (show(i:Int)<(S.length:Int)by omega),cond_true,I2,List.getElem?_eq_getElem hi,Option.bind_some,G8 (show i<9223372036854775807 by omega)]
  rw[y0g g1 g2 h4]
  simp only[Option.bind_some,Sum.elim_inl]
  rw[y02 (by rw[List.length_map];omega),y0l (y0w _)]
  simp only[Option.bind_some]
  rw[List.take_succ_eq_append_getElem hi,List.filterMap_append]
  change (cond (decide ((((B7 D S[i]).map toR).length:Int)>0)) (cond (true&&C1 (((S.take i).filterMap (L7 D)).length+([(S[i],(B7 D S[i]).map toR,())]:List Df).length) 48&&true&&true) (some (Sum.inl ((S.take i).filterMap (L7 D)++[(S[i],(B7 D S[i]).map toR,())],((i+1:Nat):Int),()))) none) _:Option ((List Df×Int×Unit)⊕((List Df×Unit)⊕Empty)))=_
  have hone:[S[i]].filterMap (L7 D)=cond (B7 D S[i]).isEmpty [] [(S[i],(B7 D S[i]).map toR,())]:=by
   rw[List.filterMap_cons]
   unfold L7
   cases(B7 D S[i]).isEmpty<;>rfl
  rw[hone,List.length_map]
  cases hq:(B7 D S[i]).isEmpty with
  | true =>
   have h0:(B7 D S[i]).length=0:=by
    have:B7 D S[i]=[]:=by simpa using hq
    rw[this];rfl
   rw[h0]
   simp only[cond_true,List.append_nil]
   rfl
  | false =>
   have h1:0<(B7 D S[i]).length:=by
    cases hbb:B7 D S[i]with
    | nil=>rw[hbb]at hq;cases hq
    | cons a r=>simp
   rw[dcT (show((B7 D S[i]).length:Int)>0 by omega),O5 (show((S.take i).filterMap (L7 D)).length+([(S[i],(B7 D S[i]).map toR,())]:List Df).length<=140737488355328 by simp;omega) (show(((S.take i).filterMap (L7 D)).length+([(S[i],(B7 D S[i]).map toR,())]:List Df).length)*48<=140737488355328 by simp;omega)]
   rfl) (by
  unfold q7j
  simp only[dcF (show ¬ ((I4 (D.map (·.1))).length:Int)<((I4 (D.map (·.1))).length:Int)by omega),cond_false,List.take_length]
  rfl) rfl
 rw[hl];rfl
end

section
open Go Go.Abs

def j2v:List Int->List Int->Bool
 | a::r,b::s=>decide (a<=b)&&j2v r s
 | _,_=>true
def leB (a b:List Int):Bool:=decide (a.length=b.length)&&(decide (chk a=0)&&(decide (chk b=0)&&j2v a b))
end

section
open Go Go.Abs

def y3g (D:List Df) (t:List Int):List Rw:=D.flatMap fun d=>if leB d.1 t=true then d.2.1 else []
def y3f (D:List Df) (t:List Int):Bg:=E9 ((y3g D t).map (sc 1)) []
end

end Go.Proofs.Try
