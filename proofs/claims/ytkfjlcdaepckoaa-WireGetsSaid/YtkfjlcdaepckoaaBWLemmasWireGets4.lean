/- Lemmas on functions of the program, by name. -/
import Derived.Test.YtkfjlcdaepckoaaBWFuns
import Derived.Test.YtkfjlcdaepckoaaAbsSums
import Derived.Test.YtkfjlcdaepckoaaBWLemmasWireGets3
import Derived.Test.YtkfjlcdaepckoaaBWLemmasWireGets2
namespace Go.Proofs.Try
section
open Go Go.Abs

theorem j02:∀ {A B:List Rw} {r s:List Int},A.length=B.length->A.flatMap H7++r=B.flatMap H7++s->A=B/\r=s
 | [],[],r,s,_,h=>⟨rfl,by simpa using h⟩
 | (a1,a2,a3,())::A,(b1,b2,b3,())::B,r,s,hl,h=>by
  simp only[List.flatMap_cons,H7,List.cons_append,List.nil_append,List.cons.injEq]at h
  obtain⟨rfl,rfl,rfl,h⟩:=h
  obtain⟨rfl,rfl⟩:=j02 (by simpa using hl) h
  exact⟨rfl,rfl⟩
 | [],_::_,_,_,hl,_=>by simp at hl
 | _::_,[],_,_,hl,_=>by simp at hl
theorem z8u (t:List Int) (R:List Rw):C5 (t,R,())=(t.length:Int)::(t++((R.length:Int)::R.flatMap H7)):=by rw[S9];simp
theorem z8s {d e:Df} {r s:List Int} (h:C5 d++r=C5 e++s):d=e/\r=s:=by
 obtain⟨t,R,⟨⟩⟩:=d
 obtain⟨u,S,⟨⟩⟩:=e
 rw[z8u,z8u]at h
 rw[List.cons_append,List.cons_append,List.append_assoc,List.append_assoc]at h
 obtain⟨h1,h3⟩:=List.cons.inj h
 obtain⟨rfl,h4⟩:=List.append_inj h3 (by omega)
 rw[List.cons_append,List.cons_append]at h4
 obtain⟨h2,h5⟩:=List.cons.inj h4
 obtain⟨rfl,rfl⟩:=j02 (by omega) h5
 exact⟨rfl,rfl⟩
theorem z2k:∀ {A B:List Df} {r s:List Int},A.length=B.length->A.flatMap C5++r=B.flatMap C5++s->A=B/\r=s
 | [],[],r,s,_,h=>⟨rfl,by simpa using h⟩
 | a::A,b::B,r,s,hl,h=>by
  simp only[List.flatMap_cons,List.append_assoc]at h
  obtain⟨rfl,h2⟩:=z8s h
  obtain⟨rfl,rfl⟩:=z2k (by simpa using hl) h2
  exact⟨rfl,rfl⟩
 | [],_::_,_,_,hl,_=>by simp at hl
 | _::_,[],_,_,hl,_=>by simp at hl
theorem y0x {l:List Int} {o m:Nat}:l.drop o=seg l o m++l.drop (o+m):=by
 unfold seg
 rw[<-List.drop_drop,List.take_append_drop]
theorem j8h (d:Df):2<=(C5 d).length:=by rw[S9];simp;omega
theorem j70 {l:List Int} (hl:l.length<=100000) (hI:∀ n∈l,I64 n) {c:Int} (h0:A9 l 0=some c):∀ (n o k0:Nat) (D:List Df),l.length=o+n->D.length=k0->k0<=o ->
  (A3 (L0 (l,())) ((D,(o:Int),(k0:Int),()):HS4)=some (.inl (([]:List Df),false,()))/\∀ E:List Df,(∀ d∈E,DfOK d)->l.drop o=E.flatMap C5->(k0:Int)+(E.length:Int)=c->False) \/
  ∃ E:List Df,(∀ d∈E,DfOK d)/\l.drop o=E.flatMap C5++l.drop (o+(E.flatMap C5).length)/\o+(E.flatMap C5).length<=l.length/\A3 (L0 (l,())) ((D,(o:Int),(k0:Int),()):HS4)=some (.inr (.inl ((D++E,((o+(E.flatMap C5).length:Nat):Int),()):List Df×Int×Unit)))/\((k0:Int)+(E.length:Int)=c\/E=[]/\c<=(k0:Int)):=by
 intro n
 induction n using Nat.strongRecOn with
 | _ n ih =>
  intro o k0 D hn hD hk
  by_cases hkc:(k0:Int)<c
  ·rcases j71 hl hI h0 hkc hD (by omega) hk with⟨h1,h2⟩ | ⟨d,ok,hlen,hseg,hstep⟩
   ·refine .inl ⟨h1,fun E hE he hc=>?_⟩
    cases E with
    | nil=>simp at hc;omega
    | cons e E=>exact h2 e (E.flatMap C5) (hE e (by simp)) (by rw[he,List.flatMap_cons])
   ·have hp:=j8h d
    have hdr:l.drop o=C5 d++l.drop (o+(C5 d).length):=by
     rw[<-hseg]
     have:(seg l o (C5 d).length).length=(C5 d).length:=q2q hlen
     rw[this]
     exact y0x
    rw[hstep]
    rcases ih (l.length-(o+(C5 d).length)) (by omega) (o+(C5 d).length) (k0+1) (D++[d]) (by omega) (by simp[hD]) (by omega)with⟨h1,h2⟩ | ⟨E,h1,h2,h3,h4,h5⟩
    ·refine .inl ⟨h1,fun E hE he hc=>?_⟩
     cases E with
     | nil=>simp at hc;omega
     | cons e E =>
      rw[hdr,List.flatMap_cons]at he
      obtain⟨rfl,he2⟩:=z8s he
      exact h2 E (fun x hx=>hE x (by simp[hx])) he2 (by simp only[List.length_cons]at hc;omega)
    ·refine .inr ⟨d::E,fun x hx=>?_,?_,?_,?_,?_⟩
     ·rcases List.mem_cons.1 hx with rfl | hx
      ·exact ok
      ·exact h1 x hx
     ·rw[List.flatMap_cons,List.length_append,hdr,h2,List.append_assoc,Nat.add_assoc]
     ·rw[List.flatMap_cons,List.length_append];omega
     ·rw[h4,List.flatMap_cons,List.length_append]
      simp[Nat.add_assoc]
     ·rcases h5 with h5 | ⟨rfl,h5⟩
      ·left;simp only[List.length_cons];omega
      ·left;simp only[List.length_cons,List.length_nil];omega
  ·refine .inr ⟨[],fun x hx=>(by cases hx),by simp,by simp;omega,?_,.inr ⟨rfl,by omega⟩⟩
   refine C0 ?_
   unfold L0
   simp only[h0,Option.bind_some,dcF hkc,cond_false]
   simp
theorem z9n {l:List Int} (hl:l.length<=100000) (hI:∀ n∈l,I64 n) :
  (∃ D:List Df,(∀ d∈D,DfOK d)/\l=H2 D/\U8 (l,())=some (D,true,()))\/((∀ D:List Df,(∀ d∈D,DfOK d)->l≠H2 D)/\∃ D,U8 (l,())=some (D,false,())):=by
 cases hq:l with
 | nil =>
  right
  refine⟨fun D _ h=>by simp[H2]at h,[],?_⟩
  unfold U8
  rfl
 | cons c r =>
  rw[<-hq]
  have h0:A9 l 0=some c:=by rw[hq];rfl
  have hd1:l.drop 1=r:=by rw[hq];rfl
  have hne:¬ (l.length:Int)=0:=by rw[hq];simp;omega
  have hL:=j70 hl hI h0 (l.length-1) 1 0 [] (by rw[hq];simp;omega) rfl (by omega)
  have hnum:∀ D,l=H2 D↔c=(D.length:Int)/\l.drop 1=D.flatMap C5:=fun D=>by
   rw[hq];unfold H2;simp
  rcases hL with⟨h1,h2⟩ | ⟨E,h1,h2,h3,h4,h5⟩
  ·right
   refine⟨fun D hD he=>h2 D hD ((hnum D).1 he).2 (by have:=((hnum D).1 he).1;omega),[],?_⟩
   have h1:A3 (L0 (l,())) ((([]:List Df),(1:Int),(0:Int),()):HS4)=_:=h1
   unfold U8
   simp only[W6 hne,cond_false,h1,Option.bind_some,Sum.elim_inl]
  ·have h4:A3 (L0 (l,())) ((([]:List Df),(1:Int),(0:Int),()):HS4)=_:=h4
   rw[List.nil_append]at h4
   by_cases hend:1+(E.flatMap C5).length=l.length
   ·have hE:l.drop 1=E.flatMap C5:=by
     rw[h2,hend];simp
    by_cases hc:0<=c
    ·have hlen:c=(E.length:Int):=by
      rcases h5 with h5 | ⟨rfl,h5⟩
      ·omega
      ·simp;omega
     left
     refine⟨E,h1,(hnum E).2 ⟨hlen,hE⟩,?_⟩
     unfold U8
     simp only[W6 hne,cond_false,h4,Option.bind_some,Sum.elim_inr,Sum.elim_inl,Z0 (show((1+(E.flatMap C5).length:Nat):Int)=(l.length:Int)by omega),cond_true,h0,dcT (show c≥0 by omega)]
    ·right
     refine⟨fun D _ he=>by have:=((hnum D).1 he).1;omega,E,?_⟩
     unfold U8
     simp only[W6 hne,cond_false,h4,Option.bind_some,Sum.elim_inr,Sum.elim_inl,Z0 (show((1+(E.flatMap C5).length:Nat):Int)=(l.length:Int)by omega),cond_true,h0,dcF (show ¬ c≥0 by omega)]
   ·right
    refine⟨fun D hD he=>?_,E,?_⟩
    ·obtain⟨e1,e2⟩:=(hnum D).1 he
     have hlen:D.length=E.length:=by
      rcases h5 with h5 | ⟨h5,h6⟩
      ·omega
      ·rw[h5];show D.length=0;omega
     rw[e2]at h2
     have h2':D.flatMap C5++[]=E.flatMap C5++l.drop (1+(E.flatMap C5).length):=by rw[List.append_nil];exact h2
     obtain⟨hde,-⟩:=z2k hlen h2'
     have:=congrArg List.length e2
     rw[List.length_drop,hde]at this
     have:l.length≠0:=by omega
     omega
    ·unfold U8
     simp only[W6 hne,cond_false,h4,Option.bind_some,Sum.elim_inr,Sum.elim_inl,W6 (show ¬ ((1+(E.flatMap C5).length:Nat):Int)=(l.length:Int)by omega)]
end

section
open Go Go.Abs

def L2 (l:List Rw) (k:Ky):Int:=(l.map fun r=>if B1 r=k then r.2.2.1 else 0).sum
theorem q19 (r:Rw) (l:List Rw) (k:Ky):L2 (r::l) k=(if B1 r=k then r.2.2.1 else 0)+L2 l k:=by unfold L2;rw[List.map_cons,List.sum_cons]
theorem q1a (k:Ky):∀ (l:List Rw) (T:Ky->Int),InR (T k)->tot l T k=W (T k+L2 l k)
 | [],T,h=>by
  show T k=W (T k+0)
  rw[Int.add_zero];exact h.symm
 | r::l,T,h=>by
  rw[q19]
  show tot l (fun j=>if j=B1 r then W (T (B1 r)+r.2.2.1)else T j) k=_
  by_cases e:B1 r=k
  ·subst e
   rw[q1a (B1 r) l _ (by simp only[if_true];exact q6p _)]
   simp only[if_true]
   rw[j3g,Int.add_assoc]
  ·rw[q1a k l _ (by simp only[if_neg (Ne.symm e)];exact h),if_neg e,Int.zero_add]
   simp only[if_neg (Ne.symm e)]
theorem z3o (n:Int) (k:Ky):∀ (l:List Rw) (a:Int),W (a+L2 (l.map (sc n)) k)=W (a+n*L2 l k)
 | [],a=>by simp[L2]
 | r::l,a=>by
  rw[List.map_cons,q19,q19]
  have hk:B1 (sc n r)=B1 r:=rfl
  have hv:(sc n r).2.2.1=W (n*r.2.2.1):=rfl
  rw[hk,hv]
  by_cases e:B1 r=k
  ·rw[if_pos e,if_pos e,<-Int.add_assoc,z3o n k l,show a+W (n*r.2.2.1)+n*L2 l k=(a+n*L2 l k)+W (n*r.2.2.1)by omega,j3h,Int.mul_add]
   congr 1
   omega
  ·rw[if_neg e,if_neg e,Int.zero_add,Int.zero_add,z3o n k l]
theorem q38 (l:List Rw):BagIs (E9 l []) (tot l fun _=>0):=q5k l (T:=fun _=>0) ⟨List.Pairwise.nil,fun _=>rfl,fun p hp=>by cases hp⟩
theorem y0v {l m:List Rw} (h:∀ k,W (L2 l k)=W (L2 m k)):E9 l []=E9 m []:=by
 have h1:=q38 l
 have h2:=q38 m
 have e:(tot l fun _=>0)=tot m fun _=>0:=funext fun k=>by
  have z:InR ((fun _:Ky=>(0:Int)) k):=q93
  rw[q1a k l _ z,q1a k m _ z,Int.zero_add,Int.zero_add,h k]
 rw[e]at h1
 exact z4q h1 h2
theorem y3o {m:Bg} (h:Rise KT m) (k:Ky):L2 (m.map toR) k=nOf m k:=by
 have hne:=h.ne D5
 unfold nOf
 cases hg:B4 KT m k with
 | none =>
  have hn:=(X6 D5).1 hg
  clear hg h hne
  induction m with
  | nil=>rfl
  | cons p r ih =>
   rw[List.map_cons,q19,show B1 (toR p)=p.1 from rfl,if_neg (hn p List.mem_cons_self),Int.zero_add]
   exact ih fun q hq=>hn q (List.mem_cons_of_mem _ hq)
 | some v =>
  have hm:=(K4 D5 h).1 hg
  clear hg h
  rw[Option.getD_some]
  induction m with
  | nil=>cases hm
  | cons p r ih =>
   rw[List.map_cons,q19,show B1 (toR p)=p.1 from rfl]
   obtain⟨hp,hr⟩:=List.pairwise_cons.1 hne
   rcases List.mem_cons.1 hm with e | hm
   ·subst e
    rw[if_pos rfl]
    have:∀ l:Bg,(∀ q∈l,k≠q.1)->L2 (l.map toR) k=0:=by
     intro l
     induction l with
     | nil=>intro _;rfl
     | cons q l ih =>
      intro hq
      rw[List.map_cons,q19,show B1 (toR q)=q.1 from rfl,if_neg (fun e=>hq q List.mem_cons_self e.symm),Int.zero_add]
      exact ih fun x hx=>hq x (List.mem_cons_of_mem _ hx)
    rw[this r hp]
    show v+0=v
    omega
   ·rw[if_neg (fun e=>hp (k,v) hm e),Int.zero_add]
    exact ih hr hm
theorem y3n (l:List Rw) (k:Ky):L2 ((E9 l []).map toR) k=W (L2 l k):=by
 rw[y3o (z4t l),(q38 l).num,q1a k l (fun _=>0) (show InR 0 from q93),Int.zero_add]
end

section
open Go Go.Abs

end

section
open Go Go.Abs

theorem W_W (n:Int):W (W n)=W n:=q6p n
theorem j3i (n:Int) (k:Ky) (l:List Rw):W (L2 (l.map (sc n)) k)=W (n*L2 l k):=by
 have:=z3o n k l 0
 rwa [Int.zero_add,Int.zero_add]at this
theorem j50 (l:List Rw):E9 (((E9 l []).map toR).map (sc 1)) []=E9 l []:=y0v fun k=>by
 rw[j3i,Int.one_mul,y3n,W_W]
theorem j2c {k:Ky}:∀ {l:List Rw},k∉l.map B1->L2 l k=0
 | [],_=>rfl
 | r::l,h=>by
  rw[List.map_cons,List.mem_cons,not_or]at h
  rw[q19,if_neg (fun e=>h.1 e.symm),j2c h.2];rfl
theorem j51 {l:List Rw} {p:Ky×Int} (h:p∈E9 l []):p.1∈l.map B1:=by
 have h1:=(q5l (q38 l) p).1 h
 rw[q1a p.1 l (fun _=>0) (show InR 0 from q93)]at h1
 rcases Classical.em (p.1∈l.map B1)with hm | hm
 ·exact hm
 ·rw[j2c hm]at h1
  exact absurd h1.2.symm h1.1
def y4a (out:List Df) (t:List Int) (R:List Rw):Bg:=E9 (R.map (sc 1)++((y3f out t).map toR).map (sc (-1))) []
def j2x (out:List Df) (d:Df):Df:=(d.1,(y4a out d.1 d.2.1).map toR,())
def q2y (S:List Df) (i:Nat):List Df:=(S.take i).foldl (fun out d=>out++[j2x out d]) []
theorem y4b {S:List Df} {i:Nat} (hi:i<S.length):q2y S (i+1)=q2y S i++[j2x (q2y S i) S[i]]:=by
 unfold q2y
 rw[List.take_succ_eq_append_getElem hi,List.foldl_append];rfl
theorem j2w (S:List Df):∀ i,i<=S.length->(q2y S i).map (·.1)=(S.take i).map (·.1)
 | 0,_=>rfl
 | i+1,h=>by
  rw[y4b h,List.take_succ_eq_append_getElem h,List.map_append,List.map_append,j2w S i (by omega)];rfl
structure SOK (S:List Df):Prop where
 len:S.length<=2000
 num:D1 S<=300000
 chk:∀ d∈S,chk d.1=0
 same:∃ n,∀ d∈S,d.1.length=n
 up:S.Pairwise fun a b=>C8 a.1 b.1<0
theorem SOK.nd {S:List Df} (s:SOK S):(S.map (·.1)).Nodup:=by
 unfold List.Nodup
 rw[List.pairwise_map]
 exact s.up.imp fun {a b} hab e=>by rw[e]at hab;exact Z3 _ hab
theorem fresh {S:List Df} (s:SOK S) {i:Nat} (hi:i<S.length):S[i].1∉(q2y S i).map (·.1):=by
 rw[j2w S i (by omega)]
 intro hm
 obtain⟨e,he,hq⟩:=List.mem_map.1 hm
 obtain⟨j,hj,hje⟩:=List.mem_iff_getElem.1 he
 rw[List.length_take]at hj
 rw[List.getElem_take]at hje
 have:=List.pairwise_iff_getElem.1 s.up j i (by omega) hi (by omega)
 rw[hje,hq]at this
 exact Z3 _ this
theorem j05:∀ {D:List Df},(D.map (·.1)).Nodup->∀ {d:Df},d∈D->H8 D d.1=d.2.1
 | [],_,d,hd=>by cases hd
 | e::D,hn,d,hd=>by
  rw[List.map_cons,List.nodup_cons]at hn
  have hc:H8 (e::D) d.1=(if e.1=d.1 then e.2.1 else [])++H8 D d.1:=rfl
  rw[hc]
  rcases List.mem_cons.1 hd with h | h
  ·subst h
   rw[if_pos rfl,j04 hn.1,List.append_nil]
  ·rw[if_neg (fun q=>hn.1 (by rw[q];exact List.mem_map_of_mem h)),j05 hn.2 h];rfl
end

section
open Go Go.Abs

theorem z55:∀ {a b:List Int},(∀ c∈a,B8 c)->(∀ c∈b,B8 c)->Go.Lib.bytesOf a=Go.Lib.bytesOf b->a=b
 | [],[],_,_,_=>rfl
 | x::a,y::b,ha,hb,h=>by
  simp only[Go.Lib.bytesOf,List.map_cons,List.cons.injEq]at h
  obtain⟨h1,h2⟩:=h
  have hx:=ha x (by simp)
  have hy:=hb y (by simp)
  have h3:=congrArg UInt8.toNat h1
  simp only[UInt8.toNat_ofNat']at h3
  have:=z55 (a:=a) (b:=b) (fun c hc=>ha c (by simp[hc])) (fun c hc=>hb c (by simp[hc])) h2
  rw[this]
  congr 1
  obtain⟨h4,h5⟩:=hx
  obtain⟨h6,h7⟩:=hy
  omega
 | [],_::_,_,_,h=>by simp[Go.Lib.bytesOf]at h
 | _::_,[],_,_,h=>by simp[Go.Lib.bytesOf]at h
theorem z56 {a b:List Int} (ha:∀ c∈a,B8 c) (hb:∀ c∈b,B8 c):q3a (a,b,())=some (decide (a=b),()):=by
 unfold q3a
 congr 2
 by_cases h:a=b
 ·rw[h];simp
 ·rw[decide_eq_false h]
  cases hq:Go.Lib.bytesOf a==Go.Lib.bytesOf b with
  | false=>rfl
  | true=>exact absurd (z55 ha hb (eq_of_beq hq)) h
theorem y3w {D:List Df} {d:Df} (h:d∈D9 D):H8 (D9 D) d.1=d.2.1:=by
 refine j05 ?_ h
 unfold List.Nodup
 rw[List.pairwise_map]
 exact(q8i D).imp fun {a b} hab e=>by rw[e]at hab;exact Z3 _ hab
theorem z3r {D:List Df} {d:Df} (h:d∈D9 D):B7 (D9 D) d.1=B7 D d.1:=by
 obtain⟨t,-,-,he⟩:=tidyL_mem.1 h
 have h1:d.1=t:=by rw[he]
 have h2:d.2.1=(B7 D t).map toR:=by rw[he]
 unfold B7
 rw[y3w h,h2,h1]
 exact j50 _
theorem y3u (D:List Df):D9 (D9 D)=D9 D:=by
 have hp:(D9 (D9 D)).Perm (D9 D):=(List.perm_ext_iff_of_nodup (z3q _) (z3q _)).2 fun d=>by
  constructor
  ·intro h
   obtain⟨t,ht,-,rfl⟩:=tidyL_mem.1 h
   obtain⟨e,he,rfl⟩:=List.mem_map.1 ht
   rw[z3r he]
   obtain⟨u,h1,h2,h3⟩:=tidyL_mem.1 he
   have:e.1=u:=by rw[h3]
   rw[this]
   exact tidyL_mem.2 ⟨u,h1,h2,rfl⟩
  ·intro h
   have h0:=h
   obtain⟨u,h1,h2,h3⟩:=tidyL_mem.1 h0
   have hu:d.1=u:=by rw[h3]
   refine tidyL_mem.2 ⟨d.1,List.mem_map_of_mem h,?_,?_⟩
   ·rw[z3r h,hu];exact h2
   ·rw[z3r h,hu,<-h3]
 exact hp.eq_of_pairwise (le:=fun a b=>C8 a.1 b.1<0) (fun a b _ _ h1 h2=>absurd (q3e h1 h2) (Z3 _)) (q8i _) (q8i _)
theorem j6s {D:List Df} (g:Good D):M5 D=0:=by
 have h1:=g.len
 have h2:=g.num
 unfold M5
 rw[if_neg (by omega)]
 unfold q0g
 rw[if_neg (by rw[List.length_map];omega)]
 have hget:∀ i,i<(D.map (·.1)).length->(D.map (·.1)).getD i []∈D.map (·.1):=fun i hi=>by
  rw[List.getD_eq_getElem?_getD,List.getElem?_eq_getElem hi];exact List.getElem_mem hi
 have e1:((List.range (D.map (·.1)).length).find? fun i=>chk ((D.map (·.1)).getD i []) != 0)=none:=by
  rw[List.find?_eq_none]
  intro i hi
  obtain⟨d,hd,he⟩:=List.mem_map.1 (hget i (List.mem_range.1 hi))
  rw[<-he,g.chk d hd];decide
 obtain⟨n,hn⟩:=g.same
 rw[e1,if_neg]
 ·rfl
 ·rw[List.any_eq_true]
  rintro ⟨i,hi,hb⟩
  have hi:=List.mem_range.1 hi
  obtain⟨d,hd,he⟩:=List.mem_map.1 (hget i hi)
  obtain⟨e,he',he2⟩:=List.mem_map.1 (hget 0 (by omega))
  rw[<-he,<-he2,hn d hd,hn e he']at hb
  simp at hb
theorem j2i {D:List Df} (g:Good D):Good (D9 D) where
 len:=Nat.le_trans (j2j D) g.len
 num:=Nat.le_trans (j2k D) g.num
 chk d hd:=by
  obtain⟨t,ht,-,rfl⟩:=tidyL_mem.1 hd
  obtain⟨e,he,rfl⟩:=List.mem_map.1 ht
  exact g.chk e he
 same:=by
  obtain⟨n,hn⟩:=g.same
  refine⟨n,fun d hd=>?_⟩
  obtain⟨t,ht,-,rfl⟩:=tidyL_mem.1 hd
  obtain⟨e,he,rfl⟩:=List.mem_map.1 ht
  exact hn e he
end

section
open Go Go.Abs

theorem y03 {a b:List Rw} (ha:a.length<=1000000):q7f (a,b,())=some (decide (a=b),()):=by
 unfold q7f
 simp only[q0n]
 by_cases h:a.length=b.length
 ·rw[if_pos (by omega)]
  have key:∀ k i,i+k=a.length->(A3 (q4h (a,b,())) ((i:Int),())).bind (Sum.elim (fun z8=>(some z8)) (Sum.elim (fun z9=>(some (true,()))) Empty.elim))=some (decide (a.drop i=b.drop i),()):=by
   intro k
   induction k with
   | zero =>
    intro i hi
    rw[C0 (b:=.inr (.inl ())) (by
     unfold q4h
     simp only[dcF (show ¬ (i:Int)<(a.length:Int)by omega),cond_false])]
    rw[List.drop_of_length_le (by omega),List.drop_of_length_le (by omega)];rfl
   | succ k ih =>
    intro i hi
    have hia:i<a.length:=by omega
    have hib:i<b.length:=by omega
    have heq:∀ x y:Rw,(!(x.1==y.1&&(x.2.1==y.2.1&&(x.2.2.1==y.2.2.1&&true))))=!decide (x=y):=fun x y=>by
     obtain⟨x1,x2,x3,⟨⟩⟩:=x
     obtain⟨y1,y2,y3,⟨⟩⟩:=y
     congr 1
     rw[Bool.eq_iff_iff]
     simp
    have hst:q4h (a,b,()) ((i:Int),())=cond (!decide (a[i]=b[i])) (some (.inr (.inl (false,())))) (some (.inl (((i+1:Nat):Int),()))):=by
     unfold q4h
     simp only[dcT (show(i:Int)<(a.length:Int)by omega),cond_true,J5 hia,J5 hib,Option.bind_some,G8 (show i<9223372036854775807 by omega),heq]
    rw[List.drop_eq_getElem_cons hia,List.drop_eq_getElem_cons hib]
    by_cases he:a[i]=b[i]
    ·rw[decide_eq_true he,Bool.not_true,cond_false]at hst
     rw[H4 hst,ih (i+1) (by omega)]
     exact congrArg (fun x=>some (x,())) (decide_eq_decide.2 (by rw[List.cons.injEq];exact⟨fun h=>⟨he,h⟩,fun h=>h.2⟩))
    ·rw[decide_eq_false he,Bool.not_false,cond_true]at hst
     rw[C0 hst]
     rw[decide_eq_false (fun h=>he (List.cons.inj h).1)];rfl
  exact key a.length 0 (by omega)
 ·rw[if_neg (by omega),decide_eq_false (fun e=>h (by rw[e]))]
open Classical in
theorem z2w {a b:List Df} (ha:a.length<=1000000) (hd:∀ d∈a,d.1.length<=1000000/\d.2.1.length<=1000000):q4j (a,b,())=some (decide (a=b),()):=by
 unfold q4j
 simp only[q0n]
 by_cases h:a.length=b.length
 ·rw[if_pos (by omega)]
  have key:∀ k i,i+k=a.length->(A3 (q4k (a,b,())) ((i:Int),())).bind (Sum.elim (fun z8=>(some z8)) (Sum.elim (fun z9=>(some (true,()))) Empty.elim))=some (decide (a.drop i=b.drop i),()):=by
   intro k
   induction k with
   | zero =>
    intro i hi
    rw[C0 (b:=.inr (.inl ())) (by
     unfold q4k
     simp only[dcF (show ¬ (i:Int)<(a.length:Int)by omega),cond_false])]
    rw[List.drop_of_length_le (by omega),List.drop_of_length_le (by omega)];rfl
   | succ k ih =>
    intro i hi
    have hia:i<a.length:=by omega
    have hib:i<b.length:=by omega
    obtain⟨b1,b2⟩:=hd a[i] (List.getElem_mem hia)
    have heq:∀ x y:Df,x=y↔x.1=y.1/\x.2.1=y.2.1:=fun x y=>by
     obtain⟨x1,x2,⟨⟩⟩:=x
     obtain⟨y1,y2,⟨⟩⟩:=y
     simp
    have hst:q4k (a,b,()) ((i:Int),())=if a[i]=b[i]then(some (.inl (((i+1:Nat):Int),())))else(some (.inr (.inl (false,())))):=by
     unfold q4k
     simp only[dcT (show(i:Int)<(a.length:Int)by omega),cond_true,J5 hia,J5 hib,Option.bind_some,G8 (show i<9223372036854775807 by omega),z2x b1,y03 b2]
     by_cases h1:a[i].1=b[i].1
     ·by_cases h2:a[i].2.1=b[i].2.1
      ·rw[if_pos ((heq _ _).2 ⟨h1,h2⟩)];simp[h1,h2]
      ·rw[if_neg (fun h=>h2 ((heq _ _).1 h).2)];simp[h1,h2]
     ·rw[if_neg (fun h=>h1 ((heq _ _).1 h).1)];simp[h1]
    rw[List.drop_eq_getElem_cons hia,List.drop_eq_getElem_cons hib]
    by_cases he:a[i]=b[i]
    ·rw[if_pos he]at hst
     rw[H4 hst,ih (i+1) (by omega)]
     exact congrArg (fun x=>some (x,())) (decide_eq_decide.2 (by rw[List.cons.injEq];exact⟨fun h=>⟨he,h⟩,fun h=>h.2⟩))
    ·rw[if_neg he]at hst
     rw[C0 hst]
     rw[decide_eq_false (fun h=>he (List.cons.inj h).1)];rfl
  exact key a.length 0 (by omega)
 ·rw[if_neg (by omega),decide_eq_false (fun e=>h (by rw[e]))]
structure Told (T:List Df):Prop where
 chk:M5 T=0
 tidy:D9 T=T
 ok:∀ d∈T,DfOK d
theorem Told.put {T:List Df} (h:Told T):PutOK T where
 len:=(T5 h.chk).len
 num:=(T5 h.chk).num
 dim d hd:=(h.ok d hd).time
 time d hd n hn:=z5i ((h.ok d hd).crd n hn)
 rows d hd r hr:=(h.ok d hd).rows r hr
theorem y44 {H:List Df} (hH:∀ d∈H,DfOK d) (h0:M5 H=0):Told (D9 H) where
 chk:=j6s (j2i (T5 h0))
 tidy:=y3u H
 ok d hd:=by
  have g:=T5 h0
  have k:=j2i g
  obtain⟨t,ht,-,he⟩:=tidyL_mem.1 hd
  obtain⟨e,hm,e1⟩:=List.mem_map.1 ht
  have hd1:d.1=e.1:=by rw[he];exact e1.symm
  refine⟨by rw[hd1];exact(hH e hm).time,fun n hn=>(hH e hm).crd n (by rw[<-hd1];exact hn),Nat.le_trans (q43 hd) k.num,fun x hx=>?_⟩
  have hx':x∈(B7 H t).map toR:=by rw[he]at hx;exact hx
  obtain⟨p,hp,rfl⟩:=List.mem_map.1 hx'
  have h1:=j51 (l:=(H8 H t).map (sc 1)) hp
  rw[List.map_map]at h1
  obtain⟨q,hq,hqe⟩:=List.mem_map.1 h1
  have hq2:∃ d∈H,q∈d.2.1:=by
   unfold H8 at hq
   obtain⟨d,hd,hr⟩:=List.mem_flatMap.1 hq
   split at hr
   ·exact⟨d,hd,hr⟩
   ·cases hr
  obtain⟨e',he',hqm⟩:=hq2
  have hr:=(hH e' he').rows q hqm
  have hqe:B1 q=p.1:=hqe
  have h2:=(q5l (q38 ((H8 H t).map (sc 1))) p).1 hp
  rw[q1a p.1 _ (fun _=>0) (show InR 0 from q6p 0)]at h2
  refine⟨?_,?_,?_⟩
  ·show I64 p.1.1
   rw[<-hqe];exact hr.k
  ·show I64 p.1.2.1
   rw[<-hqe];exact hr.v
  ·show I64 p.2
   rw[<-h2.2];unfold I64 W;rw[IntKind.wrap_i64];omega
theorem z8v {A B:List Df} (h:H2 A=H2 B):A=B:=by
 unfold H2 at h
 obtain⟨h1,h2⟩:=List.cons.inj h
 exact(z2k (A:=A) (B:=B) (r:=[]) (s:=[]) (by omega) (by rw[List.append_nil,List.append_nil];exact h2)).1
theorem j54 {A B:List Int} (hA:∀ n∈A,I64 n) (hB:∀ n∈B,I64 n) (hl:(B3 A).length<=100000) (h:B3 A=B3 B):A=B:=by
 have h1:=q7u (q5n hA) hl A [] 0 rfl (Nat.zero_le _) hA (Nat.le_refl _)
 have h2:=q7u (q5n hA) hl B [] 0 (by rw[h];rfl) (Nat.zero_le _) hB (Nat.le_refl _)
 rw[h1]at h2
 simpa using h2
end

end Go.Proofs.Try
