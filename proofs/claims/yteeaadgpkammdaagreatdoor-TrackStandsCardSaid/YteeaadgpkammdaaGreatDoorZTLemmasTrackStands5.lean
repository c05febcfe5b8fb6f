/- Lemmas on functions of the program, by name. -/
import Derived.Test.YteeaadgpkammdaaGreatDoorZTFuns
import Derived.Test.YteeaadgpkammdaaGreatDoorAbsSums
import Derived.Test.YteeaadgpkammdaaGreatDoorZTLemmasTrackStands4
import Derived.Test.YteeaadgpkammdaaGreatDoorZTLemmasTrackStands2
import Derived.Test.YteeaadgpkammdaaGreatDoorZTLemmasTrackStands1
namespace Go.Proofs.Tryz
section
open Go Go.Abs

theorem y4x {l:List Int} (h1:1<=l.length) (h2:l.length<=4) (h:∀ v∈l,0<=v/\v<=1048576):chk l=0:=by
 have hb:l.any bad=false:=List.any_eq_false.2 fun v hv=>by
  have:=h v hv
  unfold bad
  simp only[Bool.or_eq_true,decide_eq_true_eq]
  omega
 unfold chk
 rw[if_neg (by omega),hb];rfl
theorem y4w {l:List Int} (h:chk l=0):∀ v∈l,0<=v/\v<=1048576:=fun v hv=>by
 obtain⟨i,hi,rfl⟩:=List.mem_iff_getElem.1 hv
 exact(W3 h).2.2 i _ (List.getElem?_eq_getElem hi)
theorem y46 {n:Nat} {d:Int} {l t:List Int} (ht:chk t=0) (hs:sck (n:Int) d l (t.length:Int)=0) (h:(app n d l t).2=0):chk (app n d l t).1=0/\(app n d l t).1.length=n+l.length:=by
 obtain⟨t1,tq,t3⟩:=W3 ht
 obtain⟨s1,s2,s3,s4,s5,s6⟩:=N9 hs
 unfold app at h ⊢
 by_cases hg:t.getD (n-1) 0+d>1048576
 ·rw[if_pos hg]at h;cases h
 ·rw[if_neg hg]
  have hlen:((t.take n++l).set (n-1) (t.getD (n-1) 0+d)).length=n+l.length:=by
   rw[List.length_set,List.length_append,List.length_take];omega
  refine⟨y4x (by rw[hlen];omega) (by rw[hlen];omega) fun v hv=>?_,hlen⟩
  have hp:0<=t.getD (n-1) 0:=by
   rw[List.getD_eq_getElem?_getD,List.getElem?_eq_getElem (show n-1<t.length by omega)]
   exact(t3 (n-1) _ (List.getElem?_eq_getElem (show n-1<t.length by omega))).1
  rcases List.mem_or_eq_of_mem_set hv with hv | rfl
  ·rcases List.mem_append.1 hv with hv | hv
   ·exact y4w ht v (List.mem_of_mem_take hv)
   ·obtain⟨i,hi,rfl⟩:=List.mem_iff_getElem.1 hv
    exact s6 i _ (List.getElem?_eq_getElem hi)
  ·omega
def N0 (N:List C1) (a:Int) (t:List Int):Int:=if a<0\/(N.length:Int)<=a then 2 else if chk t≠0 then chk t else if(t.length:Int)=(N.getD a.toNat v0).2.1 then 0 else 7
section
variable {N:List C1} {E:List Edge}
theorem v0l (a:Int) (t:List Int):q2n ((N,E,()),(a,t,()),())=some (N0 N a t,()):=by
 unfold q2n N0
 by_cases h1:a<0
 ·simp only[dcT h1,cond_true,if_pos (Or.inl h1:a<0\/(N.length:Int)<=a)]
 by_cases h2:a≥(N.length:Int)
 ·simp only[dcF h1,dcT h2,cond_true,cond_false,if_pos (Or.inr h2:a<0\/(N.length:Int)<=a)]
 simp only[dcF h1,dcF h2,cond_false,if_neg (show ¬ (a<0\/(N.length:Int)<=a)by omega),y0e,Option.bind_some,J0 v0 (show 0<=a by omega) (show a<(N.length:Int)by omega),K2]
 by_cases h3:chk t=0
 ·simp only[h3,if_true,ne_eq,not_true_eq_false,if_false]
  split<;>rfl
 ·simp only[h3,if_false,ne_eq,not_false_eq_true,if_true]
theorem v0s (a:Int) (t:List Int):z3e ((N,E,()),a,t,())=some (N0 N a t,()):=by
 unfold z3e N0
 by_cases h1:a<0
 ·simp only[dcT h1,cond_true,if_pos (Or.inl h1:a<0\/(N.length:Int)<=a)]
 by_cases h2:a≥(N.length:Int)
 ·simp only[dcF h1,dcT h2,cond_true,cond_false,if_pos (Or.inr h2:a<0\/(N.length:Int)<=a)]
 simp only[dcF h1,dcF h2,cond_false,if_neg (show ¬ (a<0\/(N.length:Int)<=a)by omega),z3n,Option.bind_some,J0 v0 (show 0<=a by omega) (show a<(N.length:Int)by omega),K2]
 by_cases h3:chk t=0
 ·simp only[h3,if_true,ne_eq,not_true_eq_false,if_false]
  split<;>rfl
 ·simp only[h3,if_false,ne_eq,not_false_eq_true,if_true]
theorem v4x (hN:N.all D8=true) {a:Int} {t:List Int} (h:N0 N a t=0):∃ k:Nat,a=(k:Int)/\k<N.length/\chk t=0/\t.length=B5 N k:=by
 unfold N0 at h
 split at h
 ·cases h
 ·rename_i h1
  split at h
  ·rename_i h2;exact absurd h h2
  ·rename_i h2
   split at h
   ·rename_i h3
    have hk:a.toNat<N.length:=by omega
    have:=z6t hN hk
    exact⟨a.toNat,by omega,hk,by simpa using h2,by omega⟩
   ·cases h
end
end

section
open Go Go.Abs

section
variable {N:List C1} {E:List Edge}
theorem j6e {s:Sm} (hb:bx s) {t:List Int} (ht:chk t=0) (hk:kN s<=t.length):q5p (s,t,())=some ((app s.1.toNat s.2.1 s.2.2.1 t).1,(app s.1.toNat s.2.1 s.2.2.1 t).2,())/\q8c (s,t,())=some ((app s.1.toNat s.2.1 s.2.2.1 t).1,(app s.1.toNat s.2.1 s.2.2.1 t).2,()):=by
 have h4:=(W3 ht).2.1
 have hs:=hb.sck hk h4
 have h1:=v5f s.1 s.2.1 s.2.2.1 t
 have h2:=v0t s.1 s.2.1 s.2.2.1 t
 rw[if_neg (by rw[ht];simp),if_neg (by rw[hs];simp)]at h1 h2
 exact⟨h1,h2⟩
theorem y8p {s:Sm} (hb:bx s) {t:List Int} (ht:chk t=0) (hk:kN s<=t.length) (h:(app s.1.toNat s.2.1 s.2.2.1 t).2=0):chk (app s.1.toNat s.2.1 s.2.2.1 t).1=0/\(app s.1.toNat s.2.1 s.2.2.1 t).1.length=oN s:=by
 have h4:=(W3 ht).2.1
 have hs:=hb.sck hk h4
 have hz:s.1=((s.1.toNat:Nat):Int):=by have:=hb.wf.1;omega
 rw[hz]at hs
 exact y46 ht hs h
end
end

section
open Go Go.Abs

abbrev Stp:=Int×List Int×Unit
section
variable {N:List C1} {E:List Edge}
def j0r (N:List C1) (l:List Stp):Option Int:=l.findSome? fun s=>if N0 N s.1 s.2.1=0 then none else some (N0 N s.1 s.2.1)
theorem v4z (hN:N.all D8=true) {l:List Stp} (h:j0r N l=none):∀ s∈l,∃ k:Nat,s.1=(k:Int)/\k<N.length/\chk s.2.1=0/\s.2.1.length=B5 N k:=fun s hs=>by
 have:=List.findSome?_eq_none_iff.1 h s hs
 refine v4x hN ?_
 apply Classical.byContradiction
 intro hc
 rw[if_neg hc]at this
 cases this
end
end

section
open Go Go.Abs

noncomputable def U4 (k:KyK) (acc:Int) (r:Mk):Int:=if kyM r=k then Wk (acc+r.2.2.1)else acc
theorem y0h:∀ (l:List Mk) (T:KyK->Int) (k:KyK),z5g l T k=l.foldl (U4 k) (T k)
 | [],_,_=>rfl
 | r::l,T,k=>by
  show z5g l _ k=l.foldl (U4 k) (U4 k (T k) r)
  rw[y0h l]
  congr 1
  unfold U4
  by_cases h:k=kyM r
  ·rw[if_pos h,if_pos h.symm,h]
  ·rw[if_neg h,if_neg fun e=>h e.symm]
theorem j4d {k:KyK}:∀ {l:List Mk} {a:Int},(∀ r∈l,kyM r≠k)->l.foldl (U4 k) a=a
 | [],_,_=>rfl
 | r::l,a,h=>by
  show l.foldl (U4 k) (U4 k a r)=a
  rw[j4d fun q hq=>h q (List.mem_cons_of_mem _ hq)]
  unfold U4
  rw[if_neg (h r List.mem_cons_self)]
noncomputable def O1 (L:List Mk) (k:KyK):Int:=L.foldl (U4 k) 0
def F7 (L:List Mk) (v:Nat):List (List Int):=(L.filter fun r=>decide (r.1=(v:Int))).map (·.2.1)
noncomputable def X5 (L:List Mk) (v:Nat) (t:List Int):Option Mk:=if O1 L ((v:Int),F0 t)=0 then none else some ((v:Int),t,O1 L ((v:Int),F0 t),())
noncomputable def q1c (L:List Mk) (v:Nat):List Mk:=(E3 (F7 L v)).filterMap (X5 L v)
noncomputable def F2 (n:Nat) (L:List Mk):List Mk:=(List.range n).flatMap (q1c L)
def q2y (r:Mk):KyK×Int:=(kyM r,r.2.2.1)
def q2z (p:KyK×Int):Mk:=(p.1.1,j10 p.1.2,p.2,())
def OkL (n:Nat) (d:Nat->Nat) (L:List Mk):Prop:=∀ r∈L,∃ k:Nat,r.1=(k:Int)/\k<n/\r.2.1.length=d k
theorem z07 (a b:Int) (r s:List Int):B0 (a::r) (b::s)<0↔a<b\/a=b/\B0 r s<0:=by
 simp only[B0]
 by_cases h1:a<b
 ·simp[h1]
 ·rw[if_neg h1]
  by_cases h2:a>b
  ·rw[if_pos h2]
   constructor
   ·intro h;omega
   ·rintro (h | ⟨h,-⟩)<;>omega
  ·rw[if_neg h2]
   have:a=b:=by omega
   simp[this]
theorem z04:(B0 [] []<0)=False:=by simp[B0]
theorem y7a:∀ {a b:List Int},a.length=b.length->a.length<=4->B0 a b<0->HT.lt (F0 a) (F0 b)=true
 | [],[],_,_,h=>absurd h (T9 _)
 | [x],[y],_,_,h=>by
  rw[z07]at h
  simp only[z04,and_false,or_false]at h
  simp[F0,Ty.lt,Ty.eqb,h]
 | [x,x2],[y,y2],_,_,h=>by
  simp only[z07,z04,and_false,or_false]at h
  simp[F0,Ty.lt,Ty.eqb]
  omega
 | [x,x2,x3],[y,y2,y3],_,_,h=>by
  simp only[z07,z04,and_false,or_false]at h
  simp[F0,Ty.lt,Ty.eqb]
  omega
 | [x,x2,x3,x4],[y,y2,y3,y4],_,_,h=>by
  simp only[z07,z04,and_false,or_false]at h
  simp[F0,Ty.lt,Ty.eqb]
  omega
 | _::_::_::_::_::_,_,_,h4,_=>by simp at h4
 | [],_::_,h,_,_=>by simp at h
 | _::_,[],h,_,_=>by simp at h
 | [_],_::_::_,h,_,_=>by simp at h
 | _::_::_,[_],h,_,_=>by simp at h
 | [_,_],_::_::_::_,h,_,_=>by simp at h
 | [_,_,_],[_,_],h,_,_=>by simp at h
 | [_,_,_,_],[_,_],h,_,_=>by simp at h
 | [_,_,_],_::_::_::_::_,h,_,_=>by simp at h
 | [_,_,_,_],[_,_,_],h,_,_=>by simp at h
 | [_,_,_,_],_::_::_::_::_::_,h,_,_=>by simp at h
theorem y6b {k:KyK} {l:List Mk} (h:l.foldl (U4 k) 0≠0):∃ r∈l,kyM r=k:=by
 by_cases hx:∃ r∈l,kyM r=k
 ·exact hx
 ·exact absurd (j4d fun r hr e=>hx ⟨r,hr,e⟩) h
theorem mem_timesAt {L:List Mk} {v:Nat} {t:List Int}:t∈F7 L v↔∃ r∈L,r.1=(v:Int)/\r.2.1=t:=by
 unfold F7
 rw[List.mem_map]
 constructor
 ·rintro ⟨r,hr,rfl⟩
  obtain⟨h1,h2⟩:=List.mem_filter.1 hr
  exact⟨r,h1,of_decide_eq_true h2,rfl⟩
 ·rintro ⟨r,h1,h2,rfl⟩
  exact⟨r,List.mem_filter.2 ⟨h1,decide_eq_true h2⟩,rfl⟩
theorem mem_rowsAt {L:List Mk} {v:Nat} {q:Mk}:q∈q1c L v↔∃ t∈F7 L v,O1 L ((v:Int),F0 t)≠0/\q=((v:Int),t,O1 L ((v:Int),F0 t),()):=by
 unfold q1c
 rw[List.mem_filterMap]
 constructor
 ·rintro ⟨t,ht,h⟩
  unfold X5 at h
  split at h
  ·cases h
  ·rename_i h0
   cases h
   exact⟨t,((V3 _).2.1 t).1 ht,h0,rfl⟩
 ·rintro ⟨t,ht,h0,rfl⟩
  exact⟨t,((V3 _).2.1 t).2 ht,by unfold X5;rw[if_neg h0]⟩
section
variable {n:Nat} {d:Nat->Nat} {L:List Mk}
theorem j11 (ok:OkL n d L) {v:Nat} {t:List Int} (h:t∈F7 L v):v<n/\t.length=d v:=by
 obtain⟨r,hr,h1,rfl⟩:=mem_timesAt.1 h
 obtain⟨k,e,hk,hl⟩:=ok r hr
 have:k=v:=by omega
 subst this
 exact⟨hk,hl⟩
theorem v56 (ok:OkL n d L) (hd:∀ k,k<n->d k<=4):Rise KK ((F2 n L).map q2y):=by
 unfold Rise
 rw[List.pairwise_map]
 unfold F2
 rw[List.pairwise_flatMap]
 constructor
 ·intro v hv
  unfold q1c
  rw[List.pairwise_filterMap]
  refine List.Pairwise.imp_of_mem (fun {a b} ha hb hab=>?_) (V3 (F7 L v)).2.2
  intro p hp q hq
  have ha':=j11 ok (((V3 _).2.1 a).1 ha)
  have hb':=j11 ok (((V3 _).2.1 b).1 hb)
  unfold X5 at hp hq
  split at hp
  ·cases hp
  ·split at hq
   ·cases hq
   ·cases hp;cases hq
    have:=y7a (ha'.2.trans hb'.2.symm) (by rw[ha'.2];exact hd v ha'.1) hab
    show KK.lt ((v:Int),F0 a) ((v:Int),F0 b)=true
    have e:KK.lt ((v:Int),F0 a) ((v:Int),F0 b)=(decide ((v:Int)<(v:Int))||(((v:Int)==(v:Int))&&HT.lt (F0 a) (F0 b))):=rfl
    rw[e,this];simp
 ·refine List.Pairwise.imp (fun {v w} hvw=>?_) List.pairwise_lt_range
  intro p hp q hq
  obtain⟨t,_,_,rfl⟩:=mem_rowsAt.1 hp
  obtain⟨u,_,_,rfl⟩:=mem_rowsAt.1 hq
  show KK.lt ((v:Int),F0 t) ((w:Int),F0 u)=true
  have e:KK.lt ((v:Int),F0 t) ((w:Int),F0 u)=(decide ((v:Int)<(w:Int))||(((v:Int)==(w:Int))&&HT.lt (F0 t) (F0 u))):=rfl
  rw[e,decide_eq_true (by omega)];rfl
theorem v54 (ok:OkL n d L) (hd:∀ k,k<n->d k<=4) (p:KyK×Int):p∈(F2 n L).map q2y↔p.2≠0/\O1 L p.1=p.2:=by
 rw[List.mem_map]
 constructor
 ·rintro ⟨q,hq,rfl⟩
  obtain⟨v,hv,hq⟩:=List.mem_flatMap.1 hq
  obtain⟨t,ht,h0,rfl⟩:=mem_rowsAt.1 hq
  exact⟨h0,rfl⟩
 ·rintro ⟨h0,h1⟩
  have hs:O1 L p.1≠0:=by rw[h1];exact h0
  obtain⟨r,hr,hk⟩:=y6b hs
  obtain⟨v,e,hv,hl⟩:=ok r hr
  have hk':p.1=((v:Int),F0 r.2.1):=by rw[<-hk,<-e];rfl
  refine⟨((v:Int),r.2.1,O1 L ((v:Int),F0 r.2.1),()),List.mem_flatMap.2 ⟨v,List.mem_range.2 hv,mem_rowsAt.2 ⟨r.2.1,mem_timesAt.2 ⟨r,hr,e,rfl⟩,by rw[<-hk'];exact hs,rfl⟩⟩,?_⟩
  refine Prod.ext hk'.symm ?_
  show O1 L ((v:Int),F0 r.2.1)=p.2
  rw[<-hk',h1]
theorem j2b (ok:OkL n d L) (hd:∀ k,k<n->d k<=4):W2 L []=(F2 n L).map q2y:=by
 have hb:=j2a L (m:=[]) (T:=fun _=>0) ⟨List.Pairwise.nil,fun _=>rfl,fun p hp=>by cases hp⟩
 have hr:=v56 ok hd
 refine v1u K4 hb.rise hr ((List.perm_ext_iff_of_nodup (j29 hb.rise) (j29 hr)).2 fun p=>?_)
 rw[y4d hb,v54 ok hd,y0h]
 rfl
theorem j0s (ok:OkL n d L) {q:Mk} (hq:q∈F2 n L):∃ v:Nat,q.1=(v:Int)/\v<n/\q.2.1.length=d v/\q.2.1∈F7 L v:=by
 obtain⟨v,hv,hq⟩:=List.mem_flatMap.1 hq
 obtain⟨t,ht,h0,rfl⟩:=mem_rowsAt.1 hq
 exact⟨v,rfl,List.mem_range.1 hv,(j11 ok ht).2,ht⟩
theorem v5w {q:Mk} (h:q.2.1.length<=4):q2z (q2y q)=q:=by
 unfold q2z q2y kyM
 simp only[z5c h]
end
end

section
open Go Go.Abs

theorem y4y (a:Int) (t:List Int):q5v (a,t,())=some ((a,F0 t),()):=rfl
def mC (N:List C1) (r:Mk):Int:=if N0 N r.1 r.2.1=0 then(if r.2.2.1 < -1099511627776\/r.2.2.1>1099511627776 then 2 else 0)else N0 N r.1 r.2.1
def q0b (N:List C1) (L:List Mk):Option Int:=L.findSome? fun r=>if mC N r=0 then none else some (mC N r)
theorem v6c:j16=q30:=rfl
theorem v6b:j15=q30:=rfl
section
variable {N:List C1} {E:List Edge}
theorem y7e (L:List Mk) {i:Nat} (hi:i<L.length) (hL:L.length<=64) (m:BgK):q30 ((N,E,()),L,()) ((i:Int),m,()) =
  some (if mC N L[i]=0 then .inl (((i+1:Nat):Int),q19 m (kyM L[i]) L[i].2.2.1,())else .inr (.inl (mC N L[i],m,()))):=by
 unfold q30
 have hs:q2n ((N,E,()),(L[i].1,L[i].2.1,()),())=some (N0 N L[i].1 L[i].2.1,()):=v0l _ _
 simp only[dcT (show(i:Int)<(L.length:Int)by omega),cond_true,E9 hi,Option.bind_some,hs,K2]
 by_cases h0:N0 N L[i].1 L[i].2.1=0
 ·have e:mC N L[i]=if L[i].2.2.1 < -1099511627776\/L[i].2.2.1>1099511627776 then 2 else 0:=by unfold mC;rw[if_pos h0]
  rw[if_pos h0]
  by_cases h1:L[i].2.2.1 < -1099511627776
  ·have e2:mC N L[i]=2:=by rw[e,if_pos (.inl h1)]
   rw[dcT h1,cond_true,e2]
   rfl
  ·rw[dcF h1,cond_false]
   by_cases h2:L[i].2.2.1>1099511627776
   ·have e2:mC N L[i]=2:=by rw[e,if_pos (.inr h2)]
    rw[dcT h2,cond_true,e2]
    rfl
   ·have e2:mC N L[i]=0:=by rw[e,if_neg (by omega)]
    rw[dcF h2,cond_false,e2,if_pos rfl]
    simp only[y4y,Option.bind_some,B7 (show i<9223372036854775807 by omega)]
    have hp:∀ M:BgK,(cond (((B9 KK M (L[i].1,F0 L[i].2.1)).getD (0:Int))==(0:Int)) (some (Sum.inl (G5 KK M (L[i].1,F0 L[i].2.1),()))) (some (Sum.inl (M,()))):Option ((BgK×Unit)⊕Empty)) =
      some (.inl (cond (I7 M (kyM L[i])==0) (G5 KK M (kyM L[i])) M,())):=fun M=>by
     show cond (I7 M (kyM L[i])==0) _ _=_
     cases I7 M (kyM L[i])==0<;>rfl
    refine(congrArg (fun o=>Option.bind o _) (hp _)).trans ?_
    rfl
 ·have e:mC N L[i]=N0 N L[i].1 L[i].2.1:=by unfold mC;rw[if_neg h0]
  rw[if_neg h0,e,if_neg h0]
theorem j5h (L:List Mk) (hL:L.length<=64):∀ (k i:Nat),i+k=L.length->∀ m:BgK,∃ m',A2 (q30 ((N,E,()),L,())) ((i:Int),m,()) =
  some (match q0b N (L.drop i)with
   | some c=>.inl (c,m',())
   | none=>.inr (.inl (W2 (L.drop i) m,())))
 | 0,i,hi,m=>by
  refine⟨m,?_⟩
  rw[List.drop_of_length_le (by omega)]
  refine D6 ?_
  unfold q30
  simp only[dcF (show ¬ (i:Int)<(L.length:Int)by omega),cond_false]
  rfl
 | k+1,i,hi,m=>by
  have hlt:i<L.length:=by omega
  have hs:=y7e (N:=N) (E:=E) L hlt hL m
  rw[List.drop_eq_getElem_cons hlt]
  unfold q0b
  rw[List.findSome?_cons]
  by_cases h:mC N L[i]=0
  ·rw[if_pos h]at hs
   obtain⟨m',hm⟩:=j5h L hL k (i+1) (by omega) (q19 m (kyM L[i]) L[i].2.2.1)
   refine⟨m',?_⟩
   rw[H9 hs,hm,if_pos h]
   rfl
  ·rw[if_neg h]at hs
   refine⟨m,?_⟩
   rw[D6 hs,if_neg h]
theorem y7d (L:List Mk) (hL:L.length<=64):∃ m',A2 (q30 ((N,E,()),L,())) ((0:Int),[],()) =
  some (match q0b N L with
   | some c=>.inl (c,m',())
   | none=>.inr (.inl (W2 L [],()))):=by
 obtain⟨m',h⟩:=j5h (N:=N) (E:=E) L hL L.length 0 (by omega) []
 exact⟨m',h⟩
end
theorem j1v {E γ:Type} {F:Type} {row:E->F} {b:Nat} {k:((List F×Unit)⊕Empty)->Option γ} {f:List E->E->(List F×Unit)->Option ((List F×Unit)⊕((List F×Unit)⊕Empty))} {g:(List F×Unit)->Option ((List F×Unit)⊕((List F×Unit)⊕Empty))} {S:E->Prop}
  (hf:∀ r e (y:List F),S e->y.length+1<=b->f r e (y,())=some (.inl (y++[row e],()))) (hg:∀ y:List F,g (y,())=some (.inr (.inl (y,())))) {c:γ} :
  ∀ (n:Nat) (l:List E) (y:List F),l.length=n->(∀ e∈l,S e)->y.length+n<=b->(∀ ord:List E,ord.Perm l->k (.inl (y++ord.map row,()))=some c)->q3z f g k n l (y,()) c
 | 0,l,y,hl,_,hb,h=>by
  have:l=[]:=List.eq_nil_of_length_eq_zero hl
  subst this
  refine⟨.inl (y,()),hg y,?_⟩
  have:=h [] (List.Perm.refl _)
  simpa using this
 | n+1,[],y,hl,_,_,_=>by simp at hl
 | n+1,e::l,y,hl,hS,hb,h=>by
  intro p r hp
  have hSp:∀ q∈p::r,S q:=fun q hq=>hS q (hp.mem_iff.2 hq)
  refine .inr ⟨_,hf r p y (hSp p List.mem_cons_self) (by omega),j1v hf hg n r (y++[row p]) ?_ (fun q hq=>hSp q (List.mem_cons_of_mem _ hq)) ?_ fun ord ho=>?_⟩
  ·have:=hp.length_eq
   simp only[List.length_cons]at this hl
   omega
  ·simp only[List.length_append,List.length_cons,List.length_nil];omega
  ·have:=h (p::ord) ((ho.cons p).trans hp.symm)
   rw[List.map_cons]at this
   rw[List.append_assoc];exact this
def U0 (a b:Mk):Int:=if a.1<b.1 then -1 else if a.1>b.1 then 1 else B0 a.2.1 b.2.1
theorem y54 (v w:Int):q0w (v,w,())=some (if v<w then -1 else if v>w then 1 else 0,()):=by
 unfold q0w q6e
 by_cases h1:v<w
 ·simp[h1]
 ·by_cases h2:v>w
  ·simp[h1,h2]
  ·simp[h1,h2]
theorem y5a (p q:Int):q34 ([p,q],())=some (if p≠0 then p else q,()):=by
 have f0:U1 ([p,q],()) ((0:Int),())=if p=0 then some (.inl ((1:Int),()))else some (.inr (.inl (p,()))):=by
  unfold U1
  by_cases h:p=0
  ·subst h;rfl
  ·rw[if_neg h]
   show cond (p != 0) _ _=_
   rw[R4 h];rfl
 have f1:U1 ([p,q],()) ((1:Int),())=if q=0 then some (.inl ((2:Int),()))else some (.inr (.inl (q,()))):=by
  unfold U1
  by_cases h:q=0
  ·subst h;rfl
  ·rw[if_neg h]
   show cond (q != 0) _ _=_
   rw[R4 h];rfl
 have f2:U1 ([p,q],()) ((2:Int),())=some (.inr (.inr (.inl ()))):=rfl
 unfold q34
 by_cases hp:p=0
 ·rw[if_pos hp]at f0
  by_cases hq:q=0
  ·rw[if_pos hq]at f1
   rw[H9 f0,H9 f1,D6 f2,if_neg (by simpa using hp),hq];rfl
  ·rw[if_neg hq]at f1
   rw[H9 f0,D6 f1,if_neg (by simpa using hp)];rfl
 ·rw[if_neg hp]at f0
  rw[D6 f0,if_pos hp];rfl
theorem j63 {x y:Mk} (h:x.2.1.length<=1000000):(fun a b=>(q3v (a,b,())).map fun r=>r.1) x y=some (U0 x y):=by
 show(q3v (x,y,())).map _=_
 unfold q3v U0
 simp only[y54,Option.bind_some,j04 h,y5a,Option.map_some]
 by_cases h1:x.1<y.1
 ·simp[h1]
 ·by_cases h2:x.1>y.1
  ·simp[h1,h2]
  ·simp[h1,h2]
theorem q1z (x y:Mk):U0 x y<0↔x.1<y.1\/(x.1=y.1/\B0 x.2.1 y.2.1<0):=by
 unfold U0
 by_cases h1:x.1<y.1
 ·simp[h1]
 ·by_cases h2:x.1>y.1
  ·have:¬ x.1=y.1:=by omega
   simp[h1,h2,this]
  ·have:x.1=y.1:=by omega
   simp[this]
section
variable {n:Nat} {d:Nat->Nat} {L:List Mk}
theorem v58 (ok:OkL n d L):(F2 n L).Pairwise fun x y=>U0 x y<0:=by
 unfold F2
 rw[List.pairwise_flatMap]
 constructor
 ·intro v hv
  unfold q1c
  rw[List.pairwise_filterMap]
  refine List.Pairwise.imp (fun {a b} hab=>?_) (V3 (F7 L v)).2.2
  intro p hp q hq
  unfold X5 at hp hq
  split at hp
  ·cases hp
  ·split at hq
   ·cases hq
   ·cases hp;cases hq
    exact(q1z _ _).2 (.inr ⟨rfl,hab⟩)
 ·refine List.Pairwise.imp (fun {v w} hvw=>?_) List.pairwise_lt_range
  intro p hp q hq
  obtain⟨t,_,_,rfl⟩:=mem_rowsAt.1 hp
  obtain⟨u,_,_,rfl⟩:=mem_rowsAt.1 hq
  exact(q1z _ _).2 (.inl (by show(v:Int)<(w:Int);omega))
theorem y8h (ok:OkL n d L) (hd:∀ k,k<n->d k<=4) {z:List Mk} (hz:z.Perm (F2 n L)):O0 (fun a b=>(q3v (a,b,())).map fun r=>r.1) z=some (F2 n L):=by
 have hlen:∀ x∈z,x.2.1.length<=1000000:=fun x hx=>by
  obtain⟨v,_,hv,hl,_⟩:=j0s ok (hz.mem_iff.1 hx)
  have:=hd v hv
  omega
 have hlt:∀ x∈z,∀ y:Mk,ltF (fun a b=>(q3v (a,b,())).map fun r=>r.1) x y↔U0 x y<0:=fun x hx y=>by
  unfold ltF
  rw[j63 (hlen x hx)]
  exact⟨fun ⟨v,h1,h2⟩=>by cases h1;exact h2,fun h=>⟨_,rfl,h⟩⟩
 have hs:=v58 ok
 have tri:∀ x∈z,∀ y∈z,x=y\/U0 x y<0\/U0 y x<0:=fun x hx y hy=>by
  by_cases h1:x.1<y.1
  ·exact .inr (.inl ((q1z _ _).2 (.inl h1)))
  ·by_cases h2:y.1<x.1
   ·exact .inr (.inr ((q1z _ _).2 (.inl h2)))
   ·have e:x.1=y.1:=by omega
    by_cases h3:B0 x.2.1 y.2.1<0
    ·exact .inr (.inl ((q1z _ _).2 (.inr ⟨e,h3⟩)))
    ·by_cases h4:B0 y.2.1 x.2.1<0
     ·exact .inr (.inr ((q1z _ _).2 (.inr ⟨e.symm,h4⟩)))
     ·have e2:x.2.1=y.2.1:=by
       rw[P8]at h4
       exact cmpL_eq.1 (by omega)
      refine .inl ?_
      obtain⟨v,hv,hx'⟩:=List.mem_flatMap.1 (hz.mem_iff.1 hx)
      obtain⟨w,hw,hy'⟩:=List.mem_flatMap.1 (hz.mem_iff.1 hy)
      obtain⟨t,_,_,rfl⟩:=mem_rowsAt.1 hx'
      obtain⟨u,_,_,rfl⟩:=mem_rowsAt.1 hy'
      have e:(v:Int)=(w:Int):=e
      have:v=w:=by omega
      subst this
      have e2:t=u:=e2
      subst e2
      rfl
 have irr:∀ x:Mk,¬ U0 x x<0:=fun x h=>by
  rcases (q1z x x).1 h with h | ⟨_,h⟩
  ·omega
  ·exact T9 _ h
 have tr:∀ x y w:Mk,U0 x y<0->U0 y w<0->U0 x w<0:=fun x y w h1 h2=>by
  rw[q1z]at h1 h2 ⊢
  rcases h1 with h1 | ⟨h1,h1'⟩<;>rcases h2 with h2 | ⟨h2,h2'⟩
  ·exact .inl (by omega)
  ·exact .inl (by omega)
  ·exact .inl (by omega)
  ·exact .inr ⟨by omega,q05 h1' h2'⟩
 refine j05 ⟨fun x hx y _=>⟨_,j63 (hlen x hx)⟩,fun x hx=>?_,fun x hx y hy w hw=>?_,fun x hx y hy h1 h2=>?_⟩ hz.symm ?_
 ·rw[hlt x hx];exact irr x
 ·rw[hlt x hx,hlt y hy,hlt x hx];exact tr x y w
 ·rw[hlt x hx]at h1
  rw[hlt y hy]at h2
  rcases tri x hx y hy with h | h | h
  ·exact h
  ·exact absurd h h1
  ·exact absurd h h2
 ·unfold Srt
  refine List.Pairwise.imp_of_mem (fun {a b} ha hb hab=>?_) hs
  rw[hlt b (hz.mem_iff.2 hb)]
  exact fun h=>irr a (tr a b a hab h)
theorem y52 {l:List Int} (h:l.length<=1000000):R1 (l,())=some (l,()):=by
 unfold R1
 rw[q0l (by simpa using h)]
 rfl
theorem y1g (ok:OkL n d L) (hd:∀ k,k<n->d k<=4) (hL:L.length<=64):q1k (W2 L [],())=some (F2 n L,()):=by
 have hbl:(W2 L []).length<=64:=by have:=z6e L [];simp at this;omega
 have hb:=j2b ok hd
 have hent:∀ e∈W2 L [],∃ q∈F2 n L,q2y q=e:=fun e he=>by rw[hb]at he;exact List.mem_map.1 he
 have hdeep:∀ q∈F2 n L,q.2.1.length<=4:=fun q hq=>by
  obtain⟨v,_,hv,hl,_⟩:=j0s ok hq
  have:=hd v hv
  omega
 unfold q1k
 refine y40 ?_
 refine j1v (row:=q2z) (b:=1000) (S:=fun e=>e∈W2 L []) (fun r e y hS hyb=>?_) (fun y=>rfl) _ (W2 L []) [] rfl (fun e he=>he) (by simp;omega) fun ord ho=>?_
 ·obtain⟨q,hq,rfl⟩:=hent e hS
  have h4:=hdeep q hq
  unfold y0m
  have e0:(q2y q).1.2.1=(q.2.1.length:Int):=rfl
  have hcl:=y52 (l:=j10 (F0 q.2.1)) (by rw[z5c h4];omega)
  rw[e0]
  simp only[Int.toNat_natCast]
  rw[dcT (show(0:Int)<=(q.2.1.length:Int)by omega),dcT (show(q.2.1.length:Int)<=((4:Nat):Int)by omega),Nat.ble_eq_true_of_le h4]
  simp only[Bool.and_self,cond_true]
  refine(congrArg (fun o=>Option.bind o _) hcl).trans ?_
  simp only[Option.bind_some,List.length_cons,List.length_nil]
  rw[G3 (show y.length+(0+1)<=140737488355328 by omega) (show(y.length+(0+1))*40<=140737488355328 by omega)]
  rfl
 ·have hp:(([]:List Mk)++ord.map q2z).Perm (F2 n L):=by
   rw[List.nil_append]
   have h1:=ho.map q2z
   rw[hb,List.map_map]at h1
   have e:(F2 n L).map (q2z∘q2y)=F2 n L:=by
    refine(List.map_congr_left fun q hq=>?_).trans (List.map_id _)
    exact v5w (hdeep q hq)
   rw[e]at h1
   exact h1
  show cond (B2 ([]++ord.map q2z).length 1) _ none=_
  have hlen:([]++ord.map q2z).length<=64:=by rw[List.nil_append,List.length_map,ho.length_eq];exact hbl
  rw[G3 (by omega) (by omega),cond_true,y8h ok hd hp]
  rfl
end
end

section
open Go Go.Abs

section
variable {N:List C1} {E:List Edge}
theorem y1d (x:Int):z2q (x,())=some (decide (x < -1099511627776\/x>1099511627776),()):=by
 unfold z2q
 by_cases h1:x < -1099511627776
 ·rw[dcT h1,cond_true,decide_eq_true (.inl h1)]
 ·rw[dcF h1,cond_false]
  by_cases h2:x>1099511627776
  ·rw[dcT h2,decide_eq_true (.inr h2)]
  ·rw[dcF h2,decide_eq_false (by omega)]
theorem j2p (L:List Mk) (hL:L.length<=64):∀ (k i:Nat),i+k=L.length->A2 (q53 ((N,E,()),L,())) ((i:Int),()) =
  some (match q0b N (L.drop i)with
   | some c=>.inl (c,())
   | none=>.inr (.inl ()))
 | 0,i,hi=>by
  rw[List.drop_of_length_le (by omega)]
  refine D6 ?_
  unfold q53
  simp only[dcF (show ¬ (i:Int)<(L.length:Int)by omega),cond_false]
  rfl
 | k+1,i,hi=>by
  have hlt:i<L.length:=by omega
  have hs:q53 ((N,E,()),L,()) ((i:Int),())=some (if mC N L[i]=0 then .inl (((i+1:Nat):Int),())else .inr (.inl (mC N L[i],()))):=by
   unfold q53
   simp only[dcT (show(i:Int)<(L.length:Int)by omega),cond_true,E9 hlt,Option.bind_some,v0s,y1d,B7 (show i<9223372036854775807 by omega),K2]
   by_cases h0:N0 N L[i].1 L[i].2.1=0
   ·have e:mC N L[i]=if L[i].2.2.1 < -1099511627776\/L[i].2.2.1>1099511627776 then 2 else 0:=by unfold mC;rw[if_pos h0]
    rw[if_pos h0]
    by_cases h1:L[i].2.2.1 < -1099511627776\/L[i].2.2.1>1099511627776
    ·rw[e,if_pos h1,decide_eq_true h1];rfl
    ·rw[e,if_neg h1,decide_eq_false h1];rfl
   ·have e:mC N L[i]=N0 N L[i].1 L[i].2.1:=by unfold mC;rw[if_neg h0]
    rw[if_neg h0,e,if_neg h0]
  rw[List.drop_eq_getElem_cons hlt]
  unfold q0b
  rw[List.findSome?_cons]
  by_cases h:mC N L[i]=0
  ·rw[if_pos h]at hs
   rw[H9 hs,j2p L hL k (i+1) (by omega),if_pos h]
   rfl
  ·rw[if_neg h]at hs
   rw[D6 hs,if_neg h]
theorem y1f (L:List Mk):z2z ((N,E,()),L,())=some (if L.length>64 then 1 else(q0b N L).getD 0,()):=by
 unfold z2z
 by_cases hL:L.length>64
 ·rw[dcT (show(L.length:Int)>64 by omega),cond_true,if_pos hL]
 ·rw[dcF (show ¬ (L.length:Int)>64 by omega),cond_false,if_neg hL]
  have h:=j2p (N:=N) (E:=E) L (by omega) L.length 0 (by omega)
  have h:A2 (q53 ((N,E,()),L,())) ((0:Int),())=_:=h
  rw[h,List.drop_zero]
  cases q0b N L<;>rfl
theorem y8g (hN:N.all D8=true) {L:List Mk} (h:q0b N L=none):∀ r∈L,(∃ k:Nat,r.1=(k:Int)/\k<N.length/\chk r.2.1=0/\r.2.1.length=B5 N k):=fun r hr=>by
 have h1:=List.findSome?_eq_none_iff.1 h r hr
 have h2:mC N r=0:=by
  by_cases h0:mC N r=0
  ·exact h0
  ·rw[if_neg h0]at h1;cases h1
 have h3:N0 N r.1 r.2.1=0:=by
  unfold mC at h2
  by_cases h0:N0 N r.1 r.2.1=0
  ·exact h0
  ·rw[if_neg h0]at h2;exact h2
 have h4:j0r N [(r.1,r.2.1,())]=none:=by
  unfold j0r
  simp[h3]
 exact v4z hN h4 (r.1,r.2.1,()) (by simp)
theorem v5r {L:List Mk} {i:Nat} (hi:i<L.length) (v:Nat):F7 (L.take (i+1)) v=F7 (L.take i) v++(if L[i].1=(v:Int)then [L[i].2.1]else []):=by
 unfold F7
 rw[List.take_succ_eq_append_getElem hi,List.filter_append,List.map_append]
 by_cases h:L[i].1=(v:Int)
 ·simp[h]
 ·simp[h]
theorem v50 (L:List Mk) (hL:L.length<=64) (v:Nat) (y:List Mk×Int×Unit) (hy:y.2.1=(v:Int)):A2 (q8o ((N,E,()),L,()) y) (([]:List (List Int)),(0:Int),())=some (.inl (F7 L v,())):=by
 have key:A2 (q8o ((N,E,()),L,()) y) (([]:List (List Int)),(0:Int),())=some (.inl (F7 (L.take L.length) v,())):=by
  refine F6 L.length (fun i=>(F7 (L.take i) v,(i:Int),())) _ (fun i hi=>?_) ?_ (by simp[F7])
  ·have hlen:(F7 (L.take i) v).length<=64:=by
    unfold F7
    rw[List.length_map]
    exact Nat.le_trans (List.length_filter_le _ _) (by rw[List.length_take];omega)
   rw[v5r hi]
   unfold q8o
   simp only[dcT (show(i:Int)<(L.length:Int)by omega),cond_true,E9 hi,Option.bind_some,hy,R5,B7 (show i<9223372036854775807 by omega)]
   by_cases h:L[i].1=(v:Int)
   ·simp only[if_pos h,List.length_cons,List.length_nil,G3 (show(F7 (L.take i) v).length+(0+1)<=140737488355328 by omega) (show((F7 (L.take i) v).length+(0+1))*24<=140737488355328 by omega),Bool.and_true,cond_true]
   ·simp only[if_neg h,List.append_nil]
  ·unfold q8o
   simp only[dcF (show ¬ (L.length:Int)<(L.length:Int)by omega),cond_false]
 rw[List.take_length]at key
 exact key
theorem v53 (L:List Mk) (hL:L.length<=64) (h4:∀ r∈L,r.2.1.length<=4) (v:Nat) (y:List Mk×Int×Unit) (hy:y.2.1=(v:Int)) (t:List Int) (ht:t.length<=4):A2 (q8p ((N,E,()),L,()) y t) ((0:Int),(0:Int),())=some (.inl (O1 L ((v:Int),F0 t),())):=by
 have key:A2 (q8p ((N,E,()),L,()) y t) ((0:Int),(0:Int),())=some (.inl (O1 (L.take L.length) ((v:Int),F0 t),())):=by
  refine F6 L.length (fun i=>(O1 (L.take i) ((v:Int),F0 t),(i:Int),())) _ (fun i hi=>?_) ?_ (by simp[O1])
  ·have hs:O1 (L.take (i+1)) ((v:Int),F0 t)=U4 ((v:Int),F0 t) (O1 (L.take i) ((v:Int),F0 t)) L[i]:=by
    unfold O1
    rw[List.take_succ_eq_append_getElem hi,List.foldl_append]
    rfl
   have hli:=h4 _ (List.getElem_mem hi)
   rw[hs]
   unfold q8p U4
   simp only[dcT (show(i:Int)<(L.length:Int)by omega),cond_true,E9 hi,Option.bind_some,hy,R5,q56 (show L[i].2.1.length<=1000000 by omega),B7 (show i<9223372036854775807 by omega)]
   by_cases h:L[i].1=(v:Int)
   ·rw[if_pos h]
    by_cases h2:L[i].2.1=t
    ·rw[decide_eq_true h2,cond_true,if_pos (by unfold kyM;rw[h,h2])]
     rfl
    ·have:¬ kyM L[i]=((v:Int),F0 t):=fun e=>h2 (y79 hli ht (congrArg (fun z=>z.2) e))
     rw[decide_eq_false h2,cond_false,if_neg this]
   ·have:¬ kyM L[i]=((v:Int),F0 t):=fun e=>h (congrArg (fun z=>z.1) e)
    rw[if_neg h,if_neg this]
  ·unfold q8p
   simp only[dcF (show ¬ (L.length:Int)<(L.length:Int)by omega),cond_false]
 rw[List.take_length]at key
 exact key
theorem z8i {α β:Type} (f:α->Option β) {l:List α} {i:Nat} (hi:i<l.length):(l.take (i+1)).filterMap f=(l.take i).filterMap f++(f l[i]).toList:=by
 rw[List.take_succ_eq_append_getElem hi,List.filterMap_append]
 congr 1
theorem v55 (L:List Mk) (hL:L.length<=64) (hn:N.length<=12) (hall:∀ r∈L,(∃ k:Nat,r.1=(k:Int)/\k<N.length/\chk r.2.1=0/\r.2.1.length=B5 N k)) (hd:∀ k,k<N.length->B5 N k<=4):z3w ((N,E,()),L,())=some (F2 N.length L,()):=by
 have h4:∀ r∈L,r.2.1.length<=4:=fun r hr=>by
  obtain⟨k,_,hk,_,hl⟩:=hall r hr
  have:=hd k hk;omega
 have hat:∀ v,∀ t∈F7 L v,chk t=0/\t.length=B5 N v/\t.length<=4:=fun v t ht=>by
  obtain⟨r,hr,e,rfl⟩:=mem_timesAt.1 ht
  obtain⟨k,e',hk,hc,hl⟩:=hall r hr
  have:k=v:=by omega
  subst this
  exact⟨hc,hl,h4 r hr⟩
 have htl:∀ v,(F7 L v).length<=64:=fun v=>by
  unfold F7
  rw[List.length_map]
  exact Nat.le_trans (List.length_filter_le _ _) hL
 have hrl:∀ v,(q1c L v).length<=64:=fun v=>by
  unfold q1c
  refine Nat.le_trans (List.length_filterMap_le _ _) ?_
  have:=(V3 (F7 L v)).1
  have:=htl v
  omega
 have hsl:∀ v,(F2 v L).length<=v*64:=fun v=>by
  unfold F2
  rw[List.length_flatMap]
  induction v with
  | zero=>simp
  | succ v ih =>
   rw[List.range_succ,List.map_append,List.sum_append]
   have:=hrl v
   simp only[List.map_cons,List.map_nil,List.sum_cons,List.sum_nil]
   omega
 have key:A2 (z3x ((N,E,()),L,())) (([]:List Mk),(0:Int),())=some (.inl (F2 N.length L,())):=by
  refine F6 N.length (fun v=>(F2 v L,(v:Int),())) _ (fun v hv=>?_) ?_ (by simp[F2])
  ·have hsn:F2 (v+1) L=F2 v L++q1c L v:=by
    unfold F2
    rw[List.range_succ,List.flatMap_append]
    simp
   have hlen:=hsl v
   have hs:q57 (F7 L v,())=some (E3 (F7 L v),()):=j7o (by have:=htl v;omega) (B5 N v) fun t ht=>⟨(hat v t ht).1,(hat v t ht).2.1⟩
   have hsf:=V3 (F7 L v)
   have h3:∀ y:List Mk×Int×Unit,y.2.1=(v:Int)->A2 (q8q ((N,E,()),L,()) (E3 (F7 L v),()) y) (F2 v L,(0:Int),())=some (.inl (F2 v L++q1c L v,())):=fun y hy=>by
    have k3:A2 (q8q ((N,E,()),L,()) (E3 (F7 L v),()) y) (F2 v L,(0:Int),())=some (.inl (F2 v L++((E3 (F7 L v)).take (E3 (F7 L v)).length).filterMap (X5 L v),())):=by
     refine F6 (E3 (F7 L v)).length (fun i=>(F2 v L++((E3 (F7 L v)).take i).filterMap (X5 L v),(i:Int),())) _ (fun i hi=>?_) ?_ (by simp)
     ·have hti:=hat v _ ((hsf.2.1 _).1 (List.getElem_mem hi))
      have hll:(F2 v L++((E3 (F7 L v)).take i).filterMap (X5 L v)).length<=12*64+64:=by
       rw[List.length_append]
       have:=List.length_filterMap_le (X5 L v) ((E3 (F7 L v)).take i)
       rw[List.length_take]at this
       have:=hsf.1
       have:=htl v
       have:v*64<=12*64:=Nat.mul_le_mul_right _ (by omega)
       omega
      have hi2:i<=64:=by have:=hsf.1;have:=htl v;omega
      rw[z8i _ hi,<-List.append_assoc]
      generalize F2 v L++((E3 (F7 L v)).take i).filterMap (X5 L v)=M at *
      unfold q8q
      simp only[dcT (show(i:Int)<((E3 (F7 L v)).length:Int)by omega),cond_true,E9 hi,Option.bind_some,v53 L hL h4 v y hy _ hti.2.2,Sum.elim_inl,K2,hy,B7 (show i<9223372036854775807 by omega)]
      unfold X5
      by_cases h0:O1 L ((v:Int),F0 (E3 (F7 L v))[i])=0
      ·rw[if_pos h0,if_pos h0];simp
      ·rw[if_neg h0,if_neg h0]
       simp only[List.length_cons,List.length_nil,G3 (show M.length+(0+1)<=140737488355328 by omega) (show(M.length+(0+1))*40<=140737488355328 by omega),Bool.and_true,cond_true]
       rfl
     ·unfold q8q
      simp only[dcF (show ¬ ((E3 (F7 L v)).length:Int)<((E3 (F7 L v)).length:Int)by omega),cond_false]
    rw[List.take_length]at k3
    exact k3
   unfold z3x
   simp only[dcT (show(v:Int)<(N.length:Int)by omega),cond_true]
   rw[v50 L hL v _ rfl]
   simp only[Option.bind_some,Sum.elim_inl,hs]
   rw[h3 _ rfl]
   simp only[Option.bind_some,Sum.elim_inl,B7 (show v<9223372036854775807 by omega),hsn]
  ·unfold z3x
   simp only[dcF (show ¬ (N.length:Int)<(N.length:Int)by omega),cond_false]
 unfold z3w
 rw[key]
 rfl
theorem j1i {R:List Mk} (hR:R.length<=1000000) (h:∀ r∈R,r.2.1.length<=1000000):q84 (R,R,())=some (true,()):=by
 unfold q84
 have key:A2 (z39 (R,R,())) ((0:Int),())=some (if(List.range R.length).any (fun _=>false)=true then .inl (false,())else .inr (.inl ())):=by
  refine q4r R.length () _ _ _ (fun i hi=>?_) ?_
  ·unfold z39
   have hli:=h _ (List.getElem_mem hi)
   simp only[dcT (show(i:Int)<(R.length:Int)by omega),cond_true,E9 hi,Option.bind_some,L1 (rfl:R[i].1=R[i].1),L1 (rfl:R[i].2.2.1=R[i].2.2.1),cond_false,q56 hli,decide_true,Bool.not_true,B7 (show i<9223372036854775807 by omega)]
   simp
  ·unfold z39
   simp only[dcF (show ¬ (R.length:Int)<(R.length:Int)by omega),cond_false]
 have hany:(List.range R.length).any (fun _=>false)=false:=by rw[List.any_eq_false];intro i _;simp
 rw[hany]at key
 simp only[L1 rfl,cond_false,key]
 rfl
def V5 (r:Mk):Option Stp:=if r.2.2.1>0 then some (r.1,r.2.1,())else none
def q2u (R:List Mk):List Stp:=R.filterMap V5
theorem v5c (R:List Mk):(q2u R).length<=R.length:=List.length_filterMap_le _ _
theorem y1k {R:List Mk} (hR:R.length<=1000000):z3u (R,())=some (q2u R,()):=by
 have key:A2 (z3v (R,())) (([]:List Stp),(0:Int),())=some (.inl (((R.take R.length).filterMap V5),())):=by
  refine F6 R.length (fun i=>((R.take i).filterMap V5,(i:Int),())) _ (fun i hi=>?_) ?_ (by simp)
  ·have hl:=List.length_filterMap_le V5 (R.take i)
   rw[List.length_take]at hl
   rw[z8i _ hi]
   generalize (R.take i).filterMap V5=M at *
   unfold z3v V5
   simp only[dcT (show(i:Int)<(R.length:Int)by omega),cond_true,E9 hi,Option.bind_some,B7 (show i<9223372036854775807 by omega)]
   by_cases h:R[i].2.2.1>0
   ·rw[dcT h,cond_true,if_pos h]
    simp only[List.length_cons,List.length_nil,G3 (show M.length+(0+1)<=140737488355328 by omega) (show(M.length+(0+1))*32<=140737488355328 by omega),Bool.and_true,cond_true]
    rfl
   ·rw[dcF h,cond_false,if_neg h]
    simp
  ·unfold z3v
   simp only[dcF (show ¬ (R.length:Int)<(R.length:Int)by omega),cond_false]
 rw[List.take_length]at key
 unfold z3u
 rw[key]
 rfl
theorem v4y {R:List Mk} (hR:R.length<=1000000):A2 (q5t (R,())) (([]:List Stp),(0:Int),())=some (.inl (q2u R,())):=by
 have key:A2 (q5t (R,())) (([]:List Stp),(0:Int),())=some (.inl (((R.take R.length).filterMap V5),())):=by
  refine F6 R.length (fun i=>((R.take i).filterMap V5,(i:Int),())) _ (fun i hi=>?_) ?_ (by simp)
  ·have hl:=List.length_filterMap_le V5 (R.take i)
   rw[List.length_take]at hl
   rw[z8i _ hi]
   generalize (R.take i).filterMap V5=M at *
   unfold q5t V5
   simp only[dcT (show(i:Int)<(R.length:Int)by omega),cond_true,H7 hi,Int.toNat_natCast,List.getElem?_eq_getElem hi,Option.bind_some,B7 (show i<9223372036854775807 by omega)]
   by_cases h:R[i].2.2.1>0
   ·rw[dcT h,cond_true,if_pos h]
    simp only[List.length_cons,List.length_nil,G3 (show M.length+(0+1)<=140737488355328 by omega) (show(M.length+(0+1))*32<=140737488355328 by omega),Bool.and_true,cond_true]
    rfl
   ·rw[dcF h,cond_false,if_neg h]
    simp
  ·unfold q5t
   simp only[dcF (show ¬ (R.length:Int)<(R.length:Int)by omega),cond_false]
 rw[List.take_length]at key
 exact key
end
end

section
open Go Go.Abs

def K6 (l:List Sm) (t:List Int):List (List Int):=(l.filter fun s=>decide ((app s.1.toNat s.2.1 s.2.2.1 t).2=0)).map fun s=>(app s.1.toNat s.2.1 s.2.2.1 t).1
def I5 (P:Tb) (b:Nat) (L:List Stp):List (List Int):=L.flatMap fun s=>K6 (P s.1.toNat b) s.2.1
def N6 (P:Tb) (L:List Stp) (b:Nat):List (List Int):=N8 (E2 (I5 P b L))
theorem j6c (l:List Sm) (t:List Int):(K6 l t).length<=l.length:=by
 unfold K6
 rw[List.length_map]
 exact List.length_filter_le ..
theorem j4c {α β:Type} {f:α->List β} {c:Nat}:∀ {l:List α},(∀ x∈l,(f x).length<=c)->(l.flatMap f).length<=l.length*c
 | [],_=>Nat.zero_le _
 | a::l,h=>by
  have h1:=h a List.mem_cons_self
  have h2:=j4c (l:=l) fun x hx=>h x (List.mem_cons_of_mem _ hx)
  rw[List.flatMap_cons,List.length_append,List.length_cons,Nat.succ_mul]
  omega
section
variable {N:List C1} {E:List Edge} {L0:List Mk}
theorem j6d {l:List Sm} {i:Nat} (hi:i<l.length) (t:List Int):K6 (l.take (i+1)) t=K6 (l.take i) t++(if(app l[i].1.toNat l[i].2.1 l[i].2.2.1 t).2=0 then [(app l[i].1.toNat l[i].2.1 l[i].2.2.1 t).1]else []):=by
 unfold K6
 rw[List.take_succ_eq_append_getElem hi,List.filter_append,List.map_append]
 by_cases h:(app l[i].1.toNat l[i].2.1 l[i].2.2.1 t).2=0
 ·simp[h]
 ·simp[h]
theorem y8o {l:List Sm} {t:List Int} (hl:∀ s∈l,bx s/\kN s<=t.length) (hn:l.length<=154700) (ht:chk t=0) (m:Stp) (hm:m.2.1=t) {K:List (List Int)} (hK:K.length<=10000000) :
  A2 (q5u l m) ((0:Int),K,(),())=some (.inl (K++K6 l t,(),()))/\A2 (q54 l m) (K,(0:Int),())=some (.inl (K++K6 l t,())):=by
 have hlen:∀ i,(K++K6 (l.take i) t).length<=10154700:=fun i=>by
  have:=j6c (l.take i) t
  rw[List.length_take]at this
  rw[List.length_append];omega
 constructor
 ·have key:A2 (q5u l m) ((0:Int),K,(),())=some (.inl (K++K6 (l.take l.length) t,(),())):=by
   refine F6 l.length (fun i=>((i:Int),K++K6 (l.take i) t,(),())) _ (fun i hi=>?_) ?_ (by simp[K6])
   ·obtain⟨hb,hk⟩:=hl _ (List.getElem_mem hi)
    have hr:=hlen i
    rw[j6d hi,<-List.append_assoc]
    generalize K++K6 (l.take i) t=M at *
    unfold q5u
    simp only[dcT (show(i:Int)<(l.length:Int)by omega),cond_true,E9 hi,Option.bind_some,hm,(j6e hb ht hk).1,R5,B7 (show i<9223372036854775807 by omega)]
    by_cases h:(app l[i].1.toNat l[i].2.1 l[i].2.2.1 t).2=0
    ·simp only[if_pos h,List.length_cons,List.length_nil,G3 (show M.length+(0+1)<=140737488355328 by omega) (show(M.length+(0+1))*24<=140737488355328 by omega),Bool.and_true,cond_true]
    ·rw[if_neg h,if_neg h,List.append_nil]
   ·unfold q5u
    simp only[dcF (show ¬ (l.length:Int)<(l.length:Int)by omega),cond_false]
  rw[List.take_length]at key
  exact key
 ·have key:A2 (q54 l m) (K,(0:Int),())=some (.inl (K++K6 (l.take l.length) t,())):=by
   refine F6 l.length (fun i=>(K++K6 (l.take i) t,(i:Int),())) _ (fun i hi=>?_) ?_ (by simp[K6])
   ·obtain⟨hb,hk⟩:=hl _ (List.getElem_mem hi)
    have hr:=hlen i
    rw[j6d hi,<-List.append_assoc]
    generalize K++K6 (l.take i) t=M at *
    unfold q54
    simp only[dcT (show(i:Int)<(l.length:Int)by omega),cond_true,E9 hi,Option.bind_some,hm,(j6e hb ht hk).2,R5,B7 (show i<9223372036854775807 by omega)]
    by_cases h:(app l[i].1.toNat l[i].2.1 l[i].2.2.1 t).2=0
    ·simp only[if_pos h,List.length_cons,List.length_nil,G3 (show M.length+(0+1)<=140737488355328 by omega) (show(M.length+(0+1))*24<=140737488355328 by omega),Bool.and_true,cond_true]
    ·rw[if_neg h,if_neg h,List.append_nil]
   ·unfold q54
    simp only[dcF (show ¬ (l.length:Int)<(l.length:Int)by omega),cond_false]
  rw[List.take_length]at key
  exact key
theorem j1t {P:Tb} {b:Nat} {L:List Stp} {i:Nat} (hi:i<L.length):I5 P b (L.take (i+1))=I5 P b (L.take i)++K6 (P L[i].1.toNat b) L[i].2.1:=by
 unfold I5
 rw[List.take_succ_eq_append_getElem hi,List.flatMap_append]
 simp
theorem q9r {P:Tb} (hP:∀ u v,(P u v).length<=154700) (b:Nat) {L:List Stp} (hL:L.length<=64):(I5 P b L).length<=10000000:=by
 have:(I5 P b L).length<=L.length*154700:=j4c fun s _=>Nat.le_trans (j6c ..) (hP _ _)
 omega
theorem j1s (g:GR N.length (B5 N) (B6 N) (edN E)) {P:Tb} (hP:PF N.length (B5 N) (B6 N) (edN E) P) (hb:∀ u v,∀ x∈P u v,bx x) {L:List Stp} (hL:L.length<=64) (hok:∀ s∈L,∃ k:Nat,s.1=(k:Int)/\k<N.length/\chk s.2.1=0/\s.2.1.length=B5 N k) {b:Nat} (hbn:b<N.length) (y28:Int×List (List (List Int))×Unit) (hy:y28.1=(b:Int)) (y1:List (List (List Int))×Int×Unit) (hy1:y1.2.1=(b:Int)) :
  A2 (q9g ((N,E,()),L0,()) (L,()) y28 (sq N.length P,())) ((0:Int),([]:List (List Int)),(),())=some (.inl (I5 P b L,(),())) /\
  A2 (q86 ((N,E,()),sq N.length P,L,()) y1) (([]:List (List Int)),(0:Int),())=some (.inl (I5 P b L,())):=by
 have hn:=g.n12
 have hPl:∀ u v,(P u v).length<=154700:=fun u v=>q31 (hP.an u v) (hb u v)
 have hlen:∀ i,(I5 P b (L.take i)).length<=10000000:=fun i=>q9r hPl b (by rw[List.length_take];omega)
 have step:∀ i (hi:i<L.length),∃ v:Nat,L[i].1=(v:Int)/\v<N.length/\∀ K:List (List Int),K.length<=10000000->A2 (q5u (P v b) L[i]) ((0:Int),K,(),())=some (.inl (K++K6 (P v b) L[i].2.1,(),()))/\A2 (q54 (P v b) L[i]) (K,(0:Int),())=some (.inl (K++K6 (P v b) L[i].2.1,())):=fun i hi=>by
  obtain⟨v,e1,hv,hcv,hlv⟩:=hok _ (List.getElem_mem hi)
  refine⟨v,e1,hv,fun K hK=>y8o (fun s hs=>⟨hb v b s hs,?_⟩) (hPl v b) hcv L[i] rfl hK⟩
  rw[hlv]
  exact((hP.gen v b s hs).ok g).2.2.k
 constructor
 ·have key:A2 (q9g ((N,E,()),L0,()) (L,()) y28 (sq N.length P,())) ((0:Int),([]:List (List Int)),(),())=some (.inl (I5 P b (L.take L.length),(),())):=by
   refine F6 L.length (fun i=>((i:Int),I5 P b (L.take i),(),())) _ (fun i hi=>?_) ?_ (by simp[I5])
   ·obtain⟨v,e1,hv,hst⟩:=step i hi
    have hs:=(hst _ (hlen i)).1
    rw[j1t hi]
    unfold q9g
    simp only[dcT (show(i:Int)<(L.length:Int)by omega),cond_true,H7 hi,List.getElem?_eq_getElem hi,Option.bind_some,hy,e1,q78 hv hbn (show N.length<=16 by omega),z4y,q75 hv hbn,Int.toNat_natCast,q95 P hv hbn,hs,Sum.elim_inl,B7 (show i<9223372036854775807 by omega)]
   ·unfold q9g
    simp only[dcF (show ¬ (L.length:Int)<(L.length:Int)by omega),cond_false]
  rw[List.take_length]at key
  exact key
 ·have key:A2 (q86 ((N,E,()),sq N.length P,L,()) y1) (([]:List (List Int)),(0:Int),())=some (.inl (I5 P b (L.take L.length),())):=by
   refine F6 L.length (fun i=>(I5 P b (L.take i),(i:Int),())) _ (fun i hi=>?_) ?_ (by simp[I5])
   ·obtain⟨v,e1,hv,hst⟩:=step i hi
    have hs:=(hst _ (hlen i)).2
    rw[j1t hi]
    unfold q86
    simp only[dcT (show(i:Int)<(L.length:Int)by omega),cond_true,E9 hi,Option.bind_some,hy1,e1,q78 hv hbn (show N.length<=16 by omega),v4v P hv hbn,Int.toNat_natCast,hs,Sum.elim_inl,B7 (show i<9223372036854775807 by omega)]
   ·unfold q86
    simp only[dcF (show ¬ (L.length:Int)<(L.length:Int)by omega),cond_false]
  rw[List.take_length]at key
  exact key
theorem q64 (g:GR N.length (B5 N) (B6 N) (edN E)) {P:Tb} (hP:PF N.length (B5 N) (B6 N) (edN E) P) (hb:∀ u v,∀ x∈P u v,bx x) {L:List Stp} (hok:∀ s∈L,∃ k:Nat,s.1=(k:Int)/\k<N.length/\chk s.2.1=0/\s.2.1.length=B5 N k) {b:Nat}:∀ t∈I5 P b L,chk t=0/\t.length=B5 N b:=fun t ht=>by
 obtain⟨s,hs,ht⟩:=List.mem_flatMap.1 ht
 obtain⟨v,e1,hv,hcv,hlv⟩:=hok s hs
 obtain⟨x,hx,rfl⟩:=List.mem_map.1 ht
 obtain⟨hx,hz⟩:=List.mem_filter.1 hx
 rw[e1,Int.toNat_natCast]at hx
 have hsh:=((hP.gen v b x hx).ok g).2.2
 have h:=y8p (hb v b x hx) hcv (by rw[hlv];exact hsh.k) (of_decide_eq_true hz)
 exact⟨h.1,by rw[h.2,hsh.o]⟩
theorem y6i (g:GR N.length (B5 N) (B6 N) (edN E)) {P:Tb} (hP:PF N.length (B5 N) (B6 N) (edN E) P) (hb:∀ u v,∀ x∈P u v,bx x) {L:List Stp} (hL:L.length<=64) (hok:∀ s∈L,∃ k:Nat,s.1=(k:Int)/\k<N.length/\chk s.2.1=0/\s.2.1.length=B5 N k) :
  A2 (q9h ((N,E,()),L0,()) (L,()) (sq N.length P,())) ((0:Int),List.replicate N.length ([]:List (List Int)),())=some (.inl (tab N.length (N6 P L),())) /\
  z3b ((N,E,()),sq N.length P,L,())=some (tab N.length (N6 P L),()):=by
 have hn:=g.n12
 have hPl:∀ u v,(P u v).length<=154700:=fun u v=>q31 (hP.an u v) (hb u v)
 have hl1:∀ b,q5s (I5 P b L,())=some (N6 P L b,()):=fun b=>by
  by_cases hbn:b<N.length
  ·exact y0f (q9r hPl b hL) (g.d1 b hbn).2 fun t ht=>(q64 g hP hb hok t ht).2
  ·have:I5 P b L=[]:=by
    rw[List.eq_nil_iff_forall_not_mem]
    intro t ht
    obtain⟨s,hs,ht⟩:=List.mem_flatMap.1 ht
    obtain⟨x,hx,rfl⟩:=List.mem_map.1 ht
    exact hbn ((hP.gen _ b x (List.mem_filter.1 hx).1).ok g).2.1
   unfold N6
   rw[this]
   exact y0f (l:=[]) (d:=0) (by simp) (by omega) fun t ht=>by cases ht
 have hl2:∀ b,b<N.length->q8i (I5 P b L,())=some (N6 P L b,()):=fun b hbn=>by
  rw[v1c (q9r hPl b hL) (q64 g hP hb hok)]
  unfold N6
  rw[j4i (q64 g hP hb hok)]
 constructor
 ·refine F6 N.length (fun b=>((b:Int),tab N.length (fun c=>if c<b then N6 P L c else []),())) _ (fun b hbn=>?_) ?_ ?_
  ·have hset:(tab N.length (fun c=>if c<b then N6 P L c else [])).set b (N6 P L b)=tab N.length (fun c=>if c<b+1 then N6 P L c else []):=by
    rw[q1h]
    refine J8 fun c hc=>?_
    by_cases h:c=b
    ·rw[if_pos h,if_pos (by omega),h]
    ·rw[if_neg h]
     by_cases h2:c<b
     ·rw[if_pos h2,if_pos (by omega)]
     ·rw[if_neg h2,if_neg (by omega)]
   unfold q9h
   have hal:=fun y28 hy=>(j1s (N:=N) (E:=E) (L0:=L0) g hP hb hL hok hbn y28 hy ([],(b:Int),()) rfl).1
   simp only[List.length_replicate,Int.toNat_natCast,dcT (show(b:Int)<(N.length:Int)by omega),cond_true]
   rw[hal _ rfl]
   simp only[Option.bind_some,Sum.elim_inl,hl1,T0,H7 hbn,cond_true,S9 _ hbn,hset,B7 (show b<9223372036854775807 by omega)]
  ·unfold q9h
   simp only[List.length_replicate,Int.toNat_natCast,dcF (show ¬ (N.length:Int)<(N.length:Int)by omega),cond_false]
   refine congrArg (fun z=>some (Sum.inr (Sum.inl (z,())))) (J8 fun c hc=>if_pos hc)
  ·show(((0:Nat):Int),tab N.length (fun c=>if c<0 then N6 P L c else []),())=_
   rw[show List.replicate N.length ([]:List (List Int))=tab N.length fun _=>[]from q3k ..]
   refine congrArg (fun z=>((0:Int),z,())) (J8 fun c hc=>if_neg (by omega))
 ·have key:A2 (z3c ((N,E,()),sq N.length P,L,())) (([]:List (List (List Int))),(0:Int),())=some (.inl (tab N.length (N6 P L),())):=by
   refine F6 N.length (fun b=>(tab b (N6 P L),(b:Int),())) _ (fun b hbn=>?_) ?_ rfl
   ·unfold z3c
    have hal:=fun y1 hy1=>(j1s (N:=N) (E:=E) (L0:=L0) g hP hb hL hok hbn ((b:Int),[],()) rfl y1 hy1).2
    simp only[dcT (show(b:Int)<(N.length:Int)by omega),cond_true]
    rw[hal _ rfl]
    simp only[Option.bind_some,Sum.elim_inl,hl2 b hbn,T0,List.length_cons,List.length_nil,G3 (show b+(0+1)<=140737488355328 by omega) (show(b+(0+1))*24<=140737488355328 by omega),Bool.and_true,cond_true,v5m,B7 (show b<9223372036854775807 by omega)]
   ·unfold z3c
    simp only[dcF (show ¬ (N.length:Int)<(N.length:Int)by omega),cond_false]
  unfold z3b
  rw[key];rfl
theorem y6j {n:Nat} {f:Nat->List (List Int)} (hn:n<=12) (h:∀ b,b<n->(f b).length<=20000000/\∀ t∈f b,t.length<=1000000):z2r (tab n f,tab n f,())=some (true,()):=by
 unfold z2r
 have key:A2 (z2s (tab n f,tab n f,())) ((0:Int),())=some (if(List.range n).any (fun _=>false)=true then .inl (false,())else .inr (.inl ())):=by
  refine q4r n () _ _ _ (fun i hi=>?_) ?_
  ·unfold z2s
   simp only[T0,dcT (show(i:Int)<(n:Int)by omega),cond_true,y6q hi,Option.bind_some,v0n (h i hi).1 (h i hi).2,Bool.not_true,cond_false,B7 (show i<9223372036854775807 by omega)]
   simp
  ·unfold z2s
   simp only[T0,dcF (show ¬ (n:Int)<(n:Int)by omega),cond_false]
 have hany:(List.range n).any (fun _=>false)=false:=by rw[List.any_eq_false];intro i _;simp
 rw[hany]at key
 simp only[L1 rfl,cond_false,key]
 rfl
end
end

end Go.Proofs.Tryz
