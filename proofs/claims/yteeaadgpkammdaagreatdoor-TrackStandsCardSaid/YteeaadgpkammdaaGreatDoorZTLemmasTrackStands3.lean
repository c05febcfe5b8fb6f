/- Lemmas on functions of the program, by name. -/
import Derived.Test.YteeaadgpkammdaaGreatDoorZTFuns
import Derived.Test.YteeaadgpkammdaaGreatDoorAbsSums
import Derived.Test.YteeaadgpkammdaaGreatDoorZTLemmasTrackStands2
import Derived.Test.YteeaadgpkammdaaGreatDoorZTLemmasTrackStands1
namespace Go.Proofs.Tryz
section
open Go Go.Abs

structure GR (n:Nat) (dep:Nat->Nat) (S:Nat->Sm) (ed:List (Nat×Nat)):Prop where
 n12:n<=12
 d1:∀ a,a<n->1<=dep a/\dep a<=4
 s0:∀ a,a<n->wfS (S a)/\kN (S a)<=dep a/\oN (S a)<=4/\∀ i,pN (S a) i=0\/(pN (S a) i=1/\i+1=dep a/\kN (S a)=dep a/\oN (S a)=dep a)
 e:∀ a b,(a,b)∈ed->a<n/\b<n/\oN (S a)=dep b
def idS (d:Nat):Sm:=((d:Int),0,[],())
theorem q7d (d:Nat):kN (idS d)=d:=Int.toNat_natCast d
theorem q4w (d:Nat):oN (idS d)=d:=by show Int.toNat (d:Int)+0=d;rw[Int.toNat_natCast];rfl
theorem q3j (d i:Nat):pN (idS d) i=0:=by
 unfold pN plc idS
 split
 ·split<;>rfl
 ·simp
theorem q1r {d:Nat} (h:1<=d):wfS (idS d):=⟨Int.natCast_nonneg _,by rw[q7d];exact h⟩
structure shp (p q:Nat) (x:Sm):Prop where
 wf:wfS x
 k:kN x<=p
 o:oN x=q
 p0:∀ i,0<=pN x i
section
variable {n:Nat} {dep:Nat->Nat} {S:Nat->Sm} {ed:List (Nat×Nat)}
inductive Gf (n:Nat) (dep:Nat->Nat) (S:Nat->Sm) (ed:List (Nat×Nat)):Nat->Nat->Sm->Prop
 | id (u:Nat):u<n->Gf n dep S ed u u (idS (dep u))
 | snoc (u v b:Nat) (x:Sm):Gf n dep S ed u v x->(v,b)∈ed->Gf n dep S ed u b (cS x (S v))
inductive Gb (n:Nat) (dep:Nat->Nat) (S:Nat->Sm) (ed:List (Nat×Nat)):Nat->Nat->Sm->Prop
 | id (u:Nat):u<n->Gb n dep S ed u u (idS (dep u))
 | cons (a c b:Nat) (x:Sm):(a,c)∈ed->Gb n dep S ed c b x->Gb n dep S ed a b (cS (S a) x)
theorem GR.S0 (g:GR n dep S ed) {a:Nat} (ha:a<n) (i:Nat):0<=pN (S a) i:=by
 rcases (g.s0 a ha).2.2.2 i with h | h<;>omega
theorem GR.bxS (g:GR n dep S ed) {a:Nat} (ha:a<n):bx (S a):=⟨(g.s0 a ha).1,(g.s0 a ha).2.2.1,fun i=>by rcases (g.s0 a ha).2.2.2 i with h | h<;>omega⟩
theorem j8l (g:GR n dep S ed) {u:Nat} (hu:u<n):shp (dep u) (dep u) (idS (dep u)):=⟨q1r (g.d1 u hu).1,by rw[q7d];exact Nat.le_refl _,q4w _,fun i=>by rw[q3j];exact Int.le_refl 0⟩
theorem j2k {s r:Sm} (hs:wfS s) (hr:wfS r) (s0:∀ i,0<=pN s i) (r0:∀ i,0<=pN r i) (i:Nat):0<=pN (cS s r) i:=by
 by_cases hi:i<oN r
 ·rw[K7 hs.2 hr.2 hi]
  have:=s0 i
  have:=r0 i
  split<;>omega
 ·rw[q7w (by rw[J3];omega)];exact Int.le_refl 0
theorem v4l (g:GR n dep S ed) {p v b:Nat} {x:Sm} (h:shp p (dep v) x) (he:(v,b)∈ed):shp p (dep b) (cS x (S v)):=by
 obtain⟨hv,hb,ho⟩:=g.e v b he
 obtain⟨s1,s2,s3,s4⟩:=g.s0 v hv
 exact⟨T1 h.wf s1,by rw[O7];have:=h.k;omega,by rw[J3,ho],j2k h.wf s1 h.p0 (g.S0 hv)⟩
theorem v4k (g:GR n dep S ed) {a c q:Nat} {x:Sm} (he:(a,c)∈ed) (h:shp (dep c) q x):shp (dep a) q (cS (S a) x):=by
 obtain⟨hv,hb,ho⟩:=g.e a c he
 obtain⟨s1,s2,s3,s4⟩:=g.s0 a hv
 exact⟨T1 s1 h.wf,by rw[O7];omega,by rw[J3,h.o],j2k s1 h.wf (g.S0 hv) h.p0⟩
theorem Gf.ok (g:GR n dep S ed) {u v:Nat} {x:Sm} (h:Gf n dep S ed u v x):u<n/\v<n/\shp (dep u) (dep v) x:=by
 induction h with
 | id hu=>exact⟨hu,hu,j8l g hu⟩
 | snoc v b x _ he ih=>exact⟨ih.1,(g.e v b he).2.1,v4l g ih.2.2 he⟩
theorem Gb.ok (g:GR n dep S ed) {u v:Nat} {x:Sm} (h:Gb n dep S ed u v x):u<n/\v<n/\shp (dep u) (dep v) x:=by
 induction h with
 | id u hu=>exact⟨hu,hu,j8l g hu⟩
 | cons a c b x he _ ih=>exact⟨(g.e a c he).1,ih.2.1,v4k g he ih.2.2⟩
abbrev Tb:=Nat->Nat->List Sm
structure PF (n:Nat) (dep:Nat->Nat) (S:Nat->Sm) (ed:List (Nat×Nat)) (P:Tb):Prop where
 gen:∀ u v,∀ x∈P u v,Gf n dep S ed u v x
 an:∀ u v,anti (P u v)
 st:∀ u,u<n->∃ y∈P u u,leS y (idS (dep u))=true
 ex:∀ u v,∀ x∈P u v,∀ b,(v,b)∈ed->∃ y∈P u b,leS y (cS x (S v))=true
structure QF (n:Nat) (dep:Nat->Nat) (S:Nat->Sm) (ed:List (Nat×Nat)) (Q:Tb):Prop where
 gen:∀ a b,∀ x∈Q a b,Gb n dep S ed a b x
 an:∀ a b,anti (Q a b)
 st:∀ u,u<n->∃ y∈Q u u,leS y (idS (dep u))=true
 ex:∀ c b,∀ x∈Q c b,∀ a,(a,c)∈ed->∃ y∈Q a b,leS y (cS (S a) x)=true
theorem j53 {d:Nat} {q:Sm} (h1:1<=d) (hq:wfS q) (hk:kN q<=d):cS (idS d) q=q:=by
 refine z4n (T1 (q1r h1) hq) hq (by rw[O7,q7d];omega) (J3 ..) fun i hi=>?_
 rw[J3]at hi
 rw[K7 (q1r h1).2 hq.2 hi,q3j]
 split<;>omega
theorem j2i {d:Nat} {x:Sm} (h1:1<=d) (hx:wfS x) (ho:oN x=d):cS x (idS d)=x:=by
 have:=q27 x
 refine z4n (T1 hx (q1r h1)) hx (by rw[O7,q7d];omega) (by rw[J3,q4w,ho]) fun i hi=>?_
 rw[J3,q4w]at hi
 rw[K7 hx.2 (q1r h1).2 (by rw[q4w];exact hi),q3j,q7d,if_pos hi]
 omega
theorem Gf.lows (g:GR n dep S ed) {Q:Tb} (hQ:QF n dep S ed Q) {u v:Nat} {x:Sm} (h:Gf n dep S ed u v x):∀ w,∀ q∈Q v w,∃ y∈Q u w,leS y (cS x q)=true:=by
 induction h with
 | id hu =>
  intro w q hq
  have hg:=((hQ.gen _ w q hq).ok g).2.2
  rw[j53 (g.d1 _ hu).1 hg.wf hg.k]
  exact⟨q,hq,S6 q⟩
 | snoc v b x hx he ih =>
  intro w q hq
  obtain⟨hv,hb,ho⟩:=g.e v b he
  obtain⟨s1,s2,s3,s4⟩:=g.s0 v hv
  have hxg:=(hx.ok g).2.2
  have hqg:=((hQ.gen b w q hq).ok g).2.2
  obtain⟨q',hq',l1⟩:=hQ.ex b w q hq v he
  obtain⟨y,hy,l2⟩:=ih w q' hq'
  have hqg':=((hQ.gen v w q' hq').ok g).2.2
  refine⟨y,hy,?_⟩
  rw[j2h hxg.wf s1 hqg.wf (by rw[ho];exact hqg.k)]
  exact M6 l2 (z6h hxg.wf hxg.p0 hqg'.wf (T1 s1 hqg.wf) l1)
theorem Gb.lows (g:GR n dep S ed) {P:Tb} (hP:PF n dep S ed P) {a b:Nat} {r:Sm} (h:Gb n dep S ed a b r):∀ u,∀ x∈P u a,∃ y∈P u b,leS y (cS x r)=true:=by
 induction h with
 | id a ha =>
  intro u x hx
  have hg:=((hP.gen u a x hx).ok g).2.2
  rw[j2i (g.d1 a ha).1 hg.wf hg.o]
  exact⟨x,hx,S6 x⟩
 | cons a c b r he hr ih =>
  intro u x hx
  obtain⟨ha,hc,ho⟩:=g.e a c he
  obtain⟨s1,s2,s3,s4⟩:=g.s0 a ha
  have hxg:=((hP.gen u a x hx).ok g).2.2
  have hrg:=(hr.ok g).2.2
  obtain⟨x',hx',l1⟩:=hP.ex u a x hx c he
  obtain⟨y,hy,l2⟩:=ih u x' hx'
  have hxg':=((hP.gen u c x' hx').ok g).2.2
  refine⟨y,hy,?_⟩
  rw[<-j2h hxg.wf s1 hrg.wf (by rw[ho];exact hrg.k)]
  exact M6 l2 (j2j hxg'.wf (T1 hxg.wf s1) hrg.wf (by rw[hxg'.o];exact hrg.k) l1)
theorem y1j (g:GR n dep S ed) {P Q:Tb} (hP:PF n dep S ed P) (hQ:QF n dep S ed Q) (u v:Nat):P u v=Q u v:=by
 refine j1y (hP.an u v) (hQ.an u v) (fun s hs=>((hP.gen u v s hs).ok g).2.2.wf) (fun s hs=>((hQ.gen u v s hs).ok g).2.2.wf) (fun x hx=>?_) fun x hx=>?_
 ·have h:=hP.gen u v x hx
  obtain⟨hu,hv,hs⟩:=h.ok g
  obtain⟨q,hq,l1⟩:=hQ.st v hv
  obtain⟨y,hy,l2⟩:=h.lows g hQ v q hq
  refine⟨y,hy,M6 l2 ?_⟩
  have:=z6h hs.wf hs.p0 (((hQ.gen v v q hq).ok g).2.2.wf) (q1r (g.d1 v hv).1) l1
  rw[j2i (g.d1 v hv).1 hs.wf hs.o]at this
  exact this
 ·have h:=hQ.gen u v x hx
  obtain⟨hu,hv,hs⟩:=h.ok g
  obtain⟨q,hq,l1⟩:=hP.st u hu
  obtain⟨y,hy,l2⟩:=h.lows g hP u q hq
  refine⟨y,hy,M6 l2 ?_⟩
  have hqg:=((hP.gen u u q hq).ok g).2.2
  have:=j2j hqg.wf (q1r (g.d1 u hu).1) hs.wf (by rw[hqg.o];exact hs.k) l1
  rw[j53 (g.d1 u hu).1 hs.wf hs.k]at this
  exact this
def rng13:List Int:=(List.range 13).map fun i:Nat=>(i:Int)
def q2a:Nat->List (List Int)
 | 0=>[[]]
 | m+1=>[]::rng13.flatMap fun v=>(q2a m).map (v::·)
theorem q4o {α β:Type} {f:α->List β} {c:Nat}:∀ {l:List α},(∀ x∈l,(f x).length=c)->(l.flatMap f).length=l.length*c
 | [],_=>by simp
 | a::l,h=>by
  rw[List.flatMap_cons,List.length_append,h a List.mem_cons_self,q4o fun x hx=>h x (List.mem_cons_of_mem _ hx),List.length_cons,Nat.succ_mul,Nat.add_comm]
theorem z94 (m:Nat):(q2a (m+1)).length=1+13*(q2a m).length:=by
 show(rng13.flatMap fun v=>(q2a m).map (v::·)).length+1=_
 rw[q4o (c:=(q2a m).length) fun x _=>List.length_map ..]
 show 13*_+1=_
 omega
theorem j67 {v:Int} (h:0<=v/\v<=12):v∈rng13:=List.mem_map.2 ⟨v.toNat,List.mem_range.2 (by omega),by omega⟩
theorem j66:∀ {m:Nat} {l:List Int},l.length<=m->(∀ v∈l,0<=v/\v<=12)->l∈q2a m
 | 0,[],_,_=>List.mem_cons_self
 | 0,_::_,h,_=>by rw[List.length_cons]at h;omega
 | m+1,[],_,_=>List.mem_cons_self
 | m+1,v::l,h,hv=>by
  rw[List.length_cons]at h
  exact List.mem_cons_of_mem _ (List.mem_flatMap.2 ⟨v,j67 (hv v List.mem_cons_self),List.mem_map.2 ⟨l,j66 (by omega) fun w hw=>hv w (List.mem_cons_of_mem _ hw),rfl⟩⟩)
def boxS:List Sm:=(List.range 5).flatMap fun k:Nat=>rng13.flatMap fun d=>(q2a 3).map fun l=>((k:Int),d,l,())
theorem j5k:boxS.length=154700:=by
 have h3:(q2a 3).length=2380:=by
  rw[z94,z94,z94];rfl
 unfold boxS
 rw[q4o (c:=13*2380),List.length_range]
 intro x _
 rw[q4o (c:=2380) fun y _=>by rw[List.length_map,h3]]
 rfl
theorem j65 {s:Sm} (h:bx s):s∈boxS:=by
 obtain⟨hd,hl⟩:=h.parts
 have e:=h.nat
 have o4:=h.o4
 have k1:=h.wf.2
 have hlen:s.2.2.1.length<=3:=by unfold oN at o4;unfold kN at k1;omega
 have:=q27 s
 rw[e]
 exact List.mem_flatMap.2 ⟨kN s,List.mem_range.2 (by omega),List.mem_flatMap.2 ⟨s.2.1,j67 hd,List.mem_map.2 ⟨s.2.2.1,j66 hlen hl,rfl⟩⟩⟩
theorem q31 {l:List Sm} (h:anti l) (hb:∀ s∈l,bx s):l.length<=154700:=by
 rw[<-j5k]
 exact z2a (j6h h.u) fun s hs=>j65 (hb s hs)
def z00 (n:Nat):List ((Nat×Nat)×Sm):=(List.range n).flatMap fun u=>(List.range n).flatMap fun v=>boxS.map fun s=>((u,v),s)
theorem y7n (n:Nat):(z00 n).length=n*(n*154700):=by
 unfold z00
 rw[q4o (c:=n*154700),List.length_range]
 intro x _
 rw[q4o (c:=154700) fun y _=>by rw[List.length_map,j5k],List.length_range]
theorem y8i {u v:Nat} {s:Sm} (hu:u<n) (hv:v<n) (h:bx s):((u,v),s)∈z00 n :=
 List.mem_flatMap.2 ⟨u,List.mem_range.2 hu,List.mem_flatMap.2 ⟨v,List.mem_range.2 hv,List.mem_map.2 ⟨s,j65 h,rfl⟩⟩⟩
def q6g (P:Tb) (t:(Nat×Nat)×Sm):Bool:=(P t.1.1 t.1.2).any fun y=>leS y t.2
def q0x (n:Nat) (P:Tb):Nat:=(z00 n).countP (q6g P)
theorem j34 (n:Nat) (P:Tb) (h:n<=12):q0x n P<=22276800:=by
 refine Nat.le_trans List.countP_le_length ?_
 rw[y7n]
 calc n*(n*154700)<=12*(12*154700):=Nat.mul_le_mul h (Nat.mul_le_mul h (Nat.le_refl _))
  _=22276800:=rfl
def V6 (P P':Tb):Prop:=∀ u v,∀ y∈P u v,∃ y'∈P' u v,leS y' y=true
theorem domB_iff {P:Tb} {u v:Nat} {s:Sm}:q6g P ((u,v),s)=true↔∃ y∈P u v,leS y s=true:=by
 unfold q6g
 rw[List.any_eq_true]
theorem y5j {P P':Tb} (h:V6 P P') {t:(Nat×Nat)×Sm} (ht:q6g P t=true):q6g P' t=true:=by
 obtain⟨⟨u,v⟩,s⟩:=t
 obtain⟨y,hy,l1⟩:=domB_iff.1 ht
 obtain⟨y',hy',l2⟩:=h u v y hy
 exact domB_iff.2 ⟨y',hy',M6 l2 l1⟩
theorem j35 {P P':Tb} (h:V6 P P') {u v:Nat} {s:Sm} (hu:u<n) (hv:v<n) (hs:bx s) (h1:¬ ∃ y∈P u v,leS y s=true) (h2:∃ y∈P' u v,leS y s=true):q0x n P<q0x n P' :=
 q6f (fun t _ ht=>y5j h ht) ⟨((u,v),s),y8i hu hv hs,by rw[Bool.eq_false_iff];exact fun e=>h1 (domB_iff.1 e),domB_iff.2 h2⟩
def q4s (i:Nat) (y s:Sm):Prop:=∀ j,j<=i->pN y j<=pN s j/\(j<kN y->j<kN s)
def Wj (n:Nat) (dep:Nat->Nat) (P:Tb) (u v:Nat) (s:Sm):Prop :=
 ∃ F:Nat->List Nat,∀ i,i<dep v->(F i).Nodup/\pN s i<=(F i).length/\∀ f∈F i,f<n/\dep f=i+1/\∃ y∈P u f,oN y=i+1/\q4s i y s
theorem j5w {i:Nat} {y' y s:Sm} (ho:oN y=i+1) (h:leS y' y=true) (hb:q4s i y s):q4s i y' s:=by
 obtain⟨o,p⟩:=leS_iff.1 h
 intro j hj
 have h1:=p j (by omega)
 have h2:=hb j hj
 exact⟨Int.le_trans h1.1 h2.1,fun g=>h2.2 (h1.2 g)⟩
theorem y1p {P P':Tb} (h:V6 P P') {u v:Nat} {s:Sm} (hw:Wj n dep P u v s):Wj n dep P' u v s:=by
 obtain⟨F,hF⟩:=hw
 refine⟨F,fun i hi=>?_⟩
 obtain⟨h1,h2,h3⟩:=hF i hi
 refine⟨h1,h2,fun f hf=>?_⟩
 obtain⟨a,b,y,hy,ho,hb⟩:=h3 f hf
 obtain⟨y',hy',hl⟩:=h u f y hy
 exact⟨a,b,y',hy',by rw[(leS_iff.1 hl).1,ho],j5w ho hl hb⟩
theorem j1m (g:GR n dep S ed) {P:Tb} {u v:Nat} {s:Sm} (hv:v<n) (hs:shp (dep u) (dep v) s) (hw:Wj n dep P u v s):bx s:=by
 obtain⟨F,hF⟩:=hw
 refine⟨hs.wf,by rw[hs.o];exact(g.d1 v hv).2,fun i=>⟨hs.p0 i,?_⟩⟩
 by_cases hi:i<dep v
 ·obtain⟨h1,h2,h3⟩:=hF i hi
  have h4:(F i).length<=(List.range n).length:=z2a h1 fun f hf=>List.mem_range.2 (h3 f hf).1
  rw[List.length_range]at h4
  have:=g.n12
  omega
 ·rw[q7w (by rw[hs.o];omega)];omega
theorem y1o (g:GR n dep S ed) (P:Tb) {u:Nat}:Wj n dep P u u (idS (dep u)) :=
 ⟨fun _=>[],fun i _=>⟨List.nodup_nil,by rw[q3j];exact Int.le_refl 0,fun f hf=>by cases hf⟩⟩
theorem j5v (g:GR n dep S ed) {v:Nat} (hv:v<n) {i:Nat} (hi:i<kN (S v)) {y s:Sm} (hs:wfS s) (h:q4s i y s):q4s i y (cS s (S v)):=by
 intro j hj
 have h1:=h j hj
 have:=g.S0 hv j
 have ho:=q27 (S v)
 rw[K7 hs.2 (g.s0 v hv).1.2 (by omega),if_pos (by omega),O7]
 exact⟨by omega,fun q=>by have:=h1.2 q;omega⟩
theorem y1q (g:GR n dep S ed) {P P':Tb} (hPP:V6 P P') {u v b:Nat} {s:Sm} (hs:shp (dep u) (dep v) s) (hw:Wj n dep P u v s) (hk:¬ ∃ y∈P u v,leS y s=true) (hin:s∈P' u v) (he:(v,b)∈ed):Wj n dep P' u b (cS s (S v)):=by
 obtain⟨hv,hb,ho⟩:=g.e v b he
 obtain⟨s1,s2,s3,s4⟩:=g.s0 v hv
 obtain⟨F,hF⟩:=hw
 refine⟨fun i=>if i<kN (S v)then(if pN (S v) i=1 then v::F i else F i)else [],fun i hi=>?_⟩
 have hpos:=s4 i
 rw[K7 hs.wf.2 s1.2 (by omega)]
 by_cases h1:i<kN (S v)
 ·obtain⟨f1,f2,f3⟩:=hF i (by omega)
  have old:∀ f∈F i,f<n/\dep f=i+1/\∃ y∈P' u f,oN y=i+1/\q4s i y (cS s (S v)):=fun f hf=>by
   obtain⟨a,b,y,hy,hoy,hby⟩:=f3 f hf
   obtain⟨y',hy',hl⟩:=hPP u f y hy
   exact⟨a,b,y',hy',by rw[(leS_iff.1 hl).1,hoy],j5v g hv h1 hs.wf (j5w hoy hl hby)⟩
  simp only[if_pos h1]
  by_cases h2:pN (S v) i=1
  ·simp only[if_pos h2]
   have hd:i+1=dep v/\kN (S v)=dep v:=by omega
   have hnot:v∉F i:=fun hm=>by
    obtain⟨a,b,y,hy,hoy,hby⟩:=f3 v hm
    exact hk ⟨y,hy,leS_iff.2 ⟨by rw[hoy,hs.o];omega,fun j hj=>hby j (by omega)⟩⟩
   refine⟨List.nodup_cons.2 ⟨hnot,f1⟩,by rw[List.length_cons];omega,fun f hf=>?_⟩
   rcases List.mem_cons.1 hf with rfl | hf
   ·exact⟨hv,by omega,s,hin,by rw[hs.o];omega,j5v g hv h1 hs.wf fun j _=>⟨Int.le_refl _,id⟩⟩
   ·exact old f hf
  ·simp only[if_neg h2]
   exact⟨f1,by omega,old⟩
 ·simp only[if_neg h1]
  refine⟨List.nodup_nil,?_,fun f hf=>by cases hf⟩
  have:pN (S v) i=0:=by omega
  rw[this];exact Int.le_refl 0
abbrev Jb:=Nat×Nat×Sm
def z0a (P:Tb) (J:List Jb) (u v:Nat) (s:Sm):Prop:=(∃ y∈P u v,leS y s=true)\/∃ y,(u,v,y)∈J/\leS y s=true
structure PI (n:Nat) (dep:Nat->Nat) (S:Nat->Sm) (ed:List (Nat×Nat)) (P:Tb) (J:List Jb):Prop where
 gen:∀ u v,∀ x∈P u v,Gf n dep S ed u v x/\bx x
 an:∀ u v,anti (P u v)
 job:∀ j∈J,Gf n dep S ed j.1 j.2.1 j.2.2/\Wj n dep P j.1 j.2.1 j.2.2
 st:∀ u,u<n->z0a P J u u (idS (dep u))
 ex:∀ u v,∀ x∈P u v,∀ b,(v,b)∈ed->z0a P J u b (cS x (S v))
theorem PI.done {P:Tb} (h:PI n dep S ed P []):PF n dep S ed P :=
 ⟨fun u v x hx=>(h.gen u v x hx).1,h.an,fun u hu=>(h.st u hu).resolve_right fun ⟨y,hy,_⟩=>(by cases hy),fun u v x hx b hb=>(h.ex u v x hx b hb).resolve_right fun ⟨y,hy,_⟩=>(by cases hy)⟩
theorem PI.jbx (g:GR n dep S ed) {P:Tb} {J:List Jb} (h:PI n dep S ed P J):∀ j∈J,j.1<n/\j.2.1<n/\bx j.2.2/\shp (dep j.1) (dep j.2.1) j.2.2:=fun j hj=>by
 obtain⟨h1,h2⟩:=h.job j hj
 obtain⟨hu,hv,hs⟩:=h1.ok g
 exact⟨hu,hv,j1m g hv hs h2,hs⟩
theorem z0b {P P':Tb} {J J':List Jb} {u v:Nat} {s:Sm} (hPP:V6 P P') (hJ:∀ j∈J,j∈J') (hs:∃ y∈P' u v,leS y s=true) {a b:Nat} {x:Sm} (h:z0a P ((u,v,s)::J) a b x):z0a P' J' a b x:=by
 rcases h with⟨y,hy,hl⟩ | ⟨y,hy,hl⟩
 ·obtain⟨y',hy',hl'⟩:=hPP a b y hy
  exact .inl ⟨y',hy',M6 hl' hl⟩
 ·rcases List.mem_cons.1 hy with e | hy
  ·cases e
   obtain⟨y',hy',hl'⟩:=hs
   exact .inl ⟨y',hy',M6 hl' hl⟩
  ·exact .inr ⟨y,hJ _ hy,hl⟩
theorem y05 (P:Tb):V6 P P:=fun u v y hy=>⟨y,hy,S6 y⟩
theorem PI.known {P:Tb} {J:List Jb} {u v:Nat} {s:Sm} (h:PI n dep S ed P ((u,v,s)::J)) (hk:∃ y∈P u v,leS y s=true):PI n dep S ed P J :=
 ⟨h.gen,h.an,fun j hj=>h.job j (List.mem_cons_of_mem _ hj),fun u hu=>z0b (y05 P) (fun j hj=>hj) hk (h.st u hu),fun a v x hx b hb=>z0b (y05 P) (fun j hj=>hj) hk (h.ex a v x hx b hb)⟩
def P3 (P:Tb) (u v:Nat) (s:Sm):Tb:=fun a b=>if a=u/\b=v then N7 (P u v++[s])else P a b
def O5 (S:Nat->Sm) (ed:List (Nat×Nat)) (u v:Nat) (s:Sm):List Jb:=(ed.filter fun e=>decide (e.1=v)).map fun e=>(u,e.2,cS s (S v))
theorem v0j (P:Tb) (u v:Nat) (s:Sm):P3 P u v s u v=N7 (P u v++[s]):=if_pos ⟨rfl,rfl⟩
theorem v0k {P:Tb} {u v:Nat} {s:Sm} (hw:∀ x∈P u v,wfS x) (hs:wfS s):V6 P (P3 P u v s):=by
 intro a b y hy
 unfold P3
 by_cases h:a=u/\b=v
 ·obtain⟨rfl,rfl⟩:=h
  rw[if_pos ⟨rfl,rfl⟩]
  exact z0q (fun x hx=>(List.mem_append.1 hx).elim (hw x) fun g=>by rw[List.mem_singleton.1 g];exact hs) (List.mem_append_left _ hy)
 ·rw[if_neg h];exact⟨y,hy,S6 y⟩
theorem j7h {P:Tb} {u v:Nat} {s:Sm} {a b:Nat} {x:Sm} (h:x∈P3 P u v s a b):x∈P a b\/(a=u/\b=v/\x=s):=by
 unfold P3 at h
 split at h
 ·rename_i e
  obtain⟨rfl,rfl⟩:=e
  rcases List.mem_append.1 (mem_front.1 h).1 with g | g
  ·exact .inl g
  ·exact .inr ⟨rfl,rfl,List.mem_singleton.1 g⟩
 ·exact .inl h
theorem v0i {P:Tb} {u v:Nat} {s:Sm} (hk:¬ ∃ y∈P u v,leS y s=true):s∈P3 P u v s u v:=by
 rw[v0j]
 refine mem_front.2 ⟨List.mem_append_right _ List.mem_cons_self,fun r hr hl=>?_⟩
 rcases List.mem_append.1 hr with g | g
 ·exact absurd ⟨r,g,hl⟩ hk
 ·exact List.mem_singleton.1 g
theorem PI.put (g:GR n dep S ed) {P:Tb} {J:List Jb} {u v:Nat} {s:Sm} (h:PI n dep S ed P ((u,v,s)::J)) (hk:¬ ∃ y∈P u v,leS y s=true) :
  PI n dep S ed (P3 P u v s) (J++O5 S ed u v s)/\q0x n P<q0x n (P3 P u v s):=by
 obtain⟨jg,jw⟩:=h.job (u,v,s) List.mem_cons_self
 obtain⟨hu,hv,hs⟩:=jg.ok g
 have hb:bx s:=j1m g hv hs jw
 have hsub:V6 P (P3 P u v s):=v0k (fun x hx=>(h.gen u v x hx).2.wf) hs.wf
 have hin:s∈P3 P u v s u v:=v0i hk
 have hdom:∃ y∈P3 P u v s u v,leS y s=true:=⟨s,hin,S6 s⟩
 refine⟨⟨fun a b x hx=>?_,fun a b=>?_,fun j hj=>?_,fun w hw=>?_,fun a c x hx b he=>?_⟩,j35 hsub hu hv hb hk hdom⟩
 ·rcases j7h hx with hx | ⟨rfl,rfl,rfl⟩
  ·exact h.gen a b x hx
  ·exact⟨jg,hb⟩
 ·unfold P3
  split
  ·exact j1z _
  ·exact h.an a b
 ·rcases List.mem_append.1 hj with hj | hj
  ·have:=h.job j (List.mem_cons_of_mem _ hj)
   exact⟨this.1,y1p hsub this.2⟩
  ·obtain⟨e,he,rfl⟩:=List.mem_map.1 hj
   obtain⟨he,hev⟩:=List.mem_filter.1 he
   have hev:=of_decide_eq_true hev
   obtain⟨e1,e2⟩:=e
   obtain rfl:v=e1:=hev.symm
   exact⟨.snoc _ _ _ _ jg he,y1q g hsub hs jw hk hin he⟩
 ·exact z0b hsub (fun j hj=>List.mem_append_left _ hj) hdom (h.st w hw)
 ·rcases j7h hx with hx | ⟨rfl,rfl,rfl⟩
  ·exact z0b hsub (fun j hj=>List.mem_append_left _ hj) hdom (h.ex a c x hx b he)
  ·exact .inr ⟨_,List.mem_append_right _ (List.mem_map.2 ⟨(c,b),List.mem_filter.2 ⟨he,decide_eq_true rfl⟩,rfl⟩),S6 _⟩
theorem PI.start (g:GR n dep S ed):PI n dep S ed (fun _ _=>[]) ((List.range n).map fun u=>(u,u,idS (dep u))):=by
 refine⟨fun u v x hx=>(by cases hx),fun u v=>z5w,fun j hj=>?_,fun u hu=>.inr ⟨_,List.mem_map.2 ⟨u,List.mem_range.2 hu,rfl⟩,S6 _⟩,fun u v x hx=>(by cases hx)⟩
 obtain⟨u,hu,rfl⟩:=List.mem_map.1 hj
 exact⟨.id u (List.mem_range.1 hu),y1o g _⟩
def q1a (dep:Nat->Nat) (S:Nat->Sm) (ed:List (Nat×Nat)) (Q:Tb) (a b:Nat):List Sm :=
 (if a=b then [idS (dep a)]else [])++ed.flatMap fun e=>if e.1=a then(Q e.2 b).map (cS (S a))else []
def E0 (n:Nat) (dep:Nat->Nat) (S:Nat->Sm) (ed:List (Nat×Nat)) (Q:Tb):Tb:=fun a b=>if a<n/\b<n then N7 (q1a dep S ed Q a b)else []
theorem mem_pre {Q:Tb} {a b:Nat} {x:Sm}:x∈q1a dep S ed Q a b↔(a=b/\x=idS (dep a))\/∃ c r,(a,c)∈ed/\r∈Q c b/\x=cS (S a) r:=by
 unfold q1a
 rw[List.mem_append,List.mem_flatMap]
 refine or_congr ?_ ⟨?_,?_⟩
 ·split
  ·rename_i h;simp[h]
  ·rename_i h;simp[h]
 ·rintro ⟨⟨e1,e2⟩,he,h⟩
  simp only at h
  split at h
  ·rename_i h1
   subst h1
   obtain⟨r,hr,rfl⟩:=List.mem_map.1 h
   exact⟨e2,r,he,hr,rfl⟩
  ·cases h
 ·rintro ⟨c,r,he,hr,rfl⟩
  exact⟨(a,c),he,by rw[if_pos rfl];exact List.mem_map.2 ⟨r,hr,rfl⟩⟩
def WR (n:Nat) (dep:Nat->Nat) (Q:Tb) (b:Nat) (r:Sm):Prop :=
 (∀ i,kN r<=i->pN r i<=12)/\∃ F:List Nat,F.Nodup/\pN r (kN r-1)<=F.length/\∀ f∈F,f<n/\dep f=kN r/\∃ y∈Q f b,leS y r=true
theorem j1l (g:GR n dep S ed) {Q:Tb} {a b:Nat} {r:Sm} (hb:b<n) (hs:shp (dep a) (dep b) r) (hw:WR n dep Q b r):bx r:=by
 obtain⟨h1,F,f1,f2,f3⟩:=hw
 have k1:=hs.wf.2
 refine⟨hs.wf,by rw[hs.o];exact(g.d1 b hb).2,fun i=>⟨hs.p0 i,?_⟩⟩
 rcases Nat.lt_trichotomy (i+1) (kN r)with h | h | h
 ·rw[z2k h];omega
 ·have h4:F.length<=(List.range n).length:=z2a f1 fun f hf=>List.mem_range.2 (f3 f hf).1
  rw[List.length_range]at h4
  have:=g.n12
  rw[show i=kN r-1 by omega]
  omega
 ·exact h1 i (by omega)
structure RI (n:Nat) (dep:Nat->Nat) (S:Nat->Sm) (ed:List (Nat×Nat)) (Q:Tb):Prop where
 gen:∀ a b,∀ x∈Q a b,Gb n dep S ed a b x/\WR n dep Q b x
 an:∀ a b,anti (Q a b)
 asc:V6 Q (E0 n dep S ed Q)
theorem RI.bx (g:GR n dep S ed) {Q:Tb} (h:RI n dep S ed Q) {a b:Nat}:∀ x∈Q a b,bx x:=fun x hx=>by
 obtain⟨h1,h2⟩:=h.gen a b x hx
 obtain⟨ha,hb,hs⟩:=h1.ok g
 exact j1l g hb hs h2
theorem z2m (g:GR n dep S ed) {Q:Tb} (hQ:∀ c b,∀ x∈Q c b,wfS x) {a b:Nat} (ha:a<n):∀ x∈q1a dep S ed Q a b,wfS x:=fun x hx=>by
 rcases mem_pre.1 hx with⟨_,rfl⟩ | ⟨c,r,he,hr,rfl⟩
 ·exact q1r (g.d1 a ha).1
 ·exact T1 (g.s0 a ha).1 (hQ c b r hr)
theorem v1v (g:GR n dep S ed) {Q Q':Tb} (hw:∀ c b,∀ x∈Q c b,wfS x) (hw':∀ c b,∀ x∈Q' c b,wfS x) (h:V6 Q Q'):V6 (E0 n dep S ed Q) (E0 n dep S ed Q'):=by
 intro a b y hy
 unfold E0 at hy ⊢
 split at hy
 ·rename_i hab
  rw[if_pos hab]
  have hm:=(mem_front.1 hy).1
  have:∃ y'∈q1a dep S ed Q' a b,leS y' y=true:=by
   rcases mem_pre.1 hm with⟨h1,rfl⟩ | ⟨c,r,he,hr,rfl⟩
   ·exact⟨_,mem_pre.2 (.inl ⟨h1,rfl⟩),S6 _⟩
   ·obtain⟨r',hr',hl⟩:=h c b r hr
    exact⟨_,mem_pre.2 (.inr ⟨c,r',he,hr',rfl⟩),z6h (g.s0 a hab.1).1 (g.S0 hab.1) (hw' c b r' hr') (hw c b r hr) hl⟩
  obtain⟨y',hy',hl⟩:=this
  obtain⟨z,hz,hl2⟩:=z0q (z2m g hw' hab.1) hy'
  exact⟨z,hz,M6 hl2 hl⟩
 ·cases hy
theorem y1m (g:GR n dep S ed) {Q Q':Tb} (hQQ:V6 Q Q') {a c b:Nat} {r:Sm} (ha:a<n) (hb:b<n) (he:(a,c)∈ed) (hs:shp (dep c) (dep b) r) (hw:WR n dep Q b r) (hin:cS (S a) r∈Q' a b) (han:anti (Q' a b)):WR n dep Q' b (cS (S a) r):=by
 obtain⟨-,hc,ho⟩:=g.e a c he
 obtain⟨s1,s2,s3,s4⟩:=g.s0 a ha
 have hbr:=j1l g hb hs hw
 obtain⟨h1,F,f1,f2,f3⟩:=hw
 have k1:=hs.wf.2
 have k2:=s1.2
 have kr:=q27 r
 have ks:=hs.k
 have hk:=O7 (S a) r
 have hle:kN r<=kN (S a)->leS r (cS (S a) r)=true:=fun hK=>leS_iff.2 ⟨(J3 ..).symm,fun i hi=>by
  rw[K7 s1.2 hs.wf.2 hi,hk]
  have:=g.S0 ha i
  exact⟨by split<;>omega,fun q=>by omega⟩⟩
 by_cases hK:kN r<=kN (S a)
 ·have hk':kN (cS (S a) r)=kN r:=by omega
  have hler:=hle hK
  have old:∀ f∈F,f<n/\dep f=kN r/\∃ y∈Q' f b,leS y (cS (S a) r)=true:=fun f hf=>by
   obtain⟨x1,x2,y,hy,hl⟩:=f3 f hf
   obtain⟨y',hy',hl'⟩:=hQQ f b y hy
   exact⟨x1,x2,y',hy',M6 hl' (M6 hl hler)⟩
  refine⟨fun i hi=>?_,?_⟩
  ·by_cases hio:i<oN r
   ·rw[K7 s1.2 hs.wf.2 hio,if_neg (by omega)];exact h1 i (by omega)
   ·rw[q7w (by rw[J3];omega)];omega
  ·rw[hk',K7 s1.2 hs.wf.2 (by omega),if_pos (by omega)]
   rcases s4 (kN r-1)with h0 | ⟨h0,h2,h3,h4⟩
   ·exact⟨F,f1,by omega,old⟩
   ·refine⟨a::F,List.nodup_cons.2 ⟨fun hm=>?_,f1⟩,by rw[List.length_cons];omega,fun f hf=>?_⟩
    ·obtain⟨x1,x2,y,hy,hl⟩:=f3 a hm
     obtain⟨y',hy',hl'⟩:=hQQ a b y hy
     have e:=han.m _ hin y' hy' (M6 hl' (M6 hl hler))
     subst e
     have hbad:=(leS_iff.1 (M6 hl' hl)).2 (kN r-1) (by rw[J3];omega)
     rw[K7 s1.2 hs.wf.2 (by omega),if_pos (by omega)]at hbad
     omega
    ·rcases List.mem_cons.1 hf with rfl | hf
     ·exact⟨ha,by omega,_,hin,S6 _⟩
     ·exact old f hf
 ·have hS:∀ i,pN (S a) i=0:=fun i=>by rcases s4 i with h | h<;>omega
  refine⟨fun i hi=>?_,[],List.nodup_nil,?_,fun f hf=>by cases hf⟩
  ·by_cases hio:i<oN r
   ·have:=(hbr.p0 i).2
    rw[K7 s1.2 hs.wf.2 hio,hS]
    split<;>omega
   ·rw[q7w (by rw[J3];omega)];omega
  ·rw[K7 s1.2 hs.wf.2 (by omega),hS,hk,z2k (by omega)]
   simp
theorem y1n (g:GR n dep S ed) (Q:Tb) {b:Nat}:WR n dep Q b (idS (dep b)) :=
 ⟨fun i _=>by rw[q3j];omega,[],List.nodup_nil,by rw[q3j];exact Int.le_refl 0,fun f hf=>by cases hf⟩
theorem RI.next (g:GR n dep S ed) {Q:Tb} (h:RI n dep S ed Q):RI n dep S ed (E0 n dep S ed Q):=by
 have hwf:∀ c b,∀ x∈Q c b,wfS x:=fun c b x hx=>(h.bx g x hx).wf
 have hwf':∀ c b,∀ x∈E0 n dep S ed Q c b,wfS x:=fun c b x hx=>by
  unfold E0 at hx
  split at hx
  ·rename_i hcb;exact z2m g hwf hcb.1 x (mem_front.1 hx).1
  ·cases hx
 have han:∀ a b,anti (E0 n dep S ed Q a b):=fun a b=>by
  unfold E0
  split
  ·exact j1z _
  ·exact z5w
 refine⟨fun a b x hx=>?_,han,v1v g hwf hwf' h.asc⟩
 have hx0:=hx
 unfold E0 at hx
 split at hx
 ·rename_i hab
  rcases mem_pre.1 (mem_front.1 hx).1 with⟨rfl,rfl⟩ | ⟨c,r,he,hr,rfl⟩
  ·exact⟨.id a hab.1,y1n g _⟩
  ·obtain⟨g1,g2⟩:=h.gen c b r hr
   exact⟨.cons _ _ _ _ he g1,y1m g h.asc hab.1 hab.2 he (g1.ok g).2.2 g2 hx0 (han a b)⟩
 ·cases hx
theorem RI.start (g:GR n dep S ed):RI n dep S ed fun _ _=>[] :=
 ⟨fun a b x hx=>(by cases hx),fun a b=>z5w,fun a b y hy=>(by cases hy)⟩
theorem RI.fixed (g:GR n dep S ed) {Q:Tb} (h:RI n dep S ed Q) (hf:∀ a b,a<n->b<n->E0 n dep S ed Q a b=Q a b):QF n dep S ed Q:=by
 have hwf:∀ c b,∀ x∈Q c b,wfS x:=fun c b x hx=>(h.bx g x hx).wf
 refine⟨fun a b x hx=>(h.gen a b x hx).1,h.an,fun u hu=>?_,fun c b x hx a he=>?_⟩
 ·rw[<-hf u u hu hu]
  unfold E0
  rw[if_pos ⟨hu,hu⟩]
  exact z0q (z2m g hwf hu) (mem_pre.2 (.inl ⟨rfl,rfl⟩))
 ·obtain⟨ha,hc,-⟩:=g.e a c he
  have hb:=((h.gen c b x hx).1.ok g).2.1
  rw[<-hf a b ha hb]
  unfold E0
  rw[if_pos ⟨ha,hb⟩]
  exact z0q (z2m g hwf ha) (mem_pre.2 (.inr ⟨c,x,he,hx,rfl⟩))
theorem RI.grow (g:GR n dep S ed) {Q:Tb} (h:RI n dep S ed Q) (hf:¬ ∀ a b,a<n->b<n->E0 n dep S ed Q a b=Q a b):q0x n Q<q0x n (E0 n dep S ed Q):=by
 have h':=h.next g
 apply Classical.byContradiction
 intro hc
 refine hf fun a b ha hb=>j1y (h'.an a b) (h.an a b) (fun s hs=>(h'.bx g s hs).wf) (fun s hs=>(h.bx g s hs).wf) (fun x hx=>?_) fun x hx=>h.asc a b x hx
 apply Classical.byContradiction
 intro hno
 exact hc (j35 h.asc ha hb (h'.bx g x hx) hno ⟨x,hx,S6 x⟩)
end
end

section
open Go Go.Abs

inductive Way (A:Nat->Nat->Bool):Nat->Nat->Prop
 | one {i j:Nat} (h:A i j=true):Way A i j
 | more {i k j:Nat} (h:Way A i k) (h2:A k j=true):Way A i j
theorem Way.trans {A:Nat->Nat->Bool} {i j k:Nat} (h:Way A i j) (h2:Way A j k):Way A i k:=by
 induction h2 with
 | one h2=>exact .more h h2
 | more _ h3 ih=>exact .more ih h3
def fwR (w:Nat->Nat->Bool) (k:Nat):Nat->Nat->Bool:=fun i j=>w i j||(w i k&&w k j)
def fwN (A:Nat->Nat->Bool):Nat->Nat->Nat->Bool
 | 0=>A
 | k+1=>fwR (fwN A k) k
theorem z0s (A:Nat->Nat->Bool):∀ k i j,fwN A k i j=true->Way A i j
 | 0,i,j,h=>.one h
 | k+1,i,j,h=>by
  simp only[fwN,fwR,Bool.or_eq_true,Bool.and_eq_true]at h
  rcases h with h | ⟨h,h2⟩
  ·exact z0s A k i j h
  ·exact(z0s A k i k h).trans (z0s A k k j h2)
theorem z8m (A:Nat->Nat->Bool) (k:Nat):∀ m i j,fwN A k i j=true->fwN A (k+m) i j=true
 | 0,_,_,h=>h
 | m+1,i,j,h=>by
  show fwR (fwN A (k+m)) (k+m) i j=true
  simp only[fwR,Bool.or_eq_true]
  exact .inl (z8m A k m i j h)
theorem j4k (A:Nat->Nat->Bool):∀ k m,m<k->∀ i j,fwN A k i m=true->fwN A k m j=true->fwN A k i j=true
 | 0,_,h,_,_,_,_=>by omega
 | k+1,m,hm,i,j,h1,h2=>by
  simp only[fwN,fwR,Bool.or_eq_true,Bool.and_eq_true]at h1 h2 ⊢
  by_cases hmk:m=k
  ·subst hmk
   have h1':fwN A m i m=true:=by
    rcases h1 with h | ⟨h,_⟩<;>exact h
   have h2':fwN A m m j=true:=by
    rcases h2 with h | ⟨_,h⟩<;>exact h
   exact .inr ⟨h1',h2'⟩
  ·have hlt:m<k:=by omega
   have ih:=j4k A k m hlt
   rcases h1 with h1 | ⟨h1,h1'⟩<;>rcases h2 with h2 | ⟨h2,h2'⟩
   ·exact .inl (ih i j h1 h2)
   ·exact .inr ⟨ih i k h1 h2,h2'⟩
   ·exact .inr ⟨h1,ih k j h1' h2⟩
   ·exact .inr ⟨h1,h2'⟩
theorem z0r {A:Nat->Nat->Bool} {n:Nat} (hA:∀ i j,A i j=true->i<n/\j<n) (i j:Nat):fwN A n i j=true↔Way A i j:=by
 constructor
 ·exact z0s A n i j
 ·intro h
  induction h with
  | one h=>have:=z8m A 0 n _ _ h;rwa [Nat.zero_add]at this
  | more _ h2 ih =>
   have h3:=z8m A 0 n _ _ h2
   rw[Nat.zero_add]at h3
   exact j4k A n _ (hA _ _ h2).1 _ _ ih h3
def Q3 (w:Nat->Nat->Bool) (n k x:Nat):Nat->Bool:=fun y=>if y<x then fwR w k (y / n) (y % n)else w (y / n) (y % n)
theorem y6k {w:Nat->Nat->Bool} {n k x i:Nat} (hk:k<n):Q3 w n k x (i*n+k)=w i k:=by
 have h1:(i*n+k) / n=i:=by rw[Nat.mul_comm,Nat.mul_add_div (by omega),Nat.div_eq_of_lt hk];rfl
 have h2:(i*n+k) % n=k:=by rw[Nat.mul_comm,Nat.mul_add_mod,Nat.mod_eq_of_lt hk]
 unfold Q3
 rw[h1,h2]
 split
 ·unfold fwR;cases w i k<;>simp
 ·rfl
theorem y6m {w:Nat->Nat->Bool} {n k x j:Nat} (hj:j<n):Q3 w n k x (k*n+j)=w k j:=by
 have h1:(k*n+j) / n=k:=by rw[Nat.mul_comm,Nat.mul_add_div (by omega),Nat.div_eq_of_lt hj];rfl
 have h2:(k*n+j) % n=j:=by rw[Nat.mul_comm,Nat.mul_add_mod,Nat.mod_eq_of_lt hj]
 unfold Q3
 rw[h1,h2]
 split
 ·unfold fwR;cases w k j<;>simp
 ·rfl
theorem y6l {w:Nat->Nat->Bool} {n k i j:Nat} (hj:j<n):Q3 w n k (i*n+j) (i*n+j)=w i j:=by
 have h1:(i*n+j) / n=i:=by rw[Nat.mul_comm,Nat.mul_add_div (by omega),Nat.div_eq_of_lt hj];rfl
 have h2:(i*n+j) % n=j:=by rw[Nat.mul_comm,Nat.mul_add_mod,Nat.mod_eq_of_lt hj]
 unfold Q3
 rw[if_neg (by omega),h1,h2]
theorem j4j {w:Nat->Nat->Bool} {n k i j:Nat} (hj:j<n) (y:Nat):Q3 w n k (i*n+(j+1)) y=if y=i*n+j then fwR w k i j else Q3 w n k (i*n+j) y:=by
 have h1:(i*n+j) / n=i:=by rw[Nat.mul_comm,Nat.mul_add_div (by omega),Nat.div_eq_of_lt hj];rfl
 have h2:(i*n+j) % n=j:=by rw[Nat.mul_comm,Nat.mul_add_mod,Nat.mod_eq_of_lt hj]
 by_cases hy:y=i*n+j
 ·subst hy
  rw[if_pos rfl]
  unfold Q3
  rw[if_pos (by omega),h1,h2]
 ·rw[if_neg hy]
  unfold Q3
  by_cases hlt:y<i*n+j
  ·rw[if_pos hlt,if_pos (by omega)]
  ·rw[if_neg hlt,if_neg (by omega)]
theorem q3r {n i j:Nat} (hi:i<n) (hj:j<n):i*n+j<n*n:=by
 have:(i+1)*n<=n*n:=Nat.mul_le_mul_right n hi
 rw[Nat.add_mul,Nat.one_mul]at this
 omega
theorem q5l {n i j:Nat} (hn:n<=64) (hi:i<n) (hj:j<n):IntKind.i64.wrap ((IntKind.i64.wrap ((i:Int)*(n:Int)))+(j:Int))=((i*n+j:Nat):Int):=by
 have h1:=q3r hi hj
 have h2:n*n<=64*64:=Nat.mul_le_mul hn hn
 have h3:(i:Int)*(n:Int)=((i*n:Nat):Int):=(Int.natCast_mul i n).symm
 have e1:IntKind.i64.wrap ((i*n:Nat):Int)=((i*n:Nat):Int):=E7 (by omega) (by omega)
 rw[h3,e1]
 rw[E7 (by omega) (by omega)]
 simp
end

section
open Go Go.Abs

theorem v6f:∀ r:Fin 64,A7 z95 (q2s .u64 (IntKind.u64.wrap (((2^r.val:Nat):Int)*(285870213051353865:Int))) (58:Int))=some (r.val:Int):=by decide +kernel
theorem z5h {r q:Nat} (h:2^r*(2*q+1)<2^64):q2e (((2^r*(2*q+1):Nat):Int),())=some ((r:Int),()):=by
 have hr:r<64:=q0v h (by rw[q7q];simp)
 have hp:0<2^r*(2*q+1):=Nat.mul_pos (Nat.two_pow_pos r) (by omega)
 unfold q2e
 have e0:((((2^r*(2*q+1):Nat):Int),()).1==(0:Int))=false:=by
  simp only[beq_eq_false_iff_ne];omega
 have e1:IntKind.u64.wrap (0-((2^r*(2*q+1):Nat):Int))=((2^64-2^r*(2*q+1):Nat):Int):=by
  unfold IntKind.wrap;simp only[IntKind.bits,IntKind.signed]
  generalize 2^r*(2*q+1)=v at *
  simp;omega
 simp only[e0,cond_false]
 rw[e1,j1x h (by omega),y7z h,z8n,tab0_eq,v6f ⟨r,hr⟩]
 simp only[Option.bind_some]
 rw[E7 (by omega) (by omega)]
theorem j03 {i:Nat} (h:i<32):q3n ((i:Int),())=some (((2^i:Nat):Int),()):=by
 unfold q3n
 have:decide ((i:Int)<0)=false:=decide_eq_false (by omega)
 simp only[this,cond_false]
 rw[v4j h]
theorem v4i {a:Nat} (i:Nat) (h:a<2^32):z4j ((a:Int),(i:Int),())=some (a.testBit i,()):=by
 unfold z4j
 have:decide ((i:Int)<0)=false:=decide_eq_false (by omega)
 simp only[this,cond_false]
 rw[y6v i h]
def below (ws:List Nat) (i j:Nat):Bool:=(ws.getD i 0).testBit j
end

section
open Go Go.Abs

abbrev C1:=Int×(Int×((Int×(Int×(Int×Unit)))×Unit))
abbrev Edge:=Int×(Int×(Int×Unit))
def D8 (v:C1):Bool:=decide (1<=v.2.1/\v.2.1<=4/\1<=v.1/\v.1<=6/\(v.1=1->v.2.1=1)/\(v.1=4->v.2.1≠4)/\(5<=v.1->2<=v.2.1))
def G7 (v:C1):Int:=if v.1=1 then 0 else if v.1=3 then 2 else 1
def V1 (v:C1):Int:=if v.1=4 then v.2.1+1 else if v.1=5 then v.2.1-1 else v.2.1
theorem v0o (v:C1):z3a (v,())=some (D8 v,()):=by
 obtain⟨k,d,op,_⟩:=v
 unfold z3a D8
 simp only[R5,K2,q0y]
 repeat' split
 all_goals first
  | (congr 2;symm;apply decide_eq_false;intro h;obtain⟨h1,h2,h3,h4,h5,h6,h7⟩:=h;omega)
  | (congr 2;symm;apply decide_eq_true;omega)
  | (congr 2;apply decide_eq_decide.2;omega)
theorem j4t (v:C1):q72 (v,())=some (D8 v,()):=by
 obtain⟨k,d,op,_⟩:=v
 have w1:IntKind.i64.wrap ((4:Int)-1)=3:=by decide
 have w2:IntKind.i64.wrap ((1:Int)+1)=2:=by decide
 unfold q72 D8
 simp only[w1,w2,R5,q0y]
 have fin:∀ {p q:Bool},(p=true↔q=true)->some (p,())=some (q,()):=fun h=>by rw[Bool.eq_iff_iff.2 h]
 have hk:k=1\/k=4\/k=5\/k=6\/k=2\/k=3\/(k≠1/\k≠4/\k≠5/\k≠6/\k≠2/\k≠3):=by omega
 rcases hk with rfl | rfl | rfl | rfl | rfl | rfl | ⟨h1,h4,h5,h6,h2,h3⟩
 case inr.inr.inr.inr.inr.inr =>
  simp only[h1,h4,h5,h2,h3,if_false,beq_eq_false_iff_ne.2 h6,Option.bind_some,Sum.elim_inl,cond_false]
  refine fin ?_
  simp
  omega
 all_goals
  simp
  split
  ·refine fin ?_;simp;omega
  ·refine fin ?_;simp;omega
theorem y6s (v:C1):z0y (v,())=some (!D8 v,()):=by
 unfold z0y;rw[j4t];rfl
theorem j4r (v:C1):q71 (v,())=some (G7 v,()):=by
 unfold q71 G7
 simp only[R5]
 split
 ·rfl
 ·split<;>rfl
theorem j7m (v:C1):q85 (v,())=some (G7 v,()):=by
 unfold q85 G7
 simp only[R5]
 split
 ·rfl
 ·split<;>rfl
theorem q2f {v:C1} (h:D8 v=true):1<=v.2.1/\v.2.1<=4:=by
 have:=of_decide_eq_true h
 exact⟨this.1,this.2.1⟩
theorem y6u {v:C1} (h:D8 v=true):z1b (v,())=some (V1 v,()):=by
 have hd:=q2f h
 unfold z1b V1
 simp only[R5]
 rw[E7 (by omega) (by omega),E7 (by omega) (by omega)]
 split
 ·rfl
 ·split<;>rfl
theorem v0q {v:C1} (h:D8 v=true):((q2o (v,())).bind fun r=>P4 r)=some (V1 v,()):=by
 have hd:=q2f h
 obtain⟨k,d,op,u⟩:=v
 simp only at hd
 unfold q2o P4 V1
 simp only[R5]
 have w:∀ z:Int,-100<=z->z<=100->IntKind.i64.wrap z=z:=fun z h1 h2=>E7 (by omega) (by omega)
 by_cases h4:k=4
 ·simp only[h4,if_true,Option.bind_some,List.length_cons,List.length_nil]
  rw[w _ (by omega) (by omega)];rfl
 ·by_cases h5:k=5
  ·subst h5
   simp only[h4,if_false,if_true,Option.bind_some,List.length_nil]
   rw[w (d-1) (by omega) (by omega),w _ (by omega) (by omega)]
   simp
  ·by_cases h6:k=6
   ·subst h6
    simp only[h4,h5,if_false,if_true,Option.bind_some,List.length_nil]
    rw[w _ (by omega) (by omega)]
    simp
   ·simp only[h4,h5,h6,if_false,Option.bind_some,List.length_nil]
    rw[w _ (by omega) (by omega)]
    simp
end

section
open Go Go.Abs

theorem y7u {σ U β:Type} {f:σ->Option (σ⊕(U⊕β))} (n:Nat) (s:Nat->σ) (g:Nat->Option U) (e:β)
  (h:∀ i,i<n->(∀ j,j<i->g j=none)->f (s i)=some (j9z (g i) (s (i+1)))) (hend:(∀ j,j<n->g j=none)->f (s n)=some (.inr (.inr e))) :
  A2 f (s 0)=some (Q0 ((List.range n).findSome? g) e):=by
 have key:∀ k i,i+k=n->(∀ j,j<i->g j=none)->A2 f (s i)=some (Q0 ((List.range' i k).findSome? g) e):=by
  intro k
  induction k with
  | zero =>
   intro i hi hn;have:i=n:=by omega
   subst this;rw[D6 (hend hn)];rfl
  | succ k ih =>
   intro i hi hn
   have hs:=h i (by omega) hn
   rw[List.range'_succ,List.findSome?_cons]
   cases hg:g i with
   | some b=>rw[hg]at hs;rw[D6 hs];rfl
   | none =>
    rw[hg]at hs
    rw[H9 hs]
    refine ih (i+1) (by omega) fun j hj=>?_
    by_cases hji:j=i
    ·rw[hji];exact hg
    ·exact hn j (by omega)
 have:=key n 0 (by omega) (fun j hj=>by omega)
 rw[List.range_eq_range'];exact this
def e0:Edge:=(0,0,0,())
def v0:C1:=(0,0,(0,0,0,()),())
def frE (E:List Edge) (i:Nat):Int:=(E.getD i e0).1
def toE (E:List Edge) (i:Nat):Int:=(E.getD i e0).2.1
def poE (E:List Edge) (i:Nat):Int:=(E.getD i e0).2.2.1
def q1p (E:List Edge) (i:Nat):Bool:=(List.range i).any fun j=>toE E j==toE E i&&poE E j==poE E i
def F3 (N:List C1) (E:List Edge) (i:Nat):Int :=
 if frE E i<0\/(N.length:Int)<=frE E i\/toE E i<0\/(N.length:Int)<=toE E i then 8
 else if poE E i<0\/G7 (N.getD (toE E i).toNat v0)<=poE E i then 8
 else if q1p E i=true then 8
 else if V1 (N.getD (frE E i).toNat v0)=(N.getD (toE E i).toNat v0).2.1 then 0 else 7
theorem q7m {N:List C1} (hN:N.all D8=true) {i:Int} (h0:0<=i) (h1:i<N.length):D8 (N.getD i.toNat v0)=true:=by
 have hlt:i.toNat<N.length:=by omega
 rw[List.getD_eq_getElem?_getD,List.getElem?_eq_getElem hlt]
 exact List.all_eq_true.1 hN _ (List.getElem_mem hlt)
theorem y5o (N:List C1) {E:List Edge} (hE:E.length<=20) {i:Nat} (hi:i<E.length) :
  A2 (q8r ((N,E,()),(i:Int),()) (E.getD i e0)) ((0:Int),())=some (if q1p E i=true then .inl (8,())else .inr (.inl ())):=by
 have h:=U6 (f:=q8r ((N,E,()),(i:Int),()) (E.getD i e0)) i (fun j=>((j:Int),())) (fun j=>cond (toE E j==toE E i&&poE E j==poE E i) (some (8,())) none) (.inl ()) (fun j hj=>by
  unfold q8r
  simp only[dcT (show(j:Int)<(i:Int)by omega),cond_true,J0 e0 (Int.natCast_nonneg j) (show(j:Int)<(E.length:Int)by omega),Int.toNat_natCast,Option.bind_some]
  rw[B7 (by omega)]
  show(cond (toE E j==toE E i) _ _)=_
  cases h1:toE E j==toE E i with
  | false=>rfl
  | true =>
   show(cond (poE E j==poE E i) _ _)=_
   cases h2:poE E j==poE E i<;>rfl) (by
  unfold q8r
  simp only[dcF (show ¬ (i:Int)<(i:Int)by omega),cond_false]) rfl
 refine Eq.trans h ?_
 have:((List.range i).findSome? fun j=>cond (toE E j==toE E i&&poE E j==poE E i) (some ((8:Int),())) none)=if q1p E i=true then some (8,())else none:=by
  unfold q1p
  cases ha:(List.range i).any (fun j=>toE E j==toE E i&&poE E j==poE E i)with
  | true =>
   rw[if_pos rfl]
   obtain⟨j,hj,hb⟩:=List.any_eq_true.1 ha
   cases hf:(List.range i).findSome? fun j=>cond (toE E j==toE E i&&poE E j==poE E i) (some ((8:Int),())) none with
   | none =>
    have:=List.findSome?_eq_none_iff.1 hf j hj
    rw[hb]at this;cases this
   | some z =>
    obtain⟨l1,a,l2,_,h3,_⟩:=List.findSome?_eq_some_iff.1 hf
    cases hq:(toE E a==toE E i&&poE E a==poE E i)with
    | true=>rw[hq]at h3;exact h3.symm
    | false=>rw[hq]at h3;cases h3
  | false =>
   rw[if_neg (by simp)]
   refine List.findSome?_eq_none_iff.2 fun j hj=>?_
   have:=List.any_eq_false.1 ha j hj
   cases hq:(toE E j==toE E i&&poE E j==poE E i)with
   | true=>exact absurd hq this
   | false=>rfl
 rw[this]
 split<;>rfl
theorem v1h {N:List C1} {E:List Edge} (hN:N.all D8=true) (hE:E.length<=20) {i:Nat} (hi:i<E.length):z47 ((N,E,()),(i:Int),())=some (F3 N E i,()):=by
 unfold z47 F3
 simp only[J0 e0 (Int.natCast_nonneg i) (show(i:Int)<(E.length:Int)by omega),Int.toNat_natCast,Option.bind_some]
 show(cond (decide (frE E i<0)) _ (cond (decide (frE E i≥(N.length:Int))) _ (cond (decide (toE E i<0)) _ (cond (decide (toE E i≥(N.length:Int))) _ (cond (decide (poE E i<0)) _ ((A7 N (toE E i)).bind _))))))=_
 by_cases h1:frE E i<0
 ·simp[h1]
 by_cases h2:frE E i≥(N.length:Int)
 ·simp[h1,h2]
 by_cases h3:toE E i<0
 ·simp[h1,h2,h3]
 by_cases h4:toE E i≥(N.length:Int)
 ·simp[h1,h2,h3,h4]
 have hno:¬ (frE E i<0\/(N.length:Int)<=frE E i\/toE E i<0\/(N.length:Int)<=toE E i):=by omega
 simp only[dcF h1,dcF h2,dcF h3,dcF h4,cond_false,if_neg hno]
 by_cases h5:poE E i<0
 ·simp[h5]
 have hto:=J0 (l:=N) v0 (Int.not_lt.1 h3) (Int.not_le.1 h4)
 simp only[dcF h5,cond_false,hto,Option.bind_some,j7m]
 show(cond (decide (poE E i≥G7 (N.getD (toE E i).toNat v0))) _ _)=_
 by_cases h6:poE E i≥G7 (N.getD (toE E i).toNat v0)
 ·rw[dcT h6,cond_true,if_pos (.inr (by omega))]
 have hno2:¬ (poE E i<0\/G7 (N.getD (toE E i).toNat v0)<=poE E i):=by omega
 simp only[dcF h6,cond_false,if_neg hno2]
 rw[y5o N hE hi]
 by_cases h7:q1p E i=true
 ·simp[h7]
 simp only[h7,Option.bind_some]
 have hfr:=J0 (l:=N) v0 (Int.not_lt.1 h1) (Int.not_le.1 h2)
 show((A7 N (frE E i)).bind _)=_
 rw[hfr,Option.bind_some]
 have hout:=v0q (q7m hN (Int.not_lt.1 h1) (Int.not_le.1 h2))
 obtain⟨r,hr,hr2⟩:=Option.bind_eq_some_iff.1 hout
 rw[hr,Option.bind_some,hr2,Option.bind_some]
 show((A7 N (toE E i)).bind _)=_
 rw[hto,Option.bind_some]
 show(cond (V1 (N.getD (frE E i).toNat v0) != (N.getD (toE E i).toNat v0).2.1) _ _)=_
 rw[K2]
 split<;>rfl
abbrev tkT:Ty:=.cons (.int .i64) (.cons (.int .i64) .nil)
def N1 (E:List Edge):Nat->List ((Int×(Int×Unit))×Int)
 | 0=>[]
 | i+1=>B4 tkT (N1 E i) (toE E i,poE E i,()) (i:Int)
theorem j0z (E:List Edge) (t p:Int):∀ i,(B9 tkT (N1 E i) (t,p,())).isSome=(List.range i).any fun j=>toE E j==t&&poE E j==p
 | 0=>rfl
 | i+1=>by
  rw[List.range_succ,List.any_append,<-j0z E t p i]
  simp only[N1,List.any_cons,List.any_nil,Bool.or_false]
  by_cases h:((t,p,()):tkT.den)=(toE E i,poE E i,())
  ·have h1:toE E i=t:=by have:=congrArg (·.1) h;exact this.symm
   have h2:poE E i=p:=by have:=congrArg (·.2.1) h;exact this.symm
   rw[h,q4u rfl]
   simp[h1,h2]
  ·rw[q4t rfl _ _ _ _ h]
   have:(toE E i==t&&poE E i==p)=false:=by
    rw[Bool.and_eq_false_iff,beq_eq_false_iff_ne,beq_eq_false_iff_ne]
    by_cases h1:toE E i=t
    ·right;intro h2;exact h (by rw[h1,h2])
    ·exact .inl h1
   rw[this,Bool.or_false]
def toW (E:List Edge):Nat->Nat->Nat
 | 0,_=>0
 | i+1,a=>if(a:Int)=frE E i then toW E i a ||| 2^(toE E i).toNat else toW E i a
theorem y0g (E:List Edge) (a b:Nat):∀ i,(∀ j,j<i->0<=toE E j)->((toW E i a).testBit b=true↔∃ j,j<i/\frE E j=a/\toE E j=b)
 | 0,_=>by simp[toW]
 | i+1,h=>by
  have ih:=y0g E a b i (fun j hj=>h j (by omega))
  have hto:=h i (by omega)
  simp only[toW]
  constructor
  ·intro hb
   split at hb
   ·rename_i hf
    rw[Nat.testBit_or,Bool.or_eq_true]at hb
    rcases hb with hb | hb
    ·obtain⟨j,h1,h2⟩:=ih.1 hb;exact⟨j,by omega,h2⟩
    ·rw[Nat.testBit_two_pow,decide_eq_true_eq]at hb
     exact⟨i,by omega,hf.symm,by omega⟩
   ·obtain⟨j,h1,h2⟩:=ih.1 hb;exact⟨j,by omega,h2⟩
  ·rintro ⟨j,h1,h2,h3⟩
   by_cases hj:j=i
   ·subst hj
    rw[if_pos h2.symm,Nat.testBit_or,Nat.testBit_two_pow,decide_eq_true (by omega:(toE E j).toNat=b),Bool.or_true]
   ·have:=ih.2 ⟨j,by omega,h2,h3⟩
    split
    ·rw[Nat.testBit_or,this,Bool.true_or]
    ·exact this
theorem j14 {E:List Edge} {n:Nat} (a:Nat):∀ i,(∀ j,j<i->0<=toE E j/\toE E j<n)->toW E i a<2^n
 | 0,_=>Nat.two_pow_pos n
 | i+1,h=>by
  have ih:=j14 a i (fun j hj=>h j (by omega))
  have hto:=h i (by omega)
  simp only[toW]
  split
  ·exact Nat.or_lt_two_pow ih (Nat.pow_lt_pow_right (by decide) (by omega))
  ·exact ih
end

section
open Go Go.Abs

theorem q06 {N:List C1} {E:List Edge} {i:Nat} (h:F3 N E i=0):0<=frE E i/\frE E i<N.length/\0<=toE E i/\toE E i<N.length/\0<=poE E i/\poE E i<G7 (N.getD (toE E i).toNat v0)/\q1p E i=false /\
  V1 (N.getD (frE E i).toNat v0)=(N.getD (toE E i).toNat v0).2.1:=by
 unfold F3 at h
 split at h
 ·cases h
 ·rename_i h1
  split at h
  ·cases h
  ·rename_i h2
   split at h
   ·cases h
   ·rename_i h3
    split at h
    ·rename_i h4
     exact⟨by omega,by omega,by omega,by omega,by omega,by omega,by simpa using h3,h4⟩
    ·cases h
def q49 (N:List C1) (E:List Edge) (i:Nat):Option (List Int×(Int×Int×Unit)×List ((Int×(Int×Unit))×Int)×Unit) :=
 if F3 N E i=0 then none else some (cl (tab N.length (toW E i)),(F3 N E i,(i:Int),()),N1 E i,())
theorem y4q {N:List C1} {E:List Edge} (hn:N.length<=12) (hN:N.all D8=true) (hE:E.length<=20) :
  A2 (q6x ((N,E,()),())) ((0:Int),cl (tab N.length fun _=>0),((0:Int),(0:Int),()),([]:List ((Int×(Int×Unit))×Int)),()) =
   some (Q0 ((List.range E.length).findSome? (q49 N E)) (.inl (cl (tab N.length (toW E E.length)),((0:Int),(0:Int),()),N1 E E.length,()))):=by
 refine y7u (f:=q6x ((N,E,()),())) E.length (fun i=>((i:Int),cl (tab N.length (toW E i)),((0:Int),(0:Int),()),N1 E i,())) (q49 N E) _ (fun i hi hprev=>?_) (fun _=>?_)
 ·have hok:∀ j,j<i->F3 N E j=0:=fun j hj=>by
   have:=hprev j hj
   unfold q49 at this
   split at this
   ·assumption
   ·cases this
  have hw:∀ a,toW E i a<2^32:=fun a=>Nat.lt_of_lt_of_le (j14 a i fun j hj=>⟨(q06 (hok j hj)).2.2.1,(q06 (hok j hj)).2.2.2.1⟩) (Nat.pow_le_pow_right (by decide) (by omega))
  unfold q6x q49 F3
  simp only[dcT (show(i:Int)<(E.length:Int)by omega),cond_true,J0 e0 (Int.natCast_nonneg i) (show(i:Int)<(E.length:Int)by omega),Int.toNat_natCast,Option.bind_some]
  show(cond (decide ((if toE E i<frE E i then toE E i else frE E i)<0)) _ (cond (decide ((if toE E i>frE E i then toE E i else frE E i)≥(N.length:Int))) _ (cond (decide (poE E i<0)) _ ((A7 N (toE E i)).bind _))))=_
  by_cases h1:(if toE E i<frE E i then toE E i else frE E i)<0
  ·have hy:frE E i<0\/(N.length:Int)<=frE E i\/toE E i<0\/(N.length:Int)<=toE E i:=by split at h1<;>omega
   rw[dcT h1,cond_true,if_pos hy]
   rfl
  by_cases h2:(if toE E i>frE E i then toE E i else frE E i)≥(N.length:Int)
  ·have hy:frE E i<0\/(N.length:Int)<=frE E i\/toE E i<0\/(N.length:Int)<=toE E i:=by split at h2<;>omega
   rw[dcF h1,cond_false,dcT h2,cond_true,if_pos hy]
   rfl
  have hno:¬ (frE E i<0\/(N.length:Int)<=frE E i\/toE E i<0\/(N.length:Int)<=toE E i):=by
   split at h1<;>split at h2<;>omega
  have f0:0<=frE E i:=by omega
  have f1:frE E i<N.length:=by omega
  have t0:0<=toE E i:=by omega
  have t1:toE E i<N.length:=by omega
  rw[dcF h1,cond_false,dcF h2,cond_false]
  simp only[if_neg hno]
  by_cases h5:poE E i<0
  ·have hy:poE E i<0\/G7 (N.getD (toE E i).toNat v0)<=poE E i:=.inl h5
   rw[dcT h5,cond_true];simp only[if_pos hy];rfl
  have hto:=J0 (l:=N) v0 t0 t1
  rw[dcF h5,cond_false,hto,Option.bind_some,j4r,Option.bind_some]
  show(cond (decide (poE E i≥G7 (N.getD (toE E i).toNat v0))) _ _)=_
  by_cases h6:poE E i≥G7 (N.getD (toE E i).toNat v0)
  ·have hy:poE E i<0\/G7 (N.getD (toE E i).toNat v0)<=poE E i:=.inr h6
   rw[dcT h6,cond_true];simp only[if_pos hy];rfl
  have hno2:¬ (poE E i<0\/G7 (N.getD (toE E i).toNat v0)<=poE E i):=by omega
  rw[dcF h6,cond_false]
  simp only[if_neg hno2]
  have htk:(B9 tkT (N1 E i) (toE E i,poE E i,())).isSome=q1p E i:=j0z E _ _ i
  show(cond (B9 tkT (N1 E i) (toE E i,poE E i,())).isSome _ _)=_
  rw[htk]
  cases h7:q1p E i with
  | true=>rfl
  | false =>
   rw[cond_false]
   simp only[if_neg (show ¬ (false=true)by simp)]
   have hfr:=J0 (l:=N) v0 f0 f1
   show((A7 N (frE E i)).bind _)=_
   rw[hfr,Option.bind_some,y6u (q7m hN f0 f1),Option.bind_some]
   show((A7 N (toE E i)).bind _)=_
   rw[hto,Option.bind_some]
   show(cond (V1 (N.getD (frE E i).toNat v0) != (N.getD (toE E i).toNat v0).2.1) _ _)=_
   rw[K2]
   by_cases h8:V1 (N.getD (frE E i).toNat v0)=(N.getD (toE E i).toNat v0).2.1
   ·rw[if_pos h8]
    simp only[if_pos h8]
    obtain⟨a,ha⟩:=Int.eq_ofNat_of_zero_le f0
    obtain⟨b,hb⟩:=Int.eq_ofNat_of_zero_le t0
    have han:a<N.length:=by omega
    have hbn:b<N.length:=by omega
    have ha':(E.getD i e0).1=(a:Int):=ha
    have hb':(E.getD i e0).2.1=(b:Int):=hb
    have hg:(cl (tab N.length (toW E i)))[a]? = some ((toW E i a:Nat):Int):=by
     rw[z0v (by rw[K9];exact han),z0t han]
    simp only[ha',hb',z1n,K9,H7 han,cond_true,Int.toNat_natCast,hg,Option.bind_some,j03 (show b<32 by omega),q7t (hw a) (j17 (show b<32 by omega)),y51,q1h,B7 (show i<9223372036854775807 by omega)]
    have ht:(tab N.length fun j=>if j=a then toW E i a ||| 2^b else toW E i j)=tab N.length (toW E (i+1)):=J8 fun j hj=>?_
    ·rw[ht]
     show some (Sum.inl (((i+1:Nat):Int),cl (tab N.length (toW E (i+1))),((0:Int),(0:Int),()),B4 tkT (N1 E i) ((b:Int),poE E i,()) (i:Int),()))=some (Sum.inl (((i+1:Nat):Int),cl (tab N.length (toW E (i+1))),((0:Int),(0:Int),()),B4 tkT (N1 E i) (toE E i,poE E i,()) (i:Int),()))
     rw[hb]
    simp only[toW]
    by_cases hja:j=a
    ·subst hja;rw[if_pos rfl,if_pos ha.symm,hb];rfl
    ·rw[if_neg hja,if_neg (by omega)]
   ·rw[if_neg h8]
    simp only[if_neg h8]
    rfl
 ·unfold q6x
  simp only[dcF (show ¬ (E.length:Int)<(E.length:Int)by omega),cond_false]
end

section
open Go Go.Abs

theorem j7c (v:C1):G7 v=0\/G7 v=1\/G7 v=2:=by
 unfold G7
 by_cases h1:v.1=1
 ·exact .inl (if_pos h1)
 ·rw[if_neg h1]
  by_cases h3:v.1=3
  ·exact .inr (.inr (if_pos h3))
  ·exact .inr (.inl (if_neg h3))
theorem v0b (v:C1):0<=G7 v/\G7 v<=2:=by rcases j7c v with h | h | h<;>omega
def S2 (E:List Edge) (t p:Int):Bool:=(List.range E.length).any fun j=>toE E j==t&&poE E j==p
def S7 (N:List C1) (E:List Edge) (i:Nat):Bool:=(List.range (G7 (N.getD i v0)).toNat).any fun p=>!S2 E i p
theorem y4r (N:List C1) (E:List Edge) (a:List Int) (b:Int×Int×Unit) (i:Nat) (y:Int×Int×Unit) :
  A2 (q6y (G7 (N.getD i v0),()) (a,b,N1 E E.length,()) ((i:Int),y,())) ((0:Int),((0:Int),(0:Int),()),())=some (if S7 N E i=true then .inl (((5:Int),(i:Int),()),())else .inr (.inl (((0:Int),(0:Int),()),()))):=by
 have hp:0<=G7 (N.getD i v0)/\G7 (N.getD i v0)<=2:=v0b _
 have h:=U6 (f:=q6y (G7 (N.getD i v0),()) (a,b,N1 E E.length,()) ((i:Int),y,())) (G7 (N.getD i v0)).toNat (fun p=>((p:Int),((0:Int),(0:Int),()),())) (fun p=>cond (!S2 E i p) (some (((5:Int),(i:Int),()),())) none) (.inl (((0:Int),(0:Int),()),())) (fun p hpl=>by
  unfold q6y
  simp only[dcT (show(p:Int)<G7 (N.getD i v0)by omega),cond_true]
  rw[B7 (by omega)]
  have ht:(B9 tkT (N1 E E.length) ((i:Int),(p:Int),())).isSome=S2 E i p:=j0z E _ _ _
  show(cond (!(B9 tkT (N1 E E.length) ((i:Int),(p:Int),())).isSome) _ _)=_
  rw[ht]
  cases S2 E i p<;>rfl) (by
  unfold q6y
  simp only[dcF (show ¬ ((G7 (N.getD i v0)).toNat:Int)<G7 (N.getD i v0)by omega),cond_false]) rfl
 refine Eq.trans h ?_
 rw[j4a]
 show some (Q0 (if S7 N E i=true then _ else _) _)=_
 split<;>rfl
theorem y4s {N:List C1} (E:List Edge) (hn:N.length<=12) (a:List Int) (b:Int×Int×Unit) :
  A2 (q6z ((N,E,()),()) (a,b,N1 E E.length,())) ((0:Int),((0:Int),(0:Int),()),())=some (Q0 ((List.range N.length).findSome? fun i=>cond (S7 N E i) (some (((5:Int),(i:Int),()),())) none) (.inl (((0:Int),(0:Int),()),()))):=by
 refine U6 (f:=q6z ((N,E,()),()) (a,b,N1 E E.length,())) N.length (fun i=>((i:Int),((0:Int),(0:Int),()),())) (fun i=>cond (S7 N E i) (some (((5:Int),(i:Int),()),())) none) _ (fun i hi=>?_) ?_ rfl
 ·unfold q6z
  simp only[dcT (show(i:Int)<(N.length:Int)by omega),cond_true,J0 v0 (Int.natCast_nonneg i) (show(i:Int)<(N.length:Int)by omega),Int.toNat_natCast,Option.bind_some,j4r,y4r]
  rw[B7 (by omega)]
  cases S7 N E i<;>rfl
 ·unfold q6z
  simp only[dcF (show ¬ (N.length:Int)<(N.length:Int)by omega),cond_false]
theorem j32 {p:Nat->Bool}:∀ (m:Nat),(∀ j k,j<m->k<m->p j=true->p k=true->j=k)->H3 m p=if(List.range m).any p=true then 1 else 0
 | 0,_=>rfl
 | m+1,h=>by
  have ih:=j32 m (fun j k hj hk=>h j k (by omega) (by omega))
  rw[List.range_succ,List.any_append]
  simp only[H3,ih,List.any_cons,List.any_nil,Bool.or_false]
  cases hpm:p m with
  | false=>simp
  | true =>
   have hno:(List.range m).any p=false:=by
    rw[List.any_eq_false]
    intro j hj hpj
    have:=h j m (by have:=List.mem_range.1 hj;omega) (by omega) hpj hpm
    have:=List.mem_range.1 hj
    omega
   rw[hno];simp
theorem j33 {p q r:Nat->Bool}:∀ (m:Nat),(∀ j,j<m->p j=(q j||r j)/\(q j&&r j)=false)->H3 m p=H3 m q+H3 m r
 | 0,_=>rfl
 | m+1,h=>by
  have ih:=j33 m (fun j hj=>h j (by omega))
  obtain⟨h1,h2⟩:=h m (by omega)
  simp only[H3,ih,h1]
  cases hq:q m<;>cases hr:r m<;>rw[hq,hr]at h2<;>simp at h2 ⊢<;>omega
theorem y8m {N:List C1} {E:List Edge} (hok:∀ j,j<E.length->F3 N E j=0) (i:Nat) :
  decide (((H3 E.length fun j=>toE E j==(i:Int):Nat):Int)<G7 (N.getD i v0))=S7 N E i:=by
 have hval:∀ j,j<E.length->toE E j=i->0<=poE E j/\poE E j<G7 (N.getD i v0):=fun j hj ht=>by
  have h:=q06 (hok j hj)
  rw[ht,Int.toNat_natCast]at h
  exact⟨h.2.2.2.2.1,h.2.2.2.2.2.1⟩
 have huniq:∀ t p:Int,∀ j k,j<E.length->k<E.length->(toE E j==t&&poE E j==p)=true->(toE E k==t&&poE E k==p)=true->j=k:=fun t p j k hj hk h1 h2=>by
  simp only[Bool.and_eq_true,beq_iff_eq]at h1 h2
  have key:∀ j k,j<k->k<E.length->toE E j=toE E k->poE E j=poE E k->False:=fun j k hjk hk ht hp=>by
   have h:=(q06 (hok k hk)).2.2.2.2.2.2.1
   unfold q1p at h
   have:=List.any_eq_false.1 h j (List.mem_range.2 hjk)
   simp[ht,hp]at this
  rcases Nat.lt_trichotomy j k with h | h | h
  ·exact(key j k h hk (h1.1.trans h2.1.symm) (h1.2.trans h2.2.symm)).elim
  ·exact h
  ·exact(key k j h hj (h2.1.trans h1.1.symm) (h2.2.trans h1.2.symm)).elim
 have hc:∀ p:Int,H3 E.length (fun j=>toE E j==(i:Int)&&poE E j==p)=if S2 E i p=true then 1 else 0:=fun p=>j32 _ (huniq i p)
 have hp:G7 (N.getD i v0)=0\/G7 (N.getD i v0)=1\/G7 (N.getD i v0)=2:=j7c _
 unfold S7
 rcases hp with hp | hp | hp
 ·rw[hp]
  simp
 ·rw[hp]at hval ⊢
  have:H3 E.length (fun j=>toE E j==(i:Int))=H3 E.length fun j=>toE E j==(i:Int)&&poE E j==0:=by
   refine j30 fun j hj=>?_
   by_cases ht:toE E j=i
   ·have:=hval j hj ht
    have:poE E j=0:=by omega
    simp[ht,this]
   ·simp[ht]
  rw[this,hc 0]
  have e1:(List.range (1:Int).toNat).any (fun p:Nat=>!S2 E i p)=!S2 E i 0:=by
   show(List.range 1).any _=_
   simp[List.range_succ]
  rw[e1]
  cases S2 E i 0<;>simp
 ·rw[hp]at hval ⊢
  have:H3 E.length (fun j=>toE E j==(i:Int))=H3 E.length (fun j=>toE E j==(i:Int)&&poE E j==0)+H3 E.length fun j=>toE E j==(i:Int)&&poE E j==1:=by
   refine j33 _ fun j hj=>?_
   by_cases ht:toE E j=i
   ·have:=hval j hj ht
    have:poE E j=0\/poE E j=1:=by omega
    rcases this with h | h<;>simp[ht,h]
   ·have:(toE E j==(i:Int))=false:=by simpa using ht
    simp[this]
  rw[this,hc 0,hc 1]
  have e2:(List.range (2:Int).toNat).any (fun p:Nat=>!S2 E i p)=(!S2 E i 0||!S2 E i 1):=by
   show(List.range 2).any _=_
   simp[List.range_succ]
  rw[e2]
  cases S2 E i 0<;>cases S2 E i 1<;>simp
end

section
open Go Go.Abs

def M1 (T:Nat->Nat) (w:Nat) (a b:Nat):Bool:=(T a).testBit b&&w.testBit b
def unN (T:Nat->Nat) (w v:Nat):Nat->Nat
 | 0=>0
 | r+1=>if v.testBit r=true then unN T w v r ||| (T r &&& w)else unN T w v r
theorem y0q (T:Nat->Nat) (w v b:Nat):∀ r,(unN T w v r).testBit b=true↔∃ j,j<r/\v.testBit j=true/\M1 T w j b=true
 | 0=>by simp[unN]
 | r+1=>by
  have ih:=y0q T w v b r
  simp only[unN]
  constructor
  ·intro h
   split at h
   ·rename_i hv
    rw[Nat.testBit_or,Bool.or_eq_true,Nat.testBit_and]at h
    rcases h with h | h
    ·obtain⟨j,h1,h2⟩:=ih.1 h;exact⟨j,by omega,h2⟩
    ·exact⟨r,by omega,hv,h⟩
   ·obtain⟨j,h1,h2⟩:=ih.1 h;exact⟨j,by omega,h2⟩
  ·rintro ⟨j,h1,h2,h3⟩
   by_cases hj:j=r
   ·subst hj
    rw[if_pos h2,Nat.testBit_or,Nat.testBit_and,Bool.or_eq_true];exact .inr h3
   ·have:=ih.2 ⟨j,by omega,h2,h3⟩
    split
    ·rw[Nat.testBit_or,this,Bool.true_or]
    ·exact this
theorem z5i {T:Nat->Nat} {w v n:Nat} (hw:w<2^n):∀ r,unN T w v r<2^n
 | 0=>Nat.two_pow_pos n
 | r+1=>by
  simp only[unN]
  split
  ·exact Nat.or_lt_two_pow (z5i hw r) (Nat.lt_of_le_of_lt Nat.and_le_right hw)
  ·exact z5i hw r
theorem L8 {n a:Nat} (hn:n<=12) (h:a<2^n):a<2^32:=Nat.lt_of_lt_of_le h (Nat.pow_le_pow_right (by decide) (by omega))
theorem y4u {n:Nat} (hn:n<=12) {T:Nat->Nat} (hT:∀ a,T a<2^n) {w v:Nat} (hw:w<2^n) (hv:v<2^n) (b:Int×Int×Unit) :
  A2 (q70 (b,cl (tab n T),()) (((w:Int),()),())) ((v:Int),((0:Int),()),())=some (.inl ((((unN T w v n:Nat):Int),()),())):=by
 refine z96 (f:=q70 (b,cl (tab n T),()) (((w:Int),()),())) n (fun r=>((((unN T w v r:Nat):Int),()),())) _ hv (by omega) (fun r q hq hb hr=>?_) (fun r hr hb=>?_) ?_
 ·unfold q70
  simp only[z2c r q,cond_true,z5h hq,Option.bind_some,z1n,K9,H7 hr,Int.toNat_natCast]
  rw[z0v (by rw[K9];exact hr),z0t hr,Option.bind_some,z03 hq,q9s (L8 hn (hT r)) (L8 hn hw),q7t (L8 hn (z5i hw r)) (L8 hn (Nat.lt_of_le_of_lt Nat.and_le_right hw))]
  simp only[unN,if_pos hb]
 ·simp only[unN,hb];simp
 ·unfold q70
  rfl
theorem j31 {p q:Nat->Bool}:∀ (m:Nat),(∀ j,j<m->p j=true->q j=true)->H3 m p<=H3 m q
 | 0,_=>Nat.le_refl _
 | m+1,h=>by
  have ih:=j31 m (fun j hj=>h j (by omega))
  have:=h m (by omega)
  simp only[H3]
  cases hp:p m<;>cases hq:q m<;>simp<;>first | omega | (rw[this hp]at hq;cases hq)
theorem z6r {p q:Nat->Bool}:∀ (m:Nat),(∀ j,j<m->p j=true->q j=true)->(∃ j,j<m/\p j=false/\q j=true)->H3 m p<H3 m q
 | 0,_,⟨_,h,_⟩=>by omega
 | m+1,h,⟨j,hj,h1,h2⟩=>by
  have hm:=j31 m (fun j hj=>h j (by omega))
  have:=h m (by omega)
  simp only[H3]
  by_cases hjm:j=m
  ·subst hjm;rw[h1,h2];simp;omega
  ·have:=z6r m (fun j hj=>h j (by omega)) ⟨j,by omega,h1,h2⟩
   cases hp:p m<;>cases hq:q m<;>simp<;>first | omega | (rw[h m (by omega) hp]at hq;cases hq)
noncomputable def T6 (T:Nat->Nat) (w n i:Nat):Nat:=O2 n fun j=>@decide (Way (M1 T w) i j) (Classical.propDecidable _)
theorem q69 (T:Nat->Nat) (w n i:Nat):T6 T w n i<2^n:=j1b n _
theorem q68 {T:Nat->Nat} {w n i j:Nat} (hw:w<2^n):(T6 T w n i).testBit j=true↔Way (M1 T w) i j:=by
 unfold T6
 rw[y1a,Bool.and_eq_true,decide_eq_true_eq]
 refine⟨fun h=>@of_decide_eq_true _ (Classical.propDecidable _) h.2,fun h=>⟨?_,@decide_eq_true _ (Classical.propDecidable _) h⟩⟩
 cases h with
 | one h=>exact q0v hw (Bool.and_eq_true_iff.1 h).2
 | more _ h=>exact q0v hw (Bool.and_eq_true_iff.1 h).2
theorem y4v {n:Nat} (hn:n<=12) {T:Nat->Nat} (hT:∀ a,T a<2^n) {w:Nat} (hw:w<2^n) (b:Int×Int×Unit) (i:Nat):∀ (k all next:Nat),all<2^n->next<2^n->n<=H3 n (fun j=>all.testBit j)+k ->
  (∀ j,all.testBit j=true\/next.testBit j=true->Way (M1 T w) i j)->(∀ j,M1 T w i j=true->all.testBit j=true\/next.testBit j=true) ->
  (∀ a j,all.testBit a=true->M1 T w a j=true->all.testBit j=true\/next.testBit j=true)->(∀ j,next.testBit j=true->all.testBit j=false) ->
  A2 (q24 (b,cl (tab n T),()) (((w:Int),()),())) ((all:Int),(next:Int),())=some (.inl (((T6 T w n i:Nat):Int),())):=by
 intro k
 induction k with
 | zero =>
  intro all next ha hx hk h1 h2 h3 h4
  have hz:next=0:=by
   refine j1c (k:=n) hx (Nat.two_pow_pos n) fun j hj=>?_
   rw[Nat.zero_testBit]
   cases hb:next.testBit j with
   | false=>rfl
   | true =>
    exfalso
    have h5:=h4 j hb
    have h6:=z6r (p:=fun j=>all.testBit j) (q:=fun _=>true) n (fun _ _ _=>rfl) ⟨j,hj,h5,rfl⟩
    have h7:=z6q (fun _=>true) n
    omega
  subst hz
  refine D6 ?_
  unfold q24
  show some (Sum.inr (Sum.inl ((all:Int),())))=_
  have:all=T6 T w n i:=by
   refine j1c (k:=n) ha (q69 T w n i) fun j hj=>?_
   rw[Bool.eq_iff_iff,q68 hw]
   refine⟨fun h=>h1 j (.inl h),fun h=>?_⟩
   induction h with
   | one h=>exact(h2 _ h).resolve_right (by simp)
   | more _ h ih =>
    have hlt:∀ {c d},M1 T w c d=true->d<n:=fun h=>q0v hw (Bool.and_eq_true_iff.1 h).2
    rename_i c d hcd
    have hc:c<n:=by
     cases hcd with
     | one h=>exact hlt h
     | more _ h=>exact hlt h
    exact(h3 _ _ (ih hc) h).resolve_right (by simp)
  rw[this]
 | succ k ih =>
  intro all next ha hx hk h1 h2 h3 h4
  by_cases hz:next=0
  ·subst hz
   refine D6 ?_
   unfold q24
   show some (Sum.inr (Sum.inl ((all:Int),())))=_
   have:all=T6 T w n i:=by
    refine j1c (k:=n) ha (q69 T w n i) fun j hj=>?_
    rw[Bool.eq_iff_iff,q68 hw]
    refine⟨fun h=>h1 j (.inl h),fun h=>?_⟩
    induction h with
    | one h=>exact(h2 _ h).resolve_right (by simp)
    | more _ h ih =>
     have hlt:∀ {c d},M1 T w c d=true->d<n:=fun h=>q0v hw (Bool.and_eq_true_iff.1 h).2
     rename_i c d hcd
     have hc:c<n:=by
      cases hcd with
      | one h=>exact hlt h
      | more _ h=>exact hlt h
     exact(h3 _ _ (ih hc) h).resolve_right (by simp)
   rw[this]
  ·have hor:all ||| next<2^n:=Nat.or_lt_two_pow ha hx
   have hun:=z5i (T:=T) (v:=next) hw n
   have hstep:q24 (b,cl (tab n T),()) (((w:Int),()),()) ((all:Int),(next:Int),())=some (.inl (((all ||| next:Nat):Int),((dif (unN T w next n) (all ||| next):Nat):Int),())):=by
    unfold q24
    have hne:((next:Int) != 0)=true:=by rw[bne_iff_ne];omega
    simp only[hne,cond_true,q5y (z1r (L8 hn hx)),y4u hn hT hw hx,Option.bind_some,Sum.elim_inl]
    rw[q7t (L8 hn ha) (L8 hn hx),y8y (L8 hn hun) (L8 hn hor)]
   rw[H9 hstep]
   have hob:∀ j,(all ||| next).testBit j=true↔all.testBit j=true\/next.testBit j=true:=fun j=>by rw[Nat.testBit_or,Bool.or_eq_true]
   have hun':∀ j,(unN T w next n).testBit j=true↔∃ a,next.testBit a=true/\M1 T w a j=true:=fun j=>by
    rw[y0q]
    exact⟨fun ⟨a,_,h⟩=>⟨a,h⟩,fun ⟨a,h⟩=>⟨a,q0v hx h.1,h⟩⟩
   have hd:∀ j,(dif (unN T w next n) (all ||| next)).testBit j=true↔(unN T w next n).testBit j=true/\(all ||| next).testBit j=false:=fun j=>by rw[j3a,Bool.and_eq_true,Bool.not_eq_true']
   refine ih (all ||| next) _ hor (j3b hun) ?_ (fun j hj=>?_) (fun j hj=>?_) (fun a j haa hs=>?_) (fun j hj=>((hd j).1 hj).2)
   ·obtain⟨j,hj⟩:=Nat.exists_testBit_of_ne_zero hz
    have:=z6r (p:=fun j=>all.testBit j) (q:=fun j=>(all ||| next).testBit j) n (fun j _ h=>(hob j).2 (.inl h)) ⟨j,q0v hx hj,h4 j hj,(hob j).2 (.inr hj)⟩
    omega
   ·rcases hj with hj | hj
    ·exact h1 j ((hob j).1 hj)
    ·obtain⟨a,ha1,ha2⟩:=(hun' j).1 ((hd j).1 hj).1
     exact .more (h1 a (.inr ha1)) ha2
   ·exact .inl ((hob j).2 (h2 j hj))
   ·rcases (hob a).1 haa with haa | haa
    ·exact .inl ((hob j).2 (h3 a j haa hs))
    ·cases hq:(all ||| next).testBit j with
     | true=>exact .inl rfl
     | false=>exact .inr ((hd j).2 ⟨(hun' j).2 ⟨a,haa,hs⟩,hq⟩)
theorem j2q {n:Nat} (hn:n<=12) {T:Nat->Nat} (hT:∀ a,T a<2^n) {w:Nat} (hw:w<2^n) (b:Int×Int×Unit) (i:Nat) :
  A2 (q24 (b,cl (tab n T),()) (((w:Int),()),())) ((0:Int),((T i &&& w:Nat):Int),())=some (.inl (((T6 T w n i:Nat):Int),())):=by
 have hx:T i &&& w<2^n:=Nat.lt_of_le_of_lt Nat.and_le_right hw
 refine y4v hn hT hw b i n 0 (T i &&& w) (Nat.two_pow_pos n) hx (by omega) (fun j hj=>?_) (fun j hj=>?_) (fun a j ha=>by simp at ha) (fun j _=>Nat.zero_testBit j)
 ·rcases hj with hj | hj
  ·simp at hj
  ·rw[Nat.testBit_and]at hj;exact .one hj
 ·exact .inr (by rw[Nat.testBit_and];exact hj)
theorem y7h:j4q=q24:=rfl
end

section
open Go Go.Abs

def T4 (p:Nat->Bool) (v b0:Nat):Nat->Nat
 | 0=>b0
 | r+1=>if v.testBit r=true/\p r=true then T4 p v b0 r ||| 2^r else T4 p v b0 r
theorem q9q {p:Nat->Bool} {v b0 n:Nat} (h0:b0<2^n):∀ r,r<=n->T4 p v b0 r<2^n
 | 0,_=>h0
 | r+1,hr=>by
  simp only[T4]
  split
  ·exact Nat.or_lt_two_pow (q9q h0 r (by omega)) (Nat.pow_lt_pow_right (by decide) (by omega))
  ·exact q9q h0 r (by omega)
theorem j1n {p:Nat->Bool} {v b0 j:Nat}:∀ r,(T4 p v b0 r).testBit j=true↔b0.testBit j=true\/(j<r/\v.testBit j=true/\p j=true)
 | 0=>by simp[T4]
 | r+1=>by
  have ih:=j1n (p:=p) (v:=v) (b0:=b0) (j:=j) r
  simp only[T4]
  by_cases h:v.testBit r=true/\p r=true
  ·rw[if_pos h,Nat.testBit_or,Bool.or_eq_true,ih,Nat.testBit_two_pow,decide_eq_true_eq]
   constructor
   ·rintro ((h1 | ⟨h1,h2⟩) | rfl)
    ·exact .inl h1
    ·exact .inr ⟨by omega,h2⟩
    ·exact .inr ⟨by omega,h⟩
   ·rintro (h1 | ⟨h1,h2⟩)
    ·exact .inl (.inl h1)
    ·by_cases hj:r=j
     ·exact .inr hj
     ·exact .inl (.inr ⟨by omega,h2⟩)
  ·rw[if_neg h,ih]
   constructor
   ·rintro (h1 | ⟨h1,h2⟩)
    ·exact .inl h1
    ·exact .inr ⟨by omega,h2⟩
   ·rintro (h1 | ⟨h1,h2⟩)
    ·exact .inl h1
    ·refine .inr ⟨?_,h2⟩
     have:j≠r:=fun e=>h (e▸h2)
     omega
section
variable {n:Nat} {T:Nat->Nat}
theorem y4m (hn:n<=12) (hT:∀ a,T a<2^n) {w:Nat} (hw:w<2^n) (b:Int×Int×Unit) {i v b0:Nat} (hv:v<2^n) (hb0:b0<2^n) :
  A2 (q6u (b,cl (tab n T),()) (((w:Int),()),()) ((i:Int),())) ((v:Int),((b0:Int),()),())=some (.inl ((((T4 (fun j=>(T6 T w n j).testBit i) v b0 n:Nat):Int),()),())):=by
 refine z96 (f:=q6u (b,cl (tab n T),()) (((w:Int),()),()) ((i:Int),())) n (fun r=>((((T4 (fun j=>(T6 T w n j).testBit i) v b0 r:Nat):Int),()),())) _ hv (by omega) (fun r q hq hb hr=>?_) (fun r hr hb=>?_) ?_
 ·unfold q6u
  simp only[z2c r q,cond_true,z5h hq,Option.bind_some,z1n,K9,H7 hr,Int.toNat_natCast]
  rw[z0v (by rw[K9];exact hr),z0t hr,Option.bind_some,q9s (L8 hn (hT r)) (L8 hn hw),y7h,j2q hn hT hw,Option.bind_some,Sum.elim_inl,v4i i (L8 hn (q69 T w n r)),Option.bind_some]
  simp only[z03 hq,T4,hb,true_and]
  cases hh:(T6 T w n r).testBit i with
  | false=>simp
  | true =>
   simp only[cond_true,j03 (show r<32 by omega),Option.bind_some,if_true]
   rw[q7t (L8 hn (q9q hb0 r (by omega))) (j17 (by omega))]
 ·simp[T4,hb]
 ·unfold q6u
  rfl
noncomputable def S8 (T:Nat->Nat) (w n:Nat) (D:Nat->Bool) (b0:Nat):Nat->Nat
 | 0=>b0
 | i+1=>if w.testBit i=true/\D i=true then T4 (fun j=>(T6 T w n j).testBit i) (T6 T w n i) (S8 T w n D b0 i) n else S8 T w n D b0 i
theorem z4d {w:Nat} {D:Nat->Bool} {b0:Nat} (h0:b0<2^n):∀ i,S8 T w n D b0 i<2^n
 | 0=>h0
 | i+1=>by
  simp only[S8]
  split
  ·exact q9q (z4d h0 i) n (Nat.le_refl _)
  ·exact z4d h0 i
theorem j7w {w:Nat} {D:Nat->Bool} {b0 j:Nat} (hw:w<2^n):∀ m,(S8 T w n D b0 m).testBit j=true↔b0.testBit j=true\/∃ i,i<m/\w.testBit i=true/\D i=true/\Way (M1 T w) i j/\Way (M1 T w) j i
 | 0=>by simp[S8]
 | i+1=>by
  have ih:=j7w (D:=D) (b0:=b0) (j:=j) hw i
  simp only[S8]
  by_cases h:w.testBit i=true/\D i=true
  ·rw[if_pos h,j1n,ih,q68 hw,q68 hw]
   constructor
   ·rintro ((h1 | ⟨a,h1,h2⟩) | ⟨h1,h2,h3⟩)
    ·exact .inl h1
    ·exact .inr ⟨a,by omega,h2⟩
    ·exact .inr ⟨i,by omega,h.1,h.2,h2,h3⟩
   ·rintro (h1 | ⟨a,h1,h2,h3,h4,h5⟩)
    ·exact .inl (.inl h1)
    ·by_cases ha:a=i
     ·subst ha
      exact .inr ⟨q0v (q69 T w n a) ((q68 hw).2 h4),h4,h5⟩
     ·exact .inl (.inr ⟨a,by omega,h2,h3,h4,h5⟩)
  ·rw[if_neg h,ih]
   constructor
   ·rintro (h1 | ⟨a,h1,h2⟩)
    ·exact .inl h1
    ·exact .inr ⟨a,by omega,h2⟩
   ·rintro (h1 | ⟨a,h1,h2,h3,h4⟩)
    ·exact .inl h1
    ·have:a≠i:=fun e=>h (e▸⟨h2,h3⟩)
     exact .inr ⟨a,by omega,h2,h3,h4⟩
end
def G9 (N:List C1) (i:Nat):Int:=(N.getD i v0).2.1
def q4n (N:List C1) (i:Nat):Int:=(N.getD i v0).1
theorem y4n {N:List C1} (E:List Edge) (hn:N.length<=12) {T:Nat->Nat} (hT:∀ a,T a<2^N.length) {w:Nat} (hw:w<2^N.length) (b:Int×Int×Unit) (f:Int) (y:(Int×Unit)×Unit) {b0:Nat} (hb0:b0<2^N.length) :
  A2 (q6v ((N,E,()),()) ((f,()),y) (b,cl (tab N.length T),()) (((w:Int),()),())) ((w:Int),((b0:Int),()),())=some (.inl ((((S8 T w N.length (fun i=>G9 N i==f) b0 N.length:Nat):Int),()),())):=by
 refine z96 (f:=q6v ((N,E,()),()) ((f,()),y) (b,cl (tab N.length T),()) (((w:Int),()),())) N.length (fun r=>((((S8 T w N.length (fun i=>G9 N i==f) b0 r:Nat):Int),()),())) _ hw (by omega) (fun r q hq hb hr=>?_) (fun r hr hb=>?_) ?_
 ·unfold q6v
  simp only[z2c r q,cond_true,z5h hq,Option.bind_some,J0 v0 (Int.natCast_nonneg r) (show(r:Int)<(N.length:Int)by omega),Int.toNat_natCast]
  show(cond (G9 N r != f) _ _)=_
  rw[K2]
  by_cases hd:G9 N r=f
  ·rw[if_pos hd]
   simp only[z1n,K9,H7 hr,cond_true]
   have hbl:=q69 T w N.length r
   rw[z0v (by rw[K9];exact hr),z0t hr,Option.bind_some,q9s (L8 hn (hT r)) (L8 hn hw),j2q hn hT hw,Option.bind_some,Sum.elim_inl,q5y (z1r (L8 hn hbl)),y4m hn hT hw b hbl (z4d hb0 r),Option.bind_some,Sum.elim_inl,Option.bind_some,Sum.elim_inl,z03 hq]
   simp[S8,hb,hd]
  ·rw[if_neg hd,z03 hq]
   simp[S8,hb,hd]
 ·simp[S8,hb]
 ·unfold q6v
  rfl
def I6 (N:List C1) (f:Nat) (i:Nat):Bool:=decide ((f:Int)<G9 N i)||(G9 N i==(f:Int)&&q4n N i != 6)
def M5 (N:List C1) (f:Nat):Nat:=O2 N.length (I6 N f)
theorem y4t {N:List C1} (E:List Edge) (hn:N.length<=12) (f:Nat) (y:(Int×Unit)×Unit) :
  A2 (z1a ((N,E,()),()) (((f:Int),()),y)) ((0:Int),((0:Int),()),())=some (.inl ((((M5 N f:Nat):Int),()),())):=by
 refine F6 N.length (fun i=>((i:Int),((((O2 i (I6 N f):Nat):Int)),()),())) _ (fun i hi=>?_) ?_ rfl
 ·unfold z1a
  have hw:O2 i (I6 N f)<2^32:=v6j _ (by omega)
  simp only[dcT (show(i:Int)<(N.length:Int)by omega),cond_true,J0 v0 (Int.natCast_nonneg i) (show(i:Int)<(N.length:Int)by omega),Int.toNat_natCast,Option.bind_some,j03 (show i<32 by omega),q7t hw (j17 (show i<32 by omega)),B7 (show i<9223372036854775807 by omega),v6k]
  show(cond (decide (G9 N i>(f:Int))) _ (cond (G9 N i==(f:Int)) (cond (q4n N i != 6) _ _) _))=_
  have hins:I6 N f i=(decide (G9 N i>(f:Int))||(G9 N i==(f:Int)&&q4n N i != 6)):=rfl
  rw[hins]
  cases decide (G9 N i>(f:Int))<;>cases G9 N i==(f:Int)<;>cases q4n N i != 6<;>rfl
 ·unfold z1a
  simp only[dcF (show ¬ (N.length:Int)<(N.length:Int)by omega),cond_false]
  rfl
noncomputable def q0u (N:List C1) (T:Nat->Nat):Nat->Nat
 | 0=>0
 | f+1=>S8 T (M5 N (f+1)) N.length (fun i=>G9 N i==((f+1:Nat):Int)) (q0u N T f) N.length
theorem z8w (N:List C1) (f:Nat):M5 N f<2^N.length:=j1b _ _
theorem z6c (N:List C1) (T:Nat->Nat):∀ f,q0u N T f<2^N.length
 | 0=>Nat.two_pow_pos _
 | f+1=>z4d (z6c N T f) _
theorem j27 (N:List C1) (T:Nat->Nat) (j:Nat):∀ m,(q0u N T m).testBit j=true↔∃ f i,1<=f/\f<=m/\i<N.length/\(M5 N f).testBit i=true/\G9 N i=(f:Int)/\Way (M1 T (M5 N f)) i j/\Way (M1 T (M5 N f)) j i
 | 0=>by simp[q0u];intro f h;omega
 | m+1=>by
  simp only[q0u]
  rw[j7w (z8w N (m+1)),j27 N T j m]
  constructor
  ·rintro (⟨f,i,h1,h2,h⟩ | ⟨i,h1,h2,h3,h⟩)
   ·exact⟨f,i,h1,by omega,h⟩
   ·exact⟨m+1,i,by omega,by omega,h1,h2,by simpa using h3,h⟩
  ·rintro ⟨f,i,h1,h2,h3,h4,h5,h⟩
   by_cases hf:f=m+1
   ·subst hf;exact .inr ⟨i,h3,h4,by simpa using h5,h⟩
   ·exact .inl ⟨f,i,h1,by omega,h3,h4,h5,h⟩
theorem y4o {N:List C1} (E:List Edge) (hn:N.length<=12) {T:Nat->Nat} (hT:∀ a,T a<2^N.length) (b:Int×Int×Unit) :
  A2 (z18 ((N,E,()),()) (b,cl (tab N.length T),())) (((1:Int),()),((0:Int),()),())=some (.inl ((((q0u N T 4:Nat):Int),()),())):=by
 refine F6 4 (fun f=>((((f+1:Nat):Int),()),((((q0u N T f:Nat):Int)),()),())) _ (fun f hf=>?_) ?_ rfl
 ·unfold z18
  simp only[dcT (show((f+1:Nat):Int)<=4 by omega),cond_true,y4t E hn (f+1),Option.bind_some,Sum.elim_inl,q5y (z1r (L8 hn (z8w N (f+1))))]
  rw[y4n E hn hT (z8w N (f+1)) b _ _ (z6c N T f),Option.bind_some,Sum.elim_inl,Option.bind_some,Sum.elim_inl,B7 (by omega)]
  rfl
 ·unfold z18
  rfl
theorem y4p {n:Nat} (hn:n<=12) {v:Nat} (hv:v<2^n):A2 q6w ((v:Int),((0:Int),()),())=some (((List.range n).findSome? fun j=>if v.testBit j=true then some (Sum.inl (((j:Int),()),()))else none).getD (.inr (.inl (((0:Int),()),())))):=by
 refine y7t (f:=q6w) n (fun _=>(((0:Int),()),())) (fun j=>some (Sum.inl (((j:Int),()),()))) _ hv (by omega) (fun r q hq hb hr=>?_) (fun _ _ _=>rfl) ?_
 ·unfold q6w
  simp only[z2c r q,cond_true,z5h hq,Option.bind_some]
 ·unfold q6w
  rfl
end

section
open Go Go.Abs

def edM (N:List C1) (E:List Edge) (f k:Nat) (a b:Nat):Bool:=I6 N f a&&I6 N f b&&(List.range k).any fun j=>frE E j==(a:Int)&&toE E j==(b:Int)
def sqT (n:Nat) (w:Nat->Nat->Bool):List Bool:=tab (n*n) fun y=>w (y / n) (y % n)
theorem j9w {n i j:Nat} (hj:j<n):(i*n+j) / n=i:=by rw[Nat.mul_comm,Nat.mul_add_div (by omega),Nat.div_eq_of_lt hj];rfl
theorem j9x {n i j:Nat} (hj:j<n):(i*n+j) % n=j:=by rw[Nat.mul_comm,Nat.mul_add_mod,Nat.mod_eq_of_lt hj]
theorem j0q {n i j:Nat} {w:Nat->Nat->Bool} (hi:i<n) (hj:j<n):(sqT n w)[i*n+j]? = some (w i j):=by
 unfold sqT
 rw[S9 _ (q3r hi hj),j9w hj,j9x hj]
theorem v4u {n:Nat} {w:Nat->Nat->Bool}:(sqT n w).length=n*n:=T0 _ _
theorem v4w {n:Nat} (hn:n<=12):IntKind.i64.wrap ((n:Int)*(n:Int))=((n*n:Nat):Int):=by
 have h:n*n<=12*12:=Nat.mul_le_mul hn hn
 rw[<-Int.natCast_mul,E7 (by omega) (by omega)]
theorem j7x {n:Nat} (h:n<=1000000):B2 n 1=true:=by
 unfold B2
 rw[Bool.and_eq_true]
 exact⟨Nat.ble_eq_true_of_le (by omega),Nat.ble_eq_true_of_le (by omega)⟩
section
variable {N:List C1} {E:List Edge}
theorem y5c (hn:N.length<=12) (f:Nat):A2 (z41 ((N,E,()),(f:Int),())) ((0:Int),List.replicate N.length false,())=some (.inl (tab N.length (I6 N f),())):=by
 have h0:List.replicate N.length false=tab N.length fun j=>if j<0 then I6 N f j else false:=by rw[q3k];exact J8 fun j _=>by simp
 rw[h0]
 have hend:(tab N.length fun j=>if j<N.length then I6 N f j else false)=tab N.length (I6 N f):=J8 fun j hj=>by rw[if_pos hj]
 rw[<-hend]
 refine F6 N.length (fun i=>((i:Int),(tab N.length fun j=>if j<i then I6 N f j else false),())) _ (fun i hi=>?_) ?_ rfl
 ·unfold z41
  have hset:∀ b:Bool,b=I6 N f i->(tab N.length fun j=>if j<i then I6 N f j else false).set i b=tab N.length fun j=>if j<i+1 then I6 N f j else false:=fun b hb=>by
   rw[q1h]
   refine J8 fun j _=>?_
   by_cases hj:j=i
   ·subst hj;rw[if_pos rfl,if_pos (by omega),hb]
   ·rw[if_neg hj]
    by_cases h:j<i
    ·rw[if_pos h,if_pos (by omega)]
    ·rw[if_neg h,if_neg (by omega)]
  simp only[dcT (show(i:Int)<(N.length:Int)by omega),cond_true,J0 v0 (Int.natCast_nonneg i) (show(i:Int)<(N.length:Int)by omega),Int.toNat_natCast,Option.bind_some,K9,H7 hi,S9 _ hi,B7 (show i<9223372036854775807 by omega)]
  show(cond (decide (G9 N i>(f:Int))) _ (cond (G9 N i==(f:Int)) _ _))=_
  have hins:I6 N f i=(decide (G9 N i>(f:Int))||(G9 N i==(f:Int)&&q4n N i != 6)):=rfl
  cases h1:decide (G9 N i>(f:Int))with
  | true=>rw[h1]at hins;rw[cond_true,hset true hins.symm]
  | false =>
   rw[h1]at hins
   rw[cond_false]
   cases h2:G9 N i==(f:Int)with
   | true =>
    rw[h2]at hins
    rw[cond_true]
    show some (Sum.inl (((i+1:Nat):Int),(tab N.length fun j=>if j<i then I6 N f j else false).set i (q4n N i != 6),()))=_
    rw[hset _ (by rw[hins];rfl)]
   | false=>rw[h2]at hins;rw[cond_false,hset false hins.symm]
 ·unfold z41
  simp only[dcF (show ¬ (N.length:Int)<(N.length:Int)by omega),cond_false]
theorem y5d (hn:N.length<=12) (hE:E.length<=20) (hok:∀ j,j<E.length->F3 N E j=0) (f:Nat) :
  A2 (z42 ((N,E,()),(f:Int),()) (tab N.length (I6 N f),())) ((0:Int),List.replicate (N.length*N.length) false,())=some (.inl (sqT N.length (edM N E f E.length),())):=by
 have h0:List.replicate (N.length*N.length) false=sqT N.length (edM N E f 0):=by
  rw[q3k];exact J8 fun j _=>by simp[edM]
 rw[h0]
 refine F6 E.length (fun i=>((i:Int),sqT N.length (edM N E f i),())) _ (fun i hi=>?_) ?_ rfl
 ·have hv:=q06 (hok i hi)
  obtain⟨a,ha⟩:=Int.eq_ofNat_of_zero_le hv.1
  obtain⟨b,hb⟩:=Int.eq_ofNat_of_zero_le hv.2.2.1
  have han:a<N.length:=by have:=hv.2.1;omega
  have hbn:b<N.length:=by have:=hv.2.2.2.1;omega
  have ha':(E.getD i e0).1=(a:Int):=ha
  have hb':(E.getD i e0).2.1=(b:Int):=hb
  have hsame:(I6 N f a&&I6 N f b)=false->sqT N.length (edM N E f i)=sqT N.length (edM N E f (i+1)):=fun h=>J8 fun y _=>by
   unfold edM
   rw[List.range_succ,List.any_append,List.any_cons,List.any_nil,Bool.or_false]
   show _=(_&&_&&(_||(frE E i==_&&toE E i==_)))
   rw[ha,hb]
   by_cases hy:((a:Nat):Int)=((y / N.length:Nat):Int)/\((b:Nat):Int)=((y % N.length:Nat):Int)
   ·have h1:a=y / N.length:=Int.ofNat.inj hy.1
    have h2:b=y % N.length:=Int.ofNat.inj hy.2
    rw[<-h1,<-h2,h];simp
   ·have:((((a:Nat):Int)==((y / N.length:Nat):Int))&&(((b:Nat):Int)==((y % N.length:Nat):Int)))=false:=by
     cases hq:((((a:Nat):Int)==((y / N.length:Nat):Int))&&(((b:Nat):Int)==((y % N.length:Nat):Int)))with
     | false=>rfl
     | true=>simp only[Bool.and_eq_true,beq_iff_eq]at hq;exact absurd hq hy
    rw[this,Bool.or_false]
  have hset:(I6 N f a&&I6 N f b)=true->(sqT N.length (edM N E f i)).set (a*N.length+b) true=sqT N.length (edM N E f (i+1)):=fun h=>by
   unfold sqT
   rw[q1h]
   refine J8 fun y hy=>?_
   unfold edM
   rw[List.range_succ,List.any_append,List.any_cons,List.any_nil,Bool.or_false]
   show _=(_&&_&&(_||(frE E i==_&&toE E i==_)))
   rw[ha,hb]
   by_cases hyy:y=a*N.length+b
   ·subst hyy
    rw[if_pos rfl,j9w hbn,j9x hbn,h];simp
   ·rw[if_neg hyy]
    have:((((a:Nat):Int)==((y / N.length:Nat):Int))&&(((b:Nat):Int)==((y % N.length:Nat):Int)))=false:=by
     cases hq:((((a:Nat):Int)==((y / N.length:Nat):Int))&&(((b:Nat):Int)==((y % N.length:Nat):Int)))with
     | false=>rfl
     | true =>
      simp only[Bool.and_eq_true,beq_iff_eq]at hq
      exfalso
      have h1:a=y / N.length:=Int.ofNat.inj hq.1
      have h2:b=y % N.length:=Int.ofNat.inj hq.2
      have:=Nat.div_add_mod y N.length
      rw[<-h1,<-h2,Nat.mul_comm]at this
      exact hyy this.symm
    rw[this,Bool.or_false]
  unfold z42
  simp only[dcT (show(i:Int)<(E.length:Int)by omega),cond_true,J0 e0 (Int.natCast_nonneg i) (show(i:Int)<(E.length:Int)by omega),Int.toNat_natCast,Option.bind_some,ha',hb',K9,H7 han,H7 hbn,S9 _ han,S9 _ hbn,q5l (show N.length<=64 by omega) han hbn,v4u,H7 (q3r han hbn),j0q han hbn,B7 (show i<9223372036854775807 by omega)]
  cases h1:I6 N f a with
  | false=>rw[cond_false,hsame (by rw[h1];rfl)]
  | true =>
   rw[cond_true]
   cases h2:I6 N f b with
   | false=>rw[cond_false,hsame (by rw[h1,h2];rfl)]
   | true=>rw[cond_true,hset (by rw[h1,h2];rfl)]
 ·unfold z42
  simp only[dcF (show ¬ (E.length:Int)<(E.length:Int)by omega),cond_false]
def fwL (w:Nat->Nat->Bool) (n k x:Nat):List Bool:=tab (n*n) (Q3 w n k x)
theorem y6o {w:Nat->Nat->Bool} {n k x:Nat}:(fwL w n k x).length=n*n:=T0 _ _
theorem z8l {w:Nat->Nat->Bool} {n k x i j:Nat} (hi:i<n) (hj:j<n):(fwL w n k x)[i*n+j]? = some (Q3 w n k x (i*n+j)):=S9 _ (q3r hi hj)
theorem y6p (w:Nat->Nat->Bool) (n k:Nat):sqT n w=fwL w n k 0:=J8 fun y _=>by simp[Q3]
theorem y6n (w:Nat->Nat->Bool) (n k:Nat):fwL w n k (n*n)=sqT n (fwR w k):=J8 fun y hy=>by simp[Q3,hy]
theorem y5e (hn:N.length<=12) (f:Nat) (w:Nat->Nat->Bool) {k i:Nat} (hk:k<N.length) (hi:i<N.length) (y1 y2:List Bool×Unit) :
  A2 (z44 ((N,E,()),(f:Int),()) ((i:Int),y1) ((k:Int),y2)) ((0:Int),fwL w N.length k (i*N.length),())=some (.inl (fwL w N.length k ((i+1)*N.length),())):=by
 have hend:(i+1)*N.length=i*N.length+N.length:=by rw[Nat.add_mul,Nat.one_mul]
 rw[hend]
 refine F6 N.length (fun j=>((j:Int),fwL w N.length k (i*N.length+j),())) _ (fun j hj=>?_) ?_ rfl
 ·have hn64:N.length<=64:=by omega
  have hset:∀ b:Bool,b=fwR w k i j->(fwL w N.length k (i*N.length+j)).set (i*N.length+j) b=fwL w N.length k (i*N.length+(j+1)):=fun b hb=>by
   unfold fwL
   rw[q1h]
   exact J8 fun y _=>by rw[j4j hj,hb]
  have hsame:w i j=fwR w k i j->fwL w N.length k (i*N.length+j)=fwL w N.length k (i*N.length+(j+1)):=fun h=>J8 fun y _=>by
   rw[j4j hj]
   split
   ·rename_i hy;rw[hy,y6l hj,h]
   ·rfl
  unfold z44
  simp only[dcT (show(j:Int)<(N.length:Int)by omega),cond_true,q5l hn64 hi hk,q5l hn64 hk hj,q5l hn64 hi hj,y6o,H7 (q3r hi hk),H7 (q3r hk hj),H7 (q3r hi hj),Int.toNat_natCast,z8l hi hk,z8l hk hj,z8l hi hj,y6k hk,y6m hj,Option.bind_some,B7 (show j<9223372036854775807 by omega)]
  cases h1:w i k with
  | false=>rw[cond_false,hsame (by simp[fwR,h1])]
  | true =>
   rw[cond_true]
   cases h2:w k j with
   | false=>rw[cond_false,hsame (by simp[fwR,h1,h2])]
   | true=>rw[cond_true,hset true (by simp[fwR,h1,h2])]
 ·unfold z44
  simp only[dcF (show ¬ (N.length:Int)<(N.length:Int)by omega),cond_false]
theorem y5f (hn:N.length<=12) (f:Nat) (w:Nat->Nat->Bool) {k:Nat} (hk:k<N.length) (y:List Bool×Unit) :
  A2 (z45 ((N,E,()),(f:Int),()) ((k:Int),y)) ((0:Int),sqT N.length w,())=some (.inl (sqT N.length (fwR w k),())):=by
 rw[y6p w N.length k,<-y6n]
 refine F6 N.length (fun i=>((i:Int),fwL w N.length k (i*N.length),())) _ (fun i hi=>?_) ?_ (by simp)
 ·unfold z45
  simp only[dcT (show(i:Int)<(N.length:Int)by omega),cond_true,y5e hn f w hk hi,Option.bind_some,Sum.elim_inl,B7 (show i<9223372036854775807 by omega)]
 ·unfold z45
  simp only[dcF (show ¬ (N.length:Int)<(N.length:Int)by omega),cond_false]
theorem v1g (hn:N.length<=12) (hE:E.length<=20) (hok:∀ j,j<E.length->F3 N E j=0) (f:Nat) :
  z3z ((N,E,()),(f:Int),())=some (sqT N.length (fwN (edM N E f E.length) N.length),()):=by
 have hnn:N.length*N.length<=12*12:=Nat.mul_le_mul hn hn
 unfold z3z
 simp only[v4w hn,Int.toNat_natCast]
 rw[dcT (show(0:Int)<=((N.length*N.length:Nat):Int)by omega),dcT (show((N.length*N.length:Nat):Int)<=((N.length*N.length:Nat):Int)by omega),j7x (by omega),dcT (show((N.length*N.length:Nat):Int)<=9223372036854775807 by omega),
  dcT (show(0:Int)<=(N.length:Int)by omega),dcT (show(N.length:Int)<=(N.length:Int)by omega),j7x (show N.length<=1000000 by omega),dcT (show(N.length:Int)<=9223372036854775807 by omega)]
 simp only[Bool.and_self,cond_true,y5c hn f,Option.bind_some,Sum.elim_inl,y5d hn hE hok f]
 have h5:A2 (z46 ((N,E,()),(f:Int),())) ((0:Int),sqT N.length (edM N E f E.length),())=some (.inl (sqT N.length (fwN (edM N E f E.length) N.length),())):=by
  refine F6 N.length (fun k=>((k:Int),sqT N.length (fwN (edM N E f E.length) k),())) _ (fun k hk=>?_) ?_ rfl
  ·unfold z46
   simp only[dcT (show(k:Int)<(N.length:Int)by omega),cond_true,y5f hn f _ hk,Option.bind_some,Sum.elim_inl,B7 (show k<9223372036854775807 by omega)]
   rfl
  ·unfold z46
   simp only[dcF (show ¬ (N.length:Int)<(N.length:Int)by omega),cond_false]
 rw[h5]
 rfl
end
end

end Go.Proofs.Tryz
