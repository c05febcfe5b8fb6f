/- Lemmas on functions of the program, by name. -/
import Derived.Test.YtecofmaegcibeaaGreatDoorPQFuns
import Derived.Test.YtecofmaegcibeaaGreatDoorAbsSums
import Derived.Test.YtecofmaegcibeaaGreatDoorPQLemmasPostPlays2
import Derived.Test.YtecofmaegcibeaaGreatDoorPQLemmasPostPlays1
namespace Go.Proofs.Tryz
section
open Go Go.Abs

section
variable {N:List B5} {E:List Edge}
theorem z4w {N:List B5} {E:List Edge} (h:(X2 N E).1=0):X2 N E=(0,0,())/\N.length<=12/\E.length<=20/\N.all D5=true/\(∀j,j<E.length->F5 N E j=0)/\∀j,j<N.length->q0q N E j=false:=by
 unfold X2 at h ⊢;by_cases c:12<N.length\/20<E.length
 ·grind
 cases a:(List.range N.length).find? λi=>!D5 (N.getD i v0)with
 | some i=>grind
 | none =>
  cases b:(List.range E.length).find? λi=>F5 N E i != 0 with
  | some i =>
   grind
  | none =>
   grind[z9u]
end
end

section
open Go Go.Abs

end

section
open Go Go.Abs

end

section
open Go Go.Abs

end

section
open Go Go.Abs

def sq {α:Type} (n:Nat) (G:Nat->Nat->α):List α:=tab (n*n) λp=>G (p / n) (p % n)
variable {α:Type}
theorem j5b (n:Nat) (G:Nat->Nat->α):(sq n G).length=n*n:=E8 ..
variable {a:Nat} {b:Nat} {n:Nat}
theorem q91 (ha:a<n) (hb:b<n):a*n+b<n*n:=by
 have:(a+1)*n<=n*n:=aJ n ha;rw[cP]at this;omega
theorem q90 (hb:b<n):(a*n+b) / n=a:=by
 rw[bG,dE (by omega),cm hb];rfl
theorem q92 (hb:b<n):(a*n+b) % n=b:=by
 rw[bG,dd,bN hb]
theorem z4y {p:Nat} (hp:p<n*n):p / n<n/\p % n<n/\p / n*n+p % n=p:=by
 have hn:0<n:=dG λh=>by rw[h]at hp;simp at hp
 exact⟨dv hp,dH _ hn,Nat.div_add_mod' p n⟩
theorem q7j (hn:n<=16):n*n<=256:=du hn hn
theorem q4z (ha:a<n) (hb:b<n) (hn:n<=16):IntKind.i64.wrap (IntKind.i64.wrap ((a:Int)*(n:Int))+(b:Int))=((a*n+b:Nat):Int):=by
 have h1:=q91 ha hb;have h2:=q7j hn;have e:(a:Int)*(n:Int)=((a*n:Nat):Int):=by simp
 rw[e,F6 (x:=((a*n:Nat):Int)) (by omega) (by omega),F6 (by omega) (by omega)];rfl
theorem z8u (hn:n<=16):IntKind.i64.wrap ((n:Int)*(n:Int))=((n*n:Nat):Int):=by
 have h2:=q7j hn;have e:(n:Int)*(n:Int)=((n*n:Nat):Int):=by simp
 rw[e,F6 (by omega) (by omega)]
theorem z8s (G:Nat->Nat->α) (ha:a<n) (hb:b<n):(sq n G)[a*n+b]? = some (G a b):=by
 unfold sq;rw[H7 _ (q91 ha hb),q90 hb,q92 hb]
theorem z8t (G:Nat->Nat->α) (ha:a<n) (hb:b<n):A5 (sq n G) ((a*n+b:Nat):Int)=some (G a b):=by rw[X1,z8s G ha hb]
theorem j5a {G G':Nat->Nat->α} (h:∀a b,a<n->b<n->G a b=G' a b):sq n G=sq n G' :=
 M3 λp hp=>h _ _ (z4y hp).1 (z4y hp).2.1
theorem y7f (G:Nat->Nat->α) (ha:a<n) (hb:b<n) (v:α):(sq n G).set (a*n+b) v=sq n λa' b'=>if a'=a/\b'=b then v else G a' b':=by
 unfold sq;rw[q1v];refine M3 λp hp=>?_;have h:=z4y hp;by_cases e:p=a*n+b
 ·subst e;rw[if_pos rfl,q90 hb,q92 hb];exact(if_pos ⟨rfl,rfl⟩).symm
 ·rw[if_neg e];refine(if_neg ?_).symm;rintro ⟨h1,h2⟩;rw[h1,h2]at h;exact e h.2.2.symm
theorem y4h (n:Nat) (v:α):List.replicate (n*n) v=sq n λ_ _=>v:=q0o ..
theorem z4x (ha:a<n) (hb:b<n):inB ((a*n+b:Nat):Int) (n*n)=true:=C3 (q91 ha hb)
end

section
open Go Go.Abs

def B0 (N:List B5) (a:Nat):Nat:=(N.getD a v0).2.1.toNat
def S8 (v:B5):Sm:=if v.1=4 then(v.2.1,0,[0],())else if v.1=5 then(v.2.1-1,0,[],())else if v.1=6 then(v.2.1,1,[],())else(v.2.1,0,[],())
def B3 (N:List B5) (a:Nat):Sm:=S8 (N.getD a v0)
def edN (E:List Edge):List (Nat×Nat):=E.map λe=>(e.1.toNat,e.2.1.toNat)
variable {v:B5}
theorem v5g (h:D5 v=true):q8w (v,())=some (S8 v,0,()):=by
 have a:=q3p h;grind[q8w,S8,y09,F6]
theorem k09 (h:D5 v=true):q3x (v,())=some (S8 v,()):=by
 have a:=q3p h;grind[q3x,S8,F6]
theorem y7s (h:D5 v=true):wfS (S8 v)/\kN (S8 v)<=v.2.1.toNat/\oN (S8 v)<=4/\oN (S8 v)=(q0i v).toNat/\∀i,pN (S8 v) i=0\/(pN (S8 v) i=1/\i+1=v.2.1.toNat/\kN (S8 v)=v.2.1.toNat/\oN (S8 v)=v.2.1.toNat):=by
 have e:=of_decide_eq_true h;obtain⟨k,d,p,⟨⟩⟩:=v;obtain⟨n,j,f,m,o,g,l⟩:=e;simp at n j f m o g l;unfold S8 q0i wfS kN oN pN;by_cases a:k=4
 ·simp[if_pos a,ai,aq];grind[plc]
 ·by_cases b:k=5
  ·simp only[if_neg a,if_pos b,aq];refine⟨by omega,by omega,by omega,by rfl,λi=>.inl ?_⟩;unfold plc;simp_all
  ·by_cases c:k=6
   ·simp[if_neg a,if_neg b,if_pos c,aq];grind[plc,kN]
   ·simp[if_neg a,if_neg b,if_neg c,aq];grind[plc]
abbrev JbI:=Int×Int×Sm×Unit
noncomputable def z1x (N:List B5):(List JbI×Int×Unit)->Option ((List JbI×Int×Unit)⊕((List JbI×Unit)⊕Empty)):=λy2 =>
 (cond (decide (y2.2.1<(N.length:Int))) ((A5 N y2.2.1).bind λv3=>(cond (true&&A8 (y2.1.length+([(y2.2.1,y2.2.1,(v3.2.1,(0:Int),([]:(List Int)),()),())]).length) 56&&true&&true) (some (Sum.inl ((y2.1++[(y2.2.1,y2.2.1,(v3.2.1,(0:Int),([]:(List Int)),()),())]),(IntKind.i64.wrap (y2.2.1+(1:Int))),()))) none)) (some (Sum.inr (Sum.inl (y2.1,())))))
noncomputable def z1y (N:List B5) (E:List Edge) (v6:JbI):(List JbI×Int×Unit)->Option ((List JbI×Int×Unit)⊕((List JbI×Unit)⊕Empty)):=λy11 =>
 (cond (decide (y11.2.1<(E.length:Int))) ((A5 E y11.2.1).bind λv12=>(cond (v12.1 != v6.2.1) (some (Sum.inl (y11.1,(IntKind.i64.wrap (y11.2.1+(1:Int))),()))) ((A5 N v6.2.1).bind λv13=>((q8w (v13,())).bind λr14=>((q5m (v6.2.2.1,r14.1,())).bind λr15=>(cond (r15.2.1==(0:Int)) (cond (true&&A8 (y11.1.length+([(v6.1,v12.2.1,r15.1,())]).length) 56&&true&&true) (some (Sum.inl ((y11.1++[(v6.1,v12.2.1,r15.1,())]),(IntKind.i64.wrap (y11.2.1+(1:Int))),()))) none) (some (Sum.inl (y11.1,(IntKind.i64.wrap (y11.2.1+(1:Int))),()))))))))) (some (Sum.inr (Sum.inl (y11.1,())))))
theorem U0:∀p:List Nat,E5 p p=true
 | []=>rfl
 | a::p=>by unfold E5;rw[cT,U0 p];rfl
noncomputable def q7l (N:List B5) (E:List Edge):(List JbI×List (List Sm)×Unit)->Option ((List JbI×List (List Sm)×Unit)⊕((List (List Sm)×Unit)⊕Empty)):=λy6 =>
 (cond (decide ((y6.1.length:Int)>(0:Int))) (cond (inB (0:Int) y6.1.length) ((y6.1[(0:Int).toNat]?).bind λv7=>(cond (true&&decide (0<=(1:Int))&&decide ((1:Int)<=y6.1.length)) (cond (true&&inB (IntKind.i64.wrap ((IntKind.i64.wrap (v7.1*(N.length:Int)))+v7.2.1)) (y6.2.1.length)) ((y6.2.1[(IntKind.i64.wrap ((IntKind.i64.wrap (v7.1*(N.length:Int)))+v7.2.1)).toNat]?).bind λv8=>((z00 (v8,v7.2.2.1,())).bind λr9=>(cond r9.1 ((y6.2.1[(IntKind.i64.wrap ((IntKind.i64.wrap (v7.1*(N.length:Int)))+v7.2.1)).toNat]?).bind λv10=>(some (Sum.inl ((y6.1.drop (1:Int).toNat),(y6.2.1.set ((IntKind.i64.wrap ((IntKind.i64.wrap (v7.1*(N.length:Int)))+v7.2.1)).toNat) v8),())))) (cond (E5 [(IntKind.i64.wrap ((IntKind.i64.wrap (v7.1*(N.length:Int)))+v7.2.1)).toNat] [(IntKind.i64.wrap ((IntKind.i64.wrap (v7.1*(N.length:Int)))+v7.2.1)).toNat]&&true) ((y6.2.1[(IntKind.i64.wrap ((IntKind.i64.wrap (v7.1*(N.length:Int)))+v7.2.1)).toNat]?).bind λv11=>(cond (true&&A8 (v8.length+([v7.2.2.1]).length) 40&&true&&true) ((z28 ((v8++[v7.2.2.1]),())).bind λr12=>((y6.2.1[(IntKind.i64.wrap ((IntKind.i64.wrap (v7.1*(N.length:Int)))+v7.2.1)).toNat]?).bind λv13=>(cond ([([(IntKind.i64.wrap ((IntKind.i64.wrap (v7.1*(N.length:Int)))+v7.2.1)).toNat],1098)].all λq=>E5 q.1 [(IntKind.i64.wrap ((IntKind.i64.wrap (v7.1*(N.length:Int)))+v7.2.1)).toNat]) ((y6.2.1[(IntKind.i64.wrap ((IntKind.i64.wrap (v7.1*(N.length:Int)))+v7.2.1)).toNat]?).bind λv14=>((A1 (z1y N E v7) ((y6.1.drop (1:Int).toNat),(0:Int),())).bind (Sum.elim (λz30=>(some (Sum.inl (z30.1,(y6.2.1.set ((IntKind.i64.wrap ((IntKind.i64.wrap (v7.1*(N.length:Int)))+v7.2.1)).toNat) r12.1),())))) Empty.elim))) none))) none)) none)))) none) none)) none) (some (Sum.inr (Sum.inl (y6.2.1,())))))
variable {s:Sm}
section
variable {N:List B5} {E:List Edge}
theorem j0s (a:∀j,j<E.length->F5 N E j=0):∀e∈E,e.1=((e.1.toNat:Nat):Int)/\e.1.toNat<N.length/\e.2.1=((e.2.1.toNat:Nat):Int)/\e.2.1.toNat<N.length/\q0i (N.getD e.1.toNat v0)=(N.getD e.2.1.toNat v0).2.1:=by
 intro e b;obtain⟨j,c,rfl⟩:=bl.1 b;have h:=q15 (a j c);grind[frE,toE]
theorem z5q (c:N.all D5=true) {a:Nat} (b:a<N.length):D5 (N.getD a v0)=true:=by
 grind
theorem z4o (l:N.length<=12) (g:N.all D5=true) (f:∀j,j<E.length->F5 N E j=0):GR N.length (B0 N) (B3 N) (edN E):=by
 refine⟨l,λa c=>?_,λa c=>?_,λa b d=>?_⟩
 ·have:=q3p (z5q g c);grind[B0]
 ·obtain⟨n,k,i,t,m⟩:=y7s (z5q g c);exact⟨n,k,i,m⟩
 ·obtain⟨e,d,h⟩:=aW.1 d;obtain⟨q,r,s,o,p⟩:=j0s f e d;grind[y7s,B3,B0]
theorem j0q (b:N.all D5=true) {a:Nat} (c:a<N.length):(N.getD a v0).2.1=((B0 N a:Nat):Int):=by
 have:=q3p (z5q b c);grind[B0]
def I8 (j:Jb):JbI:=((j.1:Int),(j.2.1:Int),j.2.2,())
theorem v68 {l:List Sm} (f:∀r∈l,okS r) (hs:okS s) (d:l.length<=10000000):z00 (l,s,())=some (l.any λr=>leS r s,()):=by
 have b:A1 (j45 (l,s,())) ((0:Int),())=some (if(List.range l.length).any (λi=>leS (l.getD i (0,0,[],())) s)=true then .inl (true,())else .inr (.inl ())):=by
  refine q0h l.length () _ _ _ (λi a=>?_) ?_
  all_goals grind[j45,C6,y7w,B2]
 have e:(List.range l.length).any (λi=>leS (l.getD i (0,0,[],())) s)=l.any λr=>leS r s:=by
  rw[ci,bQ,bQ];constructor
  ·grind
  ·rintro ⟨r,c,h⟩;obtain⟨i,a,rfl⟩:=bl.1 c;exact⟨i,aL.2 a,by grind⟩
 grind[z00]
theorem v5s (c:N.length<=12) (a:N.all D5=true):A1 (z1x N) (([]:List JbI),(0:Int),())=some (.inl (((List.range N.length).map λu=>(u,u,idS (B0 N u))).map I8,())):=by
 refine D3 N.length (λi=>(((List.range i).map λu=>(u,u,idS (B0 N u))).map I8,(i:Int),())) _ (λi b=>?_) ?_ rfl
 ·have d:(((List.range i).map λu=>(u,u,idS (B0 N u))).map I8).length=i:=by simp
  rw[cF,bC,bC];unfold z1x;simp (disch:=omega) only [dcT,cond_true,K7 v0 (aZ i) (show(i:Int)<(N.length:Int)by omega),ah,aa,ai,aq,D4,aI,B2,j0q a b];rfl
 grind[z1x]
theorem v4i (g:GR N.length (B0 N) (B3 N) (edN E)) (r:N.all D5=true) (B:E.length<=20) (c:∀j,j<E.length->F5 N E j=0) {u v:Nat} (e:v<N.length) (hs:bx s) (k:oN s=B0 N v) {J:List JbI} (y:J.length<=1000000000) :
  A1 (z1y N E (I8 (u,v,s))) (J,(0:Int),())=some (.inl (J++(U8 (B3 N) (edN E) u v s).map I8,())):=by
 have m:bx (B3 N v):=g.bxS e;have l:kN (B3 N v)<=oN s:=by rw[k];exact(g.s0 v e).2.1
 have b:∀i,((U8 (B3 N) (edN (E.take i)) u v s).map I8).length<=i:=λi=>by
  grind[U8,edN]
 have q:A1 (z1y N E (I8 (u,v,s))) (J,(0:Int),())=some (.inl (J++(U8 (B3 N) (edN (E.take E.length)) u v s).map I8,())):=by
  refine D3 E.length (λi=>(J++(U8 (B3 N) (edN (E.take i)) u v s).map I8,(i:Int),())) _ (λi d=>?_) ?_ ?_
  ·have f:=b i;obtain⟨w,x,z,t,A⟩:=j0s c _ (ay d);have a:(U8 (B3 N) (edN (E.take (i+1))) u v s).map I8=(U8 (B3 N) (edN (E.take i)) u v s).map I8++(if E[i].1=(v:Int)then [I8 (u,E[i].2.1.toNat,cS s (B3 N v))]else []):=by
    rw[aw d];grind[U8,edN]
   rw[a,<-aS];have p:(J++(U8 (B3 N) (edN (E.take i)) u v s).map I8).length<=1000000000+20:=by grind
   unfold z1y;simp (disch:=omega) only [dcT,cond_true,C6 d,aa,O0,B2];show(if E[i].1=(v:Int)then _ else _)=_
   by_cases h:E[i].1=(v:Int)
   ·have o:A5 N (I8 (u,v,s)).2.1=some (N.getD v v0):=by
     show A5 N (v:Int)=_;rw[K7 v0 (aZ v) (show(v:Int)<(N.length:Int)by omega),ah]
    have n:q5m ((I8 (u,v,s)).2.2.1,S8 (N.getD v v0),())=some (cS s (B3 N v),0,()):=k47 hs m l;grind[v5g,D4,I8]
   grind
  all_goals grind[z1y]
 grind
theorem k1l (g:GR N.length (B0 N) (B3 N) (edN E)) (A:N.all D5=true) (G:E.length<=20) (t:∀j,j<E.length->F5 N E j=0) {P:Tb} {u v:Nat} {J:List Jb} (h:PI N.length (B0 N) (B3 N) (edN E) P ((u,v,s)::J)) (I:J.length<=1000000000) :
  q7l N E (((u,v,s)::J).map I8,sq N.length P,())=some (.inl (if(P u v).any (λr=>leS r s)=true then(J.map I8,sq N.length P,())else((J++U8 (B3 N) (edN E) u v s).map I8,sq N.length (S6 P u v s),()))):=by
 obtain⟨f,e,m,k⟩:=h.jbx g _ ar;have H:=g.n12;have a:∀x∈P u v,bx x:=λx o=>(h.gen u v x o).2;have F:=q33 (h.an u v) a;have b:IntKind.i64.wrap (IntKind.i64.wrap ((u:Int)*(N.length:Int))+(v:Int))=((u*N.length+v:Nat):Int):=q4z f e (by omega);have c:(sq N.length P).set (u*N.length+v) (P u v)=sq N.length P:=by
  grind[y7f,j5a]
 have n:(sq N.length P).set (u*N.length+v) (Q6 (P u v++[s]))=sq N.length (S6 P u v s):=by
  rw[y7f P f e];rfl
 have K:=k44 (l:=P u v++[s]) (by grind) (λx o=>(aQ.1 o).elim (λq=>(a x q).ok) λq=>by rw[ck.1 q];exact m.ok);have y:=v68 (l:=P u v) (s:=s) (λr D=>(a r D).ok) m.ok (by omega);have z:=v4i g A G t (u:=u) e m k.o (J:=J.map I8) (by grind);unfold q7l;have B:(((u,v,s)::J).map I8)[(0:Int).toNat]? = some (I8 (u,v,s)):=rfl;have C:((((u,v,s)::J).map I8).drop (1:Int).toNat)=J.map I8:=rfl;have d:(((u,v,s)::J).map I8).length=J.length+1:=by simp
 have p:inB (0:Int) (J.length+1)=true:=C3 (i:=0) (by omega);simp[d,d0,p,d1,d2,B,C,cond_true,aa,aD,cK];have w:IntKind.i64.wrap (IntKind.i64.wrap ((I8 (u,v,s)).1*(N.length:Int))+(I8 (u,v,s)).2.1)=((u*N.length+v:Nat):Int):=b;simp only[w,j5b,z4x f e,cond_true,ah,z8s P f e,aa,c,show(I8 (u,v,s)).2.2.1=s from rfl,y];grind[D4,U0]
theorem j4m (g:GR N.length (B0 N) (B3 N) (edN E)) (c:N.all D5=true) (f:E.length<=20) (a:∀j,j<E.length->F5 N E j=0):∀(m:Nat),m<=1000000000->∀(P:Tb) (J:List Jb),PI N.length (B0 N) (B3 N) (edN E) P J->21*(22276800-q25 N.length P)+J.length<=m ->
  ∃k:Tb,PI N.length (B0 N) (B3 N) (edN E) k []/\A1 (q7l N E) (J.map I8,sq N.length P,())=some (.inl (sq N.length k,()))
 | m,i,P,[],h,e=>by
  grind[D9,q7l]
 | 0,i,P,j::J,h,e=>by grind
 | m+1,i,P,(u,v,s)::J,h,e=>by
  rw[ai]at e;rw[H4 (k1l g c f a h (by omega))];by_cases b:(P u v).any (λr=>leS r s)=true
  ·rw[if_pos b];exact j4m g c f a m (by omega) P J (h.known (bQ.1 b)) (by omega)
  ·rw[if_neg b];have d:¬∃y∈P u v,leS y s=true:=λq=>b (bQ.2 q);obtain⟨l,o⟩:=h.put g d;have p:=j8a N.length (S6 P u v s) g.n12;have n:(U8 (B3 N) (edN E) u v s).length<=20:=by
    grind[U8,edN]
   exact j4m g c f a m (by omega) _ _ l (by grind)
theorem k1k (i:(X2 N E).1=0):∃P:Tb,PF N.length (B0 N) (B3 N) (edN E) P/\(∀u v,∀x∈P u v,bx x)/\∃J:List JbI,A1 (z1x N) (([]:List JbI),(0:Int),())=some (.inl (J,()))/\A1 (q7l N E) (J,List.replicate (N.length*N.length) ([]:List Sm),())=some (.inl (sq N.length P,())):=by
 obtain⟨e0,d,h,c,b,-⟩:=z4w i;have g:=z4o d c b;obtain⟨P,e,a⟩:=j4m g c h b 500000000 (by omega) (λ_ _=>[]) _ (PI.start g) (by grind);rw[<-y4h]at a;exact⟨P,e.done,λu v x f=>(e.gen u v x f).2,_,v5s d c,a⟩
end
end

section
open Go Go.Abs

variable {s:Sm}
theorem y2z (b:wfS s) (d:oN s<=4) (a:∀i,0<=pN s i/\pN s i<=1048576):okS s:=by
 have f:=b.2;have m:∀v:Int,0<=v/\v<=1048576->bad v=false:=λv h=>by
  grind[bad]
 have l:0<=s.2.1/\s.2.1<=1048576:=by
  have:=a (kN s-1);grind[pN,plc]
 have j:∀v∈s.2.2.1,0<=v/\v<=1048576:=by
  intro v e;obtain⟨i,k,rfl⟩:=bl.1 e;have:=a (kN s+i);grind[pN,plc]
 obtain⟨g,c⟩:=b;unfold oN at d;unfold kN at c;show(if(4:Int)<1\/(4:Int)>4\/s.1<1\/s.1>(4:Int)\/(s.2.2.1.length:Int)>4-s.1 then(1:Int)else if(bad s.2.1||s.2.2.1.any bad)=true then 2 else 0)=0
 rw[if_neg (by omega),if_neg (by grind)]
theorem v9d {r:Sm} (hs:bx s) (a:bx r):okS (cS s r):=by
 refine y2z (W3 hs.wf a.wf) (by rw[M6];exact a.o4) λi=>?_;have c:=hs.p0 i;have d:=a.p0 i;by_cases b:i<oN r
 ·rw[M8 hs.wf.2 a.wf.2 b];omega
 grind[q9s,M6]
theorem v9i (h:wfS s):q1l s=((oN s:Nat):Int):=by
 have:=h.1;grind[q1l,oN]
theorem k49 {a b:List Sm} (k:a.length<=20000000) (g:∀s∈a,s.2.2.1.length<=1000000):z7a (a,b,())=some (decide (a=b),()):=by
 unfold z7a;by_cases d:a.length=b.length
 ·have f:A1 (j4a (a,b,())) ((0:Int),())=some (if(List.range a.length).any (λi=>!decide (a.getD i (0,0,[],())=b.getD i (0,0,[],())))=true then .inl (false,())else .inr (.inl ())):=by
   refine q0h a.length () _ _ _ (λi l=>?_) ?_
   all_goals grind[j4a,C6,y47,B2]
  have e:(List.range a.length).any (λi=>!decide (a.getD i (0,0,[],())=b.getD i (0,0,[],())))=!decide (a=b):=by
   rw[ci,bQ,aU,decide_eq_false_iff_not];constructor
   ·grind
   ·intro c;apply cd;intro j;refine c (ec d λi h m=>?_);simp_all
  grind
 ·have:¬a=b:=λe=>d (by rw[e]);grind
variable {a:Nat} {b:Nat} {Q:Tb} {n:Nat}
section
variable {N:List B5} {E:List Edge}
theorem k4e (f:N.all D5=true) (n:a<N.length) (g:bx (B3 N a)) {l K:List Sm} (h:∀r∈l,bx r/\kN r<=oN (B3 N a)) (p:K.length+l.length<=20000000) (d:Bool×Int×List (List Sm)×Unit) (j:d.2.1=(a:Int)) :
  A1 (z0m ((N,E,()),()) l d) (K,(0:Int),())=some (.inl (K++l.map (cS (B3 N a)),())):=by
 have o:A1 (z0m ((N,E,()),()) l d) (K,(0:Int),())=some (.inl (K++(l.take l.length).map (cS (B3 N a)),())):=by
  refine D3 l.length (λi=>(K++(l.take i).map (cS (B3 N a)),(i:Int),())) _ (λi c=>?_) ?_ ?_
  ·have e:(K++(l.take i).map (cS (B3 N a))).length<=20000000:=by grind
   rw[aw c,bC,<-aS];obtain⟨k,m⟩:=h _ (ay c);have b:q3x (N.getD a v0,())=some (B3 N a,()):=k09 (z5q f n);unfold z0m;simp (disch:=omega) only [dcT,cond_true,C6 c,j,K7 v0 (aZ a) (show(a:Int)<(N.length:Int)by omega),ah,aa,b,k0j g k m,J5 (show(0:Int)=0 from rfl),ai,aq,D4,aI,B2];rfl
  all_goals grind[z0m]
 grind
def edT (N:List B5) (Q:Tb) (a b:Nat) (ed:List (Nat×Nat)):List Sm:=ed.flatMap λe=>if e.1=a then(Q e.2 b).map (cS (B3 N a))else []
theorem j0r {Q:Tb} (d:∀a b,(Q a b).length<=154700) (a b:Nat):∀c:List (Nat×Nat),(edT N Q a b c).length<=c.length*154700
 | []=>cB _
 | e::c=>by
  have f:=j0r d a b c;unfold edT at f ⊢;rw[dR,aK,ai,cP];have:=d e.2 b;split
  ·rw[bi];omega
  ·rw[aq];omega
theorem v3r (g:GR N.length (B0 N) (B3 N) (edN E)) (G:N.all D5=true) (U:E.length<=20) (q:∀j,j<E.length->F5 N E j=0) (o:RI N.length (B0 N) (B3 N) (edN E) Q) (w:a<N.length) (t:b<N.length) (n s:Bool×Int×List (List Sm)×Unit) (m:n.2.1=(a:Int)) (p:s.2.1=(b:Int)) {K:List Sm} (O:K.length<=1) :
  A1 (z0n ((N,E,()),()) n s (sq N.length Q,())) (K,(0:Int),())=some (.inl (K++edT N Q a b (edN E),())):=by
 have e:∀c d,(Q c d).length<=154700:=λc d=>q33 (o.an c d) (o.bx g);have T:=g.n12;have B:A1 (z0n ((N,E,()),()) n s (sq N.length Q,())) (K,(0:Int),())=some (.inl (K++edT N Q a b (edN (E.take E.length)),())):=by
  refine D3 E.length (λi=>(K++edT N Q a b (edN (E.take i)),(i:Int),())) _ (λi v=>?_) ?_ ?_
  ·have C:=j0r (N:=N) e a b (edN (E.take i));have A:(edN (E.take i)).length=i:=by grind[edN]
   have z:(K++edT N Q a b (edN (E.take i))).length<=4000000:=by grind
   obtain⟨R,I,D,u,V⟩:=j0s q _ (ay v);have f:edT N Q a b (edN (E.take (i+1)))=edT N Q a b (edN (E.take i))++(if E[i].1.toNat=a then(Q E[i].2.1.toNat b).map (cS (B3 N a))else []):=by
    grind[List.take_succ_eq_append_getElem,edT,edN]
   rw[f,<-aS];generalize K++edT N Q a b (edN (E.take i))=M at *
   unfold z0n;simp (disch:=omega) only [dcT,cond_true,C6 v,aa,O0,B2,m,p];by_cases h:E[i].1=(a:Int)
   ·have x:E[i].1.toNat=a:=by omega
    rw[if_pos h,if_pos x,D];have H:=e E[i].2.1.toNat b;have l:∀r∈Q E[i].2.1.toNat b,bx r/\kN r<=oN (B3 N a):=λr y=>by
     refine⟨o.bx g r y,?_⟩;have J:=(((o.gen _ _ r y).1).ok g).2.2.k;have S:=(g.e a E[i].2.1.toNat (by rw[<-x];exact aW.2 ⟨E[i],ay v,rfl⟩)).2.2;omega
    have F:=k4e (E:=E) G w (g.bxS w) l (K:=M) (by omega) n m;simp only[q4z u t (by omega),j5b,z4x u t,cond_true,ah,z8s Q u t,aa,F,am]
   grind
  all_goals grind[z0n,edT,edN]
 grind
def X7 (n:Nat) (T:Tb) (k:Nat):List (List Sm):=tab (n*n) λp=>if p<k then T (p / n) (p % n)else []
def U3 (n:Nat) (T Q:Tb) (k:Nat):Bool:=(List.range k).all λp=>decide (T (p / n) (p % n)=Q (p / n) (p % n))
theorem v71 {T:Tb} (d:a<n) (c:b<n):(X7 n T (a*n+b)).set (a*n+b) (T a b)=X7 n T (a*n+b+1):=by
 unfold X7;rw[q1v];grind[q90,q92]
theorem v6y (n:Nat) (T:Tb):X7 n T (n*n)=sq n T:=M3 λp a=>if_pos a
theorem v6z (n:Nat) (T:Tb):List.replicate (n*n) ([]:List Sm)=X7 n T 0:=by
 rw[show List.replicate (n*n) ([]:List Sm)=tab (n*n) λ_=>[]from q0o ..];rfl
theorem k1i (T Q:Tb) (c:b<n):U3 n T Q (a*n+b+1)=(U3 n T Q (a*n+b)&&decide (T a b=Q a b)):=by
 grind[U3,q90,q92]
theorem sameT_all {T:Tb}:U3 n T Q (n*n)=true↔∀a b,a<n->b<n->T a b=Q a b:=by
 unfold U3;rw[aG];constructor
 ·intro h a b d c;have:=of_decide_eq_true (h (a*n+b) (aL.2 (q91 d c)));grind[q90,q92]
 grind[z4y]
theorem k19 (g:GR N.length (B0 N) (B3 N) (edN E)) (V:N.all D5=true) (W:E.length<=20) (I:∀j,j<E.length->F5 N E j=0) (q:RI N.length (B0 N) (B3 N) (edN E) Q) (e:a<N.length) (k:b<N.length) (C:Bool×Int×List (List Sm)×Unit) (t:C.2.1=(a:Int)) :
  z0o ((N,E,()),()) C (sq N.length Q,()) (U3 N.length (F3 N.length (B0 N) (B3 N) (edN E) Q) Q (a*N.length+b),(b:Int),X7 N.length (F3 N.length (B0 N) (B3 N) (edN E) Q) (a*N.length+b),()) =
   some (.inl (U3 N.length (F3 N.length (B0 N) (B3 N) (edN E) Q) Q (a*N.length+(b+1)),((b+1:Nat):Int),X7 N.length (F3 N.length (B0 N) (B3 N) (edN E) Q) (a*N.length+(b+1)),())):=by
 have hn:=g.n12;have m:∀c d,(Q c d).length<=154700:=λc d=>q33 (q.an c d) (q.bx g);have hT:F3 N.length (B0 N) (B3 N) (edN E) Q a b=Q6 (q2k (B0 N) (B3 N) (edN E) Q a b):=if_pos ⟨e,k⟩;have z:q2k (B0 N) (B3 N) (edN E) Q a b=(if a=b then [idS (B0 N a)]else [])++edT N Q a b (edN E):=rfl
 have f:=q.next g;have hl1:=j0r (N:=N) m a b (edN E);have hl2:(edN E).length=E.length:=bi ..;have o:(q2k (B0 N) (B3 N) (edN E) Q a b).length<=10000000:=by
  grind
 have w:∀s∈q2k (B0 N) (B3 N) (edN E) Q a b,okS s/\q1l s=((B0 N b:Nat):Int):=λs p=>by
  rcases mem_pre.1 p with⟨Z,rfl⟩ | ⟨c,r,he,G,rfl⟩
  ·subst Z;have hw:=q2z (g.d1 a e).1;refine⟨y2z hw (by rw[q9o];exact(g.d1 a e).2) λi=>by grind[q57],by rfl⟩
  ·have u:=q.bx g r G;have H:=((q.gen c b r G).1.ok g).2.2;exact⟨v9d (g.bxS e) u,by rw[v9i (W3 (g.bxS e).wf u.wf),M6,H.o]⟩
 have S:=k0e o (λs p=>(w s p).1) λs p r G=>by grind
 rw[<-hT]at S;have B:∀x∈F3 N.length (B0 N) (B3 N) (edN E) Q a b,bx x:=f.bx g;have hTl:=q33 (f.an a b) B;have l:=k49 (a:=F3 N.length (B0 N) (B3 N) (edN E) Q a b) (b:=Q a b) (by omega) λs p=>by have:=q6y (B s p).ok;omega
 have y:=v71 (T:=F3 N.length (B0 N) (B3 N) (edN E) Q) e k;have hss:=k1i (F3 N.length (B0 N) (B3 N) (edN E) Q) Q (a:=a) k;have F:∀R:List (List Sm),R.length=N.length*N.length->(inB ((a*N.length+b:Nat):Int) R.length=true)/\∃v,R[a*N.length+b]? = some v:=λR hR=>by
  refine⟨by grind[z4x],?_⟩;have:=q91 e k;simp_all
 generalize n:X7 N.length (F3 N.length (B0 N) (B3 N) (edN E) Q) (a*N.length+b)=R at *
 have O:R.length=N.length*N.length:=by rw[<-n];exact E8 ..
 obtain⟨A,v,M⟩:=F R O;have D:(((cond ((a:Int)==(b:Int)) ((A5 N (a:Int)).bind λU=>(cond (A8 ([(U.2.1,(0:Int),([]:(List Int)),())]).length 40&&true&&true) (some (Sum.inl ([(U.2.1,(0:Int),([]:(List Int)),())],()))) none)) (some (Sum.inl (([]:(List (Int×(Int×((List Int)×Unit))))),())))):Option ((List Sm×Unit)⊕Empty)))=some (.inl ((if a=b then [idS (B0 N a)]else []),())):=by
  by_cases h:a=b
  ·rw[J5 (show(a:Int)=(b:Int)by omega),if_pos h,cond_true,K7 v0 (aZ a) (show(a:Int)<(N.length:Int)by omega),ah,aa,j0q V e];rfl
  grind
 have Y:=λX J=>v3r g V W I q e k C X t J (K:=if a=b then [idS (B0 N a)]else []) (by grind)
 unfold z0o;simp (disch:=omega) only [dcT,cond_true,t];simp (disch:=omega) only [aa,am,<-z,S,q4z e k (show N.length<=16 by omega),A,cond_true,ah,M,j5b,z4x e k,z8s Q e k,l,B2,y];grind
theorem y4r (g:GR N.length (B0 N) (B3 N) (edN E)) (m:N.all D5=true) (l:E.length<=20) (d:∀j,j<E.length->F5 N E j=0) (i:RI N.length (B0 N) (B3 N) (edN E) Q) :
  A1 (z72 ((N,E,()),()) (sq N.length Q,())) (true,(0:Int),List.replicate (N.length*N.length) ([]:List Sm),())=some (.inl (U3 N.length (F3 N.length (B0 N) (B3 N) (edN E) Q) Q (N.length*N.length),sq N.length (F3 N.length (B0 N) (B3 N) (edN E) Q),())):=by
 have n:=g.n12;rw[<-v6y N.length (F3 N.length (B0 N) (B3 N) (edN E) Q)];refine D3 N.length (λa=>(U3 N.length (F3 N.length (B0 N) (B3 N) (edN E) Q) Q (a*N.length),(a:Int),X7 N.length (F3 N.length (B0 N) (B3 N) (edN E) Q) (a*N.length),())) _ (λa k=>?_) ?_ ?_
 ·unfold z72;have f:∀c:Bool×Int×List (List Sm)×Unit,c.2.1=(a:Int)->A1 (z0o ((N,E,()),()) c (sq N.length Q,())) (U3 N.length (F3 N.length (B0 N) (B3 N) (edN E) Q) Q (a*N.length),(0:Int),X7 N.length (F3 N.length (B0 N) (B3 N) (edN E) Q) (a*N.length),())=some (.inl (U3 N.length (F3 N.length (B0 N) (B3 N) (edN E) Q) Q ((a+1)*N.length),X7 N.length (F3 N.length (B0 N) (B3 N) (edN E) Q) ((a+1)*N.length),())):=λc e=>by
   refine D3 N.length (λb=>(U3 N.length (F3 N.length (B0 N) (B3 N) (edN E) Q) Q (a*N.length+b),(b:Int),X7 N.length (F3 N.length (B0 N) (B3 N) (edN E) Q) (a*N.length+b),())) _ (λb h=>k19 g m l d i k h c e) ?_ rfl;grind[z0o]
  grind[B2]
 ·grind[z72]
 ·rw[v6z N.length (F3 N.length (B0 N) (B3 N) (edN E) Q)];simp[fD];rfl
theorem k17 (g:GR N.length (B0 N) (B3 N) (edN E)) (l:N.all D5=true) (u:E.length<=20) (e:∀j,j<E.length->F5 N E j=0):∀(m:Nat) (Q:Tb),RI N.length (B0 N) (B3 N) (edN E) Q->22276800-q25 N.length Q<=m ->
  ∃i:Tb,QF N.length (B0 N) (B3 N) (edN E) i/\A1 (z0p ((N,E,()),())) (sq N.length Q,())=some (.inl (sq N.length i,())):=by
 intro m
 induction m with
 | zero =>
  intro Q d t;have s:=d.grow g;have o:=j8a N.length (F3 N.length (B0 N) (B3 N) (edN E) Q) g.n12;have h:∀a b,a<N.length->b<N.length->F3 N.length (B0 N) (B3 N) (edN E) Q a b=Q a b:=cd λr=>by grind
  have p:=g.n12;have f:=q7j (n:=N.length) (by omega);refine⟨Q,d.fixed g h,D9 ?_⟩;grind[z0p,z8u,Int.toNat_natCast,D4,y4r,sameT_all,j5a]
 | succ m q =>
  intro Q d t;have p:=g.n12;have f:=q7j (n:=N.length) (by omega);have c:z0p ((N,E,()),()) (sq N.length Q,())=some (cond (U3 N.length (F3 N.length (B0 N) (B3 N) (edN E) Q) Q (N.length*N.length)) (.inr (.inl (sq N.length (F3 N.length (B0 N) (B3 N) (edN E) Q),()))) (.inl (sq N.length (F3 N.length (B0 N) (B3 N) (edN E) Q),()))):=by
   unfold z0p;simp (disch:=omega) only [z8u (n:=N.length) (by omega),dcT,ah,D4,aD,cond_true,y4r g l u e d,aa,am];grind
  cases k:U3 N.length (F3 N.length (B0 N) (B3 N) (edN E) Q) Q (N.length*N.length)with
  | true =>
   have h:=sameT_all.1 k;exact⟨Q,d.fixed g h,by grind[D9,j5a]⟩
  | false =>
   rw[k]at c;rw[H4 c];have s:=d.grow g λr=>by grind[sameT_all]
   exact q _ (d.next g) (by omega)
theorem k0b (e:(X2 N E).1=0):∃Q:Tb,QF N.length (B0 N) (B3 N) (edN E) Q/\q75 ((N,E,()),())=some (sq N.length Q,()):=by
 obtain⟨e0,d,h,c,b,-⟩:=z4w e;have g:=z4o d c b;obtain⟨Q,f,a⟩:=k17 g c h b 22276800 (λ_ _=>[]) (RI.start g) (by omega);refine⟨Q,f,?_⟩;have i:=q7j (n:=N.length) (by omega);unfold q75;simp (disch:=omega) only [z8u (n:=N.length) (by omega),dcT,ah,D4,aD,cond_true,y4h,a,aa,am]
theorem k1j (b:(X2 N E).1=0):∃P:Tb,(∀u v,∀x∈P u v,bx x)/\PF N.length (B0 N) (B3 N) (edN E) P/\QF N.length (B0 N) (B3 N) (edN E) P/\q75 ((N,E,()),())=some (sq N.length P,())/\∃J:List JbI,A1 (z1x N) (([]:List JbI),(0:Int),())=some (.inl (J,()))/\A1 (q7l N E) (J,List.replicate (N.length*N.length) ([]:List Sm),())=some (.inl (sq N.length P,())):=by
 obtain⟨P,f,i,h⟩:=k1k b;obtain⟨Q,d,k⟩:=k0b b;obtain⟨e0,e,j,c,a,-⟩:=z4w b;have g:=z4o e c a;have:P=Q:=funext λu=>funext λv=>y8z g f d u v;grind
end
end

section
open Go Go.Abs

theorem k3d (l:List Int) (h:l.length<=1000000):R0 (l,())=some (l,()):=by
 grind[R0,q1r]
def app (n:Nat) (d:Int) (l t:List Int):List Int×Int :=
 if t.getD (n-1) 0+d>1048576 then([],6)else((t.take n++l).set (n-1) (t.getD (n-1) 0+d),0)
theorem k43 (n d:Int) (l t:List Int):q5j ((n,d,l,()),t,()) =
  some (if chk t≠0 then([],chk t,())else if sck n d l t.length≠0 then([],sck n d l t.length,())else((app n.toNat d l t).1,(app n.toNat d l t).2,())):=by
 unfold q5j;simp only[y84,j5j,aa,O0];by_cases k:chk t=0
 ·by_cases m:sck n d l t.length=0
  ·obtain⟨t1,t2,t3⟩:=U7 k;obtain⟨p,s,u,r,v,w⟩:=Q9 m;have h:(decide (0<=(0:Int))&&decide ((0:Int)<=n)&&decide (n<=(t.length:Int)))=true:=by grind
   have e:(t.drop (0:Int).toNat).take (n.toNat-(0:Int).toNat)=t.take n.toNat:=by simp
   have g:(t.take n.toNat).length=n.toNat:=by grind
   rw[h,cond_true,e,k3d _ (by omega),aa];have o:A8 ((t.take n.toNat).length+l.length) 8=true:=q1r (by omega);have j:IntKind.i64.wrap (n-1)=n-1:=F6 (by omega) (by omega);have c:inB (n-1) (t.take n.toNat++l).length=true:=by grind[inB]
   have a:(n-1).toNat=n.toNat-1:=by omega
   have b:n.toNat-1<t.length:=by omega
   have i:(t.take n.toNat++l)[n.toNat-1]? = some t[n.toNat-1]:=by
    grind
   have q:=t3 _ _ (af b);have f:IntKind.i64.wrap (t[n.toNat-1]+d)=t[n.toNat-1]+d:=F6 (by omega) (by omega);simp[o,aI,cond_true,j,c,a,i,aa,f];grind[j5k,app,bad]
  grind
 grind
theorem k0h (n d:Int) (l:List Int) (c:1<=n) (a:n<=4) (i:Nat) (hi:(i:Int)<n+l.length) (b:l.length<=4) :
  q0l ((n,d,l,()),(i:Int),())=some (if(i:Int)≥n then l.getD (i-n.toNat) 0 else if(i:Int)=n-1 then d else 0,()):=by
 grind[q0l,F6,X1]
theorem k0c (n d:Int) (l t:List Int):q77 ((n,d,l,()),t,()) =
  some (if chk t≠0 then([],chk t,())else if sck n d l t.length≠0 then([],sck n d l t.length,())else((app n.toNat d l t).1,(app n.toNat d l t).2,())):=by
 unfold q77;simp[z7h,j4b,aa,O0];by_cases v:chk t=0
 ·by_cases u:sck n d l t.length=0
  ·obtain⟨t1,t2,t3⟩:=U7 v;obtain⟨y,B,D,x,C,z⟩:=Q9 u;simp[v,u,ne_eq,not_true_eq_false,if_false,if_true];have o:S7 ((n,d,l,()),())=some (n+l.length,()):=by
    grind[S7,F6]
   let a:Nat->Int:=λi=>if(i:Int)≥n then l.getD (i-n.toNat) 0 else(if(i:Int)=n-1 then d else 0)+t.getD i 0
   have b:∀(i:Nat),i<n.toNat+l.length->q78 ((n,d,l,()),t,()) ((List.range i).map a,(i:Int),())=some (if a i>1048576 then .inr (.inl ([],6,()))else .inl ((List.range (i+1)).map a,((i+1:Nat):Int),())):=by
    intro i k;unfold q78;have r:((i:Int)<n+l.length):=by omega
    have A:A8 (i+1) 8=true:=q1r (by omega);grind[List.range_succ,k0h,F6,X1]
   have q:a (n.toNat-1)=d+t.getD (n.toNat-1) 0:=by
    grind
   have p:∀i,i<n.toNat+l.length->i≠n.toNat-1->¬a i>1048576:=by
    intro i k e;show ¬((if(i:Int)≥n then _ else _):Int)>1048576
    by_cases c:(i:Int)≥n
    ·rw[if_pos c];have r:i-n.toNat<l.length:=by omega
     grind
    grind
   have r:n.toNat-1<t.length:=by omega
   unfold app;by_cases s:t.getD (n.toNat-1) 0+d>1048576
   ·rw[if_pos s];have j:=y1m (f:=q78 ((n,d,l,()),t,())) (n.toNat-1) (λi=>(List.range i).map a) (.inl ([],6,()))
     (λi k=>by rw[b i (by omega),if_neg (p i (by omega) (by omega))]) (by rw[b _ (by omega),if_pos (by omega)])
    grind
   ·rw[if_neg s];have j:=y1m (f:=q78 ((n,d,l,()),t,()))
     (n.toNat+l.length) (λi=>(List.range i).map a) (.inr (.inl ((List.range (n.toNat+l.length)).map a,())))
     (λi k=>by
      rw[b i k];by_cases e:i=n.toNat-1
      ·rw[if_neg (by rw[e,q];omega)]
      ·rw[if_neg (p i k e)]) (by
      have c:¬(((n.toNat+l.length:Nat):Int)<n+l.length):=by omega
      unfold q78;simp only[o,aa,c,decide_false,cond_false])
    simp[List.range_zero,da]at j;rw[j];have w:(List.range (n.toNat+l.length)).map a=(t.take n.toNat++l).set (n.toNat-1) (t.getD (n.toNat-1) 0+d):=by
     have g:(t.take n.toNat).length=n.toNat:=by rw[aY];omega
     apply ce;intro i;by_cases k:i<n.toNat+l.length
     ·rw[bK,fm k];show some (a i)=_;by_cases e:i=n.toNat-1
      ·rw[e,ca (by simp[g];omega),q,Int.add_comm]
      ·rw[cU (Ne.symm e)];by_cases c:(i:Int)≥n
       ·have h:i-n.toNat<l.length:=by omega
        rw[aP (by omega),g,af h];show some (if(i:Int)≥n then _ else _)=_
        rw[if_pos c,aR,af h];rfl
       ·have m:i<t.length:=by omega
        rw[aH (by omega),aV (by omega),af m];show some (if(i:Int)≥n then _ else _)=_
        rw[if_neg c,if_neg (by omega),aR,af m];simp
     ·rw[bU (by simp;omega),bU (by simp[g];omega)]
    grind
  grind
 grind
end

section
open Go Go.Abs

theorem v2w {l:List Int} (h1:1<=l.length) (h2:l.length<=4) (h:∀v∈l,0<=v/\v<=1048576):chk l=0:=by
 have hb:l.any bad=false:=cE.2 λv hv=>by
  have:=h v hv;unfold bad;simp only[bD,decide_eq_true_eq];omega
 unfold chk;rw[if_neg (by omega),hb];rfl
theorem v2v {l:List Int} (h:chk l=0):∀v∈l,0<=v/\v<=1048576:=λv hv=>by
 obtain⟨i,hi,rfl⟩:=bl.1 hv;exact(U7 h).2.2 i _ (af hi)
theorem v1s {n:Nat} {d:Int} {l t:List Int} (ht:chk t=0) (hs:sck (n:Int) d l (t.length:Int)=0) (h:(app n d l t).2=0):chk (app n d l t).1=0/\(app n d l t).1.length=n+l.length:=by
 obtain⟨t1,tq,t3⟩:=U7 ht;obtain⟨s1,s2,s3,s4,s5,s6⟩:=Q9 hs;unfold app at h ⊢;by_cases hg:t.getD (n-1) 0+d>1048576
 ·rw[if_pos hg]at h;cases h
 ·rw[if_neg hg];have hlen:((t.take n++l).set (n-1) (t.getD (n-1) 0+d)).length=n+l.length:=by
   rw[dc,aK,aY];omega
  refine⟨v2w (by rw[hlen];omega) (by rw[hlen];omega) λv hv=>?_,hlen⟩;have hp:0<=t.getD (n-1) 0:=by
   rw[aR,af (show n-1<t.length by omega)];exact(t3 (n-1) _ (af (show n-1<t.length by omega))).1
  rcases ez hv with hv | rfl
  ·rcases aQ.1 hv with hv | hv
   ·exact v2v ht v (bq hv)
   ·obtain⟨i,hi,rfl⟩:=bl.1 hv;exact s6 i _ (af hi)
  ·omega
def W9 (s:Sm) (t tt:List Int):Bool:=decide ((app s.1.toNat s.2.1 s.2.2.1 t).2=0)&&G8 (app s.1.toNat s.2.1 s.2.2.1 t).1 tt
def L2 (N:List B5) (a:Int) (t:List Int):Int:=if a<0\/(N.length:Int)<=a then 2 else if chk t≠0 then chk t else if(t.length:Int)=(N.getD a.toNat v0).2.1 then 0 else 7
section
variable {N:List B5} {E:List Edge}
theorem j44 (a:Int) (t:List Int):q2l ((N,E,()),(a,t,()),())=some (L2 N a t,()):=by
 unfold q2l L2;by_cases h1:a<0
 ·simp only[dcT h1,cond_true,if_pos (Or.inl h1:a<0\/(N.length:Int)<=a)]
 by_cases h2:a≥(N.length:Int)
 ·simp only[dcF h1,dcT h2,cond_true,cond_false,if_pos (Or.inr h2:a<0\/(N.length:Int)<=a)]
 simp only[dcF h1,dcF h2,cond_false,if_neg (show ¬(a<0\/(N.length:Int)<=a)by omega),y84,aa,K7 v0 (show 0<=a by omega) (show a<(N.length:Int)by omega),O0];by_cases h3:chk t=0
 ·simp only[h3,if_true,ne_eq,not_true_eq_false,if_false];split<;>rfl
 ·simp only[h3,if_false,ne_eq,not_false_eq_true,if_true]
theorem q3z (a:Int) (t:List Int):q5a ((N,E,()),a,t,())=some (L2 N a t,()):=by
 unfold q5a L2;by_cases h1:a<0
 ·simp only[dcT h1,cond_true,if_pos (Or.inl h1:a<0\/(N.length:Int)<=a)]
 by_cases h2:a≥(N.length:Int)
 ·simp only[dcF h1,dcT h2,cond_true,cond_false,if_pos (Or.inr h2:a<0\/(N.length:Int)<=a)]
 simp only[dcF h1,dcF h2,cond_false,if_neg (show ¬(a<0\/(N.length:Int)<=a)by omega),z7h,aa,K7 v0 (show 0<=a by omega) (show a<(N.length:Int)by omega),O0];by_cases h3:chk t=0
 ·simp only[h3,if_true,ne_eq,not_true_eq_false,if_false];split<;>rfl
 ·simp only[h3,if_false,ne_eq,not_false_eq_true,if_true]
theorem y7h (hN:N.all D5=true) {a:Int} {t:List Int} (h:L2 N a t=0):∃k:Nat,a=(k:Int)/\k<N.length/\chk t=0/\t.length=B0 N k:=by
 unfold L2 at h;split at h
 ·cases h
 ·rename_i h1;split at h
  ·rename_i h2;exact absurd h h2
  ·rename_i h2;split at h
   ·rename_i h3;have hk:a.toNat<N.length:=by omega
    have:=j0q hN hk;exact⟨a.toNat,by omega,hk,by simpa using h2,by omega⟩
   ·cases h
end
end

section
open Go Go.Abs

noncomputable def q85 (t tt:List Int) (l:List Sm):(Int×(Bool×Unit)×Unit)->Option ((Int×(Bool×Unit)×Unit)⊕(((Bool×Unit)×Unit)⊕((Bool×Unit)×Unit)⊕Empty)):=λy29 =>
 (cond (decide (y29.1<(l.length:Int))) ((A5 l y29.1).bind λv30=>((q5j (v30,t,())).bind λr31=>(cond (r31.2.1==(0:Int)) ((q7p (r31.1,tt,())).bind λr32=>(cond r32.1 (some (Sum.inr (Sum.inl ((true,()),())))) (some (Sum.inl ((IntKind.i64.wrap (y29.1+(1:Int))),y29.2.1,()))))) (some (Sum.inl ((IntKind.i64.wrap (y29.1+(1:Int))),y29.2.1,())))))) (some (Sum.inr (Sum.inr (Sum.inl (y29.2.1,()))))))
variable {t:List Int}
section
variable {N:List B5} {E:List Edge}
theorem z5u {s:Sm} (hb:bx s) (ht:chk t=0) (hk:kN s<=t.length):q5j (s,t,())=some ((app s.1.toNat s.2.1 s.2.2.1 t).1,(app s.1.toNat s.2.1 s.2.2.1 t).2,())/\q77 (s,t,())=some ((app s.1.toNat s.2.1 s.2.2.1 t).1,(app s.1.toNat s.2.1 s.2.2.1 t).2,()):=by
 have h4:=(U7 ht).2.1;have hs:=hb.sck hk h4;have h1:=k43 s.1 s.2.1 s.2.2.1 t;have h2:=k0c s.1 s.2.1 s.2.2.1 t;rw[if_neg (by rw[ht];simp),if_neg (by rw[hs];simp)]at h1 h2;exact⟨h1,h2⟩
theorem j3g {s:Sm} (hb:bx s) (ht:chk t=0) (hk:kN s<=t.length) (h:(app s.1.toNat s.2.1 s.2.2.1 t).2=0):chk (app s.1.toNat s.2.1 s.2.2.1 t).1=0/\(app s.1.toNat s.2.1 s.2.2.1 t).1.length=oN s:=by
 have h4:=(U7 ht).2.1;have hs:=hb.sck hk h4;have hz:s.1=((s.1.toNat:Nat):Int):=by have:=hb.wf.1;omega
 rw[hz]at hs;exact v1s ht hs h
theorem v2i {l:List Sm} {tt:List Int} (hl:∀s∈l,bx s/\kN s<=t.length/\oN s=tt.length) (hn:l.length<=154700) (ht:chk t=0) (ht2:chk tt=0) (a b:Int) (g:List (List Sm)) :
  (A1 (q85 t tt l) ((0:Int),(false,()),())=some (if l.any (λs=>W9 s t tt)=true then .inl ((true,()),())else .inr (.inl ((false,()),())))) /\
  A1 (z6y ((N,E,()),g,(a,t,()),(b,tt,()),()) l) ((0:Int),())=some (if l.any (λs=>W9 s t tt)=true then .inl (true,())else .inr (.inl ())):=by
 have e:(List.range l.length).any (λi=>W9 (l.getD i (0,0,[],())) t tt)=l.any λs=>W9 s t tt:=by
  rw[ci,bQ,bQ];constructor
  ·rintro ⟨i,hi,h⟩;have hi:=aL.1 hi;rw[aR,af hi,bm]at h;exact⟨_,ay hi,h⟩
  ·rintro ⟨r,hr,h⟩;obtain⟨i,hi,rfl⟩:=bl.1 hr;exact⟨i,aL.2 hi,by rw[aR,af hi];exact h⟩
 rw[<-e];constructor
 ·refine q0h (S:=(Bool×Unit)×Unit) l.length ((false,()),()) _ _ _ (λi hi=>?_) ?_
  ·obtain⟨hb,hk,ho⟩:=hl _ (ay hi);unfold q85;rw[aR,af hi,bm];simp (disch:=omega) only [dcT,cond_true,C6 hi,aa,(z5u hb ht hk).1,q0b,B2];unfold W9;by_cases h:(app l[i].1.toNat l[i].2.1 l[i].2.2.1 t).2=0
   ·obtain⟨h1,h2⟩:=j3g hb ht hk h;have h3:=(U7 h1).2.1;rw[if_pos h,y86 (by rw[h2,ho]) (by omega),decide_eq_true h];simp only[aa,cK];cases G8 (app l[i].1.toNat l[i].2.1 l[i].2.2.1 t).1 tt<;>rfl
   ·rw[if_neg h,decide_eq_false h];simp
  ·unfold q85;simp (disch:=omega) only [dcF,cond_false]
 ·refine q0h l.length () _ _ _ (λi hi=>?_) ?_
  ·obtain⟨hb,hk,ho⟩:=hl _ (ay hi);unfold z6y;rw[aR,af hi,bm];simp (disch:=omega) only [dcT,cond_true,C6 hi,aa,(z5u hb ht hk).2,q0b,B2];unfold W9;by_cases h:(app l[i].1.toNat l[i].2.1 l[i].2.2.1 t).2=0
   ·obtain⟨h1,h2⟩:=j3g hb ht hk h;rw[if_pos h,y4a,y1c (by rw[h2,ho]) h1 ht2,decide_eq_true h];simp only[aa,cK];cases G8 (app l[i].1.toNat l[i].2.1 l[i].2.2.1 t).1 tt<;>rfl
   ·rw[if_neg h,decide_eq_false h];simp
  ·unfold z6y;simp (disch:=omega) only [dcF,cond_false]
theorem k0p (g:GR N.length (B0 N) (B3 N) (edN E)) {P:Tb} (hP:PF N.length (B0 N) (B3 N) (edN E) P) (hb:∀u v,∀x∈P u v,bx x) {u v:Nat} (hu:u<N.length) (hv:v<N.length) {tt:List Int} (hcu:chk t=0) (hlu:t.length=B0 N u) (hcv:chk tt=0) (hlv:tt.length=B0 N v) :
  z6x ((N,E,()),sq N.length P,((u:Int),t,()),((v:Int),tt,()),())=some ((P u v).any (λs=>W9 s t tt),())/\(A1 (q85 t tt (P u v)) ((0:Int),(false,()),())=some (if(P u v).any (λs=>W9 s t tt)=true then .inl ((true,()),())else .inr (.inl ((false,()),())))):=by
 have hn:=g.n12;have hbb:=hb u v;have hl:=q33 (hP.an u v) hbb;have hcond:∀s∈P u v,bx s/\kN s<=t.length/\oN s=tt.length:=λs hs=>by
  have:=((hP.gen u v s hs).ok g).2.2;exact⟨hbb s hs,by rw[hlu];exact this.k,by rw[hlv];exact this.o⟩
 obtain⟨c1,c2⟩:=v2i (N:=N) (E:=E) hcond hl hcu hcv (u:Int) (v:Int) (sq N.length P);refine⟨?_,c1⟩;unfold z6x;simp only[q4z hu hv (show N.length<=16 by omega),z8t P hu hv,aa,c2];cases(P u v).any λs=>W9 s t tt<;>rfl
end
end

section
open Go Go.Abs

abbrev Stp:=Int×List Int×Unit
section
variable {N:List B5} {E:List Edge}
theorem j9i {α β:Type} (f:Nat->Option α) (g:α->β):∀l:List Nat,l.findSome? (λi=>(f i).map g)=(l.findSome? f).map g
 | []=>rfl
 | a::r=>by
  rw[bM,bM];cases f a with
  | some x=>rfl
  | none=>exact j9i f g r
theorem y3v {α β:Type} (d:α) (f:α->Option β):∀(l:List α),(List.range l.length).findSome? (λi=>f (l.getD i d))=l.findSome? f:=by
 intro l
 induction l with
 | nil=>rfl
 | cons a l ih =>
  rw[ai,List.range_succ_eq_map,bM,bM,List.findSome?_map];show(match f a with | some b=>some b | none=>_)=_
  cases f a with
  | some b=>rfl
  | none=>exact ih
end
end

section
open Go Go.Abs

noncomputable def K4 (k:KyK) (acc:Int) (r:Mk):Int:=if kyM r=k then Wk (acc+r.2.2.1)else acc
theorem j5u:∀(l:List Mk) (T:KyK->Int) (k:KyK),z2g l T k=l.foldl (K4 k) (T k)
 | [],_,_=>rfl
 | r::l,T,k=>by
  show z2g l _ k=l.foldl (K4 k) (K4 k (T k) r);rw[j5u l];unfold K4;by_cases h:k=kyM r
  ·rw[if_pos h,if_pos h.symm,h]
  ·rw[if_neg h,if_neg λe=>h e.symm]
theorem j9l {k:KyK}:∀{l:List Mk} {a:Int},(∀r∈l,kyM r≠k)->l.foldl (K4 k) a=a
 | [],_,_=>rfl
 | r::l,a,h=>by
  show l.foldl (K4 k) (K4 k a r)=a;rw[j9l λq b=>h q (aj _ b)];unfold K4;rw[if_neg (h r ar)]
noncomputable def G5 (L:List Mk) (k:KyK):Int:=L.foldl (K4 k) 0
def J3 (L:List Mk) (v:Nat):List (List Int):=(L.filter λr=>decide (r.1=(v:Int))).map (·.2.1)
noncomputable def q58 (L:List Mk) (v:Nat) (t:List Int):Option Mk:=if G5 L ((v:Int),E0 t)=0 then none else some ((v:Int),t,G5 L ((v:Int),E0 t),())
noncomputable def q2o (L:List Mk) (v:Nat):List Mk:=(H6 (J3 L v)).filterMap (q58 L v)
noncomputable def D6 (n:Nat) (L:List Mk):List Mk:=(List.range n).flatMap (q2o L)
def q4b (r:Mk):KyK×Int:=(kyM r,r.2.2.1)
def q7q (p:KyK×Int):Mk:=(p.1.1,j5q p.1.2,p.2,())
def OkL (n:Nat) (d:Nat->Nat) (L:List Mk):Prop:=∀r∈L,∃k:Nat,r.1=(k:Int)/\k<n/\r.2.1.length=d k
theorem z3r (a b:Int) (r s:List Int):B6 (a::r) (b::s)<0↔a<b\/a=b/\B6 r s<0:=by
 grind[B6]
theorem z3o:(B6 [] []<0)=False:=by simp[B6]
theorem v67:∀{a b:List Int},a.length=b.length->a.length<=4->B6 a b<0->HT.lt (E0 a) (E0 b)=true
 | [],[],_,_,h=>absurd h (S9 _)
 | [x],[y],_,_,h=>by
  grind[z3r,z3o,E0,Ty.lt,Ty.eqb]
 | [x,c],[y,d],_,_,h=>by
  grind[z3r,z3o,E0,Ty.lt,Ty.eqb]
 | [x,c,f],[y,d,e],_,_,h=>by
  grind[z3r,z3o,E0,Ty.lt,Ty.eqb]
 | [x,c,f,g],[y,d,e,j],_,_,h=>by
  grind[z3r,z3o,E0,Ty.lt,Ty.eqb]
 | _::_::_::_::_::_,_,_,i,_=>by grind
 | [],_::_,h,_,_=>by grind
 | _::_,[],h,_,_=>by grind
 | [_],_::_::_,h,_,_=>by grind
 | _::_::_,[_],h,_,_=>by grind
 | [_,_],_::_::_::_,h,_,_=>by grind
 | [_,_,_],[_,_],h,_,_=>by grind
 | [_,_,_,_],[_,_],h,_,_=>by grind
 | [_,_,_],_::_::_::_::_,h,_,_=>by grind
 | [_,_,_,_],[_,_,_],h,_,_=>by grind
 | [_,_,_,_],_::_::_::_::_::_,h,_,_=>by grind
theorem v4q {k:KyK} {l:List Mk} (h:l.foldl (K4 k) 0≠0):∃r∈l,kyM r=k:=by
 grind[j9l]
variable {v:Nat}
theorem mem_timesAt {L:List Mk} {t:List Int}:t∈J3 L v↔∃r∈L,r.1=(v:Int)/\r.2.1=t:=by
 unfold J3;simp_all
variable {q:Mk}
theorem mem_rowsAt {L:List Mk} {v:Nat}:q∈q2o L v↔∃t∈J3 L v,G5 L ((v:Int),E0 t)≠0/\q=((v:Int),t,G5 L ((v:Int),E0 t),()):=by
 grind[q2o,q58,q0r]
section
variable {n:Nat} {d:Nat->Nat} {L:List Mk}
theorem j5r (a:OkL n d L) {t:List Int} (h:t∈J3 L v):v<n/\t.length=d v:=by
 obtain⟨r,b,f,rfl⟩:=mem_timesAt.1 h;obtain⟨k,e,g,c⟩:=a r b;grind
theorem k3s (j:OkL n d L) (s:∀k,k<n->d k<=4):Rise KK ((D6 n L).map q4b):=by
 unfold Rise;rw[cO];unfold D6;rw[dV];constructor
 ·intro v r;unfold q2o;rw[List.pairwise_filterMap];refine eF (λ{a b} l m h=>?_) (q0r (J3 L v)).2.2;intro p c q f;have i:=j5r j (((q0r _).2.1 a).1 l);have g:=j5r j (((q0r _).2.1 b).1 m);unfold q58 at c f;split at c
  ·grind
  ·split at f
   ·grind
   ·cases c;cases f;have:=v67 (i.2.trans g.2.symm) (by grind) h;show KK.lt ((v:Int),E0 a) ((v:Int),E0 b)=true;have e:KK.lt ((v:Int),E0 a) ((v:Int),E0 b)=(decide ((v:Int)<(v:Int))||(((v:Int)==(v:Int))&&HT.lt (E0 a) (E0 b))):=rfl;grind
 ·refine eC (λ{v w} o=>?_) eO;intro p c q f;obtain⟨t,_,_,rfl⟩:=mem_rowsAt.1 c;obtain⟨u,_,_,rfl⟩:=mem_rowsAt.1 f;show KK.lt ((v:Int),E0 t) ((w:Int),E0 u)=true;have e:KK.lt ((v:Int),E0 t) ((w:Int),E0 u)=(decide ((v:Int)<(w:Int))||(((v:Int)==(w:Int))&&HT.lt (E0 t) (E0 u))):=rfl;grind
theorem k3r (h:OkL n d L) (s:∀k,k<n->d k<=4) (p:KyK×Int):p∈(D6 n L).map q4b↔p.2≠0/\G5 L p.1=p.2:=by
 rw[aW];constructor
 ·rintro ⟨q,b,rfl⟩;obtain⟨v,c,b⟩:=bb.1 b;obtain⟨t,o,f,rfl⟩:=mem_rowsAt.1 b;exact⟨f,rfl⟩
 ·rintro ⟨f,m⟩;have i:G5 L p.1≠0:=by omega
  obtain⟨r,g,j⟩:=v4q i;obtain⟨v,e,c,l⟩:=h r g;have a:p.1=((v:Int),E0 r.2.1):=by rw[<-j,<-e];rfl
  refine⟨((v:Int),r.2.1,G5 L ((v:Int),E0 r.2.1),()),bb.2 ⟨v,aL.2 c,mem_rowsAt.2 ⟨r.2.1,mem_timesAt.2 ⟨r,g,e,rfl⟩,by grind,rfl⟩⟩,?_⟩;refine eI a.symm ?_;show G5 L ((v:Int),E0 r.2.1)=p.2;grind
theorem j7h (b:OkL n d L) (c:∀k,k<n->d k<=4):G9 L []=(D6 n L).map q4b:=by
 have a:=j08 L (m:=[]) (T:=λ_=>0) ⟨List.Pairwise.nil,λ_=>rfl,λp f=>by grind⟩;have e:=k3s b c;refine y4n N5 a.rise e ((eq (z3g a.rise) (z3g e)).2 λp=>?_);rw[j07 a,k3r b c,j5u];rfl
theorem j5c (b:OkL n d L) (a:q∈D6 n L):∃v:Nat,q.1=(v:Int)/\v<n/\q.2.1.length=d v/\q.2.1∈J3 L v:=by
 obtain⟨v,c,a⟩:=bb.1 a;grind[mem_rowsAt,j5r]
theorem k4j (h:q.2.1.length<=4):q7q (q4b q)=q:=by
 grind[q7q,q4b,kyM,z96]
end
end

section
open Go Go.Abs

theorem k55 (a:Int) (t:List Int):q2u (a,t,())=some ((a,E0 t),()):=rfl
section
variable {N:List B5} {E:List Edge}
end
theorem j6w {E o:Type} {F:Type} {row:E->F} {b:Nat} {k:((List F×Unit)⊕Empty)->Option o} {f:List E->E->(List F×Unit)->Option ((List F×Unit)⊕((List F×Unit)⊕Empty))} {g:(List F×Unit)->Option ((List F×Unit)⊕((List F×Unit)⊕Empty))} {S:E->Prop}
  (s:∀r e (y:List F),S e->y.length+1<=b->f r e (y,())=some (.inl (y++[row e],()))) (u:∀y:List F,g (y,())=some (.inr (.inl (y,())))) {c:o} :
  ∀(n:Nat) (l:List E) (y:List F),l.length=n->(∀e∈l,S e)->y.length+n<=b->(∀a:List E,a.Perm l->k (.inl (y++a.map row,()))=some c)->q5s f g k n l (y,()) c
 | 0,l,y,j,_,x,h=>by
  have:l=[]:=aO j;subst this;refine⟨.inl (y,()),u y,?_⟩;simp_all
 | n+1,[],y,j,_,_,_=>by grind
 | n+1,e::l,y,j,w,x,h=>by
  intro p r i;have d:∀q∈p::r,S q:=λq m=>w q (i.mem_iff.2 m);refine .inr ⟨_,s r p y (d p ar) (by omega),j6w s u n r (y++[row p]) ?_ (λq m=>d q (aj _ m)) ?_ λa v=>?_⟩
  ·have:=i.length_eq;grind
  ·grind
  ·have:=h (p::a) ((v.cons p).trans i.symm);grind
def M5 (a b:Mk):Int:=if a.1<b.1 then -1 else if a.1>b.1 then 1 else B6 a.2.1 b.2.1
theorem j81 (v w:Int):q12 (v,w,())=some (if v<w then -1 else if v>w then 1 else 0,()):=by
 grind[q12,q88]
theorem j82 (p q:Int):q35 ([p,q],())=some (if p≠0 then p else q,()):=by
 have f0:q13 ([p,q],()) ((0:Int),())=if p=0 then some (.inl ((1:Int),()))else some (.inr (.inl (p,()))):=by
  by_cases h:p=0
  ·subst h;rfl
  ·show cond (p != 0) _ _=_;grind
 have f1:q13 ([p,q],()) ((1:Int),())=if q=0 then some (.inl ((2:Int),()))else some (.inr (.inl (q,()))):=by
  by_cases h:q=0
  ·subst h;rfl
  ·show cond (q != 0) _ _=_;grind
 have f2:q13 ([p,q],()) ((2:Int),())=some (.inr (.inr (.inl ()))):=rfl;unfold q35;by_cases a:p=0
 ·rw[if_pos a]at f0;by_cases b:q=0
  ·rw[if_pos b]at f1;rw[H4 f0,H4 f1,D9 f2,if_neg (by omega),b];rfl
  ·rw[if_neg b]at f1;rw[H4 f0,D9 f1,if_neg (by omega)];rfl
 ·rw[if_neg a]at f0;rw[D9 f0,if_pos a];rfl
theorem y1w {x y:Mk} (h:x.2.1.length<=1000000):(λa b=>(q7s (a,b,())).map λr=>r.1) x y=some (M5 x y):=by
 grind[q7s,M5,j81,z8g,j82]
theorem q0a (x y:Mk):M5 x y<0↔x.1<y.1\/(x.1=y.1/\B6 x.2.1 y.2.1<0):=by
 grind[M5]
section
variable {n:Nat} {d:Nat->Nat} {L:List Mk}
theorem j5d (a:OkL n d L):(D6 n L).Pairwise λx y=>M5 x y<0:=by
 unfold D6;rw[dV];grind[q2o,List.Pairwise.imp,q0r,q58,q0a,List.pairwise_lt_range]
theorem v7g (B:OkL n d L) (I:∀k,k<n->d k<=4) {z:List Mk} (g:z.Perm (D6 n L)):O6 (λa b=>(q7s (a,b,())).map λr=>r.1) z=some (D6 n L):=by
 have f:∀x∈z,x.2.1.length<=1000000:=λx c=>by
  grind[j5c]
 have u:∀x∈z,∀y:Mk,ltF (λa b=>(q7s (a,b,())).map λr=>r.1) x y↔M5 x y<0:=λx c y=>by
  grind[ltF,y1w]
 have s:=j5d B;have q:∀x∈z,∀y∈z,x=y\/M5 x y<0\/M5 y x<0:=λx c y i=>by
  by_cases j:x.1<y.1
  ·grind[q0a]
  ·by_cases l:y.1<x.1
   ·grind[q0a]
   ·have e:x.1=y.1:=by omega
    by_cases G:B6 x.2.1 y.2.1<0
    ·grind[q0a]
    ·by_cases E:B6 y.2.1 x.2.1<0
     ·grind[q0a]
     ·have J:x.2.1=y.2.1:=by
       grind[T0,cmpL_eq]
      obtain⟨v,C,o⟩:=bb.1 (g.mem_iff.1 c);obtain⟨w,m,A⟩:=bb.1 (g.mem_iff.1 i);grind[mem_rowsAt]
 have p:∀x:Mk,¬M5 x x<0:=λx h=>by
  rcases (q0a x x).1 h with h | ⟨_,h⟩
  ·omega
  ·exact S9 _ h
 have D:∀x y w:Mk,M5 x y<0->M5 y w<0->M5 x w<0:=λx y w j l=>by
  grind[q0a,q11]
 refine z8i ⟨λx c y _=>⟨_,y1w (f x c)⟩,λx c=>?_,λx c y i w m=>?_,λx c y i j l=>?_⟩ g.symm ?_
 ·grind
 ·grind
 ·grind
 ·refine eF (λ{a b} F H t=>?_) s;grind
theorem j0e {l:List Int} (h:l.length<=1000000):R0 (l,())=some (l,()):=by
 grind[R0,q1r]
theorem y8w (v:OkL n d L) (w:∀k,k<n->d k<=4) (x:L.length<=1000):z2j (G9 L [],())=some (D6 n L,()):=by
 have i:(G9 L []).length<=1000:=by grind[j06]
 have z:=j7h v w;have f:∀e∈G9 L [],∃q∈D6 n L,q4b q=e:=λe j=>by grind
 have a:∀q∈D6 n L,q.2.1.length<=4:=λq g=>by
  grind[j5c]
 refine v1q ?_;refine j6w (row:=q7q) (b:=2000) (S:=λe=>e∈G9 L []) (λr e y t p=>?_) (λy=>rfl) _ (G9 L []) [] rfl (λe j=>j) (by grind) λc u=>?_
 ·obtain⟨q,g,rfl⟩:=f e t;have s:=a q g;unfold y89;have e0:(q4b q).1.2.1=(q.2.1.length:Int):=rfl;have h:=j0e (l:=j5q (E0 q.2.1)) (by grind[z96]);rw[e0];simp only[ah];rw[dcT (show(0:Int)<=(q.2.1.length:Int)by omega),dcT (show(q.2.1.length:Int)<=((4:Nat):Int)by omega),bg s];refine(congrArg (λo=>Option.bind o _) h).trans ?_;simp[aa,ai,aq];rw[D4 (show y.length+(0+1)<=140737488355328 by omega) (show(y.length+(0+1))*40<=140737488355328 by omega)];rfl
 ·have A:(([]:List Mk)++c.map q7q).Perm (D6 n L):=by
   have e:(D6 n L).map (q7q∘q4b)=D6 n L:=by
    refine(cW λq g=>?_).trans (fb _);grind[k4j]
   grind
  have m:([]++c.map q7q).length<=1000:=by rw[cN,bi,u.length_eq];exact i
  grind[D4,v7g]
end
end

section
open Go Go.Abs

section
variable {N:List B5} {E:List Edge}
theorem k4f {L:List Mk} {i:Nat} (hi:i<L.length) (v:Nat):J3 (L.take (i+1)) v=J3 (L.take i) v++(if L[i].1=(v:Int)then [L[i].2.1]else []):=by
 grind[J3,List.take_succ_eq_append_getElem]
theorem k3p (L:List Mk) (d:L.length<=1000) (v:Nat) (y:List Mk×Int×Unit) (e:y.2.1=(v:Int)):A1 (z1d ((N,E,()),L,()) y) (([]:List (List Int)),(0:Int),())=some (.inl (J3 L v,())):=by
 have b:A1 (z1d ((N,E,()),L,()) y) (([]:List (List Int)),(0:Int),())=some (.inl (J3 (L.take L.length) v,())):=by
  refine D3 L.length (λi=>(J3 (L.take i) v,(i:Int),())) _ (λi c=>?_) ?_ (by rfl)
  ·have a:(J3 (L.take i) v).length<=1000:=by
    grind[J3]
   grind[k4f,z1d,C6,B2,D4]
  grind[z1d]
 grind
theorem k3q (L:List Mk) (k:L.length<=1000) (d:∀r∈L,r.2.1.length<=4) (v:Nat) (y:List Mk×Int×Unit) (g:y.2.1=(v:Int)) (t:List Int) (j:t.length<=4):A1 (z1e ((N,E,()),L,()) y t) ((0:Int),(0:Int),())=some (.inl (G5 L ((v:Int),E0 t),())):=by
 have f:A1 (z1e ((N,E,()),L,()) y t) ((0:Int),(0:Int),())=some (.inl (G5 (L.take L.length) ((v:Int),E0 t),())):=by
  refine D3 L.length (λi=>(G5 (L.take i) ((v:Int),E0 t),(i:Int),())) _ (λi a=>?_) ?_ (by rfl)
  ·have c:G5 (L.take (i+1)) ((v:Int),E0 t)=K4 ((v:Int),E0 t) (G5 (L.take i) ((v:Int),E0 t)) L[i]:=by
    grind[G5,List.take_succ_eq_append_getElem]
   have e:=d _ (ay a);rw[c];unfold z1e K4;simp (disch:=omega) only [dcT,cond_true,C6 a,aa,g,q0b,q41 (show L[i].2.1.length<=1000000 by omega),B2];by_cases h:L[i].1=(v:Int)
   ·rw[if_pos h];by_cases b:L[i].2.1=t
    ·rw[decide_eq_true b,cond_true,if_pos (by grind[kyM])];rfl
    grind[kyM,y0x]
   grind[kyM]
  grind[z1e]
 grind
theorem j20 {α β:Type} (f:α->Option β) {l:List α} {i:Nat} (hi:i<l.length):(l.take (i+1)).filterMap f=(l.take i).filterMap f++(f l[i]).toList:=by
 rw[aw hi,List.filterMap_append];congr 1
theorem y7i (L:List Mk) (q:L.length<=1000) (x:N.length<=12) (f:∀r∈L,(∃k:Nat,r.1=(k:Int)/\k<N.length/\chk r.2.1=0/\r.2.1.length=B0 N k)) (A:∀k,k<N.length->B0 N k<=4):z1c ((N,E,()),L,())=some (D6 N.length L,()):=by
 have j:∀r∈L,r.2.1.length<=4:=λr C=>by
  grind
 have a:∀v,∀t∈J3 L v,chk t=0/\t.length=B0 N v/\t.length<=4:=λv t c=>by
  grind[mem_timesAt]
 have o:∀v,(J3 L v).length<=1000:=λv=>by
  grind[J3]
 have p:∀v,(q2o L v).length<=1000:=λv=>by
  grind[q2o,q0r]
 have n:∀v,(D6 v L).length<=v*1000:=λv=>by
  unfold D6
  induction v with
  | zero=>simp
  | succ v B =>
   grind[List.range_succ]
 have l:A1 (z7p ((N,E,()),L,())) (([]:List Mk),(0:Int),())=some (.inl (D6 N.length L,())):=by
  refine D3 N.length (λv=>(D6 v L,(v:Int),())) _ (λv w=>?_) ?_ (by rfl)
  ·have s:D6 (v+1) L=D6 v L++q2o L v:=by
    grind[D6,List.range_succ]
   have u:q79 (J3 L v,())=some (H6 (J3 L v),()):=y4b (by grind) (B0 N v) λt c=>⟨(a v t c).1,(a v t c).2.1⟩;have e:=q0r (J3 L v);have z:∀y:List Mk×Int×Unit,y.2.1=(v:Int)->A1 (z1f ((N,E,()),L,()) (H6 (J3 L v),()) y) (D6 v L,(0:Int),())=some (.inl (D6 v L++q2o L v,())):=λy g=>by
    have h:A1 (z1f ((N,E,()),L,()) (H6 (J3 L v),()) y) (D6 v L,(0:Int),())=some (.inl (D6 v L++((H6 (J3 L v)).take (H6 (J3 L v)).length).filterMap (q58 L v),())):=by
     refine D3 (H6 (J3 L v)).length (λi=>(D6 v L++((H6 (J3 L v)).take i).filterMap (q58 L v),(i:Int),())) _ (λi b=>?_) ?_ (by simp)
     ·have d:=a v _ ((e.2.1 _).1 (ay b));have m:i<=1000:=by grind
      rw[j20 _ b,<-aS];unfold z1f;simp (disch:=omega) only [dcT,cond_true,C6 b,aa,k3q L q j v y g _ d.2.2,am,O0,g,B2];grind[q58,D4]
     grind[z1f]
    rw[cX]at h;exact h
   unfold z7p;grind[k3p,B2]
  grind[z7p]
 grind[z1c]
theorem y8x {R:List Mk} (d:R.length<=1000000) (h:∀r∈R,r.2.1.length<=1000000):z6q (R,R,())=some (true,()):=by
 unfold z6q;have c:A1 (z6r (R,R,())) ((0:Int),())=some (if(List.range R.length).any (λ_=>false)=true then .inl (false,())else .inr (.inl ())):=by
  refine q0h R.length () _ _ _ (λi b=>?_) ?_
  ·unfold z6r;have a:=h _ (ay b);simp (disch:=omega) only [dcT,cond_true,C6 b,aa,K3 (rfl:R[i].1=R[i].1),K3 (rfl:R[i].2.2.1=R[i].2.2.1),cond_false,q41 a,decide_true,bp,B2];simp
  grind[z6r]
 grind
def q47 (r:Mk):Option Stp:=if r.2.2.1>0 then some (r.1,r.2.1,())else none
def q01 (R:List Mk):List Stp:=R.filterMap q47
theorem y7q (R:List Mk):(q01 R).length<=R.length:=List.length_filterMap_le _ _
theorem y95 {R:List Mk} (c:R.length<=1000000):z7n (R,())=some (q01 R,()):=by
 have a:A1 (z7o (R,())) (([]:List Stp),(0:Int),())=some (.inl (((R.take R.length).filterMap q47),())):=by
  refine D3 R.length (λi=>((R.take i).filterMap q47,(i:Int),())) _ (λi b=>?_) ?_ (by simp)
  ·grind[j20,q47,z7o,C6,B2,D4]
  grind[z7o]
 rw[cX]at a;unfold z7n;rw[a];rfl
end
end

section
open Go Go.Abs

def O4 (l:List Sm) (t:List Int):List (List Int):=(l.filter λs=>decide ((app s.1.toNat s.2.1 s.2.2.1 t).2=0)).map λs=>(app s.1.toNat s.2.1 s.2.2.1 t).1
def K2 (P:Tb) (b:Nat) (L:List Stp):List (List Int):=L.flatMap λs=>O4 (P s.1.toNat b) s.2.1
def P1 (P:Tb) (L:List Stp) (b:Nat):List (List Int):=R9 (G1 (K2 P b L))
theorem y2a (l:List Sm) (t:List Int):(O4 l t).length<=l.length:=by
 unfold O4;rw[bi];exact bA ..
theorem j23 {α β:Type} {f:α->List β} {c:Nat}:∀{l:List α},(∀x∈l,(f x).length<=c)->(l.flatMap f).length<=l.length*c
 | [],_=>cB _
 | a::l,h=>by
  have h1:=h a ar;have h2:=j23 (l:=l) λx hx=>h x (aj _ hx);rw[dR,aK,ai,cP];omega
variable {P:Tb} {L:List Stp}
section
variable {N:List B5} {E:List Edge} {L0:List Mk}
theorem y2b {l:List Sm} {i:Nat} (hi:i<l.length) (t:List Int):O4 (l.take (i+1)) t=O4 (l.take i) t++(if(app l[i].1.toNat l[i].2.1 l[i].2.2.1 t).2=0 then [(app l[i].1.toNat l[i].2.1 l[i].2.2.1 t).1]else []):=by
 unfold O4;rw[aw hi,bW,bC];by_cases h:(app l[i].1.toNat l[i].2.1 l[i].2.2.1 t).2=0
 ·simp[h]
 ·simp[h]
theorem j6u {b:Nat} {i:Nat} (hi:i<L.length):K2 P b (L.take (i+1))=K2 P b (L.take i)++O4 (P L[i].1.toNat b) L[i].2.1:=by
 unfold K2;rw[aw hi,dC];simp
theorem z3b (hP:∀u v,(P u v).length<=154700) (b:Nat) (hL:L.length<=1000):(K2 P b L).length<=1000000000:=by
 have:(K2 P b L).length<=L.length*154700:=j23 λs _=>bw (y2a ..) (hP _ _);omega
theorem q81 (g:GR N.length (B0 N) (B3 N) (edN E)) {P:Tb} (hP:PF N.length (B0 N) (B3 N) (edN E) P) (hb:∀u v,∀x∈P u v,bx x) {L:List Stp} (hok:∀s∈L,∃k:Nat,s.1=(k:Int)/\k<N.length/\chk s.2.1=0/\s.2.1.length=B0 N k) {b:Nat}:∀t∈K2 P b L,chk t=0/\t.length=B0 N b:=λt ht=>by
 obtain⟨s,hs,ht⟩:=bb.1 ht;obtain⟨v,e1,hv,hcv,hlv⟩:=hok s hs;obtain⟨x,hx,rfl⟩:=aW.1 ht;obtain⟨hx,hz⟩:=bn.1 hx;rw[e1,ah]at hx;have hsh:=((hP.gen v b x hx).ok g).2.2;have h:=j3g (hb v b x hx) hcv (by rw[hlv];exact hsh.k) (of_decide_eq_true hz);exact⟨h.1,by rw[h.2,hsh.o]⟩
theorem v4v {n:Nat} {f:Nat->List (List Int)} (hn:n<=12) (h:∀b,b<n->(f b).length<=2000000000/\∀t∈f b,t.length<=1000000):z6l (tab n f,tab n f,())=some (true,()):=by
 unfold z6l;have key:A1 (z6m (tab n f,tab n f,())) ((0:Int),())=some (if(List.range n).any (λ_=>false)=true then .inl (false,())else .inr (.inl ())):=by
  refine q0h n () _ _ _ (λi hi=>?_) ?_
  ·unfold z6m;simp (disch:=omega) only [E8,dcT,cond_true,j9w hi,aa,k07 (h i hi).1 (h i hi).2,bp,cond_false,B2];simp
  ·unfold z6m;simp (disch:=omega) only [E8,dcF,cond_false]
 have hany:(List.range n).any (λ_=>false)=false:=by rw[cE];intro i _;simp
 rw[hany]at key;simp only[K3 rfl,cond_false,key];rfl
end
end

section
open Go Go.Abs

section
variable {N:List B5} {E:List Edge} {L0:BgK}
theorem v7o {l:List Sm} {t:List Int} (e:∀s∈l,bx s/\kN s<=t.length) (h:l.length<=154700) (g:chk t=0) (m:Stp) (d:m.2.1=t) {K:List (List Int)} (f:K.length<=1000000000) :
  A1 (q7r l m) ((0:Int),K,(),())=some (.inl (K++O4 l t,(),()))/\A1 (q74 l m) (K,(0:Int),())=some (.inl (K++O4 l t,())):=by
 have c:∀i,(K++O4 (l.take i) t).length<=1000154700:=λi=>by
  grind[y2a]
 constructor
 ·have a:A1 (q7r l m) ((0:Int),K,(),())=some (.inl (K++O4 (l.take l.length) t,(),())):=by
   refine D3 l.length (λi=>((i:Int),K++O4 (l.take i) t,(),())) _ (λi b=>?_) ?_ (by simp[O4])
   ·rw[y2b b,<-aS];grind[q7r,C6,z5u,B2,D4]
   grind[q7r]
  grind
 ·have a:A1 (q74 l m) (K,(0:Int),())=some (.inl (K++O4 (l.take l.length) t,())):=by
   refine D3 l.length (λi=>(K++O4 (l.take i) t,(i:Int),())) _ (λi b=>?_) ?_ (by simp[O4])
   ·rw[y2b b,<-aS];grind[q74,C6,z5u,B2,D4]
   grind[q74]
  grind
theorem j6t (g:GR N.length (B0 N) (B3 N) (edN E)) {P:Tb} (w:PF N.length (B0 N) (B3 N) (edN E) P) (y:∀u v,∀x∈P u v,bx x) {L:List Stp} (B:L.length<=1000) (p:∀s∈L,∃k:Nat,s.1=(k:Int)/\k<N.length/\chk s.2.1=0/\s.2.1.length=B0 N k) {b:Nat} (c:b<N.length) (f:Int×List (List (List Int))×Unit) (A:f.1=(b:Int)) (o:List (List (List Int))×Int×Unit) (t:o.2.1=(b:Int)) :
  A1 (z2i (L0,((N,E,()),sq N.length P,()),()) (L,()) f) ((0:Int),([]:List (List Int)),(),())=some (.inl (K2 P b L,(),())) /\
  A1 (z0l ((N,E,()),sq N.length P,L,()) o) (([]:List (List Int)),(0:Int),())=some (.inl (K2 P b L,())):=by
 have C:=g.n12;have m:∀u v,(P u v).length<=154700:=λu v=>q33 (w.an u v) (y u v);have d:∀i,(K2 P b (L.take i)).length<=1000000000:=λi=>z3b m b (by grind);have step:∀i (a:i<L.length),∃v:Nat,L[i].1=(v:Int)/\v<N.length/\∀K:List (List Int),K.length<=1000000000->A1 (q7r (P v b) L[i]) ((0:Int),K,(),())=some (.inl (K++O4 (P v b) L[i].2.1,(),()))/\A1 (q74 (P v b) L[i]) (K,(0:Int),())=some (.inl (K++O4 (P v b) L[i].2.1,())):=λi a=>by
  obtain⟨v,l,h,n,r⟩:=p _ (ay a);refine⟨v,l,h,λK z=>v7o (λs j=>⟨y v b s j,?_⟩) (m v b) n L[i] rfl z⟩;rw[r];exact((w.gen v b s j).ok g).2.2.k
 constructor
 ·have q:A1 (z2i (L0,((N,E,()),sq N.length P,()),()) (L,()) f) ((0:Int),([]:List (List Int)),(),())=some (.inl (K2 P b (L.take L.length),(),())):=by
   refine D3 L.length (λi=>((i:Int),K2 P b (L.take i),(),())) _ (λi a=>?_) ?_ (by rfl)
   ·obtain⟨v,l,h,e⟩:=step i a;have j:=(e _ (d i)).1;rw[j6u a];unfold z2i;simp (disch:=omega) only [dcT,cond_true,C3 a,af a,aa,A,l,q4z h c (show N.length<=16 by omega),ah,z8t P h c,j,am,B2]
   grind[z2i]
  grind
 ·have q:A1 (z0l ((N,E,()),sq N.length P,L,()) o) (([]:List (List Int)),(0:Int),())=some (.inl (K2 P b (L.take L.length),())):=by
   refine D3 L.length (λi=>(K2 P b (L.take i),(i:Int),())) _ (λi a=>?_) ?_ (by rfl)
   ·obtain⟨v,l,h,e⟩:=step i a;have j:=(e _ (d i)).2;rw[j6u a];unfold z0l;simp (disch:=omega) only [dcT,cond_true,C6 a,aa,t,l,q4z h c (show N.length<=16 by omega),z8t P h c,ah,j,am,B2]
   grind[z0l]
  grind
theorem v4u (g:GR N.length (B0 N) (B3 N) (edN E)) {P:Tb} (f:PF N.length (B0 N) (B3 N) (edN E) P) (h:∀u v,∀x∈P u v,bx x) {L:List Stp} (m:L.length<=1000) (e:∀s∈L,∃k:Nat,s.1=(k:Int)/\k<N.length/\chk s.2.1=0/\s.2.1.length=B0 N k) :
  A1 (z9a (L0,((N,E,()),sq N.length P,()),()) (L,())) ((0:Int),List.replicate N.length ([]:List (List Int)),())=some (.inl (tab N.length (P1 P L),())) /\
  z0k ((N,E,()),sq N.length P,L,())=some (tab N.length (P1 P L),()):=by
 have F:=g.n12;have j:∀u v,(P u v).length<=154700:=λu v=>q33 (f.an u v) (h u v);have y:∀b,z2d (K2 P b L,())=some (P1 P L b,()):=λb=>by
  by_cases a:b<N.length
  ·exact y85 (z3b j b m) (g.d1 b a).2 λt i=>(q81 g f h e t i).2
  ·have:K2 P b L=[]:=by
    rw[eh];intro t i;obtain⟨s,D,i⟩:=bb.1 i;obtain⟨x,A,rfl⟩:=aW.1 i;exact a ((f.gen _ b x (bn.1 A).1).ok g).2.1
   unfold P1;rw[this];exact y85 (l:=[]) (d:=0) (by simp) (by omega) λt i=>by grind
 have C:∀b,b<N.length->z0v (K2 P b L,())=some (P1 P L b,()):=λb a=>by
  rw[k0l (z3b j b m) (q81 g f h e)];unfold P1;rw[j9p (q81 g f h e)]
 constructor
 ·refine D3 N.length (λb=>((b:Int),tab N.length (λc=>if c<b then P1 P L c else []),())) _ (λb a=>?_) ?_ ?_
  ·have q:(tab N.length (λc=>if c<b then P1 P L c else [])).set b (P1 P L b)=tab N.length (λc=>if c<b+1 then P1 P L c else []):=by
    rw[q1v];grind
   unfold z9a;have p:=λo z=>(j6t (N:=N) (E:=E) (L0:=L0) g f h m e a o z ([],(b:Int),()) rfl).1;grind[E8,C3,B2]
  all_goals grind[z9a,M3,q0o]
 ·have w:A1 (z6z ((N,E,()),sq N.length P,L,())) (([]:List (List (List Int))),(0:Int),())=some (.inl (tab N.length (P1 P L),())):=by
   refine D3 N.length (λb=>(tab b (P1 P L),(b:Int),())) _ (λb a=>?_) ?_ rfl
   ·unfold z6z;have p:=λB n=>(j6t (N:=N) (E:=E) (L0:=L0) g f h m e a ((b:Int),[],()) rfl B n).2;grind[E8,D4,q49,B2]
   grind[z6z]
  grind[z0k]
end
end

end Go.Proofs.Tryz
