/- The plain law of PostPlays. -/
import Derived.Test.YtecofmaegcibeaaGreatDoorPQFuns
import Derived.Test.YtecofmaegcibeaaGreatDoorAbsSums
import Derived.Test.YtecofmaegcibeaaGreatDoorPQLemmasPostPlays4
namespace Go.Proofs.Tryz
open Go Go.Abs

section
variable {N:List B5} {E:List Edge}
theorem v4w {T:Type} (n:Nat) (f:Int->Nat->T) (Fi:List H8):(List.range Fi.length).findSome? (q2a n N f Fi)=((List.range Fi.length).findSome? (q2a n N Prod.mk Fi)).map λp=>f p.1 p.2:=by
 rw[<-j9i];refine congrArg (λg=>List.findSome? g (List.range Fi.length)) (funext λi=>?_);grind[q2a]
theorem j4l (cs:List Int) (b:cs.length<=1000000) (n:Nat) (p:n<=4) (f:Nat->Wo) (u:∀w,w<n->z1g (f w,f w,())=some (true,())) (e:Int) (x:F9 sp3.args) (h1:q3u x=some ((cs,tab n f,()),e,())) (a:Int×Int×Unit) (j:z01 (x.1,())=some (a,())) (h:a.1=0/\q1n x=some ((cs,tab n f,()),e,())\/a.1≠0/\a.1=e/\cs=[]/\n=0):q6l x=some (true,()):=by
 have s:∀d c,d.1.2.1=tab n f->c.2.1.2.1=tab n f->A1 (z5f d c) ((0:Int),())=some (.inr (.inl ())):=λd c t r=>by
  have k:A1 (z5f d c) ((0:Int),())=some (if(List.range n).any (λ_=>false)=true then .inl (false,())else .inr (.inl ())):=by
   refine q0h n () _ _ _ (λi q=>?_) ?_
   all_goals grind[z5f,E8,j9w,B2]
  grind
 unfold q6l;rcases h with⟨g,h⟩ | ⟨g,v,m,l⟩
 ·simp[h1,j,h,aa,J5 g,cond_true,am,K3 (rfl:e=e),cond_false,j8c b,bp,K3 (rfl:((tab n f).length:Int)=_)];grind
 ·subst m;have o:tab 0 f=[]:=rfl;simp[h1,j,aa,U6 g,cond_false,am,K3 (rfl:a.1=a.1),j8c b,bp,o,K3 (rfl:(([]:List Wo).length:Int)=_)];grind
theorem y90 (d:Int) (Fi:List H8) (S:List St6):q6l ((N,E,()),d,Fi,S,())=some (true,()):=by
 by_cases W:(X2 N E).1=0
 ·obtain⟨P,T,U,hQ,h2,J,X,D⟩:=k1j W;obtain⟨e0,hn,hE,B,V,-⟩:=z4w W;have g:=z4o hn B V;have hsq:=q7j (n:=N.length) (by omega);have hi':A1 (y3k ((N,E,()),d,Fi,S,())) (([]:List JbI),(0:Int),())=some (.inl (J,())):=X;have hrun':A1 (y3n ((N,E,()),d,Fi,S,())) (J,List.replicate (N.length*N.length) ([]:List Sm),())=some (.inl (sq N.length P,())):=D;have a:∀z,q3u ((N,E,()),d,Fi,S,())=z↔(cond (decide (d<(1:Int))) (some ((([]:(List Int)),([]:List Wo),()),(1:Int),())) (cond (decide (d>(4:Int))) (some ((([]:(List Int)),([]:List Wo),()),(1:Int),())) (cond (decide ((Fi.length:Int)>(64:Int))) (some ((([]:(List Int)),([]:List Wo),()),(1:Int),())) (cond (decide ((S.length:Int)>(60:Int))) (some ((([]:(List Int)),([]:List Wo),()),(1:Int),())) ((A1 (q72 ((N,E,()),d,Fi,S,())) ((0:Int),([]:List Rw),(),())).bind (Sum.elim (λz33=>((A1 (q3v ((N,E,()),d,Fi,S,())) ((0:Int),([]:(List Int)),([]:List Wo),(),z33.1,())).bind (Sum.elim (λv=>(some ((v.2.1,v.2.2.1,()),v.1,()))) (Sum.elim (λZ=>((A1 (P9 ((N,E,()),d,Fi,S,()) (sq N.length P,())) ((0:Int),([]:(List Int)),([]:List Wo),(),Z.2.2.2.1,())).bind (Sum.elim (λk=>((A1 (q9z ((N,E,()),d,Fi,S,()) k (sq N.length P,())) ((0:Int),k.2.1,(),k.2.2.2.1,())).bind (Sum.elim (λK=>(some ((k.1,K.1,()),(0:Int),()))) Empty.elim))) Empty.elim))) Empty.elim)))) Empty.elim))))))=z:=λz=>by
   grind[q3u,y06,z8u,Int.toNat_natCast,D4]
  have R:=y41 N E;have b:∀(c:Int),q3u ((N,E,()),d,Fi,S,())=some (([],[],()),c,())->q1n ((N,E,()),d,Fi,S,())=some (([],[],()),c,())->q6l ((N,E,()),d,Fi,S,())=some (true,()):=λc p1 p2 =>
   j4l [] (by simp) 0 (by omega) (λ_=>default) (λw hw=>by omega) c ((N,E,()),d,Fi,S,()) p1 _ R (.inl ⟨e0▸rfl,p2⟩)
  by_cases c1:d<1
  ·refine b 1 ((a _).2 ?_) ?_
   all_goals grind[q1n]
  by_cases c2:d>4
  ·refine b 1 ((a _).2 ?_) ?_
   all_goals grind[q1n]
  by_cases c3:Fi.length>64
  ·refine b 1 ((a _).2 ?_) ?_
   all_goals grind[q1n]
  by_cases c4:S.length>60
  ·refine b 1 ((a _).2 ?_) ?_
   all_goals grind[q1n]
  rw[dcF c1,dcF c2,dcF (show ¬(Fi.length:Int)>64 by omega),dcF (show ¬(S.length:Int)>60 by omega)]at a;simp[cond_false]at a;obtain⟨n,rfl⟩:∃n:Nat,d=(n:Int):=⟨d.toNat,by omega⟩;have e:n<=4:=by omega
  have hmk:=v73 (N:=N) (E:=E) (Fi:=Fi) (S:=S) e (by omega);have hrmk:=k15 (N:=N) (E:=E) (Fi:=Fi) (S:=S) e (by omega);have u:=v4o (E:=E) (S:=S) B (by omega) e (λi=>wk n (λ_=>G9 ((Fi.take i).map gmk) []) (G2 (λ_=>[]) (Fi.take i)) (λ_ _=>[])) (λ_=>rfl);have m:=k11 (E:=E) (S:=S) B (show Fi.length<=64 by omega) e;simp[List.take_zero]at u;have u:A1 (q3v ((N,E,()),(n:Int),Fi,S,())) ((0:Int),([]:List Int),([]:List Wo),(),wk n (λ_=>[]) (λ_=>[]) (λ_ _=>[]),())=_:=u;rw[v4w]at u m;have l:∀z,q1n ((N,E,()),(n:Int),Fi,S,())=z↔((A1 (q3y ((N,E,()),(n:Int),Fi,S,())) ((0:Int),([]:(List Int)),([]:List Wo),(),(List.replicate n ([]:List Stp)),[],(),())).bind (Sum.elim (λx=>(some ((x.2.1,x.2.2.1,()),x.1,()))) (Sum.elim (λF=>((q75 ((N,E,()),())).bind λC=>((A1 (O5 ((N,E,()),(n:Int),Fi,S,()) C) ((0:Int),([]:(List Int)),([]:List Wo),(),F.2.2.2.1,[],(),kt n (λ_ _=>0),())).bind (Sum.elim (λf=>((A1 (z0e ((N,E,()),(n:Int),Fi,S,()) F f) (C.1,(0:Int),f.2.1,(),f.2.2.2.1,f.2.2.2.2.2.2.1,())).bind (Sum.elim (λO=>(some ((f.1,O.1,()),(0:Int),()))) Empty.elim))) Empty.elim)))) Empty.elim)))=z:=λz=>by
   grind[q1n,Int.toNat_natCast,D4]
  simp[hmk,aa,am]at a;cases y:(List.range Fi.length).findSome? (q2a n N Prod.mk Fi)with
  | some p =>
   rw[y]at u m;refine b p.1 ((a _).2 ?_) ((l _).2 ?_)
   ·rw[u];rfl
   ·rw[m];rfl
  | none =>
   rw[y]at u m;simp[bJ,q0c,cX]at u m;have t:∀q∈Fi,I9 n N q=0:=λq hq=>by
    obtain⟨i,X,rfl⟩:=bl.1 hq;have h:=dr.1 y i (aL.2 X);grind[q2a]
   have I0:=PInv.start (n:=n) B (show Fi.length<=64 by omega) t;have s:∀r∈Fi.map gmk,OkM N r:=λr hr=>by
    obtain⟨q,hq,rfl⟩:=aW.1 hr;exact(q1a B (t q hq)).2
   have o:(Fi.map gmk).length<=64:=by grind
   obtain⟨cs,G,Y,H,A,M,Q,q0,I,r1,r2⟩:=y5a (E:=E) (Fi:=Fi) (S:=S) (z1:=[]) g B U T e (by omega) S.length 0 (by omega) (cs:=[]) rfl I0;have j:S.length<=60:=by omega
   have t1:=k4b (E:=E) (Fi:=Fi) (S:=S) g U T e (L:=λw=>G3 (Fi.map gmk) (Y w) w G) (M:=M) (A:=A) (H:=H) (Q:=Q) I.bag (λw=>(z5d I j o s w).1) (λw=>(z5d I j o s w).2) I.perm I.held (λw=>by have:=I.hlen w;omega) cs [] rfl;have t2:=k1b (E:=E) (Fi:=Fi) (S:=S) I j o s g U T e ([],[],(),tab n (G2 (λ_=>[]) Fi),Fi.map gmk,(),()) rfl (cs,[],(),tab n H,G.map nwD,(),kt n Y,()) rfl;refine j4l cs (by omega) n e (V9 N n P H (λw=>G3 (Fi.map gmk) (Y w) w G) Q) (λw hw=>k4y g U T I j o s e w) 0 ((N,E,()),(n:Int),Fi,S,()) ((a _).2 ?_) _ R (.inl ⟨e0▸rfl,(l _).2 ?_⟩)
   all_goals grind
 ·have hm:q3u ((N,E,()),d,Fi,S,())=some (([],[],()),(X2 N E).1,()):=by
   grind[q3u,y06]
  exact j4l [] (by simp) 0 (by omega) (λ_=>default) (λw hw=>by omega) _ ((N,E,()),d,Fi,S,()) hm _ (y41 N E) (.inr ⟨W,rfl,rfl,rfl⟩)
end
theorem postPlays_law (x:F9 sp3.args) (h:WfA sp3.args x):q6l x=some (true,()):=by
 obtain⟨⟨N,E,⟨⟩⟩,a,b,S,⟨⟩⟩:=x;grind[y90]
end Go.Proofs.Tryz
