/- Lemmas on functions of the program, by name. -/
import Derived.Test.YtppblbacbmebfaaGreatDoorMTFuns
import Derived.Test.YtppblbacbmebfaaGreatDoorAbsSums
import Derived.Test.YtppblbacbmebfaaGreatDoorMTLemmasMeanTells2
namespace Go.Proofs.Tryz
section
open Go Go.Abs

abbrev HKy:=Int×(Int×Int×Int×Int×Unit)×Unit
abbrev HT:Ty:=.cons (.int .i64) (.cons (.cons (.int .i64) (.cons (.int .i64) (.cons (.int .i64) (.cons (.int .i64) .nil)))) .nil)
def q7m (t:List Int):HKy:=((t.length:Int),((t[0]?).getD 0,(t[1]?).getD 0,(t[2]?).getD 0,(t[3]?).getD 0,()),())
def v77 (k:HKy):List Int:=([k.2.1.1,k.2.1.2.1,k.2.1.2.2.1,k.2.1.2.2.2.1]:List Int).take k.1.toNat
theorem y0j {t:List Int} (h:t.length<=4):v77 (q7m t)=t:=by
 match t,h with
 | [],_=>rfl
 | [a],_=>rfl
 | [a,b],_=>rfl
 | [a,b,c],_=>rfl
 | [a,b,c,d],_=>rfl
 | _::_::_::_::_::_,h=>simp at h
theorem y7h {t u:List Int} (ht:t.length<=4) (hu:u.length<=4) (h:q7m t=q7m u):t=u:=by
 rw[<-y0j ht,h,y0j hu]
end

section
open Go Go.Abs

abbrev Fd:=Int×(Int×((List Rw)×Unit))
abbrev Cl:=List B4×List Edge×Int×List Fd×Unit
abbrev TK:Ty:=.cons (.int .i64) (.cons (.int .i64) (.cons HT .nil))
abbrev TM:=List ((Int×Int×HKy×Unit)×Bg)
abbrev So:=Cl×TM×Unit
theorem y0m:TK.flat=true:=rfl
def X5 (p:Pl):Int×Int×HKy×Unit:=(p.1,p.2.1,q7m p.2.2.1,())
def q54 (s:So) (p:Pl):Option (Bg×Unit):=(A9 TK s.2.1 (X5 p)).map fun b=>(b,())
def q65 (s:So) (p:Pl) (b:Bg×Unit):So:=(s.1,B0 TK s.2.1 (X5 p) b.1,())
def mk1 (op:Op3) (m:Bg):Bg:=E3 (opL op (m.map toR)) []
def mk2 (op:Op3) (a b:Bg):Bg:=E3 (q27 op (a.map toR) (b.map toR)) []
def R4 (F:List Fd) (x t0:Int):List Rw:=(F.filter fun f=>f.1==x&&decide (f.2.1<=t0)).flatMap fun f=>f.2.2.1.map (sc 1)
def F1 (N:List B4) (E:List Edge) (F:List Fd) (p:Pl) (vs:List (Bg×Unit)):Bg×Unit :=
 if(B8 N E p).1=1 then(E3 (R4 F (C8 E p) ((p.2.2.1[0]?).getD 0)) [],())else match vs with
 | []=>([],())
 | [a]=>if(B8 N E p).1=2 then(mk1 (B8 N E p).2.2.1 a.1,())else a
 | a::b::_=>(mk2 (B8 N E p).2.2.1 a.1 b.1,())
def J8 (b:Bg×Unit):Bool:=decide (128<b.1.length)
theorem j74 {c R:Type} (a:Option R) (b:c->Option R):P5 none a b=a:=rfl
theorem z3h {c R:Type} (x:c) (a:Option R) (b:c->Option R):P5 (some x) a b=b x:=rfl
section
variable {N:List B4} {E:List Edge} {Rd ep:Int} {F:List Fd}
theorem z0g {p:Pl} {b:Bg×Unit} (h:Comes (B5 N E Rd) (F1 N E F) J8 p b):Rise KT b.1/\b.1.length<=128:=by
 induction h with
 | mk p f g i c d =>
  refine⟨?_,?_⟩
  ·unfold F1
   split
   ·exact z5t _
   ·split
    ·exact List.Pairwise.nil
    ·rename_i a
     split
     ·exact z5t _
     ·have e:0<(B5 N E Rd p).length:=by grind
      exact(d 0 _ a (List.getElem?_eq_getElem e) rfl).1
    ·exact z5t _
  ·have:¬ 128<(F1 N E F p f).1.length:=of_decide_eq_false c
   omega
theorem z8q {a:Type} (P:a->Bool) (d:a):∀ (l:List a),l.find? P=((List.range l.length).find? fun i=>P (l.getD i d)).map fun i=>l.getD i d
 | []=>rfl
 | x::l=>by
  rw[List.length_cons,List.range_succ_eq_map,List.find?_cons,List.find?_cons]
  cases b:P x with
  | true=>simp[b]
  | false =>
   rw[z8q P d l]
   simp[List.getD_cons_zero,b,List.find?_map,Option.map_map]
   rfl
theorem v1z (a:E.length<=20) (p:Pl) (T:TM):A4 (q7r (p,(N,E,Rd,F,()),T,())) ((0:Int),())=some (J4 (((List.range E.length).find? fun i=>toE E i==p.1&&poE E i==p.2.1).map fun i:Nat=>((i:Int),())) (.inl ())):=by
 rw[<-M4]
 refine L3 (f:=q7r (p,(N,E,Rd,F,()),T,())) E.length (fun i=>((i:Int),())) _ _ (fun i c=>?_) ?_ rfl
 ·unfold q7r
  simp only[dcT (show(i:Int)<(E.length:Int)by omega),cond_true,G7 e0 (Int.natCast_nonneg i) (show(i:Int)<(E.length:Int)by omega),Int.toNat_natCast,Option.bind_some]
  rw[C7 (by omega)]
  unfold toE poE
  cases b:(E.getD i e0).2.1==p.1 with
  | false=>rfl
  | true=>cases d:(E.getD i e0).2.2.1==p.2.1<;>rfl
 grind[q7r]
theorem j56 (g:GrP N E) {p:Pl} (a:OkP N Rd ep p):∃ j,j<E.length/\(List.range E.length).find? (fun i=>toE E i==p.1&&poE E i==p.2.1)=some j/\(E.getD j e0).1=C8 E p:=by
 obtain⟨j,d,f,l,h⟩:=j57 g a.1 a.2.1 a.2.2.1 a.2.2.2.1
 have k:E.find? (fun e=>e.2.1==p.1&&e.2.2.1==p.2.1)=((List.range E.length).find? fun i=>toE E i==p.1&&poE E i==p.2.1).map fun i=>E.getD i e0:=z8q (fun e=>e.2.1==p.1&&e.2.2.1==p.2.1) e0 E
 cases b:(List.range E.length).find? fun i=>toE E i==p.1&&poE E i==p.2.1 with
 | none =>
  grind
 | some i =>
  grind[C8]
theorem v2a (f:Fd) (m:Bg) (b:f.2.2.1.length<=2000000):A4 (q7s f) ((0:Int),m,())=some (.inl (E3 (f.2.2.1.map (sc 1)) m,())):=by
 have h:=z2a (f:=q7s f) f.2.2.1.length (fun i=>E3 ((f.2.2.1.take i).map (sc 1)) m) (.inl (E3 (f.2.2.1.map (sc 1)) m,())) (fun i a=>?_) ?_
 ·exact h
 ·unfold q7s
  simp only[dcT (show(i:Int)<(f.2.2.1.length:Int)by omega),cond_true,J5,List.getElem?_eq_getElem a,Option.bind_some,C7 (show i<9223372036854775807 by omega),y3d f.2.2.1 1 m a]
  exact q1v (E3 ((f.2.2.1.take i).map (sc 1)) m) (B6 f.2.2.1[i]) (W (1*f.2.2.1[i].2.2.1)) fun z=>(some (Sum.inl (((i+1:Nat):Int),z,())):LR)
 grind[q7s]
theorem j4v {F:List Fd} {x t0:Int} {i:Nat} (h:i<F.length):R4 (F.take (i+1)) x t0=R4 (F.take i) x t0++(if F[i].1=x/\F[i].2.1<=t0 then F[i].2.2.1.map (sc 1)else []):=by
 grind[R4,List.take_succ_eq_append_getElem]
theorem v2b (p:Pl) (T:TM) (v:Edge) {t0:Int} (g:p.2.2.1[0]? = some t0) (k:F.length<=60) (l:∀ f∈F,f.2.2.1.length<=128) :
  A4 (q7t (p,(N,E,Rd,F,()),T,()) v) ((0:Int),([]:Bg),())=some (.inl (E3 (R4 F v.1 t0) [],())):=by
 have j:A7 p.2.2.1 (0:Int)=some t0:=g
 have h:=z2a (f:=q7t (p,(N,E,Rd,F,()),T,()) v) F.length (fun i=>E3 (R4 (F.take i) v.1 t0) []) (.inl (E3 (R4 F v.1 t0) [],())) (fun i e=>?_) ?_
 ·exact h
 ·unfold q7t
  simp only[dcT (show(i:Int)<(F.length:Int)by omega),cond_true,J5,List.getElem?_eq_getElem e,Option.bind_some,C7 (show i<9223372036854775807 by omega),j4v e,j32,R1]
  by_cases a:F[i].1=v.1
  ·rw[if_pos a]
   have c:A7 p.2.2.1 (0:Int)=some t0:=j
   simp[c,Option.bind_some]
   by_cases d:F[i].2.1<=t0
   ·grind[v2a]
   ·rw[dcF d,cond_false,if_neg (fun b=>d b.2)];rfl
  ·rw[if_neg a,if_neg (fun b=>a b.1)];rfl
 grind[q7t]
def q3d (N:List B4):Prop:=∀ v∈N,v.1=2->1<=v.2.2.1.1/\v.2.2.1.1<=8
def q4z (p:Pl) (s:So) (v:Bg×Unit):Option (Option (Bg×Unit)×So):=match J8 v with
 | true=>some (none,s)
 | false=>some (some v,q65 s p v)
theorem q3o (p:Pl) (s:So) (v:Bg×Unit):cond (decide ((v.1.length:Int)>(128:Int))) (some (none,s)) (some (some v,(s.1,B0 TK s.2.1 (X5 p) v.1,())))=q4z p s v:=by
 grind[q4z,J8,q65]
theorem j3o {t:List Int} (h:t.length<=1000):q9e (t,())=some (t,()):=by
 grind[q9e,q5w]
theorem z0h {t:List Int} (b:0<t.length) (a:t.length<=1000):(decide (0<=(0:Int))&&decide ((0:Int)<=(IntKind.i64.wrap ((t.length:Int)-(1:Int))))&&decide ((IntKind.i64.wrap ((t.length:Int)-(1:Int)))<=t.length))=true /\
  (t.drop (0:Int).toNat).take ((IntKind.i64.wrap ((t.length:Int)-(1:Int))).toNat-(0:Int).toNat)=J9 t/\IntKind.i64.wrap ((t.length:Int)-(1:Int))=((t.length-1:Nat):Int):=by
 grind[M0,J9]
theorem y7o {t:List Int} {n:Int} (b:0<t.length) (a:t.length<=1000):z2j (t,n,())=some (J9 t++[n],()):=by
 grind[z0h,z2j,q5w,j3o]
theorem z03 {p q:Pl} {s:So} {a:Pl×So->Option (Option (Bg×Unit)×So)} {val:Pl->List (Bg×Unit)->Bg×Unit} {K:Option (Bg×Unit)×So->Bg×Unit->Option (Option (Bg×Unit)×So)} (d:∀ z b,a (q,s)=some z->z.1=some b->K z b=q4z p z.2 (val p [b])) :
  ((a (q,s)).bind fun z=>P5 z.1 (some (none,z.2)) fun r=>K z r)=(W9 a [q] s).bind (z4w val J8 q65 p):=by
 simp[W9]
 cases h:a (q,s)with
 | none=>rfl
 | some z =>
  simp[Option.bind_some]
  cases c:z.1 with
  | none=>rfl
  | some b =>
   rw[z3h,d z b h c]
   rfl
theorem j5d {a:Type} {l:List a} {i:Int} {x:a} (h:A7 l i=some x):x∈l:=by
 grind[A7]
theorem v1y (g:GrP N E) (ho:q3d N) (hF:F.length<=60) (hr:∀ f∈F,f.2.2.1.length<=128) {p:Pl} (h:OkP N Rd ep p) (X:Rd<=8) (Z:ep<=1048576) {T:TM} {e:Pl×So->Option (Option (Bg×Unit)×So)}
  {I:So->Prop} (S:I ((N,E,Rd,F,()),T,())) (a:∀ q s z,e (q,s)=some z->q∈B5 N E Rd p->I s->I z.2/\∀ b,z.1=some b->Rise KT b.1/\b.1.length<=128) :
  q5d e (p,((N,E,Rd,F,()),T,()))=goD (B5 N E Rd) (F1 N E F) J8 q54 q65 e p ((N,E,Rd,F,()),T,()):=by
 obtain⟨j,hj,hf,B⟩:=j56 g h
 obtain⟨s1,s2,s3,s4,-⟩:=q39 g h
 have c:0<p.2.2.1.length:=(List.getElem?_eq_some_iff.1 h.2.2.2.2.2.1).1
 have hl4:p.2.2.1.length<=4:=by
  have:=(q2s (X8 g.may h.1 h.2.1)).2.1
  have:=h.2.2.2.2.1
  omega
 have n:p.2.2.1≠[]:=List.length_pos_iff.1 c
 have i:A7 N (C8 E p)=some (B8 N E p):=G7 v0 s1 s2
 unfold q5d goD
 have hk:z6k (p.2.2.1,())=some (q7m p.2.2.1,()):=rfl
 simp only[hk,Option.bind_some]
 show P5 (A9 TK T (X5 p)) _ _=_
 have M:q54 ((N,E,Rd,F,()),T,()) p=(A9 TK T (X5 p)).map fun b=>(b,()):=rfl
 rw[M]
 cases hm:A9 TK T (X5 p)with
 | some b=>rfl
 | none =>
  simp only[j74,Option.map_none,v1z g.e20,hf,Option.map_some,q1g,Option.bind_some,Sum.elim_inl,G7 e0 (Int.natCast_nonneg j) (show(j:Int)<(E.length:Int)by omega),Int.toNat_natCast,B,i,R1]
  have G:B5 N E Rd p=B5 N E Rd p:=rfl
  by_cases k:(B8 N E p).1=1
  ·rw[if_pos k,v2b p T _ h.2.2.2.2.2.1 hF hr,B]
   have l:F1 N E F p []=(E3 (R4 F (C8 E p) ep) [],()):=by
    unfold F1
    rw[if_pos k,h.2.2.2.2.2.1];rfl
   have d:B5 N E Rd p=[]:=by grind[B5]
   rw[d]
   show _=q4z p ((N,E,Rd,F,()),T,()) (F1 N E F p [])
   rw[l]
   exact q3o p ((N,E,Rd,F,()),T,()) (E3 (R4 F (C8 E p) ep) [],())
  ·rw[if_neg k]
   by_cases r:(B8 N E p).1=2
   ·have d:B5 N E Rd p=[(C8 E p,0,p.2.2.1,())]:=by grind[B5]
    rw[if_pos r,d]
    refine z03 (p:=p) (val:=F1 N E F) fun z b t u=>?_
    obtain⟨b1,v⟩:=(a _ _ z t (by grind) S).2 b u
    have A:=ho (B8 N E p) (j5d i) r
    rw[y87 b1 (by omega) A.1 A.2]
    have l:F1 N E F p [b]=(mk1 (B8 N E p).2.2.1 b.1,()):=by grind[F1]
    rw[l]
    exact q3o p z.2 (mk1 (B8 N E p).2.2.1 b.1,())
   ·rw[if_neg r]
    have m:∀ b,F1 N E F p [b]=b:=fun b=>by grind[F1]
    by_cases w:(B8 N E p).1=3
    ·have d:B5 N E Rd p=[(C8 E p,0,p.2.2.1,()),(C8 E p,1,p.2.2.1,())]:=by grind[B5]
     rw[if_pos w,d]
     simp[W9]
     cases t:e ((C8 E p,0,p.2.2.1,()),((N,E,Rd,F,()),T,()))with
     | none=>rfl
     | some z =>
      have C:(C8 E p,0,p.2.2.1,())∈B5 N E Rd p:=by grind
      have J:(C8 E p,1,p.2.2.1,())∈B5 N E Rd p:=by grind
      simp[Option.bind_some]
      cases u:z.1 with
      | none=>rfl
      | some b =>
       simp[z3h]
       cases O:e ((C8 E p,1,p.2.2.1,()),z.2)with
       | none=>rfl
       | some D =>
        simp[Option.bind_some]
        cases H:D.1 with
        | none=>rfl
        | some v =>
         obtain⟨c1,c2⟩:=(a _ _ z t C S).2 b u
         obtain⟨d1,d2⟩:=(a _ _ D O J (a _ _ z t C S).1).2 v H
         simp[z3h,Option.bind_some,Option.map_some]
         rw[v1b _ c1 d1 (by omega) (by omega)]
         have l:F1 N E F p [b,v]=(mk2 (B8 N E p).2.2.1 b.1 v.1,()):=by grind[F1]
         show _=q4z p D.2 (F1 N E F p [b,v])
         rw[l]
         exact q3o p D.2 (mk2 (B8 N E p).2.2.1 b.1 v.1,())
    ·rw[if_neg w]
     by_cases x:(B8 N E p).1=4
     ·have d:B5 N E Rd p=[(C8 E p,0,J9 p.2.2.1,())]:=by unfold B5;rw[if_neg k,if_neg r,if_neg w,if_pos x]
      obtain⟨Y,e2,-⟩:=z0h c (show p.2.2.1.length<=1000 by omega)
      rw[if_pos x,d,Y,cond_true,e2]
      refine z03 (p:=p) (val:=F1 N E F) fun z b t u=>?_
      rw[m]
      exact q3o p z.2 b
     ·rw[if_neg x]
      by_cases y:(B8 N E p).1=5
      ·have d:B5 N E Rd p=[(C8 E p,0,p.2.2.1++[Rd],())]:=by unfold B5;rw[if_neg k,if_neg r,if_neg w,if_neg x,if_pos y]
       have o:C2 (p.2.2.1.length+[Rd].length) 8=true:=q5w (by simp;omega)
       rw[if_pos y,d,j3o (by omega)]
       simp only[Option.bind_some,o,Bool.and_self,cond_true]
       refine z03 (p:=p) (val:=F1 N E F) fun z b t u=>?_
       rw[m]
       exact q3o p z.2 b
      ·obtain⟨-,-,e3⟩:=z0h c (show p.2.2.1.length<=1000 by omega)
       have K:A7 p.2.2.1 ((p.2.2.1.length-1:Nat):Int)=some (I5 p.2.2.1):=by rw[J5];exact q2l n
       have R:=h.2.2.2.2.2.2 (p.2.2.1.length-1) (I5 p.2.2.1) (q2l n)
       have hlx:I5 p.2.2.1<=4611686018427387904:=by
        by_cases h1:0<p.2.2.1.length-1
        ·have:=R.2 h1;omega
        ·have V:=q2l n
         rw[show p.2.2.1.length-1=0 by omega,h.2.2.2.2.2.1]at V
         cases V
         omega
       rw[if_neg y,e3,K]
       simp[Option.bind_some]
       have hw:IntKind.i64.wrap (I5 p.2.2.1-1)=I5 p.2.2.1-1:=M0 (by omega) (by omega)
       rw[hw]
       by_cases U:0<I5 p.2.2.1
       ·have d:B5 N E Rd p=[(C8 E p,0,J9 p.2.2.1++[I5 p.2.2.1-1],())]:=by unfold B5;rw[if_neg k,if_neg r,if_neg w,if_neg x,if_neg y,if_pos U]
        rw[dcT (show I5 p.2.2.1-1≥0 by omega),cond_true,y7o c (by omega),d]
        refine z03 (p:=p) (val:=F1 N E F) fun z b t u=>?_
        rw[m]
        exact q3o p z.2 b
       ·have d:B5 N E Rd p=[]:=by unfold B5;rw[if_neg k,if_neg r,if_neg w,if_neg x,if_neg y,if_neg U]
        rw[dcF (show ¬ I5 p.2.2.1-1≥0 by omega),cond_false,d]
        have l:F1 N E F p []=([],()):=by unfold F1;rw[if_neg k]
        show _=q4z p ((N,E,Rd,F,()),T,()) (F1 N E F p [])
        rw[l]
        exact q3o p ((N,E,Rd,F,()),T,()) ([],())
theorem q7o (g:GrP N E) {p q:Pl} (a:OkP N Rd ep p) (c:OkP N Rd ep q) (h:X5 p=X5 q):p=q:=by
 have d:∀ {p:Pl},OkP N Rd ep p->p.2.2.1.length<=4:=fun {p} a=>by
  have:=(q2s (X8 g.may a.1 a.2.1)).2.1
  have:=a.2.2.2.2.1
  omega
 grind[X5,y7h]
theorem v1p (g:GrP N E) (K:q3d N) (A:F.length<=60) (H:∀ f∈F,f.2.2.1.length<=128) (k:0<=Rd) (o:Rd<=8) (r:ep<=1048576) {p:Pl} (a:OkP N Rd ep p) :
  ∃ z,q1p q5d (p,((N,E,Rd,F,()),[],()))=some z/\j2d (B5 N E Rd) (F1 N E F) J8 p z.1:=by
 obtain⟨B,C⟩:=y6g (deps:=B5 N E Rd) (val:=F1 N E F) (big:=J8) (Ok:=OkP N Rd ep) (Inv:=fun s:So=>s.1=(N,E,Rd,F,())) (get:=q54) (set:=q65) (R:=q1k q5d)
  (fun p q a j=>(q1c g a k j).2.1)
  (fun s p b d a=>⟨d,fun G O D h=>by
   unfold q54 q65 at h
   by_cases e:X5 G=X5 p
   ·grind[q2o,y0m,q7o]
   ·rw[q2n y0m _ _ _ _ e]at h
    exact .inr h⟩)
  (fun y=>rfl)
  (fun n l p s a d=>by
   obtain⟨c,T,⟨⟩⟩:=s
   obtain⟨w,t⟩:=d
   subst w
   exact v1y g K A H a o r (I:=O6 (B5 N E Rd) (F1 N E F) J8 (OkP N Rd ep) (fun s:So=>s.1=(N,E,Rd,F,())) q54) ⟨rfl,t⟩ fun q s z m j d=>by
    obtain⟨J,v⟩:=l q s z (q1c g a k j).2.1 d m
    refine⟨J,fun b M=>?_⟩
    rw[M]at v
    exact z0g v)
 have u:O6 (B5 N E Rd) (F1 N E F) J8 (OkP N Rd ep) (fun s:So=>s.1=(N,E,Rd,F,())) q54 ((N,E,Rd,F,()),[],()):=⟨rfl,fun p b _ h=>by cases h⟩
 obtain⟨n,x⟩:=C p (j2f g k a) a
 exact y7r ⟨n,x _ u⟩ fun n z m=>(B n p _ z a u m).2
end
end

section
open Go Go.Abs

abbrev Ak:=Int×Int×List Int×Int×List Int×List Rw×Bool×Unit
abbrev Xm:=((List B4×List Edge×Unit)×Int×Unit)×List Fd×Int×Int×List Int×Unit
theorem v79 {a b:List Int} (o:a.length<=1000000):z3y (a,b,())=some (decide (a=b),()):=by
 unfold z3y
 simp[V1]
 by_cases h:a.length=b.length
 ·rw[if_pos (by omega)]
  have f:∀ k i,i+k=a.length->(A4 (q95 (a,b,())) ((i:Int),())).bind (Sum.elim (fun l=>(some l)) (Sum.elim (fun p=>(some (true,()))) Empty.elim))=some (decide (a.drop i=b.drop i),()):=by
   intro k
   induction k with
   | zero =>
    intro i j
    rw[H1 (b:=.inr (.inl ())) (by
     grind[q95])]
    grind
   | succ k n =>
    intro i j
    have g:i<a.length:=by omega
    have d:i<b.length:=by omega
    have c:q95 (a,b,()) ((i:Int),())=cond (a[i] != b[i]) (some (.inr (.inl (false,())))) (some (.inl (((i+1:Nat):Int),()))):=by
     grind[q95,y6e,C7]
    rw[List.drop_eq_getElem_cons g,List.drop_eq_getElem_cons d]
    by_cases m:a[i]=b[i]
    ·grind[K2,List.cons.injEq]
    ·rw[q0d m,cond_true]at c
     rw[H1 c]
     grind[List.cons.inj]
  exact f a.length 0 (by omega)
 ·rw[if_neg (by omega),decide_eq_false (fun e=>h (by rw[e]))]
def M1 (v:B4) (t:List Int) (Rd:Int):List Int:=if v.1=1 then []else if v.1=4 then J9 t else if v.1=5 then t++[Rd]else if v.1=6 then J9 t++[I5 t-1]else t
def W8 (v:B4) (t:List Int):Bool:=if v.1=1 then false else if v.1=6 then decide (0<I5 t)else true
def z02 (v:B4) (x:Int) (u:List Int) (k:Nat):List Pl:=(List.range k).map fun i:Nat=>(x,(i:Int),u,())
def pd:Pl:=(0,0,[],())
section
variable {N:List B4} {E:List Edge} {Rd ep:Int} {F:List Fd}
theorem j3z {p:Pl} (s:SrcP N E p):B5 N E Rd p=z02 (B8 N E p) (C8 E p) (M1 (B8 N E p) p.2.2.1 Rd) (if W8 (B8 N E p) p.2.2.1=true then(D6 (B8 N E p)).toNat else 0):=by
 obtain⟨k,i,l,g,h,m,j⟩:=q2s s.may
 unfold B5 z02 M1 W8 D6
 by_cases e:(B8 N E p).1=1
 ·grind
 ·by_cases c:(B8 N E p).1=2
  ·grind
  ·by_cases a:(B8 N E p).1=3
   ·have b:¬ (B8 N E p).1=4:=by omega
    have f:¬ (B8 N E p).1=5:=by omega
    have d:¬ (B8 N E p).1=6:=by omega
    simp[if_neg e,if_neg c,if_pos a,if_neg b,if_neg f,if_neg d,if_true];rfl
   grind
theorem y67 (c:E.length<=20) (a b:Int):A4 (q98 ((N,E,()),a,b,())) ((0:Int),())=some (J4 (((List.range E.length).find? fun i=>toE E i==a&&poE E i==b).map fun i:Nat=>(frE E i,())) (.inl ())):=by
 rw[<-M4]
 refine L3 (f:=q98 ((N,E,()),a,b,())) E.length (fun i=>((i:Int),())) _ _ (fun i e=>?_) ?_ rfl
 ·unfold q98
  simp only[dcT (show(i:Int)<(E.length:Int)by omega),cond_true,G7 e0 (Int.natCast_nonneg i) (show(i:Int)<(E.length:Int)by omega),Int.toNat_natCast,Option.bind_some]
  rw[C7 (by omega)]
  unfold toE poE frE
  cases d:(E.getD i e0).2.1==a with
  | false=>rfl
  | true=>cases g:(E.getD i e0).2.2.1==b<;>rfl
 grind[q98]
theorem y66 (g:GrP N E) {p:Pl} (b:OkP N Rd ep p):q97 ((N,E,()),p.1,p.2.1,())=some (C8 E p,()):=by
 obtain⟨j,d,c,a⟩:=j56 g b
 have a:frE E j=C8 E p:=a
 unfold q97
 simp[y67 g.e20,c,Option.map_some,q1g,Option.bind_some,Sum.elim_inl,a]
theorem j71 (x:Int):([x]:List Int).length=1:=rfl
theorem y7p {t l:List Int} {d:Nat} (j:d<=t.length) (c:t.length<=1000) (g:l.length<=1000):q5u (t,(d:Int),l,())=some (t.take (t.length-d)++l,()):=by
 have f:IntKind.i64.wrap ((t.length:Int)-(d:Int))=((t.length-d:Nat):Int):=by grind[M0]
 have e:A4 (z4a (t,(d:Int),l,())) (([]:List Int),(0:Int),())=some (.inl (t.take (t.length-d),())):=by
  refine N1 (t.length-d) (fun i=>(t.take i,(i:Int),())) _ (fun i a=>?_) ?_ rfl
  ·grind[z4a,q5w,J5,C7,List.take_succ_eq_append_getElem]
  grind[z4a]
 have b:A4 (z4b (t,(d:Int),l,())) (t.take (t.length-d),(0:Int),())=some (.inl (t.take (t.length-d)++l,())):=by
  refine N1 l.length (fun i=>(t.take (t.length-d)++l.take i,(i:Int),())) _ (fun i a=>?_) ?_ (by simp)
  ·unfold z4b
   have h:C2 ((t.take (t.length-d)++l.take i).length+1) 8=true:=q5w (by grind)
   grind[J5,C7,List.take_succ_eq_append_getElem]
  grind[z4b]
 grind[q5u]
theorem y37 (g:GrP N E) {p:Pl} (b:OkP N Rd ep p) (m:Rd<=8) (i:ep<=1048576):z3z (((N,E,()),Rd,()),C8 E p,p.2.2.1,())=some (M1 (B8 N E p) p.2.2.1 Rd,W8 (B8 N E p) p.2.2.1,()):=by
 obtain⟨e,j,u,q,-⟩:=q39 g b
 have a:0<p.2.2.1.length:=(List.getElem?_eq_some_iff.1 b.2.2.2.2.2.1).1
 have f:p.2.2.1.length<=4:=by
  have:=(q2s (X8 g.may b.1 b.2.1)).2.1
  have:=b.2.2.2.2.1
  omega
 have c:p.2.2.1≠[]:=List.length_pos_iff.1 a
 have d:A7 N (C8 E p)=some (B8 N E p):=G7 v0 e j
 obtain⟨-,-,t⟩:=z0h a (show p.2.2.1.length<=1000 by omega)
 have h:A7 p.2.2.1 ((p.2.2.1.length-1:Nat):Int)=some (I5 p.2.2.1):=by grind[J5,q2l]
 have l:=b.2.2.2.2.2.2 (p.2.2.1.length-1) (I5 p.2.2.1) (q2l c)
 have o:I5 p.2.2.1<=1048576:=by
  by_cases s:0<p.2.2.1.length-1
  ·omega
  ·have n:=q2l c
   rw[show p.2.2.1.length-1=0 by omega,b.2.2.2.2.2.1]at n
   grind
 have r:IntKind.i64.wrap (I5 p.2.2.1-1)=I5 p.2.2.1-1:=M0 (by omega) (by omega)
 grind[J9,y7p,z3z,M1,W8]
end
end

section
open Go Go.Abs

section
variable {N:List B4} {E:List Edge} {Rd ep:Int} {F:List Fd}
def e1 (E:List Edge) (d:Bool) (p:Pl):Ak:=(p.1,p.2.1,p.2.2.1,(if d=true then C8 E p else 0),[],[],false,())
def tb1 (E:List Edge) (i:Nat) (ps:List Pl):List Ak:=tab ps.length fun j=>e1 E (decide (j<i)) (ps.getD j pd)
theorem j1p {i j:Nat} {ps:List Pl} (h:j<ps.length):(tb1 E i ps)[j]? = some (e1 E (decide (j<i)) (ps.getD j pd)):=q06 _ h
theorem q47 (i:Nat) (ps:List Pl):(tb1 E i ps).length=ps.length:=q23 _ _
theorem v71 {i:Nat} {ps:List Pl}:(tb1 E i ps).set i (e1 E true (ps.getD i pd))=tb1 E (i+1) ps:=by
 unfold tb1
 rw[q69]
 grind[decide]
theorem v6z {i:Nat} {ps:List Pl} {q:Pl} (h:i<=ps.length):tb1 E i ps++[e1 E false q]=tb1 E i (ps++[q]):=by
 unfold tb1
 rw[List.length_append,List.length_singleton,y0i]
 grind[q0x]
theorem j51 {i:Nat} {ps:List Pl} {os:List (List Int)} {x k:Int} {u:List Int} {b:Bool} (q:ps.length<=1000000) (r:∀ p∈ps,p.2.2.1.length<=1000) :
  A4 (q8x (tb1 E i ps,os,k,()) (x,()) (u,b,())) ((0:Int),())=some (J4 (((List.range ps.length).find? fun j=>decide (ps.getD j pd=(x,k,u,()))).map fun j:Nat=>((j:Int),())) (.inl ())):=by
 rw[<-M4]
 refine L3 (f:=q8x (tb1 E i ps,os,k,()) (x,()) (u,b,())) ps.length (fun j=>((j:Int),())) _ _ (fun j l=>?_) ?_ rfl
 ·have n:=j1p (E:=E) (i:=i) l
  have c:=v79 (a:=(ps.getD j pd).2.2.1) (b:=u) (by grind)
  unfold q8x
  simp only[q47,dcT (show(j:Int)<(ps.length:Int)by omega),cond_true,F8 l,Int.toNat_natCast,n,Option.bind_some,C7 (show j<9223372036854775807 by omega)]
  generalize ps.getD j pd=p at c
  obtain⟨o,m,t,⟨⟩⟩:=p
  unfold e1
  simp only[c,Option.bind_some,R1]
  by_cases d:o=x
  ·rw[if_pos d]
   by_cases g:m=k
   ·rw[if_pos g]
    by_cases h:t=u
    ·rw[decide_eq_true h,decide_eq_true (by grind)];rfl
    ·rw[decide_eq_false h,decide_eq_false (fun e=>h (by grind))];rfl
   ·rw[if_neg g,decide_eq_false (fun e=>g (by grind))];rfl
  ·rw[if_neg d,decide_eq_false (fun e=>d (by grind))];rfl
 grind[q8x,q47]
def OfsP (ps:List Pl) (o:List Int) (ds:List Pl):Prop:=o.length=ds.length/\∀ (m:Nat) a q,o[m]? = some a->ds[m]? = some q->∃ n:Nat,a=(n:Int)/\ps[n]? = some q
theorem OfsP.mono {ps:List Pl} {o:List Int} {b:List Pl} (h:OfsP ps o b) (q:Pl):OfsP (ps++[q]) o b:=⟨h.1,fun m a r c d=>by
 obtain⟨n,e,f⟩:=h.2 m a r c d
 grind⟩
theorem OfsP.snoc {ps:List Pl} {o:List Int} {c:List Pl} (h:OfsP ps o c) {n:Nat} {q:Pl} (f:ps[n]? = some q):OfsP ps (o++[(n:Int)]) (c++[q]):=⟨by simp[h.1],fun m a r d b=>by
 by_cases e:m<o.length
 ·rw[List.getElem?_append_left e]at d
  rw[List.getElem?_append_left (by rw[<-h.1];omega)]at b
  exact h.2 m a r d b
 ·rw[List.getElem?_append_right (by rw[<-h.1];omega),<-h.1]at b
  grind⟩
inductive RchP (N:List B4) (E:List Edge) (Rd:Int) (p0:Pl):Pl->Prop
 | refl:RchP N E Rd p0 p0
 | more {p q:Pl}:RchP N E Rd p0 p->q∈B5 N E Rd p->RchP N E Rd p0 q
theorem v1s {a p:Pl} (h:RchP N E Rd a p) (b:TooBig (B5 N E Rd) (F1 N E F) J8 p):TooBig (B5 N E Rd) (F1 N E F) J8 a:=by
 induction h with
 | refl=>omega
 | more _ c d=>exact d (.under _ _ c b)
structure BfsP (N:List B4) (E:List Edge) (Rd ep:Int) (p0:Pl) (i:Nat) (ps:List Pl) (os:List (List Int)):Prop where
 nd:ps.Nodup
 ok:∀ p∈ps,OkP N Rd ep p
 rch:∀ p∈ps,RchP N E Rd p0 p
 len:os.length=ps.length
 first:ps[0]? = some p0
 of:∀ (j:Nat) p o,j<i->ps[j]? = some p->os[j]? = some o->OfsP ps o (B5 N E Rd p)
 emp:∀ (j:Nat) o,i<=j->os[j]? = some o->o=[]
theorem j5b {ps:List Pl} {i:Nat} {p:Pl} (h:ps[i]? = some p):ps.getD i pd=p:=by grind
structure InnP (N:List B4) (E:List Edge) (Rd ep:Int) (p0:Pl) (i:Nat) (p:Pl) (k:Nat) (ps:List Pl) (os:List (List Int)):Prop where
 nd:ps.Nodup
 ok:∀ p∈ps,OkP N Rd ep p
 rch:∀ p∈ps,RchP N E Rd p0 p
 len:os.length=ps.length
 first:ps[0]? = some p0
 of:∀ (j:Nat) p o,j<i->ps[j]? = some p->os[j]? = some o->OfsP ps o (B5 N E Rd p)
 here:ps[i]? = some p/\∃ o,os[i]? = some o/\OfsP ps o ((B5 N E Rd p).take k)
 emp:∀ (j:Nat) o,i<j->os[j]? = some o->o=[]
theorem InnP.put {g p:Pl} {i k n:Nat} {ps:List Pl} {os:List (List Int)} (h:InnP N E Rd ep g i p k ps os) {q:Pl} (t:(B5 N E Rd p)[k]? = some q) (w:ps[n]? = some q) {o:List Int} (s:os[i]? = some o):InnP N E Rd ep g i p (k+1) ps (os.set i (o++[(n:Int)])):=by
 obtain⟨l,x,b,e⟩:=h.here
 rw[s]at b;cases b
 refine⟨h.nd,h.ok,h.rch,by rw[List.length_set];exact h.len,h.first,fun j r d c u a=>?_,⟨l,o++[(n:Int)],by grind,?_⟩,fun j d c a=>?_⟩
 ·rw[List.getElem?_set_ne (by omega)]at a
  exact h.of j r d c u a
 ·have m:=(List.getElem?_eq_some_iff.1 t).1
  rw[List.take_succ_eq_append_getElem m]
  have:(B5 N E Rd p)[k]=q:=by grind
  rw[this]
  exact e.snoc w
 ·rw[List.getElem?_set_ne (by omega)]at a
  exact h.emp j d c a
theorem InnP.app {n p:Pl} {i k:Nat} {ps:List Pl} {os:List (List Int)} (h:InnP N E Rd ep n i p k ps os) {q:Pl} (v:q∉ps) (w:OkP N Rd ep q) (C:RchP N E Rd n q):InnP N E Rd ep n i p k (ps++[q]) (os++[[]]):=by
 obtain⟨t,o,B,g⟩:=h.here
 have x:i<ps.length:=(List.getElem?_eq_some_iff.1 t).1
 have u:0<ps.length:=(List.getElem?_eq_some_iff.1 h.first).1
 have z:=h.len
 refine⟨List.nodup_append.2 ⟨h.nd,List.nodup_cons.2 ⟨List.not_mem_nil,List.nodup_nil⟩,fun a y b A e=>v (by grind)⟩,fun r c=>?_,fun r c=>?_,by grind,by rw[List.getElem?_append_left u];exact h.first,fun j r l f c d=>?_,⟨by grind,o,by grind,g.mono q⟩,fun j l f d=>?_⟩
 ·rcases List.mem_append.1 c with c | c
  ·exact h.ok r c
  grind
 ·rcases List.mem_append.1 c with c | c
  ·exact h.rch r c
  grind
 ·rw[List.getElem?_append_left (by omega)]at c d
  exact(h.of j r l f c d).mono q
 ·by_cases m:j<os.length
  ·rw[List.getElem?_append_left m]at d
   exact h.emp j l f d
  grind
def q1b:List Int->Nat
 | []=>0
 | x::r=>x.toNat+16*q1b r
theorem z0e:∀ (t:List Int),(∀ x∈t,0<=x/\x<=8)->q1b t<16^t.length
 | [],_=>by decide
 | x::r,h=>by
  have b:=z0e r fun y a=>h y (List.mem_cons_of_mem _ a)
  have:=h x List.mem_cons_self
  rw[List.length_cons,Nat.pow_succ]
  unfold q1b
  omega
theorem j3r:∀ (t u:List Int),t.length=u.length->(∀ x∈t,0<=x/\x<=8)->(∀ x∈u,0<=x/\x<=8)->q1b t=q1b u->t=u
 | [],[],_,_,_,_=>rfl
 | [],_::_,h,_,_,_=>by grind
 | _::_,[],h,_,_,_=>by grind
 | x::r,y::s,h,c,b,e=>by
  have f:=c x List.mem_cons_self
  have g:=b y List.mem_cons_self
  unfold q1b at e
  have e1:x=y:=by omega
  have d:q1b r=q1b s:=by omega
  rw[e1,j3r r s (by simpa using h) (fun z a=>c z (List.mem_cons_of_mem _ a)) (fun z a=>b z (List.mem_cons_of_mem _ a)) d]
def q4m (p:Pl):Nat:=(p.1.toNat*2+p.2.1.toNat)*4096+q1b p.2.2.1.tail
theorem z2t (g:GrP N E) (m:Rd<=8) {p:Pl} (d:OkP N Rd ep p):0<=p.1/\p.1<12/\0<=p.2.1/\p.2.1<2/\p.2.2.1=ep::p.2.2.1.tail/\p.2.2.1.tail.length<=3/\∀ x∈p.2.2.1.tail,0<=x/\x<=8:=by
 obtain⟨b,f,l,o,s,c,j⟩:=d
 have:=(q2s (X8 g.may b f)).2.1
 have:=j0q (N.getD p.1.toNat v0)
 have:=g.n12
 obtain⟨q,n,t,⟨⟩⟩:=p
 cases t with
 | nil=>grind
 | cons a r =>
  simp[List.getElem?_cons_zero,Option.some.injEq]at c
  subst c
  refine⟨b,by omega,l,by omega,rfl,by grind,fun x k=>?_⟩
  obtain⟨i,h,rfl⟩:=List.getElem_of_mem k
  have:=j (i+1) _ (by exact List.getElem?_eq_getElem h)
  omega
theorem y4g (g:GrP N E) (a:Rd<=8) {p:Pl} (d:OkP N Rd ep p):q4m p<98304:=by
 obtain⟨f,i,h,j,l,c,b⟩:=z2t g a d
 have:=z0e _ b
 have k:(16:Nat)^p.2.2.1.tail.length<=16^3:=Nat.pow_le_pow_right (by decide) c
 grind[q4m]
theorem y4f (g:GrP N E) (a:Rd<=8) {p q:Pl} (c:OkP N Rd ep p) (b:OkP N Rd ep q) (h:q4m p=q4m q):p=q:=by
 obtain⟨l,t,m,v,A,e,i⟩:=z2t g a c
 obtain⟨w,z,n,r,u,j,d⟩:=z2t g a b
 have y:=z0e _ i
 have o:=z0e _ d
 have s:(16:Nat)^p.2.2.1.tail.length<=16^3:=Nat.pow_le_pow_right (by decide) e
 have k:(16:Nat)^q.2.2.1.tail.length<=16^3:=Nat.pow_le_pow_right (by decide) j
 have x:=c.2.2.2.2.1
 have B:=b.2.2.2.2.1
 unfold q4m at h
 have e1:p.1=q.1:=by omega
 grind[j3r]
theorem j6w:∀ (n:Nat) (l:List Nat),l.Nodup->(∀ x∈l,x<n)->l.length<=n
 | 0,l,_,h=>by cases l with
  | nil=>grind
  | cons x r=>grind[List.mem_cons_self]
 | n+1,l,c,h=>by
  have e:=j6w n (l.filter fun x=>x != n) (c.filter _) fun x d=>by
   grind
  have:l.length<=(l.filter fun x=>x != n).length+1:=by
   have b:∀ l:List Nat,l.Nodup->l.length<=(l.filter fun x=>x != n).length+1:=by
    intro l
    induction l with
    | nil=>grind
    | cons x r a =>
     grind[List.filter_eq_self]
   grind
  omega
theorem q8l (g:GrP N E) (a:Rd<=8) {ps:List Pl} (f:ps.Nodup) (b:∀ p∈ps,OkP N Rd ep p):ps.length<=98304:=by
 have h:=j6w 98304 (ps.map q4m) ?_ fun x e=>?_
 ·grind
 ·induction ps with
  | nil=>grind
  | cons p r d =>
   grind[y4f,List.mem_cons_self]
 grind[y4g]
end
end

section
open Go Go.Abs

section
variable {N:List B4} {E:List Edge} {Rd ep:Int} {F:List Fd}
def U3 (N:List B4) (E:List Edge) (p:Pl):Nat:=if W8 (B8 N E p) p.2.2.1=true then(D6 (B8 N E p)).toNat else 0
theorem j1u {p:Pl} (s:SrcP N E p):(B5 N E Rd p).length=U3 N E p:=by
 grind[j3z,z02,U3]
theorem y4r {p:Pl} (s:SrcP N E p) {k:Nat} (h:k<U3 N E p):(B5 N E Rd p)[k]? = some (C8 E p,(k:Int),M1 (B8 N E p) p.2.2.1 Rd,()):=by
 have a:k<if W8 (B8 N E p) p.2.2.1=true then(D6 (B8 N E p)).toNat else 0:=h
 grind[j3z,z02]
theorem v3e {n:Nat} (h:n<=1000000):C2 n 104=true:=by
 grind[C2,Nat.ble_eq_true_of_le]
theorem y0o (p:Pl):U3 N E p<=2:=by
 have:=j0q (B8 N E p)
 grind[U3]
theorem v0l (x:Ak):([x]:List Ak).length=1:=rfl
theorem v0m (x:List Int):([x]:List (List Int)).length=1:=rfl
theorem y76 (g:GrP N E) (hR:0<=Rd) (m:Rd<=8) {x p:Pl} (Z:OkP N Rd ep p) (V:RchP N E Rd x p) (L:List Ak) (O:List (List Int)) (i:Nat) (r:List Fd×Int×Int×List Int×Unit):∀ (d k:Nat) (ps:List Pl) (os:List (List Int)),k+d=U3 N E p->InnP N E Rd ep x i p k ps os ->
  ∃ b a,A4 (q31 (((N,E,()),Rd,()),r) (M1 (B8 N E p) p.2.2.1 Rd,W8 (B8 N E p) p.2.2.1,()) (C8 E p,()) (L,O,(i:Int),())) (tb1 E (i+1) ps,os,(k:Int),())=some (.inl (tb1 E (i+1) b,a,()))/\InnP N E Rd ep x i p (U3 N E p) b a:=by
 have s:=q39 g Z
 have l:A7 N (C8 E p)=some (B8 N E p):=G7 v0 s.lo s.hi
 intro d
 induction d with
 | zero =>
  grind[U3,H1,q31,q5s]
 | succ d ih =>
  intro k ps os hk h
  have w:k<U3 N E p:=by omega
  have hk2:k<2:=Nat.lt_of_lt_of_le w (y0o p)
  have hb:W8 (B8 N E p) p.2.2.1=true:=by
   grind[U3]
  have y:(k:Int)<D6 (B8 N E p):=by grind[U3]
  have hq:=y4r (Rd:=Rd) s w
  have v:(C8 E p,(k:Int),M1 (B8 N E p) p.2.2.1 Rd,())∈B5 N E Rd p:=List.mem_of_getElem? hq
  have z:=(q1c g Z hR v).2.1
  have hpl:=q8l g m h.nd h.ok
  have ht:∀ q∈ps,q.2.2.1.length<=1000:=fun q hq=>by
   have:=z2t g m (h.ok q hq)
   grind
  obtain⟨S,o,Y,H⟩:=h.here
  have hi:i<ps.length:=(List.getElem?_eq_some_iff.1 S).1
  have hol:o.length<=1000:=by rw[H.1,List.length_take,j1u s];omega
  have t:C2 (o.length+1) 8=true:=q5w (by omega)
  have step:∀ (n:Nat) c e,InnP N E Rd ep x i p k c e->c[n]? = some (C8 E p,(k:Int),M1 (B8 N E p) p.2.2.1 Rd,())->e[i]? = some o ->
    q31 (((N,E,()),Rd,()),r) (M1 (B8 N E p) p.2.2.1 Rd,W8 (B8 N E p) p.2.2.1,()) (C8 E p,()) (L,O,(i:Int),()) (tb1 E (i+1) ps,os,(k:Int),())=some (.inl (tb1 E (i+1) c,e.set i (o++[(n:Int)]),((k+1:Nat):Int),())) ->
    ∃ b a,A4 (q31 (((N,E,()),Rd,()),r) (M1 (B8 N E p) p.2.2.1 Rd,W8 (B8 N E p) p.2.2.1,()) (C8 E p,()) (L,O,(i:Int),())) (tb1 E (i+1) ps,os,(k:Int),())=some (.inl (tb1 E (i+1) b,a,()))/\InnP N E Rd ep x i p (U3 N E p) b a:=fun n c e h1 hn I he=>by
   rw[K2 he]
   exact ih (k+1) c _ (by omega) (h1.put hq hn I)
  cases T:(List.range ps.length).find? fun j=>decide (ps.getD j pd=(C8 E p,(k:Int),M1 (B8 N E p) p.2.2.1 Rd,()))with
  | some j =>
   have hj:j<ps.length:=List.mem_range.1 (List.mem_of_find?_eq_some T)
   have G:ps[j]? = some (C8 E p,(k:Int),M1 (B8 N E p) p.2.2.1 Rd,()):=by grind
   refine step j ps os h G Y ?_
   unfold q31
   simp only[hb,cond_true,l,Option.bind_some,q5s,dcT y,j51 (by omega) ht,T,Option.map_some,q1g,Sum.elim_inl,dcF (show ¬ (j:Int)<0 by omega),cond_false,q47,F8 hi,Int.toNat_natCast,Y,j71,t,Bool.and_self,Nat.beq_refl,C7 (show k<9223372036854775807 by omega)]
  | none =>
   have A:(C8 E p,(k:Int),M1 (B8 N E p) p.2.2.1 Rd,())∉ps:=fun hm=>by
    grind[List.getElem_of_mem,q50]
   have K:C2 (ps.length+1) 104=true:=v3e (by omega)
   have f:=v6z (E:=E) (i:=i+1) (ps:=ps) (q:=(C8 E p,(k:Int),M1 (B8 N E p) p.2.2.1 Rd,())) (by omega)
   have D:e1 E false (C8 E p,(k:Int),M1 (B8 N E p) p.2.2.1 Rd,())=((C8 E p,(k:Int),M1 (B8 N E p) p.2.2.1 Rd,0,[],[],false,()):Ak):=rfl
   rw[D]at f
   have X:=h.len
   have u:(os++[[]])[i]? = some o:=by grind
   refine step ps.length (ps++[(C8 E p,(k:Int),M1 (B8 N E p) p.2.2.1 Rd,())]) (os++[[]]) (h.app A z (.more V v)) (by grind) u ?_
   unfold q31
   have M:Nat.ble 1 ps.length=true:=Nat.ble_eq_true_of_le (by omega)
   have U:Nat.beq os.length ps.length=true:=by simp_all
   have R:Nat.beq 1 1=true:=rfl
   have Q:Nat.ble 1 1=true:=rfl
   have F:decide ((-1:Int)<0)=true:=rfl
   have J:i<(ps++[(C8 E p,(k:Int),M1 (B8 N E p) p.2.2.1 Rd,())]).length:=by grind
   simp only[hb,cond_true,l,Option.bind_some,q5s,dcT y,j51 (by omega) ht,T,Option.map_none,T3,Sum.elim_inr,Sum.elim_inl,F,q47,v0l,v0m,K,U,R,Q,M,Bool.and_self,f,F8 J,Int.toNat_natCast,u,j71,t,Nat.beq_refl,C7 (show k<9223372036854775807 by omega)]
theorem v0z (g:GrP N E) (Q:0<=Rd) (e:Rd<=8) (D:ep<=1048576) {A:Pl} (r:List Fd×Int×Int×List Int×Unit):∀ (d i:Nat) (ps:List Pl) (os:List (List Int)),98304<i+d->i<=ps.length->BfsP N E Rd ep A i ps os ->
  ∃ b x,A4 (q5o (((N,E,()),Rd,()),r)) (tb1 E i ps,os,(i:Int),())=some (.inl (tb1 E b.length b,x,()))/\BfsP N E Rd ep A b.length b x:=by
 intro d
 induction d with
 | zero=>intro i ps os X hi h;have:=q8l g e h.nd h.ok;omega
 | succ d ih =>
  intro i ps os X hi h
  have V:=q8l g e h.nd h.ok
  by_cases v:i<ps.length
  ·obtain⟨p,hp⟩:∃ p,ps[i]? = some p:=⟨ps[i],List.getElem?_eq_getElem v⟩
   have z:p∈ps:=List.mem_of_getElem? hp
   have Z:=j5b hp
   have U:(tb1 E i ps)[i]? = some (e1 E false p):=by
    grind[j1p]
   have y:(tb1 E i ps).set i (e1 E true p)=tb1 E (i+1) ps:=by grind[v71]
   have G:(tb1 E (i+1) ps)[i]? = some (e1 E true p):=by
    grind
   have n:=h.ok p z
   have H:os[i]? = some []:=by
    have hl:=h.len
    obtain⟨o,k⟩:∃ o,os[i]? = some o:=⟨os[i],List.getElem?_eq_getElem (by omega)⟩
    rw[k,h.emp i o (Nat.le_refl i) k]
   have w:InnP N E Rd ep A i p 0 ps os:=⟨h.nd,h.ok,h.rch,h.len,h.first,h.of,⟨hp,[],H,by simp,fun m a q hm=>by grind⟩,fun j o O k=>h.emp j o (by omega) k⟩
   obtain⟨f,l,h1,c⟩:=y76 g Q e n (h.rch p z) (tb1 E i ps) os i r (U3 N E p) 0 ps os (by omega) w
   have M:BfsP N E Rd ep A (i+1) f l:=⟨c.nd,c.ok,c.rch,c.len,c.first,fun j q o O T k=>by
    by_cases I:j=i
    ·subst I
     obtain⟨R,o2,ho2,S⟩:=c.here
     grind[j1u,q39]
    ·exact c.of j q o (by omega) T k,fun j o O k=>c.emp j o (by omega) k⟩
   have Y:i+1<=f.length:=(List.getElem?_eq_some_iff.1 c.here.1).1
   have J:q5o (((N,E,()),Rd,()),r) (tb1 E i ps,os,(i:Int),())=some (.inl (tb1 E (i+1) f,l,((i+1:Nat):Int),())):=by
    have u:q97 ((N,E,()),(e1 E false p).1,(e1 E false p).2.1,())=some (C8 E p,()):=y66 g n
    have t:=y37 g n e D
    have s:(tb1 E i ps).set i ((e1 E false p).1,(e1 E false p).2.1,(e1 E false p).2.2.1,C8 E p,(e1 E false p).2.2.2.2.1,(e1 E false p).2.2.2.2.2.1,(e1 E false p).2.2.2.2.2.2.1,())=tb1 E (i+1) ps:=y
    have K:(e1 E true p).2.2.1=p.2.2.1:=rfl
    have F:A4 (q31 (((N,E,()),Rd,()),r) (M1 (B8 N E p) p.2.2.1 Rd,W8 (B8 N E p) p.2.2.1,()) (C8 E p,()) (tb1 E i ps,os,(i:Int),())) (tb1 E (i+1) ps,os,(0:Int),())=some (.inl (tb1 E (i+1) f,l,())):=h1
    unfold q5o
    simp only[q47,dcT (show(i:Int)<(ps.length:Int)by omega),cond_true,F8 v,Int.toNat_natCast,U,Option.bind_some,u,s,G,K,t,F,Sum.elim_inl,C7 (show i<9223372036854775807 by omega)]
   grind[K2]
  grind[H1,q5o,q47]
end
end

section
open Go Go.Abs

section
variable {N:List B4} {E:List Edge} {Rd ep:Int} {F:List Fd}
abbrev Kn:=Nat->Option Bg
def v3g:Option Bg->List Rw
 | some b=>b.map toR
 | none=>[]
def e2 (E:List Edge) (p:Pl) (o:List Int) (K:Option Bg):Ak:=(p.1,p.2.1,p.2.2.1,C8 E p,o,v3g K,K.isSome,())
def tb2 (E:List Edge) (ps:List Pl) (os:List (List Int)) (K:Kn):List Ak:=tab ps.length fun j=>e2 E (ps.getD j pd) (os.getD j []) (K j)
theorem q0y (ps:List Pl) (os:List (List Int)) (K:Kn):(tb2 E ps os K).length=ps.length:=q23 _ _
theorem q9j {ps:List Pl} {os:List (List Int)} {K:Kn} {j:Nat} {p:Pl} {o:List Int} (a:ps[j]? = some p) (d:os[j]? = some o):(tb2 E ps os K)[j]? = some (e2 E p o (K j)):=by
 have c:ps.getD j pd=p:=j5b a
 have b:os.getD j []=o:=by grind
 rw[<-c,<-b]
 exact q06 _ (List.getElem?_eq_some_iff.1 a).1
def U4 (K:Kn) (j:Nat) (b:Bg):Kn:=fun i=>if i=j then some b else K i
theorem v74 {ps:List Pl} {os:List (List Int)} {K:Kn} {j:Nat} {p:Pl} {o:List Int} (a:ps[j]? = some p) (c:os[j]? = some o) (b:Bg):(tb2 E ps os K).set j (e2 E p o (some b))=tb2 E ps os (U4 K j b):=by
 unfold tb2
 rw[q69]
 grind[U4]
theorem j6n (E:List Edge):∀ (l:List Pl) (os:List (List Int)),os.length=l.length->q1r (.cons (.int .i64) (.cons (.int .i64) (.cons (.list (.int .i64)) (.cons (.int .i64) (.cons (.list (.int .i64)) (.cons (.list (.cons (.int .i64) (.cons (.int .i64) (.cons (.int .i64) .nil)))) (.cons .bool .nil))))))) 4 (.int .i64) (l.map (e1 E true)) os=some (List.zipWith (fun p o=>e2 E p o none) l os)
 | [],[],_=>rfl
 | [],_::_,h=>by grind
 | _::_,[],h=>by grind
 | p::l,o::os,h=>by
  have a:=j6n E l os (by simpa using h)
  rw[List.map_cons]
  unfold q1r
  rw[a]
  rfl
theorem y8y {ps:List Pl} {os:List (List Int)} (h:os.length=ps.length):q1r (.cons (.int .i64) (.cons (.int .i64) (.cons (.list (.int .i64)) (.cons (.int .i64) (.cons (.list (.int .i64)) (.cons (.list (.cons (.int .i64) (.cons (.int .i64) (.cons (.int .i64) .nil)))) (.cons .bool .nil))))))) 4 (.int .i64) (tb1 E ps.length ps) os=some (tb2 E ps os fun _=>none):=by
 have b:tb1 E ps.length ps=ps.map (e1 E true):=by
  apply List.ext_getElem?
  grind[j1p,q47]
 have a:List.zipWith (fun p o=>e2 E p o none) ps os=tb2 E ps os fun _=>none:=by
  apply List.ext_getElem?
  grind[q9j,q0y]
 grind[j6n]
def KnP (N:List B4) (E:List Edge) (Rd:Int) (F:List Fd) (ps:List Pl) (K:Kn):Prop:=∀ (j:Nat) p b,ps[j]? = some p->K j=some b->Comes (B5 N E Rd) (F1 N E F) J8 p (b,())
def rdB (o:List Int) (K:Kn):Bool:=(List.range o.length).any fun m=>!(K (o.getD m 0).toNat).isSome
def vsK (o:List Int) (K:Kn):List (Bg×Unit):=o.map fun a=>((K a.toNat).getD [],())
def H9 (ps:List Pl) (K:Kn):Nat:=H0 ps.length fun j=>(K j).isSome
theorem v1u {ps:List Pl} {os:List (List Int)} {K:Kn} {p:Pl} {o:List Int} (c:OfsP ps o (B5 N E Rd p)) (r:os.length=ps.length) (j:o.length<=1000) (a b:Int) (k:Option Bg) :
  A4 (q8y (e2 E p o k) (a,b,tb2 E ps os K,())) ((0:Int),())=some (J4 (if rdB o K=true then some (false,())else none) (.inl ())):=by
 unfold rdB
 rw[<-z8p]
 refine L3 (f:=q8y (e2 E p o k) (a,b,tb2 E ps os K,())) o.length (fun m=>((m:Int),())) _ _ (fun m l=>?_) ?_ rfl
 ·obtain⟨n,s,d⟩:=c.2 m o[m] ((B5 N E Rd p)[m]'(by rw[<-c.1];omega)) (List.getElem?_eq_getElem l) (List.getElem?_eq_getElem _)
  have i:n<ps.length:=(List.getElem?_eq_some_iff.1 d).1
  have q:=q9j (E:=E) (K:=K) d (List.getElem?_eq_getElem (show n<os.length by omega))
  have h:A7 o (m:Int)=some (n:Int):=by grind[J5]
  have e:o.getD m 0=(n:Int):=by grind
  unfold q8y
  have g:(e2 E p o k).2.2.2.2.1=o:=rfl
  simp only[g,dcT (show(m:Int)<(o.length:Int)by omega),cond_true,h,Option.bind_some,q0y,F8 i,Int.toNat_natCast,q,e,C7 (show m<9223372036854775807 by omega)]
  show cond (!(K n).isSome) _ _=_
  cases(K n).isSome<;>rfl
 grind[q8y,e2]
theorem y0u {ps:List Pl} {K:Kn} (t:KnP N E Rd F ps K) {p:Pl} {o:List Int} (a:OfsP ps o (B5 N E Rd p)) (e:rdB o K=false):(vsK o K).length=(B5 N E Rd p).length/\(∀ (i:Nat) q v,(B5 N E Rd p)[i]? = some q->(vsK o K)[i]? = some v->Comes (B5 N E Rd) (F1 N E F) J8 q v) /\
  ∀ m (c:m<o.length),∃ (n:Nat) (b:Bg),o[m]=(n:Int)/\n<ps.length/\K n=some b/\(vsK o K)[m]? = some (b,()):=by
 have d:∀ m (c:m<o.length),∃ (n:Nat) (b:Bg) (q:Pl),o[m]=(n:Int)/\n<ps.length/\K n=some b/\(vsK o K)[m]? = some (b,())/\(B5 N E Rd p)[m]? = some q/\ps[n]? = some q:=fun m c=>by
  have l:m<(B5 N E Rd p).length:=by rw[<-a.1];omega
  obtain⟨n,y,h⟩:=a.2 m o[m] ((B5 N E Rd p)[m]) (List.getElem?_eq_getElem c) (List.getElem?_eq_getElem l)
  unfold rdB at e
  rw[List.any_eq_false]at e
  have u:=e m (List.mem_range.2 c)
  grind[Option.isSome_iff_exists,vsK]
 have w:(vsK o K).length=o.length:=by grind[vsK]
 refine⟨by rw[w,a.1],fun i q v s j=>?_,fun m c=>?_⟩
 ·have r:i<o.length:=by grind
  obtain⟨n,b,z,u,A,x,g,f,k⟩:=d i r
  rw[s]at f;cases f
  rw[j]at g;cases g
  exact t n q b k x
 grind
theorem v3q {l:List Rw} (h:R0 l):l.map (sc 1)=l:=by
 have:∀ r∈l,sc 1 r=r:=fun r b=>by
  unfold sc
  rw[Int.one_mul,h r b]
 rw[List.map_congr_left this,List.map_id']
theorem j15 (l:List Rw) (n:Int):R0 (l.map (sc n)):=fun r a=>by
 obtain⟨q,-,rfl⟩:=List.mem_map.1 a
 exact z1s _
theorem v7b (op:Op3) (R S:List Rw):R0 (q27 op R S):=fun r a=>by
 unfold q27 at a
 split at a
 ·rcases List.mem_append.1 a with h | h
  ·exact j15 R 1 r h
  ·exact j15 S 1 r h
 ·obtain⟨q,-,b⟩:=List.mem_flatMap.1 a
  obtain⟨s,-,rfl⟩:=List.mem_map.1 b
  exact z1s _
theorem v7c (op:Op3) {R S:List Rw} (b:R.length<=128) (a:S.length<=128):(q27 op R S).length<=20000:=by
 unfold q27
 split
 ·grind
 ·have d:=z9n op S R
  have c:R.length*S.length<=128*128:=Nat.mul_le_mul b a
  omega
theorem v2s (op:Op3) {R S:List Rw} (d:R0 R) (f:R.length<=128) (e:S.length<=128):q5r (op,R,S,())=some ((E3 (q27 op R S) []).map toR,()):=by
 have b:=v7c op f e
 have a:=v7b op R S
 unfold q5r
 unfold q27 at b a ⊢
 by_cases c:op.1=9
 ·rw[if_pos c]at b a ⊢
  rw[v3q d]at b a ⊢
  simp only[U8 c,cond_true]
  rw[j7f R S 1 (by omega) (by omega)]
  simp only[Option.bind_some]
  rw[z3m (by omega),z4m a];rfl
 ·rw[if_neg c]at b a ⊢
  simp only[O8 c,cond_false]
  rw[v0w op R S (by omega) (by omega)]
  simp only[Option.bind_some,Sum.elim_inl]
  rw[z3m (by omega),z4m a];rfl
theorem y4h {p:Pl} {b:Bg×Unit} (h:Comes (B5 N E Rd) (F1 N E F) J8 p b):R0 (b.1.map toR):=by
 induction h with
 | mk p g f j e d =>
  unfold F1
  split
  ·exact j13 _
  ·split
   ·intro r i;grind
   ·rename_i a
    split
    ·exact j13 _
    ·have c:0<(B5 N E Rd p).length:=by grind
     exact d 0 _ a (List.getElem?_eq_getElem c) rfl
   ·exact j13 _
theorem y5q (F:List Fd) (x t0:Int):R0 (R4 F x t0):=fun r b=>by
 obtain⟨f,-,a⟩:=List.mem_flatMap.1 b
 exact j15 _ 1 r a
theorem z8n (x t0:Int):∀ (F:List Fd),(∀ f∈F,f.2.2.1.length<=128)->(R4 F x t0).length<=F.length*128
 | [],_=>Nat.le_refl 0
 | f::F,h=>by
  have a:=z8n x t0 F fun g b=>h g (List.mem_cons_of_mem _ b)
  have:=h f List.mem_cons_self
  unfold R4 at a ⊢
  rw[List.filter_cons]
  split
  ·rw[List.flatMap_cons,List.length_append,List.length_map,List.length_cons];omega
  ·rw[List.length_cons];omega
theorem y5r (X:Xm) (b:X.2.1=F) (v:Ak) {t0:Int} (a:v.2.2.1[0]? = some t0) (j:F.length<=60) (c:∀ f∈F,f.2.2.1.length<=128) :
  A4 (q8z X v) (([]:List Rw),(0:Int),())=some (.inl (R4 F v.2.2.2.1 t0,())):=by
 subst b
 have e:A7 v.2.2.1 (0:Int)=some t0:=a
 refine N1 X.2.1.length (fun i=>(R4 (X.2.1.take i) v.2.2.2.1 t0,(i:Int),())) _ (fun i g=>?_) ?_ rfl
 ·have h:=z8n v.2.2.2.1 t0 (X.2.1.take i) fun f d=>c f (List.mem_of_mem_take d)
  grind[q8z,J5,C7,j4v,j7f]
 grind[q8z]
theorem y95 (g:GrP N E) (ho:q3d N) (hF:F.length<=60) (hr:∀ f∈F,f.2.2.1.length<=128) {p:Pl} (M:OkP N Rd ep p) {ps:List Pl} {os:List (List Int)} {K:Kn} (hK:KnP N E Rd F ps K) (hos:os.length=ps.length) {o:List Int} (u:OfsP ps o (B5 N E Rd p)) (R:rdB o K=false) (X:Xm) (hX:X.2.1=F) (a:Ak) (hv:a=e2 E p o none) :
  (((A7 N a.2.2.2.1).bind fun c=>(cond (c.1==(1:Int)) ((A4 (q8z X a) (([]:List Rw),(0:Int),())).bind (Sum.elim (fun Z=>((q1w Z).bind fun U=>(some (Sum.inl U)))) Empty.elim)) (cond ((a.2.2.2.2.1.length:Int)==(0:Int)) (some (Sum.inl (([]:List Rw),()))) ((A7 a.2.2.2.2.1 (0:Int)).bind fun B=>(cond (inB B (tb2 E ps os K).length) (((tb2 E ps os K)[B.toNat]?).bind fun t=>(cond (c.1==(2:Int)) ((q5p (c.2.2.1,t.2.2.2.2.2.1,())).bind fun O=>(some (Sum.inl O))) (cond (c.1==(3:Int)) ((A7 a.2.2.2.2.1 (1:Int)).bind fun v=>(cond (inB v (tb2 E ps os K).length) (((tb2 E ps os K)[v.toNat]?).bind fun v64=>((q5r (c.2.2.1,t.2.2.2.2.2.1,v64.2.2.2.2.2.1,())).bind fun T=>(some (Sum.inl T)))) none)) (some (Sum.inl (t.2.2.2.2.2.1,())))))) none))))):Option ((List Rw×Unit)⊕Empty))=some (.inl ((F1 N E F p (vsK o K)).1.map toR,())):=by
 subst hv
 obtain⟨s1,s2,s3,s4,-⟩:=q39 g M
 have k:A7 N (C8 E p)=some (B8 N E p):=G7 v0 s1 s2
 have h1:(e2 E p o none).2.2.2.1=C8 E p:=rfl
 have h2:(e2 E p o none).2.2.2.2.1=o:=rfl
 obtain⟨w1,w2,w3⟩:=y0u hK u R
 simp only[h1,h2,k,Option.bind_some,R1]
 by_cases A:(B8 N E p).1=1
 ·rw[if_pos A,y5r X hX (e2 E p o none) (t0:=ep) M.2.2.2.2.2.1 hF hr]
  have hl:=z8n (C8 E p) ep F hr
  have hlb:F.length*128<=60*128:=Nat.mul_le_mul_right 128 hF
  simp only[Option.bind_some,Sum.elim_inl,h1]
  rw[z3m (by omega),z4m (y5q F (C8 E p) ep)]
  unfold F1
  rw[if_pos A,M.2.2.2.2.2.1];rfl
 ·rw[if_neg A]
  have j:∀ m (hm:m<o.length),∃ (n:Nat) (b:Bg) (G:List Int),A7 o (m:Int)=some (n:Int)/\n<ps.length/\(tb2 E ps os K)[n]? = some (e2 E (ps.getD n pd) G (some b))/\(vsK o K)[m]? = some (b,()):=fun m hm=>by
   obtain⟨n,b,H,V,g3,e⟩:=w3 m hm
   refine⟨n,b,os[n]'(by omega),by grind[J5],V,?_,e⟩
   grind[q9j]
  have r:(vsK o K).length=o.length:=by grind[vsK]
  by_cases h0:o.length=0
  ·grind[F1]
  ·rw[if_neg (by omega)]
   obtain⟨n,b,G,H,V,g3,e⟩:=j 0 (by omega)
   have H:A7 o (0:Int)=some (n:Int):=H
   have hd0:∃ q,(B5 N E Rd p)[0]? = some q:=⟨_,List.getElem?_eq_getElem (show 0<(B5 N E Rd p).length by omega)⟩
   obtain⟨q0,hq0⟩:=hd0
   have w:=w2 0 q0 _ hq0 e
   obtain⟨-,b2⟩:=z0g w
   have C:R0 (b.map toR):=y4h w
   have b2:b.length<=128:=b2
   have i:∀ (n:Nat) (G:List Int) (b:Bg),(e2 E (ps.getD n pd) G (some b)).2.2.2.2.2.1=b.map toR:=fun _ _ _=>rfl
   simp only[H,Option.bind_some,q0y,F8 V,cond_true,Int.toNat_natCast,g3,i]
   have hlen:=u.1
   by_cases I:(B8 N E p).1=2
   ·have z:=ho (B8 N E p) (j5d k) I
    have hd:(B5 N E Rd p).length=1:=by grind[B5]
    have d:vsK o K=[(b,())]:=by
     match hh:vsK o K,r,e with
     | [x],_,e=>grind
     | [],h,_=>grind
     | _::_::_,h,_=>grind
    rw[if_pos I,v2h z.1 z.2 (by grind),z4m (v0s C),d]
    unfold F1
    rw[if_neg A]
    simp only[if_pos I];rfl
   ·rw[if_neg I]
    by_cases k3:(B8 N E p).1=3
    ·have hd:(B5 N E Rd p).length=2:=by grind[B5]
     obtain⟨n',b',op',s,J,e3',l⟩:=j 1 (by omega)
     have s:A7 o (1:Int)=some (n':Int):=s
     obtain⟨q1,Y⟩:∃ q,(B5 N E Rd p)[1]? = some q:=⟨_,List.getElem?_eq_getElem (by omega)⟩
     have Q:=w2 1 q1 _ Y l
     obtain⟨-,D⟩:=z0g Q
     have D:b'.length<=128:=D
     have d:vsK o K=[(b,()),(b',())]:=by
      match hh:vsK o K,r,e,l with
      | [x,y],_,e,l=>grind
      | [],h,_,_=>grind
      | [_],h,_,_=>grind
      | _::_::_::_,h,_,_=>grind
     rw[if_pos k3]
     simp only[s,Option.bind_some,F8 J,cond_true,Int.toNat_natCast,e3',i]
     rw[v2s _ C (by grind) (by grind),d]
     unfold F1
     rw[if_neg A];rfl
    ·have hd:(B5 N E Rd p).length<=1:=by
      unfold B5
      grind
     have d:vsK o K=[(b,())]:=by
      match hh:vsK o K,r,e with
      | [x],_,e=>grind
      | [],h,_=>grind
      | _::_::_,h,_=>grind
     grind[F1]
end
end

section
open Go Go.Abs

section
variable {N:List B4} {E:List Edge} {Rd ep:Int} {F:List Fd}
theorem y0r {K:Kn} {i j:Nat} {b:Bg} (h:(K i).isSome=true):(U4 K j b i).isSome=true:=by
 grind[U4]
theorem v1t {o:List Int} {K a:Kn} (h:∀ i,(K i).isSome=true->(a i).isSome=true) (b:rdB o K=false):rdB o a=false:=by
 grind[rdB]
theorem y4e {ps:List Pl} {K:Kn} {j:Nat} (c:j<ps.length) (a:K j=none) (b:Bg):H9 ps (U4 K j b)=H9 ps K+1:=by
 unfold H9
 rw[z6e (p:=fun i=>(U4 K j b i).isSome) (q:=fun i=>(K i).isSome) (r:=fun i=>decide (i=j)) ps.length fun i _=>by
  grind[U4]]
 grind[z6d]
theorem y4c (ps:List Pl) (K:Kn):H9 ps K<=ps.length:=z0d _ _
theorem v1g (g:GrP N E) (hR8:Rd<=8) (ho:q3d N) (hF:F.length<=60) (hr:∀ f∈F,f.2.2.1.length<=128) {T:Pl} {ps:List Pl} {os:List (List Int)} (h:BfsP N E Rd ep T ps.length ps os) (r:Int×Int×List Int×Unit):∀ (j:Nat) (K:Kn),j<=ps.length->KnP N E Rd F ps K ->
  ∃ a,A4 (q02 (((N,E,()),Rd,()),F,r)) ((H9 ps K:Int),(j:Int)-1,tb2 E ps os K,())=some a /\
   ((∃ S,a=.inl ([],1,S,())/\TooBig (B5 N E Rd) (F1 N E F) J8 T) \/
    ∃ d,a=.inr (.inl ((H9 ps d:Int),tb2 E ps os d,()))/\KnP N E Rd F ps d/\(∀ i,(K i).isSome=true->(d i).isSome=true)/\∀ i o,i<j->os[i]? = some o->rdB o K=false->(d i).isSome=true):=by
 intro j
 have hpl:=q8l g hR8 h.nd h.ok
 have M:=h.len
 induction j with
 | zero =>
  grind[H1,q02]
 | succ i ih =>
  intro K Y X
  have Q:i<ps.length:=by omega
  obtain⟨p,C⟩:∃ p,ps[i]? = some p:=⟨ps[i],List.getElem?_eq_getElem Q⟩
  obtain⟨o,z⟩:∃ o,os[i]? = some o:=⟨os[i],List.getElem?_eq_getElem (by omega)⟩
  have t:=h.of i p o Q C z
  have R:p∈ps:=List.mem_of_getElem? C
  have J:=h.ok p R
  have ho2:o.length<=1000:=by rw[t.1,j1u (q39 g J)];grind[y0o]
  have hg:=q9j (E:=E) (K:=K) C z
  have D:((i+1:Nat):Int)-1=(i:Int):=by omega
  have hwi:IntKind.i64.wrap ((i:Int)-1)=(i:Int)-1:=M0 (by omega) (by omega)
  have hcl:=y4c ps K
  have hwc:IntKind.i64.wrap ((H9 ps K:Int)+1)=((H9 ps K+1:Nat):Int):=C7 (by omega)
  rw[D]
  have u:q02 (((N,E,()),Rd,()),F,r) ((H9 ps K:Int),(i:Int),tb2 E ps os K,())=some (.inl ((H9 ps K:Int),(i:Int)-1,tb2 E ps os K,()))->((K i).isSome=true\/rdB o K=true)->∃ a,A4 (q02 (((N,E,()),Rd,()),F,r)) ((H9 ps K:Int),(i:Int),tb2 E ps os K,())=some a /\
   ((∃ S,a=.inl ([],1,S,())/\TooBig (B5 N E Rd) (F1 N E F) J8 T) \/
    ∃ d,a=.inr (.inl ((H9 ps d:Int),tb2 E ps os d,()))/\KnP N E Rd F ps d/\(∀ i,(K i).isSome=true->(d i).isSome=true)/\∀ j o,j<i+1->os[j]? = some o->rdB o K=false->(d j).isSome=true):=fun he O=>by
   grind[K2]
  cases hk:K i with
  | some b =>
   refine u ?_ (.inl (by grind))
   grind[e2,q02,F8,Int.toNat_natCast]
  | none =>
   have h7:(e2 E p o (K i)).2.2.2.2.2.2.1=false:=by show(K i).isSome=false;grind
   have h4:=fun c=>v1u (E:=E) (K:=K) t M ho2 (H9 ps K:Int) (i:Int) c
   cases n:rdB o K with
   | true =>
    refine u ?_ (.inr n)
    grind[q02,F8,Int.toNat_natCast,q1g]
   | false =>
    obtain⟨w1,w2,-⟩:=y0u X t n
    have s:=y95 g ho hF hr J X M t n (((N,E,()),Rd,()),F,r) rfl (e2 E p o (K i)) (by grind)
    generalize B:F1 N E F p (vsK o K)=v at s
    simp[q0y]at s
    obtain⟨b,⟨⟩⟩:=v
    have hset:∀ k:Bool,(tb2 E ps os K).set i ((e2 E p o (K i)).1,(e2 E p o (K i)).2.1,(e2 E p o (K i)).2.2.1,(e2 E p o (K i)).2.2.2.1,(e2 E p o (K i)).2.2.2.2.1,b.map toR,k,())=(tb2 E ps os K).set i (p.1,p.2.1,p.2.2.1,C8 E p,o,b.map toR,k,()):=fun k=>rfl
    have I:∀ x:Ak,((tb2 E ps os K).set i x)[i]? = some x:=fun x=>List.getElem?_set_self (by grind)
    have G:∀ l:List Rw,q5n (l,())=some (decide ((l.length:Int)>128),()):=fun l=>rfl
    have h7f:(e2 E p o (K i)).2.2.2.2.2.2.1=(K i).isSome:=rfl
    by_cases w:128<b.length
    ·have y:J8 (F1 N E F p (vsK o K))=true:=by rw[B];exact decide_eq_true w
     have hst:q02 (((N,E,()),Rd,()),F,r) ((H9 ps K:Int),(i:Int),tb2 E ps os K,())=some (.inr (.inl ([],1,(tb2 E ps os K).set i (p.1,p.2.1,p.2.2.1,C8 E p,o,b.map toR,false,()),()))):=by
      unfold q02
      simp[dcT (show(i:Int)≥0 by omega),cond_true,q0y,F8 Q,Int.toNat_natCast,hg,Option.bind_some,h7,cond_false,h4,n,T3,Sum.elim_inr,Sum.elim_inl,Bool.false_eq_true,if_false,s,List.length_set,I,G,List.length_map,dcT (show(b.length:Int)>128 by omega)]
      rfl
     exact⟨_,H1 hst,.inl ⟨_,rfl,v1s (h.rch p R) (.here p (vsK o K) w1 w2 y)⟩⟩
    ·have y:J8 (F1 N E F p (vsK o K))=false:=by rw[B];exact decide_eq_false w
     have hcm:Comes (B5 N E Rd) (F1 N E F) J8 p (b,()):=by rw[<-B];exact .mk p (vsK o K) w1 w2 y
     have A:q02 (((N,E,()),Rd,()),F,r) ((H9 ps K:Int),(i:Int),tb2 E ps os K,())=some (.inl ((H9 ps (U4 K i b):Int),(i:Int)-1,tb2 E ps os (U4 K i b),())):=by
      rw[y4e Q hk,<-v74 C z]
      unfold q02
      simp[dcT (show(i:Int)≥0 by omega),cond_true,q0y,F8 Q,Int.toNat_natCast,hg,Option.bind_some,h7,cond_false,h4,n,T3,Sum.elim_inr,Sum.elim_inl,Bool.false_eq_true,if_false,s,List.length_set,I,G,List.length_map,dcF (show ¬ (b.length:Int)>128 by omega),hwi,hwc,List.set_set]
      rfl
     rw[K2 A]
     have Z:KnP N E Rd F ps (U4 K i b):=fun j q c U O=>by
      unfold U4 at O
      split at O
      ·rename_i e
       subst e
       rw[C]at U;cases U
       cases O
       exact hcm
      ·exact X j q c U O
     obtain⟨a,h1,h2⟩:=ih (U4 K i b) (by omega) Z
     refine⟨a,h1,h2.imp (fun x=>x) fun ⟨d,a1,a2,a3,a4⟩=>⟨d,a1,a2,fun j Y=>a3 j (y0r Y),fun j o' Y V H=>?_⟩⟩
     by_cases e:j=i
     ·subst e
      exact a3 j (by unfold U4;rw[if_pos rfl];rfl)
     ·exact a4 j o' (by omega) V (v1t (fun m hm=>y0r hm) H)
end
end

section
open Go Go.Abs

section
variable {N:List B4} {E:List Edge} {Rd ep:Int} {F:List Fd}
theorem z6f:∀ n:Nat,H0 n (fun _=>true)=n
 | 0=>rfl
 | n+1=>by
  have:=z6f n
  simp only[H0,this]
  rfl
theorem y4b {ps:List Pl} {K:Kn} (h:ps.length<=H9 ps K):∀ i,i<ps.length->(K i).isSome=true:=fun i b=>by
 cases a:(K i).isSome with
 | true=>rfl
 | false =>
  have:=q6t (p:=fun j=>(K j).isSome) (q:=fun _=>true) ps.length (fun _ _ _=>rfl) ⟨i,b,a,rfl⟩
  grind[z6f,H9]
theorem y4d {ps:List Pl} {K:Kn} (h:H9 ps K<ps.length):∃ i,i<ps.length/\K i=none:=by
 refine Classical.byContradiction fun c=>?_
 have:H9 ps K=ps.length:=by
  unfold H9
  rw[z6c (q:=fun _=>true) fun i d=>?_,z6f]
  cases a:K i with
  | none=>grind
  | some b=>rfl
 omega
theorem v6k (g:GrP N E) (w:0<=Rd) {s:Pl} {ps:List Pl} {os:List (List Int)} (h:BfsP N E Rd ep s ps.length ps os) {K:Kn} (r:H9 ps K<ps.length):∃ i o,i<ps.length/\os[i]? = some o/\K i=none/\rdB o K=false:=by
 have z:=h.len
 obtain⟨i,e,j⟩:=y4d r
 have d:∀ p,Acc (fun q p=>q∈B5 N E Rd p) p->∀ i,ps[i]? = some p->K i=none->∃ i o,i<ps.length/\os[i]? = some o/\K i=none/\rdB o K=false:=by
  intro p u
  induction u with
  | intro p _ x =>
   intro i a j
   have e:i<ps.length:=(List.getElem?_eq_some_iff.1 a).1
   obtain⟨o,t⟩:∃ o,os[i]? = some o:=⟨os[i],List.getElem?_eq_getElem (by omega)⟩
   cases v:rdB o K with
   | false=>grind
   | true =>
    have b:=h.of i p o e a t
    obtain⟨m,f,l⟩:=List.any_eq_true.1 v
    have f:=List.mem_range.1 f
    have k:m<(B5 N E Rd p).length:=by rw[<-b.1];omega
    obtain⟨n,A,c⟩:=b.2 m o[m] ((B5 N E Rd p)[m]) (List.getElem?_eq_getElem f) (List.getElem?_eq_getElem k)
    exact x _ (List.getElem_mem k) n c (by
     simp_all)
 obtain⟨p,a⟩:∃ p,ps[i]? = some p:=⟨ps[i],List.getElem?_eq_getElem e⟩
 exact d p (j2f g w (h.ok p (List.mem_of_getElem? a))) i a j
theorem v3f (g:GrP N E) (v:0<=Rd) (e:Rd<=8) (B:q3d N) (u:F.length<=60) (C:∀ f∈F,f.2.2.1.length<=128) {q:Pl} {ps:List Pl} {os:List (List Int)} (h:BfsP N E Rd ep q ps.length ps os) (r:Int×Int×List Int×Unit):∀ (d:Nat) (K:Kn),ps.length<=H9 ps K+d->KnP N E Rd F ps K ->
  ∃ a,A4 (q3z (((N,E,()),Rd,()),F,r)) ((H9 ps K:Int),tb2 E ps os K,())=some a /\
   ((∃ p,a=.inl ([],1,p,())/\TooBig (B5 N E Rd) (F1 N E F) J8 q)\/∃ b,a=.inr (.inl (tb2 E ps os b,()))/\KnP N E Rd F ps b/\∀ i,i<ps.length->(b i).isSome=true):=by
 have w:=q8l g e h.nd h.ok
 intro d
 induction d with
 | zero =>
  grind[H1,y4b,q3z,q0y]
 | succ d I =>
  intro K Q t
  by_cases D:H9 ps K<ps.length
  ·obtain⟨a,M,A⟩:=v1g g e B u C h r ps.length K (Nat.le_refl _) t
   have O:IntKind.i64.wrap ((ps.length:Int)-1)=(ps.length:Int)-1:=M0 (by omega) (by omega)
   rcases A with⟨p,rfl,G⟩ | ⟨b,rfl,y,l,c⟩
   ·grind[H1,q3z,q0y]
   ·obtain⟨i,o,n,k,H,m⟩:=v6k g v h D
    have z:H9 ps K<H9 ps b:=q6t ps.length (fun j _ x=>l j x) ⟨i,n,by grind,c i o n k m⟩
    have s:q3z (((N,E,()),Rd,()),F,r) ((H9 ps K:Int),tb2 E ps os K,())=some (.inl ((H9 ps b:Int),tb2 E ps os b,())):=by
     unfold q3z
     grind[q0y]
    grind[K2]
  grind
theorem v2p (g:GrP N E) (z:0<=Rd) (a:Rd<=8) (r:ep<=1048576) (w:q3d N) (G:F.length<=60) (A:∀ f∈F,f.2.2.1.length<=128) {p:Pl} (M:OkP N Rd ep p) :
  (∃ b:Bg,Comes (B5 N E Rd) (F1 N E F) J8 p (b,())/\q1y (((N,E,()),Rd,()),F,p.1,p.2.1,p.2.2.1,())=some (b.map toR,0,())) \/
  (TooBig (B5 N E Rd) (F1 N E F) J8 p/\q1y (((N,E,()),Rd,()),F,p.1,p.2.1,p.2.2.1,())=some ([],1,())):=by
 have B:BfsP N E Rd ep p 0 [p] [[]]:=by
  refine⟨List.nodup_cons.2 ⟨List.not_mem_nil,List.nodup_nil⟩,fun q x=>by grind,fun q x=>by rw[List.mem_singleton.1 x];exact .refl,rfl,rfl,fun j q o J=>by omega,fun j o _ w=>?_⟩
  grind
 obtain⟨ps,os,l,h⟩:=v0z g z a r (F,p.1,p.2.1,p.2.2.1,()) 98305 0 [p] [[]] (by omega) (Nat.zero_le _) B
 have l:A4 (q5o (((N,E,()),Rd,()),F,p.1,p.2.1,p.2.2.1,())) ([(p.1,p.2.1,p.2.2.1,0,[],[],false,())],[[]],(0:Int),())=some (.inl (tb1 E ps.length ps,os,())):=l
 obtain⟨t,e,C⟩:=v3f g z a w G A h (p.1,p.2.1,p.2.2.1,()) ps.length (fun _=>none) (Nat.le_add_left _ _) (fun j q b _ k=>by grind)
 have I:H9 ps (fun _=>none)=0:=j3q _
 rw[I]at e
 have e:A4 (q3z (((N,E,()),Rd,()),F,p.1,p.2.1,p.2.2.1,())) ((0:Int),tb2 E ps os (fun _=>none),())=some t:=e
 have H:=y8y (E:=E) (ps:=ps) (os:=os) h.len
 unfold q1y
 simp[l,Option.bind_some,Sum.elim_inl,H,e]
 rcases C with⟨O,rfl,k⟩ | ⟨D,rfl,n,c⟩
 ·grind
 ·have d:0<ps.length:=(List.getElem?_eq_some_iff.1 h.first).1
  obtain⟨b,k⟩:=Option.isSome_iff_exists.1 (c 0 d)
  have Q:=h.len
  obtain⟨o,s⟩:∃ o,os[0]? = some o:=⟨os[0]'(by omega),List.getElem?_eq_getElem (by omega)⟩
  have y:=q9j (E:=E) (K:=D) h.first s
  rw[k]at y
  refine .inl ⟨b,n 0 p b h.first k,?_⟩
  have m:inB (0:Int) ps.length=true:=F8 (i:=0) d
  have u:(0:Int).toNat=0:=rfl
  simp[Sum.elim_inr,Sum.elim_inl,q0y,m,cond_true,u,y,Option.bind_some]
  rfl
end
end

section
open Go Go.Abs

theorem z1m (a b:Int):T5 (a,b,())=some ((a,b,()),()):=rfl
theorem v34 (n:Nat):List.replicate n (0:Int)=cl (tab n fun _=>0):=by
 unfold cl
 rw[show(tab n fun _=>0)=List.replicate n 0 from(j10 ..).symm,List.map_replicate]
 rfl
section
variable {N:List B4} {E:List Edge}
theorem y3o (hn:N.length<=12):A4 (q77 ((N,E,()),())) ((0:Int),())=some (J4 (((List.range N.length).find? fun i=>!I6 (N.getD i v0)).map fun i:Nat=>((i:Int),())) (.inl ())):=by
 rw[<-M4]
 refine L3 (f:=q77 ((N,E,()),())) N.length (fun i=>((i:Int),())) _ _ (fun i hi=>?_) ?_ rfl
 ·unfold q77
  simp only[dcT (show(i:Int)<(N.length:Int)by omega),cond_true,G7 v0 (Int.natCast_nonneg i) (show(i:Int)<(N.length:Int)by omega),Int.toNat_natCast,Option.bind_some,y6i]
  rw[C7 (by omega)]
  cases I6 (N.getD i v0)<;>rfl
 ·unfold q77
  simp only[dcF (show ¬ (N.length:Int)<(N.length:Int)by omega),cond_false]
theorem y4w:(List.range E.length).findSome? (q4q N E)=((List.range E.length).find? fun i=>H4 N E i != 0).map fun i=>(cl (tab N.length (toW E i)),(H4 N E i,(i:Int),()),O5 E i,()):=by
 rw[<-M4]
 refine congrArg (fun f=>(List.range E.length).findSome? f) (funext fun i=>?_)
 unfold q4q
 rw[V1]
theorem y3h {n v:Nat} (hv:v<2^n):((List.range n).findSome? fun j=>if v.testBit j=true then some (Sum.inl (((j:Int),()),()):(((Int×Unit)×Unit)⊕((Int×Unit)×Unit)⊕Empty))else none)=((List.range n).find? fun j=>v.testBit j).map fun j:Nat=>Sum.inl (((j:Int),()),()):=by
 rw[<-M4]
 refine congrArg (fun f=>(List.range n).findSome? f) (funext fun i=>?_)
 cases v.testBit i<;>rfl
theorem y6j (N:List B4) (E:List Edge):z1g ((N,E,()),())=some (R5 N E,()):=by
 unfold z1g R5
 by_cases h1:12<N.length
 ·simp only[dcT (show(N.length:Int)>12 by omega),cond_true,if_pos (Or.inl h1:12<N.length\/20<E.length),z1m,Option.bind_some]
 by_cases h2:20<E.length
 ·simp only[dcF (show ¬ (N.length:Int)>12 by omega),dcT (show(E.length:Int)>20 by omega),cond_true,cond_false,if_pos (Or.inr h2:12<N.length\/20<E.length),z1m,Option.bind_some]
 have hn:N.length<=12:=by omega
 have hE:E.length<=20:=by omega
 simp only[dcF (show ¬ (N.length:Int)>12 by omega),dcF (show ¬ (E.length:Int)>20 by omega),cond_false,if_neg (show ¬ (12<N.length\/20<E.length)by omega),y3o hn,Option.bind_some]
 cases hf1:(List.range N.length).find? fun i=>!I6 (N.getD i v0)with
 | some i =>
  simp only[Option.map_some,q1g,Sum.elim_inl,Option.bind_some,dcT (show(i:Int)≥0 by omega),cond_true,z1m]
 | none =>
  have hN:=z5g hf1
  have hr4:C2 N.length 4=true:=by
   unfold C2
   rw[Bool.and_eq_true]
   exact⟨Nat.ble_eq_true_of_le (by omega),Nat.ble_eq_true_of_le (by omega)⟩
  have d1:decide ((-1:Int)≥0)=false:=by decide
  simp only[Option.map_none,T3,Sum.elim_inr,Sum.elim_inl,Option.bind_some,d1,cond_false,dcT (show(0:Int)<=(N.length:Int)by omega),dcT (show(N.length:Int)<=(N.length:Int)by omega),Int.toNat_natCast,hr4,dcT (show(N.length:Int)<=9223372036854775807 by omega),Bool.and_self,cond_true,v34,y3t hn hN hE,y4w]
  cases hf2:(List.range E.length).find? fun i=>H4 N E i != 0 with
  | some i =>
   have hne:(H4 N E i != 0)=true:=by have:=List.find?_some hf2;exact this
   simp only[Option.map_some,q1g,Sum.elim_inl,Option.bind_some,hne,cond_true]
  | none =>
   have hok:∀ j,j<E.length->H4 N E j=0:=fun j hj=>by simpa using q50 hf2 j hj
   have hT:∀ a,toW E E.length a<2^N.length:=fun a=>j1t a E.length fun j hj=>⟨(q0g (hok j hj)).2.2.1,(q0g (hok j hj)).2.2.2.1⟩
   simp only[Option.map_none,T3,Sum.elim_inr,Sum.elim_inl,Option.bind_some,y3v E hn,M4]
   cases hf3:(List.range N.length).find? fun i=>S4 N E i with
   | some i=>rfl
   | none =>
    have hb:=z5r N (toW E E.length) 4
    have h0:((0:Int) != 0)=false:=rfl
    have hs:(List.range N.length).find? (fun j=>(q18 N (toW E E.length) 4).testBit j)=(List.range N.length).find? fun j=>W4 N E j:=y5y fun j _=>v39 hN hok j
    simp only[Option.map_none,T3,Sum.elim_inr,Sum.elim_inl,Option.bind_some,h0,cond_false,y3r E hn hT,q6a (z2b (Q7 hn hb)),y3s hn hb,y3h hb,hs]
    cases hf4:(List.range N.length).find? fun j=>W4 N E j with
    | some j =>
     simp only[Option.map_some,Option.getD_some,Sum.elim_inl,Option.bind_some,dcT (show(j:Int)≥0 by omega),cond_true,z1m]
    | none =>
     simp only[Option.map_none,Option.getD_none,Sum.elim_inr,Sum.elim_inl,Option.bind_some,d1,cond_false]
end
end

end Go.Proofs.Tryz
