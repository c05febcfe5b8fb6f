/- The engine, part 10b: structs, compared. -/
import Derived.Test.YtecofmaegcibeaaGreatDoorAbsSound7
import Derived.Laws.StructEq
import Derived.ChangeKeysEq
namespace Go.Abs
open Go Go.RowKit
variable {P:Program} {L:Nat->Prop} {w0:World}
theorem Q4 {a:Type} {b:Bool} {x:Option a} {y:a} (h:cond b x none=some y):b=true/\x=some y:=by
 grind
def q0t (tv:Bool) (a b:Option Value):Prop:=match tv with
 | false=>∃k x y,a=some (.int k x)/\b=some (.int k y)
 | true=>∃x y,a=some (.bool x)/\b=some (.bool y)
def q7y (P:Program) (d:Nat) (t:TypeId) (l:List (Nat×Bool)):Prop :=
 (∀o∈l,o.1<P.cellsOf t)/\∀(w:World) (xs ys:Array Value) (off:Nat),off+P.cellsOf t<=xs.size->off+P.cellsOf t<=ys.size->(∀o∈l,q0t o.2 xs[off+o.1]? ys[off+o.1]?) ->
  ∃a b r,(part t xs off).run P w=.ok a w/\(part t ys off).run P w=.ok b w/\(Op.equalIn d t a b).run P w=.ok r w/\(r=true↔∀o∈l,xs[off+o.1]? = ys[off+o.1]?)
theorem k58 {xs:Array Value} {a n j:Nat} (b:j<n) (h:a+n<=xs.size):(xs.extract a (a+n))[j]? = xs[a+j]?:=by
 grind
theorem j8u {P:Program} {d c n:Nat} {t:TypeId} {l1 l2:List (Nat×Bool)} (i:q7y P d t l1) (k:c+P.cellsOf t<=n) {xs e:Array Value} (y:n<=xs.size) (u:n<=e.size) (w:World)
  (l:∀o∈l1.map (λp=>(p.1+c,p.2))++l2,q0t o.2 xs[o.1]? e[o.1]?) {rest:Sem Bool} {g:Bool} (v:rest.run P w=.ok g w) (x:g=true↔∀o∈l2,xs[o.1]? = e[o.1]?) :
  ∃r,(do
   let a <-part t xs c
   let b <-part t e c
   let r <-Op.equalIn d t a b
   if(!r)=true then pure false else rest:Sem Bool).run P w=.ok r w/\(r=true↔∀o∈l1.map (λp=>(p.1+c,p.2))++l2,xs[o.1]? = e[o.1]?):=by
 obtain⟨a,b,r,m,q,s,j⟩:=i.2 w xs e c (by omega) (by omega) (λo f=>by
  rw[dz];exact l (o.1+c,o.2) (aB _ (aW.2 ⟨o,f,rfl⟩)))
 simp only[Sem.run_bind,m,q,s,Result.andThen_ok];cases r with
 | false =>
  refine⟨false,by simp,iff_of_false (by simp) λh=>?_⟩;have:(false:Bool)=true:=j.2 λo f=>by
   rw[dz];exact h (o.1+c,o.2) (aB _ (aW.2 ⟨o,f,rfl⟩))
  grind
 | true =>
  refine⟨g,by grind,?_⟩;constructor
  ·grind
  simp_all
theorem q86 {d:Nat} {g:TypeId->Option (List (Nat×Bool))} {n:Nat} (c:∀t l,g t=some l->q7y P d t l):∀(r:List (Nat×TypeId)) (l:List (Nat×Bool)),Q3 g P.cellsOf n r=some l->∀o∈l,o.1<n
 | [],l,h,o,a=>by grind[Q3]
 | (j,t)::r,l,h,o,a=>by
  simp[Q3]at h;split at h
  ·rename_i m e f k;obtain⟨b,h⟩:=Q4 h;have b:=ao b;cases h;rcases aQ.1 a with a | a
   ·obtain⟨q,i,rfl⟩:=aW.1 a;have:=(c t m f).1 q i;omega
   ·exact q86 c r e k o a
  grind
theorem j8s {d:Nat} {g:TypeId->Option (List (Nat×Bool))} {n:Nat} (e:∀t l,g t=some l->q7y P d t l) (w:World) (xs c:Array Value) (j:n<=xs.size) (i:n<=c.size):∀(b:List Field) (l:List (Nat×Bool)),(∀f∈b,f.name≠ "_") ->
  Q3 g P.cellsOf n (b.map λf=>(f.offset,f.type))=some l->(∀o∈l,q0t o.2 xs[o.1]? c[o.1]?)->∃r,(Op.eqFields d xs c b).run P w=.ok r w/\(r=true↔∀o∈l,xs[o.1]? = c[o.1]?)
 | [],l,_,h,_=>by simp[Q3]at h;subst h;exact⟨true,by rfl,by simp⟩
 | f::b,l,u,h,k=>by
  simp[bB,Q3]at h;split at h
  ·rename_i x q v y;obtain⟨a,h⟩:=Q4 h;have a:=ao a;cases h;obtain⟨B,s,p⟩:=j8s e w xs c j i b q (λg e=>u g (aj _ e)) y (λo m=>k o (aC _ m));obtain⟨r,z,A⟩:=j8u (e f.type x v) a j i w k s p;grind[Op.eqFields]
  grind
theorem j8t {d:Nat} {g:TypeId->Option (List (Nat×Bool))} {n:Nat} (k:∀t l,g t=some l->q7y P d t l) {e:TypeId} (w:World) (xs b:Array Value) (m:n<=xs.size) (f:n<=b.size):∀(c:List Nat) (l:List (Nat×Bool)),
  Q3 g P.cellsOf n (c.map λi=>(i*P.cellsOf e,e))=some l->(∀o∈l,q0t o.2 xs[o.1]? b[o.1]?)->∃r,(Op.eqItems d e (P.cellsOf e) xs b c).run P w=.ok r w/\(r=true↔∀o∈l,xs[o.1]? = b[o.1]?)
 | [],l,h,_=>by simp[Q3]at h;subst h;exact⟨true,by rfl,by simp⟩
 | i::c,l,h,j=>by
  simp[bB,Q3]at h;split at h
  ·rename_i y p x s;obtain⟨a,h⟩:=Q4 h;have a:=ao a;cases h;obtain⟨A,q,u⟩:=j8t k w xs b m f c p s (λo v=>j o (aC _ v));obtain⟨r,z,B⟩:=j8u (k e y x) a m f w j q u;grind[Op.eqItems]
  grind
theorem q6g {t:TypeId} {d:TypeDesc} (h:P.underlying t=some d):∃i,P.info? t=some i:=by
 grind[Program.underlying]
theorem q8e (d:Nat):∀(n:Nat) (t:TypeId) (l:List (Nat×Bool)),q18 P n t=some l->q7y P (d+n) t l
 | 0,_,_,h=>by grind[q18]
 | n+1,t,l,h=>by
  simp only[q18]at h;split at h
  ·rename_i b;obtain⟨z,B⟩:=Q4 h;cases B;have z:=ab z;refine⟨λo H=>by grind,λw c g a G E v=>?_⟩;have u:=v (0,true) (by simp);simp[cz]at u;obtain⟨x,y,A,D⟩:=u;exact⟨_,_,x==y,by simp[part,isAgg,run_underlying b,A],by simp[part,isAgg,run_underlying b,D],run_equalIn_bool' w (d+n) t x y b,by simp_all⟩
  ·rename_i k b;obtain⟨z,B⟩:=Q4 h;cases B;have z:=ab z;refine⟨λo H=>by grind,λw c g a G E v=>?_⟩;have u:=v (0,false) (by simp);simp[cz]at u;obtain⟨N,x,y,A,D⟩:=u;exact⟨_,_,x==y,by simp[part,isAgg,run_underlying b,A],by simp[part,isAgg,run_underlying b,D],run_equalIn_int w (d+n) t N k x y b,by simp_all⟩
  ·rename_i J b;cases F:(P.stoodInHeld t||J.toList.any λf=>f.name== "_")with
   | true=>grind
   | false =>
    rw[F,cond_false]at h;simp only[dq,cE,beq_iff_eq]at F;have p:=λt l h=>q8e d n t l h;refine⟨q86 p _ l h,λw c g a G E v=>?_⟩;have C:=q86 p _ l h;obtain⟨i,s⟩:=q6g b;have I:P.underlying t=some (.struct (P.fieldsOf t)):=by grind[Program.fieldsOf]
    have j:P.cellsOf t<=(c.extract a (a+P.cellsOf t)).size:=by grind
    have m:P.cellsOf t<=(g.extract a (a+P.cellsOf t)).size:=by grind
    obtain⟨r,K,M⟩:=j8s p w (c.extract a (a+P.cellsOf t)) (g.extract a (a+P.cellsOf t)) j m J.toList l (λf I=>F.2 f I) h (λo H=>by
     grind)
    refine⟨.agg (c.extract a (a+P.cellsOf t)),.agg (g.extract a (a+P.cellsOf t)),r,by simp[part,isAgg,run_underlying b,run_sizeOf w s],by simp[part,isAgg,run_underlying b,run_sizeOf w s],?_,?_⟩
    all_goals grind[run_equalIn_struct]
  ·rename_i k e b;obtain⟨q,h⟩:=Q4 h;obtain⟨O,q⟩:=cV.1 q;have p:=λt l h=>q8e d n t l h;refine⟨q86 p _ l h,λw c g a G E v=>?_⟩;have C:=q86 p _ l h;obtain⟨i,s⟩:=q6g b;have j:P.cellsOf t<=(c.extract a (a+P.cellsOf t)).size:=by grind
   have m:P.cellsOf t<=(g.extract a (a+P.cellsOf t)).size:=by grind
   obtain⟨r,K,M⟩:=j8t p w (c.extract a (a+P.cellsOf t)) (g.extract a (a+P.cellsOf t)) j m (List.range k) l h (λo H=>by
    grind)
   refine⟨.agg (c.extract a (a+P.cellsOf t)),.agg (g.extract a (a+P.cellsOf t)),r,by simp[part,isAgg,run_underlying b,run_sizeOf w s],by simp[part,isAgg,run_underlying b,run_sizeOf w s],?_,?_⟩
   all_goals grind[run_equalIn_array]
  grind
theorem j0t {κ:A6} {h:Heap} {w:World} {cs F:List SV} {C vs:List Value} (n:RepCells L κ h w cs C) (m:RepCells L κ h w F vs):∀(l:List (Nat×Bool)) (b:Bool),q39 cs F l=some b ->
  (∀o∈l,q0t o.2 C[o.1]? vs[o.1]?)/\(b=true↔∀o∈l,C[o.1]? = vs[o.1]?)
 | [],b,a=>by
  grind[q39]
 | (o,H)::r,b,a=>by
  have get:∀{B:List SV} {i:List Value} {s:SV},RepCells L κ h w B i->B[o]? = some s->∃v,i[o]? = some v/\RepSV L κ h w s v:=λ{B i s} G I=>by
   have g:o<i.length:=by rw[G.1];grind
   exact⟨i[o],af g,(G.2 o s _ I (af g)).1⟩
  cases H with
  | false =>
   simp[q39]at a;split at a
   ·rename_i k x K y q D A t;split at a
    ·rename_i J _;subst J;cases a;obtain⟨z,E⟩:=j0t n m r q t;obtain⟨u,j,d⟩:=get n D;obtain⟨v,f,c⟩:=get m A;have d:u=.int k x:=K1 (L:=L) (κ:=κ) (h:=h) (w:=w) d;have c:v=.int k y:=K1 (L:=L) (κ:=κ) (h:=h) (w:=w) c;subst d;subst c;refine⟨λp e=>?_,?_⟩
     ·rcases al.1 e with rfl | e
      ·exact⟨k,x,y,j,f⟩
      ·exact z p e
     ·simp[ac,beq_iff_eq,E,al,forall_eq_or_imp,j,f,aN,Value.int.injEq,true_and]
    ·cases a
   ·cases a
  | true =>
   simp[q39]at a;split at a
   ·rename_i x y q D A t;cases a;obtain⟨z,E⟩:=j0t n m r q t;obtain⟨u,j,d⟩:=get n D;obtain⟨v,f,c⟩:=get m A;have d:u=.bool x:=q1p (L:=L) (κ:=κ) (h:=h) (w:=w) d;have c:v=.bool y:=q1p (L:=L) (κ:=κ) (h:=h) (w:=w) c;subst d;subst c;refine⟨λp e=>?_,?_⟩
    ·rcases al.1 e with rfl | e
     ·exact⟨x,y,j,f⟩
     ·exact z p e
    ·simp[ac,beq_iff_eq,E,al,forall_eq_or_imp,j,f,aN,Value.bool.injEq]
   ·cases a
theorem y5d {o:Oper} {op:BinOp} {T V:TypeId} {x y:Operand} (I:o.op=.binOp op T x y V) {u:TInfo} (s:u.OK P T) {l:List (Nat×Bool)} (R:u.eqo=some l) {ρ:Env} {cs z:List SV}
  (W:ev ρ x=.agg cs) (K:ev ρ y=.agg z) {b:Bool} (Q:q39 cs z l=some b) (J:cs.length=u.size) (M:z.length=u.size) {c:Bool} (B:(op=.eql/\c=b)\/(op=.neq/\c=!b)) (hs:Heap):A9 P L w0 o ρ hs hs (J4 c):=by
 refine E7 (λc J=>by grind) λκ a w t ok=>?_;have f:=t x;rw[W]at f;have e:=t y;rw[K]at e;obtain⟨j,f,m⟩:=f;obtain⟨h,e,k⟩:=e;obtain⟨v,E,U,n⟩:=s.eqT l R;obtain⟨k1,Y⟩:=j0t m k l b Q;obtain⟨-,d',A,G,-⟩:=s.base;obtain⟨i,Z⟩:=q6g A;have D:j.toArray.size=P.cellsOf T:=by rw[n];simp[m.1,J]
 have C:h.toArray.size=P.cellsOf T:=by rw[n];simp[k.1,M]
 obtain⟨p,q,r,H,F,O,p4⟩:=(q8e 9980 20 T l v).2 w j.toArray h.toArray 0 (by omega) (by omega) (λo I=>by grind);have d:∀(g:List Value),g.toArray.size=P.cellsOf T->(part T g.toArray 0).run P w=.ok (.agg g.toArray) w:=λg hz=>by
  have N:g.toArray.extract 0 (0+P.cellsOf T)=g.toArray:=by
   grind
  grind[part,Sem.run_bind,q7e,Result.andThen_ok,run_sizeOf,Sem.run_pure]
 rw[d j D]at H;rw[d h C]at F;cases H;cases F;have X:r=b:=by
  grind
 refine⟨.bool c,?_,Z0 c⟩;have S:(Op.equal T (.agg j.toArray) (.agg h.toArray)).run P w=.ok r w:=O;unfold execOp;rw[I];simp[f,e,Sem.run_bind,run_eqGuard_agg w op T x y _ _ E,Result.andThen_ok];rcases B with⟨rfl,rfl⟩ | ⟨rfl,rfl⟩
 ·show((do pure (.bool (<-Op.equal T (.agg j.toArray) (.agg h.toArray))):Sem Value).run P w).andThen _=_
  simp_all
 ·show((do pure (.bool (!(<-Op.equal T (.agg j.toArray) (.agg h.toArray)))):Sem Value).run P w).andThen _=_
  simp_all
end Go.Abs
