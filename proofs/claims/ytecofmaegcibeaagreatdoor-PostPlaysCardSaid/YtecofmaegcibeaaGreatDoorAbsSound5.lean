/- The engine, part 8: numbers, addresses, slices, literals. -/
import Derived.Test.YtecofmaegcibeaaGreatDoorAbsSound4
namespace Go.Abs
open Go Go.RowKit
variable {P:Program} {L:Nat->Prop} {w0:World}
theorem v3y (op:BinOp) (T:TypeId) (x y:Operand) (k c:IntKind) (a b:Int) (w:World):(eqGuard op T x y (.int k a) (.int c b)).run P w=.ok () w:=by
 cases op<;>rfl
variable {o:Oper} {op:BinOp} {T:TypeId} {x:Operand} {y:Operand} {k:IntKind}
theorem v4f {a:Act} {d:TypeId} (f:o.op=.binOp op T x y d) {b:IntKind} {p q:Int} (g:a.eval x=.int k p) (e:a.eval y=.int b q) (w:World) :
  (execOp a.eval o).run P w=((binOp op T (.int k p) (.int b q)).run P w).andThen λv c=>.ok (.value v) c:=by
 grind[execOp,Sem.run_bind,v3y,Result.andThen_ok,Sem.run_pure]
variable {ρ:Env}
theorem k2c {R:Type} {D:TypeId} (E:o.op=.binOp op T x y D) {t:IntKind} {p q:Int} (G:ev ρ x=.one (.sc (.int k) p)) (C:ev ρ y=.one (.sc (.int t) q)) {K:AV->Option R} {z:R} (d:j19 op k t p q K=some z) :
  ∃j,K j=some z/\∀(e:Env) (i:Heap),ev e x=ev ρ x->ev e y=ev ρ y->A9 P L w0 o e i i j:=by
 have b:∀(j:AV) (v:Value),(∀w,(binOp op T (.int k p) (.int t q)).run P w=.ok v w)->(∀u h w,RepAV L u h w j v)->∀(e:Env) (i:Heap),ev e x=ev ρ x->ev e y=ev ρ y->A9 P L w0 o e i i j:=by
  intro j v s m e i A B;refine E7 (λc H=>by grind) λu a w l ok=>?_;have r:=l x;rw[A,G]at r;have n:=l y;rw[B,C]at n;exact⟨v,by rw[v4f E (K1 r) (K1 n),s w];rfl,m u i w⟩
 unfold j19 at d;split at d
 ·cases f:decide (q<0)with
  | true=>grind
  | false =>
   rw[f]at d;have g:¬q<0:=of_decide_eq_false f;exact⟨_,d,b _ (.int k (z1o k p q)) (λw=>by simp[binOp,Op.shift,g,z1o]) (λ_ _ _=>M2 _ _)⟩
 ·cases f:decide (q<0)with
  | true=>grind
  | false =>
   rw[f]at d;have g:¬q<0:=of_decide_eq_false f;exact⟨_,d,b _ (.int k (q45 k p q)) (λw=>by simp[binOp,Op.shift,g,q45]) (λ_ _ _=>M2 _ _)⟩
 ·rename_i A B;split at d
  ·grind
  ·rename_i F _;subst F;split at d
   ·exact⟨_,d,b _ (.int k (k.wrap (p+q))) (λw=>by simp[binOp,Op.intArith]) (λ_ _ _=>M2 _ _)⟩
   ·exact⟨_,d,b _ (.int k (k.wrap (p-q))) (λw=>by simp[binOp,Op.intArith]) (λ_ _ _=>M2 _ _)⟩
   ·exact⟨_,d,b _ (.int k (k.wrap (p*q))) (λw=>by simp[binOp,Op.intArith]) (λ_ _ _=>M2 _ _)⟩
   ·cases f:(q==0)with
    | true=>grind
    | false =>
     rw[f]at d;have g:¬q=0:=by grind
     exact⟨_,d,b _ (.int k (k.wrap (p.tdiv q))) (λw=>by simp[binOp,Op.intDiv,g]) (λ_ _ _=>M2 _ _)⟩
   ·cases f:(q==0)with
    | true=>grind
    | false =>
     rw[f]at d;have g:¬q=0:=by grind
     exact⟨_,d,b _ (.int k (p.tmod q)) (λw=>by simp[binOp,Op.intDiv,g]) (λ_ _ _=>M2 _ _)⟩
   ·exact⟨_,d,b _ (.int k (F1 .and k p q)) (λw=>by simp[binOp,Op.intBits,F1]) (λ_ _ _=>M2 _ _)⟩
   ·exact⟨_,d,b _ (.int k (F1 .or k p q)) (λw=>by simp[binOp,Op.intBits,F1]) (λ_ _ _=>M2 _ _)⟩
   ·exact⟨_,d,b _ (.int k (F1 .xor k p q)) (λw=>by simp[binOp,Op.intBits,F1]) (λ_ _ _=>M2 _ _)⟩
   ·exact⟨_,d,b _ (.int k (F1 .andNot k p q)) (λw=>by simp[binOp,Op.intBits,F1]) (λ_ _ _=>M2 _ _)⟩
   ·exact⟨_,d,b _ (.bool (p==q)) (λw=>by simp[binOp,Op.intCmp]) (λ_ _ _=>Z0 _)⟩
   ·exact⟨_,d,b _ (.bool (p != q)) (λw=>by simp[binOp,Op.intCmp]) (λ_ _ _=>Z0 _)⟩
   ·exact⟨_,d,b _ (.bool (decide (p<q))) (λw=>by simp[binOp,Op.intCmp]) (λ_ _ _=>Z0 _)⟩
   ·exact⟨_,d,b _ (.bool (decide (p<=q))) (λw=>by simp[binOp,Op.intCmp]) (λ_ _ _=>Z0 _)⟩
   ·exact⟨_,d,b _ (.bool (decide (p>q))) (λw=>by simp[binOp,Op.intCmp]) (λ_ _ _=>Z0 _)⟩
   ·exact⟨_,d,b _ (.bool (decide (p≥q))) (λw=>by simp[binOp,Op.intCmp]) (λ_ _ _=>Z0 _)⟩
   grind
variable {b:Bool}
theorem y5b {m:TypeId} (n:o.op=.binOp op T x y m) {h:TInfo} (l:h.OK P T) (d:h.agg=false) (k:h.ty=.bool) {p q:Bool} (r:ev ρ x=.one (.sc .bool p)) (s:ev ρ y=.one (.sc .bool q)) (j:(op=.eql/\b=(p==q))\/(op=.neq/\b=(p != q))) (hs:Heap):A9 P L w0 o ρ hs hs (J4 b):=by
 refine E7 (λc v=>by grind) λz a w f ok=>?_;have g:=f x;rw[r]at g;have e:=f y;rw[s]at e;have t:=l.boolT d k;have i:(Op.equal T (.bool p) (.bool q)).run P w=.ok (p==q) w:=by
  unfold Op.equal;rw[show Op.maxDepth=9999+1 from rfl];unfold Op.equalIn;rw[Sem.run_bind,run_underlying t];rfl
 refine⟨.bool b,?_,Z0 b⟩;have u:∀op:BinOp,(eqGuard op T x y (.bool p) (.bool q)).run P w=.ok () w:=λop=>by cases op<;>rfl
 unfold execOp;rw[n];simp[q1p g,q1p e,Sem.run_bind,u,Result.andThen_ok];rcases j with⟨rfl,rfl⟩ | ⟨rfl,rfl⟩
 ·show((do pure (.bool (<-Op.equal T (.bool p) (.bool q))):Sem Value).run P w).andThen _=_
  simp_all
 ·show((do pure (.bool (!(<-Op.equal T (.bool p) (.bool q)))):Sem Value).run P w).andThen _=_
  rw[Sem.run_bind,i];rfl
theorem z8b {B:TypeId} (v:o.op=.binOp op T x y B) {r:TInfo} (p:r.OK P T) {e:TypeId} (z:r.elem=some e) {s:SV} (G:ev ρ x=.one s) (hs:(∃t l,s=.ne t l/\b=false)\/(s=.nx/\b=true)) (A:ev ρ y=.one .nils) {c:Bool} (q:(op=.eql/\c=b)\/(op=.neq/\c=!b)) (hh:Heap):A9 P L w0 o ρ hh hh (J4 c):=by
 refine E7 (λc J=>by grind) λK a w m ok=>?_;have k:=m x;rw[G]at k;have i:=m y;rw[A]at i;have i:a.eval y=.slice none 0 0:=i;obtain⟨-,d,I,-,H,-⟩:=p.base;have F:P.underlying T=some (.slice e):=by
  grind
 have n:∃j g f,a.eval x=.slice j g f/\j.isNone=b:=by
  rcases hs with⟨t,l,rfl,rfl⟩ | ⟨rfl,rfl⟩
  ·obtain⟨_,_,C,g,f,h⟩:=k;grind
  ·obtain⟨f,h⟩:=k;grind
 obtain⟨j,g,f,n,u⟩:=n;have E:(Op.equal T (.slice j g f) (.slice none 0 0)).run P w=.ok b w:=by
  unfold Op.equal;rw[show Op.maxDepth=9999+1 from rfl];unfold Op.equalIn;rw[Sem.run_bind,run_underlying F];cases j with
  | none=>subst u;rfl
  | some C=>subst u;rfl
 refine⟨.bool c,?_,Z0 c⟩;have D:∀op:BinOp,(eqGuard op T x y (.slice j g f) (.slice none 0 0)).run P w=.ok () w:=λop=>by cases op<;>rfl
 unfold execOp;rw[v];simp[n,i,Sem.run_bind,D,Result.andThen_ok];rcases q with⟨rfl,rfl⟩ | ⟨rfl,rfl⟩
 ·show((do pure (.bool (<-Op.equal T (.slice j g f) (.slice none 0 0))):Sem Value).run P w).andThen _=_
  simp_all
 ·show((do pure (.bool (!(<-Op.equal T (.slice j g f) (.slice none 0 0)))):Sem Value).run P w).andThen _=_
  simp_all
theorem k34 {R:Type} {op:UnOp} (m:o.op=.unOp op T x) {K:AV->Option R} {z:R} (j:j1u op (ev ρ x) K=some z) :
  ∃r,K r=some z/\∀(e:Env) (g:Heap),ev e x=ev ρ x->A9 P L w0 o e g g r:=by
 have l:∀c,o.op≠.defer c:=λc s=>by grind
 unfold j1u at j;split at j
 ·rename_i k n i;refine⟨_,j,λe g h=>E7 l λp a w f q=>⟨_,?_,M2 k _⟩⟩;have d:=f x;rw[h,i]at d;unfold execOp;simp[m,K1 d,Op.unary,Op.intArith]
 ·rename_i k n i;refine⟨_,j,λe g h=>E7 l λp a w f q=>⟨_,?_,M2 k _⟩⟩;have d:=f x;rw[h,i]at d;unfold execOp;simp[m,K1 d,Op.unary,Op.intBits,F1]
 ·rename_i b i;refine⟨_,j,λe g h=>E7 l λp a w f q=>⟨_,?_,Z0 _⟩⟩;have d:=f x;rw[h,i]at d;unfold execOp;simp[m,q1p d,Op.unary]
 grind
theorem y5h (b:o.op=.move x\/o.op=.assign x) (ρs:Env) (hs:Heap):A9 P L w0 o ρs hs hs (ev ρs x):=by
 refine E7 (λc g=>by grind) λe a w d f=>⟨a.eval x,?_,d x⟩;unfold execOp;rcases b with b | b<;>rw[b]<;>rfl
variable {ρs:Env}
theorem y5i {c:Operand} (f:o.op=.pick c x y) {t:Bool} (e:ev ρs c=.one (.sc .bool t)) (hs:Heap) :
  A9 P L w0 o ρs hs hs (ev ρs (if t then x else y)):=by
 refine E7 (λc e=>by grind) λh a w b g=>⟨a.eval (if t then x else y),?_,b _⟩
 have d:=b c;rw[e]at d;unfold execOp;simp[f,q1p d,asBool,Sem.run_bind,Sem.run_pure,Result.andThen_ok];grind
theorem k1x {S:TypeId} {i f:TInfo} (l:i.OK P T) (m:f.OK P S) (q:o.op=.convert S T x) {s:IntKind} {n:Int} (e:i.agg=false) (h:i.ty=.int k) (r:ev ρs x=.one (.sc (.int s) n)) (hs:Heap):A9 P L w0 o ρs hs hs (G7 k (k.wrap n)):=by
 refine E7 (λc v=>by grind) λA a w j z=>⟨_,?_,M2 k _⟩;have b:=j x;rw[r]at b;obtain⟨-,d,u,-,-,t,-⟩:=l.base;obtain⟨-,y,g,-⟩:=m.base;have:=t k e h;subst this;unfold execOp;simp[q,K1 b,convert,Sem.run_bind,run_underlying u,run_underlying g,Result.andThen_ok];rfl
variable {av:AV}
theorem y5e {i:Nat} (t:o.op=.extract x i) {l:List (Bool×List SV)} (u:ev ρs x=.tup l) {c:Bool×List SV} (n:l[i]? = some c) (k:(∃j,c=(true,j)/\av=.agg j)\/(∃s,c=(false,[s])/\av=.one s)) (hs:Heap):A9 P L w0 o ρs hs hs av:=by
 refine E7 (λc n=>by grind) λv a w h y=>?_;have d:=h x;rw[u]at d;obtain⟨g,q,p,b⟩:=d;have e:i<g.length:=by grind
 have r:g[i]? = some g[i]:=af e;refine⟨g[i],?_,?_⟩
 ·unfold execOp;simp[t,q,Instr.extract,e]
 ·have:=b i c g[i] n r;rcases k with⟨j,rfl,rfl⟩ | ⟨s,rfl,rfl⟩
  ·exact this
  ·exact this
theorem j4o (m:o.op=.nilCheck x) (e:(∃id g,ev ρs x=.one (.ptr id g))\/(∃id t i c,ev ρs x=.one (.eptr id t i c))\/(∃t y c,ev ρs x=.one (.ro t y c))) (hs:Heap) :
  A9 P L w0 o ρs hs hs (ev ρs x):=by
 refine E7 (λc p=>by grind) λq a w f n=>⟨a.eval x,?_,f x⟩;have d:=f x;have:∃j,a.eval x=.pointer (some j):=by
  rcases e with⟨id,g,e⟩ | ⟨id,t,i,c,e⟩ | ⟨t,y,c,e⟩<;>rw[e]at d
  ·obtain⟨_,b,c,_,h⟩:=d;grind
  ·obtain⟨_,b,c,_,h⟩:=d;grind
  ·obtain⟨b,o,h,_⟩:=d;grind
 obtain⟨j,l⟩:=this;unfold execOp;simp_all
variable {f:Nat}
theorem j6q {e:TInfo} (c:e.OK P T) (j:e.str=true) {b:FI} (l:e.flds[f]? = some b):∃h a i g,P.underlying T=some (.struct h)/\h[f]? = some a/\a.offset=b.off /\
  P.info? a.type=some i/\i.size=b.size/\P.underlying a.type=some g/\X5 g=b.agg:=by
 obtain⟨-,d,m,-,-,-,k⟩:=c.base;grind
theorem y4x {h:TInfo} (d:h.OK P T) (c:h.str=true) {g:FI} (j:h.flds[f]? = some g) (i:1<=g.size) (b o:Nat) (w:World) :
  (Instr.fieldAt T (.pointer (some ⟨b,o,none⟩)) f).run P w=.ok (.pointer (some ⟨b,o+g.off,none⟩)) w:=by
 obtain⟨t,r,l,q,n,k,p,m,s,u,v⟩:=j6q d c j;have e:¬l.size=0:=by omega
 simp[Instr.fieldAt,run_underlying n,k,Instr.sureAddr,fieldPlace,q1t m,e,U5,p]
theorem j4n {p:TInfo} (A:p.OK P T) (u:p.str=true) (C:o.op=.fieldAddr T x f) {g:FI} (D:p.flds[f]? = some g) (v:1<=g.size) (j:(∃id e,ev ρs x=.one (.ptr id e)/\av=.one (.ptr id (e+g.off)))\/(∃id t i c,ev ρs x=.one (.eptr id t i c)/\av=.one (.eptr id t i (c+g.off))) \/
  (∃t y c,ev ρs x=.one (.ro t y c)/\av=.one (.ro t y (c+g.off)))) (hs:Heap):A9 P L w0 o ρs hs hs av:=by
 refine E7 (λc E=>by grind) λB a w n ok=>?_;have d:=n x;have l:∀b k,a.eval x=.pointer (some ⟨b,k,none⟩)->(execOp a.eval o).run P w=.ok (.value (.pointer (some ⟨b,k+g.off,none⟩))) w:=by
  grind[execOp,Sem.run_bind,y4x,Result.andThen_ok,Sem.run_pure]
 rcases j with⟨id,e,j,rfl⟩ | ⟨id,t,i,c,j,rfl⟩ | ⟨t,y,c,j,rfl⟩<;>rw[j]at d
 ·obtain⟨s,b,c,q,h⟩:=d;exact⟨_,l b e h,s,b,c,q,rfl⟩
 ·obtain⟨s,b,r,q,h⟩:=d;exact⟨_,l b _ h,s,b,r,q,by grind⟩
 ·obtain⟨b,k,h,m,z⟩:=d;exact⟨_,l b _ h,b,k,by grind,m,z⟩
theorem y5f {m:TInfo} (t:m.OK P T) (l:m.str=true) (A:o.op=.field T x f) {b:FI} (G:m.flds[f]? = some b) {cs:List SV} (I:ev ρs x=.agg cs) (_hle:b.off+b.size<=cs.length) (p:(b.agg=true/\av=.agg ((cs.drop b.off).take b.size))\/(b.agg=false/\∃s,cs[b.off]? = some s/\av=.one s)) (hs:Heap):A9 P L w0 o ρs hs hs av:=by
 refine E7 (λc h=>by grind) λN a w r Q=>?_;have i:=r x;rw[I]at i;obtain⟨u,C,g⟩:=i;obtain⟨M,O,K,J,v,E,D,H,F,z,y⟩:=j6q t l G;rcases p with⟨e,rfl⟩ | ⟨e,s,n,rfl⟩
 ·refine⟨.agg ((u.drop b.off).take b.size).toArray,?_,(u.drop b.off).take b.size,rfl,by simp[g.1],λj s c B h=>?_⟩
  ·unfold execOp;simp only[A,C,Instr.field,part,Sem.run_bind,run_underlying v,Result.andThen_ok,E,asAgg,Sem.run_pure,q7e z,y,e,if_true,q1t H,F,D];grind
  ·have q:j<b.size:=by grind
   rw[aV q,aT]at B h;exact g.2 _ s c B h
 ·obtain⟨c,h,k,_⟩:=q1o g n;refine⟨c,?_,k⟩;unfold execOp;simp[A,C,Instr.field,part,Sem.run_bind,run_underlying v,Result.andThen_ok,E,asAgg,Sem.run_pure,q7e z,y,e,bO,if_false,D];simp[h]
theorem k2m {f:FuncId} {d:Array Operand} (q:o.op=.makeFunc (.func f) #[] d) {l:List (Nat×Nat)} (n:q0z (ev ρs) d.toList=some l) (hs:Heap) :
  A9 P L w0 o ρs hs hs (.one (.fn f l)):=by
 refine E7 (λc n=>by grind) λy a w k E=>⟨.func (.func f) #[] (d.map a.eval),?_,?_⟩
 ·unfold execOp;simp[q,Instr.makeFunc]
 ·have j:∀(e:List Operand) (l:List (Nat×Nat)),q0z (ev ρs) e=some l->(e.map a.eval).length=l.length/\∀(i:Nat) (p:Nat×Nat),l[i]? = some p ->
    (hs p.1).Held/\∃b c,y p.1=some (b,c)/\(e.map a.eval)[i]? = some (.pointer (some ⟨b,p.2,none⟩)):=by
   intro e
   induction e with
   | nil=>grind[q0z]
   | cons x e D =>
    intro l h;simp[q0z]at h;split at h
    ·rename_i id t A s r;cases h;refine⟨by grind,λi p z=>?_⟩;cases i with
     | zero =>
      have g:=k x;rw[s]at g;obtain⟨B,b,c,C,F⟩:=g;grind
     | succ i=>grind
    grind
  obtain⟨u,v⟩:=j d.toList l n;refine⟨d.toList.map a.eval,?_,u,v⟩;congr 1;grind
theorem y3h {κ:A6} {h:Heap} {w:World}:∀(l:List SV) (cs:List ((t:Ty)×t.den)) (a:List Value),q71 l=some cs->RepCells L κ h w l a ->
  a.length=cs.length/\∀(i:Nat) (p:(t:Ty)×t.den) (u:Value),cs[i]? = some p->a[i]? = some u->p.1.size=1/\u.oneCell'=true/\RepAt w (A4 L κ h w) p.1 (E6 u) p.2
 | [],cs,a,b,d=>by
  simp[q71,aN]at b;subst b;exact⟨d.1,λi p u f _=>by grind⟩
 | s::r,cs,a,b,d=>by
  cases s with
  | sc t x =>
   simp[q71]at b;split at b
   ·rename_i m j;cases b;cases a with
    | nil=>have:=d.1;simp at this
    | cons u a =>
     have n:RepCells L κ h w r a:=⟨by have:=d.1;simpa using this,λi s c f o=>d.2 (i+1) s c (by simpa using f) (by simpa using o)⟩;obtain⟨f,o⟩:=y3h r m a j n;refine⟨by simp[f],λi p v k g=>?_⟩;cases i with
     | zero =>
      simp[bS,aN]at k g;subst k;subst g;exact(d.2 0 _ _ rfl rfl).1
     | succ i=>exact o i p v (by simpa using k) (by simpa using g)
   ·cases b
  | _=>simp[q71]at b
theorem v9p {κ:A6} {h:Heap} {w:World} {v:Value} {agg:Bool} {cs:List ((t:Ty)×t.den)} (b:q59 av=some (agg,cs)) (c:RepAV L κ h w av v) :
  ∃a:List Value,v=cond agg (.agg a.toArray) (a.headD undef)/\a.length=cs.length/\(agg=false->a.length=1) /\
   ∀(i:Nat) (p:(t:Ty)×t.den) (u:Value),cs[i]? = some p->a[i]? = some u->p.1.size=1/\u.oneCell'=true/\RepAt w (A4 L κ h w) p.1 (E6 u) p.2:=by
 cases av with
 | one s =>
  cases s with
  | sc t x =>
   simp[q59,aN,bZ]at b;obtain⟨rfl,rfl⟩:=b;refine⟨[v],rfl,rfl,λ_=>rfl,λi p u d e=>?_⟩;cases i with
   | zero =>
    simp[bS,aN]at d e;subst d;subst e;exact c
   | succ i=>grind
  | _=>grind[q59]
 | agg l =>
  simp[q59]at b;split at b
  ·rename_i g j;obtain⟨a,k,f⟩:=c;grind[y3h]
  grind
 | tup l=>grind[q59]
theorem k2k {f:FuncId} (k:o.op=.makeFunc (.func f) #[x] #[]) {cs:List ((t:Ty)×t.den)} (g:q59 (ev ρs x)=some (b,cs)) (hs:Heap) :
  A9 P L w0 o ρs hs hs (.one (.bfn f b cs)):=by
 refine E7 (λc g=>by grind) λn a w d m=>⟨.func (.func f) #[a.eval x] #[],?_,?_⟩
 ·unfold execOp;simp[k,Instr.makeFunc]
 ·obtain⟨i,p,l,h,j⟩:=v9p g (d x);exact⟨i,by grind,l,h,j⟩
theorem k1m {e:TInfo} (g:e.OK P T) (n:o.op=.alloc T) {hs:Heap} {id':Nat} (k:hs id'=.fresh) :
  A9 P L w0 o ρs hs (upd hs id' (.cells e.zeros)) (.one (.ptr id' 0)):=by
 refine M7 (λc u=>by grind) λκ a w m t=>?_;obtain⟨i,z,q,l,j,f,r,s,b,-⟩:=g.zero_one (L:=L);have p:=X0 (L:=L) (κ:=κ) (h:=hs) (w:=w) (.cells z.cells T) (AObj.cells e.zeros) 0 k;refine⟨_,.pointer (some ⟨w.heap.size,0,none⟩),w.alloc (.cells z.cells T),?_,q1c t _ _ 0 k ⟨w.heap.size,0,z.cells.toList,T,A2 _ _ _,by simpa using heap_alloc_new w _,b _ _ _⟩,⟨by rw[A2];simp,_,_,A2 _ _ _,rfl⟩,p⟩;unfold execOp;simp[n,Instr.alloc,zeroValue,j4k q,f,newVar,newRow]
theorem k1r (l:o.op=.box T x) {hs:Heap} {id':Nat} (j:hs id'=.fresh) {vs:List SV} (m:cellsOf (ev ρs x)=some vs) (n:vs.all SV.known=true) :
  A9 P L w0 o ρs hs (upd hs id' (.cells vs)) (.one (.ptr id' 0)):=by
 refine M7 (λc p=>by grind) λκ a w d k=>?_;obtain⟨f,g,b⟩:=q60 (d x) m n;have i:=X0 (L:=L) (κ:=κ) (h:=hs) (w:=w) (.cells f.toArray T) (AObj.cells vs) 0 j;refine⟨_,.pointer (some ⟨w.heap.size,0,none⟩),w.alloc (.cells f.toArray T),?_,q1c k _ _ 0 j ⟨w.heap.size,0,f,T,A2 _ _ _,heap_alloc_new w _,b.ext i⟩,⟨by rw[A2];simp,_,_,A2 _ _ _,rfl⟩,i⟩;unfold execOp;simp[l,Instr.box,newVar,newRow,g]
end Go.Abs
