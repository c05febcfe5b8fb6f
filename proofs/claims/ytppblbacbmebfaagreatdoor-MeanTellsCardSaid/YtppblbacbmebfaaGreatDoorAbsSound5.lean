/- The engine, part 8: numbers, addresses, slices, literals. -/
import Derived.Test.YtppblbacbmebfaaGreatDoorAbsSound4
namespace Go.Abs
open Go Go.RowKit
variable {P:Program} {L:Nat->Prop} {w0:World}
theorem y53 (op:BinOp) (T:TypeId) (x y:Operand) (k c:IntKind) (a b:Int) (w:World):(eqGuard op T x y (.int k a) (.int c b)).run P w=.ok () w:=by
 cases op<;>rfl
theorem y5n {a:Act} {o:Oper} {op:BinOp} {T d:TypeId} {x y:Operand} (f:o.op=.binOp op T x y d) {k b:IntKind} {p q:Int} (g:a.eval x=.int k p) (e:a.eval y=.int b q) (w:World) :
  (execOp a.eval o).run P w=((binOp op T (.int k p) (.int b q)).run P w).andThen fun v c=>.ok (.value v) c:=by
 grind[execOp,Sem.run_bind,y53,Result.andThen_ok,Sem.run_pure]
theorem v58 {R:Type} {o:Oper} {op:BinOp} {T D:TypeId} {x y:Operand} (E:o.op=.binOp op T x y D) {ρ:Env} {k t:IntKind} {p q:Int}
  (G:ev ρ x=.one (.sc (.int k) p)) (C:ev ρ y=.one (.sc (.int t) q)) {K:AV->Option R} {z:R} (d:z7i op k t p q K=some z) :
  ∃ j,K j=some z/\∀ (e:Env) (i:Heap),ev e x=ev ρ x->ev e y=ev ρ y->A6 P L w0 o e i i j:=by
 have b:∀ (j:AV) (v:Value),(∀ w,(binOp op T (.int k p) (.int t q)).run P w=.ok v w)->(∀ u h w,RepAV L u h w j v)->∀ (e:Env) (i:Heap),ev e x=ev ρ x->ev e y=ev ρ y->A6 P L w0 o e i i j:=by
  intro j v s m e i A B
  refine D1 (fun c H=>by grind) fun u a w l ok=>?_
  have r:=l x
  rw[A,G]at r
  have n:=l y
  rw[B,C]at n
  exact⟨v,by rw[y5n E (H7 r) (H7 n),s w];rfl,m u i w⟩
 unfold z7i at d
 split at d
 ·cases f:decide (q<0)with
  | true=>grind
  | false =>
   rw[f]at d
   have g:¬ q<0:=of_decide_eq_false f
   exact⟨_,d,b _ (.int k (q9c k p q)) (fun w=>by simp[binOp,Op.shift,g,q9c]) (fun _ _ _=>H6 _ _)⟩
 ·cases f:decide (q<0)with
  | true=>grind
  | false =>
   rw[f]at d
   have g:¬ q<0:=of_decide_eq_false f
   exact⟨_,d,b _ (.int k (q38 k p q)) (fun w=>by simp[binOp,Op.shift,g,q38]) (fun _ _ _=>H6 _ _)⟩
 ·rename_i A B
  split at d
  ·grind
  ·rename_i F _
   subst F
   split at d
   ·exact⟨_,d,b _ (.int k (k.wrap (p+q))) (fun w=>by simp[binOp,Op.intArith]) (fun _ _ _=>H6 _ _)⟩
   ·exact⟨_,d,b _ (.int k (k.wrap (p-q))) (fun w=>by simp[binOp,Op.intArith]) (fun _ _ _=>H6 _ _)⟩
   ·exact⟨_,d,b _ (.int k (k.wrap (p*q))) (fun w=>by simp[binOp,Op.intArith]) (fun _ _ _=>H6 _ _)⟩
   ·cases f:(q==0)with
    | true=>grind
    | false =>
     rw[f]at d
     have g:¬ q=0:=by grind
     exact⟨_,d,b _ (.int k (k.wrap (p.tdiv q))) (fun w=>by simp[binOp,Op.intDiv,g]) (fun _ _ _=>H6 _ _)⟩
   ·cases f:(q==0)with
    | true=>grind
    | false =>
     rw[f]at d
     have g:¬ q=0:=by grind
     exact⟨_,d,b _ (.int k (p.tmod q)) (fun w=>by simp[binOp,Op.intDiv,g]) (fun _ _ _=>H6 _ _)⟩
   ·exact⟨_,d,b _ (.int k (E8 .and k p q)) (fun w=>by simp[binOp,Op.intBits,E8]) (fun _ _ _=>H6 _ _)⟩
   ·exact⟨_,d,b _ (.int k (E8 .or k p q)) (fun w=>by simp[binOp,Op.intBits,E8]) (fun _ _ _=>H6 _ _)⟩
   ·exact⟨_,d,b _ (.int k (E8 .xor k p q)) (fun w=>by simp[binOp,Op.intBits,E8]) (fun _ _ _=>H6 _ _)⟩
   ·exact⟨_,d,b _ (.int k (E8 .andNot k p q)) (fun w=>by simp[binOp,Op.intBits,E8]) (fun _ _ _=>H6 _ _)⟩
   ·exact⟨_,d,b _ (.bool (p==q)) (fun w=>by simp[binOp,Op.intCmp]) (fun _ _ _=>P6 _)⟩
   ·exact⟨_,d,b _ (.bool (p != q)) (fun w=>by simp[binOp,Op.intCmp]) (fun _ _ _=>P6 _)⟩
   ·exact⟨_,d,b _ (.bool (decide (p<q))) (fun w=>by simp[binOp,Op.intCmp]) (fun _ _ _=>P6 _)⟩
   ·exact⟨_,d,b _ (.bool (decide (p<=q))) (fun w=>by simp[binOp,Op.intCmp]) (fun _ _ _=>P6 _)⟩
   ·exact⟨_,d,b _ (.bool (decide (p>q))) (fun w=>by simp[binOp,Op.intCmp]) (fun _ _ _=>P6 _)⟩
   ·exact⟨_,d,b _ (.bool (decide (p≥q))) (fun w=>by simp[binOp,Op.intCmp]) (fun _ _ _=>P6 _)⟩
   grind
theorem j8i {o:Oper} {op:BinOp} {T m:TypeId} {x y:Operand} (n:o.op=.binOp op T x y m) {h:TInfo} (l:h.OK P T) (d:h.agg=false) (k:h.ty=.bool) {ρ:Env} {p q:Bool}
  (r:ev ρ x=.one (.sc .bool p)) (s:ev ρ y=.one (.sc .bool q)) {b:Bool} (j:(op=.eql/\b=(p==q))\/(op=.neq/\b=(p != q))) (hs:Heap):A6 P L w0 o ρ hs hs (H8 b):=by
 refine D1 (fun c v=>by grind) fun z a w f ok=>?_
 have g:=f x
 rw[r]at g
 have e:=f y
 rw[s]at e
 have t:=l.boolT d k
 have i:(Op.equal T (.bool p) (.bool q)).run P w=.ok (p==q) w:=by
  unfold Op.equal
  rw[show Op.maxDepth=9999+1 from rfl]
  unfold Op.equalIn
  rw[Sem.run_bind,run_underlying t]
  rfl
 refine⟨.bool b,?_,P6 b⟩
 have u:∀ op:BinOp,(eqGuard op T x y (.bool p) (.bool q)).run P w=.ok () w:=fun op=>by cases op<;>rfl
 unfold execOp
 rw[n]
 simp[q0s g,q0s e,Sem.run_bind,u,Result.andThen_ok]
 rcases j with⟨rfl,rfl⟩ | ⟨rfl,rfl⟩
 ·show((do pure (.bool (<-Op.equal T (.bool p) (.bool q))):Sem Value).run P w).andThen _=_
  simp_all
 ·show((do pure (.bool (!(<-Op.equal T (.bool p) (.bool q)))):Sem Value).run P w).andThen _=_
  rw[Sem.run_bind,i]
  rfl
theorem z4p {o:Oper} {op:BinOp} {T B:TypeId} {x y:Operand} (v:o.op=.binOp op T x y B) {r:TInfo} (p:r.OK P T) {e:TypeId} (z:r.elem=some e) {ρ:Env} {s:SV} {b:Bool}
  (G:ev ρ x=.one s) (hs:(∃ t l,s=.ne t l/\b=false)\/(s=.nx/\b=true)) (A:ev ρ y=.one .nils) {c:Bool} (q:(op=.eql/\c=b)\/(op=.neq/\c=!b)) (hh:Heap):A6 P L w0 o ρ hh hh (H8 c):=by
 refine D1 (fun c J=>by grind) fun K a w m ok=>?_
 have k:=m x
 rw[G]at k
 have i:=m y
 rw[A]at i
 have i:a.eval y=.slice none 0 0:=i
 obtain⟨-,d,I,-,H,-⟩:=p.base
 have F:P.underlying T=some (.slice e):=by
  grind
 have n:∃ j g f,a.eval x=.slice j g f/\j.isNone=b:=by
  rcases hs with⟨t,l,rfl,rfl⟩ | ⟨rfl,rfl⟩
  ·obtain⟨_,_,C,g,f,h⟩:=k;grind
  ·obtain⟨f,h⟩:=k;grind
 obtain⟨j,g,f,n,u⟩:=n
 have E:(Op.equal T (.slice j g f) (.slice none 0 0)).run P w=.ok b w:=by
  unfold Op.equal
  rw[show Op.maxDepth=9999+1 from rfl]
  unfold Op.equalIn
  rw[Sem.run_bind,run_underlying F]
  cases j with
  | none=>subst u;rfl
  | some C=>subst u;rfl
 refine⟨.bool c,?_,P6 c⟩
 have D:∀ op:BinOp,(eqGuard op T x y (.slice j g f) (.slice none 0 0)).run P w=.ok () w:=fun op=>by cases op<;>rfl
 unfold execOp
 rw[v]
 simp[n,i,Sem.run_bind,D,Result.andThen_ok]
 rcases q with⟨rfl,rfl⟩ | ⟨rfl,rfl⟩
 ·show((do pure (.bool (<-Op.equal T (.slice j g f) (.slice none 0 0))):Sem Value).run P w).andThen _=_
  simp_all
 ·show((do pure (.bool (!(<-Op.equal T (.slice j g f) (.slice none 0 0)))):Sem Value).run P w).andThen _=_
  simp_all
theorem v6e {R:Type} {o:Oper} {op:UnOp} {T:TypeId} {x:Operand} (m:o.op=.unOp op T x) {ρ:Env} {K:AV->Option R} {z:R} (j:z8g op (ev ρ x) K=some z) :
  ∃ r,K r=some z/\∀ (e:Env) (g:Heap),ev e x=ev ρ x->A6 P L w0 o e g g r:=by
 have l:∀ c,o.op≠.defer c:=fun c s=>by grind
 unfold z8g at j
 split at j
 ·rename_i k n i
  refine⟨_,j,fun e g h=>D1 l fun p a w f q=>⟨_,?_,H6 k _⟩⟩
  have d:=f x
  rw[h,i]at d
  unfold execOp
  simp[m,H7 d,Op.unary,Op.intArith]
 ·rename_i k n i
  refine⟨_,j,fun e g h=>D1 l fun p a w f q=>⟨_,?_,H6 k _⟩⟩
  have d:=f x
  rw[h,i]at d
  unfold execOp
  simp[m,H7 d,Op.unary,Op.intBits,E8]
 ·rename_i b i
  refine⟨_,j,fun e g h=>D1 l fun p a w f q=>⟨_,?_,P6 _⟩⟩
  have d:=f x
  rw[h,i]at d
  unfold execOp
  simp[m,q0s d,Op.unary]
 grind
theorem j8p {o:Oper} {x:Operand} (b:o.op=.move x\/o.op=.assign x) (ρs:Env) (hs:Heap):A6 P L w0 o ρs hs hs (ev ρs x):=by
 refine D1 (fun c g=>by grind) fun e a w d f=>⟨a.eval x,?_,d x⟩
 unfold execOp
 rcases b with b | b<;>rw[b]<;>rfl
theorem j8s {o:Oper} {c x y:Operand} (f:o.op=.pick c x y) {t:Bool} {ρs:Env} (e:ev ρs c=.one (.sc .bool t)) (hs:Heap) :
  A6 P L w0 o ρs hs hs (ev ρs (if t then x else y)):=by
 refine D1 (fun c e=>by grind) fun h a w b g=>⟨a.eval (if t then x else y),?_,b _⟩
 have d:=b c
 rw[e]at d
 unfold execOp
 simp[f,q0s d,asBool,Sem.run_bind,Sem.run_pure,Result.andThen_ok]
 grind
theorem v4g {o:Oper} {S T:TypeId} {x:Operand} {i f:TInfo} (l:i.OK P T) (m:f.OK P S) (q:o.op=.convert S T x) {k s:IntKind} {n:Int} (e:i.agg=false) (h:i.ty=.int k)
  {ρs:Env} (r:ev ρs x=.one (.sc (.int s) n)) (hs:Heap):A6 P L w0 o ρs hs hs (F0 k (k.wrap n)):=by
 refine D1 (fun c v=>by grind) fun A a w j z=>⟨_,?_,H6 k _⟩
 have b:=j x
 rw[r]at b
 obtain⟨-,d,u,-,-,t,-⟩:=l.base
 obtain⟨-,y,g,-⟩:=m.base
 have:=t k e h
 subst this
 unfold execOp
 simp[q,H7 b,convert,Sem.run_bind,run_underlying u,run_underlying g,Result.andThen_ok]
 rfl
theorem j8l {o:Oper} {x:Operand} {i:Nat} (t:o.op=.extract x i) {ρs:Env} {l:List (Bool×List SV)} (u:ev ρs x=.tup l) {c:Bool×List SV} (n:l[i]? = some c) {av:AV}
  (k:(∃ j,c=(true,j)/\av=.agg j)\/(∃ s,c=(false,[s])/\av=.one s)) (hs:Heap):A6 P L w0 o ρs hs hs av:=by
 refine D1 (fun c n=>by grind) fun v a w h y=>?_
 have d:=h x
 rw[u]at d
 obtain⟨g,q,p,b⟩:=d
 have e:i<g.length:=by grind
 have r:g[i]? = some g[i]:=List.getElem?_eq_getElem e
 refine⟨g[i],?_,?_⟩
 ·unfold execOp
  simp[t,q,Instr.extract,e]
 ·have:=b i c g[i] n r
  rcases k with⟨j,rfl,rfl⟩ | ⟨s,rfl,rfl⟩
  ·exact this
  ·exact this
theorem j17 {o:Oper} {x:Operand} (m:o.op=.nilCheck x) {ρs:Env} (e:(∃ id g,ev ρs x=.one (.ptr id g))\/(∃ id t i c,ev ρs x=.one (.eptr id t i c))\/(∃ t y c,ev ρs x=.one (.ro t y c))) (hs:Heap) :
  A6 P L w0 o ρs hs hs (ev ρs x):=by
 refine D1 (fun c p=>by grind) fun q a w f n=>⟨a.eval x,?_,f x⟩
 have d:=f x
 have:∃ j,a.eval x=.pointer (some j):=by
  rcases e with⟨id,g,e⟩ | ⟨id,t,i,c,e⟩ | ⟨t,y,c,e⟩<;>rw[e]at d
  ·obtain⟨_,b,c,_,h⟩:=d;grind
  ·obtain⟨_,b,c,_,h⟩:=d;grind
  ·obtain⟨b,o,h,_⟩:=d;grind
 obtain⟨j,l⟩:=this
 unfold execOp
 simp_all
theorem j2k {e:TInfo} {T:TypeId} (c:e.OK P T) (j:e.str=true) {f:Nat} {b:FI} (l:e.flds[f]? = some b):∃ h a i g,P.underlying T=some (.struct h)/\h[f]? = some a/\a.offset=b.off /\
  P.info? a.type=some i/\i.size=b.size/\P.underlying a.type=some g/\V7 g=b.agg:=by
 obtain⟨-,d,m,-,-,-,k⟩:=c.base
 grind
theorem v3n {h:TInfo} {T:TypeId} (d:h.OK P T) (c:h.str=true) {f:Nat} {g:FI} (j:h.flds[f]? = some g) (i:1<=g.size) (b o:Nat) (w:World) :
  (Instr.fieldAt T (.pointer (some ⟨b,o,none⟩)) f).run P w=.ok (.pointer (some ⟨b,o+g.off,none⟩)) w:=by
 obtain⟨t,r,l,q,n,k,p,m,s,u,v⟩:=j2k d c j
 have e:¬ l.size=0:=by omega
 simp[Instr.fieldAt,run_underlying n,k,Instr.sureAddr,fieldPlace,S6 m,e,Q0,p]
theorem j16 {o:Oper} {T:TypeId} {x:Operand} {f:Nat} {p:TInfo} (A:p.OK P T) (u:p.str=true) (C:o.op=.fieldAddr T x f) {g:FI} (D:p.flds[f]? = some g) (v:1<=g.size) {ρs:Env} {av:AV}
  (j:(∃ id e,ev ρs x=.one (.ptr id e)/\av=.one (.ptr id (e+g.off)))\/(∃ id t i c,ev ρs x=.one (.eptr id t i c)/\av=.one (.eptr id t i (c+g.off))) \/
   (∃ t y c,ev ρs x=.one (.ro t y c)/\av=.one (.ro t y (c+g.off)))) (hs:Heap):A6 P L w0 o ρs hs hs av:=by
 refine D1 (fun c E=>by grind) fun B a w n ok=>?_
 have d:=n x
 have l:∀ b k,a.eval x=.pointer (some ⟨b,k,none⟩)->(execOp a.eval o).run P w=.ok (.value (.pointer (some ⟨b,k+g.off,none⟩))) w:=by
  grind[execOp,Sem.run_bind,v3n,Result.andThen_ok,Sem.run_pure]
 rcases j with⟨id,e,j,rfl⟩ | ⟨id,t,i,c,j,rfl⟩ | ⟨t,y,c,j,rfl⟩<;>rw[j]at d
 ·obtain⟨s,b,c,q,h⟩:=d
  exact⟨_,l b e h,s,b,c,q,rfl⟩
 ·obtain⟨s,b,r,q,h⟩:=d
  exact⟨_,l b _ h,s,b,r,q,by grind⟩
 ·obtain⟨b,k,h,m,z⟩:=d
  exact⟨_,l b _ h,b,k,by grind,m,z⟩
theorem j8m {o:Oper} {T:TypeId} {x:Operand} {f:Nat} {m:TInfo} (t:m.OK P T) (l:m.str=true) (A:o.op=.field T x f) {b:FI} (G:m.flds[f]? = some b) {ρs:Env} {cs:List SV} (I:ev ρs x=.agg cs) {av:AV}
  (_hle:b.off+b.size<=cs.length) (p:(b.agg=true/\av=.agg ((cs.drop b.off).take b.size))\/(b.agg=false/\∃ s,cs[b.off]? = some s/\av=.one s)) (hs:Heap):A6 P L w0 o ρs hs hs av:=by
 refine D1 (fun c h=>by grind) fun N a w r Q=>?_
 have i:=r x
 rw[I]at i
 obtain⟨u,C,g⟩:=i
 obtain⟨M,O,K,J,v,E,D,H,F,z,y⟩:=j2k t l G
 rcases p with⟨e,rfl⟩ | ⟨e,s,n,rfl⟩
 ·refine⟨.agg ((u.drop b.off).take b.size).toArray,?_,(u.drop b.off).take b.size,rfl,by simp[g.1],fun j s c B h=>?_⟩
  ·unfold execOp
   simp only[A,C,Instr.field,part,Sem.run_bind,run_underlying v,Result.andThen_ok,E,asAgg,Sem.run_pure,q20 z,y,e,if_true,S6 H,F,D]
   grind
  ·have q:j<b.size:=by grind
   rw[List.getElem?_take_of_lt q,List.getElem?_drop]at B h
   exact g.2 _ s c B h
 ·obtain⟨c,h,k,_⟩:=W3 g n
  refine⟨c,?_,k⟩
  unfold execOp
  simp[A,C,Instr.field,part,Sem.run_bind,run_underlying v,Result.andThen_ok,E,asAgg,Sem.run_pure,q20 z,y,e,Bool.false_eq_true,if_false,D]
  simp[h]
theorem v5n {o:Oper} {f:FuncId} {d:Array Operand} (q:o.op=.makeFunc (.func f) #[] d) {ρs:Env} {l:List (Nat×Nat)} (n:q0e (ev ρs) d.toList=some l) (hs:Heap) :
  A6 P L w0 o ρs hs hs (.one (.fn f l)):=by
 refine D1 (fun c n=>by grind) fun y a w k E=>⟨.func (.func f) #[] (d.map a.eval),?_,?_⟩
 ·unfold execOp
  simp[q,Instr.makeFunc]
 ·have j:∀ (e:List Operand) (l:List (Nat×Nat)),q0e (ev ρs) e=some l->(e.map a.eval).length=l.length/\∀ (i:Nat) (p:Nat×Nat),l[i]? = some p ->
    (hs p.1).Held/\∃ b c,y p.1=some (b,c)/\(e.map a.eval)[i]? = some (.pointer (some ⟨b,p.2,none⟩)):=by
   intro e
   induction e with
   | nil=>grind[q0e]
   | cons x e D =>
    intro l h
    simp[q0e]at h
    split at h
    ·rename_i id t A s r
     cases h
     refine⟨by grind,fun i p z=>?_⟩
     cases i with
     | zero =>
      have g:=k x
      rw[s]at g
      obtain⟨B,b,c,C,F⟩:=g
      grind
     | succ i=>grind
    grind
  obtain⟨u,v⟩:=j d.toList l n
  refine⟨d.toList.map a.eval,?_,u,v⟩
  congr 1
  grind
theorem j7a {κ:A2} {h:Heap} {w:World}:∀ (l:List SV) (cs:List ((t:Ty)×t.den)) (a:List Value),q5k l=some cs->RepCells L κ h w l a ->
  a.length=cs.length/\∀ (i:Nat) (p:(t:Ty)×t.den) (u:Value),cs[i]? = some p->a[i]? = some u->p.1.size=1/\u.oneCell'=true/\RepAt w (A3 L κ h w) p.1 (F7 u) p.2
 | [],cs,a,b,d=>by
  simp[q5k,Option.some.injEq]at b
  subst b
  exact⟨d.1,fun i p u f _=>by grind⟩
 | s::r,cs,a,b,d=>by
  cases s with
  | sc t x =>
   simp[q5k]at b
   split at b
   ·rename_i m j
    cases b
    cases a with
    | nil=>have:=d.1;simp at this
    | cons u a =>
     have n:RepCells L κ h w r a:=⟨by have:=d.1;simpa using this,fun i s c f o=>d.2 (i+1) s c (by simpa using f) (by simpa using o)⟩
     obtain⟨f,o⟩:=j7a r m a j n
     refine⟨by simp[f],fun i p v k g=>?_⟩
     cases i with
     | zero =>
      simp[List.getElem?_cons_zero,Option.some.injEq]at k g
      subst k;subst g
      exact(d.2 0 _ _ rfl rfl).1
     | succ i=>exact o i p v (by simpa using k) (by simpa using g)
   ·cases b
  | _=>simp[q5k]at b
theorem j79 {κ:A2} {h:Heap} {w:World} {av:AV} {v:Value} {agg:Bool} {cs:List ((t:Ty)×t.den)} (b:q2z av=some (agg,cs)) (c:RepAV L κ h w av v) :
  ∃ a:List Value,v=cond agg (.agg a.toArray) (a.headD undef)/\a.length=cs.length/\(agg=false->a.length=1) /\
   ∀ (i:Nat) (p:(t:Ty)×t.den) (u:Value),cs[i]? = some p->a[i]? = some u->p.1.size=1/\u.oneCell'=true/\RepAt w (A3 L κ h w) p.1 (F7 u) p.2:=by
 cases av with
 | one s =>
  cases s with
  | sc t x =>
   simp[q2z,Option.some.injEq,Prod.mk.injEq]at b
   obtain⟨rfl,rfl⟩:=b
   refine⟨[v],rfl,rfl,fun _=>rfl,fun i p u d e=>?_⟩
   cases i with
   | zero =>
    simp[List.getElem?_cons_zero,Option.some.injEq]at d e
    subst d;subst e
    exact c
   | succ i=>grind
  | _=>grind[q2z]
 | agg l =>
  simp[q2z]at b
  split at b
  ·rename_i g j
   obtain⟨a,k,f⟩:=c
   grind[j7a]
  grind
 | tup l=>grind[q2z]
theorem v5k {o:Oper} {f:FuncId} {x:Operand} (k:o.op=.makeFunc (.func f) #[x] #[]) {ρs:Env} {b:Bool} {cs:List ((t:Ty)×t.den)} (g:q2z (ev ρs x)=some (b,cs)) (hs:Heap) :
  A6 P L w0 o ρs hs hs (.one (.bfn f b cs)):=by
 refine D1 (fun c g=>by grind) fun n a w d m=>⟨.func (.func f) #[a.eval x] #[],?_,?_⟩
 ·unfold execOp
  simp[k,Instr.makeFunc]
 ·obtain⟨i,p,l,h,j⟩:=j79 g (d x)
  exact⟨i,by grind,l,h,j⟩
theorem v3s {o:Oper} {T:TypeId} {e:TInfo} (g:e.OK P T) (n:o.op=.alloc T) {ρs:Env} {hs:Heap} {id':Nat} (k:hs id'=.fresh) :
  A6 P L w0 o ρs hs (upd hs id' (.cells e.zeros)) (.one (.ptr id' 0)):=by
 refine I4 (fun c u=>by grind) fun κ a w m t=>?_
 obtain⟨i,z,q,l,j,f,r,s,b,-⟩:=g.zero_one (L:=L)
 have p:=R3 (L:=L) (κ:=κ) (h:=hs) (w:=w) (.cells z.cells T) (AObj.cells e.zeros) 0 k
 refine⟨_,.pointer (some ⟨w.heap.size,0,none⟩),w.alloc (.cells z.cells T),?_,V4 t _ _ 0 k ⟨w.heap.size,0,z.cells.toList,T,A1 _ _ _,by simpa using heap_alloc_new w _,b _ _ _⟩,⟨by rw[A1];simp,_,_,A1 _ _ _,rfl⟩,p⟩
 unfold execOp
 simp[n,Instr.alloc,zeroValue,q61 q,f,newVar,newRow]
theorem v3y {o:Oper} {T:TypeId} {x:Operand} (l:o.op=.box T x) {ρs:Env} {hs:Heap} {id':Nat} (j:hs id'=.fresh) {vs:List SV} (m:cellsOf (ev ρs x)=some vs) (n:vs.all SV.known=true) :
  A6 P L w0 o ρs hs (upd hs id' (.cells vs)) (.one (.ptr id' 0)):=by
 refine I4 (fun c p=>by grind) fun κ a w d k=>?_
 obtain⟨f,g,b⟩:=q3h (d x) m n
 have i:=R3 (L:=L) (κ:=κ) (h:=hs) (w:=w) (.cells f.toArray T) (AObj.cells vs) 0 j
 refine⟨_,.pointer (some ⟨w.heap.size,0,none⟩),w.alloc (.cells f.toArray T),?_,V4 k _ _ 0 j ⟨w.heap.size,0,f,T,A1 _ _ _,heap_alloc_new w _,b.ext i⟩,⟨by rw[A1];simp,_,_,A1 _ _ _,rfl⟩,i⟩
 unfold execOp
 simp[l,Instr.box,newVar,newRow,g]
end Go.Abs
