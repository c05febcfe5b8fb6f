/- The engine, part 14: a region whose order is drawn. -/
import Derived.Test.YtecofmaegcibeaaGreatDoorAbsRegion
namespace Go.Abs
open Go Go.RowKit
variable {P:Program} {L:Nat->Prop} {w0:World} {B:Bd}
inductive Bef (ops:Array Oper):Nat->Nat->Prop
 | edge {j:Nat} {o:Oper} {e:Edge} (h:ops[j]? = some o) (he:e∈o.after) (hb:Region.binds .any e=true):Bef ops e.on j
 | step {i j:Nat} {o:Oper} {e:Edge} (h:ops[j]? = some o) (he:e∈o.after) (hb:Region.binds .any e=true) (t:Bef ops i e.on):Bef ops i j
theorem j9m (b:List Nat) (i:Nat):∀(l:List Edge) (s:Nat),(l.foldl (λs e=>match Region.binds .any e with
  | true=>s ||| (2^e.on ||| b.getD e.on 0)
  | false=>s) s).testBit i=true->s.testBit i=true\/∃e∈l,Region.binds .any e=true/\(e.on=i\/(b.getD e.on 0).testBit i=true)
 | [],s,h=>.inl h
 | e::l,s,h=>by
  rcases j9m b i l _ h with d | ⟨f,c,d⟩
  all_goals grind
theorem y1y (ops:Array Oper):∀(l:List Oper) (a:List Nat),(∀(j:Nat) (o:Oper),l[j]? = some o->ops[a.length+j]? = some o)->(∀i k,(a.getD k 0).testBit i=true->Bef ops i k) ->
  ∀i k,((q9l l a).getD k 0).testBit i=true->Bef ops i k
 | [],a,_,d=>d
 | o::l,a,n,d=>by
  refine y1y ops l _ (λj q p=>?_) (λi k b=>?_)
  ·rw[aK,eZ,show a.length+1+j=a.length+(j+1)from by omega];exact n (j+1) q (by simpa using p)
  ·rw[aR]at b;by_cases f:k<a.length
   ·rw[aH f]at b;exact d i k (by exact b)
   ·by_cases c:k=a.length
    ·subst c;rw[aP (ax _),fE]at b;have m:=n 0 o rfl;rcases j9m a i _ 0 b with h | ⟨e,c,g,h | h⟩
     ·simp at h
     ·subst h;exact .edge m (by simpa using c) g
     ·exact .step m (by simpa using c) g (d i _ h)
    ·rw[bU (by simp;omega)]at b;simp at b
theorem y0m {g:Nat->Nat->Bool} {e:List FP} {p:List Nat} {j:Nat} {b:FP} {f:Nat}:∀(l:List FP) (i:Nat),z4z g e p j b f i l=true->∀(k:Nat) (a:FP),l[k]? = some a->i+k<j->I7 a b=true->f.testBit (i+k)=true\/g (i+k) j=true
 | [],_,_,k,a,d,_,_=>by grind
 | x::l,i,h,k,a,d,o,n=>by
  simp only[z4z,ac,bD,aU]at h;cases k with
  | zero =>
   simp at d;subst d;rcases h.1 with((c | c) | c) | c
   ·have:=ao c;omega
   ·exact .inl c
   ·rw[n]at c;cases c
   ·exact .inr c
  | succ k =>
   have:=y0m l (i+1) h.2 k a (by simpa using d) (by omega) n;rw[show i+(k+1)=i+1+k from by omega];exact this
theorem y0n {n:Nat->Nat->Bool} {c:List FP} {m:List Nat}:∀(l:List FP) (j:Nat),q94 n c m j l=true->∀(k:Nat) (b:FP),l[k]? = some b->∀(i:Nat) (a:FP),c[i]? = some a->i<j+k->I7 a b=true->(m.getD (j+k) 0).testBit i=true\/n i (j+k)=true
 | [],_,_,k,b,e,_,_,_,_,_=>by grind
 | x::l,j,h,k,b,e,i,a,g,o,f=>by
  simp[q94,ac]at h;cases k with
  | zero =>
   simp at e;subst e;have:=y0m c 0 h.1 i a g (by omega) f;simpa using this
  | succ k =>
   have:=y0n l (j+1) h.2 k b (by simpa using e) i a g (by omega) f;rw[show j+(k+1)=j+1+k from by omega];exact this
variable {j:Nat} {ops:Array Oper}
theorem v1y (h:j03 ops.toList ops.size=true) {o:Oper} {e:Edge} (c:ops[j]? = some o) (d:e∈o.after) (f:Region.binds .any e=true):e.on<j:=by
 have:=aG.1 h (o,j) (by
  grind)
 have:=aG.1 this e (by grind);simp_all
theorem k3y {TI:TypeId->Option TInfo}:∀{l:List Oper} {st:St} {qs:List (Bool×Eff)} {b:St},Steps' P L w0 TI ops l st qs b ->
  ∃(s:Nat->St) (q:Nat->Eff) (a:Nat->Bool),s 0=st/\s l.length=b/\qs.length=l.length/\∀j o,l[j]? = some o->StepOK P L w0 TI ops o (s j) (a j) (q j)/\s (j+1)=(s j).after o (q j)/\qs[j]? = some (a j,q j):=by
 intro l st qs b h
 induction h with
 | nil st=>exact⟨λ_=>st,λ_=>E4 (.one .unk),λ_=>true,rfl,rfl,rfl,λj o d=>by grind⟩
 | cons h t f =>
  rename_i o c st a q qs b;obtain⟨s,e,g,k,i,m,n⟩:=f;refine⟨λj=>match j with | 0=>st | j+1=>s j,λj=>match j with | 0=>q | j+1=>e j,λj=>match j with | 0=>a | j+1=>g j,rfl,i,by grind,λj p d=>?_⟩
  grind
theorem j73:∀(u:List (Nat×AObj)) (h h':Heap) (id:Nat),id∈u.map (·.1)->A3 u h id=A3 u h' id
 | [],_,_,_,a=>by grind
 | p::u,h,h',id,a=>by
  show A3 u (upd h p.1 p.2) id=A3 u (upd h' p.1 p.2) id;by_cases b:id∈u.map (·.1)
  ·exact j73 u _ _ id b
  ·have c:∀q∈u,q.1≠id:=λq d e=>b (aW.2 ⟨q,d,e⟩);rw[q82 u _ id c,q82 u _ id c];simp only[bB,al]at a;rcases a with a | a
   ·rw[a,A2,A2]
   ·exact absurd a b
section
variable (fp:Nat->FP) (s:Nat->St)
def _root_.Go.Abs.FP.wr (f:FP) (id:Nat):Prop:=(f.all=true/\f.lim<=id)\/id∈f.wo
instance (f:FP) (id:Nat):Decidable (f.wr id):=by unfold FP.wr;infer_instance
def over (x s':St) (f:FP):St :=
 { x with ρ:=λt=>if t∈f.wt then s'.ρ t else x.ρ t,h:=λid=>if f.wr id then s'.h id else x.h id }
def mrg (c:Nat->Bool):Nat->St
 | 0=>s 0
 | j+1=>if c j=true then over (mrg c j) (s (j+1)) (fp j)else mrg c j
theorem q9m {c c':Nat->Bool} {t:Nat}:∀(k:Nat),(∀j,j<k->t∈(fp j).wt->c j=c' j)->(mrg fp s c k).ρ t=(mrg fp s c' k).ρ t
 | 0,_=>rfl
 | k+1,h=>by
  have e:=q9m k (λj i=>h j (by omega));simp[mrg];by_cases d:t∈(fp k).wt
  ·rw[h k (by omega) d];split
   ·simp[over,d,if_true]
   ·exact e
  ·have f:∀b:Bool,(if b=true then over (mrg fp s c k) (s (k+1)) (fp k)else mrg fp s c k).ρ t=(mrg fp s c k).ρ t:=λb=>by cases b<;>simp[over,d]
   have g:∀b:Bool,(if b=true then over (mrg fp s c' k) (s (k+1)) (fp k)else mrg fp s c' k).ρ t=(mrg fp s c' k).ρ t:=λb=>by cases b<;>simp[over,d]
   rw[f,g];exact e
theorem q3r {c c':Nat->Bool} {id:Nat}:∀(k:Nat),(∀j,j<k->(fp j).wr id->c j=c' j)->(mrg fp s c k).h id=(mrg fp s c' k).h id
 | 0,_=>rfl
 | k+1,h=>by
  have e:=q3r k (λj i=>h j (by omega));simp[mrg];by_cases d:(fp k).wr id
  ·rw[h k (by omega) d];split
   ·simp[over,d,if_true]
   ·exact e
  ·have f:∀b:Bool,(if b=true then over (mrg fp s c k) (s (k+1)) (fp k)else mrg fp s c k).h id=(mrg fp s c k).h id:=λb=>by cases b<;>simp[over,d]
   have g:∀b:Bool,(if b=true then over (mrg fp s c' k) (s (k+1)) (fp k)else mrg fp s c' k).h id=(mrg fp s c' k).h id:=λb=>by cases b<;>simp[over,d]
   rw[f,g];exact e
theorem Y0 {c:Nat->Bool}:∀(k:Nat),(mrg fp s c k).lt=(s 0).lt/\(mrg fp s c k).lo=(s 0).lo/\(mrg fp s c k).n=(s 0).n
 | 0=>⟨rfl,rfl,rfl⟩
 | k+1=>by
  have b:=Y0 (c:=c) k;simp[mrg];split<;>exact b
end
theorem St.ext_fields {a b:St} (h1:∀t,a.ρ t=b.ρ t) (c:∀id,a.h id=b.h id) (d:a.lt=b.lt/\a.lo=b.lo/\a.n=b.n):a=b:=by
 cases a;cases b;grind[St.mk.injEq]
variable {st:St}
theorem j6p {o:Oper} {q:Eff} {x:St} (b:q.full≠none->x.h=st.h) (c:∀H,q.full=some H->∀id,id<q.lim/\id∉q.ups.map (·.1)->H id=st.h id):x.after o q=over x (st.after o q) (K5 ops o q):=by
 refine St.ext_fields (λt=>?_) (λid=>?_) ⟨rfl,rfl,rfl⟩
 ·show put x.ρ o.dst q.av t=if t∈o.dst.toList then put st.ρ o.dst q.av t else x.ρ t
  cases f:o.dst with
  | none=>rfl
  | some d =>
   by_cases a:t=d
   ·subst a;simp[put,A2]
   ·simp[put,A0 _ _ a,a]
 ·show q.heap x.h id=if(q.full.isSome=true/\q.lim<=id)\/id∈q.ups.map (·.1)then q.heap st.h id else x.h id
  unfold Eff.heap;cases e:q.full with
  | some H =>
   simp_all
  | none =>
   grind[j73,q82]
theorem j7l {id:Nat}:∀(l:List FP) (i j:Nat),z3i id i j l=true->∀(m:Nat) (f:FP),l[m]? = some f->i<=m->m<j->f.all=false/\id∉f.wo
 | [],_,_,_,m,f,b,_,_=>by grind
 | g::r,i,j,h,m,f,b,e,k=>by
  simp[z3i,ac]at h;cases m with
  | zero =>
   simp at b;subst b;have c:i=0:=by omega
   subst c;have a:=h.1;simp only[bD,ac,aU]at a;rcases a with a | a
   ·have:=ab a;omega
   ·exact⟨a.1,λd=>by rw[memb_iff.2 d]at a;cases a.2⟩
  | succ m=>exact j7l r (i-1) (j-1) h.2 m f (by simpa using b) (by omega) (by omega)
theorem j1w {c:List FP} {i:Nat} (h:q8i ops c i j=true) :
  ∃o d a b T m k l n id,ops[i]? = some o/\ops[j]? = some d/\c[i]? = some a/\c[j]? = some b/\o.op=.lookup T m k false/\d.op=.mapEntry T l n/\o.guard=none/\d.guard=none/\a.ro=[id] /\
   a.all=false/\b.all=false/\I7 { a with ro:=[] } b=false/\∀(m:Nat) (f:FP),c[m]? = some f->i+1<=m->m<j->f.all=false/\id∉f.wo:=by
 unfold q8i at h;split at h
 ·rename_i o d a b q w t y;split at h
  ·rename_i T m k B l n id z A u v s;simp only[ac,aU]at h;obtain⟨⟨⟨⟨g,x⟩,p⟩,r⟩,e⟩:=h;have g:=ab g;subst g;exact⟨o,d,a,b,T,m,k,l,n,id,q,w,t,y,z,A,u,v,s,x,p,r,j7l c (i+1) j e⟩
  grind
 grind
theorem k0y {TI:TypeId->Option TInfo} {r:Option Nat} {m:Nat} {Q:Exit->Act->World->Prop} {qs:List (Bool×Eff)} {st':St} (hs:Steps' P L w0 TI ops ops.toList st qs st') (hi:q94 (q8i ops ((ops.toList.zip qs).map λp=>K5 ops p.1 p.2.2)) ((ops.toList.zip qs).map λp=>K5 ops p.1 p.2.2) (q9l ops.toList []) 0 ((ops.toList.zip qs).map λp=>K5 ops p.1 p.2.2)=true) (hb:j03 ops.toList ops.size=true) {κ:A6} {a:Act} {w:World} (sim:Sim P L w0 B r κ st a w) (hQ:∀G a' w',Sim P L w0 B r G st' a' w'->Ext L κ st.h w G st'.h w'->Locks st st' a a'->Q .normal a' w') (hpb:(∃p∈qs,∃T,p.2.av=.one (.pan T))->st.lo D1=false) (hP:z9o P L w0 B r κ st a w qs Q) :
  wpAnyIn (Fr r) m P .any ops Q ops.size (Array.replicate ops.size false) a w:=by
 obtain⟨s,q,want,s0,sn,hql,hst⟩:=k3y hs;have hops:∀(j:Nat) (o:Oper),ops.toList[j]? = some o↔ops[j]? = some o:=λj o=>by simp
 let d:Nat->FP:=λj=>K5 ops (ops.getD j default) (q j)
 have hfp:∀(j:Nat) (o:Oper),ops[j]? = some o->d j=K5 ops o (q j):=λj o A=>by
  simp[d,aA,A,bm]
 have F:∀(j:Nat) (o:Oper),ops[j]? = some o->((ops.toList.zip qs).map λp=>K5 ops p.1 p.2.2)[j]? = some (d j):=λj o A=>by
  grind[List.getElem?_zip_eq_some]
 have hlt:∀j,j<ops.size->∃o,ops[j]? = some o:=λj A=>⟨_,bh A⟩;have hgt:∀(j:Nat) (o:Oper),ops[j]? = some o->j<ops.size:=λj o A=>(au.1 A).1;have ms:=y1y ops ops.toList [] (λj o A=>by grind) (λi k hk=>by grind)
 let M:Nat->Nat->Bool:=q8i ops ((ops.toList.zip qs).map λp=>K5 ops p.1 p.2.2)
 have ord:∀i j,i<j->j<ops.size->I7 (d i) (d j)=true->M i j=false->Bef ops i j:=by
  intro i j hij A J hex;obtain⟨oi,hoi⟩:=hlt i (by omega);obtain⟨oj,hoj⟩:=hlt j A;have:=y0n _ 0 hi j (d j) (F j oj hoj) i (d i) (F i oi hoi) (by omega) J;grind
 have dcl:∀(c:Nat->Bool),(∀(j:Nat) (o:Oper) (e:Edge),c j=true->ops[j]? = some o->e∈o.after->Region.binds .any e=true->c e.on=true)->∀i j,Bef ops i j->c j=true->c i=true:=by
  intro c J i j hb
  induction hb with
  | edge h he hb=>grind
  | step h he hb t ih=>grind
 have K:∀i k,k<=ops.size->mrg d s (λj=>decide (j<i)) k=s (min i k):=by
  intro i k
  induction k with
  | zero=>grind[mrg]
  | succ k ih =>
   intro hk;have ih:=ih (by omega);simp[mrg];by_cases hki:k<i
   ·rw[if_pos (by grind),ih,show min i k=k from by omega,show min i (k+1)=k+1 from by omega];obtain⟨o,ho⟩:=hlt k (by omega);obtain⟨z,C,-⟩:=hst k o ((hops k o).2 ho);rw[hfp k o ho,C];exact(j6p (λ_=>rfl) (λH hH id X=>z.full H hH id (.inr X))).symm
   grind
 have hlock:∀j,j<=ops.size->(s j).lt=st.lt/\(s j).lo=st.lo/\(s j).n=st.n:=by
  intro j A;have:=Y0 d s (c:=λk=>decide (k<j)) ops.size;rw[K j ops.size (ax _),show min j ops.size=j from by omega,s0]at this;omega
 suffices key:∀(fuel:Nat) (b:Array Bool) (G:A6) (a':Act) (w':World),b.size=ops.size->((List.range ops.size).filter λj=>!b.getD j true).length<=fuel ->
   (∀(j:Nat) (o:Oper) (e:Edge),b.getD j false=true->ops[j]? = some o->e∈o.after->Region.binds .any e=true->b.getD e.on false=true) ->
   Sim P L w0 B r G (mrg d s (λj=>b.getD j false) ops.size) a' w'->Ext L κ st.h w G (mrg d s (λj=>b.getD j false) ops.size).h w'->Locks st (mrg d s (λj=>b.getD j false) ops.size) a a' ->
   wpAnyIn (Fr r) m P .any ops Q fuel b a' w' by
  have hnone:∀j,(Array.replicate ops.size false).getD j false=false:=λj=>by
   rw[aA,Array.getElem?_replicate];grind
  have hm0:mrg d s (λj=>(Array.replicate ops.size false).getD j false) ops.size=st:=by
   have:(λj=>(Array.replicate ops.size false).getD j false)=λj=>decide (j<0):=funext λj=>by grind
   rw[this,K 0 ops.size (ax _)];grind
  refine key ops.size _ κ a w (by simp) (bw (bA _ _) (by simp)) (λj o e A=>by grind) ?_ ?_ ?_
  all_goals grind[Ext.refl,Locks.refl]
 have ready_of:∀(b:Array Bool),b.size=ops.size->∀j,j<ops.size->b.getD j false=false->(∀(o:Oper) (e:Edge),ops[j]? = some o->e∈o.after->Region.binds .any e=true->b.getD e.on false=true) ->
   j∈Region.ready .any ops b:=by
  grind[Region.ready]
 have O:∀(b:Array Bool),b.size=ops.size->∀j,j∈Region.ready .any ops b->j<ops.size/\b.getD j false=false/\∀(o:Oper) (e:Edge),ops[j]? = some o->e∈o.after->Region.binds .any e=true->b.getD e.on false=true:=by
  grind[Region.ready,Array.all_eq_true_iff_forall_mem]
 have fin:∀(b:Array Bool) (G:A6) (a':Act) (w':World),b.size=ops.size->Region.ready .any ops b=[] ->
   Sim P L w0 B r G (mrg d s (λj=>b.getD j false) ops.size) a' w'->Ext L κ st.h w G (mrg d s (λj=>b.getD j false) ops.size).h w'->Locks st (mrg d s (λj=>b.getD j false) ops.size) a a'->Q .normal a' w':=by
  intro b G a' w' hsz hr S V hlk;have all:∀j,j<ops.size->b.getD j false=true:=by
   intro j
   induction j using Nat.strongRecOn with
   | _ j ih =>
    grind[v1y]
  have Z:mrg d s (λj=>b.getD j false) ops.size=st':=by
   have z:mrg d s (λj=>b.getD j false) ops.size=mrg d s (λj=>decide (j<ops.size)) ops.size :=
    St.ext_fields (λt=>q9m d s ops.size λj A _=>by grind) (λid=>q3r d s ops.size λj A _=>by grind)
     ⟨(Y0 d s _).1.trans (Y0 d s _).1.symm,(Y0 d s _).2.1.trans (Y0 d s _).2.1.symm,(Y0 d s _).2.2.trans (Y0 d s _).2.2.symm⟩
   rw[z,K ops.size ops.size (ax _),Nat.min_self];omega
  grind
 intro fuel
 induction fuel with
 | zero =>
  intro b G a' w' hsz hf hdc S V hlk;have hr:Region.ready .any ops b=[]:=by
   apply eh.2;intro j A;obtain⟨z,C,-⟩:=O b hsz j A;have:j∈(List.range ops.size).filter λj=>!b.getD j true:=bn.2 ⟨aL.2 z,by
    grind⟩
   grind
  exact⟨hr,fin b G a' w' hsz hr S V hlk⟩
 | succ fuel ih =>
  intro b G a' w' hsz hf hdc S V hlk;refine⟨λhr=>fin b G a' w' hsz hr S V hlk,λi hir=>?_⟩;obtain⟨hin,hil,hie⟩:=O b hsz i hir;obtain⟨o,ho⟩:=hlt i hin;obtain⟨D,hnext,-⟩:=hst i o ((hops i o).2 ho);have I:=hfp i o ho;have befl:∀j,Bef ops j i->b.getD j false=true:=by
   intro j hb;cases hb with
   | edge h he hbi=>grind
   | step h he hbi t=>exact dcl (λj=>b.getD j false) (λj o e z C N h4=>hdc j o e z C N h4) _ _ t (hie _ _ h he hbi)
  have behl:∀j,Bef ops i j->b.getD j false=false:=by
   intro j hb;cases hl:b.getD j false with
   | false=>rfl
   | true =>
    have:=dcl (λj=>b.getD j false) (λj o e z C N h4=>hdc j o e z C N h4) i j hb hl;grind
  have side:∀j,j<ops.size->j≠i->(I7 (d j) (d i)=true/\I7 (d i) (d j)=true)->(j<i->M j i=false)->(i<j->M i j=false)->b.getD j false=decide (j<i):=by
   intro j A u J x1 x2;grind[Nat.lt_or_gt_of_ne]
  have hx:mrg d s (λj=>decide (j<i)) ops.size=s i:=by rw[K i ops.size (ax _),show min i ops.size=i from by omega]
  have exf:∀k l,k<ops.size->l<ops.size->I7 { d k with ro:=[] } (d l)=true->M k l=false:=by
   intro k l hk hl J;cases he:M k l with
   | false=>rfl
   | true =>
    obtain⟨o1,o2,a1,b1,T,m1,k1,m2,k2,id,e1,e2,e3,e4,-,-,-,-,-,-,-,e12,-⟩:=j1w he;rw[F k o1 e1]at e3;cases e3;rw[F l o2 e2]at e4;cases e4;rw[J]at e12;cases e12
  have weak:∀k l,I7 { d k with ro:=[] } (d l)=true->I7 (d k) (d l)=true:=by
   intro k l J;have hm0:∀(x:List Nat),L5 x []=false:=λx=>by
    show(!Nat.beq (T7 x &&& 0) 0)=false;rw[Nat.and_zero];rfl
   simp[I7,hm0,q6c,ei,bD,ac,Bool.or_assoc,dh]at J ⊢;rcases J with h | h | h | h | h
   ·exact .inl h
   ·exact .inr (.inl h)
   ·exact .inr (.inr (.inl h))
   ·exact .inr (.inr (.inr (.inr (.inl h))))
   ·exact .inr (.inr (.inr (.inr (.inr ⟨h.1,.inr h.2⟩))))
  have cw:∀j t,t∈(d j).wt->t∈(d i).rt\/t∈(d i).wt->I7 { d j with ro:=[] } (d i)=true/\I7 { d i with ro:=[] } (d j)=true:=by
   intro j t z C;have m1:L5 (d j).wt ((d i).rt++(d i).wt)=true:=by
    cases Z:L5 (d j).wt ((d i).rt++(d i).wt)with
    | true=>rfl
    | false=>exact absurd (aQ.2 C) (q3q Z t z)
   constructor
   ·simp[I7,m1]
   ·rcases C with C | C
    ·have m2:L5 (d j).wt (d i).rt=true:=by
      cases Z:L5 (d j).wt (d i).rt with
      | true=>rfl
      | false=>exact absurd C (q3q Z t z)
     simp[I7,m2]
    ·have m2:L5 (d i).wt ((d j).rt++(d j).wt)=true:=by
      cases Z:L5 (d i).wt ((d j).rt++(d j).wt)with
      | true=>rfl
      | false=>exact absurd (aQ.2 (.inr z)) (q3q Z t C)
     simp[I7,m2]
  have ne:∀(id:Nat) (l:List Nat),id∈l->l.isEmpty=false:=λid l hl=>by cases l with | nil=>cases hl | cons _ _=>rfl
  have co:∀j id,(d j).wr id->((d i).all=true\/id∈(d i).wo)->I7 { d j with ro:=[] } (d i)=true/\I7 { d i with ro:=[] } (d j)=true:=by
   intro j id z C;rcases z with z | z
   ·obtain⟨z,hl⟩:=z;rcases C with C | C
    ·simp[I7,z,C]
    ·simp[I7,z,ne _ _ C]
   ·rcases C with C | C
    ·simp[I7,C,ne _ _ z]
    ·have m1:L5 (d j).wo ((d i).ro++(d i).wo)=true:=by
      cases Z:L5 (d j).wo ((d i).ro++(d i).wo)with
      | true=>rfl
      | false=>exact absurd (aQ.2 (.inr C)) (q3q Z id z)
     have m2:L5 (d i).wo ((d j).ro++(d j).wo)=true:=by
      cases Z:L5 (d i).wo ((d j).ro++(d j).wo)with
      | true=>rfl
      | false=>exact absurd (aQ.2 (.inr z)) (q3q Z id C)
     simp[I7,m1,m2]
  have cr:∀j id,(d j).wr id->id∈(d i).ro->I7 { d j with ro:=[] } (d i)=true/\I7 (d i) (d j)=true:=by
   intro j id z C;rcases z with z | z
   ·obtain⟨z,hl⟩:=z;simp[I7,z,j9u C hl]
   ·have m1:L5 (d j).wo ((d i).ro++(d i).wo)=true:=by
     cases Z:L5 (d j).wo ((d i).ro++(d i).wo)with
     | true=>rfl
     | false=>exact absurd (aQ.2 (.inl C)) (q3q Z id z)
    have m2:L5 (d j).wo (d i).ro=true:=by
     cases Z:L5 (d j).wo (d i).ro with
     | true=>rfl
     | false=>exact absurd C (q3q Z id z)
    simp[I7,m1,m2]
  have W:∀j,j<ops.size->j≠i->(I7 { d j with ro:=[] } (d i)=true/\I7 { d i with ro:=[] } (d j)=true)->b.getD j false=decide (j<i):=λj A u J =>
   side j A u ⟨weak j i J.1,weak i j J.2⟩ (λ_=>exf j i A hin J.1) (λ_=>exf i j hin A J.2)
  have agT:∀t,t∈(d i).rt->(mrg d s (λj=>b.getD j false) ops.size).ρ t=(s i).ρ t:=by
   intro t Y;rw[<-hx];refine q9m d s ops.size λj A E=>?_;by_cases u:j=i
   ·subst u;simp only[hil];simp
   ·exact W j A u (cw j t E (.inl Y))
  have agW:∀id,((d i).all=true\/id∈(d i).wo)->(mrg d s (λj=>b.getD j false) ops.size).h id=(s i).h id:=by
   intro id Y;rw[<-hx];refine q3r d s ops.size λj A E=>?_;by_cases u:j=i
   ·subst u;simp only[hil];simp
   ·exact W j A u (co j id E Y)
  have agR:(¬∃j id,i<j/\j<ops.size/\M i j=true/\id∈(d i).ro/\(d j).wr id/\b.getD j false=true)->∀id,id∈(d i).ro->(mrg d s (λj=>b.getD j false) ops.size).h id=(s i).h id:=by
   intro hno id Y;rw[<-hx];refine q3r d s ops.size λj A E=>?_;by_cases u:j=i
   ·subst u;simp only[hil];simp
   ·have J:=cr j id E Y;by_cases hex:i<j/\M i j=true
    ·cases hl:b.getD j false with
     | true=>exact absurd ⟨j,id,hex.1,A,hex.2,Y,E,hl⟩ hno
     | false=>simp;omega
    ·exact side j A u ⟨weak j i J.1,J.2⟩ (λ_=>exf j i A hin J.1) (λhij=>by
      cases he:M i j with
      | false=>rfl
      | true=>exact absurd ⟨hij,he⟩ hex)
  have hevt:∀x∈o.op.operands,ev (mrg d s (λj=>b.getD j false) ops.size).ρ x=ev (s i).ρ x:=by
   intro x hx';cases x with
   | tmp t =>
    refine agT t ?_;rw[I];exact aB _ (eu.2 ⟨.tmp t,by simpa using hx',rfl⟩)
   | const v=>rfl
   | func f=>rfl
   | global g=>rfl
  have hfull:(q i).full≠none->(mrg d s (λj=>b.getD j false) ops.size).h=(s i).h:=λhf=>funext λid=>agW id (.inl (by rw[I];show(q i).full.isSome=true;cases hq:(q i).full with | none=>exact absurd hq hf | some _=>rfl));have hop:want i=true->A9 P L w0 o (mrg d s (λj=>b.getD j false) ops.size).ρ (mrg d s (λj=>b.getD j false) ops.size).h ((q i).heap (mrg d s (λj=>b.getD j false) ops.size).h) (q i).av:=by
   intro hw;by_cases hsp:∃j id,i<j/\j<ops.size/\M i j=true/\id∈(d i).ro/\(d j).wr id/\b.getD j false=true
   ·obtain⟨j,id,hij,A,hex,hro,hwr,hlj⟩:=hsp;obtain⟨o1,o2,a1,b1,T,lm,lk,em,ek,id1,e1,e2,e3,e4,e5,e6,e7,e8,e9,e10,e11,e12,e13⟩:=j1w hex;rw[ho]at e1;cases e1;rw[F i o ho]at e3;cases e3;rw[F j o2 e2]at e4;cases e4;have X:id=id1:=by rw[e9]at hro;simpa using hro
    subst X;obtain⟨hstepj,hnextj,-⟩:=hst j o2 ((hops j o2).2 e2);have hwj:want j=true:=hstepj.noguard e8;have hrd:(q i).rd=[id]:=by rw[<-e9,I];rfl
    obtain⟨l1,l2⟩:=D.look hw T lm lk e5 id hrd;have hwo:id∈(d j).wo:=by
     rcases hwr with h | h
     ·rw[e11]at h;cases h.1
     ·exact h
    have btw:∀k,i<k->k<j->¬(d k).wr id:=by
     intro k z C N;obtain⟨ok,hok⟩:=hlt k (by omega);obtain⟨h4,h5⟩:=e13 k (d k) (F k ok hok) z C;rcases N with N | N
     ·rw[h4]at N;cases N.1
     ·exact h5 N
    have self:¬(d i).wr id:=by
     intro N;rcases N with N | N
     ·rw[e10]at N;cases N.1
     ·have:=(co j id hwr (.inr N)).2;rw[this]at e12;cases e12
    have hsj:(s j).h id=(s i).h id:=by
     have t1:mrg d s (λk=>decide (k<j)) ops.size=s j:=by rw[K j ops.size (ax _),show min j ops.size=j from by omega]
     rw[<-t1,<-hx];refine q3r d s ops.size λk hk hkw=>?_;by_cases z:k<i
     ·simp[z,show k<j from by omega]
     ·by_cases C:k<j
      ·by_cases N:k=i
       ·subst N;exact absurd hkw self
       ·exact absurd hkw (btw k (by omega) C)
      ·simp[z,C]
    have hmj:(mrg d s (λj=>b.getD j false) ops.size).h id=(s (j+1)).h id:=by
     have t1:mrg d s (λk=>decide (k<j+1)) ops.size=s (j+1):=by rw[K (j+1) ops.size (ax _),show min (j+1) ops.size=j+1 from by omega]
     rw[<-t1];refine q3r d s ops.size λk hk hkw=>?_;by_cases N:k=i
     ·subst N;exact absurd hkw self
     by_cases h4:k=j
     ·subst h4;rw[hlj];simp
     by_cases z:k<i
     ·have J:=cr k id hkw hro;rw[side k hk N ⟨weak k i J.1,J.2⟩ (λ_=>exf k i hk hin J.1) (λh=>by omega)];simp[z,show k<j+1 from by omega]
     by_cases C:k<j
     ·exact absurd hkw (btw k (by omega) C)
     ·have J:=cr k id hkw hro;have hne:M i k=false:=by
       cases he:M i k with
       | false=>rfl
       | true =>
        obtain⟨o3,o4,a3,b3,_,_,_,_,_,id3,f1,f2,f3,f4,-,-,-,-,f9,-,-,-,f13⟩:=j1w he;rw[F i o3 f1]at f3;cases f3;have:id3=id:=by rw[e9]at f9;simpa using f9.symm
        subst this;exact absurd hwo (f13 j (d j) (F j o2 e2) (by omega) (by omega)).2
      rw[side k hk N ⟨weak k i J.1,J.2⟩ (λh=>by omega) (λ_=>hne)];simp;omega
    have hups:id∈(q j).ups.map (·.1):=by
     have:=hwo;rw[hfp j o2 e2]at this;exact this
    rcases hstepj.ent hwj T em ek e6 id hups with z | z
    ·rw[hsj]at z;exact absurd z l1
    ·rw[hsj]at z;refine l2 _ _ hevt ?_;rw[hmj,hnextj];exact z
   ·have hag:q05 o.op (q i) (s i).ρ (s i).h (mrg d s (λj=>b.getD j false) ops.size).ρ (mrg d s (λj=>b.getD j false) ops.size).h :=
     ⟨hevt,λid Z=>agR hsp id (by rw[I];exact Z),λp Z=>agW p.1 (.inr (by rw[I];exact aW.2 ⟨p,Z,rfl⟩)),hfull⟩
    exact D.run hw _ _ hag
  have hgs:∀t∈z4v ops o,(mrg d s (λj=>b.getD j false) ops.size).ρ t=(s i).ρ t:=λt Y=>agT t (by rw[I];exact aC _ Y);obtain⟨m1,m2,m3⟩:=Y0 d s (c:=λj=>b.getD j false) ops.size;obtain⟨l1,l2,l3⟩:=hlock i (by omega);have hafter:(mrg d s (λj=>b.getD j false) ops.size).after o (q i)=mrg d s (λj=>(b.setIfInBounds i true).getD j false) ops.size:=by
   have U:∀j,(b.setIfInBounds i true).getD j false=if j=i then true else b.getD j false:=λj=>by
    by_cases u:j=i
    ·subst u;rw[if_pos rfl,aA,bV (by omega)];rfl
    ·rw[if_neg u,aA,bE (Ne.symm u),<-aA]
   rw[j6p (ops:=ops) (st:=s i) hfull (λH hH id X=>D.full H hH id (.inr X)),<-hnext,<-I];have hx1:mrg d s (λj=>decide (j<i+1)) ops.size=s (i+1):=by rw[K (i+1) ops.size (ax _),show min (i+1) ops.size=i+1 from by omega]
   refine St.ext_fields (λt=>?_) (λid=>?_) ⟨m1.trans (Y0 d s _).1.symm,m2.trans (Y0 d s _).2.1.symm,m3.trans (Y0 d s _).2.2.symm⟩
   ·simp only[over];by_cases Y:t∈(d i).wt
    ·rw[if_pos Y,<-hx1];refine q9m d s ops.size λj A E=>?_;rw[U];by_cases u:j=i
     ·subst u;simp
     ·rw[if_neg u,W j A u (cw j t E (.inr Y))];simp;omega
    ·rw[if_neg Y];refine q9m d s ops.size λj A E=>?_;rw[U,if_neg (fun(e:j=i)=>Y (e▸E))]
   ·simp only[over];by_cases Y:(d i).wr id
    ·rw[if_pos Y,<-hx1];refine q3r d s ops.size λj A E=>?_;rw[U];by_cases u:j=i
     ·subst u;simp
     ·rw[if_neg u,W j A u (co j id E (by rcases Y with h | h;exact .inl h.1;exact .inr h))];simp;omega
    ·rw[if_neg Y];refine q3r d s ops.size λj A E=>?_;rw[U,if_neg (fun(e:j=i)=>Y (e▸E))]
  refine j5f ho D (by rw[m1,l1,s0]) (by rw[m2,l2,s0]) (by rw[m3,l3,s0]) hop hgs (λH hH id X=>?_) S (λκ'' a'' w'' g1 g2 g3=>?_) λhw T hT κ'' w'' g1 g2=>?_
  ·have:=D.full H hH id (.inl (by rw[l2,<-s0,<-m2];exact X));rw[this];exact(agW id (.inl (by rw[I];show(q i).full.isSome=true;rw[hH];rfl))).symm
  ·rw[hafter]at g1 g2 g3;have U:∀j,(b.setIfInBounds i true).getD j false=if j=i then true else b.getD j false:=λj=>by
    by_cases u:j=i
    ·subst u;rw[if_pos rfl,aA,bV (by omega)];rfl
    ·rw[if_neg u,aA,bE (Ne.symm u),<-aA]
   refine ih (b.setIfInBounds i true) κ'' a'' w'' (by simpa using hsz) ?_ (λj o' e A ho' he hbe=>?_) g1 (V.trans g2) (hlk.trans g3)
   ·have hlen:((List.range ops.size).filter λj=>!(b.setIfInBounds i true).getD j true).length<((List.range ops.size).filter λj=>!b.getD j true).length:=by
     have hsett:∀j,(b.setIfInBounds i true).getD j true=if j=i then true else b.getD j true:=λj=>by
      by_cases u:j=i
      ·subst u;rw[if_pos rfl,aA,bV (by omega)];rfl
      ·rw[if_neg u,aA,bE (Ne.symm u),<-aA]
     have hsub:((List.range ops.size).filter λj=>!(b.setIfInBounds i true).getD j true)=((List.range ops.size).filter λj=>!b.getD j true).filter λj=>decide (j≠i):=by
      rw[List.filter_filter];refine List.filter_congr λj _=>?_;rw[hsett];by_cases u:j=i<;>simp[u]
     rw[hsub];refine List.length_filter_lt_length_iff_exists.2 ⟨i,bn.2 ⟨aL.2 hin,?_⟩,by simp⟩;rw[aA]at hil ⊢;rw[bh (by omega)]at hil ⊢;simpa using hil
    omega
   ·rw[U]at A ⊢;by_cases hei:e.on=i
    ·rw[if_pos hei]
    ·rw[if_neg hei];by_cases u:j=i
     ·subst u;exact hie o' e ho' he hbe
     ·rw[if_neg u]at A;exact hdc j o' e A ho' he hbe
  ·obtain⟨H,hH,-⟩:=q9t D.pan hT;have hq:(q i).heap (mrg d s (λj=>b.getD j false) ops.size).h=H:=by unfold Eff.heap;rw[hH]
   rw[hq]at g1 g2;have hmem:(want i,q i)∈qs:=bk (hst i o ((hops i o).2 ho)).2.2;obtain⟨p1,p2⟩:=y3e S hlk (hpb ⟨_,hmem,T,hT⟩) (λid X=>(D.full H hH id (.inl (by rw[l2,<-s0,<-m2];exact X))).trans (agW id (.inl (by show(q i).full.isSome=true;rw[hH];rfl))).symm) g1 g2;exact hP _ hmem T H hT hH κ'' a' w'' p1 (V.trans g2) p2
theorem v3v {R:Type} {a:St} {qs:List (Bool×Eff)} {c:Option Nat} {K:XK->St->Option R} {z:R} (d:j6c a.h qs c) (b:z3v st a c K=some z) :
  (c=none/\K .nrm a=some z)\/(∃j T,c=some j/\a.h D1=N8 T/\st.lo D1=false/\K (.pan T) (q2j st a.h)=some z/\∀p∈qs,∀e,p.2.av=.one (.pan e)->e=T/\p.2.full=some a.h):=by
 cases c with
 | none=>exact .inl ⟨rfl,b⟩
 | some j =>
  obtain⟨T,f,g⟩:=d;have b:j40 st a K=some z:=b;unfold j40 at b;rw[f]at b;have b:cond (!st.lo D1) (K (.pan T) (q2j st a.h)) none=some z:=b;grind
theorem v4c {R:Type} {C:Ctx} (hC:CtxOK P L w0 C) (D:P.follows .mixedOrders=true) {ib id:Nat} {k:Bool} {K:XK->St->Option R} {z:R} (he:j1k C ib ops k st K=some z) :
  ∃x b,K x b=some z/\SL st b/\∀B r g a w,Sim P L w0 B r g st a w->∀(m:Nat) (Q:Exit->Act->World->Prop),(∀c i f,Sim P L w0 B r c b i f->Ext L g st.h w c b.h f->Locks st b a i->Q x.exit i f) ->
   (Code.region id ops k).wpIn (Fr r) m P Q a w:=by
 obtain⟨M,e,pj,n,A,l⟩:=z4b hC ops.toList st [] _ z he;have G:z3v st e pj K=some z->∃x b,K x b=some z/\SL st b/\∀B r g a w,∀(Q:Exit->Act->World->Prop),(∀c i f,Sim P L w0 B r c b i f->Ext L g st.h w c b.h f->Locks st b a i->Q x.exit i f) ->
   (∀c i f,Sim P L w0 B r c e i f->Ext L g st.h w c e.h f->Locks st e a i->Q .normal i f)/\((∃p∈M,∃T,p.2.av=.one (.pan T))->st.lo D1=false)/\z9o P L w0 B r g st a w M Q:=λl=>by
  rcases v3v A l with⟨J,l⟩ | ⟨j,T,J,F,O,l,Z⟩
  ·subst J;refine⟨.nrm,e,l,y7l n,λB r g a w Q q=>⟨q,λ⟨p,s,T,F⟩=>absurd F (A p s T),λp s T H F=>absurd F (A p s T)⟩⟩
  ·refine⟨.pan T,q2j st e.h,l,⟨rfl,λid U=>?_⟩,λB r g a w Q q=>⟨λc i f d _ _=>(y0b d.heap F).elim,λ_=>O,λp s T' H N hH c i f y v u=>?_⟩⟩
   ·have I:id≠D1:=λh=>by grind
    show upd e.h D1 .fresh id=st.h id;rw[A0 _ _ I];exact(y7l n).obj id U
   ·obtain⟨e1,Y⟩:=Z p s T' N;subst e1;rw[hH]at Y;cases Y;exact q c i f y v u
 cases k with
 | false =>
  obtain⟨x,b,y,v,u⟩:=G l;refine⟨x,b,y,v,λB r g a w d m Q q=>?_⟩;obtain⟨V,S,X⟩:=u B r g a w Q q;refine wpIn_region ?_;have:=j4d (r:=r) (m:=m) (Q:=Q) S X ops.toList 0 st M e n (λp s=>s) (λj o J=>by grind) g a w d (Ext.refl _ _ _ _) (Locks.refl _ _) V;grind[List.range_eq_range']
 | true =>
  obtain⟨W,l⟩:=B1 l;rw[ac,cN]at W;obtain⟨x,b,y,v,u⟩:=G l;refine⟨x,b,y,v,λB r g a w d m Q q=>?_⟩;refine wpIn_region_any D ?_;have E:Sim P L w0 B r g st a w.drew:=⟨d.size,λt=>(d.env t).ext (T2 g _ w),q3j d.heap,d.defs,d.rnd⟩;obtain⟨V,S,X⟩:=u B r g a w.drew Q λc i f y v u=>q c i f y ((T2 g _ w).trans v) u;exact k0y n W.1 W.2 E V S X
end Go.Abs
