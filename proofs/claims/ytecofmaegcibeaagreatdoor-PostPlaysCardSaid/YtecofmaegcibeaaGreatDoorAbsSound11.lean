/- The engine, part 11 b: slices.SortFunc on an array of the call's own, elements of one cell. -/
import Derived.Test.YtecofmaegcibeaaGreatDoorAbsFun
import Derived.Test.YtecofmaegcibeaaGreatDoorAbsSortP
import Derived.Sort.Statements
import Derived.Sort.Row
import Derived.Sort.Grow
import Derived.Deep.Draws
namespace Go.Abs
open Go Go.RowKit Go.Sort
variable {P:Program} {L:Nat->Prop} {w0:World}
def L1 {α:Type} [Inhabited α] (enc:α->Value) (w:World) (blk off m:Nat) (dk:Array α) (os:Array Obj):World:=grow (putRow enc (Sort.ahead w m) blk off dk) os
def ltC {α:Type} (cf:α->α->Int) (x y:α):Bool:=decide (cf x y<0)
def j6a {α:Type} [Inhabited α] (P:Program) (g:Nat) (cb:Array Value) (enc:α->Value) (cf:α->α->Int) (blk off size:Nat) (w:World):Prop :=
 ∀(m:Nat) (os:Array Obj) (dk:Array α),dk.size=size->∀x y:α,
  Calls P g (#[enc x,enc y]++cb) (L1 enc w blk off m dk os) λe w'=>e=.returned (.int .i64 (cf x y))/\∃q os',w'=grow ((L1 enc w blk off m dk os).drewN q) os'
structure Sort1 (P:Program) (F:FuncId):Prop where
 fn:∃fn,P.funcs[F]? = some fn/\fn.body.isSome=true/\(fn.name== "runtime.NumGoroutine")=false
 none:∀(p:Option Addr) (cap:Nat) (fv:Value) (w:World),Calls P F #[.slice p 0 cap,fv] w λe w'=>e=.returned (.tuple #[])/\w'=w
 sort:∀{α:Type} [Inhabited α] (enc:α->Value),(∀x,(enc x).oneCell'=true)->∀(cf:α->α->Int),SWO (ltC cf)->∀(g:Nat) (cb:Array Value) (blk off cap:Nat) (d:Array α) (w:World),
  (∀args w,(callFunc g args).run P w=.ok (.enter g args) w)->j6a P g cb enc cf blk off d.size w->Holds enc w blk off d->blk<w.heap.size->d.size<4611686018427387904 ->
  Calls P F #[.slice (some ⟨blk,off,Option.none⟩) d.size cap,.func (.func g) #[] cb] w λe w'=>e=.returned (.tuple #[])/\∃d' n os,PermIn 0 d.size d d'/\SortedIn (ltC cf) 0 d.size d'/\w'=L1 enc w blk off n d' os
theorem j7j {w w':World} (h:Below w.heap.size w w'):∃q d,w'=grow (w.drewN q) d:=by
 refine⟨w'.drawn-w.drawn,w'.heap.extract w.heap.size w'.heap.size,?_⟩;have k:=h.drawn;have n:=h.size;have m:w'.heap=w.heap++w'.heap.extract w.heap.size w'.heap.size:=by
  apply dJ;intro i;by_cases f:i<w.heap.size
  ·rw[dw f,h.block i f]
  grind
 cases w' with
 | mk c e b d a =>
  have j:=h.os;have g:=h.tape;have l:=h.output;grind[grow,World.drewN,World.mk.injEq]
theorem j8q {g:FuncId} (h:∃a,P.funcs[g]? = some a/\a.body.isSome=true/\(a.name== "runtime.NumGoroutine")=false) (args:Array Value) (w:World):(callFunc g args).run P w=.ok (.enter g args) w:=by
 obtain⟨a,b,d,c⟩:=h;simp[callFunc,b,dA];grind
theorem q4m {R:Type} {b:Bool} {K:Option R} {z:R} (a:cond b K none=some z):b=true/\K=some z:=by
 grind
structure CmpIs (sp:Spec) (t:Ty) (f:t.den->t.den->Option Int):Prop where
 is:∀x y v,f x y=some v->∃X Y,sp.f X=some Y/\(∀(w:World) (A:Nat->Prop) (v1 v2:Value),RepVal w A false t v1 x->RepVal w A false t v2 y->W4 w A sp.refs sp.args [v1,v2] X) /\
  ∀(L:Nat->Prop) (w w':World) (u:Value),U4 L w w' sp.res u Y->u=.int .i64 v
theorem z6j {b:Type} [Inhabited b] (enc:b->Value) (a:Nat) (d:Array b) (c:Array Value) (k:Nat):(putCells enc a d c)[k]? = if a<=k/\k<a+d.size then(c[k]?).map (λ_=>enc d[k-a]!)else c[k]?:=by
 grind[putCells]
theorem y3r {a:Type} [Inhabited a] (enc:a->Value) (b:Nat) (d:Array a) (c:Array Value):(putCells enc b d c).size=c.size:=by
 grind[putCells]
theorem q7i {h:Type} [Inhabited h] (enc:h->Value) (w:World) (b c m:Nat) (d:Array h) (os:Array Obj) {f:Array Value} {e:TypeId} {i:Nat×Nat} (k:w.heap[b]? = some (.cells f e i)) :
  (putRow enc (Sort.ahead w m) b c d).heap.size=w.heap.size/\(putRow enc (Sort.ahead w m) b c d).heap[b]? = some (.cells (putCells enc c d f) e i)/\(∀g,g≠b->(putRow enc (Sort.ahead w m) b c d).heap[g]? = w.heap[g]?) /\
  L1 enc w b c m d os=grow (putRow enc (Sort.ahead w m) b c d) os:=by
 refine⟨by simp_all,?_,λg j=>?_,rfl⟩
 all_goals grind[putRow,mapBlock,Sort.ahead,onCells]
theorem k2x {o:Oper} {g s c:Operand} {Ts:Array TypeId} (ho:o.op=.call { callee:=.value g,args:=#[s,c],argTypes:=Ts }) {F:FuncId} (hS:Sort1 P F) {ρs:Env} {hs:Heap} (hg:ev ρs g=.one (.fn F []))
  {cg:FuncId} {sp:Spec} {gl:W5} (hsp:FunOK' P gl cg sp) (hgl:GlobOK gl w0) {id:Nat} {e:TypeId} {t:Ty} {l:List t.den} (hsv:ev ρs s=.one (.own id)) (hid:hs id=.arr e t l) (hc:ev ρs c=.one (.fn cg []))
  (ht1:t.size=1) {f:t.den->t.den->Option Int} (hf:CmpIs sp t f) {z:List t.den} (hz:O6 f l=some z) (hlen:l.length<4611686018427387904) :
  A9 P L w0 o ρs hs (upd hs id (.arr e t z)) (.tup []):=by
 obtain⟨U,hperm,hsrt⟩:=y5p hz;have hzl:z.length=l.length:=hperm.length_eq;intro r κ a w henv ok m K' Q hK _;have hev:=R5 henv;have hgv:=hev g;rw[hg]at hgv;obtain⟨cs,hgv,V,-⟩:=hgv;have hcs:cs=[]:=aO V;subst hcs;have hcv:=hev c;rw[hc]at hcv;obtain⟨cs,hcv,V,-⟩:=hcv;have hcs:cs=[]:=aO V;subst hcs;have hsv':=hev s;rw[hsv]at hsv';have hsv1:=hsv'.1;rw[hid]at hsv1;obtain⟨fn,hf1,hf2,hf3⟩:=hS.fn;have O:=q4q (P:=P) ho hgv hf1 hf2 hf3 w;have harr:(#[]++#[s,c].map a.eval++([]:List Value).toArray)=#[a.eval s,.func (.func cg) #[] #[]]:=by
  grind
 rw[harr]at O;have hrep:∀(κ':A6) (h':Heap) (w':World),RepAV L κ' h' w' (.tup []) (.tuple #[]):=λκ' h' w'=>⟨[],rfl,rfl,λj c u hj=>by grind⟩;by_cases hl0:l.length=0
 ·have hl:l=[]:=aO hl0;have hz0:z=[]:=aO (by omega);subst hl;subst hz0;obtain⟨p,E,hv⟩:∃p E,a.eval s=.slice p 0 E:=by
   grind
  rw[hv]at O;have K:=(callsIn_wide (n:=m-1)).2 (hS.none p E (.func (.func cg) #[] #[]) w);refine q30 (λc hc=>by grind) O K λe' w' ⟨he,hw⟩=>⟨_,he,?_⟩;subst hw;rw[q5p hs id _ hid]at hK;exact hK κ _ w' ok (hrep _ _ _) (Ext.refl L κ hs w')
 ·rcases hsv1 with⟨-,hnil,-⟩ | ⟨b,E,hk,hv⟩
  ·grind
  have W:(hs id).live=true:=by rw[hid];rfl
  have hobj:=ok.obj id;rw[hid]at hobj;rcases hobj with⟨hk',_⟩ | ⟨I,cap',cur,hk',M,hcsz,hcm,hll,hone,hel⟩
  ·grind
  rw[hk]at hk';simp at hk';obtain⟨rfl,rfl⟩:=hk';have hown:=ok.own id b E W hk;obtain⟨E,B⟩:=E;simp at hcsz hcm hll hel hv;have hcsz:B+E<=cur.size:=by grind
  let J:=Fin l.length
  have:Inhabited J:=⟨⟨0,by omega⟩⟩
  let A:J->Value:=λi=>cur[B+i.1]!
  have henc:∀i:J,cur[B+i.1]? = some (A i):=λi=>by
   grind
  have h1:(∀x,(A x).oneCell'=true):=λi=>hone _ (bk (by rw[aE];exact henc i));have hval:∀i:J,RepVal w (A4 L κ hs w) false t (A i) l[i.1]:=λi=>⟨ht1,h1 i,RepAt.congr t _ _ _ (λc hc=>by
   grind[E6]) (hel i.1 l[i.1] (af i.2))⟩
  let d:Array J:=Array.ofFn λi=>i
  have hds:d.size=l.length:=Array.size_ofFn;have hd:∀j (h:j<l.length),d[j]! = (⟨j,h⟩:J):=λj h=>by
   rw[getElem!_pos d j (by omega)];simp[d]
  let cf:J->J->Int:=λi j=>(f l[i.1] l[j.1]).getD 0
  have hcf:∀i j:J,f l[i.1] l[j.1]=some (cf i j):=λi j=>by
   obtain⟨v,hv⟩:=U.all _ (ay i.2) _ (ay j.2);grind
  have hlt:∀i j:J,ltC cf i j=true↔ltF f l[i.1] l[j.1]:=λi j=>by
   grind[ltC,ltF]
  have C:∀i:J,l[i.1]∈l:=λi=>ay i.2;have T:∀i j:J,ltC cf i j=false↔¬ltF f l[i.1] l[j.1]:=λi j=>by grind
  have hO:SWO (ltC cf):=by
   refine⟨λx=>(T x x).2 (U.irr _ (C x)),λx y q h1 h2=>(hlt x q).2 (U.trans _ (C x) _ (C y) _ (C q) ((hlt x y).1 h1) ((hlt y q).1 h2)),λx y q h1 h2=>(T x q).2 λh=>?_⟩;have n1:=(T x y).1 h1;have n2:=(T y q).1 h2;by_cases hyx:ltF f l[y.1] l[x.1]
   ·exact n2 (U.trans _ (C y) _ (C x) _ (C q) hyx h)
   ·have he:=U.tri _ (C x) _ (C y) n1 hyx;grind
  have hH:Holds A w b B d:=λj hj=>by
   grind[World.cell?,World.frozen?]
  have S:∀(G:Nat) (H:Array J) (D:Array Obj) (I:Nat),I≠b->I<w.heap.size->(L1 A w b B G H D).heap[I]? = w.heap[I]?:=λG H D I hne hlt'=>by
   obtain⟨q1,q2,q3,q4⟩:=q7i A w b B G H D M;rw[q4];show(_++D)[I]? = _;grind
  have R:∀(G:Nat) (H:Array J) (D:Array Obj),w.heap.size<=(L1 A w b B G H D).heap.size:=λG H D=>by
   obtain⟨q1,q2,q3,q4⟩:=q7i A w b B G H D M;simp_all
  have hbelW:∀(G:Nat) (H:Array J) (D:Array Obj),Below w0.heap.size w0 (L1 A w b B G H D):=λG H D =>
   ok.below.trans ⟨rfl,rfl,rfl,R G H D,λk hk=>S G H D k (by omega) (by omega),cy _ _⟩
  have hcmp:j6a P cg #[] A cf b B d.size w:=λG D H hdk x y=>by
   obtain⟨X,Y,hX,hargs,hres⟩:=hf.is _ _ _ (hcf x y);have hA:∀I,A4 L κ hs w I->(I<(L1 A w b B G H D).heap.size/\¬(I<(L1 A w b B G H D).heap.size/\¬A4 L κ hs w I))/\(L1 A w b B G H D).heap[I]? = w.heap[I]?:=λI hb'=>by
    have h3:=R G H D;refine⟨⟨bc hb'.1 h3,λh=>h.2 hb'⟩,S G H D I (λe=>?_) hb'.1⟩;subst e;exact hb'.2.2 id (E,B) W hk
   have V:=hsp.ok X Y hX (λI=>I<(L1 A w b B G H D).heap.size/\¬A4 L κ hs w I) (L1 A w b B G H D) [A x,A y] (hgl.below (hbelW G H D)) (λI h=>h.1)
    (hargs _ _ _ _ ((hval x).mono hA) ((hval y).mono hA)) 0
   refine((callsIn_wide (n:=0)).1 V).mono λe' w' ⟨v,he,hbel,hrs⟩=>?_;grind[j7j]
  have K:=hS.sort A h1 cf hO cg #[] b B E d w (j8q hsp.fn) hcmp hH hown.2 (by omega);rw[hv]at O;rw[hds]at K;refine q30 (λc hc=>by grind) O ((callsIn_wide (n:=m-1)).2 K) λe' w' ⟨he,N,n,D,hp,hsd,hw⟩=>⟨_,he,?_⟩;have hd's:N.size=l.length:=by rw[hp.1,hds]
  have hpl:N.toList.Perm d.toList:=by
   have:=hp.2.2;grind[Array.extract_size]
  have hdl:d.toList.map (λi:J=>l[i.1])=l:=by
   apply ce;grind
  have hzp:(N.toList.map λi:J=>l[i.1]).Perm l:=by
   grind
  have hzs:Srt f (N.toList.map λi:J=>l[i.1]):=by
   unfold Srt;rw[ct];intro i j hi hj hij;rw[bi,bj]at hi hj;have:=hsd i j (cB _) hij (by omega);grind
  have hzz:(N.toList.map λi:J=>l[i.1])=z:=z8v (U.sub λx hx=>hzp.mem_iff.1 hx) (hzp.trans hperm.symm) hzs hsrt;obtain⟨q1,q2,q3,q4⟩:=q7i A w b B n N D M;have Z:(hs id).like (.arr e t z):=by
   rw[hid];exact⟨rfl,rfl,hzl⟩
  have extW:=U9 (L:=L) (κ:=κ) (h:=hs) hk Z (.inl (.inl ⟨_,_,_,M⟩)) q1 q3;have hbel2:Below w0.heap.size w0 (putRow A (Sort.ahead w n) b B N) :=
   ok.below.trans ⟨rfl,rfl,rfl,by omega,λk hk=>q3 k (by omega),cy _ _⟩
  have hpg:∀j,j<l.length->∀hj:j<N.size,(putCells A B N cur)[B+j]? = some (A N[j]):=λj hj hj2=>by
   rw[z6j,if_pos ⟨by omega,by omega⟩,henc ⟨j,hj⟩,bu,dN,getElem!_pos N j hj2]
  have ok2:=X4 ok hk Z q1 q3 hbel2 (q2m (cs:=(putCells A B N cur).toList) hk (by omega) (by grind[y3r]) hcm (by omega)
   (λu hu=>by
    grind[List.getElem?_of_mem,z6j])
   (λj y hy=>by
    have hjl:j<l.length:=by grind
    have hjd:j<N.size:=by omega
    have hy2:y=l[(N[j]).1]:=by
     grind
    subst hy2;refine RepAt.congr t _ _ _ (λc hc=>?_) (RepAt.mono extW.free t _ _ (hval N[j]).2.2);have h0:c=0:=by omega
    subst h0;simp only[E6,ht1,dP,cz,aT,aE,hpg j hjl hjd];simp))
  have hbelG:Below (putRow A (Sort.ahead w n) b B N).heap.size (putRow A (Sort.ahead w n) b B N) w':=by
   rw[hw,q4];refine⟨rfl,rfl,rfl,by grind,λk hk=>?_,ax _⟩;show(_++D)[k]? = _;grind
  exact hK κ _ w' (q3i ok2 hbelG) (hrep _ _ _) (extW.trans (q28 hbelG))
theorem v3d {t:Ty} {i:Spec} {f:t.den->t.den->Option Int} (h:j0i t i=some f):CmpIs i t f:=by
 unfold j0i at h;split at h
 ·cases h;refine⟨λx y v a=>?_⟩;obtain⟨q,g,a⟩:=ae.1 a;obtain⟨B,e,a⟩:=ae.1 a;obtain⟨j,g⟩:=H9 g;obtain⟨k,e⟩:=H9 e;subst j;subst k;subst g;subst e;obtain⟨r,b,a⟩:=az.1 a;obtain⟨n,⟨⟩⟩:=r;subst a;refine⟨(x,y,()),(n,()),b,λw A D z m l=>⟨m,l,trivial⟩,λL w p u c=>?_⟩;obtain⟨C,o,a,b⟩:=c
  match o,b with
  | [s],b =>
   have:=b.1.2.2;simp[RepAt,E6,if_true,aN]at this;rw[a,this];rfl
 grind
theorem k26 {R:Type} {C:Ctx} {F:FuncId} (T:Sort1 P F) (d:∀f r,C.spec f=some r->FunOK' P C.glob f r) (D:GlobOK C.glob w0) {o:Oper} {g:Operand} {args:Array Operand} {J:Array TypeId} (M:o.op=.call { callee:=.value g,args:=args,argTypes:=J })
  {ρ:Env} {b:List (Nat×Nat)} (S:ev ρ g=.one (.fn F b)) {h:Heap} {K:Eff->Option R} {z:R} (a:j1o C b (args.toList.map (ev ρ)) h K=some z) :
  ∃q,K q=some z/\q.full=none/\∀i n,(∀x,x=g\/x∈args.toList->ev i x=ev ρ x)->(∀p∈q.ups,n p.1=h p.1)->A9 P L w0 o i n (q.heap n) q.av:=by
 unfold j1o at a;split at a
 ·rename_i id H j;obtain⟨s,c,E,B,A⟩:∃s c,args=#[s,c]/\ev ρ s=.one (.own id)/\ev ρ c=.one (.fn H []):=by
   obtain⟨l,U⟩:∃l,args.toList=l:=⟨_,rfl⟩
   match l,j with
   | [s,c],h=>grind
   | [],h=>grind
   | [_],h=>grind
   | _::_::_::_,h=>grind
  subst E;split at a
  ·rename_i e t l r y w;split at a
   ·rename_i f O;obtain⟨I,a⟩:=q4m a;obtain⟨G,a⟩:=q4m a;obtain⟨Q,N,a⟩:=ae.1 a;refine⟨_,a,rfl,λi n v u=>?_⟩;have k:n id=.arr e t l:=(u (id,.arr e t Q) (by simp)).trans y;have m:l.length<4611686018427387904:=by
     unfold A8 at G;rw[ac]at G;have:=ao G.1;omega
    exact k2x M T ((v g (.inl rfl)).trans S) (d H r w) D ((v s (.inr (by simp))).trans B) k ((v c (.inr (by simp))).trans A) (ab I) (v3d O) N m
   grind
  grind
 grind
end Go.Abs
