/- The engine, part 13: regions, in whatever order the machine takes their operations. -/
import Derived.Test.YtecofmaegcibeaaGreatDoorAbsSoundY
namespace Go.Abs
open Go Go.RowKit
structure Bd where
 n:Nat
 tl:List Deferred
variable {P:Program} {L:Nat->Prop} {w0:World} {B:Bd}
structure St where
 ρ:Env
 h:Heap
 lt:Nat->Bool
 lo:Nat->Bool
 n:Nat
def MarksOK (B:Bd) (ds:List Deferred) (w:World):Prop :=
 B.n<=w.heap.size/\∃bs:List Nat,bs.Nodup/\ds=bs.map (λb=>{ target:=.collected b,args:=#[] })++B.tl/\∀b∈bs,B.n<=b/\w.heap[b]? = some (.deferred (some []))
variable {w:World}
theorem MarksOK.nil {B:Bd} (h:B.n<=w.heap.size):MarksOK B B.tl w:=⟨h,[],dS,rfl,λ_ h=>by grind⟩
variable {w':World}
theorem MarksOK.keep {B:Bd} {e:List Deferred} (h:MarksOK B e w) (a:w.heap.size<=w'.heap.size) (j:∀b:Nat,w.heap[b]? = some (.deferred (some []))->w'.heap[b]? = some (.deferred (some []))):MarksOK B e w':=by
 obtain⟨f,g,k,i,d⟩:=h;exact⟨bw f a,g,k,i,λb c=>⟨(d b c).1,j b (d b c).2⟩⟩
structure FP where
 rt:List Nat
 wt:List Nat
 ro:List Nat
 wo:List Nat
 all:Bool
 lim:Nat
def T7:List Nat->Nat
 | []=>0
 | y::r=>Nat.lor (T7 r) (Nat.shiftLeft 1 y)
def E2 (l:List Nat) (x:Nat):Bool:=Nat.beq (Nat.land (Nat.shiftRight (T7 l) x) 1) 1
theorem v7i (m x:Nat):Nat.beq (Nat.land (Nat.shiftRight m x) 1) 1=m.testBit x:=by
 have h:Nat.land (Nat.shiftRight m x) 1=(m >>> x) % 2:=by
  simp_all
 rw[h];have a:m.testBit x=decide ((m >>> x) % 2=1):=by
  simp_all
 rw[a];rcases ew (m >>> x)with h | h<;>rw[h]<;>rfl
theorem j3c:∀(l:List Nat) (x:Nat),(T7 l).testBit x=true↔x∈l
 | [],x=>by simp[T7]
 | y::r,x=>by
  have h:(T7 (y::r)).testBit x=((T7 r).testBit x||decide (y=x)):=by
   show(T7 r ||| (1 <<< y)).testBit x=_;rw[cC,Nat.one_shiftLeft,cG]
  rw[h,bD,j3c r x,decide_eq_true_eq,al];exact⟨λh=>h.elim .inr (λh=>.inl h.symm),λh=>h.elim (λh=>.inr h.symm) .inl⟩
theorem memb_iff {l:List Nat} {x:Nat}:E2 l x=true↔x∈l:=by
 grind[E2,v7i,j3c]
def L5 (a b:List Nat):Bool:=!Nat.beq (Nat.land (T7 a) (T7 b)) 0
theorem q3q {a b:List Nat} (h:L5 a b=false):∀x∈a,x∉b:=by
 intro x d c;unfold L5 at h;have e:T7 a &&& T7 b=0:=ab (by simp_all);have f:(T7 a &&& T7 b).testBit x=true:=by
  grind[j3c]
 grind
def k4i (l:List Operand):List Nat:=l.filterMap λ| .tmp t=>some t | _=>none
def put (ρ:Env) (d:Option Tmp) (v:AV):Env:=match d with
 | some d=>upd ρ d v
 | none=>ρ
def q14 (st:St) (d:Option Tmp):Bool:=match d with
 | some d=>Nat.blt d st.n&&!st.lt d
 | none=>true
def q1y (lo:Nat->Bool) (u:List (Nat×AObj)):Bool:=u.all λp=>!lo p.1
def z4v (ops:Array Oper) (o:Oper):List Nat:=match o.guard with
 | some (j,_)=>((ops[j]?).bind (·.dst)).toList
 | none=>[]
def K5 (ops:Array Oper) (o:Oper) (q:Eff):FP where
 rt:=k4i o.op.operands.toList++z4v ops o
 wt:=o.dst.toList
 ro:=q.rd
 wo:=q.ups.map (·.1)
 all:=q.full.isSome
 lim:=q.lim
def St.set (st:St) (ρ:Env) (h:Heap):St:={ st with ρ,h }
def XK.exit:XK->Exit
 | .nrm=>.normal
 | .ex id=>.exit id
 | .ret=>.ret
 | .pan T=>.panic [pv T]
section
variable {R:Type}
def q6h (h:Heap):Bool:=match h D1 with
 | .cells [.pan _]=>true
 | _=>false
def j2o (T:TypeId) (o:AObj):Bool:=match o with
 | .cells [.pan T']=>Nat.beq T' T
 | _=>false
def q1m (q:Eff):Bool:=match q.av,q.full with
 | .one (.pan T),some H=>j2o T (H D1)
 | .one (.pan _),none=>false
 | _,_=>true
noncomputable def q8h (C:Ctx) (ib:Nat) (ops:Array Oper) (o:Oper) (st:St) (K:St->FP->Option R):Option R :=
 cond (q14 st o.dst) (j92 C st.lo (ib+o.dst.getD 0) o.op (ev st.ρ) st.h λq =>
  cond (q1y st.lo q.ups&&q1m q) (K (st.set (put st.ρ o.dst q.av) (q.heap st.h)) (K5 ops o q)) none) none
def z4c (ops:Array Oper) (o:Oper) (st:St) (K:St->FP->Option R):Option R :=
 cond (q14 st o.dst) (K (st.set (put st.ρ o.dst (.one .udf)) st.h) (K5 ops o (E4 (.one .udf)))) none
noncomputable def z4a (C:Ctx) (ib:Nat) (ops:Array Oper) (o:Oper) (st:St) (K:St->FP->Option R):Option R :=
 match o.guard with
 | none=>q8h C ib ops o st K
 | some (j,want)=>match(ops[j]?).bind (·.dst)with
  | none=>none
  | some d=>match st.ρ d with
   | .one (.sc .bool c)=>cond c
    (match want with
     | true=>q8h C ib ops o (st.set (upd st.ρ d (J4 true)) st.h) K
     | false=>z4c ops o (st.set (upd st.ρ d (J4 true)) st.h) K)
    (match want with
     | true=>z4c ops o (st.set (upd st.ρ d (J4 false)) st.h) K
     | false=>q8h C ib ops o (st.set (upd st.ρ d (J4 false)) st.h) K)
   | .one .udf=>z4c ops o st K
   | _=>none
def q6a:Eff:={ av:=.one .unk,rd:=[D1],ups:=[],full:=none }
def j16 (ops:Array Oper) (o:Oper) (st:St) (K:St->FP->Option R):Option R :=
 match o.guard with
 | none=>cond (q14 st o.dst) (K (st.set (put st.ρ o.dst (.one .unk)) st.h) (K5 ops o q6a)) none
 | some _=>none
def j7i (ms:Option (List Nat)) (k j:Nat):Bool:=match ms with
 | none=>true
 | some l=>Nat.beq (Nat.land (Nat.shiftRight (l.getD k 0) j) 1) 1
noncomputable def R7 (C:Ctx) (ib:Nat) (ops:Array Oper) (ms:Option (List Nat)):List Oper->St->List FP->Option Nat->(St->List FP->Option Nat->Option R)->Option R
 | [],st,fps,pj,K=>K st fps pj
 | o::rest,st,fps,pj,K=>match pj with
  | none=>z4a C ib ops o st λst' fp=>R7 C ib ops ms rest st' (fps++[fp]) (cond (fp.all&&q6h st'.h) (some fps.length) none) K
  | some j=>cond (j7i ms fps.length j)
   (j16 ops o st λst' fp=>R7 C ib ops ms rest st' (fps++[fp]) (some j) K)
   (z4a C ib ops o st λst' fp=>cond (fp.wo.isEmpty&&!fp.all) (R7 C ib ops ms rest st' (fps++[fp]) (some j) K) none)
def q2j (st:St) (H:Heap):St:={ st with ρ:=λt=>cond (st.lt t) (st.ρ t) (.one .unk),h:=upd H D1 .fresh }
def j40 (st st':St) (K:XK->St->Option R):Option R:=match st'.h D1 with
 | .cells [.pan T]=>cond (!st.lo D1) (K (.pan T) (q2j st st'.h)) none
 | _=>none
def z3v (st st':St) (pj:Option Nat) (K:XK->St->Option R):Option R:=match pj with
 | none=>K .nrm st'
 | some _=>j40 st st' K
end
def q9l:List Oper->List Nat->List Nat
 | [],acc=>acc
 | o::rest,acc=>q9l rest (acc++[o.after.toList.foldl (λs e=>match Region.binds .any e with
  | true=>s ||| (2^e.on ||| acc.getD e.on 0)
  | false=>s) 0])
def q6c (n:Nat):List Nat->Bool
 | []=>false
 | x::r=>Nat.ble n x||q6c n r
theorem j9u {n:Nat}:∀{l:List Nat} {x:Nat},x∈l->n<=x->q6c n l=true
 | [],_,h,_=>by grind
 | y::r,x,h,a=>by
  simp only[q6c,bD];rcases al.1 h with rfl | h
  ·exact .inl (bg a)
  ·exact .inr (j9u h a)
def I7 (a b:FP):Bool :=
 L5 a.wt (b.rt++b.wt)||L5 b.wt a.rt||L5 a.wo (b.ro++b.wo)||L5 b.wo a.ro ||
 (a.all&&(b.all||q6c a.lim b.ro||!b.wo.isEmpty))||(b.all&&(q6c b.lim a.ro||!a.wo.isEmpty))
def z3i (id:Nat):Nat->Nat->List FP->Bool
 | _,_,[]=>true
 | i,j,f::r=>(match i with
  | 0=>Nat.beq j 0||(!f.all&&!E2 f.wo id)
  | _+1=>true)&&z3i id (i-1) (j-1) r
def q8i (ops:Array Oper) (fps:List FP) (i j:Nat):Bool:=match ops[i]?,ops[j]?,fps[i]?,fps[j]? with
 | some o,some o',some a,some b=>(match o.op,o'.op,o.guard,o'.guard,a.ro with
  | .lookup T _ _ false,.mapEntry T' _ _,none,none,[id]=>Nat.beq T T'&&!a.all&&!b.all&&!I7 { a with ro:=[] } b&&z3i id (i+1) j fps
  | _,_,_,_,_=>false)
 | _,_,_,_=>false
def z4z (ex:Nat->Nat->Bool) (fps:List FP) (ms:List Nat) (j:Nat) (b:FP) (mj:Nat):Nat->List FP->Bool
 | _,[]=>true
 | i,a::rest=>(Nat.ble j i||mj.testBit i||!I7 a b||ex i j)&&z4z ex fps ms j b mj (i+1) rest
def q94 (ex:Nat->Nat->Bool) (fps:List FP) (ms:List Nat):Nat->List FP->Bool
 | _,[]=>true
 | j,b::rest=>z4z ex fps ms j b (ms.getD j 0) 0 fps&&q94 ex fps ms (j+1) rest
def j03 (ops:List Oper):Nat->Bool:=λn=>(ops.zipIdx 0).all fun(o,i)=>o.after.toList.all λe=>(match Region.binds .any e with | true=>Nat.blt e.on i | false=>true)&&Nat.ble i n
noncomputable def j1k {R:Type} (C:Ctx) (ib:Nat) (ops:Array Oper) (draw:Bool) (st:St) (K:XK->St->Option R):Option R :=
 R7 C ib ops (cond draw (some (q9l ops.toList [])) none) ops.toList st [] none λst' fps pj=>match draw with
  | false=>z3v st st' pj K
  | true=>cond (q94 (q8i ops fps) fps (q9l ops.toList []) 0 fps&&j03 ops.toList ops.size) (z3v st st' pj K) none
structure Sim (P:Program) (L:Nat->Prop) (w0:World) (B:Bd) (r:Option Nat) (κ:A6) (st:St) (a:Act) (w:World):Prop where
 size:a.tmps.size=st.n
 env:q32 L κ st.h w st.ρ a
 heap:HeapOK L w0 κ st.h w
 defs:MarksOK B a.defers w
 rnd:∀l,r=some l->∃l':Loop,w.heap[l]? = some (.loop l')
structure Locks (st st':St) (a a':Act):Prop where
 lt:st'.lt=st.lt
 lo:st'.lo=st.lo
 n:st'.n=st.n
 tmp:∀t,st.lt t=true->st'.ρ t=st.ρ t/\a'.tmps.getD t undef=a.tmps.getD t undef
 obj:∀id,st.lo id=true->st'.h id=st.h id
theorem Locks.refl (st:St) (a:Act):Locks st st a a:=⟨rfl,rfl,rfl,λ_ _=>⟨rfl,rfl⟩,λ_ _=>rfl⟩
theorem Locks.trans {b a d:St} {e c f:Act} (x:Locks b a e c) (y:Locks a d c f):Locks b d e f where
 lt:=y.lt.trans x.lt
 lo:=y.lo.trans x.lo
 n:=y.n.trans x.n
 tmp t h:=⟨(y.tmp t (by rw[x.lt];omega)).1.trans (x.tmp t h).1,(y.tmp t (by rw[x.lt];omega)).2.trans (x.tmp t h).2⟩
 obj id h:=(y.obj id (by rw[x.lo];omega)).trans (x.obj id h)
def St.after (st:St) (o:Oper) (q:Eff):St:=st.set (put st.ρ o.dst q.av) (q.heap st.h)
structure StepOK (P:Program) (L:Nat->Prop) (w0:World) (TI:TypeId->Option TInfo) (ops:Array Oper) (o:Oper) (st:St) (want:Bool) (q:Eff):Prop where
 guard:∀j b,o.guard=some (j,b)->∃d,(ops[j]?).bind (·.dst)=some d/\((∃c,st.ρ d=J4 c/\want=(c==b))\/(st.ρ d=.one .udf/\want=false))
 noguard:o.guard=none->want=true
 dst:q14 st o.dst=true
 ups:q1y st.lo q.ups=true
 full:∀H,q.full=some H->∀id,st.lo id=true\/(id<q.lim/\id∉q.ups.map (·.1))->H id=st.h id
 run:want=true->∀ρs hs,q05 o.op q st.ρ st.h ρs hs->A9 P L w0 o ρs hs (q.heap hs) q.av
 skip:want=false->q=E4 (.one .udf)
 pan:q1m q=true
 ent:want=true->∀T m k,o.op=.mapEntry T m k->∀id∈q.ups.map (·.1),st.h id=.fresh\/q5u TI T (st.h id) (q.heap st.h id)
 look:want=true->∀T m k,o.op=.lookup T m k false->∀id,q.rd=[id]->st.h id≠.fresh/\∀ρs hs,(∀x∈o.op.operands,ev ρs x=ev st.ρ x)->q5u TI T (st.h id) (hs id)->A9 P L w0 o ρs hs (q.heap hs) q.av
theorem y8i {a:Type} (f:Nat->a) (i:Nat) (v:a) (h:f i=v):upd f i v=f:=by
 grind[A2,A0]
structure SoftOK (P:Program) (L:Nat->Prop) (w0:World) (TI:TypeId->Option TInfo) (o:Oper) (st:St) (q:Eff):Prop where
 ent:∀T m k,o.op=.mapEntry T m k->∀id∈q.ups.map (·.1),st.h id=.fresh\/q5u TI T (st.h id) (q.heap st.h id)
 look:∀T m k,o.op=.lookup T m k false->∀id,q.rd=[id]->st.h id≠.fresh/\∀ρs hs,(∀x∈o.op.operands,ev ρs x=ev st.ρ x)->q5u TI T (st.h id) (hs id)->A9 P L w0 o ρs hs (q.heap hs) q.av
variable {C:Ctx} {ib:Nat} {ops:Array Oper} {o:Oper} {st:St}
theorem j1l {R:Type} (hC:CtxOK P L w0 C) {K:St->FP->Option R} {z:R} (he:q8h C ib ops o st K=some z) :
  ∃q,K (st.after o q) (K5 ops o q)=some z/\q14 st o.dst=true/\(q1y st.lo q.ups&&q1m q)=true/\(∀H,q.full=some H->∀id,st.lo id=true\/(id<q.lim/\id∉q.ups.map (·.1))->H id=st.h id) /\
   (∀ρs hs,q05 o.op q st.ρ st.h ρs hs->A9 P L w0 o ρs hs (q.heap hs) q.av)/\SoftOK P L w0 C.TI o st q:=by
 unfold q8h at he;obtain⟨hd,he⟩:=B1 he;unfold j92 at he;cases hP:y0w C (ib+o.dst.getD 0) o.op with
 | true =>
  rw[hP,cond_true]at he;obtain⟨q,hq,hfull,hsem⟩:=v4b (lo:=st.lo) (id':=ib+o.dst.getD 0) (ρ:=st.ρ) (h:=st.h) (K:=λq=>cond (q1y st.lo q.ups&&q1m q) (K (st.set (put st.ρ o.dst q.av) (q.heap st.h)) (K5 ops o q)) none) hC he;obtain⟨hu,hq⟩:=B1 hq;refine⟨q,hq,hd,hu,(λH hH=>by rw[hfull]at hH;cases hH),hsem,⟨λT m k h=>?_,λT m k h=>?_⟩⟩<;>rw[h]at hP<;>cases hP
 | false =>
 rw[hP,cond_false]at he;cases hD:isD C (ib+o.dst.getD 0) o.op (ev st.ρ)with
 | true =>
  rw[hD,cond_true]at he;obtain⟨⟨q,hq,hfull,hsem⟩,n1,n2⟩:=v3z hC he;obtain⟨hu,hq⟩:=B1 hq;exact⟨q,hq,hd,hu,(λH hH=>by rw[hfull]at hH;cases hH),hsem,⟨λT m k h=>absurd h (n2 T m k),λT m k h=>absurd h (n1 T m k)⟩⟩
 | false =>
 rw[hD,cond_false]at he;unfold q8g at he;cases hX:isX C (ib+o.dst.getD 0) o.op (ev st.ρ)with
 | true =>
  rw[hX,cond_true]at he;obtain⟨⟨q,hq,hfull,hsem⟩,n1,n2⟩:=j96 hC he;obtain⟨hu,hq⟩:=B1 hq;exact⟨q,hq,hd,hu,hfull,hsem,⟨λT m k h=>absurd h (n1 T m k),λT m k h=>absurd h (n2 T m k)⟩⟩
 | false =>
 rw[hX,cond_false]at he;have gen:(∀T m k,o.op≠.mapEntry T m k)->(∀T m k,o.op≠.lookup T m k false)->∃q,K (st.after o q) (K5 ops o q)=some z/\q14 st o.dst=true/\(q1y st.lo q.ups&&q1m q)=true/\(∀H,q.full=some H->∀id,st.lo id=true\/(id<q.lim/\id∉q.ups.map (·.1))->H id=st.h id) /\
   (∀ρs hs,q05 o.op q st.ρ st.h ρs hs->A9 P L w0 o ρs hs (q.heap hs) q.av)/\SoftOK P L w0 C.TI o st q:=λn1 n2=>by
  obtain⟨q,hq,hfull,hsem⟩:=j93 hC he;obtain⟨hu,hq⟩:=B1 hq;exact⟨q,hq,hd,hu,hfull,hsem,⟨λT m k h=>absurd h (n1 T m k),λT m k h=>absurd h (n2 T m k)⟩⟩
 by_cases h1:∃T m k,o.op=.mapEntry T m k
 ·obtain⟨T,m,k,hop⟩:=h1;rw[hop]at he;obtain⟨q,hq,hfull,hsem,hent⟩:=y5c (P:=P) (L:=L) (w0:=w0) hC.ti hop (ρ:=st.ρ) (show q8f C T (ev st.ρ m) (ev st.ρ k) st.h (ib+o.dst.getD 0) (λq=>cond (q1y st.lo q.ups&&q1m q) (K (st.set (put st.ρ o.dst q.av) (q.heap st.h)) (K5 ops o q)) none)=some z from he);obtain⟨hu,hq⟩:=B1 hq;refine⟨q,hq,hd,hu,(λH hH=>by rw[hfull]at hH;cases hH),λρs hs ha=>hsem ρs hs (ha.1 m (by rw[hop];simp[Op.operands])) (ha.1 k (by rw[hop];simp[Op.operands])) ha.2.1 ha.2.2.1,⟨λT' m' k' h'=>?_,λT' m' k' h'=>?_⟩⟩
  ·rw[hop]at h';cases h';exact hent
  ·rw[hop]at h';cases h'
 ·by_cases h2:∃T m k,o.op=.lookup T m k false
  ·obtain⟨T,m,k,hop⟩:=h2;rw[hop]at he;obtain⟨q,hq,hfull,hsem,hlook⟩:=k2i (P:=P) (L:=L) (w0:=w0) hC.ti hop (ρ:=st.ρ) (show q67 C T (ev st.ρ m) (ev st.ρ k) false st.h (λq=>cond (q1y st.lo q.ups&&q1m q) (K (st.set (put st.ρ o.dst q.av) (q.heap st.h)) (K5 ops o q)) none)=some z from he);obtain⟨hu,hq⟩:=B1 hq;refine⟨q,hq,hd,hu,(λH hH=>by rw[hfull]at hH;cases hH),λρs hs ha=>hsem ρs hs (ha.1 m (by rw[hop];simp[Op.operands])) (ha.1 k (by rw[hop];simp[Op.operands])) ha.2.1,⟨λT' m' k' h'=>?_,λT' m' k' h'=>?_⟩⟩
   ·rw[hop]at h';cases h'
   ·rw[hop]at h';cases h';intro id hid;obtain⟨g1,g2⟩:=hlook id hid;exact⟨g1,λρs hs ha hso=>g2 ρs hs (ha m (by rw[hop];simp[Op.operands])) (ha k (by rw[hop];simp[Op.operands])) hso⟩
  ·exact gen (λT m k h=>h1 ⟨T,m,k,h⟩) (λT m k h=>h2 ⟨T,m,k,h⟩)
theorem j94 {R:Type} (D:CtxOK P L w0 C) {K:St->FP->Option R} {z:R} (e:z4a C ib ops o st K=some z) :
  ∃a q,K (st.after o q) (K5 ops o q)=some z/\StepOK P L w0 C.TI ops o st a q:=by
 unfold z4a at e;split at e
 ·rename_i B;obtain⟨q,i,f,k,w,u,t⟩:=j1l D e;rw[ac]at k;exact⟨true,q,i,⟨(λj b s=>by grind),λ_=>rfl,f,k.1,w,λ_=>u,(λh=>by grind),k.2,λ_=>t.ent,λ_=>t.look⟩⟩
 ·rename_i j a B;split at e
  ·grind
  ·rename_i d F;split at e
   ·rename_i c y;have m:∀b,c=b->st.set (upd st.ρ d (J4 b)) st.h=st:=λb G=>by
     unfold St.set;rw[y8i _ _ _ (by rw[y,G];rfl)]
    have g:∀{z:R},z4c ops o st K=some z->∃q,K (st.after o q) (K5 ops o q)=some z/\q14 st o.dst=true/\q=E4 (.one .udf):=by
     intro z e;obtain⟨i,f⟩:=B1 e;exact⟨E4 (.one .udf),f,i,rfl⟩
    have A:∀q n,n=(c==a)->q14 st o.dst=true->(q1y st.lo q.ups&&q1m q)=true->(∀H,q.full=some H->∀id,st.lo id=true\/(id<q.lim/\id∉q.ups.map (·.1))->H id=st.h id) ->
      (n=true->∀r v,q05 o.op q st.ρ st.h r v->A9 P L w0 o r v (q.heap v) q.av)->(n=false->q=E4 (.one .udf))->(n=true->SoftOK P L w0 C.TI o st q)->StepOK P L w0 C.TI ops o st n q :=
     λq n i f k w u t x=>⟨(λI E s=>by rw[B]at s;cases s;exact⟨d,F,.inl ⟨c,y,i⟩⟩),(λh=>by grind),f,(cn.1 k).1,w,u,t,(cn.1 k).2,λh=>(x h).ent,λh=>(x h).look⟩
    cases l:c with
    | true =>
     rw[l,cond_true,m true l]at e;cases a with
     | true =>
      grind[j1l]
     | false =>
      obtain⟨q,i,f,k⟩:=g e;subst k;exact⟨false,_,i,A _ false (by grind) f rfl (λH p=>by cases p) (λh=>by grind) (λ_=>rfl) (λh=>by grind)⟩
    | false =>
     rw[l,cond_false,m false l]at e;cases a with
     | false =>
      grind[j1l]
     | true =>
      obtain⟨q,i,f,k⟩:=g e;subst k;exact⟨false,_,i,A _ false (by grind) f rfl (λH p=>by cases p) (λh=>by grind) (λ_=>rfl) (λh=>by grind)⟩
   ·obtain⟨i,f⟩:=B1 e;exact⟨false,E4 (.one .udf),f,⟨(λI E s=>by grind),(λh=>by grind),i,rfl,(λH p=>by cases p),(λh=>by grind),λ_=>rfl,rfl,(λh=>by grind),(λh=>by grind)⟩⟩
   grind
inductive Steps' (P:Program) (L:Nat->Prop) (w0:World) (TI:TypeId->Option TInfo) (ops:Array Oper):List Oper->St->List (Bool×Eff)->St->Prop
 | nil (st:St):Steps' P L w0 TI ops [] st [] st
 | cons {o:Oper} {rest:List Oper} {st:St} {want:Bool} {q:Eff} {qs:List (Bool×Eff)} {st':St} (h:StepOK P L w0 TI ops o st want q) (t:Steps' P L w0 TI ops rest (st.after o q) qs st') :
  Steps' P L w0 TI ops (o::rest) st ((want,q)::qs) st'
variable {T:TypeId}
theorem v5u {o:AObj} (h:j2o T o=true):o=N8 T:=by
 unfold j2o at h;split at h
 ·rw[ab h];rfl
 grind
variable {h:Heap}
theorem v5v (a:q6h h=true):∃T,h D1=N8 T:=by
 unfold q6h at a;split at a
 ·rename_i T b;exact⟨T,b⟩
 grind
theorem v5w (a:h D1=N8 T):q6h h=true:=by
 unfold q6h;rw[a];rfl
variable {q:Eff}
theorem q9t (h:q1m q=true) (b:q.av=.one (.pan T)):∃H,q.full=some H/\H D1=N8 T:=by
 unfold q1m at h;cases a:q.full with
 | none=>grind
 | some H=>grind[v5u]
theorem v1z {a:TypeId} (h:N8 T=N8 a):T=a:=by
 grind[N8]
variable {TI:TypeId->Option TInfo}
theorem v42 {R:Type} {K:St->FP->Option R} {z:R} (d:st.h D1=N8 T) (g:j16 ops o st K=some z) :
  K (st.after o q6a) (K5 ops o q6a)=some z/\StepOK P L w0 TI ops o st true q6a:=by
 unfold j16 at g;split at g
 ·obtain⟨q,u⟩:=B1 g;refine⟨u,⟨(λj b C=>by grind),λ_=>rfl,q,rfl,(λH n=>by cases n),λ_ e p s=>?_,(λh=>by grind),rfl,λ_ T m k _ id c=>(nomatch c),λ_ D m k _ id c=>⟨?_,λe p _ f=>?_⟩⟩⟩
  ·intro r x a w l v m B Q A y;exact(y0b v ((s.2.1 D1 (ck.2 rfl)).trans d)).elim
  ·have c:D1=id:=by
    have t:[D1]=[id]:=c;grind
   rw[<-c,d];intro h;cases h
  ·have c:D1=id:=by
    have t:[D1]=[id]:=c;grind
   obtain⟨_,_,_,_,_,_,_,_,i,-⟩:=f;rw[<-c,d]at i;cases i
 grind
def j6c (h':Heap) (qs:List (Bool×Eff)):Option Nat->Prop
 | none=>∀p∈qs,∀T,p.2.av≠.one (.pan T)
 | some _=>∃T,h' D1=N8 T/\∀p∈qs,∀T',p.2.av=.one (.pan T')->T'=T/\p.2.full=some h'
theorem j1i {R:Type} {C:Ctx} (w:CtxOK P L w0 C) {ib:Nat} {ops:Array Oper} {E:Option (List Nat)} {T:TypeId} {j:Nat}:∀(l:List Oper) (st:St) (b:List FP) (K:St->List FP->Option Nat->Option R) (z:R),st.h D1=N8 T->R7 C ib ops E l st b (some j) K=some z ->
  ∃f a,Steps' P L w0 C.TI ops l st f a/\a.h=st.h/\(∀p∈f,∀T,p.2.av≠.one (.pan T))/\K a (b++(l.zip f).map λp=>K5 ops p.1 p.2.2) (some j)=some z
 | [],st,b,K,z,_,g=>⟨[],st,.nil st,rfl,(λp d=>by grind),by simpa[R7]using g⟩
 | o::e,st,b,K,z,x,g=>by
  simp[R7]at g;cases n:j7i E b.length j with
  | true =>
   rw[n,cond_true]at g;obtain⟨r,s⟩:=v42 (P:=P) (L:=L) (w0:=w0) (TI:=C.TI) x g;obtain⟨f,a,i,v,t,y⟩:=j1i w e (st.after o q6a) _ K z x r;refine⟨(true,q6a)::f,a,.cons s i,v,λp d u=>?_,by simpa using y⟩;rcases al.1 d with rfl | d
   ·intro h;cases h
   ·exact t p d u
  | false =>
   rw[n,cond_false]at g;obtain⟨m,q,r,s⟩:=j94 w g;obtain⟨A,r⟩:=B1 r;simp[ac,aU,List.isEmpty_iff]at A;have c:q.full=none:=by
    have i:q.full.isSome=false:=A.2;cases G:q.full with
    | none=>rfl
    | some H=>rw[G]at i;cases i
   have k:q.ups=[]:=List.map_eq_nil_iff.1 (show q.ups.map (·.1)=[]from A.1);have B:(st.after o q).h=st.h:=by
    show q.heap st.h=st.h;unfold Eff.heap;rw[c,k];rfl
   obtain⟨f,a,i,v,t,y⟩:=j1i w e (st.after o q) _ K z (by rw[B];exact x) r;refine⟨(m,q)::f,a,.cons s i,v.trans B,λp d u D=>?_,by simpa using y⟩;rcases al.1 d with rfl | d
   ·obtain⟨H,F,-⟩:=q9t s.pan D;rw[c]at F;cases F
   ·exact t p d u D
theorem z4b {R:Type} {C:Ctx} (s:CtxOK P L w0 C) {ib:Nat} {ops:Array Oper} {D:Option (List Nat)}:∀(l:List Oper) (st:St) (b:List FP) (K:St->List FP->Option Nat->Option R) (z:R),R7 C ib ops D l st b none K=some z ->
  ∃f a g,Steps' P L w0 C.TI ops l st f a/\j6c a.h f g/\K a (b++(l.zip f).map λp=>K5 ops p.1 p.2.2) g=some z
 | [],st,b,K,z,t=>⟨[],st,none,.nil st,(λp e=>by grind),by simpa[R7]using t⟩
 | o::d,st,b,K,z,t=>by
  obtain⟨c,q,k,m⟩:=j94 s t;cases n:((K5 ops o q).all&&q6h (st.after o q).h)with
  | false =>
   rw[n,cond_false]at k;obtain⟨f,a,g,r,u,x⟩:=z4b s d _ _ K z k;have F:∀T,q.av≠.one (.pan T):=λT i=>by
    obtain⟨H,v,y⟩:=q9t m.pan i;have E:(st.after o q).h=H:=by show q.heap st.h=H;grind[Eff.heap]
    grind[v5w,K5]
   refine⟨(c,q)::f,a,g,.cons m r,?_,by simp_all⟩;cases g with
   | none =>
    intro p e T;rcases al.1 e with rfl | e
    ·grind
    ·exact u p e T
   | some j =>
    obtain⟨T,B,I⟩:=u;refine⟨T,B,λp e w i=>?_⟩;grind
  | true =>
   rw[n,cond_true]at k;rw[ac]at n;obtain⟨T,A⟩:=v5v n.2;obtain⟨f,a,r,u,x,G⟩:=j1i s d _ _ K z A k;refine⟨(c,q)::f,a,some b.length,.cons m r,⟨T,by grind,λp e w i=>?_⟩,by simp_all⟩;rcases al.1 e with rfl | e
   ·obtain⟨H,v,y⟩:=q9t m.pan i;have E:(st.after o q).h=H:=by show q.heap st.h=H;grind[Eff.heap]
    grind[v1z]
   grind
variable {a:Act} {κ:A6}
theorem k4s {ρ:Env} (g:q32 L κ h w ρ a) {want:Bool} (r:∀j b,o.guard=some (j,b)->∃d,(ops[j]?).bind (·.dst)=some d/\((∃c,ρ d=J4 c/\want=(c==b))\/(ρ d=.one .udf/\want=false))) (t:o.guard=none->want=true):Region.wanted o (yielded ops a.tmps)=want:=by
 unfold Region.wanted;cases k:o.guard with
 | none=>grind
 | some p =>
  obtain⟨j,b⟩:=p;obtain⟨d,s,f⟩:=r j b k;have i:=g d;rcases f with⟨c,m,n⟩ | ⟨m,n⟩
  ·rw[m]at i;have l:=q1p i;have q:a.tmps[d]? = some (.bool c):=by
    rw[aA]at l;grind[undef]
   simp only[yielded,s,aa,q,n];rfl
  ·rw[m]at i;have l:a.tmps.getD d undef=undef:=i;have q:a.tmps[d]? = none\/a.tmps[d]? = some undef:=by
    rw[aA]at l;grind
   grind[yielded,undef]
theorem j8r {κ':A6} {h':Heap} {ρ:Env} (b:q32 L κ h w ρ a) (x:Ext L κ h w κ' h' w') {d:Option Tmp} {av:AV} {v:Value} (f:RepAV L κ' h' w' av v) (e:∀t,d=some t->t<a.tmps.size):q32 L κ' h' w' (put ρ d av) (a.put d v):=by
 cases d with
 | none=>exactλt=>(b t).ext x
 | some d =>
  intro t;simp[put,Act.put];by_cases c:t=d
  ·subst c;rw[A2];simp_all
  ·rw[A0 _ _ c];simp[aA,bE (Ne.symm c)];have:=(b t).ext x;simp_all
theorem y3u (a:Act) (d:Option Tmp) (v:Value):(a.put d v).tmps.size=a.tmps.size:=by
 cases d<;>simp[Act.put]
theorem y3t (a:Act) (d:Option Tmp) (v:Value):(a.put d v).defers=a.defers:=by
 cases d<;>rfl
theorem q82:∀(u:List (Nat×AObj)) (h:Heap) (id:Nat),(∀p∈u,p.1≠id)->A3 u h id=h id
 | [],_,_,_=>rfl
 | p::u,h,id,a=>by
  show A3 u (upd h p.1 p.2) id=h id;rw[q82 u _ id (λq b=>a q (aj _ b)),A0 _ _ (Ne.symm (a p ar))]
theorem j2e {lo:Nat->Bool} (c:q1y lo q.ups=true) (f:∀H,q.full=some H->∀id,lo id=true->H id=h id):∀id,lo id=true->q.heap h id=h id:=by
 intro id a;unfold Eff.heap;cases d:q.full with
 | some H=>grind
 | none =>
  refine q82 _ _ _ λp b e=>?_;have:=aG.1 c p b;grind
theorem v3p {d:Option Tmp} (h:q14 st d=true):∀t,d=some t->t<st.n/\st.lt t=false:=by
 intro t a;simp[q14,ac,aU]at h;simp_all
variable {r:Option Nat}
theorem j5f {ops:Array Oper} {i:Nat} {o:Oper} (hi:ops[i]? = some o) {want:Bool} (hs:StepOK P L w0 TI ops o st want q) {s:St} (O:s.lt=st.lt) (D:s.lo=st.lo) (V:s.n=st.n) (C:want=true->A9 P L w0 o s.ρ s.h (q.heap s.h) q.av) (S:∀t∈z4v ops o,s.ρ t=st.ρ t) (F:∀H,q.full=some H->∀id,s.lo id=true->H id=s.h id) (f:Sim P L w0 B r κ s a w) {m:Nat} {K:Act->World->Prop} {Q:Exit->Act->World->Prop} (I:∀c G k,Sim P L w0 B r c (s.after o q) G k->Ext L κ s.h w c (s.after o q).h k->Locks s (s.after o q) a G->K G k) (M:want=true->j6d L w0 κ s.h w (q.heap s.h) q.av a Q):wpOpIn (Fr r) m P ops Q i K a w:=by
 unfold wpOpIn;rw[hi];have W:=k4s (ops:=ops) (o:=o) f.env (want:=want) (λj b U=>by
  obtain⟨d,z,y⟩:=hs.guard j b U;grind[z4v]) hs.noguard
 simp[W];have Y:=v3p hs.dst;have E:q1y s.lo q.ups=true:=by rw[D];exact hs.ups
 have u:∀(v:Value),Locks s (s.after o q) a (a.put o.dst v):=λv=>⟨rfl,rfl,rfl,λt T=>by
   have x:o.dst≠some t:=λe=>by grind
   constructor
   ·show put s.ρ o.dst q.av t=s.ρ t;cases A:o.dst with
    | none=>rfl
    | some d=>exact A0 _ _ (λe=>x (by grind))
   ·cases A:o.dst with
    | none=>rfl
    | some d =>
     have:d≠t:=λe=>x (by grind);simp[Act.put,aA,bE this],
  j2e E F⟩
 have n:∀c v k,HeapOK L w0 c (q.heap s.h) k->RepAV L c (q.heap s.h) k q.av v->Ext L κ s.h w c (q.heap s.h) k->Sim P L w0 B r c (s.after o q) (a.put o.dst v) k:=λc v k z y p =>
  ⟨(y3u _ _ _).trans f.size,j8r f.env p y (λt T=>by rw[f.size,V];grind),z,by rw[y3t];exact f.defs.keep p.size p.defs,λl R=>by
   obtain⟨N,X⟩:=f.rnd l R;exact p.loops l N X⟩
 cases g:want with
 | true =>
  exact C g r κ a w f.env f.heap m K Q (λc v k z y p=>I c _ k (n c v k z y p) p (u v)) (M g)
 | false =>
  refine⟨λ_ _=>trivial,?_⟩;have A:=hs.skip g;subst A;exact I κ _ w (n κ undef w f.heap rfl (Ext.refl _ _ _ _)) (Ext.refl _ _ _ _) (u undef)
structure SL (st st':St):Prop where
 lo:st'.lo=st.lo
 obj:∀id,st.lo id=true->st'.h id=st.h id
theorem SL.refl (st:St):SL st st:=⟨rfl,λ_ _=>rfl⟩
theorem SL.trans {a b c:St} (x:SL a b) (y:SL b c):SL a c:=⟨y.lo.trans x.lo,λid h=>(y.obj id (by rw[x.lo];omega)).trans (x.obj id h)⟩
theorem y7l {l:List Oper} {a:St} {qs:List (Bool×Eff)} (h:Steps' P L w0 TI ops l st qs a):SL st a:=by
 induction h with
 | nil st=>exact SL.refl _
 | @cons o e st d q qs a h _ g=>exact SL.trans (b:=st.after o q) ⟨rfl,j2e h.ups (λH f id c=>h.full H f id (.inl c))⟩ g
theorem j6r (o:Op) (q:Eff) (ρ:Env) (h:Heap):q05 o q ρ h ρ h:=⟨λ_ _=>rfl,λ_ _=>rfl,λ_ _=>rfl,λ_=>rfl⟩
def z9o (P:Program) (L:Nat->Prop) (w0:World) (B:Bd) (r:Option Nat) (κ:A6) (st:St) (a:Act) (w:World) (qs:List (Bool×Eff)) (Q:Exit->Act->World->Prop):Prop :=
 ∀p∈qs,∀T H,p.2.av=.one (.pan T)->p.2.full=some H->∀κ' a' w',Sim P L w0 B r κ' (q2j st H) a' w'->Ext L κ st.h w κ' (q2j st H).h w'->Locks st (q2j st H) a a'->Q (.panic [pv T]) a' w'
theorem y3e {κ':A6} {s:St} {a0:Act} {H:Heap} (b:Sim P L w0 B r κ s a w) (c:Locks st s a0 a) (p:st.lo D1=false) (m:∀id,s.lo id=true->H id=s.h id) (j:HeapOK L w0 κ' (upd H D1 .fresh) w') (e:Ext L κ s.h w κ' (upd H D1 .fresh) w') :
  Sim P L w0 B r κ' (q2j st H) a w'/\Locks st (q2j st H) a0 a:=by
 refine⟨⟨b.size.trans c.n,λt=>?_,j,b.defs.keep e.size e.defs,λl o=>?_⟩,⟨rfl,rfl,rfl,λt f=>⟨?_,(c.tmp t f).2⟩,λid d=>?_⟩⟩
 ·show RepAV L κ' (upd H D1 .fresh) w' (cond (st.lt t) (st.ρ t) (.one .unk)) _;cases f:st.lt t with
  | false=>exact trivial
  | true =>
   have:=(b.env t).ext e;rw[(c.tmp t f).1]at this;grind
 ·obtain⟨k,n⟩:=b.rnd l o;exact e.loops l k n
 ·show cond (st.lt t) (st.ρ t) (.one .unk)=st.ρ t;grind
 ·show upd H D1 .fresh id=st.h id;have g:id≠D1:=λh=>by grind
  rw[A0 _ _ g,m id (by rw[c.lo];omega)];exact c.obj id d
theorem j4d {TI:TypeId->Option TInfo} {r:Option Nat} {ops:Array Oper} {m:Nat} {Q:Exit->Act->World->Prop} {st0:St} {κ0:A6} {a0:Act} {v0:World} {all:List (Bool×Eff)} (E:(∃p∈all,∃T,p.2.av=.one (.pan T))->st0.lo D1=false) (I:z9o P L w0 B r κ0 st0 a0 v0 all Q):∀(l:List Oper) (i:Nat) (st:St) (qs:List (Bool×Eff)) (c:St),Steps' P L w0 TI ops l st qs c->(∀p∈qs,p∈all)->(∀(j:Nat) (o:Oper),l[j]? = some o->ops[i+j]? = some o) ->
  ∀κ a w,Sim P L w0 B r κ st a w->Ext L κ0 st0.h v0 κ st.h w->Locks st0 st a0 a->(∀b u g,Sim P L w0 B r b c u g->Ext L κ st.h w b c.h g->Locks st c a u->Q .normal u g)->wpOpsIn (Fr r) m P ops Q (List.range' i l.length) a w
 | [],i,st,_,_,.nil _,_,_,κ,a,w,e,_,_,A=>A κ a w e (Ext.refl _ _ _ _) (Locks.refl _ _)
 | o::s,i,st,_,c,.cons (want:=want) (q:=q) (qs:=qs) h t,d,N,κ,a,w,e,G,K,A=>by
  refine j5f (N 0 o rfl) h rfl rfl rfl (λJ=>h.run J _ _ (j6r _ _ _ _)) (λ_ _=>rfl) (λH x id f=>h.full H x id (.inl f)) e (λb u g v k F=>?_) λJ T D b g v k=>?_
  ·exact j4d E I s (i+1) _ _ c t (λp M=>d p (aj _ M)) (λj X Y=>by rw[show i+1+j=i+(j+1)from by omega];simp_all) b u g v (G.trans k) (K.trans F)
    λn y z W U R=>A n y z W (k.trans U) (F.trans R)
  ·obtain⟨H,x,-⟩:=q9t h.pan D;have S:q.heap st.h=H:=by grind[Eff.heap]
   rw[S]at v k;have C:=E ⟨(want,q),d _ ar,T,D⟩;obtain⟨O,V⟩:=y3e e K C (λid f=>h.full H x id (.inl f)) v k;exact I (want,q) (d _ ar) T H D x b a g O (G.trans k) V
end Go.Abs
