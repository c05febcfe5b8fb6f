/- The engine, part 13: regions, in whatever order the machine takes their operations. -/
import Derived.Test.YtppblbacbmebfaaGreatDoorAbsSoundY
namespace Go.Abs
open Go Go.RowKit
structure Bd where
 n:Nat
 tl:List Deferred
variable {P:Program} {L:Nat->Prop} {w0:World} {B:Bd}
structure St where
 ρ:Env
 h:Heap
 lt:Nat->Bool
 lo:Nat->Bool
 n:Nat
def MarksOK (B:Bd) (ds:List Deferred) (w:World):Prop :=
 B.n<=w.heap.size/\∃ bs:List Nat,bs.Nodup/\ds=bs.map (fun b=>{ target:=.collected b,args:=#[] })++B.tl/\∀ b∈bs,B.n<=b/\w.heap[b]? = some (.deferred (some []))
theorem MarksOK.nil {B:Bd} {w:World} (h:B.n<=w.heap.size):MarksOK B B.tl w:=⟨h,[],List.nodup_nil,rfl,fun _ h=>by grind⟩
theorem MarksOK.keep {B:Bd} {e:List Deferred} {w w':World} (h:MarksOK B e w) (a:w.heap.size<=w'.heap.size) (j:∀ b:Nat,w.heap[b]? = some (.deferred (some []))->w'.heap[b]? = some (.deferred (some []))):MarksOK B e w':=by
 obtain⟨f,g,k,i,d⟩:=h
 exact⟨Nat.le_trans f a,g,k,i,fun b c=>⟨(d b c).1,j b (d b c).2⟩⟩
structure FP where
 rt:List Nat
 wt:List Nat
 ro:List Nat
 wo:List Nat
 all:Bool
 lim:Nat
def S3:List Nat->Nat
 | []=>0
 | y::r=>Nat.lor (S3 r) (Nat.shiftLeft 1 y)
def E4 (l:List Nat) (x:Nat):Bool:=Nat.beq (Nat.land (Nat.shiftRight (S3 l) x) 1) 1
theorem y90 (m x:Nat):Nat.beq (Nat.land (Nat.shiftRight m x) 1) 1=m.testBit x:=by
 have h:Nat.land (Nat.shiftRight m x) 1=(m >>> x) % 2:=by
  simp_all
 rw[h]
 have a:m.testBit x=decide ((m >>> x) % 2=1):=by
  simp_all
 rw[a]
 rcases Nat.mod_two_eq_zero_or_one (m >>> x)with h | h<;>rw[h]<;>rfl
theorem z9y:∀ (l:List Nat) (x:Nat),(S3 l).testBit x=true↔x∈l
 | [],x=>by simp[S3]
 | y::r,x=>by
  have h:(S3 (y::r)).testBit x=((S3 r).testBit x||decide (y=x)):=by
   show(S3 r ||| (1 <<< y)).testBit x=_
   rw[Nat.testBit_or,Nat.one_shiftLeft,Nat.testBit_two_pow]
  rw[h,Bool.or_eq_true,z9y r x,decide_eq_true_eq,List.mem_cons]
  exact⟨fun h=>h.elim .inr (fun h=>.inl h.symm),fun h=>h.elim (fun h=>.inr h.symm) .inl⟩
theorem memb_iff {l:List Nat} {x:Nat}:E4 l x=true↔x∈l:=by
 grind[E4,y90,z9y]
def K9 (a b:List Nat):Bool:=!Nat.beq (Nat.land (S3 a) (S3 b)) 0
theorem q2t {a b:List Nat} (h:K9 a b=false):∀ x∈a,x∉b:=by
 intro x d c
 unfold K9 at h
 have e:S3 a &&& S3 b=0:=Nat.eq_of_beq_eq_true (by simp_all)
 have f:(S3 a &&& S3 b).testBit x=true:=by
  grind[z9y]
 grind
def v7a (l:List Operand):List Nat:=l.filterMap fun | .tmp t=>some t | _=>none
def put (ρ:Env) (d:Option Tmp) (v:AV):Env:=match d with
 | some d=>upd ρ d v
 | none=>ρ
def q0f (st:St) (d:Option Tmp):Bool:=match d with
 | some d=>Nat.blt d st.n&&!st.lt d
 | none=>true
def q12 (lo:Nat->Bool) (u:List (Nat×AObj)):Bool:=u.all fun p=>!lo p.1
def z1o (ops:Array Oper) (o:Oper):List Nat:=match o.guard with
 | some (j,_)=>((ops[j]?).bind (·.dst)).toList
 | none=>[]
def K0 (ops:Array Oper) (o:Oper) (q:Eff):FP where
 rt:=v7a o.op.operands.toList++z1o ops o
 wt:=o.dst.toList
 ro:=q.rd
 wo:=q.ups.map (·.1)
 all:=q.full.isSome
 lim:=q.lim
def St.set (st:St) (ρ:Env) (h:Heap):St:={ st with ρ,h }
def XK.exit:XK->Exit
 | .nrm=>.normal
 | .ex id=>.exit id
 | .ret=>.ret
 | .pan T=>.panic [pv T]
section
variable {R:Type}
def q59 (h:Heap):Bool:=match h C0 with
 | .cells [.pan _]=>true
 | _=>false
def z9g (T:TypeId) (o:AObj):Bool:=match o with
 | .cells [.pan T']=>Nat.beq T' T
 | _=>false
def q0p (q:Eff):Bool:=match q.av,q.full with
 | .one (.pan T),some H=>z9g T (H C0)
 | .one (.pan _),none=>false
 | _,_=>true
noncomputable def q71 (C:Ctx) (ib:Nat) (ops:Array Oper) (o:Oper) (st:St) (K:St->FP->Option R):Option R :=
 cond (q0f st o.dst) (j4h C st.lo (ib+o.dst.getD 0) o.op (ev st.ρ) st.h fun q =>
  cond (q12 st.lo q.ups&&q0p q) (K (st.set (put st.ρ o.dst q.av) (q.heap st.h)) (K0 ops o q)) none) none
def z0t (ops:Array Oper) (o:Oper) (st:St) (K:St->FP->Option R):Option R :=
 cond (q0f st o.dst) (K (st.set (put st.ρ o.dst (.one .udf)) st.h) (K0 ops o (D3 (.one .udf)))) none
noncomputable def z0r (C:Ctx) (ib:Nat) (ops:Array Oper) (o:Oper) (st:St) (K:St->FP->Option R):Option R :=
 match o.guard with
 | none=>q71 C ib ops o st K
 | some (j,want)=>match(ops[j]?).bind (·.dst)with
  | none=>none
  | some d=>match st.ρ d with
   | .one (.sc .bool c)=>cond c
    (match want with
     | true=>q71 C ib ops o (st.set (upd st.ρ d (H8 true)) st.h) K
     | false=>z0t ops o (st.set (upd st.ρ d (H8 true)) st.h) K)
    (match want with
     | true=>z0t ops o (st.set (upd st.ρ d (H8 false)) st.h) K
     | false=>q71 C ib ops o (st.set (upd st.ρ d (H8 false)) st.h) K)
   | .one .udf=>z0t ops o st K
   | _=>none
def q4y:Eff:={ av:=.one .unk,rd:=[C0],ups:=[],full:=none }
def z7c (ops:Array Oper) (o:Oper) (st:St) (K:St->FP->Option R):Option R :=
 match o.guard with
 | none=>cond (q0f st o.dst) (K (st.set (put st.ρ o.dst (.one .unk)) st.h) (K0 ops o q4y)) none
 | some _=>none
def j37 (ms:Option (List Nat)) (k j:Nat):Bool:=match ms with
 | none=>true
 | some l=>Nat.beq (Nat.land (Nat.shiftRight (l.getD k 0) j) 1) 1
noncomputable def Q1 (C:Ctx) (ib:Nat) (ops:Array Oper) (ms:Option (List Nat)):List Oper->St->List FP->Option Nat->(St->List FP->Option Nat->Option R)->Option R
 | [],st,fps,pj,K=>K st fps pj
 | o::rest,st,fps,pj,K=>match pj with
  | none=>z0r C ib ops o st fun st' fp=>Q1 C ib ops ms rest st' (fps++[fp]) (cond (fp.all&&q59 st'.h) (some fps.length) none) K
  | some j=>cond (j37 ms fps.length j)
   (z7c ops o st fun st' fp=>Q1 C ib ops ms rest st' (fps++[fp]) (some j) K)
   (z0r C ib ops o st fun st' fp=>cond (fp.wo.isEmpty&&!fp.all) (Q1 C ib ops ms rest st' (fps++[fp]) (some j) K) none)
def q1t (st:St) (H:Heap):St:={ st with ρ:=fun t=>cond (st.lt t) (st.ρ t) (.one .unk),h:=upd H C0 .fresh }
def j0o (st st':St) (K:XK->St->Option R):Option R:=match st'.h C0 with
 | .cells [.pan T]=>cond (!st.lo C0) (K (.pan T) (q1t st st'.h)) none
 | _=>none
def z0l (st st':St) (pj:Option Nat) (K:XK->St->Option R):Option R:=match pj with
 | none=>K .nrm st'
 | some _=>j0o st st' K
end
def q7y:List Oper->List Nat->List Nat
 | [],acc=>acc
 | o::rest,acc=>q7y rest (acc++[o.after.toList.foldl (fun s e=>match Region.binds .any e with
  | true=>s ||| (2^e.on ||| acc.getD e.on 0)
  | false=>s) 0])
def q53 (n:Nat):List Nat->Bool
 | []=>false
 | x::r=>Nat.ble n x||q53 n r
theorem j5a {n:Nat}:∀ {l:List Nat} {x:Nat},x∈l->n<=x->q53 n l=true
 | [],_,h,_=>by grind
 | y::r,x,h,a=>by
  simp only[q53,Bool.or_eq_true]
  rcases List.mem_cons.1 h with rfl | h
  ·exact .inl (Nat.ble_eq_true_of_le a)
  ·exact .inr (j5a h a)
def I1 (a b:FP):Bool :=
 K9 a.wt (b.rt++b.wt)||K9 b.wt a.rt||K9 a.wo (b.ro++b.wo)||K9 b.wo a.ro ||
 (a.all&&(b.all||q53 a.lim b.ro||!b.wo.isEmpty))||(b.all&&(q53 b.lim a.ro||!a.wo.isEmpty))
def z05 (id:Nat):Nat->Nat->List FP->Bool
 | _,_,[]=>true
 | i,j,f::r=>(match i with
  | 0=>Nat.beq j 0||(!f.all&&!E4 f.wo id)
  | _+1=>true)&&z05 id (i-1) (j-1) r
def q73 (ops:Array Oper) (fps:List FP) (i j:Nat):Bool:=match ops[i]?,ops[j]?,fps[i]?,fps[j]? with
 | some o,some o',some a,some b=>(match o.op,o'.op,o.guard,o'.guard,a.ro with
  | .lookup T _ _ false,.mapEntry T' _ _,none,none,[id]=>Nat.beq T T'&&!a.all&&!b.all&&!I1 { a with ro:=[] } b&&z05 id (i+1) j fps
  | _,_,_,_,_=>false)
 | _,_,_,_=>false
def z1t (ex:Nat->Nat->Bool) (fps:List FP) (ms:List Nat) (j:Nat) (b:FP) (mj:Nat):Nat->List FP->Bool
 | _,[]=>true
 | i,a::rest=>(Nat.ble j i||mj.testBit i||!I1 a b||ex i j)&&z1t ex fps ms j b mj (i+1) rest
def q7g (ex:Nat->Nat->Bool) (fps:List FP) (ms:List Nat):Nat->List FP->Bool
 | _,[]=>true
 | j,b::rest=>z1t ex fps ms j b (ms.getD j 0) 0 fps&&q7g ex fps ms (j+1) rest
def z5q (ops:List Oper):Nat->Bool:=fun n=>(ops.zipIdx 0).all fun(o,i)=>o.after.toList.all fun e=>(match Region.binds .any e with | true=>Nat.blt e.on i | false=>true)&&Nat.ble i n
noncomputable def z7z {R:Type} (C:Ctx) (ib:Nat) (ops:Array Oper) (draw:Bool) (st:St) (K:XK->St->Option R):Option R :=
 Q1 C ib ops (cond draw (some (q7y ops.toList [])) none) ops.toList st [] none fun st' fps pj=>match draw with
  | false=>z0l st st' pj K
  | true=>cond (q7g (q73 ops fps) fps (q7y ops.toList []) 0 fps&&z5q ops.toList ops.size) (z0l st st' pj K) none
structure Sim (P:Program) (L:Nat->Prop) (w0:World) (B:Bd) (r:Option Nat) (κ:A2) (st:St) (a:Act) (w:World):Prop where
 size:a.tmps.size=st.n
 env:q29 L κ st.h w st.ρ a
 heap:HeapOK L w0 κ st.h w
 defs:MarksOK B a.defers w
 rnd:∀ l,r=some l->∃ l':Loop,w.heap[l]? = some (.loop l')
structure Locks (st st':St) (a a':Act):Prop where
 lt:st'.lt=st.lt
 lo:st'.lo=st.lo
 n:st'.n=st.n
 tmp:∀ t,st.lt t=true->st'.ρ t=st.ρ t/\a'.tmps.getD t undef=a.tmps.getD t undef
 obj:∀ id,st.lo id=true->st'.h id=st.h id
theorem Locks.refl (st:St) (a:Act):Locks st st a a:=⟨rfl,rfl,rfl,fun _ _=>⟨rfl,rfl⟩,fun _ _=>rfl⟩
theorem Locks.trans {b a d:St} {e c f:Act} (x:Locks b a e c) (y:Locks a d c f):Locks b d e f where
 lt:=y.lt.trans x.lt
 lo:=y.lo.trans x.lo
 n:=y.n.trans x.n
 tmp t h:=⟨(y.tmp t (by rw[x.lt];omega)).1.trans (x.tmp t h).1,(y.tmp t (by rw[x.lt];omega)).2.trans (x.tmp t h).2⟩
 obj id h:=(y.obj id (by rw[x.lo];omega)).trans (x.obj id h)
def St.after (st:St) (o:Oper) (q:Eff):St:=st.set (put st.ρ o.dst q.av) (q.heap st.h)
structure StepOK (P:Program) (L:Nat->Prop) (w0:World) (TI:TypeId->Option TInfo) (ops:Array Oper) (o:Oper) (st:St) (want:Bool) (q:Eff):Prop where
 guard:∀ j b,o.guard=some (j,b)->∃ d,(ops[j]?).bind (·.dst)=some d/\((∃ c,st.ρ d=H8 c/\want=(c==b))\/(st.ρ d=.one .udf/\want=false))
 noguard:o.guard=none->want=true
 dst:q0f st o.dst=true
 ups:q12 st.lo q.ups=true
 full:∀ H,q.full=some H->∀ id,st.lo id=true\/(id<q.lim/\id∉q.ups.map (·.1))->H id=st.h id
 run:want=true->∀ ρs hs,S7 o.op q st.ρ st.h ρs hs->A6 P L w0 o ρs hs (q.heap hs) q.av
 skip:want=false->q=D3 (.one .udf)
 pan:q0p q=true
 ent:want=true->∀ T m k,o.op=.mapEntry T m k->∀ id∈q.ups.map (·.1),st.h id=.fresh\/q4c TI T (st.h id) (q.heap st.h id)
 look:want=true->∀ T m k,o.op=.lookup T m k false->∀ id,q.rd=[id]->st.h id≠.fresh/\∀ ρs hs,(∀ x∈o.op.operands,ev ρs x=ev st.ρ x)->q4c TI T (st.h id) (hs id)->A6 P L w0 o ρs hs (q.heap hs) q.av
theorem j1w {a:Type} (f:Nat->a) (i:Nat) (v:a) (h:f i=v):upd f i v=f:=by
 grind[A1,A0]
structure SoftOK (P:Program) (L:Nat->Prop) (w0:World) (TI:TypeId->Option TInfo) (o:Oper) (st:St) (q:Eff):Prop where
 ent:∀ T m k,o.op=.mapEntry T m k->∀ id∈q.ups.map (·.1),st.h id=.fresh\/q4c TI T (st.h id) (q.heap st.h id)
 look:∀ T m k,o.op=.lookup T m k false->∀ id,q.rd=[id]->st.h id≠.fresh/\∀ ρs hs,(∀ x∈o.op.operands,ev ρs x=ev st.ρ x)->q4c TI T (st.h id) (hs id)->A6 P L w0 o ρs hs (q.heap hs) q.av
theorem z80 {R:Type} {C:Ctx} (p:CtxOK P L w0 C) {ib:Nat} {ops:Array Oper} {o:Oper} {st:St} {K:St->FP->Option R} {z:R} (d:q71 C ib ops o st K=some z) :
  ∃ q,K (st.after o q) (K0 ops o q)=some z/\q0f st o.dst=true/\(q12 st.lo q.ups&&q0p q)=true/\(∀ H,q.full=some H->∀ id,st.lo id=true\/(id<q.lim/\id∉q.ups.map (·.1))->H id=st.h id) /\
   (∀ e f,S7 o.op q st.ρ st.h e f->A6 P L w0 o e f (q.heap f) q.av)/\SoftOK P L w0 C.TI o st q:=by
 unfold q71 at d
 obtain⟨n,d⟩:=A8 d
 unfold j4h at d
 split at d
 rotate_left
 ·obtain⟨s,d⟩:=A8 d
  obtain⟨q,c,b,a⟩:=y5g (lo:=st.lo) (id':=ib+o.dst.getD 0) (ρ:=st.ρ) (h:=st.h) (K:=fun q=>cond (q12 st.lo q.ups&&q0p q) (K (st.set (put st.ρ o.dst q.av) (q.heap st.h)) (K0 ops o q)) none) p d
  obtain⟨j,c⟩:=A8 c
  refine⟨q,c,n,j,(fun H y=>by grind),a,⟨fun T m k h=>?_,fun T m k h=>?_⟩⟩<;>rw[h]at s<;>cases s
 cases E:isD C (ib+o.dst.getD 0) o.op (ev st.ρ) st.h with
 | true =>
  rw[E,cond_true]at d
  obtain⟨⟨q,c,b,i,a⟩,r⟩:=y5a p d
  obtain⟨j,c⟩:=A8 c
  exact⟨q,c,n,j,(fun H y=>by grind),a,⟨fun T m k h=>absurd h (r T m k),fun T m k h id t=>absurd t (i T m k h id)⟩⟩
 | false =>
 rw[E,cond_false]at d
 unfold q70 at d
 cases D:isX C (ib+o.dst.getD 0) o.op (ev st.ρ)with
 | true =>
  rw[D,cond_true]at d
  obtain⟨⟨q,c,b,a⟩,r,v⟩:=j4n p d
  obtain⟨j,c⟩:=A8 c
  exact⟨q,c,n,j,b,a,⟨fun T m k h=>absurd h (r T m k),fun T m k h=>absurd h (v T m k)⟩⟩
 | false =>
 rw[D,cond_false]at d
 have G:(∀ T m k,o.op≠.mapEntry T m k)->(∀ T m k,o.op≠.lookup T m k false)->∃ q,K (st.after o q) (K0 ops o q)=some z/\q0f st o.dst=true/\(q12 st.lo q.ups&&q0p q)=true/\(∀ H,q.full=some H->∀ id,st.lo id=true\/(id<q.lim/\id∉q.ups.map (·.1))->H id=st.h id) /\
   (∀ e f,S7 o.op q st.ρ st.h e f->A6 P L w0 o e f (q.heap f) q.av)/\SoftOK P L w0 C.TI o st q:=fun r v=>by
  obtain⟨q,c,b,a⟩:=j4i p d
  obtain⟨j,c⟩:=A8 c
  exact⟨q,c,n,j,b,a,⟨fun T m k h=>absurd h (r T m k),fun T m k h=>absurd h (v T m k)⟩⟩
 by_cases F:∃ T m k,o.op=.mapEntry T m k
 ·obtain⟨T,m,k,g⟩:=F
  rw[g]at d
  obtain⟨q,c,b,a,B⟩:=j8j (P:=P) (L:=L) (w0:=w0) p.ti g (ρ:=st.ρ) (show q6x C T (ev st.ρ m) (ev st.ρ k) st.h (ib+o.dst.getD 0) (fun q=>cond (q12 st.lo q.ups&&q0p q) (K (st.set (put st.ρ o.dst q.av) (q.heap st.h)) (K0 ops o q)) none)=some z from d)
  obtain⟨j,c⟩:=A8 c
  refine⟨q,c,n,j,(fun H y=>by grind),fun e f l=>a e f (l.1 m (by grind[Op.operands])) (l.1 k (by grind[Op.operands])) l.2.1 l.2.2.1,⟨fun x A w u=>?_,fun x A w u=>?_⟩⟩
  all_goals grind
 ·by_cases I:∃ T m k,o.op=.lookup T m k false
  ·obtain⟨T,m,k,g⟩:=I
   rw[g]at d
   obtain⟨q,c,b,a,i⟩:=v5h (P:=P) (L:=L) (w0:=w0) p.ti g (ρ:=st.ρ) (show q4t C T (ev st.ρ m) (ev st.ρ k) false st.h (fun q=>cond (q12 st.lo q.ups&&q0p q) (K (st.set (put st.ρ o.dst q.av) (q.heap st.h)) (K0 ops o q)) none)=some z from d)
   obtain⟨j,c⟩:=A8 c
   refine⟨q,c,n,j,(fun H y=>by grind),fun e f l=>a e f (l.1 m (by grind[Op.operands])) (l.1 k (by grind[Op.operands])) l.2.1,⟨fun x A w u=>?_,fun x A w u=>?_⟩⟩
   all_goals grind[Op.operands]
  grind
theorem j4j {R:Type} {C:Ctx} (D:CtxOK P L w0 C) {ib:Nat} {ops:Array Oper} {o:Oper} {st:St} {K:St->FP->Option R} {z:R} (e:z0r C ib ops o st K=some z) :
  ∃ a q,K (st.after o q) (K0 ops o q)=some z/\StepOK P L w0 C.TI ops o st a q:=by
 unfold z0r at e
 split at e
 ·rename_i B
  obtain⟨q,i,f,k,w,u,t⟩:=z80 D e
  rw[Bool.and_eq_true]at k
  exact⟨true,q,i,⟨(fun j b s=>by grind),fun _=>rfl,f,k.1,w,fun _=>u,(fun h=>by grind),k.2,fun _=>t.ent,fun _=>t.look⟩⟩
 ·rename_i j a B
  split at e
  ·grind
  ·rename_i d F
   split at e
   ·rename_i c y
    have m:∀ b,c=b->st.set (upd st.ρ d (H8 b)) st.h=st:=fun b G=>by
     unfold St.set
     rw[j1w _ _ _ (by rw[y,G];rfl)]
    have g:∀ {z:R},z0t ops o st K=some z->∃ q,K (st.after o q) (K0 ops o q)=some z/\q0f st o.dst=true/\q=D3 (.one .udf):=by
     intro z e
     obtain⟨i,f⟩:=A8 e
     exact⟨D3 (.one .udf),f,i,rfl⟩
    have A:∀ q n,n=(c==a)->q0f st o.dst=true->(q12 st.lo q.ups&&q0p q)=true->(∀ H,q.full=some H->∀ id,st.lo id=true\/(id<q.lim/\id∉q.ups.map (·.1))->H id=st.h id) ->
      (n=true->∀ r v,S7 o.op q st.ρ st.h r v->A6 P L w0 o r v (q.heap v) q.av)->(n=false->q=D3 (.one .udf))->(n=true->SoftOK P L w0 C.TI o st q)->StepOK P L w0 C.TI ops o st n q :=
     fun q n i f k w u t x=>⟨(fun I E s=>by rw[B]at s;cases s;exact⟨d,F,.inl ⟨c,y,i⟩⟩),(fun h=>by grind),f,(Bool.and_eq_true_iff.1 k).1,w,u,t,(Bool.and_eq_true_iff.1 k).2,fun h=>(x h).ent,fun h=>(x h).look⟩
    cases l:c with
    | true =>
     rw[l,cond_true,m true l]at e
     cases a with
     | true =>
      grind[z80]
     | false =>
      obtain⟨q,i,f,k⟩:=g e
      subst k
      exact⟨false,_,i,A _ false (by grind) f rfl (fun H p=>by cases p) (fun h=>by grind) (fun _=>rfl) (fun h=>by grind)⟩
    | false =>
     rw[l,cond_false,m false l]at e
     cases a with
     | false =>
      grind[z80]
     | true =>
      obtain⟨q,i,f,k⟩:=g e
      subst k
      exact⟨false,_,i,A _ false (by grind) f rfl (fun H p=>by cases p) (fun h=>by grind) (fun _=>rfl) (fun h=>by grind)⟩
   ·obtain⟨i,f⟩:=A8 e
    exact⟨false,D3 (.one .udf),f,⟨(fun I E s=>by grind),(fun h=>by grind),i,rfl,(fun H p=>by cases p),(fun h=>by grind),fun _=>rfl,rfl,(fun h=>by grind),(fun h=>by grind)⟩⟩
   grind
inductive Steps' (P:Program) (L:Nat->Prop) (w0:World) (TI:TypeId->Option TInfo) (ops:Array Oper):List Oper->St->List (Bool×Eff)->St->Prop
 | nil (st:St):Steps' P L w0 TI ops [] st [] st
 | cons {o:Oper} {rest:List Oper} {st:St} {want:Bool} {q:Eff} {qs:List (Bool×Eff)} {st':St} (h:StepOK P L w0 TI ops o st want q) (t:Steps' P L w0 TI ops rest (st.after o q) qs st') :
  Steps' P L w0 TI ops (o::rest) st ((want,q)::qs) st'
theorem y79 {T:TypeId} {o:AObj} (h:z9g T o=true):o=K5 T:=by
 unfold z9g at h
 split at h
 ·rw[Nat.eq_of_beq_eq_true h];rfl
 grind
theorem y7a {h:Heap} (a:q59 h=true):∃ T,h C0=K5 T:=by
 unfold q59 at a
 split at a
 ·rename_i T b;exact⟨T,b⟩
 grind
theorem y7b {h:Heap} {T:TypeId} (a:h C0=K5 T):q59 h=true:=by
 unfold q59
 rw[a];rfl
theorem q8j {q:Eff} (h:q0p q=true) {T:TypeId} (b:q.av=.one (.pan T)):∃ H,q.full=some H/\H C0=K5 T:=by
 unfold q0p at h
 cases a:q.full with
 | none=>grind
 | some H=>grind[y79]
theorem y3c {T a:TypeId} (h:K5 T=K5 a):T=a:=by
 grind[K5]
theorem y5c {R:Type} {TI:TypeId->Option TInfo} {ops:Array Oper} {o:Oper} {st:St} {K:St->FP->Option R} {z:R} {T:TypeId} (d:st.h C0=K5 T) (g:z7c ops o st K=some z) :
  K (st.after o q4y) (K0 ops o q4y)=some z/\StepOK P L w0 TI ops o st true q4y:=by
 unfold z7c at g
 split at g
 ·obtain⟨q,u⟩:=A8 g
  refine⟨u,⟨(fun j b C=>by grind),fun _=>rfl,q,rfl,(fun H n=>by cases n),fun _ e p s=>?_,(fun h=>by grind),rfl,fun _ T m k _ id c=>(nomatch c),fun _ D m k _ id c=>⟨?_,fun e p _ f=>?_⟩⟩⟩
  ·intro r x a w l v m B Q A y
   exact(j5k v ((s.2.1 C0 (List.mem_singleton.2 rfl)).trans d)).elim
  ·have c:C0=id:=by
    have t:[C0]=[id]:=c
    grind
   rw[<-c,d]
   intro h;cases h
  ·have c:C0=id:=by
    have t:[C0]=[id]:=c
    grind
   obtain⟨_,_,_,_,_,_,_,_,i,-⟩:=f
   rw[<-c,d]at i
   cases i
 grind
def j2a (h':Heap) (qs:List (Bool×Eff)):Option Nat->Prop
 | none=>∀ p∈qs,∀ T,p.2.av≠.one (.pan T)
 | some _=>∃ T,h' C0=K5 T/\∀ p∈qs,∀ T',p.2.av=.one (.pan T')->T'=T/\p.2.full=some h'
theorem z7w {R:Type} {C:Ctx} (w:CtxOK P L w0 C) {ib:Nat} {ops:Array Oper} {E:Option (List Nat)} {T:TypeId} {j:Nat}:∀ (l:List Oper) (st:St) (b:List FP) (K:St->List FP->Option Nat->Option R) (z:R),st.h C0=K5 T->Q1 C ib ops E l st b (some j) K=some z ->
  ∃ f a,Steps' P L w0 C.TI ops l st f a/\a.h=st.h/\(∀ p∈f,∀ T,p.2.av≠.one (.pan T))/\K a (b++(l.zip f).map fun p=>K0 ops p.1 p.2.2) (some j)=some z
 | [],st,b,K,z,_,g=>⟨[],st,.nil st,rfl,(fun p d=>by grind),by simpa[Q1]using g⟩
 | o::e,st,b,K,z,x,g=>by
  simp[Q1]at g
  cases n:j37 E b.length j with
  | true =>
   rw[n,cond_true]at g
   obtain⟨r,s⟩:=y5c (P:=P) (L:=L) (w0:=w0) (TI:=C.TI) x g
   obtain⟨f,a,i,v,t,y⟩:=z7w w e (st.after o q4y) _ K z x r
   refine⟨(true,q4y)::f,a,.cons s i,v,fun p d u=>?_,by simpa using y⟩
   rcases List.mem_cons.1 d with rfl | d
   ·intro h;cases h
   ·exact t p d u
  | false =>
   rw[n,cond_false]at g
   obtain⟨m,q,r,s⟩:=j4j w g
   obtain⟨A,r⟩:=A8 r
   simp[Bool.and_eq_true,Bool.not_eq_true',List.isEmpty_iff]at A
   have c:q.full=none:=by
    have i:q.full.isSome=false:=A.2
    cases G:q.full with
    | none=>rfl
    | some H=>rw[G]at i;cases i
   have k:q.ups=[]:=List.map_eq_nil_iff.1 (show q.ups.map (·.1)=[]from A.1)
   have B:(st.after o q).h=st.h:=by
    show q.heap st.h=st.h
    unfold Eff.heap
    rw[c,k];rfl
   obtain⟨f,a,i,v,t,y⟩:=z7w w e (st.after o q) _ K z (by rw[B];exact x) r
   refine⟨(m,q)::f,a,.cons s i,v.trans B,fun p d u D=>?_,by simpa using y⟩
   rcases List.mem_cons.1 d with rfl | d
   ·obtain⟨H,F,-⟩:=q8j s.pan D
    rw[c]at F;cases F
   ·exact t p d u D
theorem z0s {R:Type} {C:Ctx} (s:CtxOK P L w0 C) {ib:Nat} {ops:Array Oper} {D:Option (List Nat)}:∀ (l:List Oper) (st:St) (b:List FP) (K:St->List FP->Option Nat->Option R) (z:R),Q1 C ib ops D l st b none K=some z ->
  ∃ f a g,Steps' P L w0 C.TI ops l st f a/\j2a a.h f g/\K a (b++(l.zip f).map fun p=>K0 ops p.1 p.2.2) g=some z
 | [],st,b,K,z,t=>⟨[],st,none,.nil st,(fun p e=>by grind),by simpa[Q1]using t⟩
 | o::d,st,b,K,z,t=>by
  obtain⟨c,q,k,m⟩:=j4j s t
  cases n:((K0 ops o q).all&&q59 (st.after o q).h)with
  | false =>
   rw[n,cond_false]at k
   obtain⟨f,a,g,r,u,x⟩:=z0s s d _ _ K z k
   have F:∀ T,q.av≠.one (.pan T):=fun T i=>by
    obtain⟨H,v,y⟩:=q8j m.pan i
    have E:(st.after o q).h=H:=by show q.heap st.h=H;grind[Eff.heap]
    grind[y7b,K0]
   refine⟨(c,q)::f,a,g,.cons m r,?_,by simp_all⟩
   cases g with
   | none =>
    intro p e T
    rcases List.mem_cons.1 e with rfl | e
    ·grind
    ·exact u p e T
   | some j =>
    obtain⟨T,B,I⟩:=u
    refine⟨T,B,fun p e w i=>?_⟩
    grind
  | true =>
   rw[n,cond_true]at k
   rw[Bool.and_eq_true]at n
   obtain⟨T,A⟩:=y7a n.2
   obtain⟨f,a,r,u,x,G⟩:=z7w s d _ _ K z A k
   refine⟨(c,q)::f,a,some b.length,.cons m r,⟨T,by grind,fun p e w i=>?_⟩,by simp_all⟩
   rcases List.mem_cons.1 e with rfl | e
   ·obtain⟨H,v,y⟩:=q8j m.pan i
    have E:(st.after o q).h=H:=by show q.heap st.h=H;grind[Eff.heap]
    grind[y3c]
   grind
theorem v7h {κ:A2} {h:Heap} {w:World} {ρ:Env} {a:Act} {ops:Array Oper} {o:Oper} (g:q29 L κ h w ρ a) {want:Bool}
  (r:∀ j b,o.guard=some (j,b)->∃ d,(ops[j]?).bind (·.dst)=some d/\((∃ c,ρ d=H8 c/\want=(c==b))\/(ρ d=.one .udf/\want=false))) (t:o.guard=none->want=true):Region.wanted o (yielded ops a.tmps)=want:=by
 unfold Region.wanted
 cases k:o.guard with
 | none=>grind
 | some p =>
  obtain⟨j,b⟩:=p
  obtain⟨d,s,f⟩:=r j b k
  have i:=g d
  rcases f with⟨c,m,n⟩ | ⟨m,n⟩
  ·rw[m]at i
   have l:=q0s i
   have q:a.tmps[d]? = some (.bool c):=by
    rw[Array.getD_eq_getD_getElem?]at l
    grind[undef]
   simp only[yielded,s,Option.bind_some,q,n]
   rfl
  ·rw[m]at i
   have l:a.tmps.getD d undef=undef:=i
   have q:a.tmps[d]? = none\/a.tmps[d]? = some undef:=by
    rw[Array.getD_eq_getD_getElem?]at l
    grind
   grind[yielded,undef]
theorem j46 {κ κ':A2} {h h':Heap} {w w':World} {ρ:Env} {a:Act} (b:q29 L κ h w ρ a) (x:Ext L κ h w κ' h' w') {d:Option Tmp} {av:AV} {v:Value} (f:RepAV L κ' h' w' av v)
  (e:∀ t,d=some t->t<a.tmps.size):q29 L κ' h' w' (put ρ d av) (a.put d v):=by
 cases d with
 | none=>exact fun t=>(b t).ext x
 | some d =>
  intro t
  simp[put,Act.put]
  by_cases c:t=d
  ·subst c
   rw[A1]
   simp_all
  ·rw[A0 _ _ c]
   simp[Array.getD_eq_getD_getElem?,Array.getElem?_setIfInBounds_ne (Ne.symm c)]
   have:=(b t).ext x
   simp_all
theorem j7j (a:Act) (d:Option Tmp) (v:Value):(a.put d v).tmps.size=a.tmps.size:=by
 cases d<;>simp[Act.put]
theorem j7i (a:Act) (d:Option Tmp) (v:Value):(a.put d v).defers=a.defers:=by
 cases d<;>rfl
theorem q6h:∀ (u:List (Nat×AObj)) (h:Heap) (id:Nat),(∀ p∈u,p.1≠id)->A5 u h id=h id
 | [],_,_,_=>rfl
 | p::u,h,id,a=>by
  show A5 u (upd h p.1 p.2) id=h id
  rw[q6h u _ id (fun q b=>a q (List.mem_cons_of_mem _ b)),A0 _ _ (Ne.symm (a p List.mem_cons_self))]
theorem z94 {lo:Nat->Bool} {q:Eff} {h:Heap} (c:q12 lo q.ups=true) (f:∀ H,q.full=some H->∀ id,lo id=true->H id=h id):∀ id,lo id=true->q.heap h id=h id:=by
 intro id a
 unfold Eff.heap
 cases d:q.full with
 | some H=>grind
 | none =>
  refine q6h _ _ _ fun p b e=>?_
  have:=List.all_eq_true.1 c p b
  grind
theorem y4v {st:St} {d:Option Tmp} (h:q0f st d=true):∀ t,d=some t->t<st.n/\st.lt t=false:=by
 intro t a
 simp[q0f,Bool.and_eq_true,Bool.not_eq_true']at h
 simp_all
theorem j1k {TI:TypeId->Option TInfo} {r:Option Nat} {ops:Array Oper} {i:Nat} {o:Oper} (hi:ops[i]? = some o) {st:St} {want:Bool} {q:Eff} (hs:StepOK P L w0 TI ops o st want q) {s:St} (O:s.lt=st.lt) (D:s.lo=st.lo) (V:s.n=st.n)
  (C:want=true->A6 P L w0 o s.ρ s.h (q.heap s.h) q.av) (S:∀ t∈z1o ops o,s.ρ t=st.ρ t) (F:∀ H,q.full=some H->∀ id,s.lo id=true->H id=s.h id) {κ:A2} {a:Act} {w:World} (f:Sim P L w0 B r κ s a w) {m:Nat} {K:Act->World->Prop} {Q:Exit->Act->World->Prop}
  (I:∀ c G k,Sim P L w0 B r c (s.after o q) G k->Ext L κ s.h w c (s.after o q).h k->Locks s (s.after o q) a G->K G k) (M:want=true->j2b L w0 κ s.h w (q.heap s.h) q.av a Q):wpOpIn (Fr r) m P ops Q i K a w:=by
 unfold wpOpIn
 rw[hi]
 have W:=v7h (ops:=ops) (o:=o) f.env (want:=want) (fun j b U=>by
  obtain⟨d,z,y⟩:=hs.guard j b U
  grind[z1o]) hs.noguard
 simp[W]
 have Y:=y4v hs.dst
 have E:q12 s.lo q.ups=true:=by rw[D];exact hs.ups
 have u:∀ (v:Value),Locks s (s.after o q) a (a.put o.dst v):=fun v=>⟨rfl,rfl,rfl,fun t T=>by
   have x:o.dst≠some t:=fun e=>by grind
   constructor
   ·show put s.ρ o.dst q.av t=s.ρ t
    cases A:o.dst with
    | none=>rfl
    | some d=>exact A0 _ _ (fun e=>x (by grind))
   ·cases A:o.dst with
    | none=>rfl
    | some d =>
     have:d≠t:=fun e=>x (by grind)
     simp[Act.put,Array.getD_eq_getD_getElem?,Array.getElem?_setIfInBounds_ne this],
  z94 E F⟩
 have n:∀ c v k,HeapOK L w0 c (q.heap s.h) k->RepAV L c (q.heap s.h) k q.av v->Ext L κ s.h w c (q.heap s.h) k->Sim P L w0 B r c (s.after o q) (a.put o.dst v) k:=fun c v k z y p =>
  ⟨(j7j _ _ _).trans f.size,j46 f.env p y (fun t T=>by rw[f.size,V];grind),z,by rw[j7i];exact f.defs.keep p.size p.defs,fun l R=>by
   obtain⟨N,X⟩:=f.rnd l R
   exact p.loops l N X⟩
 cases g:want with
 | true =>
  exact C g r κ a w f.env f.heap m K Q (fun c v k z y p=>I c _ k (n c v k z y p) p (u v)) (M g)
 | false =>
  refine⟨fun _ _=>trivial,?_⟩
  have A:=hs.skip g
  subst A
  exact I κ _ w (n κ undef w f.heap rfl (Ext.refl _ _ _ _)) (Ext.refl _ _ _ _) (u undef)
structure SL (st st':St):Prop where
 lo:st'.lo=st.lo
 obj:∀ id,st.lo id=true->st'.h id=st.h id
theorem SL.refl (st:St):SL st st:=⟨rfl,fun _ _=>rfl⟩
theorem SL.trans {a b c:St} (x:SL a b) (y:SL b c):SL a c:=⟨y.lo.trans x.lo,fun id h=>(y.obj id (by rw[x.lo];omega)).trans (x.obj id h)⟩
theorem y0a {TI:TypeId->Option TInfo} {ops:Array Oper} {l:List Oper} {st a:St} {qs:List (Bool×Eff)} (h:Steps' P L w0 TI ops l st qs a):SL st a:=by
 induction h with
 | nil st=>exact SL.refl _
 | @cons o e st d q qs a h _ g=>exact SL.trans (b:=st.after o q) ⟨rfl,z94 h.ups (fun H f id c=>h.full H f id (.inl c))⟩ g
theorem j2l (o:Op) (q:Eff) (ρ:Env) (h:Heap):S7 o q ρ h ρ h:=⟨fun _ _=>rfl,fun _ _=>rfl,fun _ _=>rfl,fun _=>rfl⟩
def z5c (P:Program) (L:Nat->Prop) (w0:World) (B:Bd) (r:Option Nat) (κ:A2) (st:St) (a:Act) (w:World) (qs:List (Bool×Eff)) (Q:Exit->Act->World->Prop):Prop :=
 ∀ p∈qs,∀ T H,p.2.av=.one (.pan T)->p.2.full=some H->∀ κ' a' w',Sim P L w0 B r κ' (q1t st H) a' w'->Ext L κ st.h w κ' (q1t st H).h w'->Locks st (q1t st H) a a'->Q (.panic [pv T]) a' w'
theorem j77 {r:Option Nat} {κ κ':A2} {st s:St} {a0 a:Act} {w w':World} {H:Heap} (b:Sim P L w0 B r κ s a w) (c:Locks st s a0 a) (p:st.lo C0=false) (m:∀ id,s.lo id=true->H id=s.h id) (j:HeapOK L w0 κ' (upd H C0 .fresh) w') (e:Ext L κ s.h w κ' (upd H C0 .fresh) w') :
  Sim P L w0 B r κ' (q1t st H) a w'/\Locks st (q1t st H) a0 a:=by
 refine⟨⟨b.size.trans c.n,fun t=>?_,j,b.defs.keep e.size e.defs,fun l o=>?_⟩,⟨rfl,rfl,rfl,fun t f=>⟨?_,(c.tmp t f).2⟩,fun id d=>?_⟩⟩
 ·show RepAV L κ' (upd H C0 .fresh) w' (cond (st.lt t) (st.ρ t) (.one .unk)) _
  cases f:st.lt t with
  | false=>exact trivial
  | true =>
   have:=(b.env t).ext e
   rw[(c.tmp t f).1]at this
   grind
 ·obtain⟨k,n⟩:=b.rnd l o
  exact e.loops l k n
 ·show cond (st.lt t) (st.ρ t) (.one .unk)=st.ρ t
  grind
 ·show upd H C0 .fresh id=st.h id
  have g:id≠C0:=fun h=>by grind
  rw[A0 _ _ g,m id (by rw[c.lo];omega)]
  exact c.obj id d
theorem j0y {TI:TypeId->Option TInfo} {r:Option Nat} {ops:Array Oper} {m:Nat} {Q:Exit->Act->World->Prop} {st0:St} {κ0:A2} {a0:Act} {v0:World} {all:List (Bool×Eff)} (E:(∃ p∈all,∃ T,p.2.av=.one (.pan T))->st0.lo C0=false) (I:z5c P L w0 B r κ0 st0 a0 v0 all Q):∀ (l:List Oper) (i:Nat) (st:St) (qs:List (Bool×Eff)) (c:St),Steps' P L w0 TI ops l st qs c->(∀ p∈qs,p∈all)->(∀ (j:Nat) (o:Oper),l[j]? = some o->ops[i+j]? = some o) ->
  ∀ κ a w,Sim P L w0 B r κ st a w->Ext L κ0 st0.h v0 κ st.h w->Locks st0 st a0 a->(∀ b u g,Sim P L w0 B r b c u g->Ext L κ st.h w b c.h g->Locks st c a u->Q .normal u g)->wpOpsIn (Fr r) m P ops Q (List.range' i l.length) a w
 | [],i,st,_,_,.nil _,_,_,κ,a,w,e,_,_,A=>A κ a w e (Ext.refl _ _ _ _) (Locks.refl _ _)
 | o::s,i,st,_,c,.cons (want:=want) (q:=q) (qs:=qs) h t,d,N,κ,a,w,e,G,K,A=>by
  refine j1k (N 0 o rfl) h rfl rfl rfl (fun J=>h.run J _ _ (j2l _ _ _ _)) (fun _ _=>rfl) (fun H x id f=>h.full H x id (.inl f)) e (fun b u g v k F=>?_) fun J T D b g v k=>?_
  ·exact j0y E I s (i+1) _ _ c t (fun p M=>d p (List.mem_cons_of_mem _ M)) (fun j X Y=>by rw[show i+1+j=i+(j+1)from by omega];simp_all) b u g v (G.trans k) (K.trans F)
    fun n y z W U R=>A n y z W (k.trans U) (F.trans R)
  ·obtain⟨H,x,-⟩:=q8j h.pan D
   have S:q.heap st.h=H:=by grind[Eff.heap]
   rw[S]at v k
   have C:=E ⟨(want,q),d _ List.mem_cons_self,T,D⟩
   obtain⟨O,V⟩:=j77 e K C (fun id f=>h.full H x id (.inl f)) v k
   exact I (want,q) (d _ List.mem_cons_self) T H D x b a g O (G.trans k) V
end Go.Abs
