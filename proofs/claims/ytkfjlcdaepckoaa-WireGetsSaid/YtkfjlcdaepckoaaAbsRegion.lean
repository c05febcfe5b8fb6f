/- The engine, part 13: regions, in whatever order the machine takes their operations. -/
import Derived.Test.YtkfjlcdaepckoaaAbsSoundY
namespace Go.Abs
open Go Go.RowKit
structure Bd where
 n:Nat
 tl:List Deferred
variable {P:Program} {L:Nat->Prop} {w0:World} {B:Bd}
structure St where
 ρ:Env
 h:Heap
 lt:Nat->Bool
 lo:Nat->Bool
 n:Nat
def MarksOK (B:Bd) (ds:List Deferred) (w:World):Prop :=
 B.n<=w.heap.size/\∃ bs:List Nat,bs.Nodup/\ds=bs.map (fun b=>{ target:=.collected b,args:=#[] })++B.tl/\∀ b∈bs,B.n<=b/\w.heap[b]? = some (.deferred (some []))
theorem MarksOK.nil {B:Bd} {w:World} (h:B.n<=w.heap.size):MarksOK B B.tl w:=⟨h,[],List.nodup_nil,rfl,fun _ h=>by cases h⟩
theorem MarksOK.keep {B:Bd} {ds:List Deferred} {w w':World} (h:MarksOK B ds w) (hsz:w.heap.size<=w'.heap.size) (hd:∀ b:Nat,w.heap[b]? = some (.deferred (some []))->w'.heap[b]? = some (.deferred (some []))):MarksOK B ds w':=by
 obtain⟨h0,bs,h1,h2,h3⟩:=h
 exact⟨Nat.le_trans h0 hsz,bs,h1,h2,fun b hb=>⟨(h3 b hb).1,hd b (h3 b hb).2⟩⟩
structure FP where
 rt:List Nat
 wt:List Nat
 ro:List Nat
 wo:List Nat
 all:Bool
 lim:Nat
def O3:List Nat->Nat
 | []=>0
 | y::r=>Nat.lor (O3 r) (Nat.shiftLeft 1 y)
def D6 (l:List Nat) (x:Nat):Bool:=Nat.beq (Nat.land (Nat.shiftRight (O3 l) x) 1) 1
theorem j82 (m x:Nat):Nat.beq (Nat.land (Nat.shiftRight m x) 1) 1=m.testBit x:=by
 have h:Nat.land (Nat.shiftRight m x) 1=(m >>> x) % 2:=by
  show(m >>> x) &&& 1=_
  rw[Nat.and_one_is_mod]
 rw[h]
 have h2:m.testBit x=decide ((m >>> x) % 2=1):=by
  rw[Nat.testBit,Nat.and_comm,Nat.and_one_is_mod]
  rcases Nat.mod_two_eq_zero_or_one (m >>> x)with h | h<;>rw[h]<;>rfl
 rw[h2]
 rcases Nat.mod_two_eq_zero_or_one (m >>> x)with h | h<;>rw[h]<;>rfl
theorem q72:∀ (l:List Nat) (x:Nat),(O3 l).testBit x=true↔x∈l
 | [],x=>by simp[O3]
 | y::r,x=>by
  have h:(O3 (y::r)).testBit x=((O3 r).testBit x||decide (y=x)):=by
   show(O3 r ||| (1 <<< y)).testBit x=_
   rw[Nat.testBit_or,Nat.one_shiftLeft,Nat.testBit_two_pow]
  rw[h,Bool.or_eq_true,q72 r x,decide_eq_true_eq,List.mem_cons]
  exact⟨fun h=>h.elim .inr (fun h=>.inl h.symm),fun h=>h.elim (fun h=>.inr h.symm) .inl⟩
theorem memb_iff {l:List Nat} {x:Nat}:D6 l x=true↔x∈l:=by
 unfold D6
 rw[j82,q72]
def J2 (a b:List Nat):Bool:=!Nat.beq (Nat.land (O3 a) (O3 b)) 0
theorem q05 {a b:List Nat} (h:J2 a b=false):∀ x∈a,x∉b:=by
 intro x hx hb
 unfold J2 at h
 have h0:O3 a &&& O3 b=0:=Nat.eq_of_beq_eq_true (by simpa using h)
 have h1:(O3 a &&& O3 b).testBit x=true:=by
  rw[Nat.testBit_and,(q72 a x).2 hx,(q72 b x).2 hb];rfl
 rw[h0,Nat.zero_testBit]at h1
 cases h1
def y43 (l:List Operand):List Nat:=l.filterMap fun | .tmp t=>some t | _=>none
def put (ρ:Env) (d:Option Tmp) (v:AV):Env:=match d with
 | some d=>upd ρ d v
 | none=>ρ
def T6 (st:St) (d:Option Tmp):Bool:=match d with
 | some d=>Nat.blt d st.n&&!st.lt d
 | none=>true
def V6 (lo:Nat->Bool) (u:List (Nat×AObj)):Bool:=u.all fun p=>!lo p.1
def q6m (ops:Array Oper) (o:Oper):List Nat:=match o.guard with
 | some (j,_)=>((ops[j]?).bind (·.dst)).toList
 | none=>[]
def I6 (ops:Array Oper) (o:Oper) (q:Eff):FP where
 rt:=y43 o.op.operands.toList++q6m ops o
 wt:=o.dst.toList
 ro:=q.rd
 wo:=q.ups.map (·.1)
 all:=q.full.isSome
 lim:=q.lim
def St.set (st:St) (ρ:Env) (h:Heap):St:={ st with ρ,h }
def XK.exit:XK->Exit
 | .nrm=>.normal
 | .ex id=>.exit id
 | .ret=>.ret
 | .pan T=>.panic [pv T]
section
variable {R:Type}
def q26 (h:Heap):Bool:=match h B6 with
 | .cells [.pan _]=>true
 | _=>false
def z1v (T:TypeId) (o:AObj):Bool:=match o with
 | .cells [.pan T']=>Nat.beq T' T
 | _=>false
def U5 (q:Eff):Bool:=match q.av,q.full with
 | .one (.pan T),some H=>z1v T (H B6)
 | .one (.pan _),none=>false
 | _,_=>true
noncomputable def q3p (C:Ctx) (ib:Nat) (ops:Array Oper) (o:Oper) (st:St) (K:St->FP->Option R):Option R :=
 cond (T6 st o.dst) (z66 C st.lo (ib+o.dst.getD 0) o.op (ev st.ρ) st.h fun q =>
  cond (V6 st.lo q.ups&&U5 q) (K (st.set (put st.ρ o.dst q.av) (q.heap st.h)) (I6 ops o q)) none) none
def q1x (ops:Array Oper) (o:Oper) (st:St) (K:St->FP->Option R):Option R :=
 cond (T6 st o.dst) (K (st.set (put st.ρ o.dst (.one .udf)) st.h) (I6 ops o (C3 (.one .udf)))) none
noncomputable def q6a (C:Ctx) (ib:Nat) (ops:Array Oper) (o:Oper) (st:St) (K:St->FP->Option R):Option R :=
 match o.guard with
 | none=>q3p C ib ops o st K
 | some (j,want)=>match(ops[j]?).bind (·.dst)with
  | none=>none
  | some d=>match st.ρ d with
   | .one (.sc .bool c)=>cond c
    (match want with
     | true=>q3p C ib ops o (st.set (upd st.ρ d (G3 true)) st.h) K
     | false=>q1x ops o (st.set (upd st.ρ d (G3 true)) st.h) K)
    (match want with
     | true=>q1x ops o (st.set (upd st.ρ d (G3 false)) st.h) K
     | false=>q3p C ib ops o (st.set (upd st.ρ d (G3 false)) st.h) K)
   | .one .udf=>q1x ops o st K
   | _=>none
def q20:Eff:={ av:=.one .unk,rd:=[B6],ups:=[],full:=none }
def z08 (ops:Array Oper) (o:Oper) (st:St) (K:St->FP->Option R):Option R :=
 match o.guard with
 | none=>cond (T6 st o.dst) (K (st.set (put st.ρ o.dst (.one .unk)) st.h) (I6 ops o q20)) none
 | some _=>none
def z4w (ms:Option (List Nat)) (k j:Nat):Bool:=match ms with
 | none=>true
 | some l=>Nat.beq (Nat.land (Nat.shiftRight (l.getD k 0) j) 1) 1
noncomputable def M0 (C:Ctx) (ib:Nat) (ops:Array Oper) (ms:Option (List Nat)):List Oper->St->List FP->Option Nat->(St->List FP->Option Nat->Option R)->Option R
 | [],st,fps,pj,K=>K st fps pj
 | o::rest,st,fps,pj,K=>match pj with
  | none=>q6a C ib ops o st fun st' fp=>M0 C ib ops ms rest st' (fps++[fp]) (cond (fp.all&&q26 st'.h) (some fps.length) none) K
  | some j=>cond (z4w ms fps.length j)
   (z08 ops o st fun st' fp=>M0 C ib ops ms rest st' (fps++[fp]) (some j) K)
   (q6a C ib ops o st fun st' fp=>cond (fp.wo.isEmpty&&!fp.all) (M0 C ib ops ms rest st' (fps++[fp]) (some j) K) none)
def X8 (st:St) (H:Heap):St:={ st with ρ:=fun t=>cond (st.lt t) (st.ρ t) (.one .unk),h:=upd H B6 .fresh }
def z2t (st st':St) (K:XK->St->Option R):Option R:=match st'.h B6 with
 | .cells [.pan T]=>cond (!st.lo B6) (K (.pan T) (X8 st st'.h)) none
 | _=>none
def q64 (st st':St) (pj:Option Nat) (K:XK->St->Option R):Option R:=match pj with
 | none=>K .nrm st'
 | some _=>z2t st st' K
end
def q2b:List Oper->List Nat->List Nat
 | [],acc=>acc
 | o::rest,acc=>q2b rest (acc++[o.after.toList.foldl (fun s e=>match Region.binds .any e with
  | true=>s ||| (2^e.on ||| acc.getD e.on 0)
  | false=>s) 0])
def q22 (n:Nat):List Nat->Bool
 | []=>false
 | x::r=>Nat.ble n x||q22 n r
theorem z6z {n:Nat}:∀ {l:List Nat} {x:Nat},x∈l->n<=x->q22 n l=true
 | [],_,h,_=>by cases h
 | y::r,x,h,hn=>by
  simp only[q22,Bool.or_eq_true]
  rcases List.mem_cons.1 h with rfl | h
  ·exact .inl (Nat.ble_eq_true_of_le hn)
  ·exact .inr (z6z h hn)
def H0 (a b:FP):Bool :=
 J2 a.wt (b.rt++b.wt)||J2 b.wt a.rt||J2 a.wo (b.ro++b.wo)||J2 b.wo a.ro ||
 (a.all&&(b.all||q22 a.lim b.ro||!b.wo.isEmpty))||(b.all&&(q22 b.lim a.ro||!a.wo.isEmpty))
def q5m (id:Nat):Nat->Nat->List FP->Bool
 | _,_,[]=>true
 | i,j,f::r=>(match i with
  | 0=>Nat.beq j 0||(!f.all&&!D6 f.wo id)
  | _+1=>true)&&q5m id (i-1) (j-1) r
def q3r (ops:Array Oper) (fps:List FP) (i j:Nat):Bool:=match ops[i]?,ops[j]?,fps[i]?,fps[j]? with
 | some o,some o',some a,some b=>(match o.op,o'.op,o.guard,o'.guard,a.ro with
  | .lookup T _ _ false,.mapEntry T' _ _,none,none,[id]=>Nat.beq T T'&&!a.all&&!b.all&&!H0 { a with ro:=[] } b&&q5m id (i+1) j fps
  | _,_,_,_,_=>false)
 | _,_,_,_=>false
def q6q (ex:Nat->Nat->Bool) (fps:List FP) (ms:List Nat) (j:Nat) (b:FP) (mj:Nat):Nat->List FP->Bool
 | _,[]=>true
 | i,a::rest=>(Nat.ble j i||mj.testBit i||!H0 a b||ex i j)&&q6q ex fps ms j b mj (i+1) rest
def q3w (ex:Nat->Nat->Bool) (fps:List FP) (ms:List Nat):Nat->List FP->Bool
 | _,[]=>true
 | j,b::rest=>q6q ex fps ms j b (ms.getD j 0) 0 fps&&q3w ex fps ms (j+1) rest
def q5j (ops:List Oper):Nat->Bool:=fun n=>(ops.zipIdx 0).all fun(o,i)=>o.after.toList.all fun e=>(match Region.binds .any e with | true=>Nat.blt e.on i | false=>true)&&Nat.ble i n
noncomputable def q6c {R:Type} (C:Ctx) (ib:Nat) (ops:Array Oper) (draw:Bool) (st:St) (K:XK->St->Option R):Option R :=
 M0 C ib ops (cond draw (some (q2b ops.toList [])) none) ops.toList st [] none fun st' fps pj=>match draw with
  | false=>q64 st st' pj K
  | true=>cond (q3w (q3r ops fps) fps (q2b ops.toList []) 0 fps&&q5j ops.toList ops.size) (q64 st st' pj K) none
structure Sim (P:Program) (L:Nat->Prop) (w0:World) (B:Bd) (r:Option Nat) (κ:A2) (st:St) (a:Act) (w:World):Prop where
 size:a.tmps.size=st.n
 env:Y7 L κ st.h w st.ρ a
 heap:HeapOK L w0 κ st.h w
 defs:MarksOK B a.defers w
 rnd:∀ l,r=some l->∃ l':Loop,w.heap[l]? = some (.loop l')
structure Locks (st st':St) (a a':Act):Prop where
 lt:st'.lt=st.lt
 lo:st'.lo=st.lo
 n:st'.n=st.n
 tmp:∀ t,st.lt t=true->st'.ρ t=st.ρ t/\a'.tmps.getD t undef=a.tmps.getD t undef
 obj:∀ id,st.lo id=true->st'.h id=st.h id
theorem Locks.refl (st:St) (a:Act):Locks st st a a:=⟨rfl,rfl,rfl,fun _ _=>⟨rfl,rfl⟩,fun _ _=>rfl⟩
theorem Locks.trans {s1 s2 s3:St} {a1 a2 a3:Act} (x:Locks s1 s2 a1 a2) (y:Locks s2 s3 a2 a3):Locks s1 s3 a1 a3 where
 lt:=y.lt.trans x.lt
 lo:=y.lo.trans x.lo
 n:=y.n.trans x.n
 tmp t h:=⟨(y.tmp t (by rw[x.lt];exact h)).1.trans (x.tmp t h).1,(y.tmp t (by rw[x.lt];exact h)).2.trans (x.tmp t h).2⟩
 obj id h:=(y.obj id (by rw[x.lo];exact h)).trans (x.obj id h)
def St.after (st:St) (o:Oper) (q:Eff):St:=st.set (put st.ρ o.dst q.av) (q.heap st.h)
structure StepOK (P:Program) (L:Nat->Prop) (w0:World) (TI:TypeId->Option TInfo) (ops:Array Oper) (o:Oper) (st:St) (want:Bool) (q:Eff):Prop where
 guard:∀ j b,o.guard=some (j,b)->∃ d,(ops[j]?).bind (·.dst)=some d/\((∃ c,st.ρ d=G3 c/\want=(c==b))\/(st.ρ d=.one .udf/\want=false))
 noguard:o.guard=none->want=true
 dst:T6 st o.dst=true
 ups:V6 st.lo q.ups=true
 full:∀ H,q.full=some H->∀ id,st.lo id=true\/(id<q.lim/\id∉q.ups.map (·.1))->H id=st.h id
 run:want=true->∀ ρs hs,R6 o.op q st.ρ st.h ρs hs->A6 P L w0 o ρs hs (q.heap hs) q.av
 skip:want=false->q=C3 (.one .udf)
 pan:U5 q=true
 ent:want=true->∀ T m k,o.op=.mapEntry T m k->∀ id∈q.ups.map (·.1),st.h id=.fresh\/q1j TI T (st.h id) (q.heap st.h id)
 look:want=true->∀ T m k,o.op=.lookup T m k false->∀ id,q.rd=[id]->st.h id≠.fresh/\∀ ρs hs,(∀ x∈o.op.operands,ev ρs x=ev st.ρ x)->q1j TI T (st.h id) (hs id)->A6 P L w0 o ρs hs (q.heap hs) q.av
theorem j2z {α:Type} (f:Nat->α) (i:Nat) (v:α) (h:f i=v):upd f i v=f:=by
 funext j
 by_cases hj:j=i
 ·subst hj;rw[A1,h]
 ·rw[A0 _ _ hj]
structure SoftOK (P:Program) (L:Nat->Prop) (w0:World) (TI:TypeId->Option TInfo) (o:Oper) (st:St) (q:Eff):Prop where
 ent:∀ T m k,o.op=.mapEntry T m k->∀ id∈q.ups.map (·.1),st.h id=.fresh\/q1j TI T (st.h id) (q.heap st.h id)
 look:∀ T m k,o.op=.lookup T m k false->∀ id,q.rd=[id]->st.h id≠.fresh/\∀ ρs hs,(∀ x∈o.op.operands,ev ρs x=ev st.ρ x)->q1j TI T (st.h id) (hs id)->A6 P L w0 o ρs hs (q.heap hs) q.av
theorem z0s {R:Type} {C:Ctx} (hC:CtxOK P L w0 C) {ib:Nat} {ops:Array Oper} {o:Oper} {st:St} {K:St->FP->Option R} {z:R} (he:q3p C ib ops o st K=some z) :
  ∃ q,K (st.after o q) (I6 ops o q)=some z/\T6 st o.dst=true/\(V6 st.lo q.ups&&U5 q)=true/\(∀ H,q.full=some H->∀ id,st.lo id=true\/(id<q.lim/\id∉q.ups.map (·.1))->H id=st.h id) /\
   (∀ ρs hs,R6 o.op q st.ρ st.h ρs hs->A6 P L w0 o ρs hs (q.heap hs) q.av)/\SoftOK P L w0 C.TI o st q:=by
 unfold q3p at he
 obtain⟨hd,he⟩:=A7 he
 unfold z66 at he
 split at he
 rotate_left
 ·obtain⟨hns,he⟩:=A7 he
  obtain⟨q,hq,hfull,hsem⟩:=j66 (lo:=st.lo) (id':=ib+o.dst.getD 0) (ρ:=st.ρ) (h:=st.h) (K:=fun q=>cond (V6 st.lo q.ups&&U5 q) (K (st.set (put st.ρ o.dst q.av) (q.heap st.h)) (I6 ops o q)) none) hC he
  obtain⟨hu,hq⟩:=A7 hq
  refine⟨q,hq,hd,hu,(fun H hH=>by rw[hfull]at hH;cases hH),hsem,⟨fun T m k h=>?_,fun T m k h=>?_⟩⟩<;>rw[h]at hns<;>cases hns
 cases hD:isD C (ib+o.dst.getD 0) o.op (ev st.ρ) st.h with
 | true =>
  rw[hD,cond_true]at he
  obtain⟨⟨q,hq,hfull,hlook,hsem⟩,n1⟩:=j62 hC he
  obtain⟨hu,hq⟩:=A7 hq
  exact⟨q,hq,hd,hu,(fun H hH=>by rw[hfull]at hH;cases hH),hsem,⟨fun T m k h=>absurd h (n1 T m k),fun T m k h id hrd=>absurd hrd (hlook T m k h id)⟩⟩
 | false =>
 rw[hD,cond_false]at he
 unfold q3o at he
 cases hX:isX C (ib+o.dst.getD 0) o.op (ev st.ρ)with
 | true =>
  rw[hX,cond_true]at he
  obtain⟨⟨q,hq,hfull,hsem⟩,n1,n2⟩:=z6d hC he
  obtain⟨hu,hq⟩:=A7 hq
  exact⟨q,hq,hd,hu,hfull,hsem,⟨fun T m k h=>absurd h (n1 T m k),fun T m k h=>absurd h (n2 T m k)⟩⟩
 | false =>
 rw[hX,cond_false]at he
 have gen:(∀ T m k,o.op≠.mapEntry T m k)->(∀ T m k,o.op≠.lookup T m k false)->∃ q,K (st.after o q) (I6 ops o q)=some z/\T6 st o.dst=true/\(V6 st.lo q.ups&&U5 q)=true/\(∀ H,q.full=some H->∀ id,st.lo id=true\/(id<q.lim/\id∉q.ups.map (·.1))->H id=st.h id) /\
   (∀ ρs hs,R6 o.op q st.ρ st.h ρs hs->A6 P L w0 o ρs hs (q.heap hs) q.av)/\SoftOK P L w0 C.TI o st q:=fun n1 n2=>by
  obtain⟨q,hq,hfull,hsem⟩:=z67 hC he
  obtain⟨hu,hq⟩:=A7 hq
  exact⟨q,hq,hd,hu,hfull,hsem,⟨fun T m k h=>absurd h (n1 T m k),fun T m k h=>absurd h (n2 T m k)⟩⟩
 by_cases h1:∃ T m k,o.op=.mapEntry T m k
 ·obtain⟨T,m,k,hop⟩:=h1
  rw[hop]at he
  obtain⟨q,hq,hfull,hsem,hent⟩:=j0n (P:=P) (L:=L) (w0:=w0) hC.ti hop (ρ:=st.ρ) (show q3l C T (ev st.ρ m) (ev st.ρ k) st.h (ib+o.dst.getD 0) (fun q=>cond (V6 st.lo q.ups&&U5 q) (K (st.set (put st.ρ o.dst q.av) (q.heap st.h)) (I6 ops o q)) none)=some z from he)
  obtain⟨hu,hq⟩:=A7 hq
  refine⟨q,hq,hd,hu,(fun H hH=>by rw[hfull]at hH;cases hH),fun ρs hs ha=>hsem ρs hs (ha.1 m (by rw[hop];simp[Op.operands])) (ha.1 k (by rw[hop];simp[Op.operands])) ha.2.1 ha.2.2.1,⟨fun T' m' k' h'=>?_,fun T' m' k' h'=>?_⟩⟩
  ·rw[hop]at h';cases h';exact hent
  ·rw[hop]at h';cases h'
 ·by_cases h2:∃ T m k,o.op=.lookup T m k false
  ·obtain⟨T,m,k,hop⟩:=h2
   rw[hop]at he
   obtain⟨q,hq,hfull,hsem,hlook⟩:=y2a (P:=P) (L:=L) (w0:=w0) hC.ti hop (ρ:=st.ρ) (show q1w C T (ev st.ρ m) (ev st.ρ k) false st.h (fun q=>cond (V6 st.lo q.ups&&U5 q) (K (st.set (put st.ρ o.dst q.av) (q.heap st.h)) (I6 ops o q)) none)=some z from he)
   obtain⟨hu,hq⟩:=A7 hq
   refine⟨q,hq,hd,hu,(fun H hH=>by rw[hfull]at hH;cases hH),fun ρs hs ha=>hsem ρs hs (ha.1 m (by rw[hop];simp[Op.operands])) (ha.1 k (by rw[hop];simp[Op.operands])) ha.2.1,⟨fun T' m' k' h'=>?_,fun T' m' k' h'=>?_⟩⟩
   ·rw[hop]at h';cases h'
   ·rw[hop]at h';cases h'
    intro id hid
    obtain⟨g1,g2⟩:=hlook id hid
    exact⟨g1,fun ρs hs ha hso=>g2 ρs hs (ha m (by rw[hop];simp[Op.operands])) (ha k (by rw[hop];simp[Op.operands])) hso⟩
  ·exact gen (fun T m k h=>h1 ⟨T,m,k,h⟩) (fun T m k h=>h2 ⟨T,m,k,h⟩)
theorem z68 {R:Type} {C:Ctx} (hC:CtxOK P L w0 C) {ib:Nat} {ops:Array Oper} {o:Oper} {st:St} {K:St->FP->Option R} {z:R} (he:q6a C ib ops o st K=some z) :
  ∃ want q,K (st.after o q) (I6 ops o q)=some z/\StepOK P L w0 C.TI ops o st want q:=by
 unfold q6a at he
 split at he
 ·rename_i hg
  obtain⟨q,h1,h2,h3,h4,h5,h6⟩:=z0s hC he
  rw[Bool.and_eq_true]at h3
  exact⟨true,q,h1,⟨(fun j b hj=>by rw[hg]at hj;cases hj),fun _=>rfl,h2,h3.1,h4,fun _=>h5,(fun h=>by cases h),h3.2,fun _=>h6.ent,fun _=>h6.look⟩⟩
 ·rename_i j want hg
  split at he
  ·cases he
  ·rename_i d hd
   split at he
   ·rename_i c hc
    have hset:∀ b,c=b->st.set (upd st.ρ d (G3 b)) st.h=st:=fun b hb=>by
     unfold St.set
     rw[j2z _ _ _ (by rw[hc,hb];rfl)]
    have hskip:∀ {z:R},q1x ops o st K=some z->∃ q,K (st.after o q) (I6 ops o q)=some z/\T6 st o.dst=true/\q=C3 (.one .udf):=by
     intro z he
     unfold q1x at he
     obtain⟨h1,h2⟩:=A7 he
     exact⟨C3 (.one .udf),h2,h1,rfl⟩
    have mk:∀ q w',w'=(c==want)->T6 st o.dst=true->(V6 st.lo q.ups&&U5 q)=true->(∀ H,q.full=some H->∀ id,st.lo id=true\/(id<q.lim/\id∉q.ups.map (·.1))->H id=st.h id) ->
      (w'=true->∀ ρs hs,R6 o.op q st.ρ st.h ρs hs->A6 P L w0 o ρs hs (q.heap hs) q.av)->(w'=false->q=C3 (.one .udf))->(w'=true->SoftOK P L w0 C.TI o st q)->StepOK P L w0 C.TI ops o st w' q :=
     fun q w' h1 h2 h3 h4 h5 h6 h7=>⟨(fun j' b' hj=>by rw[hg]at hj;cases hj;exact⟨d,hd,.inl ⟨c,hc,h1⟩⟩),(fun h=>by rw[hg]at h;cases h),h2,(Bool.and_eq_true_iff.1 h3).1,h4,h5,h6,(Bool.and_eq_true_iff.1 h3).2,fun h=>(h7 h).ent,fun h=>(h7 h).look⟩
    cases hcv:c with
    | true =>
     rw[hcv,cond_true,hset true hcv]at he
     cases want with
     | true =>
      obtain⟨q,h1,h2,h3,h4,h5,h6⟩:=z0s hC he
      exact⟨true,q,h1,mk q true (by rw[hcv];rfl) h2 h3 h4 (fun _=>h5) (fun h=>by cases h) (fun _=>h6)⟩
     | false =>
      obtain⟨q,h1,h2,h3⟩:=hskip he
      subst h3
      exact⟨false,_,h1,mk _ false (by rw[hcv];rfl) h2 rfl (fun H hH=>by cases hH) (fun h=>by cases h) (fun _=>rfl) (fun h=>by cases h)⟩
    | false =>
     rw[hcv,cond_false,hset false hcv]at he
     cases want with
     | false =>
      obtain⟨q,h1,h2,h3,h4,h5,h6⟩:=z0s hC he
      exact⟨true,q,h1,mk q true (by rw[hcv];rfl) h2 h3 h4 (fun _=>h5) (fun h=>by cases h) (fun _=>h6)⟩
     | true =>
      obtain⟨q,h1,h2,h3⟩:=hskip he
      subst h3
      exact⟨false,_,h1,mk _ false (by rw[hcv];rfl) h2 rfl (fun H hH=>by cases hH) (fun h=>by cases h) (fun _=>rfl) (fun h=>by cases h)⟩
   ·rename_i hc
    unfold q1x at he
    obtain⟨h1,h2⟩:=A7 he
    exact⟨false,C3 (.one .udf),h2,⟨(fun j' b' hj=>by rw[hg]at hj;cases hj;exact⟨d,hd,.inr ⟨hc,rfl⟩⟩),(fun h=>by rw[hg]at h;cases h),h1,rfl,(fun H hH=>by cases hH),(fun h=>by cases h),fun _=>rfl,rfl,(fun h=>by cases h),(fun h=>by cases h)⟩⟩
   ·cases he
inductive Steps' (P:Program) (L:Nat->Prop) (w0:World) (TI:TypeId->Option TInfo) (ops:Array Oper):List Oper->St->List (Bool×Eff)->St->Prop
 | nil (st:St):Steps' P L w0 TI ops [] st [] st
 | cons {o:Oper} {rest:List Oper} {st:St} {want:Bool} {q:Eff} {qs:List (Bool×Eff)} {st':St} (h:StepOK P L w0 TI ops o st want q) (t:Steps' P L w0 TI ops rest (st.after o q) qs st') :
  Steps' P L w0 TI ops (o::rest) st ((want,q)::qs) st'
theorem j76 {T:TypeId} {o:AObj} (h:z1v T o=true):o=I9 T:=by
 unfold z1v at h
 split at h
 ·rw[Nat.eq_of_beq_eq_true h];rfl
 ·cases h
theorem j77 {h:Heap} (hb:q26 h=true):∃ T,h B6=I9 T:=by
 unfold q26 at hb
 split at hb
 ·rename_i T hT;exact⟨T,hT⟩
 ·cases hb
theorem j78 {h:Heap} {T:TypeId} (hb:h B6=I9 T):q26 h=true:=by
 unfold q26
 rw[hb];rfl
theorem q4d {q:Eff} (h:U5 q=true) {T:TypeId} (hq:q.av=.one (.pan T)):∃ H,q.full=some H/\H B6=I9 T:=by
 unfold U5 at h
 rw[hq]at h
 cases hf:q.full with
 | none=>rw[hf]at h;cases h
 | some H=>rw[hf]at h;exact⟨H,rfl,j76 h⟩
theorem j4t {T T':TypeId} (h:I9 T=I9 T'):T=T':=by
 unfold I9 at h
 simpa using h
theorem j64 {R:Type} {TI:TypeId->Option TInfo} {ops:Array Oper} {o:Oper} {st:St} {K:St->FP->Option R} {z:R} {T:TypeId} (hb:st.h B6=I9 T) (he:z08 ops o st K=some z) :
  K (st.after o q20) (I6 ops o q20)=some z/\StepOK P L w0 TI ops o st true q20:=by
 unfold z08 at he
 split at he
 ·rename_i hg
  obtain⟨h1,h2⟩:=A7 he
  refine⟨h2,⟨(fun j b hj=>by rw[hg]at hj;cases hj),fun _=>rfl,h1,rfl,(fun H hH=>by cases hH),fun _ ρs hs ha=>?_,(fun h=>by cases h),rfl,fun _ T m k _ id hid=>(nomatch hid),fun _ T' m k _ id hid=>⟨?_,fun ρs hs _ hso=>?_⟩⟩⟩
  ·intro r κ a w henv ok m K' Q hK hP
   exact(z7a ok ((ha.2.1 B6 (List.mem_singleton.2 rfl)).trans hb)).elim
  ·have hid:B6=id:=by
    have h3:[B6]=[id]:=hid
    simpa using h3
   rw[<-hid,hb]
   intro h;cases h
  ·have hid:B6=id:=by
    have h3:[B6]=[id]:=hid
    simpa using h3
   obtain⟨_,_,_,_,_,_,_,_,h4,-⟩:=hso
   rw[<-hid,hb]at h4
   cases h4
 ·cases he
def z44 (h':Heap) (qs:List (Bool×Eff)):Option Nat->Prop
 | none=>∀ p∈qs,∀ T,p.2.av≠.one (.pan T)
 | some _=>∃ T,h' B6=I9 T/\∀ p∈qs,∀ T',p.2.av=.one (.pan T')->T'=T/\p.2.full=some h'
theorem z0p {R:Type} {C:Ctx} (hC:CtxOK P L w0 C) {ib:Nat} {ops:Array Oper} {ms:Option (List Nat)} {T:TypeId} {j:Nat}:∀ (l:List Oper) (st:St) (fps:List FP) (K:St->List FP->Option Nat->Option R) (z:R),st.h B6=I9 T->M0 C ib ops ms l st fps (some j) K=some z ->
  ∃ qs st',Steps' P L w0 C.TI ops l st qs st'/\st'.h=st.h/\(∀ p∈qs,∀ T,p.2.av≠.one (.pan T))/\K st' (fps++(l.zip qs).map fun p=>I6 ops p.1 p.2.2) (some j)=some z
 | [],st,fps,K,z,_,he=>⟨[],st,.nil st,rfl,(fun p hp=>by cases hp),by simpa[M0]using he⟩
 | o::rest,st,fps,K,z,hb,he=>by
  simp only[M0]at he
  cases hbe:z4w ms fps.length j with
  | true =>
   rw[hbe,cond_true]at he
   obtain⟨h1,h2⟩:=j64 (P:=P) (L:=L) (w0:=w0) (TI:=C.TI) hb he
   obtain⟨qs,st',h3,h4,h5,h6⟩:=z0p hC rest (st.after o q20) _ K z hb h1
   refine⟨(true,q20)::qs,st',.cons h2 h3,h4,fun p hp T'=>?_,by simpa using h6⟩
   rcases List.mem_cons.1 hp with rfl | hp
   ·intro h;cases h
   ·exact h5 p hp T'
  | false =>
   rw[hbe,cond_false]at he
   obtain⟨want,q,h1,h2⟩:=z68 hC he
   obtain⟨hc,h1⟩:=A7 h1
   simp only[Bool.and_eq_true,Bool.not_eq_true',List.isEmpty_iff]at hc
   have hfull:q.full=none:=by
    have h3:q.full.isSome=false:=hc.2
    cases hf:q.full with
    | none=>rfl
    | some H=>rw[hf]at h3;cases h3
   have hups:q.ups=[]:=List.map_eq_nil_iff.1 (show q.ups.map (·.1)=[]from hc.1)
   have hh:(st.after o q).h=st.h:=by
    show q.heap st.h=st.h
    unfold Eff.heap
    rw[hfull,hups];rfl
   obtain⟨qs,st',h3,h4,h5,h6⟩:=z0p hC rest (st.after o q) _ K z (by rw[hh];exact hb) h1
   refine⟨(want,q)::qs,st',.cons h2 h3,h4.trans hh,fun p hp T' hq=>?_,by simpa using h6⟩
   rcases List.mem_cons.1 hp with rfl | hp
   ·obtain⟨H,h7,-⟩:=q4d h2.pan hq
    rw[hfull]at h7;cases h7
   ·exact h5 p hp T' hq
theorem q6b {R:Type} {C:Ctx} (hC:CtxOK P L w0 C) {ib:Nat} {ops:Array Oper} {ms:Option (List Nat)}:∀ (l:List Oper) (st:St) (fps:List FP) (K:St->List FP->Option Nat->Option R) (z:R),M0 C ib ops ms l st fps none K=some z ->
  ∃ qs st' pj,Steps' P L w0 C.TI ops l st qs st'/\z44 st'.h qs pj/\K st' (fps++(l.zip qs).map fun p=>I6 ops p.1 p.2.2) pj=some z
 | [],st,fps,K,z,he=>⟨[],st,none,.nil st,(fun p hp=>by cases hp),by simpa[M0]using he⟩
 | o::rest,st,fps,K,z,he=>by
  simp only[M0]at he
  obtain⟨want,q,h1,h2⟩:=z68 hC he
  cases hc:((I6 ops o q).all&&q26 (st.after o q).h)with
  | false =>
   rw[hc,cond_false]at h1
   obtain⟨qs,st',pj,h3,h4,h5⟩:=q6b hC rest _ _ K z h1
   have hno:∀ T,q.av≠.one (.pan T):=fun T hq=>by
    obtain⟨H,h7,h8⟩:=q4d h2.pan hq
    have h9:(st.after o q).h=H:=by show q.heap st.h=H;unfold Eff.heap;rw[h7]
    rw[h9,j78 h8,show(I6 ops o q).all=q.full.isSome from rfl,h7]at hc
    cases hc
   refine⟨(want,q)::qs,st',pj,.cons h2 h3,?_,by simpa using h5⟩
   cases pj with
   | none =>
    intro p hp T
    rcases List.mem_cons.1 hp with rfl | hp
    ·exact hno T
    ·exact h4 p hp T
   | some j =>
    obtain⟨T,g1,g2⟩:=h4
    refine⟨T,g1,fun p hp T' hq=>?_⟩
    rcases List.mem_cons.1 hp with rfl | hp
    ·exact absurd hq (hno T')
    ·exact g2 p hp T' hq
  | true =>
   rw[hc,cond_true]at h1
   rw[Bool.and_eq_true]at hc
   obtain⟨T,hT⟩:=j77 hc.2
   obtain⟨qs,st',h3,h4,h5,h6⟩:=z0p hC rest _ _ K z hT h1
   refine⟨(want,q)::qs,st',some fps.length,.cons h2 h3,⟨T,by rw[h4];exact hT,fun p hp T' hq=>?_⟩,by simpa using h6⟩
   rcases List.mem_cons.1 hp with rfl | hp
   ·obtain⟨H,h7,h8⟩:=q4d h2.pan hq
    have h9:(st.after o q).h=H:=by show q.heap st.h=H;unfold Eff.heap;rw[h7]
    rw[h9]at hT h4
    exact⟨j4t (h8.symm.trans hT),by rw[h4];exact h7⟩
   ·exact absurd hq (h5 p hp T')
theorem y4f {κ:A2} {h:Heap} {w:World} {ρ:Env} {a:Act} {ops:Array Oper} {o:Oper} (henv:Y7 L κ h w ρ a) {want:Bool}
  (hg:∀ j b,o.guard=some (j,b)->∃ d,(ops[j]?).bind (·.dst)=some d/\((∃ c,ρ d=G3 c/\want=(c==b))\/(ρ d=.one .udf/\want=false))) (hn:o.guard=none->want=true):Region.wanted o (yielded ops a.tmps)=want:=by
 unfold Region.wanted
 cases hgu:o.guard with
 | none=>exact(hn hgu).symm
 | some p =>
  obtain⟨j,b⟩:=p
  obtain⟨d,h1,hcase⟩:=hg j b hgu
  have hr:=henv d
  rcases hcase with⟨c,h2,h3⟩ | ⟨h2,h3⟩
  ·rw[h2]at hr
   have hv:=V1 hr
   have hd:a.tmps[d]? = some (.bool c):=by
    rw[Array.getD_eq_getD_getElem?]at hv
    cases hq:a.tmps[d]? with
    | none=>rw[hq]at hv;simp[undef]at hv
    | some u=>rw[hq]at hv;simpa using hv
   simp only[yielded,h1,Option.bind_some,hd,h3]
   cases c<;>cases b<;>rfl
  ·rw[h2]at hr
   have hv:a.tmps.getD d undef=undef:=hr
   have hd:a.tmps[d]? = none\/a.tmps[d]? = some undef:=by
    rw[Array.getD_eq_getD_getElem?]at hv
    cases hq:a.tmps[d]? with
    | none=>exact .inl rfl
    | some u=>rw[hq]at hv;exact .inr (by simpa using hv)
   rcases hd with hd | hd
   ·simp only[yielded,h1,Option.bind_some,hd,h3];cases b<;>rfl
   ·simp only[yielded,h1,Option.bind_some,hd,h3,undef];cases b<;>rfl
theorem z5r {κ κ':A2} {h h':Heap} {w w':World} {ρ:Env} {a:Act} (henv:Y7 L κ h w ρ a) (x:Ext L κ h w κ' h' w') {d:Option Tmp} {av:AV} {v:Value} (hr:RepAV L κ' h' w' av v)
  (hd:∀ t,d=some t->t<a.tmps.size):Y7 L κ' h' w' (put ρ d av) (a.put d v):=by
 cases d with
 | none=>exact fun t=>(henv t).ext x
 | some d =>
  intro t
  simp only[put,Act.put]
  by_cases ht:t=d
  ·subst ht
   rw[A1]
   simp only[Array.getD_eq_getD_getElem?,Array.getElem?_setIfInBounds_self_of_lt (hd t rfl),Option.getD_some]
   exact hr
  ·rw[A0 _ _ ht]
   simp only[Array.getD_eq_getD_getElem?,Array.getElem?_setIfInBounds_ne (Ne.symm ht)]
   have:=(henv t).ext x
   simpa[Array.getD_eq_getD_getElem?]using this
theorem z9e (a:Act) (d:Option Tmp) (v:Value):(a.put d v).tmps.size=a.tmps.size:=by
 cases d<;>simp[Act.put]
theorem z9d (a:Act) (d:Option Tmp) (v:Value):(a.put d v).defers=a.defers:=by
 cases d<;>rfl
theorem q36:∀ (u:List (Nat×AObj)) (h:Heap) (id:Nat),(∀ p∈u,p.1≠id)->A5 u h id=h id
 | [],_,_,_=>rfl
 | p::u,h,id,hh=>by
  show A5 u (upd h p.1 p.2) id=h id
  rw[q36 u _ id (fun q hq=>hh q (List.mem_cons_of_mem _ hq)),A0 _ _ (Ne.symm (hh p List.mem_cons_self))]
theorem z1o {lo:Nat->Bool} {q:Eff} {h:Heap} (hu:V6 lo q.ups=true) (hf:∀ H,q.full=some H->∀ id,lo id=true->H id=h id):∀ id,lo id=true->q.heap h id=h id:=by
 intro id hid
 unfold Eff.heap
 cases hq:q.full with
 | some H=>exact hf H hq id hid
 | none =>
  refine q36 _ _ _ fun p hp e=>?_
  have:=List.all_eq_true.1 hu p hp
  rw[e,hid]at this;cases this
theorem j5t {st:St} {d:Option Tmp} (h:T6 st d=true):∀ t,d=some t->t<st.n/\st.lt t=false:=by
 intro t ht
 subst ht
 simp only[T6,Bool.and_eq_true,Bool.not_eq_true']at h
 exact⟨Nat.le_of_ble_eq_true h.1,h.2⟩
theorem z3n {TI:TypeId->Option TInfo} {r:Option Nat} {ops:Array Oper} {i:Nat} {o:Oper} (hi:ops[i]? = some o) {st:St} {want:Bool} {q:Eff} (hs:StepOK P L w0 TI ops o st want q) {s:St} (hlt:s.lt=st.lt) (hlo:s.lo=st.lo) (hn:s.n=st.n)
  (hag:want=true->A6 P L w0 o s.ρ s.h (q.heap s.h) q.av) (hgt:∀ t∈q6m ops o,s.ρ t=st.ρ t) (hfl:∀ H,q.full=some H->∀ id,s.lo id=true->H id=s.h id) {κ:A2} {a:Act} {w:World} (sim:Sim P L w0 B r κ s a w) {m:Nat} {K:Act->World->Prop} {Q:Exit->Act->World->Prop}
  (hK:∀ κ' a' w',Sim P L w0 B r κ' (s.after o q) a' w'->Ext L κ s.h w κ' (s.after o q).h w'->Locks s (s.after o q) a a'->K a' w') (hP:want=true->z45 L w0 κ s.h w (q.heap s.h) q.av a Q):wpOpIn (Fr r) m P ops Q i K a w:=by
 unfold wpOpIn
 rw[hi]
 have hw:=y4f (ops:=ops) (o:=o) sim.env (want:=want) (fun j b hj=>by
  obtain⟨d,h1,h2⟩:=hs.guard j b hj
  refine⟨d,h1,?_⟩
  rw[hgt d (by simp[q6m,hj,h1])];exact h2) hs.noguard
 simp only[hw]
 have hd:=j5t hs.dst
 have hup:V6 s.lo q.ups=true:=by rw[hlo];exact hs.ups
 have lck:∀ (v:Value),Locks s (s.after o q) a (a.put o.dst v):=fun v=>⟨rfl,rfl,rfl,fun t ht=>by
   have hne:o.dst≠some t:=fun e=>by have:=(hd t e).2;rw[hlt]at ht;rw[ht]at this;cases this
   constructor
   ·show put s.ρ o.dst q.av t=s.ρ t
    cases hq:o.dst with
    | none=>rfl
    | some d=>exact A0 _ _ (fun e=>hne (by rw[hq,e]))
   ·cases hq:o.dst with
    | none=>rfl
    | some d =>
     have:d≠t:=fun e=>hne (by rw[hq,e])
     simp[Act.put,Array.getD_eq_getD_getElem?,Array.getElem?_setIfInBounds_ne this],
  z1o hup hfl⟩
 have simN:∀ κ' v w',HeapOK L w0 κ' (q.heap s.h) w'->RepAV L κ' (q.heap s.h) w' q.av v->Ext L κ s.h w κ' (q.heap s.h) w'->Sim P L w0 B r κ' (s.after o q) (a.put o.dst v) w':=fun κ' v w' h1 h2 h3 =>
  ⟨(z9e _ _ _).trans sim.size,z5r sim.env h3 h2 (fun t ht=>by rw[sim.size,hn];exact(hd t ht).1),h1,by rw[z9d];exact sim.defs.keep h3.size h3.defs,fun l hl=>by
   obtain⟨l',h4⟩:=sim.rnd l hl
   exact h3.loops l l' h4⟩
 cases hwant:want with
 | true =>
  rw[if_pos rfl]
  exact hag hwant r κ a w sim.env sim.heap m K Q (fun κ' v w' h1 h2 h3=>hK κ' _ w' (simN κ' v w' h1 h2 h3) h3 (lck v)) (hP hwant)
 | false =>
  rw[if_neg (by simp)]
  refine⟨fun _ _=>trivial,?_⟩
  have hq:=hs.skip hwant
  subst hq
  exact hK κ _ w (simN κ undef w sim.heap rfl (Ext.refl _ _ _ _)) (Ext.refl _ _ _ _) (lck undef)
structure SL (st st':St):Prop where
 lo:st'.lo=st.lo
 obj:∀ id,st.lo id=true->st'.h id=st.h id
theorem SL.refl (st:St):SL st st:=⟨rfl,fun _ _=>rfl⟩
theorem SL.trans {a b c:St} (x:SL a b) (y:SL b c):SL a c:=⟨y.lo.trans x.lo,fun id h=>(y.obj id (by rw[x.lo];exact h)).trans (x.obj id h)⟩
theorem j24 {TI:TypeId->Option TInfo} {ops:Array Oper} {l:List Oper} {st st':St} {qs:List (Bool×Eff)} (h:Steps' P L w0 TI ops l st qs st'):SL st st':=by
 induction h with
 | nil st=>exact SL.refl _
 | @cons o rest st want q qs st' h _ ih=>exact SL.trans (b:=st.after o q) ⟨rfl,z1o h.ups (fun H hH id hid=>h.full H hH id (.inl hid))⟩ ih
theorem z4b (o:Op) (q:Eff) (ρ:Env) (h:Heap):R6 o q ρ h ρ h:=⟨fun _ _=>rfl,fun _ _=>rfl,fun _ _=>rfl,fun _=>rfl⟩
def q92 (P:Program) (L:Nat->Prop) (w0:World) (B:Bd) (r:Option Nat) (κ:A2) (st:St) (a:Act) (w:World) (qs:List (Bool×Eff)) (Q:Exit->Act->World->Prop):Prop :=
 ∀ p∈qs,∀ T H,p.2.av=.one (.pan T)->p.2.full=some H->∀ κ' a' w',Sim P L w0 B r κ' (X8 st H) a' w'->Ext L κ st.h w κ' (X8 st H).h w'->Locks st (X8 st H) a a'->Q (.panic [pv T]) a' w'
theorem z94 {r:Option Nat} {κ κ':A2} {st s:St} {a0 a:Act} {w w':World} {H:Heap} (sim:Sim P L w0 B r κ s a w) (lk:Locks st s a0 a) (hb:st.lo B6=false) (hH:∀ id,s.lo id=true->H id=s.h id) (ok:HeapOK L w0 κ' (upd H B6 .fresh) w') (e:Ext L κ s.h w κ' (upd H B6 .fresh) w') :
  Sim P L w0 B r κ' (X8 st H) a w'/\Locks st (X8 st H) a0 a:=by
 refine⟨⟨sim.size.trans lk.n,fun t=>?_,ok,sim.defs.keep e.size e.defs,fun l hl=>?_⟩,⟨rfl,rfl,rfl,fun t ht=>⟨?_,(lk.tmp t ht).2⟩,fun id hid=>?_⟩⟩
 ·show RepAV L κ' (upd H B6 .fresh) w' (cond (st.lt t) (st.ρ t) (.one .unk)) _
  cases ht:st.lt t with
  | false=>exact trivial
  | true =>
   have:=(sim.env t).ext e
   rw[(lk.tmp t ht).1]at this
   exact this
 ·obtain⟨l',h4⟩:=sim.rnd l hl
  exact e.loops l l' h4
 ·show cond (st.lt t) (st.ρ t) (.one .unk)=st.ρ t
  rw[ht];rfl
 ·show upd H B6 .fresh id=st.h id
  have hne:id≠B6:=fun h=>by rw[h,hb]at hid;cases hid
  rw[A0 _ _ hne,hH id (by rw[lk.lo];exact hid)]
  exact lk.obj id hid
theorem z2z {TI:TypeId->Option TInfo} {r:Option Nat} {ops:Array Oper} {m:Nat} {Q:Exit->Act->World->Prop} {st0:St} {κ0:A2} {a0:Act} {v0:World} {all:List (Bool×Eff)} (hb:(∃ p∈all,∃ T,p.2.av=.one (.pan T))->st0.lo B6=false) (hP:q92 P L w0 B r κ0 st0 a0 v0 all Q):∀ (l:List Oper) (i:Nat) (st:St) (qs:List (Bool×Eff)) (st':St),Steps' P L w0 TI ops l st qs st'->(∀ p∈qs,p∈all)->(∀ (j:Nat) (o:Oper),l[j]? = some o->ops[i+j]? = some o) ->
  ∀ κ a w,Sim P L w0 B r κ st a w->Ext L κ0 st0.h v0 κ st.h w->Locks st0 st a0 a->(∀ κ' a' w',Sim P L w0 B r κ' st' a' w'->Ext L κ st.h w κ' st'.h w'->Locks st st' a a'->Q .normal a' w')->wpOpsIn (Fr r) m P ops Q (List.range' i l.length) a w
 | [],i,st,_,_,.nil _,_,_,κ,a,w,sim,_,_,hQ=>hQ κ a w sim (Ext.refl _ _ _ _) (Locks.refl _ _)
 | o::rest,i,st,_,st',.cons (want:=want) (q:=q) (qs:=qs) h t,hall,hl,κ,a,w,sim,e0,l0,hQ=>by
  rw[List.length_cons,List.range'_succ,wpOpsIn_cons]
  refine z3n (hl 0 o rfl) h rfl rfl rfl (fun hw=>h.run hw _ _ (z4b _ _ _ _)) (fun _ _=>rfl) (fun H hH id hid=>h.full H hH id (.inl hid)) sim (fun κ' a' w' h1 h2 h3=>?_) fun hw T hT κ' w' h1 h2=>?_
  ·exact z2z hb hP rest (i+1) _ _ st' t (fun p hp=>hall p (List.mem_cons_of_mem _ hp)) (fun j o' hj=>by rw[show i+1+j=i+(j+1)from by omega];exact hl (j+1) o' (by simpa using hj)) κ' a' w' h1 (e0.trans h2) (l0.trans h3)
    fun κ'' a'' w'' g1 g2 g3=>hQ κ'' a'' w'' g1 (h2.trans g2) (h3.trans g3)
  ·obtain⟨H,hH,-⟩:=q4d h.pan hT
   have hq:q.heap st.h=H:=by unfold Eff.heap;rw[hH]
   rw[hq]at h1 h2
   have hbb:=hb ⟨(want,q),hall _ List.mem_cons_self,T,hT⟩
   obtain⟨s1,s2⟩:=z94 sim l0 hbb (fun id hid=>h.full H hH id (.inl hid)) h1 h2
   exact hP (want,q) (hall _ List.mem_cons_self) T H hT hH κ' a w' s1 (e0.trans h2) s2
end Go.Abs
