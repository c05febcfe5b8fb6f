/- The engine, part 13: regions, in whatever order the machine takes their operations. -/
import Derived.Test.YteeaadgpkammdaaGreatDoorAbsSoundY
namespace Go.Abs
open Go Go.RowKit
variable {P:Program} {L:Nat->Prop} {w0:World} {B:Nat}
structure St where
 ρ:Env
 h:Heap
 lt:Nat->Bool
 lo:Nat->Bool
 n:Nat
def MarksOK (B:Nat) (ds:List Deferred) (w:World):Prop :=
 B<=w.heap.size/\∃ bs:List Nat,bs.Nodup/\ds=bs.map (fun b=>{ target:=.collected b,args:=#[] })/\∀ b∈bs,B<=b/\w.heap[b]? = some (.deferred (some []))
theorem MarksOK.nil {B:Nat} {w:World} (h:B<=w.heap.size):MarksOK B [] w:=⟨h,[],List.nodup_nil,rfl,fun _ h=>by cases h⟩
theorem MarksOK.keep {B:Nat} {ds:List Deferred} {w w':World} (h:MarksOK B ds w) (hsz:w.heap.size<=w'.heap.size) (hd:∀ b:Nat,w.heap[b]? = some (.deferred (some []))->w'.heap[b]? = some (.deferred (some []))):MarksOK B ds w':=by
 obtain⟨h0,bs,h1,h2,h3⟩:=h
 exact⟨Nat.le_trans h0 hsz,bs,h1,h2,fun b hb=>⟨(h3 b hb).1,hd b (h3 b hb).2⟩⟩
structure FP where
 rt:List Nat
 wt:List Nat
 ro:List Nat
 wo:List Nat
 all:Bool
 lim:Nat
def Q8:List Nat->Nat
 | []=>0
 | y::r=>Nat.lor (Q8 r) (Nat.shiftLeft 1 y)
def D9 (l:List Nat) (x:Nat):Bool:=Nat.beq (Nat.land (Nat.shiftRight (Q8 l) x) 1) 1
theorem y8j (m x:Nat):Nat.beq (Nat.land (Nat.shiftRight m x) 1) 1=m.testBit x:=by
 have h:Nat.land (Nat.shiftRight m x) 1=(m >>> x) % 2:=by
  show(m >>> x) &&& 1=_
  rw[Nat.and_one_is_mod]
 rw[h]
 have h2:m.testBit x=decide ((m >>> x) % 2=1):=by
  rw[Nat.testBit,Nat.and_comm,Nat.and_one_is_mod]
  rcases Nat.mod_two_eq_zero_or_one (m >>> x)with h | h<;>rw[h]<;>rfl
 rw[h2]
 rcases Nat.mod_two_eq_zero_or_one (m >>> x)with h | h<;>rw[h]<;>rfl
theorem z1x:∀ (l:List Nat) (x:Nat),(Q8 l).testBit x=true↔x∈l
 | [],x=>by simp[Q8]
 | y::r,x=>by
  have h:(Q8 (y::r)).testBit x=((Q8 r).testBit x||decide (y=x)):=by
   show(Q8 r ||| (1 <<< y)).testBit x=_
   rw[Nat.testBit_or,Nat.one_shiftLeft,Nat.testBit_two_pow]
  rw[h,Bool.or_eq_true,z1x r x,decide_eq_true_eq,List.mem_cons]
  exact⟨fun h=>h.elim .inr (fun h=>.inl h.symm),fun h=>h.elim (fun h=>.inr h.symm) .inl⟩
theorem memb_iff {l:List Nat} {x:Nat}:D9 l x=true↔x∈l:=by
 unfold D9
 rw[y8j,z1x]
def J6 (a b:List Nat):Bool:=!Nat.beq (Nat.land (Q8 a) (Q8 b)) 0
theorem q2g {a b:List Nat} (h:J6 a b=false):∀ x∈a,x∉b:=by
 intro x hx hb
 unfold J6 at h
 have h0:Q8 a &&& Q8 b=0:=Nat.eq_of_beq_eq_true (by simpa using h)
 have h1:(Q8 a &&& Q8 b).testBit x=true:=by
  rw[Nat.testBit_and,(z1x a x).2 hx,(z1x b x).2 hb];rfl
 rw[h0,Nat.zero_testBit]at h1
 cases h1
def v5v (l:List Operand):List Nat:=l.filterMap fun | .tmp t=>some t | _=>none
def put (ρ:Env) (d:Option Tmp) (v:AV):Env:=match d with
 | some d=>upd ρ d v
 | none=>ρ
def q0z (st:St) (d:Option Tmp):Bool:=match d with
 | some d=>Nat.blt d st.n&&!st.lt d
 | none=>true
def q0p (lo:Nat->Bool) (u:List (Nat×AObj)):Bool:=u.all fun p=>!lo p.1
def z1d (ops:Array Oper) (o:Oper):List Nat:=match o.guard with
 | some (j,_)=>((ops[j]?).bind (·.dst)).toList
 | none=>[]
def L6 (ops:Array Oper) (o:Oper) (q:Eff):FP where
 rt:=v5v o.op.operands.toList++z1d ops o
 wt:=o.dst.toList
 ro:=q.rd
 wo:=q.ups.map (·.1)
 all:=q.full.isSome
 lim:=q.lim
def St.set (st:St) (ρ:Env) (h:Heap):St:={ st with ρ,h }
section
variable {R:Type}
noncomputable def q6n (C:Ctx) (ib:Nat) (ops:Array Oper) (o:Oper) (st:St) (K:St->FP->Option R):Option R :=
 cond (q0z st o.dst) (j3s C st.lo (ib+o.dst.getD 0) o.op (ev st.ρ) st.h fun q =>
  cond (q0p st.lo q.ups) (K (st.set (put st.ρ o.dst q.av) (q.heap st.h)) (L6 ops o q)) none) none
def q4c (ops:Array Oper) (o:Oper) (st:St) (K:St->FP->Option R):Option R :=
 cond (q0z st o.dst) (K (st.set (put st.ρ o.dst (.one .udf)) st.h) (L6 ops o (D1 (.one .udf)))) none
noncomputable def z7y (C:Ctx) (ib:Nat) (ops:Array Oper) (o:Oper) (st:St) (K:St->FP->Option R):Option R :=
 match o.guard with
 | none=>q6n C ib ops o st K
 | some (j,want)=>match(ops[j]?).bind (·.dst)with
  | none=>none
  | some d=>match st.ρ d with
   | .one (.sc .bool c)=>cond c
    (match want with
     | true=>q6n C ib ops o (st.set (upd st.ρ d (H4 true)) st.h) K
     | false=>q4c ops o (st.set (upd st.ρ d (H4 true)) st.h) K)
    (match want with
     | true=>q4c ops o (st.set (upd st.ρ d (H4 false)) st.h) K
     | false=>q6n C ib ops o (st.set (upd st.ρ d (H4 false)) st.h) K)
   | .one .udf=>q4c ops o st K
   | _=>none
noncomputable def q08 (C:Ctx) (ib:Nat) (ops:Array Oper):List Oper->St->List FP->(St->List FP->Option R)->Option R
 | [],st,fps,K=>K st fps
 | o::rest,st,fps,K=>z7y C ib ops o st fun st' fp=>q08 C ib ops rest st' (fps++[fp]) K
end
def q7l:List Oper->List Nat->List Nat
 | [],acc=>acc
 | o::rest,acc=>q7l rest (acc++[o.after.toList.foldl (fun s e=>match Region.binds .any e with
  | true=>s ||| (2^e.on ||| acc.getD e.on 0)
  | false=>s) 0])
def q4i (n:Nat):List Nat->Bool
 | []=>false
 | x::r=>Nat.ble n x||q4i n r
theorem j4l {n:Nat}:∀ {l:List Nat} {x:Nat},x∈l->n<=x->q4i n l=true
 | [],_,h,_=>by cases h
 | y::r,x,h,hn=>by
  simp only[q4i,Bool.or_eq_true]
  rcases List.mem_cons.1 h with rfl | h
  ·exact .inl (Nat.ble_eq_true_of_le hn)
  ·exact .inr (j4l h hn)
def H8 (a b:FP):Bool :=
 J6 a.wt (b.rt++b.wt)||J6 b.wt a.rt||J6 a.wo (b.ro++b.wo)||J6 b.wo a.ro ||
 (a.all&&(b.all||q4i a.lim b.ro||!b.wo.isEmpty))||(b.all&&(q4i b.lim a.ro||!a.wo.isEmpty))
def q9z (id:Nat):Nat->Nat->List FP->Bool
 | _,_,[]=>true
 | i,j,f::r=>(match i with
  | 0=>Nat.beq j 0||(!f.all&&!D9 f.wo id)
  | _+1=>true)&&q9z id (i-1) (j-1) r
def q6o (ops:Array Oper) (fps:List FP) (i j:Nat):Bool:=match ops[i]?,ops[j]?,fps[i]?,fps[j]? with
 | some o,some o',some a,some b=>(match o.op,o'.op,o.guard,o'.guard,a.ro with
  | .lookup T _ _ false,.mapEntry T' _ _,none,none,[id]=>Nat.beq T T'&&!a.all&&!b.all&&!H8 { a with ro:=[] } b&&q9z id (i+1) j fps
  | _,_,_,_,_=>false)
 | _,_,_,_=>false
def z1i (ex:Nat->Nat->Bool) (fps:List FP) (ms:List Nat) (j:Nat) (b:FP) (mj:Nat):Nat->List FP->Bool
 | _,[]=>true
 | i,a::rest=>(Nat.ble j i||mj.testBit i||!H8 a b||ex i j)&&z1i ex fps ms j b mj (i+1) rest
def q79 (ex:Nat->Nat->Bool) (fps:List FP) (ms:List Nat):Nat->List FP->Bool
 | _,[]=>true
 | j,b::rest=>z1i ex fps ms j b (ms.getD j 0) 0 fps&&q79 ex fps ms (j+1) rest
def q9x (ops:List Oper):Nat->Bool:=fun n=>(ops.zipIdx 0).all fun(o,i)=>o.after.toList.all fun e=>(match Region.binds .any e with | true=>Nat.blt e.on i | false=>true)&&Nat.ble i n
noncomputable def z0g {R:Type} (C:Ctx) (ib:Nat) (ops:Array Oper) (draw:Bool) (st:St) (K:St->Option R):Option R :=
 q08 C ib ops ops.toList st [] fun st' fps=>match draw with
  | false=>K st'
  | true=>cond (q79 (q6o ops fps) fps (q7l ops.toList []) 0 fps&&q9x ops.toList ops.size) (K st') none
structure Sim (P:Program) (L:Nat->Prop) (w0:World) (B:Nat) (r:Option Nat) (κ:A3) (st:St) (a:Act) (w:World):Prop where
 size:a.tmps.size=st.n
 env:q1u L κ st.h w st.ρ a
 heap:HeapOK L w0 κ st.h w
 defs:MarksOK B a.defers w
 rnd:∀ l,r=some l->∃ l':Loop,w.heap[l]? = some (.loop l')
structure Locks (st st':St) (a a':Act):Prop where
 lt:st'.lt=st.lt
 lo:st'.lo=st.lo
 n:st'.n=st.n
 tmp:∀ t,st.lt t=true->st'.ρ t=st.ρ t/\a'.tmps.getD t undef=a.tmps.getD t undef
 obj:∀ id,st.lo id=true->st'.h id=st.h id
theorem Locks.refl (st:St) (a:Act):Locks st st a a:=⟨rfl,rfl,rfl,fun _ _=>⟨rfl,rfl⟩,fun _ _=>rfl⟩
theorem Locks.trans {s1 s2 s3:St} {a1 a2 a3:Act} (x:Locks s1 s2 a1 a2) (y:Locks s2 s3 a2 a3):Locks s1 s3 a1 a3 where
 lt:=y.lt.trans x.lt
 lo:=y.lo.trans x.lo
 n:=y.n.trans x.n
 tmp t h:=⟨(y.tmp t (by rw[x.lt];exact h)).1.trans (x.tmp t h).1,(y.tmp t (by rw[x.lt];exact h)).2.trans (x.tmp t h).2⟩
 obj id h:=(y.obj id (by rw[x.lo];exact h)).trans (x.obj id h)
def St.after (st:St) (o:Oper) (q:Eff):St:=st.set (put st.ρ o.dst q.av) (q.heap st.h)
structure StepOK (P:Program) (L:Nat->Prop) (w0:World) (TI:TypeId->Option TInfo) (ops:Array Oper) (o:Oper) (st:St) (want:Bool) (q:Eff):Prop where
 guard:∀ j b,o.guard=some (j,b)->∃ d,(ops[j]?).bind (·.dst)=some d/\((∃ c,st.ρ d=H4 c/\want=(c==b))\/(st.ρ d=.one .udf/\want=false))
 noguard:o.guard=none->want=true
 dst:q0z st o.dst=true
 ups:q0p st.lo q.ups=true
 full:∀ H,q.full=some H->∀ id,st.lo id=true\/(id<q.lim/\id∉q.ups.map (·.1))->H id=st.h id
 run:want=true->∀ ρs hs,W0 o.op q st.ρ st.h ρs hs->A8 P L w0 o ρs hs (q.heap hs) q.av
 skip:want=false->q=D1 (.one .udf)
 ent:want=true->∀ T m k,o.op=.mapEntry T m k->∀ id∈q.ups.map (·.1),st.h id=.fresh\/q42 TI T (st.h id) (q.heap st.h id)
 look:want=true->∀ T m k,o.op=.lookup T m k false->∀ id,q.rd=[id]->st.h id≠.fresh/\∀ ρs hs,(∀ x∈o.op.operands,ev ρs x=ev st.ρ x)->q42 TI T (st.h id) (hs id)->A8 P L w0 o ρs hs (q.heap hs) q.av
theorem y0t {α:Type} (f:Nat->α) (i:Nat) (v:α) (h:f i=v):upd f i v=f:=by
 funext j
 by_cases hj:j=i
 ·subst hj;rw[A1,h]
 ·rw[A0 _ _ hj]
structure SoftOK (P:Program) (L:Nat->Prop) (w0:World) (TI:TypeId->Option TInfo) (o:Oper) (st:St) (q:Eff):Prop where
 ent:∀ T m k,o.op=.mapEntry T m k->∀ id∈q.ups.map (·.1),st.h id=.fresh\/q42 TI T (st.h id) (q.heap st.h id)
 look:∀ T m k,o.op=.lookup T m k false->∀ id,q.rd=[id]->st.h id≠.fresh/\∀ ρs hs,(∀ x∈o.op.operands,ev ρs x=ev st.ρ x)->q42 TI T (st.h id) (hs id)->A8 P L w0 o ρs hs (q.heap hs) q.av
theorem z81 {R:Type} {C:Ctx} (hC:CtxOK P L w0 C) {ib:Nat} {ops:Array Oper} {o:Oper} {st:St} {K:St->FP->Option R} {z:R} (he:q6n C ib ops o st K=some z) :
  ∃ q,K (st.after o q) (L6 ops o q)=some z/\q0z st o.dst=true/\q0p st.lo q.ups=true/\(∀ H,q.full=some H->∀ id,st.lo id=true\/(id<q.lim/\id∉q.ups.map (·.1))->H id=st.h id) /\
   (∀ ρs hs,W0 o.op q st.ρ st.h ρs hs->A8 P L w0 o ρs hs (q.heap hs) q.av)/\SoftOK P L w0 C.TI o st q:=by
 unfold q6n at he
 obtain⟨hd,he⟩:=B1 he
 unfold j3s at he
 split at he
 rotate_left
 ·obtain⟨hns,he⟩:=B1 he
  obtain⟨q,hq,hfull,hsem⟩:=y5x (lo:=st.lo) (id':=ib+o.dst.getD 0) (ρ:=st.ρ) (h:=st.h) (K:=fun q=>cond (q0p st.lo q.ups) (K (st.set (put st.ρ o.dst q.av) (q.heap st.h)) (L6 ops o q)) none) hC he
  obtain⟨hu,hq⟩:=B1 hq
  refine⟨q,hq,hd,hu,(fun H hH=>by rw[hfull]at hH;cases hH),hsem,⟨fun T m k h=>?_,fun T m k h=>?_⟩⟩<;>rw[h]at hns<;>cases hns
 cases hD:isD C (ib+o.dst.getD 0) o.op (ev st.ρ) st.h with
 | true =>
  rw[hD,cond_true]at he
  obtain⟨⟨q,hq,hfull,hlook,hsem⟩,n1⟩:=y5u hC he
  obtain⟨hu,hq⟩:=B1 hq
  exact⟨q,hq,hd,hu,(fun H hH=>by rw[hfull]at hH;cases hH),hsem,⟨fun T m k h=>absurd h (n1 T m k),fun T m k h id hrd=>absurd hrd (hlook T m k h id)⟩⟩
 | false =>
 rw[hD,cond_false]at he
 unfold q6m at he
 cases hX:isX C (ib+o.dst.getD 0) o.op (ev st.ρ)with
 | true =>
  rw[hX,cond_true]at he
  obtain⟨⟨q,hq,hfull,hsem⟩,n1,n2⟩:=j3x hC he
  obtain⟨hu,hq⟩:=B1 hq
  exact⟨q,hq,hd,hu,hfull,hsem,⟨fun T m k h=>absurd h (n1 T m k),fun T m k h=>absurd h (n2 T m k)⟩⟩
 | false =>
 rw[hX,cond_false]at he
 have gen:(∀ T m k,o.op≠.mapEntry T m k)->(∀ T m k,o.op≠.lookup T m k false)->∃ q,K (st.after o q) (L6 ops o q)=some z/\q0z st o.dst=true/\q0p st.lo q.ups=true/\(∀ H,q.full=some H->∀ id,st.lo id=true\/(id<q.lim/\id∉q.ups.map (·.1))->H id=st.h id) /\
   (∀ ρs hs,W0 o.op q st.ρ st.h ρs hs->A8 P L w0 o ρs hs (q.heap hs) q.av)/\SoftOK P L w0 C.TI o st q:=fun n1 n2=>by
  obtain⟨q,hq,hfull,hsem⟩:=j3t hC he
  obtain⟨hu,hq⟩:=B1 hq
  exact⟨q,hq,hd,hu,hfull,hsem,⟨fun T m k h=>absurd h (n1 T m k),fun T m k h=>absurd h (n2 T m k)⟩⟩
 by_cases h1:∃ T m k,o.op=.mapEntry T m k
 ·obtain⟨T,m,k,hop⟩:=h1
  rw[hop]at he
  obtain⟨q,hq,hfull,hsem,hent⟩:=j87 (P:=P) (L:=L) (w0:=w0) hC.ti hop (ρ:=st.ρ) (show q6j C T (ev st.ρ m) (ev st.ρ k) st.h (ib+o.dst.getD 0) (fun q=>cond (q0p st.lo q.ups) (K (st.set (put st.ρ o.dst q.av) (q.heap st.h)) (L6 ops o q)) none)=some z from he)
  obtain⟨hu,hq⟩:=B1 hq
  refine⟨q,hq,hd,hu,(fun H hH=>by rw[hfull]at hH;cases hH),fun ρs hs ha=>hsem ρs hs (ha.1 m (by rw[hop];simp[Op.operands])) (ha.1 k (by rw[hop];simp[Op.operands])) ha.2.1 ha.2.2.1,⟨fun T' m' k' h'=>?_,fun T' m' k' h'=>?_⟩⟩
  ·rw[hop]at h';cases h';exact hent
  ·rw[hop]at h';cases h'
 ·by_cases h2:∃ T m k,o.op=.lookup T m k false
  ·obtain⟨T,m,k,hop⟩:=h2
   rw[hop]at he
   obtain⟨q,hq,hfull,hsem,hlook⟩:=v3m (P:=P) (L:=L) (w0:=w0) hC.ti hop (ρ:=st.ρ) (show q4b C T (ev st.ρ m) (ev st.ρ k) false st.h (fun q=>cond (q0p st.lo q.ups) (K (st.set (put st.ρ o.dst q.av) (q.heap st.h)) (L6 ops o q)) none)=some z from he)
   obtain⟨hu,hq⟩:=B1 hq
   refine⟨q,hq,hd,hu,(fun H hH=>by rw[hfull]at hH;cases hH),fun ρs hs ha=>hsem ρs hs (ha.1 m (by rw[hop];simp[Op.operands])) (ha.1 k (by rw[hop];simp[Op.operands])) ha.2.1,⟨fun T' m' k' h'=>?_,fun T' m' k' h'=>?_⟩⟩
   ·rw[hop]at h';cases h'
   ·rw[hop]at h';cases h'
    intro id hid
    obtain⟨g1,g2⟩:=hlook id hid
    exact⟨g1,fun ρs hs ha hso=>g2 ρs hs (ha m (by rw[hop];simp[Op.operands])) (ha k (by rw[hop];simp[Op.operands])) hso⟩
  ·exact gen (fun T m k h=>h1 ⟨T,m,k,h⟩) (fun T m k h=>h2 ⟨T,m,k,h⟩)
theorem y5z {R:Type} {C:Ctx} (hC:CtxOK P L w0 C) {ib:Nat} {ops:Array Oper} {o:Oper} {st:St} {K:St->FP->Option R} {z:R} (he:z7y C ib ops o st K=some z) :
  ∃ want q,K (st.after o q) (L6 ops o q)=some z/\StepOK P L w0 C.TI ops o st want q:=by
 unfold z7y at he
 split at he
 ·rename_i hg
  obtain⟨q,h1,h2,h3,h4,h5,h6⟩:=z81 hC he
  exact⟨true,q,h1,⟨(fun j b hj=>by rw[hg]at hj;cases hj),fun _=>rfl,h2,h3,h4,fun _=>h5,(fun h=>by cases h),fun _=>h6.ent,fun _=>h6.look⟩⟩
 ·rename_i j want hg
  split at he
  ·cases he
  ·rename_i d hd
   split at he
   ·rename_i c hc
    have hset:∀ b,c=b->st.set (upd st.ρ d (H4 b)) st.h=st:=fun b hb=>by
     unfold St.set
     rw[y0t _ _ _ (by rw[hc,hb];rfl)]
    have hskip:∀ {z:R},q4c ops o st K=some z->∃ q,K (st.after o q) (L6 ops o q)=some z/\q0z st o.dst=true/\q=D1 (.one .udf):=by
     intro z he
     unfold q4c at he
     obtain⟨h1,h2⟩:=B1 he
     exact⟨D1 (.one .udf),h2,h1,rfl⟩
    have mk:∀ q w',w'=(c==want)->q0z st o.dst=true->q0p st.lo q.ups=true->(∀ H,q.full=some H->∀ id,st.lo id=true\/(id<q.lim/\id∉q.ups.map (·.1))->H id=st.h id) ->
      (w'=true->∀ ρs hs,W0 o.op q st.ρ st.h ρs hs->A8 P L w0 o ρs hs (q.heap hs) q.av)->(w'=false->q=D1 (.one .udf))->(w'=true->SoftOK P L w0 C.TI o st q)->StepOK P L w0 C.TI ops o st w' q :=
     fun q w' h1 h2 h3 h4 h5 h6 h7=>⟨(fun j' b' hj=>by rw[hg]at hj;cases hj;exact⟨d,hd,.inl ⟨c,hc,h1⟩⟩),(fun h=>by rw[hg]at h;cases h),h2,h3,h4,h5,h6,fun h=>(h7 h).ent,fun h=>(h7 h).look⟩
    cases hcv:c with
    | true =>
     rw[hcv,cond_true,hset true hcv]at he
     cases want with
     | true =>
      obtain⟨q,h1,h2,h3,h4,h5,h6⟩:=z81 hC he
      exact⟨true,q,h1,mk q true (by rw[hcv];rfl) h2 h3 h4 (fun _=>h5) (fun h=>by cases h) (fun _=>h6)⟩
     | false =>
      obtain⟨q,h1,h2,h3⟩:=hskip he
      subst h3
      exact⟨false,_,h1,mk _ false (by rw[hcv];rfl) h2 rfl (fun H hH=>by cases hH) (fun h=>by cases h) (fun _=>rfl) (fun h=>by cases h)⟩
    | false =>
     rw[hcv,cond_false,hset false hcv]at he
     cases want with
     | false =>
      obtain⟨q,h1,h2,h3,h4,h5,h6⟩:=z81 hC he
      exact⟨true,q,h1,mk q true (by rw[hcv];rfl) h2 h3 h4 (fun _=>h5) (fun h=>by cases h) (fun _=>h6)⟩
     | true =>
      obtain⟨q,h1,h2,h3⟩:=hskip he
      subst h3
      exact⟨false,_,h1,mk _ false (by rw[hcv];rfl) h2 rfl (fun H hH=>by cases hH) (fun h=>by cases h) (fun _=>rfl) (fun h=>by cases h)⟩
   ·rename_i hc
    unfold q4c at he
    obtain⟨h1,h2⟩:=B1 he
    exact⟨false,D1 (.one .udf),h2,⟨(fun j' b' hj=>by rw[hg]at hj;cases hj;exact⟨d,hd,.inr ⟨hc,rfl⟩⟩),(fun h=>by rw[hg]at h;cases h),h1,rfl,(fun H hH=>by cases hH),(fun h=>by cases h),fun _=>rfl,(fun h=>by cases h),(fun h=>by cases h)⟩⟩
   ·cases he
inductive Steps' (P:Program) (L:Nat->Prop) (w0:World) (TI:TypeId->Option TInfo) (ops:Array Oper):List Oper->St->List (Bool×Eff)->St->Prop
 | nil (st:St):Steps' P L w0 TI ops [] st [] st
 | cons {o:Oper} {rest:List Oper} {st:St} {want:Bool} {q:Eff} {qs:List (Bool×Eff)} {st':St} (h:StepOK P L w0 TI ops o st want q) (t:Steps' P L w0 TI ops rest (st.after o q) qs st') :
  Steps' P L w0 TI ops (o::rest) st ((want,q)::qs) st'
theorem z7z {R:Type} {C:Ctx} (hC:CtxOK P L w0 C) {ib:Nat} {ops:Array Oper}:∀ (l:List Oper) (st:St) (fps:List FP) (K:St->List FP->Option R) (z:R),q08 C ib ops l st fps K=some z ->
  ∃ qs st',Steps' P L w0 C.TI ops l st qs st'/\K st' (fps++(l.zip qs).map fun p=>L6 ops p.1 p.2.2)=some z
 | [],st,fps,K,z,he=>⟨[],st,.nil st,by simpa[q08]using he⟩
 | o::rest,st,fps,K,z,he=>by
  simp only[q08]at he
  obtain⟨want,q,h1,h2⟩:=y5z hC he
  obtain⟨qs,st',h3,h4⟩:=z7z hC rest _ _ K z h1
  exact⟨(want,q)::qs,st',.cons h2 h3,by simpa using h4⟩
theorem v6h {κ:A3} {h:Heap} {w:World} {ρ:Env} {a:Act} {ops:Array Oper} {o:Oper} (henv:q1u L κ h w ρ a) {want:Bool}
  (hg:∀ j b,o.guard=some (j,b)->∃ d,(ops[j]?).bind (·.dst)=some d/\((∃ c,ρ d=H4 c/\want=(c==b))\/(ρ d=.one .udf/\want=false))) (hn:o.guard=none->want=true):Region.wanted o (yielded ops a.tmps)=want:=by
 unfold Region.wanted
 cases hgu:o.guard with
 | none=>exact(hn hgu).symm
 | some p =>
  obtain⟨j,b⟩:=p
  obtain⟨d,h1,hcase⟩:=hg j b hgu
  have hr:=henv d
  rcases hcase with⟨c,h2,h3⟩ | ⟨h2,h3⟩
  ·rw[h2]at hr
   have hv:=q0j hr
   have hd:a.tmps[d]? = some (.bool c):=by
    rw[Array.getD_eq_getD_getElem?]at hv
    cases hq:a.tmps[d]? with
    | none=>rw[hq]at hv;simp[undef]at hv
    | some u=>rw[hq]at hv;simpa using hv
   simp only[yielded,h1,Option.bind_some,hd,h3]
   cases c<;>cases b<;>rfl
  ·rw[h2]at hr
   have hv:a.tmps.getD d undef=undef:=hr
   have hd:a.tmps[d]? = none\/a.tmps[d]? = some undef:=by
    rw[Array.getD_eq_getD_getElem?]at hv
    cases hq:a.tmps[d]? with
    | none=>exact .inl rfl
    | some u=>rw[hq]at hv;exact .inr (by simpa using hv)
   rcases hd with hd | hd
   ·simp only[yielded,h1,Option.bind_some,hd,h3];cases b<;>rfl
   ·simp only[yielded,h1,Option.bind_some,hd,h3,undef];cases b<;>rfl
theorem j3g {κ κ':A3} {h h':Heap} {w w':World} {ρ:Env} {a:Act} (henv:q1u L κ h w ρ a) (x:Ext L κ h w κ' h' w') {d:Option Tmp} {av:AV} {v:Value} (hr:RepAV L κ' h' w' av v)
  (hd:∀ t,d=some t->t<a.tmps.size):q1u L κ' h' w' (put ρ d av) (a.put d v):=by
 cases d with
 | none=>exact fun t=>(henv t).ext x
 | some d =>
  intro t
  simp only[put,Act.put]
  by_cases ht:t=d
  ·subst ht
   rw[A1]
   simp only[Array.getD_eq_getD_getElem?,Array.getElem?_setIfInBounds_self_of_lt (hd t rfl),Option.getD_some]
   exact hr
  ·rw[A0 _ _ ht]
   simp only[Array.getD_eq_getD_getElem?,Array.getElem?_setIfInBounds_ne (Ne.symm ht)]
   have:=(henv t).ext x
   simpa[Array.getD_eq_getD_getElem?]using this
theorem j7j (a:Act) (d:Option Tmp) (v:Value):(a.put d v).tmps.size=a.tmps.size:=by
 cases d<;>simp[Act.put]
theorem j7i (a:Act) (d:Option Tmp) (v:Value):(a.put d v).defers=a.defers:=by
 cases d<;>rfl
theorem q66:∀ (u:List (Nat×AObj)) (h:Heap) (id:Nat),(∀ p∈u,p.1≠id)->A5 u h id=h id
 | [],_,_,_=>rfl
 | p::u,h,id,hh=>by
  show A5 u (upd h p.1 p.2) id=h id
  rw[q66 u _ id (fun q hq=>hh q (List.mem_cons_of_mem _ hq)),A0 _ _ (Ne.symm (hh p List.mem_cons_self))]
theorem j4u {lo:Nat->Bool} {q:Eff} {h:Heap} (hu:q0p lo q.ups=true) (hf:∀ H,q.full=some H->∀ id,lo id=true->H id=h id):∀ id,lo id=true->q.heap h id=h id:=by
 intro id hid
 unfold Eff.heap
 cases hq:q.full with
 | some H=>exact hf H hq id hid
 | none =>
  refine q66 _ _ _ fun p hp e=>?_
  have:=List.all_eq_true.1 hu p hp
  rw[e,hid]at this;cases this
theorem y5l {st:St} {d:Option Tmp} (h:q0z st d=true):∀ t,d=some t->t<st.n/\st.lt t=false:=by
 intro t ht
 subst ht
 simp only[q0z,Bool.and_eq_true,Bool.not_eq_true']at h
 exact⟨Nat.le_of_ble_eq_true h.1,h.2⟩
theorem y00 {TI:TypeId->Option TInfo} {r:Option Nat} {ops:Array Oper} {i:Nat} {o:Oper} (hi:ops[i]? = some o) {st:St} {want:Bool} {q:Eff} (hs:StepOK P L w0 TI ops o st want q) {s:St} (hlt:s.lt=st.lt) (hlo:s.lo=st.lo) (hn:s.n=st.n)
  (hag:want=true->A8 P L w0 o s.ρ s.h (q.heap s.h) q.av) (hgt:∀ t∈z1d ops o,s.ρ t=st.ρ t) (hfl:∀ H,q.full=some H->∀ id,s.lo id=true->H id=s.h id) {κ:A3} {a:Act} {w:World} (sim:Sim P L w0 B r κ s a w) {m:Nat} {K:Act->World->Prop} {Q:Exit->Act->World->Prop}
  (hK:∀ κ' a' w',Sim P L w0 B r κ' (s.after o q) a' w'->Ext L κ s.h w κ' (s.after o q).h w'->Locks s (s.after o q) a a'->K a' w'):wpOpIn (Fr r) m P ops Q i K a w:=by
 unfold wpOpIn
 rw[hi]
 have hw:=v6h (ops:=ops) (o:=o) sim.env (want:=want) (fun j b hj=>by
  obtain⟨d,h1,h2⟩:=hs.guard j b hj
  refine⟨d,h1,?_⟩
  rw[hgt d (by simp[z1d,hj,h1])];exact h2) hs.noguard
 simp only[hw]
 have hd:=y5l hs.dst
 have hup:q0p s.lo q.ups=true:=by rw[hlo];exact hs.ups
 have lck:∀ (v:Value),Locks s (s.after o q) a (a.put o.dst v):=fun v=>⟨rfl,rfl,rfl,fun t ht=>by
   have hne:o.dst≠some t:=fun e=>by have:=(hd t e).2;rw[hlt]at ht;rw[ht]at this;cases this
   constructor
   ·show put s.ρ o.dst q.av t=s.ρ t
    cases hq:o.dst with
    | none=>rfl
    | some d=>exact A0 _ _ (fun e=>hne (by rw[hq,e]))
   ·cases hq:o.dst with
    | none=>rfl
    | some d =>
     have:d≠t:=fun e=>hne (by rw[hq,e])
     simp[Act.put,Array.getD_eq_getD_getElem?,Array.getElem?_setIfInBounds_ne this],
  j4u hup hfl⟩
 have simN:∀ κ' v w',HeapOK L w0 κ' (q.heap s.h) w'->RepAV L κ' (q.heap s.h) w' q.av v->Ext L κ s.h w κ' (q.heap s.h) w'->Sim P L w0 B r κ' (s.after o q) (a.put o.dst v) w':=fun κ' v w' h1 h2 h3 =>
  ⟨(j7j _ _ _).trans sim.size,j3g sim.env h3 h2 (fun t ht=>by rw[sim.size,hn];exact(hd t ht).1),h1,by rw[j7i];exact sim.defs.keep h3.size h3.defs,fun l hl=>by
   obtain⟨l',h4⟩:=sim.rnd l hl
   exact h3.loops l l' h4⟩
 cases hwant:want with
 | true =>
  rw[if_pos rfl]
  exact hag hwant r κ a w sim.env sim.heap m K Q fun κ' v w' h1 h2 h3=>hK κ' _ w' (simN κ' v w' h1 h2 h3) h3 (lck v)
 | false =>
  rw[if_neg (by simp)]
  refine⟨fun _ _=>trivial,?_⟩
  have hq:=hs.skip hwant
  subst hq
  exact hK κ _ w (simN κ undef w sim.heap rfl (Ext.refl _ _ _ _)) (Ext.refl _ _ _ _) (lck undef)
structure SL (st st':St):Prop where
 lo:st'.lo=st.lo
 obj:∀ id,st.lo id=true->st'.h id=st.h id
theorem SL.refl (st:St):SL st st:=⟨rfl,fun _ _=>rfl⟩
theorem SL.trans {a b c:St} (x:SL a b) (y:SL b c):SL a c:=⟨y.lo.trans x.lo,fun id h=>(y.obj id (by rw[x.lo];exact h)).trans (x.obj id h)⟩
theorem y01 {TI:TypeId->Option TInfo} {ops:Array Oper} {l:List Oper} {st st':St} {qs:List (Bool×Eff)} (h:Steps' P L w0 TI ops l st qs st'):SL st st':=by
 induction h with
 | nil st=>exact SL.refl _
 | @cons o rest st want q qs st' h _ ih=>exact SL.trans (b:=st.after o q) ⟨rfl,j4u h.ups (fun H hH id hid=>h.full H hH id (.inl hid))⟩ ih
theorem y1r (o:Op) (q:Eff) (ρ:Env) (h:Heap):W0 o q ρ h ρ h:=⟨fun _ _=>rfl,fun _ _=>rfl,fun _ _=>rfl,fun _=>rfl⟩
theorem z9t {TI:TypeId->Option TInfo} {r:Option Nat} {ops:Array Oper} {m:Nat} {Q:Exit->Act->World->Prop}:∀ (l:List Oper) (i:Nat) (st:St) (qs:List (Bool×Eff)) (st':St),Steps' P L w0 TI ops l st qs st'->(∀ (j:Nat) (o:Oper),l[j]? = some o->ops[i+j]? = some o) ->
  ∀ κ a w,Sim P L w0 B r κ st a w->(∀ κ' a' w',Sim P L w0 B r κ' st' a' w'->Ext L κ st.h w κ' st'.h w'->Locks st st' a a'->Q .normal a' w')->wpOpsIn (Fr r) m P ops Q (List.range' i l.length) a w
 | [],i,st,_,_,.nil _,_,κ,a,w,sim,hQ=>hQ κ a w sim (Ext.refl _ _ _ _) (Locks.refl _ _)
 | o::rest,i,st,_,st',.cons (q:=q) h t,hl,κ,a,w,sim,hQ=>by
  rw[List.length_cons,List.range'_succ,wpOpsIn_cons]
  refine y00 (hl 0 o rfl) h rfl rfl rfl (fun hw=>h.run hw _ _ (y1r _ _ _ _)) (fun _ _=>rfl) (fun H hH id hid=>h.full H hH id (.inl hid)) sim fun κ' a' w' h1 h2 h3=>?_
  exact z9t rest (i+1) _ _ st' t (fun j o' hj=>by rw[show i+1+j=i+(j+1)from by omega];exact hl (j+1) o' (by simpa using hj)) κ' a' w' h1
   fun κ'' a'' w'' g1 g2 g3=>hQ κ'' a'' w'' g1 (h2.trans g2) (h3.trans g3)
end Go.Abs
