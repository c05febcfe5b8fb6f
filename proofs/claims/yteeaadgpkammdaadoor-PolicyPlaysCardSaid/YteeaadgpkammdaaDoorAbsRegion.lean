/- The engine, part 13: regions, in whatever order the machine takes their operations. -/
import Derived.Test.YteeaadgpkammdaaDoorAbsSoundY
namespace Go.Abs
open Go Go.RowKit
variable {P:Program} {L:Nat→Prop} {w0:World} {B:Nat}
structure St where
  ρ:Env
  h:Heap
  lt:Nat→Bool
  lo:Nat→Bool
  n:Nat
def MarksOK (B:Nat) (ds:List Deferred) (w:World):Prop :=
  B≤w.heap.size∧∃ bs:List Nat,bs.Nodup∧ds=bs.map (fun b=>{ target:=.collected b,args:=#[] })∧∀ b∈bs,B≤b∧w.heap[b]? = some (.deferred (some []))
theorem MarksOK.nil {B:Nat} {w:World} (h:B≤w.heap.size):MarksOK B [] w:=⟨h,[],List.nodup_nil,rfl,fun _ h=>by cases h⟩
theorem MarksOK.keep {B:Nat} {ds:List Deferred} {w w':World} (h:MarksOK B ds w) (hsz:w.heap.size≤w'.heap.size) (hd:∀ b:Nat,w.heap[b]? = some (.deferred (some []))→w'.heap[b]? = some (.deferred (some []))):MarksOK B ds w':=by
  obtain ⟨h0,bs,h1,h2,h3⟩:=h
  exact ⟨Nat.le_trans h0 hsz,bs,h1,h2,fun b hb=>⟨(h3 b hb).1,hd b (h3 b hb).2⟩⟩
structure FP where
  rt:List Nat
  wt:List Nat
  ro:List Nat
  wo:List Nat
  all:Bool
  lim:Nat
def maskOf:List Nat→Nat
  | []=>0
  | y :: r=>Nat.lor (maskOf r) (Nat.shiftLeft 1 y)
def memb (l:List Nat) (x:Nat):Bool:=Nat.beq (Nat.land (Nat.shiftRight (maskOf l) x) 1) 1
theorem memb_bit (m x:Nat):Nat.beq (Nat.land (Nat.shiftRight m x) 1) 1=m.testBit x:=by
  have h:Nat.land (Nat.shiftRight m x) 1=(m >>> x) % 2:=by
    show (m >>> x) &&& 1=_
    rw [Nat.and_one_is_mod]
  rw [h]
  have h2:m.testBit x=decide ((m >>> x) % 2=1):=by
    rw [Nat.testBit,Nat.and_comm,Nat.and_one_is_mod]
    rcases Nat.mod_two_eq_zero_or_one (m >>> x) with h | h <;> rw [h] <;> rfl
  rw [h2]
  rcases Nat.mod_two_eq_zero_or_one (m >>> x) with h | h <;> rw [h] <;> rfl
theorem mask_bit:∀ (l:List Nat) (x:Nat),(maskOf l).testBit x=true↔x∈l
  | [],x=>by simp [maskOf]
  | y :: r,x=>by
    have h:(maskOf (y :: r)).testBit x=((maskOf r).testBit x || decide (y=x)):=by
      show (maskOf r ||| (1 <<< y)).testBit x=_
      rw [Nat.testBit_or,Nat.one_shiftLeft,Nat.testBit_two_pow]
    rw [h,Bool.or_eq_true,mask_bit r x,decide_eq_true_eq,List.mem_cons]
    exact ⟨fun h=>h.elim .inr (fun h=>.inl h.symm),fun h=>h.elim (fun h=>.inr h.symm) .inl⟩
theorem memb_iff {l:List Nat} {x:Nat}:memb l x=true↔x∈l:=by
  unfold memb
  rw [memb_bit,mask_bit]
def meets (a b:List Nat):Bool:=!Nat.beq (Nat.land (maskOf a) (maskOf b)) 0
theorem meets_false {a b:List Nat} (h:meets a b=false):∀ x∈a,x ∉ b:=by
  intro x hx hb
  unfold meets at h
  have h0:maskOf a &&& maskOf b=0:=Nat.eq_of_beq_eq_true (by simpa using h)
  have h1:(maskOf a &&& maskOf b).testBit x=true:=by
    rw [Nat.testBit_and,(mask_bit a x).2 hx,(mask_bit b x).2 hb]; rfl
  rw [h0,Nat.zero_testBit] at h1
  cases h1
def tmpsOf (l:List Operand):List Nat:=l.filterMap fun | .tmp t=>some t | _=>none
def put (ρ:Env) (d:Option Tmp) (v:AV):Env:=match d with
  | some d=>upd ρ d v
  | none=>ρ
def dstOk (st:St) (d:Option Tmp):Bool:=match d with
  | some d=>Nat.blt d st.n && !st.lt d
  | none=>true
def upsOk (lo:Nat→Bool) (u:List (Nat × AObj)):Bool:=u.all fun p=>!lo p.1
def guardSlot (ops:Array Oper) (o:Oper):List Nat:=match o.guard with
  | some (j,_)=>((ops[j]?).bind (·.dst)).toList
  | none=>[]
def fpOf (ops:Array Oper) (o:Oper) (q:Eff):FP where
  rt:=tmpsOf o.op.operands.toList++guardSlot ops o
  wt:=o.dst.toList
  ro:=q.rd
  wo:=q.ups.map (·.1)
  all:=q.full.isSome
  lim:=q.lim
def St.set (st:St) (ρ:Env) (h:Heap):St:={ st with ρ,h }
section
variable {R:Type}
noncomputable def evalRun (C:Ctx) (ib:Nat) (ops:Array Oper) (o:Oper) (st:St) (K:St→FP→Option R):Option R :=
  cond (dstOk st o.dst) (evalOpY C st.lo (ib+o.dst.getD 0) o.op (ev st.ρ) st.h fun q =>
    cond (upsOk st.lo q.ups) (K (st.set (put st.ρ o.dst q.av) (q.heap st.h)) (fpOf ops o q)) none) none
def evalSkip (ops:Array Oper) (o:Oper) (st:St) (K:St→FP→Option R):Option R :=
  cond (dstOk st o.dst) (K (st.set (put st.ρ o.dst (.one .udf)) st.h) (fpOf ops o (effOf (.one .udf)))) none
noncomputable def evalOper (C:Ctx) (ib:Nat) (ops:Array Oper) (o:Oper) (st:St) (K:St→FP→Option R):Option R :=
  match o.guard with
  | none=>evalRun C ib ops o st K
  | some (j,want)=>match (ops[j]?).bind (·.dst) with
    | none=>none
    | some d=>match st.ρ d with
      | .one (.sc .bool c)=>cond c
          (match want with
            | true=>evalRun C ib ops o (st.set (upd st.ρ d (bBool true)) st.h) K
            | false=>evalSkip ops o (st.set (upd st.ρ d (bBool true)) st.h) K)
          (match want with
            | true=>evalSkip ops o (st.set (upd st.ρ d (bBool false)) st.h) K
            | false=>evalRun C ib ops o (st.set (upd st.ρ d (bBool false)) st.h) K)
      | .one .udf=>evalSkip ops o st K
      | _=>none
noncomputable def evalOps (C:Ctx) (ib:Nat) (ops:Array Oper):List Oper→St→List FP→(St→List FP→Option R)→Option R
  | [],st,fps,K=>K st fps
  | o :: rest,st,fps,K=>evalOper C ib ops o st fun st' fp=>evalOps C ib ops rest st' (fps++[fp]) K
end
def masks:List Oper→List Nat→List Nat
  | [],acc=>acc
  | o :: rest,acc=>masks rest (acc++[o.after.toList.foldl (fun s e=>match Region.binds .any e with
      | true=>s ||| (2 ^ e.on ||| acc.getD e.on 0)
      | false=>s) 0])
def geAny (n:Nat):List Nat→Bool
  | []=>false
  | x :: r=>Nat.ble n x || geAny n r
theorem geAny_mem {n:Nat}:∀ {l:List Nat} {x:Nat},x∈l→n≤x→geAny n l=true
  | [],_,h,_=>by cases h
  | y :: r,x,h,hn=>by
    simp only [geAny,Bool.or_eq_true]
    rcases List.mem_cons.1 h with rfl | h
    · exact .inl (Nat.ble_eq_true_of_le hn)
    · exact .inr (geAny_mem h hn)
def clash (a b:FP):Bool :=
  meets a.wt (b.rt++b.wt) || meets b.wt a.rt || meets a.wo (b.ro++b.wo) || meets b.wo a.ro ||
  (a.all && (b.all || geAny a.lim b.ro || !b.wo.isEmpty)) || (b.all && (geAny b.lim a.ro || !a.wo.isEmpty))
def between (id:Nat):Nat→Nat→List FP→Bool
  | _,_,[]=>true
  | i,j,f :: r=>(match i with
    | 0=>Nat.beq j 0 || (!f.all && !memb f.wo id)
    | _+1=>true) && between id (i - 1) (j - 1) r
def excuse (ops:Array Oper) (fps:List FP) (i j:Nat):Bool:=match ops[i]?,ops[j]?,fps[i]?,fps[j]? with
  | some o,some o',some a,some b=>(match o.op,o'.op,o.guard,o'.guard,a.ro with
    | .lookup T _ _ false,.mapEntry T' _ _,none,none,[id]=>Nat.beq T T' && !a.all && !b.all && !clash { a with ro:=[] } b && between id (i+1) j fps
    | _,_,_,_,_=>false)
  | _,_,_,_=>false
def indepAt (ex:Nat→Nat→Bool) (fps:List FP) (ms:List Nat) (j:Nat) (b:FP) (mj:Nat):Nat→List FP→Bool
  | _,[]=>true
  | i,a :: rest=>(Nat.ble j i || mj.testBit i || !clash a b || ex i j) && indepAt ex fps ms j b mj (i+1) rest
def indep (ex:Nat→Nat→Bool) (fps:List FP) (ms:List Nat):Nat→List FP→Bool
  | _,[]=>true
  | j,b :: rest=>indepAt ex fps ms j b (ms.getD j 0) 0 fps && indep ex fps ms (j+1) rest
def backward (ops:List Oper):Nat→Bool:=fun n=>(ops.zipIdx 0).all fun (o,i)=>o.after.toList.all fun e=>(match Region.binds .any e with | true=>Nat.blt e.on i | false=>true) && Nat.ble i n
noncomputable def evalRegion {R:Type} (C:Ctx) (ib:Nat) (ops:Array Oper) (draw:Bool) (st:St) (K:St→Option R):Option R :=
  evalOps C ib ops ops.toList st [] fun st' fps=>match draw with
    | false=>K st'
    | true=>cond (indep (excuse ops fps) fps (masks ops.toList []) 0 fps && backward ops.toList ops.size) (K st') none
structure Sim (P:Program) (L:Nat→Prop) (w0:World) (B:Nat) (r:Option Nat) (κ:Place) (st:St) (a:Act) (w:World):Prop where
  size:a.tmps.size=st.n
  env:EnvOK L κ st.h w st.ρ a
  heap:HeapOK L w0 κ st.h w
  defs:MarksOK B a.defers w
  rnd:∀ l,r=some l→∃ l':Loop,w.heap[l]? = some (.loop l')
structure Locks (st st':St) (a a':Act):Prop where
  lt:st'.lt=st.lt
  lo:st'.lo=st.lo
  n:st'.n=st.n
  tmp:∀ t,st.lt t=true→st'.ρ t=st.ρ t∧a'.tmps.getD t undef=a.tmps.getD t undef
  obj:∀ id,st.lo id=true→st'.h id=st.h id
theorem Locks.refl (st:St) (a:Act):Locks st st a a:=⟨rfl,rfl,rfl,fun _ _=>⟨rfl,rfl⟩,fun _ _=>rfl⟩
theorem Locks.trans {s1 s2 s3:St} {a1 a2 a3:Act} (x:Locks s1 s2 a1 a2) (y:Locks s2 s3 a2 a3):Locks s1 s3 a1 a3 where
  lt:=y.lt.trans x.lt
  lo:=y.lo.trans x.lo
  n:=y.n.trans x.n
  tmp t h:=⟨(y.tmp t (by rw [x.lt]; exact h)).1.trans (x.tmp t h).1,(y.tmp t (by rw [x.lt]; exact h)).2.trans (x.tmp t h).2⟩
  obj id h:=(y.obj id (by rw [x.lo]; exact h)).trans (x.obj id h)
def St.after (st:St) (o:Oper) (q:Eff):St:=st.set (put st.ρ o.dst q.av) (q.heap st.h)
structure StepOK (P:Program) (L:Nat→Prop) (w0:World) (TI:TypeId→Option TInfo) (ops:Array Oper) (o:Oper) (st:St) (want:Bool) (q:Eff):Prop where
  guard:∀ j b,o.guard=some (j,b)→∃ d,(ops[j]?).bind (·.dst)=some d∧((∃ c,st.ρ d=bBool c∧want=(c == b))∨(st.ρ d=.one .udf∧want=false))
  noguard:o.guard=none→want=true
  dst:dstOk st o.dst=true
  ups:upsOk st.lo q.ups=true
  full:∀ H,q.full=some H→∀ id,st.lo id=true∨(id < q.lim∧id ∉ q.ups.map (·.1))→H id=st.h id
  run:want=true→∀ ρs hs,Agree o.op q st.ρ st.h ρs hs→OpSem P L w0 o ρs hs (q.heap hs) q.av
  skip:want=false→q=effOf (.one .udf)
  ent:want=true→∀ T m k,o.op=.mapEntry T m k→∀ id∈q.ups.map (·.1),st.h id=.fresh∨SoftT TI T (st.h id) (q.heap st.h id)
  look:want=true→∀ T m k,o.op=.lookup T m k false→∀ id,q.rd=[id]→st.h id≠.fresh∧∀ ρs hs,(∀ x∈o.op.operands,ev ρs x=ev st.ρ x)→SoftT TI T (st.h id) (hs id)→OpSem P L w0 o ρs hs (q.heap hs) q.av
theorem upd_self {α:Type} (f:Nat→α) (i:Nat) (v:α) (h:f i=v):upd f i v=f:=by
  funext j
  by_cases hj:j=i
  · subst hj; rw [upd_same,h]
  · rw [upd_other _ _ hj]
structure SoftOK (P:Program) (L:Nat→Prop) (w0:World) (TI:TypeId→Option TInfo) (o:Oper) (st:St) (q:Eff):Prop where
  ent:∀ T m k,o.op=.mapEntry T m k→∀ id∈q.ups.map (·.1),st.h id=.fresh∨SoftT TI T (st.h id) (q.heap st.h id)
  look:∀ T m k,o.op=.lookup T m k false→∀ id,q.rd=[id]→st.h id≠.fresh∧∀ ρs hs,(∀ x∈o.op.operands,ev ρs x=ev st.ρ x)→SoftT TI T (st.h id) (hs id)→OpSem P L w0 o ρs hs (q.heap hs) q.av
theorem evalRun_sound {R:Type} {C:Ctx} (hC:CtxOK P L w0 C) {ib:Nat} {ops:Array Oper} {o:Oper} {st:St} {K:St→FP→Option R} {z:R} (he:evalRun C ib ops o st K=some z) :
    ∃ q,K (st.after o q) (fpOf ops o q)=some z∧dstOk st o.dst=true∧upsOk st.lo q.ups=true∧(∀ H,q.full=some H→∀ id,st.lo id=true∨(id < q.lim∧id ∉ q.ups.map (·.1))→H id=st.h id) ∧
      (∀ ρs hs,Agree o.op q st.ρ st.h ρs hs→OpSem P L w0 o ρs hs (q.heap hs) q.av)∧SoftOK P L w0 C.TI o st q:=by
  unfold evalRun at he
  obtain ⟨hd,he⟩:=cond_some he
  unfold evalOpY at he
  split at he
  rotate_left
  · obtain ⟨hns,he⟩:=cond_some he
    obtain ⟨q,hq,hfull,hsem⟩:=evalFz_sound (lo:=st.lo) (id':=ib+o.dst.getD 0) (ρ:=st.ρ) (h:=st.h) (K:=fun q=>cond (upsOk st.lo q.ups) (K (st.set (put st.ρ o.dst q.av) (q.heap st.h)) (fpOf ops o q)) none) hC he
    obtain ⟨hu,hq⟩:=cond_some hq
    refine ⟨q,hq,hd,hu,(fun H hH=>by rw [hfull] at hH; cases hH),hsem,⟨fun T m k h=>?_,fun T m k h=>?_⟩⟩ <;> rw [h] at hns <;> cases hns
  cases hD:isD C (ib+o.dst.getD 0) o.op (ev st.ρ) st.h with
  | true =>
    rw [hD,cond_true] at he
    obtain ⟨⟨q,hq,hfull,hlook,hsem⟩,n1⟩:=evalD_sound hC he
    obtain ⟨hu,hq⟩:=cond_some hq
    exact ⟨q,hq,hd,hu,(fun H hH=>by rw [hfull] at hH; cases hH),hsem,⟨fun T m k h=>absurd h (n1 T m k),fun T m k h id hrd=>absurd hrd (hlook T m k h id)⟩⟩
  | false =>
  rw [hD,cond_false] at he
  unfold evalOpX at he
  cases hX:isX C (ib+o.dst.getD 0) o.op (ev st.ρ) with
  | true =>
    rw [hX,cond_true] at he
    obtain ⟨⟨q,hq,hfull,hsem⟩,n1,n2⟩:=evalX_sound hC he
    obtain ⟨hu,hq⟩:=cond_some hq
    exact ⟨q,hq,hd,hu,hfull,hsem,⟨fun T m k h=>absurd h (n1 T m k),fun T m k h=>absurd h (n2 T m k)⟩⟩
  | false =>
  rw [hX,cond_false] at he
  have gen:(∀ T m k,o.op≠.mapEntry T m k)→(∀ T m k,o.op≠.lookup T m k false)→∃ q,K (st.after o q) (fpOf ops o q)=some z∧dstOk st o.dst=true∧upsOk st.lo q.ups=true∧(∀ H,q.full=some H→∀ id,st.lo id=true∨(id < q.lim∧id ∉ q.ups.map (·.1))→H id=st.h id) ∧
      (∀ ρs hs,Agree o.op q st.ρ st.h ρs hs→OpSem P L w0 o ρs hs (q.heap hs) q.av)∧SoftOK P L w0 C.TI o st q:=fun n1 n2=>by
    obtain ⟨q,hq,hfull,hsem⟩:=evalOp_sound hC he
    obtain ⟨hu,hq⟩:=cond_some hq
    exact ⟨q,hq,hd,hu,hfull,hsem,⟨fun T m k h=>absurd h (n1 T m k),fun T m k h=>absurd h (n2 T m k)⟩⟩
  by_cases h1:∃ T m k,o.op=.mapEntry T m k
  · obtain ⟨T,m,k,hop⟩:=h1
    rw [hop] at he
    obtain ⟨q,hq,hfull,hsem,hent⟩:=sem_entry2 (P:=P) (L:=L) (w0:=w0) hC.ti hop (ρ:=st.ρ) (show evalEntry C T (ev st.ρ m) (ev st.ρ k) st.h (ib+o.dst.getD 0) (fun q=>cond (upsOk st.lo q.ups) (K (st.set (put st.ρ o.dst q.av) (q.heap st.h)) (fpOf ops o q)) none)=some z from he)
    obtain ⟨hu,hq⟩:=cond_some hq
    refine ⟨q,hq,hd,hu,(fun H hH=>by rw [hfull] at hH; cases hH),fun ρs hs ha=>hsem ρs hs (ha.1 m (by rw [hop]; simp [Op.operands])) (ha.1 k (by rw [hop]; simp [Op.operands])) ha.2.1 ha.2.2.1,⟨fun T' m' k' h'=>?_,fun T' m' k' h'=>?_⟩⟩
    · rw [hop] at h'; cases h'; exact hent
    · rw [hop] at h'; cases h'
  · by_cases h2:∃ T m k,o.op=.lookup T m k false
    · obtain ⟨T,m,k,hop⟩:=h2
      rw [hop] at he
      obtain ⟨q,hq,hfull,hsem,hlook⟩:=sem_lookup2 (P:=P) (L:=L) (w0:=w0) hC.ti hop (ρ:=st.ρ) (show evalLookup C T (ev st.ρ m) (ev st.ρ k) false st.h (fun q=>cond (upsOk st.lo q.ups) (K (st.set (put st.ρ o.dst q.av) (q.heap st.h)) (fpOf ops o q)) none)=some z from he)
      obtain ⟨hu,hq⟩:=cond_some hq
      refine ⟨q,hq,hd,hu,(fun H hH=>by rw [hfull] at hH; cases hH),fun ρs hs ha=>hsem ρs hs (ha.1 m (by rw [hop]; simp [Op.operands])) (ha.1 k (by rw [hop]; simp [Op.operands])) ha.2.1,⟨fun T' m' k' h'=>?_,fun T' m' k' h'=>?_⟩⟩
      · rw [hop] at h'; cases h'
      · rw [hop] at h'; cases h'
        intro id hid
        obtain ⟨g1,g2⟩:=hlook id hid
        exact ⟨g1,fun ρs hs ha hso=>g2 ρs hs (ha m (by rw [hop]; simp [Op.operands])) (ha k (by rw [hop]; simp [Op.operands])) hso⟩
    · exact gen (fun T m k h=>h1 ⟨T,m,k,h⟩) (fun T m k h=>h2 ⟨T,m,k,h⟩)
theorem evalOper_sound {R:Type} {C:Ctx} (hC:CtxOK P L w0 C) {ib:Nat} {ops:Array Oper} {o:Oper} {st:St} {K:St→FP→Option R} {z:R} (he:evalOper C ib ops o st K=some z) :
    ∃ want q,K (st.after o q) (fpOf ops o q)=some z∧StepOK P L w0 C.TI ops o st want q:=by
  unfold evalOper at he
  split at he
  · rename_i hg
    obtain ⟨q,h1,h2,h3,h4,h5,h6⟩:=evalRun_sound hC he
    exact ⟨true,q,h1,⟨(fun j b hj=>by rw [hg] at hj; cases hj),fun _=>rfl,h2,h3,h4,fun _=>h5,(fun h=>by cases h),fun _=>h6.ent,fun _=>h6.look⟩⟩
  · rename_i j want hg
    split at he
    · cases he
    · rename_i d hd
      split at he
      · rename_i c hc
        have hset:∀ b,c=b→st.set (upd st.ρ d (bBool b)) st.h=st:=fun b hb=>by
          unfold St.set
          rw [upd_self _ _ _ (by rw [hc,hb]; rfl)]
        have hskip:∀ {z:R},evalSkip ops o st K=some z→∃ q,K (st.after o q) (fpOf ops o q)=some z∧dstOk st o.dst=true∧q=effOf (.one .udf):=by
          intro z he
          unfold evalSkip at he
          obtain ⟨h1,h2⟩:=cond_some he
          exact ⟨effOf (.one .udf),h2,h1,rfl⟩
        have mk:∀ q w',w'=(c == want)→dstOk st o.dst=true→upsOk st.lo q.ups=true→(∀ H,q.full=some H→∀ id,st.lo id=true∨(id < q.lim∧id ∉ q.ups.map (·.1))→H id=st.h id) →
            (w'=true→∀ ρs hs,Agree o.op q st.ρ st.h ρs hs→OpSem P L w0 o ρs hs (q.heap hs) q.av)→(w'=false→q=effOf (.one .udf))→(w'=true→SoftOK P L w0 C.TI o st q)→StepOK P L w0 C.TI ops o st w' q :=
          fun q w' h1 h2 h3 h4 h5 h6 h7=>⟨(fun j' b' hj=>by rw [hg] at hj; cases hj; exact ⟨d,hd,.inl ⟨c,hc,h1⟩⟩),(fun h=>by rw [hg] at h; cases h),h2,h3,h4,h5,h6,fun h=>(h7 h).ent,fun h=>(h7 h).look⟩
        cases hcv:c with
        | true =>
          rw [hcv,cond_true,hset true hcv] at he
          cases want with
          | true =>
            obtain ⟨q,h1,h2,h3,h4,h5,h6⟩:=evalRun_sound hC he
            exact ⟨true,q,h1,mk q true (by rw [hcv]; rfl) h2 h3 h4 (fun _=>h5) (fun h=>by cases h) (fun _=>h6)⟩
          | false =>
            obtain ⟨q,h1,h2,h3⟩:=hskip he
            subst h3
            exact ⟨false,_,h1,mk _ false (by rw [hcv]; rfl) h2 rfl (fun H hH=>by cases hH) (fun h=>by cases h) (fun _=>rfl) (fun h=>by cases h)⟩
        | false =>
          rw [hcv,cond_false,hset false hcv] at he
          cases want with
          | false =>
            obtain ⟨q,h1,h2,h3,h4,h5,h6⟩:=evalRun_sound hC he
            exact ⟨true,q,h1,mk q true (by rw [hcv]; rfl) h2 h3 h4 (fun _=>h5) (fun h=>by cases h) (fun _=>h6)⟩
          | true =>
            obtain ⟨q,h1,h2,h3⟩:=hskip he
            subst h3
            exact ⟨false,_,h1,mk _ false (by rw [hcv]; rfl) h2 rfl (fun H hH=>by cases hH) (fun h=>by cases h) (fun _=>rfl) (fun h=>by cases h)⟩
      · rename_i hc
        unfold evalSkip at he
        obtain ⟨h1,h2⟩:=cond_some he
        exact ⟨false,effOf (.one .udf),h2,⟨(fun j' b' hj=>by rw [hg] at hj; cases hj; exact ⟨d,hd,.inr ⟨hc,rfl⟩⟩),(fun h=>by rw [hg] at h; cases h),h1,rfl,(fun H hH=>by cases hH),(fun h=>by cases h),fun _=>rfl,(fun h=>by cases h),(fun h=>by cases h)⟩⟩
      · cases he
inductive Steps' (P:Program) (L:Nat→Prop) (w0:World) (TI:TypeId→Option TInfo) (ops:Array Oper):List Oper→St→List (Bool × Eff)→St→Prop
  | nil (st:St):Steps' P L w0 TI ops [] st [] st
  | cons {o:Oper} {rest:List Oper} {st:St} {want:Bool} {q:Eff} {qs:List (Bool × Eff)} {st':St} (h:StepOK P L w0 TI ops o st want q) (t:Steps' P L w0 TI ops rest (st.after o q) qs st') :
      Steps' P L w0 TI ops (o :: rest) st ((want,q) :: qs) st'
theorem evalOps_sound {R:Type} {C:Ctx} (hC:CtxOK P L w0 C) {ib:Nat} {ops:Array Oper}:∀ (l:List Oper) (st:St) (fps:List FP) (K:St→List FP→Option R) (z:R),evalOps C ib ops l st fps K=some z →
    ∃ qs st',Steps' P L w0 C.TI ops l st qs st'∧K st' (fps++(l.zip qs).map fun p=>fpOf ops p.1 p.2.2)=some z
  | [],st,fps,K,z,he=>⟨[],st,.nil st,by simpa [evalOps] using he⟩
  | o :: rest,st,fps,K,z,he=>by
    simp only [evalOps] at he
    obtain ⟨want,q,h1,h2⟩:=evalOper_sound hC he
    obtain ⟨qs,st',h3,h4⟩:=evalOps_sound hC rest _ _ K z h1
    exact ⟨(want,q) :: qs,st',.cons h2 h3,by simpa using h4⟩
theorem wanted_of {κ:Place} {h:Heap} {w:World} {ρ:Env} {a:Act} {ops:Array Oper} {o:Oper} (henv:EnvOK L κ h w ρ a) {want:Bool}
    (hg:∀ j b,o.guard=some (j,b)→∃ d,(ops[j]?).bind (·.dst)=some d∧((∃ c,ρ d=bBool c∧want=(c == b))∨(ρ d=.one .udf∧want=false))) (hn:o.guard=none→want=true):Region.wanted o (yielded ops a.tmps)=want:=by
  unfold Region.wanted
  cases hgu:o.guard with
  | none=>exact (hn hgu).symm
  | some p =>
    obtain ⟨j,b⟩:=p
    obtain ⟨d,h1,hcase⟩:=hg j b hgu
    have hr:=henv d
    rcases hcase with ⟨c,h2,h3⟩ | ⟨h2,h3⟩
    · rw [h2] at hr
      have hv:=rep_bool_inv hr
      have hd:a.tmps[d]? = some (.bool c):=by
        rw [Array.getD_eq_getD_getElem?] at hv
        cases hq:a.tmps[d]? with
        | none=>rw [hq] at hv; simp [undef] at hv
        | some u=>rw [hq] at hv; simpa using hv
      simp only [yielded,h1,Option.bind_some,hd,h3]
      cases c <;> cases b <;> rfl
    · rw [h2] at hr
      have hv:a.tmps.getD d undef=undef:=hr
      have hd:a.tmps[d]? = none∨a.tmps[d]? = some undef:=by
        rw [Array.getD_eq_getD_getElem?] at hv
        cases hq:a.tmps[d]? with
        | none=>exact .inl rfl
        | some u=>rw [hq] at hv; exact .inr (by simpa using hv)
      rcases hd with hd | hd
      · simp only [yielded,h1,Option.bind_some,hd,h3]; cases b <;> rfl
      · simp only [yielded,h1,Option.bind_some,hd,h3,undef]; cases b <;> rfl
theorem env_put {κ κ':Place} {h h':Heap} {w w':World} {ρ:Env} {a:Act} (henv:EnvOK L κ h w ρ a) (x:Ext L κ h w κ' h' w') {d:Option Tmp} {av:AV} {v:Value} (hr:RepAV L κ' h' w' av v)
    (hd:∀ t,d=some t→t < a.tmps.size):EnvOK L κ' h' w' (put ρ d av) (a.put d v):=by
  cases d with
  | none=>exact fun t=>(henv t).ext x
  | some d =>
    intro t
    simp only [put,Act.put]
    by_cases ht:t=d
    · subst ht
      rw [upd_same]
      simp only [Array.getD_eq_getD_getElem?,Array.getElem?_setIfInBounds_self_of_lt (hd t rfl),Option.getD_some]
      exact hr
    · rw [upd_other _ _ ht]
      simp only [Array.getD_eq_getD_getElem?,Array.getElem?_setIfInBounds_ne (Ne.symm ht)]
      have:=(henv t).ext x
      simpa [Array.getD_eq_getD_getElem?] using this
theorem put_size (a:Act) (d:Option Tmp) (v:Value):(a.put d v).tmps.size=a.tmps.size:=by
  cases d <;> simp [Act.put]
theorem put_defers (a:Act) (d:Option Tmp) (v:Value):(a.put d v).defers=a.defers:=by
  cases d <;> rfl
theorem applyUps_other:∀ (u:List (Nat × AObj)) (h:Heap) (id:Nat),(∀ p∈u,p.1≠id)→applyUps u h id=h id
  | [],_,_,_=>rfl
  | p :: u,h,id,hh=>by
    show applyUps u (upd h p.1 p.2) id=h id
    rw [applyUps_other u _ id (fun q hq=>hh q (List.mem_cons_of_mem _ hq)),upd_other _ _ (Ne.symm (hh p List.mem_cons_self))]
theorem heap_locked {lo:Nat→Bool} {q:Eff} {h:Heap} (hu:upsOk lo q.ups=true) (hf:∀ H,q.full=some H→∀ id,lo id=true→H id=h id):∀ id,lo id=true→q.heap h id=h id:=by
  intro id hid
  unfold Eff.heap
  cases hq:q.full with
  | some H=>exact hf H hq id hid
  | none =>
    refine applyUps_other _ _ _ fun p hp e=>?_
    have:=List.all_eq_true.1 hu p hp
    rw [e,hid] at this; cases this
theorem dst_lt {st:St} {d:Option Tmp} (h:dstOk st d=true):∀ t,d=some t→t < st.n∧st.lt t=false:=by
  intro t ht
  subst ht
  simp only [dstOk,Bool.and_eq_true,Bool.not_eq_true'] at h
  exact ⟨Nat.le_of_ble_eq_true h.1,h.2⟩
theorem step_wp {TI:TypeId→Option TInfo} {r:Option Nat} {ops:Array Oper} {i:Nat} {o:Oper} (hi:ops[i]? = some o) {st:St} {want:Bool} {q:Eff} (hs:StepOK P L w0 TI ops o st want q) {s:St} (hlt:s.lt=st.lt) (hlo:s.lo=st.lo) (hn:s.n=st.n)
    (hag:want=true→OpSem P L w0 o s.ρ s.h (q.heap s.h) q.av) (hgt:∀ t∈guardSlot ops o,s.ρ t=st.ρ t) (hfl:∀ H,q.full=some H→∀ id,s.lo id=true→H id=s.h id) {κ:Place} {a:Act} {w:World} (sim:Sim P L w0 B r κ s a w) {m:Nat} {K:Act→World→Prop} {Q:Exit→Act→World→Prop}
    (hK:∀ κ' a' w',Sim P L w0 B r κ' (s.after o q) a' w'→Ext L κ s.h w κ' (s.after o q).h w'→Locks s (s.after o q) a a'→K a' w'):wpOpIn (Fr r) m P ops Q i K a w:=by
  unfold wpOpIn
  rw [hi]
  have hw:=wanted_of (ops:=ops) (o:=o) sim.env (want:=want) (fun j b hj=>by
    obtain ⟨d,h1,h2⟩:=hs.guard j b hj
    refine ⟨d,h1,?_⟩
    rw [hgt d (by simp [guardSlot,hj,h1])]; exact h2) hs.noguard
  simp only [hw]
  have hd:=dst_lt hs.dst
  have hup:upsOk s.lo q.ups=true:=by rw [hlo]; exact hs.ups
  have lck:∀ (v:Value),Locks s (s.after o q) a (a.put o.dst v):=fun v=>⟨rfl,rfl,rfl,fun t ht=>by
      have hne:o.dst≠some t:=fun e=>by have:=(hd t e).2; rw [hlt] at ht; rw [ht] at this; cases this
      constructor
      · show put s.ρ o.dst q.av t=s.ρ t
        cases hq:o.dst with
        | none=>rfl
        | some d=>exact upd_other _ _ (fun e=>hne (by rw [hq,e]))
      · cases hq:o.dst with
        | none=>rfl
        | some d =>
          have:d≠t:=fun e=>hne (by rw [hq,e])
          simp [Act.put,Array.getD_eq_getD_getElem?,Array.getElem?_setIfInBounds_ne this],
    heap_locked hup hfl⟩
  have simN:∀ κ' v w',HeapOK L w0 κ' (q.heap s.h) w'→RepAV L κ' (q.heap s.h) w' q.av v→Ext L κ s.h w κ' (q.heap s.h) w'→Sim P L w0 B r κ' (s.after o q) (a.put o.dst v) w':=fun κ' v w' h1 h2 h3 =>
    ⟨(put_size _ _ _).trans sim.size,env_put sim.env h3 h2 (fun t ht=>by rw [sim.size,hn]; exact (hd t ht).1),h1,by rw [put_defers]; exact sim.defs.keep h3.size h3.defs,fun l hl=>by
      obtain ⟨l',h4⟩:=sim.rnd l hl
      exact h3.loops l l' h4⟩
  cases hwant:want with
  | true =>
    rw [if_pos rfl]
    exact hag hwant r κ a w sim.env sim.heap m K Q fun κ' v w' h1 h2 h3=>hK κ' _ w' (simN κ' v w' h1 h2 h3) h3 (lck v)
  | false =>
    rw [if_neg (by simp)]
    refine ⟨fun _ _=>trivial,?_⟩
    have hq:=hs.skip hwant
    subst hq
    exact hK κ _ w (simN κ undef w sim.heap rfl (Ext.refl _ _ _ _)) (Ext.refl _ _ _ _) (lck undef)
structure SL (st st':St):Prop where
  lo:st'.lo=st.lo
  obj:∀ id,st.lo id=true→st'.h id=st.h id
theorem SL.refl (st:St):SL st st:=⟨rfl,fun _ _=>rfl⟩
theorem SL.trans {a b c:St} (x:SL a b) (y:SL b c):SL a c:=⟨y.lo.trans x.lo,fun id h=>(y.obj id (by rw [x.lo]; exact h)).trans (x.obj id h)⟩
theorem steps_locked {TI:TypeId→Option TInfo} {ops:Array Oper} {l:List Oper} {st st':St} {qs:List (Bool × Eff)} (h:Steps' P L w0 TI ops l st qs st'):SL st st':=by
  induction h with
  | nil st=>exact SL.refl _
  | @cons o rest st want q qs st' h _ ih=>exact SL.trans (b:=st.after o q) ⟨rfl,heap_locked h.ups (fun H hH id hid=>h.full H hH id (.inl hid))⟩ ih
theorem agree_self (o:Op) (q:Eff) (ρ:Env) (h:Heap):Agree o q ρ h ρ h:=⟨fun _ _=>rfl,fun _ _=>rfl,fun _ _=>rfl,fun _=>rfl⟩
theorem region_seq {TI:TypeId→Option TInfo} {r:Option Nat} {ops:Array Oper} {m:Nat} {Q:Exit→Act→World→Prop}:∀ (l:List Oper) (i:Nat) (st:St) (qs:List (Bool × Eff)) (st':St),Steps' P L w0 TI ops l st qs st'→(∀ (j:Nat) (o:Oper),l[j]? = some o→ops[i+j]? = some o) →
    ∀ κ a w,Sim P L w0 B r κ st a w→(∀ κ' a' w',Sim P L w0 B r κ' st' a' w'→Ext L κ st.h w κ' st'.h w'→Locks st st' a a'→Q .normal a' w')→wpOpsIn (Fr r) m P ops Q (List.range' i l.length) a w
  | [],i,st,_,_,.nil _,_,κ,a,w,sim,hQ=>hQ κ a w sim (Ext.refl _ _ _ _) (Locks.refl _ _)
  | o :: rest,i,st,_,st',.cons (q:=q) h t,hl,κ,a,w,sim,hQ=>by
    rw [List.length_cons,List.range'_succ,wpOpsIn_cons]
    refine step_wp (hl 0 o rfl) h rfl rfl rfl (fun hw=>h.run hw _ _ (agree_self _ _ _ _)) (fun _ _=>rfl) (fun H hH id hid=>h.full H hH id (.inl hid)) sim fun κ' a' w' h1 h2 h3=>?_
    exact region_seq rest (i+1) _ _ st' t (fun j o' hj=>by rw [show i+1+j=i+(j+1) from by omega]; exact hl (j+1) o' (by simpa using hj)) κ' a' w' h1
      fun κ'' a'' w'' g1 g2 g3=>hQ κ'' a'' w'' g1 (h2.trans g2) (h3.trans g3)
end Go.Abs
