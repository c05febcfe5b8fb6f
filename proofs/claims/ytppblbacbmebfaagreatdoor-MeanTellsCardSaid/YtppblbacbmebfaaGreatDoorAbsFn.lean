/- The engine, part 19: functions. -/
import Derived.Test.YtppblbacbmebfaaGreatDoorAbsCode2
namespace Go.Abs
open Go Go.RowKit
variable {P:Program} {L:Nat->Prop} {w0:World}
def j2s (agg:Bool) (t:Ty) (x:t.den):AV:=match agg with
 | true=>.agg (F6 t x)
 | false=>.one (.sc t x)
def q17:Nat->(as:List (Bool×Ty))->I8 as->Env
 | _,[],_=>fun _=>.one .unk
 | i,(agg,t)::r,x=>upd (q17 (i+1) r x.2) i (j2s agg t x.1)
def E7:Heap:=fun id=>cond (Nat.ble T7 id) .kid .fresh
theorem j6t (id:Nat) (h:T7<=id):E7 id=.kid:=by unfold E7;rw[Nat.ble_eq_true_of_le h];rfl
theorem j6u {w:World} (hL:∀ b,L b->b<w.heap.size):HeapOK L w (fun _=>none) E7 w where
 obj id:=by unfold E7;cases Nat.ble T7 id<;>trivial
 inj _ _ _ _ _ _ _ h:=by cases h
 own _ _ _ _ h:=by cases h
 below:=Below.refl _ _
 outer b hb:=⟨hL b hb,fun _ _ _ h=>by cases h⟩
 kids:=j6t
def z00 (as:List (Bool×Ty)) (x:I8 as) (n:Nat):St:={ ρ:=q17 0 as x,h:=E7,lt:=fun _=>false,lo:=fun _=>false,n }
section
variable {R:Type}
def q03 (C:Ctx) (st:St):List ResultVar->(List AV->Option R)->Option R
 | [],K=>K []
 | .tmp t::r,K=>q03 C st r fun l=>K (st.ρ t::l)
 | .cell a T::r,K=>(match C.TI T,st.ρ a with
  | some ti,.one (.ptr id off)=>(match st.h id with
   | .cells l=>Z0 ti l off fun av=>q03 C st r fun l=>K (av::l)
   | _=>none)
  | _,_=>none)
def O4 (h:Heap):(rs:List RTy)->List AV->(J2 rs->List Nat->Option Nat->Option R)->Option R
 | [],[],K=>K () [] none
 | .val agg t::r,v::vs,K=>(match F5 h [(agg,t)] [v]with
  | some (y,ids0)=>O4 h r vs fun ys ids o=>K (y.1,ys) (ids0++ids) o
  | none=>none)
 | .own _ _::r,.one .nils::vs,K=>O4 h r vs fun ys ids o=>(match o with
  | none=>K ([],ys) ids none
  | some _=>none)
 | .own e t::r,.one (.own id)::vs,K=>(match h id with
  | .arr e' t' l=>(match G2 (.list t') (.list t) l with
   | some l'=>cond (Nat.beq e' e&&Nat.beq (S5 r) 0) (O4 h r vs fun ys ids o=>(match o with
    | none=>K (l',ys) ids (some id)
    | some _=>none)) none
   | none=>none)
  | _=>none)
 | _,_,_=>none
end
noncomputable def q6y (C:Ctx) (fn:Func) (an:Ann) (rs:List RTy) (st0:St):Option (J2 rs) :=
 match fn.body with
 | none=>none
 | some c=>J1 C 0 c an (J2 rs) st0 fun k st=>match k with
  | .ex _=>none
  | .pan _=>none
  | _=>q03 C st fn.results.toList fun avs=>O4 st.h rs avs fun y ids o=>cond (match o with
   | some id=>!E4 ids id
   | none=>true) (some y) none
noncomputable def y5d (C:Ctx) (fn:Func) (an:Ann) (as:List (Bool×Ty)) (rs:List RTy) (x:I8 as):Option (J2 rs) :=
 cond (Nat.ble as.length fn.ntmps) (q6y C fn an rs (z00 as x fn.ntmps)) none
def z2u (a:AV) (n:Nat):St:={ ρ:=upd (fun _=>.one .unk) 0 a,h:=E7,lt:=fun _=>false,lo:=fun _=>false,n }
def z2q:AV->Bool
 | .tup _=>false
 | _=>true
def q4n:AV->Bool×List SV
 | .one s=>(false,[s])
 | .agg l=>(true,l)
 | .tup _=>(false,[])
def q1z:List AV->AV
 | [a]=>a
 | l=>.tup (l.map q4n)
def q0k:Nat->List AV->Env
 | _,[]=>fun _=>.one .unk
 | i,a::r=>upd (q0k (i+1) r) i a
def z4l:List Tmp->List AV->Env->Env
 | t::ts,a::r,ρ=>z4l ts r (upd ρ t a)
 | _,_,ρ=>ρ
structure DefI where
 g:FuncId
 X:TypeId
 vs:List SV
def q2d:SV->Option Value
 | .nils=>some (.slice none 0 0)
 | .sc (.int k) n=>some (.int k n)
 | .sc .bool b=>some (.bool b)
 | _=>none
def L9 (lo:Nat->Bool):List (Nat×Nat)->List SV->Heap->Option Heap
 | [],[],h=>some h
 | (id,off)::r,s::vs,h=>(match h id,q2d s with
  | .cells l,some _=>cond (Nat.blt off l.length&&!lo id) (L9 lo r vs (upd h id (.cells (l.set off s)))) none
  | _,_=>none)
 | _,_,_=>none
def z6i:Code->Option (Array Oper×Oper×Oper×Nat)
 | .region _ ops false=>(match ops.toList with
  | [mk,df]=>(match mk.dst,df.op,df.guard,df.dst with
   | some d,.defer { callee:=.value (.tmp x),args,.. },none,none=>cond (Nat.beq x d&&args.isEmpty) (some (ops,mk,df,d)) none
   | _,_,_,_=>none)
  | _=>none)
 | _=>none
def j11:List ResultVar->List Nat
 | []=>[]
 | .tmp _::r=>j11 r
 | .cell a _::r=>a::j11 r
def q1e {R:Type} (C:Ctx) (fn:Func) (st:St) (K:AV->Heap->Option R):Option R :=
 q03 C st fn.results.toList fun avs=>cond (avs.all z2q) (K (q1z avs) st.h) none
def q3k {R:Type} (lo:Nat->Bool) (X:TypeId) (h:Heap) (K:AV->Heap->Option R):Option R:=match h C0 with
 | .fresh=>cond (!lo C0) (K (.one (.pan X)) (upd h C0 (K5 X))) none
 | _=>none
def y4z {R:Type} (C:Ctx) (fn:Func) (di:DefI) (caps:List (Nat×Nat)) (K:AV->Heap->Option R) (x:XK) (st:St):Option R:=match x with
 | .ex _=>none
 | .pan Y=>cond (Nat.beq Y di.X) (match L9 st.lo caps di.vs st.h with
  | some h=>q1e C fn { st with h:=h } K
  | none=>none) none
 | _=>q1e C fn st K
noncomputable def z0m {R:Type} (C:Ctx) (ib:Nat) (fn:Func) (di:DefI) (K:AV->Heap->Option R):Code->Ann->St->Option R
 | .seq a b,.seq p q,st=>(match z6i a with
  | some (ops,mk,_,d)=>Q1 C (z97 st.h ib ops) ops none [mk] st [] none fun st1 _ pj=>cond pj.isNone (match st1.ρ d with
   | .one (.fn f caps)=>cond (Nat.beq f di.g&&Nat.beq caps.length di.vs.length) (J1 C ib b q R { st1 with lt:=fun t=>st1.lt t||E4 (j11 fn.results.toList) t } (y4z C fn di caps K)) none
   | _=>none) none
  | none=>J1 C ib a p R st fun x st1=>match x with
   | .nrm=>z0m C ib fn di K b q st1
   | .ret=>q1e C fn st1 K
   | .pan X=>q3k st.lo X st1.h K
   | .ex _=>none)
 | _,_,_=>none
structure Tables where
 TI:TypeId->Option TInfo
 sp:FuncId->Option Spec
 inl:FuncId->Bool
 bd:FuncId->Nat->Option (Func×Ann)
 rd:Nat->Option (Ann×Ann)
 gl:L4
 pur:FuncId->Bool
 nb:Nat->Nat
 srt:FuncId->Bool
 srn:FuncId->Option Nat
 ifc:TypeId->Bool
 meth:TypeId->String->Option FuncId
 dp:Nat->Option KTy
 fz:Nat->List Nat
 dfr:FuncId->Option DefI:=fun _=>none
 ov:FuncId->Option (List AV->Heap->(Nat->Bool)->Nat->(R:Type)->(AV->Heap->Option R)->Option R):=fun _=>none
def Tables.ctx (T:Tables) (ic:q9r) (yc:q9v):Ctx:={ TI:=T.TI,spec:=T.sp,inl:=T.inl,icall:=ic,ycall:=yc,glob:=T.gl,pur:=T.pur,nb:=T.nb,srt:=T.srt,srn:=T.srn,ifc:=T.ifc,meth:=T.meth,dp:=T.dp,fz:=T.fz }
def q0t (x:XK):Bool×RS:=match x with
 | .nrm=>(true,.ready)
 | x=>(false,.left x)
structure Calls' where
 ic:q9r
 yc:q9v
noncomputable def J7 (T:Tables):Nat->Calls'
 | 0=>⟨fun _ _ _ _ _ _ _=>none,fun _ _ _ _ _ _=>none⟩
 | n+1 =>
  ⟨fun f args h lo ib R K=>match T.ov f with
    | some g=>g args h lo ib R K
    | none=>match T.bd f ib with
    | none=>none
    | some (fn,an)=>match fn.body with
     | none=>none
     | some c=>cond (Nat.ble args.length fn.ntmps)
      (match T.dfr f with
      | some di=>z0m (T.ctx (J7 T n).ic (J7 T n).yc) ib fn di K c an { ρ:=q0k 0 args,h,lt:=fun _=>false,lo,n:=fn.ntmps }
      | none=>J1 (T.ctx (J7 T n).ic (J7 T n).yc) ib c an R { ρ:=q0k 0 args,h,lt:=fun _=>false,lo,n:=fn.ntmps } fun k st=>match k with
       | .ex _=>none
       | .pan X=>q3k lo X st.h K
       | _=>q1e (T.ctx (J7 T n).ic (J7 T n).yc) fn st K) none,
   fun id args h lo R K=>match h id,T.rd id with
    | .lrec i .ready,some (an1,an2)=>cond (Nat.beq args.length i.ps.length&&i.ps.all (fun t=>Nat.blt t i.n)&&!lo id)
     (J1 (T.ctx (J7 T n).ic (J7 T n).yc) (T.nb (2*id+1)) i.assign an1 R { ρ:=z4l i.ps args i.ρ,h,lt:=fun _=>false,lo,n:=i.n } fun k st=>match k,st.h id with
      | .nrm,.lrec i1 .ready =>
       J1 (T.ctx (J7 T n).ic (J7 T n).yc) (T.nb (2*id+1)) i.body an2 R { st with h:=upd st.h id (.lrec i1 .busy) } fun k2 st2=>match st2.h id with
        | .lrec i2 .busy=>cond k2.plain (K (H8 (q0t k2).1) (upd st2.h id (.lrec i2 (q0t k2).2))) none
        | _=>none
      | _,_=>none) none
    | _,_=>none⟩
theorem j2v:∀ (as:List (Bool×Ty)) (i:Nat) (x:I8 as) (t:Nat),t<i\/i+as.length<=t->q17 i as x t=.one .unk
 | [],_,_,_,_=>rfl
 | (agg,ty)::r,i,x,t,h=>by
  simp only[List.length_cons]at h
  simp only[q17]
  rw[A0 _ _ (by omega)]
  exact j2v r (i+1) x.2 t (by omega)
theorem j2w {κ:A2} {h:Heap} {w:World}:∀ (as:List (Bool×Ty)) (vals:List Value) (x:I8 as) (i:Nat),P9 w (A3 L κ h w) as vals x->vals.length=as.length /\
  ∀ (j:Nat) (v:Value),vals[j]? = some v->RepAV L κ h w (q17 i as x (i+j)) v
 | [],[],_,_,_=>⟨rfl,fun j v hj=>by simp at hj⟩
 | [],_::_,_,_,hr=>hr.elim
 | _::_,[],_,_,hr=>hr.elim
 | (agg,t)::r,v::vs,x,i,hr=>by
  obtain⟨h1,h2⟩:=hr
  obtain⟨i1,i2⟩:=j2w r vs x.2 (i+1) h2
  refine⟨by simp[i1],fun j u hj=>?_⟩
  simp only[q17]
  cases j with
  | zero =>
   simp at hj;subst hj
   show RepAV L κ h w (upd (q17 (i+1) r x.snd) i (j2s agg t x.fst) i) v
   rw[A1]
   cases agg with
   | false=>exact h1
   | true =>
    obtain⟨cs,c1,c2,c3,c4⟩:=h1
    refine⟨cs,c1,by rw[c2,R2],fun k s c hk hck=>?_⟩
    obtain⟨v',v1,v2⟩:=T2 t _ x.1 c4 k s hk
    rw[hck]at v1;cases v1;exact v2
  | succ j =>
   rw[A0 _ _ (by omega),show i+(j+1)=i+1+j from by omega]
   exact i2 j u (by simpa using hj)
theorem j2t {as:List (Bool×Ty)} {x:I8 as} {vals:List Value} {w:World} {n:Nat} (hL:∀ b,L b->b<w.heap.size) (hr:P9 w (fun b=>b<w.heap.size/\¬ L b) as vals x) (hn:as.length<=n) :
  Sim P L w ⟨w.heap.size,[]⟩ none (fun _=>none) (z00 as x n) { tmps:=vals.toArray++Array.replicate (n-vals.toArray.size) undef,defers:=[] } w:=by
 have hmono:P9 w (A3 L (fun _=>none) E7 w) as vals x:=by
  have key:∀ (as:List (Bool×Ty)) (vals:List Value) (x:I8 as),P9 w (fun b=>b<w.heap.size/\¬ L b) as vals x->P9 w (A3 L (fun _=>none) E7 w) as vals x:=by
   intro as
   induction as with
   | nil=>intro vals x h;cases vals<;>exact h
   | cons a r ih =>
    intro vals x h
    cases vals with
    | nil=>exact h
    | cons v vs =>
     obtain⟨agg,t⟩:=a
     obtain⟨h1,h2⟩:=h
     have hf:∀ b,(b<w.heap.size/\¬ L b)->A3 L (fun _=>none) E7 w b/\w.heap[b]? = w.heap[b]?:=fun b hb=>⟨⟨hb.1,hb.2,fun _ _ _ h=>by cases h⟩,rfl⟩
     refine⟨?_,ih vs x.2 h2⟩
     cases agg with
     | false=>exact⟨h1.1,h1.2.1,RepAt.mono hf t _ _ h1.2.2⟩
     | true=>obtain⟨cs,c1,c2,c3,c4⟩:=h1;exact⟨cs,c1,c2,c3,RepAt.mono hf t _ _ c4⟩
  exact key as vals x hr
 obtain⟨h1,h2⟩:=j2w as vals x 0 hmono
 refine⟨by simp[z00];omega,fun t=>?_,j6u hL,MarksOK.nil (Nat.le_refl _),fun l hl=>by cases hl⟩
 by_cases ht:t<vals.length
 ·have:=h2 t vals[t] (List.getElem?_eq_getElem ht)
  rw[Nat.zero_add]at this
  have hg:(vals.toArray++Array.replicate (n-vals.toArray.size) undef).getD t undef=vals[t]:=by
   simp[Array.getD_eq_getD_getElem?,Array.getElem?_append,ht]
  show RepAV L _ _ _ (q17 0 as x t) _
  rw[hg];exact this
 ·show RepAV L _ _ _ (q17 0 as x t) _
  rw[j2v as 0 x t (by omega)]
  trivial
def q41 (a:Act):ResultVar->Sem Value
 | .tmp t=>pure (a.tmps.getD t undef)
 | .cell c t=>do loadVar t (<-asAddr (a.tmps.getD c undef))
theorem j6g {a:Act} {w:World} {x:ResultVar} {l:List ResultVar} {v:Value} {vs:List Value} (h1:(q41 a x).run P w=.ok v w) (h2:(l.mapM (q41 a)).run P w=.ok vs w):((x::l).mapM (q41 a)).run P w=.ok (v::vs) w:=by
 rw[List.mapM_cons]
 simp[h1,h2]
theorem q5v {R:Type} {C:Ctx} (hti:∀ t ti,C.TI t=some ti->ti.OK P t) {st:St}:∀ (rs:List ResultVar) (K:List AV->Option R) (z:R),q03 C st rs K=some z ->
  ∃ avs,K avs=some z/\∀ κ a w,q29 L κ st.h w st.ρ a->HeapOK L w0 κ st.h w->∃ vals:List Value,(rs.mapM (q41 a)).run P w=.ok vals w/\vals.length=avs.length/\vals.length=rs.length /\
   ∀ (i:Nat) (av:AV) (v:Value),avs[i]? = some av->vals[i]? = some v->RepAV L κ st.h w av v
 | [],K,z,he=>⟨[],he,fun κ a w _ _=>⟨[],rfl,rfl,rfl,fun i av v h=>by simp at h⟩⟩
 | .tmp t::r,K,z,he=>by
  obtain⟨avs,h1,h2⟩:=q5v hti r _ z he
  refine⟨_,h1,fun κ a w hev ok=>?_⟩
  obtain⟨vals,g1,g2,g3,g4⟩:=h2 κ a w hev ok
  refine⟨a.tmps.getD t undef::vals,?_,by simp[g2],by simp[g3],fun i av v hi hv=>?_⟩
  ·exact j6g rfl g1
  ·cases i with
   | zero=>simp at hi hv;subst hi;subst hv;simpa using hev t
   | succ i=>exact g4 i av v (by simpa using hi) (by simpa using hv)
 | .cell c T::r,K,z,he=>by
  simp only[q03]at he
  split at he
  ·rename_i ti id off hT hc
   split at he
   ·rename_i l hid
    obtain⟨av0,p1,p2⟩:=q5j (L:=L) (hti T ti hT) he
    obtain⟨avs,h1,h2⟩:=q5v hti r _ z p1
    refine⟨_,h1,fun κ a w hev ok=>?_⟩
    obtain⟨vals,g1,g2,g3,g4⟩:=h2 κ a w hev ok
    have hxr:=hev c
    rw[hc]at hxr
    obtain⟨_,b,c',hk,hv⟩:=hxr
    have hob:=ok.obj id
    rw[hid]at hob
    obtain⟨b',c'',cs,ty,hk',hheap,hcs⟩:=hob
    rw[hk]at hk';simp at hk';obtain⟨rfl,rfl⟩:=hk'
    obtain⟨v,hv1,hv2⟩:=p2 κ st.h w b 0 (j3j hheap hcs)
    rw[Nat.zero_add]at hv1
    refine⟨v::vals,?_,by simp[g2],by simp[g3],fun i av v' hi hv'=>?_⟩
    ·refine j6g ?_ g1
     simp[q41,hv,asAddr,hv1]
    ·cases i with
     | zero=>simp at hi hv';subst hi;subst hv';exact hv2
     | succ i=>exact g4 i av v' (by simpa using hi) (by simpa using hv')
   ·cases he
  ·cases he
end Go.Abs
