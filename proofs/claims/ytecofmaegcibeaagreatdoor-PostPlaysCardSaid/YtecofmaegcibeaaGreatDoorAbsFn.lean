/- The engine, part 19: functions. -/
import Derived.Test.YtecofmaegcibeaaGreatDoorAbsCode2
namespace Go.Abs
open Go Go.RowKit
variable {P:Program} {L:Nat->Prop} {w0:World}
def z9w (agg:Bool) (t:Ty) (x:t.den):AV:=match agg with
 | true=>.agg (H1 t x)
 | false=>.one (.sc t x)
def q34:Nat->(as:List (Bool×Ty))->F9 as->Env
 | _,[],_=>λ_=>.one .unk
 | i,(agg,t)::r,x=>upd (q34 (i+1) r x.2) i (z9w agg t x.1)
def q1g:Heap:=λid=>cond (Nat.ble q53 id) .kid .fresh
theorem v7t (id:Nat) (h:q53<=id):q1g id=.kid:=by unfold q1g;rw[bg h];rfl
variable {w:World}
theorem y2e (hL:∀b,L b->b<w.heap.size):HeapOK L w (λ_=>none) q1g w where
 obj id:=by unfold q1g;cases Nat.ble q53 id<;>trivial
 inj _ _ _ _ _ _ _ h:=by cases h
 own _ _ _ _ h:=by cases h
 below:=Below.refl _ _
 outer b hb:=⟨hL b hb,λ_ _ _ h=>by cases h⟩
 kids:=v7t
def q0x:Nat->List Bool->(as:List (Bool×Ty))->F9 as->Env
 | i,[],as,x=>q34 i as x
 | _,_::_,[],_=>λ_=>.one .unk
 | i,b::rf,(agg,t)::r,x=>upd (q0x (i+1) rf r x.2) i (match b with
  | true=>.one (.ro t x.1 0)
  | false=>z9w agg t x.1)
def z9x (as:List (Bool×Ty)) (x:F9 as) (n:Nat):St:={ ρ:=q34 0 as x,h:=q1g,lt:=λ_=>false,lo:=λ_=>false,n }
section
variable {R:Type}
def q2n (C:Ctx) (st:St):List ResultVar->(List AV->Option R)->Option R
 | [],K=>K []
 | .tmp t::r,K=>q2n C st r λl=>K (st.ρ t::l)
 | .cell a T::r,K=>(match C.TI T,st.ρ a with
  | some ti,.one (.ptr id off)=>(match st.h id with
   | .cells l=>U1 ti l off λav=>q2n C st r λl=>K (av::l)
   | _=>none)
  | _,_=>none)
def Q1 (h:Heap):(rs:List RTy)->List AV->(J2 rs->List Nat->Option Nat->Option R)->Option R
 | [],[],K=>K () [] none
 | .val agg t::r,v::vs,K=>(match G6 h [(agg,t)] [v]with
  | some (y,ids0)=>Q1 h r vs λys ids o=>K (y.1,ys) (ids0++ids) o
  | none=>none)
 | .own _ _::r,.one .nils::vs,K=>Q1 h r vs λys ids o=>(match o with
  | none=>K ([],ys) ids none
  | some _=>none)
 | .own e t::r,.one (.own id)::vs,K=>(match h id with
  | .arr e' t' l=>(match H0 (.list t') (.list t) l with
   | some l'=>cond (Nat.beq e' e&&Nat.beq (T9 r) 0) (Q1 h r vs λys ids o=>(match o with
    | none=>K (l',ys) ids (some id)
    | some _=>none)) none
   | none=>none)
  | _=>none)
 | _,_,_=>none
end
noncomputable def q66 (C:Ctx) (fn:Func) (an:Ann) (rs:List RTy) (st0:St):Option (J2 rs) :=
 match fn.body with
 | none=>none
 | some c=>J9 C 0 c an (J2 rs) st0 λk st=>match k with
  | .ex _=>none
  | .pan _=>none
  | _=>q2n C st fn.results.toList λavs=>Q1 st.h rs avs λy ids o=>cond (match o with
   | some id=>!E2 ids id
   | none=>true) (some y) none
noncomputable def v43 (C:Ctx) (fn:Func) (an:Ann) (as:List (Bool×Ty)) (rs:List RTy) (x:F9 as):Option (J2 rs) :=
 cond (Nat.ble as.length fn.ntmps) (q66 C fn an rs (z9x as x fn.ntmps)) none
noncomputable def j8x (C:Ctx) (fn:Func) (an:Ann) (rf:List Bool) (as:List (Bool×Ty)) (rs:List RTy) (x:F9 as):Option (J2 rs) :=
 cond (Nat.ble as.length fn.ntmps) (q66 C fn an rs { ρ:=q0x 0 rf as x,h:=q1g,lt:=λ_=>false,lo:=λ_=>false,n:=fn.ntmps }) none
def z6a (a:AV) (n:Nat):St:={ ρ:=upd (λ_=>.one .unk) 0 a,h:=q1g,lt:=λ_=>false,lo:=λ_=>false,n }
def y2h:AV->Bool
 | .tup _=>false
 | _=>true
def j8d:AV->Bool×List SV
 | .one s=>(false,[s])
 | .agg l=>(true,l)
 | .tup _=>(false,[])
def z84:List AV->AV
 | [a]=>a
 | l=>.tup (l.map j8d)
def q2e:Nat->List AV->Env
 | _,[]=>λ_=>.one .unk
 | i,a::r=>upd (q2e (i+1) r) i a
def z88:List Tmp->List AV->Env->Env
 | t::ts,a::r,ρ=>z88 ts r (upd ρ t a)
 | _,_,ρ=>ρ
structure DefI where
 g:FuncId
 X:TypeId
 vs:List SV
def q37:SV->Option Value
 | .nils=>some (.slice none 0 0)
 | .sc (.int k) n=>some (.int k n)
 | .sc .bool b=>some (.bool b)
 | _=>none
def M9 (lo:Nat->Bool):List (Nat×Nat)->List SV->Heap->Option Heap
 | [],[],h=>some h
 | (id,off)::r,s::vs,h=>(match h id,q37 s with
  | .cells l,some _=>cond (Nat.blt off l.length&&!lo id) (M9 lo r vs (upd h id (.cells (l.set off s)))) none
  | _,_=>none)
 | _,_,_=>none
def j0o:Code->Option (Array Oper×Oper×Oper×Nat)
 | .region _ ops false=>(match ops.toList with
  | [mk,df]=>(match mk.dst,df.op,df.guard,df.dst with
   | some d,.defer { callee:=.value (.tmp x),args,.. },none,none=>cond (Nat.beq x d&&args.isEmpty) (some (ops,mk,df,d)) none
   | _,_,_,_=>none)
  | _=>none)
 | _=>none
def j4g:List ResultVar->List Nat
 | []=>[]
 | .tmp _::r=>j4g r
 | .cell a _::r=>a::j4g r
def q27 {R:Type} (C:Ctx) (fn:Func) (st:St) (K:AV->Heap->Option R):Option R :=
 q2n C st fn.results.toList λavs=>cond (avs.all y2h) (K (z84 avs) st.h) none
def z3w {R:Type} (lo:Nat->Bool) (X:TypeId) (h:Heap) (K:AV->Heap->Option R):Option R:=match h D1 with
 | .fresh=>cond (!lo D1) (K (.one (.pan X)) (upd h D1 (N8 X))) none
 | _=>none
def v3u {R:Type} (C:Ctx) (fn:Func) (di:DefI) (caps:List (Nat×Nat)) (K:AV->Heap->Option R) (x:XK) (st:St):Option R:=match x with
 | .ex _=>none
 | .pan Y=>cond (Nat.beq Y di.X) (match M9 st.lo caps di.vs st.h with
  | some h=>q27 C fn { st with h:=h } K
  | none=>none) none
 | _=>q27 C fn st K
noncomputable def z3x {R:Type} (C:Ctx) (ib:Nat) (fn:Func) (di:DefI) (K:AV->Heap->Option R):Code->Ann->St->Option R
 | .seq a b,.seq p q,st=>(match j0o a with
  | some (ops,mk,_,d)=>R7 C (j2f st.h ib ops) ops none [mk] st [] none λst1 _ pj=>cond pj.isNone (match st1.ρ d with
   | .one (.fn f caps)=>cond (Nat.beq f di.g&&Nat.beq caps.length di.vs.length) (J9 C ib b q R { st1 with lt:=λt=>st1.lt t||E2 (j4g fn.results.toList) t } (v3u C fn di caps K)) none
   | _=>none) none
  | none=>J9 C ib a p R st λx st1=>match x with
   | .nrm=>z3x C ib fn di K b q st1
   | .ret=>q27 C fn st1 K
   | .pan X=>z3w st.lo X st1.h K
   | .ex _=>none)
 | _,_,_=>none
structure Tables where
 TI:TypeId->Option TInfo
 sp:FuncId->Option Spec
 inl:FuncId->Bool
 bd:FuncId->Nat->Option (Func×Ann)
 rd:Nat->Option (Ann×Ann)
 gl:W5
 pur:FuncId->Bool
 nb:Nat->Nat
 srt:FuncId->Bool
 srn:FuncId->Option Nat
 ifc:TypeId->Bool
 meth:TypeId->String->Option FuncId
 dp:Nat->Option OT
 pre:Nat->List (Nat×(Nat×Nat))
 dfr:FuncId->Option DefI:=λ_=>none
 ov:FuncId->Option (List AV->Heap->(Nat->Bool)->Nat->(R:Type)->(AV->Heap->Option R)->Option R):=λ_=>none
def Tables.ctx (T:Tables) (ic:z2s) (yc:z2x):Ctx:={ TI:=T.TI,spec:=T.sp,inl:=T.inl,icall:=ic,ycall:=yc,glob:=T.gl,pur:=T.pur,nb:=T.nb,srt:=T.srt,srn:=T.srn,ifc:=T.ifc,meth:=T.meth,dp:=T.dp,pre:=T.pre }
def q1s (x:XK):Bool×RS:=match x with
 | .nrm=>(true,.ready)
 | x=>(false,.left x)
structure Calls' where
 ic:z2s
 yc:z2x
noncomputable def L3 (T:Tables):Nat->Calls'
 | 0=>⟨λ_ _ _ _ _ _ _=>none,λ_ _ _ _ _ _=>none⟩
 | n+1 =>
  ⟨λf args h lo ib R K=>match T.ov f with
    | some g=>g args h lo ib R K
    | none=>match T.bd f ib with
    | none=>none
    | some (fn,an)=>match fn.body with
     | none=>none
     | some c=>cond (Nat.ble args.length fn.ntmps)
      (match T.dfr f with
      | some di=>z3x (T.ctx (L3 T n).ic (L3 T n).yc) ib fn di K c an { ρ:=q2e 0 args,h,lt:=λ_=>false,lo,n:=fn.ntmps }
      | none=>J9 (T.ctx (L3 T n).ic (L3 T n).yc) ib c an R { ρ:=q2e 0 args,h,lt:=λ_=>false,lo,n:=fn.ntmps } λk st=>match k with
       | .ex _=>none
       | .pan X=>z3w lo X st.h K
       | _=>q27 (T.ctx (L3 T n).ic (L3 T n).yc) fn st K) none,
   λid args h lo R K=>match h id,T.rd id with
    | .lrec i .ready,some (an1,an2)=>cond (Nat.beq args.length i.ps.length&&i.ps.all (λt=>Nat.blt t i.n)&&!lo id)
     (J9 (T.ctx (L3 T n).ic (L3 T n).yc) (T.nb (2*id+1)) i.assign an1 R { ρ:=z88 i.ps args i.ρ,h,lt:=λ_=>false,lo,n:=i.n } λk st=>match k,st.h id with
      | .nrm,.lrec i1 .ready =>
       J9 (T.ctx (L3 T n).ic (L3 T n).yc) (T.nb (2*id+1)) i.body an2 R { st with h:=upd st.h id (.lrec i1 .busy) } λk2 st2=>match st2.h id with
        | .lrec i2 .busy=>cond k2.plain (K (J4 (q1s k2).1) (upd st2.h id (.lrec i2 (q1s k2).2))) none
        | _=>none
      | _,_=>none) none
    | _,_=>none⟩
theorem j7a:∀(as:List (Bool×Ty)) (i:Nat) (x:F9 as) (t:Nat),t<i\/i+as.length<=t->q34 i as x t=.one .unk
 | [],_,_,_,_=>rfl
 | (agg,ty)::r,i,x,t,h=>by
  simp only[ai]at h;simp only[q34];rw[A0 _ _ (by omega)];exact j7a r (i+1) x.2 t (by omega)
theorem j00 {κ:A6} {h:Heap} {w:World}:∀(as:List (Bool×Ty)) (vals:List Value) (x:F9 as) (i:Nat),q0u w (A4 L κ h w) as vals x->vals.length=as.length /\
  ∀(j:Nat) (v:Value),vals[j]? = some v->RepAV L κ h w (q34 i as x (i+j)) v
 | [],[],_,_,_=>⟨rfl,λj v hj=>by simp at hj⟩
 | [],_::_,_,_,hr=>hr.elim
 | _::_,[],_,_,hr=>hr.elim
 | (agg,t)::r,v::vs,x,i,hr=>by
  obtain⟨h1,h2⟩:=hr;obtain⟨i1,i2⟩:=j00 r vs x.2 (i+1) h2;refine⟨by simp[i1],λj u hj=>?_⟩;simp only[q34];cases j with
  | zero =>
   simp at hj;subst hj;show RepAV L κ h w (upd (q34 (i+1) r x.snd) i (z9w agg t x.fst) i) v;rw[A2];cases agg with
   | false=>exact h1
   | true =>
    obtain⟨cs,c1,c2,c3,c4⟩:=h1;refine⟨cs,c1,by rw[c2,q16],λk s c hk hck=>?_⟩;obtain⟨v',v1,v2⟩:=q26 t _ x.1 c4 k s hk;rw[hck]at v1;cases v1;exact v2
  | succ j =>
   rw[A0 _ _ (by omega),show i+(j+1)=i+1+j from by omega];exact i2 j u (by simpa using hj)
theorem j79:∀(rf:List Bool) (as:List (Bool×Ty)) (i:Nat) (x:F9 as) (t:Nat),t<i\/i+as.length<=t->q0x i rf as x t=.one .unk
 | [],as,i,x,t,h=>j7a as i x t h
 | _::_,[],_,_,_,_=>rfl
 | b::rf,(agg,ty)::r,i,x,t,h=>by
  simp only[ai]at h;simp only[q0x];rw[A0 _ _ (by omega)];exact j79 rf r (i+1) x.2 t (by omega)
theorem z9z {κ:A6} {h:Heap} {w:World} (hst:∀b,b<w.heap.size->q08 κ h w b):∀(rf:List Bool) (as:List (Bool×Ty)) (vals:List Value) (x:F9 as) (i:Nat),W4 w (A4 L κ h w) rf as vals x->vals.length=as.length /\
  ∀(j:Nat) (v:Value),vals[j]? = some v->RepAV L κ h w (q0x i rf as x (i+j)) v
 | [],as,vals,x,i,hr=>j00 as vals x i hr
 | true::_,[],_,_,_,hr=>hr.elim
 | false::_,[],_,_,_,hr=>hr.elim
 | true::_,_::_,[],_,_,hr=>hr.elim
 | false::_,_::_,[],_,_,hr=>hr.elim
 | true::rf,(agg,t)::r,v::vs,x,i,hr=>by
  obtain⟨h1,h2⟩:=hr;obtain⟨i1,i2⟩:=z9z hst rf r vs x.2 (i+1) h2;refine⟨by simp[i1],λj u hj=>?_⟩;simp only[q0x];cases j with
  | zero =>
   simp at hj;subst hj;show RepAV L κ h w (upd _ i _ i) _;rw[A2];obtain⟨b,o,g1,g2,g3⟩:=h1;exact⟨b,o,g1,hst b g2,g3⟩
  | succ j =>
   rw[A0 _ _ (by omega),show i+(j+1)=i+1+j from by omega];exact i2 j u (by simpa using hj)
 | false::rf,(agg,t)::r,v::vs,x,i,hr=>by
  obtain⟨h1,h2⟩:=hr;obtain⟨i1,i2⟩:=z9z hst rf r vs x.2 (i+1) h2;refine⟨by simp[i1],λj u hj=>?_⟩;simp only[q0x];cases j with
  | zero =>
   simp at hj;subst hj;show RepAV L κ h w (upd _ i _ i) _;rw[A2];have:=(j00 (L:=L) (κ:=κ) (h:=h) [(agg,t)] [v] (x.1,()) i ⟨h1,trivial⟩).2 0 v rfl;change RepAV L κ h w (upd _ i _ i) _ at this;rw[A2]at this;exact this
  | succ j =>
   rw[A0 _ _ (by omega),show i+(j+1)=i+1+j from by omega];exact i2 j u (by simpa using hj)
theorem v1u {A B:Nat->Prop} (hf:∀b,A b->B b/\w.heap[b]? = w.heap[b]?):∀(rf:List Bool) (as:List (Bool×Ty)) (vals:List Value) (x:F9 as),W4 w A rf as vals x->W4 w B rf as vals x:=by
 have hv:∀agg t v x,RepVal w A agg t v x->RepVal w B agg t v x:=λagg t v x h1=>by
  cases agg with
  | false=>exact⟨h1.1,h1.2.1,RepAt.mono hf t _ _ h1.2.2⟩
  | true=>obtain⟨cs,c1,c2,c3,c4⟩:=h1;exact⟨cs,c1,c2,c3,RepAt.mono hf t _ _ c4⟩
 have h0:∀(as:List (Bool×Ty)) (vals:List Value) (x:F9 as),q0u w A as vals x->q0u w B as vals x:=by
  intro as
  induction as with
  | nil=>intro vals x h;cases vals<;>exact h
  | cons a r ih =>
   intro vals x h;cases vals with
   | nil=>exact h
   | cons v vs=>exact⟨hv _ _ _ _ h.1,ih vs x.2 h.2⟩
 intro rf
 induction rf with
 | nil=>exact h0
 | cons b rf ih =>
  intro as vals x h;cases as with
  | nil=>cases b<;>exact h.elim
  | cons a r =>
   cases vals with
   | nil=>cases b<;>exact h.elim
   | cons v vs =>
    cases b with
    | true =>
     obtain⟨⟨b,o,g1,g2,g3⟩,h2⟩:=h;exact⟨⟨b,o,g1,g2,RepAt.mono hf _ _ _ g3⟩,ih r vs x.2 h2⟩
    | false=>exact⟨hv _ _ _ _ h.1,ih r vs x.2 h.2⟩
theorem j76 {rf:List Bool} {as:List (Bool×Ty)} {x:F9 as} {vals:List Value} {n:Nat} (hL:∀b,L b->b<w.heap.size) (hr:W4 w (λb=>b<w.heap.size/\¬L b) rf as vals x) (hn:as.length<=n) :
  Sim P L w ⟨w.heap.size,[]⟩ none (λ_=>none) { ρ:=q0x 0 rf as x,h:=q1g,lt:=λ_=>false,lo:=λ_=>false,n } { tmps:=vals.toArray++Array.replicate (n-vals.toArray.size) undef,defers:=[] } w:=by
 have hmono:=v1u (w:=w) (A:=λb=>b<w.heap.size/\¬L b) (B:=A4 L (λ_=>none) q1g w) (λb hb=>⟨⟨hb.1,hb.2,λ_ _ _ h=>by cases h⟩,rfl⟩) rf as vals x hr;obtain⟨h1,h2⟩:=z9z (λb hb=>⟨hb,λ_ _ _ h=>by cases h⟩) rf as vals x 0 hmono;refine⟨by simp;omega,λt=>?_,y2e hL,MarksOK.nil (ax _),λl hl=>by cases hl⟩;by_cases ht:t<vals.length
 ·have:=h2 t vals[t] (af ht);rw[cA]at this;have hg:(vals.toArray++Array.replicate (n-vals.toArray.size) undef).getD t undef=vals[t]:=by
   simp[aA,dZ,ht]
  show RepAV L _ _ _ (q0x 0 rf as x t) _;rw[hg];exact this
 ·show RepAV L _ _ _ (q0x 0 rf as x t) _;rw[j79 rf as 0 x t (by omega)];trivial
theorem j75 {as:List (Bool×Ty)} {x:F9 as} {vals:List Value} {n:Nat} (hL:∀b,L b->b<w.heap.size) (hr:q0u w (λb=>b<w.heap.size/\¬L b) as vals x) (hn:as.length<=n) :
  Sim P L w ⟨w.heap.size,[]⟩ none (λ_=>none) (z9x as x n) { tmps:=vals.toArray++Array.replicate (n-vals.toArray.size) undef,defers:=[] } w :=
 j76 (rf:=[]) hL hr hn
def q5b (a:Act):ResultVar->Sem Value
 | .tmp t=>pure (a.tmps.getD t undef)
 | .cell c t=>do loadVar t (<-asAddr (a.tmps.getD c undef))
theorem y1t {a:Act} {x:ResultVar} {l:List ResultVar} {v:Value} {vs:List Value} (h1:(q5b a x).run P w=.ok v w) (h2:(l.mapM (q5b a)).run P w=.ok vs w):((x::l).mapM (q5b a)).run P w=.ok (v::vs) w:=by
 rw[fe];simp[h1,h2]
theorem z1i {R:Type} {C:Ctx} (hti:∀t ti,C.TI t=some ti->ti.OK P t) {st:St}:∀(rs:List ResultVar) (K:List AV->Option R) (z:R),q2n C st rs K=some z ->
  ∃avs,K avs=some z/\∀κ a w,q32 L κ st.h w st.ρ a->HeapOK L w0 κ st.h w->∃vals:List Value,(rs.mapM (q5b a)).run P w=.ok vals w/\vals.length=avs.length/\vals.length=rs.length /\
   ∀(i:Nat) (av:AV) (v:Value),avs[i]? = some av->vals[i]? = some v->RepAV L κ st.h w av v
 | [],K,z,he=>⟨[],he,λκ a w _ _=>⟨[],rfl,rfl,rfl,λi av v h=>by simp at h⟩⟩
 | .tmp t::r,K,z,he=>by
  obtain⟨avs,h1,h2⟩:=z1i hti r _ z he;refine⟨_,h1,λκ a w hev ok=>?_⟩;obtain⟨vals,g1,g2,g3,g4⟩:=h2 κ a w hev ok;refine⟨a.tmps.getD t undef::vals,?_,by simp[g2],by simp[g3],λi av v hi hv=>?_⟩
  ·exact y1t rfl g1
  ·cases i with
   | zero=>simp at hi hv;subst hi;subst hv;simpa using hev t
   | succ i=>exact g4 i av v (by simpa using hi) (by simpa using hv)
 | .cell c T::r,K,z,he=>by
  simp only[q2n]at he;split at he
  ·rename_i ti id off hT hc;split at he
   ·rename_i l hid;obtain⟨av0,p1,p2⟩:=q70 (L:=L) (hti T ti hT) he;obtain⟨avs,h1,h2⟩:=z1i hti r _ z p1;refine⟨_,h1,λκ a w hev ok=>?_⟩;obtain⟨vals,g1,g2,g3,g4⟩:=h2 κ a w hev ok;have hxr:=hev c;rw[hc]at hxr;obtain⟨_,b,c',hk,hv⟩:=hxr;have hob:=ok.obj id;rw[hid]at hob;obtain⟨b',c'',cs,ty,hk',hheap,hcs⟩:=hob;rw[hk]at hk';simp at hk';obtain⟨rfl,rfl⟩:=hk';obtain⟨v,hv1,hv2⟩:=p2 κ st.h w b 0 (j7t hheap hcs);rw[cA]at hv1;refine⟨v::vals,?_,by simp[g2],by simp[g3],λi av v' hi hv'=>?_⟩
    ·refine y1t ?_ g1;simp[q5b,hv,asAddr,hv1]
    ·cases i with
     | zero=>simp at hi hv';subst hi;subst hv';exact hv2
     | succ i=>exact g4 i av v' (by simpa using hi) (by simpa using hv')
   ·cases he
  ·cases he
end Go.Abs
