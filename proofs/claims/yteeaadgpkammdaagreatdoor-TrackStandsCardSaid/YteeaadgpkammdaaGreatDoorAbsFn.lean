/- The engine, part 19: functions. -/
import Derived.Test.YteeaadgpkammdaaGreatDoorAbsCode2
namespace Go.Abs
open Go Go.RowKit
variable {P:Program} {L:Nat->Prop} {w0:World}
def j22 (agg:Bool) (t:Ty) (x:t.den):AV:=match agg with
 | true=>.agg (G1 t x)
 | false=>.one (.sc t x)
def q0t:Nat->(as:List (Bool×Ty))->I4 as->Env
 | _,[],_=>fun _=>.one .unk
 | i,(agg,t)::r,x=>upd (q0t (i+1) r x.2) i (j22 agg t x.1)
def q0c:Heap:=fun id=>cond (Nat.ble q15 id) .kid .fresh
theorem y8t (id:Nat) (h:q15<=id):q0c id=.kid:=by unfold q0c;rw[Nat.ble_eq_true_of_le h];rfl
theorem j6g {w:World} (hL:∀ b,L b->b<w.heap.size):HeapOK L w (fun _=>none) q0c w where
 obj id:=by unfold q0c;cases Nat.ble q15 id<;>trivial
 inj _ _ _ _ _ _ _ h:=by cases h
 own _ _ _ _ h:=by cases h
 below:=Below.refl _ _
 outer b hb:=⟨hL b hb,fun _ _ _ h=>by cases h⟩
 kids:=y8t
def q9v (as:List (Bool×Ty)) (x:I4 as) (n:Nat):St:={ ρ:=q0t 0 as x,h:=q0c,lt:=fun _=>false,lo:=fun _=>false,n }
section
variable {R:Type}
def q0k (C:Ctx) (st:St):List ResultVar->(List AV->Option R)->Option R
 | [],K=>K []
 | .tmp t::r,K=>q0k C st r fun l=>K (st.ρ t::l)
 | .cell a T::r,K=>(match C.TI T,st.ρ a with
  | some ti,.one (.ptr id off)=>(match st.h id with
   | .cells l=>q0g ti l off fun av=>q0k C st r fun l=>K (av::l)
   | _=>none)
  | _,_=>none)
def M8 (h:Heap):(rs:List RTy)->List AV->(I8 rs->List Nat->Option Nat->Option R)->Option R
 | [],[],K=>K () [] none
 | .val agg t::r,v::vs,K=>(match F5 h [(agg,t)] [v]with
  | some (y,ids0)=>M8 h r vs fun ys ids o=>K (y.1,ys) (ids0++ids) o
  | none=>none)
 | .own _ _::r,.one .nils::vs,K=>M8 h r vs fun ys ids o=>(match o with
  | none=>K ([],ys) ids none
  | some _=>none)
 | .own e t::r,.one (.own id)::vs,K=>(match h id with
  | .arr e' t' l=>(match G2 (.list t') (.list t) l with
   | some l'=>cond (Nat.beq e' e&&Nat.beq (P0 r) 0) (M8 h r vs fun ys ids o=>(match o with
    | none=>K (l',ys) ids (some id)
    | some _=>none)) none
   | none=>none)
  | _=>none)
 | _,_,_=>none
end
noncomputable def q6k (C:Ctx) (fn:Func) (an:Ann) (rs:List RTy) (st0:St):Option (I8 rs) :=
 match fn.body with
 | none=>none
 | some c=>J1 C 0 c an (I8 rs) st0 fun k st=>match k with
  | .ex _=>none
  | _=>q0k C st fn.results.toList fun avs=>M8 st.h rs avs fun y ids o=>cond (match o with
   | some id=>!D9 ids id
   | none=>true) (some y) none
noncomputable def j3n (C:Ctx) (fn:Func) (an:Ann) (as:List (Bool×Ty)) (rs:List RTy) (x:I4 as):Option (I8 rs) :=
 cond (Nat.ble as.length fn.ntmps) (q6k C fn an rs (q9v as x fn.ntmps)) none
def z2h (a:AV) (n:Nat):St:={ ρ:=upd (fun _=>.one .unk) 0 a,h:=q0c,lt:=fun _=>false,lo:=fun _=>false,n }
def z9g:AV->Bool
 | .tup _=>false
 | _=>true
def j36:AV->Bool×List SV
 | .one s=>(false,[s])
 | .agg l=>(true,l)
 | .tup _=>(false,[])
def q5b:List AV->AV
 | [a]=>a
 | l=>.tup (l.map j36)
def q09:Nat->List AV->Env
 | _,[]=>fun _=>.one .unk
 | i,a::r=>upd (q09 (i+1) r) i a
def z4g:List Tmp->List AV->Env->Env
 | t::ts,a::r,ρ=>z4g ts r (upd ρ t a)
 | _,_,ρ=>ρ
structure Tables where
 TI:TypeId->Option TInfo
 sp:FuncId->Option Spec
 inl:FuncId->Bool
 bd:FuncId->Nat->Option (Func×Ann)
 rd:Nat->Option (Ann×Ann)
 gl:T2
 pur:FuncId->Bool
 nb:Nat->Nat
 srt:FuncId->Bool
 srn:FuncId->Option Nat
 ifc:TypeId->Bool
 meth:TypeId->String->Option FuncId
 dp:Nat->Option KTy
 fz:Nat->List Nat
 ov:FuncId->Option (List AV->Heap->(Nat->Bool)->Nat->(R:Type)->(AV->Heap->Option R)->Option R):=fun _=>none
def Tables.ctx (T:Tables) (ic:q9m) (yc:q9o):Ctx:={ TI:=T.TI,spec:=T.sp,inl:=T.inl,icall:=ic,ycall:=yc,glob:=T.gl,pur:=T.pur,nb:=T.nb,srt:=T.srt,srn:=T.srn,ifc:=T.ifc,meth:=T.meth,dp:=T.dp,fz:=T.fz }
def q0m (x:XK):Bool×RS:=match x with
 | .nrm=>(true,.ready)
 | x=>(false,.left x)
structure Calls' where
 ic:q9m
 yc:q9o
noncomputable def K1 (T:Tables):Nat->Calls'
 | 0=>⟨fun _ _ _ _ _ _ _=>none,fun _ _ _ _ _ _=>none⟩
 | n+1 =>
  ⟨fun f args h lo ib R K=>match T.ov f with
    | some g=>g args h lo ib R K
    | none=>match T.bd f ib with
    | none=>none
    | some (fn,an)=>match fn.body with
     | none=>none
     | some c=>cond (Nat.ble args.length fn.ntmps)
      (J1 (T.ctx (K1 T n).ic (K1 T n).yc) ib c an R { ρ:=q09 0 args,h,lt:=fun _=>false,lo,n:=fn.ntmps } fun k st=>match k with
       | .ex _=>none
       | _=>q0k (T.ctx (K1 T n).ic (K1 T n).yc) st fn.results.toList fun avs=>cond (avs.all z9g) (K (q5b avs) st.h) none) none,
   fun id args h lo R K=>match h id,T.rd id with
    | .lrec i .ready,some (an1,an2)=>cond (Nat.beq args.length i.ps.length&&i.ps.all (fun t=>Nat.blt t i.n)&&!lo id)
     (J1 (T.ctx (K1 T n).ic (K1 T n).yc) (T.nb (2*id+1)) i.assign an1 R { ρ:=z4g i.ps args i.ρ,h,lt:=fun _=>false,lo,n:=i.n } fun k st=>match k,st.h id with
      | .nrm,.lrec i1 .ready =>
       J1 (T.ctx (K1 T n).ic (K1 T n).yc) (T.nb (2*id+1)) i.body an2 R { st with h:=upd st.h id (.lrec i1 .busy) } fun k2 st2=>match st2.h id with
        | .lrec i2 .busy=>K (H4 (q0m k2).1) (upd st2.h id (.lrec i2 (q0m k2).2))
        | _=>none
      | _,_=>none) none
    | _,_=>none⟩
theorem j25:∀ (as:List (Bool×Ty)) (i:Nat) (x:I4 as) (t:Nat),t<i\/i+as.length<=t->q0t i as x t=.one .unk
 | [],_,_,_,_=>rfl
 | (agg,ty)::r,i,x,t,h=>by
  simp only[List.length_cons]at h
  simp only[q0t]
  rw[A0 _ _ (by omega)]
  exact j25 r (i+1) x.2 t (by omega)
theorem j26 {κ:A3} {h:Heap} {w:World}:∀ (as:List (Bool×Ty)) (vals:List Value) (x:I4 as) (i:Nat),O3 w (A4 L κ h w) as vals x->vals.length=as.length /\
  ∀ (j:Nat) (v:Value),vals[j]? = some v->RepAV L κ h w (q0t i as x (i+j)) v
 | [],[],_,_,_=>⟨rfl,fun j v hj=>by simp at hj⟩
 | [],_::_,_,_,hr=>hr.elim
 | _::_,[],_,_,hr=>hr.elim
 | (agg,t)::r,v::vs,x,i,hr=>by
  obtain⟨h1,h2⟩:=hr
  obtain⟨i1,i2⟩:=j26 r vs x.2 (i+1) h2
  refine⟨by simp[i1],fun j u hj=>?_⟩
  simp only[q0t]
  cases j with
  | zero =>
   simp at hj;subst hj
   show RepAV L κ h w (upd (q0t (i+1) r x.snd) i (j22 agg t x.fst) i) v
   rw[A1]
   cases agg with
   | false=>exact h1
   | true =>
    obtain⟨cs,c1,c2,c3,c4⟩:=h1
    refine⟨cs,c1,by rw[c2,R6],fun k s c hk hck=>?_⟩
    obtain⟨v',v1,v2⟩:=W5 t _ x.1 c4 k s hk
    rw[hck]at v1;cases v1;exact v2
  | succ j =>
   rw[A0 _ _ (by omega),show i+(j+1)=i+1+j from by omega]
   exact i2 j u (by simpa using hj)
theorem j23 {as:List (Bool×Ty)} {x:I4 as} {vals:List Value} {w:World} {n:Nat} (hL:∀ b,L b->b<w.heap.size) (hr:O3 w (fun b=>b<w.heap.size/\¬ L b) as vals x) (hn:as.length<=n) :
  Sim P L w w.heap.size none (fun _=>none) (q9v as x n) { tmps:=vals.toArray++Array.replicate (n-vals.toArray.size) undef,defers:=[] } w:=by
 have hmono:O3 w (A4 L (fun _=>none) q0c w) as vals x:=by
  have key:∀ (as:List (Bool×Ty)) (vals:List Value) (x:I4 as),O3 w (fun b=>b<w.heap.size/\¬ L b) as vals x->O3 w (A4 L (fun _=>none) q0c w) as vals x:=by
   intro as
   induction as with
   | nil=>intro vals x h;cases vals<;>exact h
   | cons a r ih =>
    intro vals x h
    cases vals with
    | nil=>exact h
    | cons v vs =>
     obtain⟨agg,t⟩:=a
     obtain⟨h1,h2⟩:=h
     have hf:∀ b,(b<w.heap.size/\¬ L b)->A4 L (fun _=>none) q0c w b/\w.heap[b]? = w.heap[b]?:=fun b hb=>⟨⟨hb.1,hb.2,fun _ _ _ h=>by cases h⟩,rfl⟩
     refine⟨?_,ih vs x.2 h2⟩
     cases agg with
     | false=>exact⟨h1.1,h1.2.1,RepAt.mono hf t _ _ h1.2.2⟩
     | true=>obtain⟨cs,c1,c2,c3,c4⟩:=h1;exact⟨cs,c1,c2,c3,RepAt.mono hf t _ _ c4⟩
  exact key as vals x hr
 obtain⟨h1,h2⟩:=j26 as vals x 0 hmono
 refine⟨by simp[q9v];omega,fun t=>?_,j6g hL,MarksOK.nil (Nat.le_refl _),fun l hl=>by cases hl⟩
 by_cases ht:t<vals.length
 ·have:=h2 t vals[t] (List.getElem?_eq_getElem ht)
  rw[Nat.zero_add]at this
  have hg:(vals.toArray++Array.replicate (n-vals.toArray.size) undef).getD t undef=vals[t]:=by
   simp[Array.getD_eq_getD_getElem?,Array.getElem?_append,ht]
  show RepAV L _ _ _ (q0t 0 as x t) _
  rw[hg];exact this
 ·show RepAV L _ _ _ (q0t 0 as x t) _
  rw[j25 as 0 x t (by omega)]
  trivial
def q3l (a:Act):ResultVar->Sem Value
 | .tmp t=>pure (a.tmps.getD t undef)
 | .cell c t=>do loadVar t (<-asAddr (a.tmps.getD c undef))
theorem j5z {a:Act} {w:World} {x:ResultVar} {l:List ResultVar} {v:Value} {vs:List Value} (h1:(q3l a x).run P w=.ok v w) (h2:(l.mapM (q3l a)).run P w=.ok vs w):((x::l).mapM (q3l a)).run P w=.ok (v::vs) w:=by
 rw[List.mapM_cons]
 simp[h1,h2]
theorem q8s {R:Type} {C:Ctx} (hti:∀ t ti,C.TI t=some ti->ti.OK P t) {st:St}:∀ (rs:List ResultVar) (K:List AV->Option R) (z:R),q0k C st rs K=some z ->
  ∃ avs,K avs=some z/\∀ κ a w,q1u L κ st.h w st.ρ a->HeapOK L w0 κ st.h w->∃ vals:List Value,(rs.mapM (q3l a)).run P w=.ok vals w/\vals.length=avs.length/\vals.length=rs.length /\
   ∀ (i:Nat) (av:AV) (v:Value),avs[i]? = some av->vals[i]? = some v->RepAV L κ st.h w av v
 | [],K,z,he=>⟨[],he,fun κ a w _ _=>⟨[],rfl,rfl,rfl,fun i av v h=>by simp at h⟩⟩
 | .tmp t::r,K,z,he=>by
  obtain⟨avs,h1,h2⟩:=q8s hti r _ z he
  refine⟨_,h1,fun κ a w hev ok=>?_⟩
  obtain⟨vals,g1,g2,g3,g4⟩:=h2 κ a w hev ok
  refine⟨a.tmps.getD t undef::vals,?_,by simp[g2],by simp[g3],fun i av v hi hv=>?_⟩
  ·exact j5z rfl g1
  ·cases i with
   | zero=>simp at hi hv;subst hi;subst hv;simpa using hev t
   | succ i=>exact g4 i av v (by simpa using hi) (by simpa using hv)
 | .cell c T::r,K,z,he=>by
  simp only[q0k]at he
  split at he
  ·rename_i ti id off hT hc
   split at he
   ·rename_i l hid
    obtain⟨av0,p1,p2⟩:=q7x (L:=L) (hti T ti hT) he
    obtain⟨avs,h1,h2⟩:=q8s hti r _ z p1
    refine⟨_,h1,fun κ a w hev ok=>?_⟩
    obtain⟨vals,g1,g2,g3,g4⟩:=h2 κ a w hev ok
    have hxr:=hev c
    rw[hc]at hxr
    obtain⟨_,b,c',hk,hv⟩:=hxr
    have hob:=ok.obj id
    rw[hid]at hob
    obtain⟨b',c'',cs,ty,hk',hheap,hcs⟩:=hob
    rw[hk]at hk';simp at hk';obtain⟨rfl,rfl⟩:=hk'
    obtain⟨v,hv1,hv2⟩:=p2 κ st.h w b 0 (j2n hheap hcs)
    rw[Nat.zero_add]at hv1
    refine⟨v::vals,?_,by simp[g2],by simp[g3],fun i av v' hi hv'=>?_⟩
    ·refine j5z ?_ g1
     simp[q3l,hv,asAddr,hv1]
    ·cases i with
     | zero=>simp at hi hv';subst hi;subst hv';exact hv2
     | succ i=>exact g4 i av v' (by simpa using hi) (by simpa using hv')
   ·cases he
  ·cases he
end Go.Abs
