/- The engine, part 20b: a function with ranges over maps keeps the contract that the evaluator finds. -/
import Derived.Test.YteeaadgpkammdaaGreatDoorAbsCode3
import Derived.Test.YteeaadgpkammdaaGreatDoorAbsFn2
namespace Go.Abs
open Go Go.RowKit
variable {P:Program} {L:Nat->Prop} {w0:World}
noncomputable def z7h (C:Ctx) (fn:Func) (an:AnnU) (rs:List RTy) (st0:St):Option (I8 rs) :=
 match fn.body with
 | none=>none
 | some c=>N5 C 0 c an (I8 rs) st0 fun k st=>match k with
  | .ex _=>none
  | _=>q0k C st fn.results.toList fun avs=>M8 st.h rs avs fun y ids o=>cond (match o with
   | some id=>!D9 ids id
   | none=>true) (some y) none
noncomputable def j3o (C:Ctx) (fn:Func) (an:AnnU) (as:List (Bool×Ty)) (rs:List RTy) (x:I4 as):Option (I8 rs) :=
 cond (Nat.ble as.length fn.ntmps) (z7h C fn an rs (q9v as x fn.ntmps)) none
theorem y5w {C:Ctx} {w:World} (hC:CtxOK P L w C) (hmix:P.follows .mixedOrders=true) {f:FuncId} {fn:Func} (hf:P.funcs[f]? = some fn) {an:AnnU} {rs:List RTy} {st0:St} {y:I8 rs} (hy:z7h C fn an rs st0=some y)
  {κ0:A3} {vals:List Value} (sim0:Sim P L w w.heap.size none κ0 st0 { tmps:=vals.toArray++Array.replicate (fn.ntmps-vals.toArray.size) undef,defers:=[] } w) (m:Nat) :
  CallsIn (Fr none) m P f vals.toArray w fun e w'=>∃ v,e=.returned v/\Below w.heap.size w w'/\R2 L w w' rs v y:=by
 unfold z7h at hy
 split at hy
 ·cases hy
 ·rename_i c hc
  have fin:∀ {st':St} {κ':A3} {a':Act} {w1:World},Sim P L w w.heap.size none κ' st' a' w1->∀ k':XK,(∀ i,k'≠.ex i)->(q0k C st' fn.results.toList fun avs=>M8 st'.h rs avs fun y ids o=>cond (match o with
   | some id=>!D9 ids id
   | none=>true) (some y) none)=some y->bodyPostM (Fr none) m P fn (fun e w'=>∃ v,e=.returned v/\Below w.heap.size w w'/\R2 L w w' rs v y) k'.exit a' w1:=by
   intro st' κ' a' w1 sim k' hk' he
   obtain⟨avs,h1,h2⟩:=q8s (P:=P) (L:=L) (w0:=w) (fun t ti h=>hC.ti t ti h) fn.results.toList _ y he
   obtain⟨w',okE,avE,szE,-,leave⟩:=z1m (P:=P) (fn:=fn) (tmps:=a'.tmps) (m:=m) (R:=fun e w'=>∃ v,e=.returned v/\Below w.heap.size w w'/\R2 L w w' rs v y) (Nat.le_refl _) a'.defers w1 sim.defs sim.heap
   obtain⟨vals',g1,g2,g3,g4⟩:=h2 κ' a' w' (fun t=>avE _ _ (sim.env t)) okE
   obtain⟨y',ids,o,r1,r2,r3⟩:=q8t (L:=L) (w0:=w) rs avs _ y h1
   obtain⟨hno,r1⟩:=B1 r1
   cases r1
   obtain⟨i1,i2,i3⟩:=X1 (w0:=w) ids okE
   have hown:∀ id,o=some id->A5 (B3 st'.h ids) st'.h id=st'.h id:=fun id ho=>by
    subst ho
    simp only[Bool.not_eq_true']at hno
    exact X0 (fun hm=>by rw[memb_iff.2 hm]at hno;cases hno)
   have hA:∀ (hh:Heap),(∀ id,o=some id->hh id=st'.h id)->∀ b,A4 L κ' hh w' b->(b<w'.heap.size/\¬ L b/\∀ c,o.bind κ'≠some (b,c)):=fun hh hq b hb=>⟨hb.1,hb.2.1,fun c hbo=>by
    cases o with
    | none=>cases hbo
    | some id =>
     obtain⟨e,t,l,hid⟩:=r2
     exact hb.2.2 id c (by rw[hq id rfl,hid];rfl) hbo⟩
   have hres:=r3 κ' w' vals' g2 g4 okE _ i2 i3 hown (fun b=>b<w'.heap.size/\¬ L b/\∀ c,o.bind κ'≠some (b,c)) (hA _ hown) (fun id e t l ho hid b hb=>hA st'.h (fun _ _=>rfl) b hb)
   have hall:LeavesInM (Fr none) m P fn a'.tmps (fun e w'=>∃ v,e=.returned v/\Below w.heap.size w w'/\R2 L w w' rs v y) a'.defers .returning w1 :=
    leave ⟨_,z9v g1,_,rfl,okE.below,o.bind κ',vals',rfl,hres⟩
   cases k' with
   | nrm=>exact hall
   | ret=>exact hall
   | ex i=>exact absurd rfl (hk' i)
  refine callsIn_of_wp_marks hf hc trivial ?_
  refine q21 hC hmix 0 c an _ _ _ y hy w.heap.size none m _ _ w _ sim0 fun k st' hk κ' a' w' sim ext lk=>?_
  cases k with
  | nrm=>exact fin sim .nrm (fun i h=>by cases h) hk
  | ret=>exact fin sim .ret (fun i h=>by cases h) hk
  | ex i=>cases hk
theorem y5v {C:Ctx} (hC:∀ L w0,GlobOK C.glob w0->CtxOK P L w0 C) (hmix:P.follows .mixedOrders=true) {f:FuncId} {fn:Func} (hf:P.funcs[f]? = some fn) (hname:(fn.name== "runtime.NumGoroutine")=false) {an:AnnU} {as:List (Bool×Ty)} {rs:List RTy}
  {g:I4 as->Option (I8 rs)} (hb:fn.body.isSome=true) (hg:∀ x,j3o C fn an as rs x=g x):FunOK' P C.glob f { args:=as,res:=rs,f:=g }:=by
 refine⟨fun x y hy L w vals hG hL hargs m=>?_,fn,hf,hb,hname⟩
 simp only at hy hargs ⊢
 rw[<-hg x]at hy
 unfold j3o at hy
 obtain⟨hn,hy⟩:=B1 hy
 exact y5w (hC L w hG) hmix hf hy (j23 hL hargs (Nat.le_of_ble_eq_true hn)) m
end Go.Abs
