/- The engine, part 20b: a function with ranges over maps keeps the contract that the evaluator finds. -/
import Derived.Test.YtkfjlcdaepckoaaAbsCode3
import Derived.Test.YtkfjlcdaepckoaaAbsFn2
namespace Go.Abs
open Go Go.RowKit
variable {P:Program} {L:Nat->Prop} {w0:World}
noncomputable def z09 (C:Ctx) (fn:Func) (an:AnnU) (rs:List RTy) (st0:St):Option (I0 rs) :=
 match fn.body with
 | none=>none
 | some c=>M1 C 0 c an (I0 rs) st0 fun k st=>match k with
  | .ex _=>none
  | .pan _=>none
  | _=>X9 C st fn.results.toList fun avs=>L6 st.h rs avs fun y ids o=>cond (match o with
   | some id=>!D6 ids id
   | none=>true) (some y) none
noncomputable def z5z (C:Ctx) (fn:Func) (an:AnnU) (as:List (Bool×Ty)) (rs:List RTy) (x:H6 as):Option (I0 rs) :=
 cond (Nat.ble as.length fn.ntmps) (z09 C fn an rs (q5h as x fn.ntmps)) none
theorem j65 {C:Ctx} {w:World} (hC:CtxOK P L w C) (hmix:P.follows .mixedOrders=true) {f:FuncId} {fn:Func} (hf:P.funcs[f]? = some fn) {an:AnnU} {rs:List RTy} {st0:St} {y:I0 rs} (hy:z09 C fn an rs st0=some y)
  {κ0:A2} {vals:List Value} (sim0:Sim P L w ⟨w.heap.size,[]⟩ none κ0 st0 { tmps:=vals.toArray++Array.replicate (fn.ntmps-vals.toArray.size) undef,defers:=[] } w) (m:Nat) :
  CallsIn (Fr none) m P f vals.toArray w fun e w'=>∃ v,e=.returned v/\Below w.heap.size w w'/\O9 L w w' rs v y:=by
 unfold z09 at hy
 split at hy
 ·cases hy
 ·rename_i c hc
  have fin:∀ {st':St} {κ':A2} {a':Act} {w1:World},Sim P L w ⟨w.heap.size,[]⟩ none κ' st' a' w1->∀ k':XK,(k'=.nrm\/k'=.ret)->(X9 C st' fn.results.toList fun avs=>L6 st'.h rs avs fun y ids o=>cond (match o with
   | some id=>!D6 ids id
   | none=>true) (some y) none)=some y->bodyPostM (Fr none) m P fn (fun e w'=>∃ v,e=.returned v/\Below w.heap.size w w'/\O9 L w w' rs v y) k'.exit a' w1:=by
   intro st' κ' a' w1 sim k' hk' he
   obtain⟨avs,h1,h2⟩:=q4w (P:=P) (L:=L) (w0:=w) (fun t ti h=>hC.ti t ti h) fn.results.toList _ y he
   obtain⟨w',okE,avE,szE,-,leave⟩:=X3 (P:=P) (fn:=fn) (tmps:=a'.tmps) (m:=m) (u:=.returning) (R:=fun e w'=>∃ v,e=.returned v/\Below w.heap.size w w'/\O9 L w w' rs v y) (B:=⟨w.heap.size,[]⟩) (Nat.le_refl _) (by intro h;cases h) a'.defers w1 sim.defs sim.heap
   obtain⟨vals',g1,g2,g3,g4⟩:=h2 κ' a' w' (fun t=>avE _ _ (sim.env t)) okE
   obtain⟨y',ids,o,r1,r2,r3⟩:=q4x (L:=L) (w0:=w) rs avs _ y h1
   obtain⟨hno,r1⟩:=A7 r1
   cases r1
   obtain⟨i1,i2,i3⟩:=S6 (w0:=w) ids okE
   have hown:∀ id,o=some id->A5 (B0 st'.h ids) st'.h id=st'.h id:=fun id ho=>by
    subst ho
    simp only[Bool.not_eq_true']at hno
    exact S5 (fun hm=>by rw[memb_iff.2 hm]at hno;cases hno)
   have hA:∀ (hh:Heap),(∀ id,o=some id->hh id=st'.h id)->∀ b,A4 L κ' hh w' b->(b<w'.heap.size/\¬ L b/\∀ c,o.bind κ'≠some (b,c)):=fun hh hq b hb=>⟨hb.1,hb.2.1,fun c hbo=>by
    cases o with
    | none=>cases hbo
    | some id =>
     obtain⟨e,t,l,hid⟩:=r2
     exact hb.2.2 id c (by rw[hq id rfl,hid];rfl) hbo⟩
   have hres:=r3 κ' w' vals' g2 g4 okE _ i2 i3 hown (fun b=>b<w'.heap.size/\¬ L b/\∀ c,o.bind κ'≠some (b,c)) (hA _ hown) (fun id e t l ho hid b hb=>hA st'.h (fun _ _=>rfl) b hb)
   have hall:LeavesInM (Fr none) m P fn a'.tmps (fun e w'=>∃ v,e=.returned v/\Below w.heap.size w w'/\O9 L w w' rs v y) a'.defers .returning w1 :=
    leave ⟨_,z35 g1,_,rfl,okE.below,o.bind κ',vals',rfl,hres⟩
   cases k' with
   | nrm=>exact hall
   | ret=>exact hall
   | ex i=>rcases hk' with h | h<;>cases h
   | pan T=>rcases hk' with h | h<;>cases h
  refine callsIn_of_wp_marks hf hc trivial ?_
  refine Z6 hC hmix 0 c an _ _ _ y hy ⟨w.heap.size,[]⟩ none m _ _ w _ sim0 fun k st' hk κ' a' w' sim ext lk=>?_
  cases k with
  | nrm=>exact fin sim .nrm (.inl rfl) hk
  | ret=>exact fin sim .ret (.inr rfl) hk
  | ex i=>cases hk
  | pan T=>cases hk
theorem z60 {C:Ctx} (hC:∀ L w0,GlobOK C.glob w0->CtxOK P L w0 C) (hmix:P.follows .mixedOrders=true) {f:FuncId} {fn:Func} (hf:P.funcs[f]? = some fn) (hname:(fn.name== "runtime.NumGoroutine")=false) {an:AnnU} {as:List (Bool×Ty)} {rs:List RTy}
  {g:H6 as->Option (I0 rs)} (hb:fn.body.isSome=true) (hg:∀ x,z5z C fn an as rs x=g x):FunOK' P C.glob f { args:=as,res:=rs,f:=g }:=by
 refine⟨fun x y hy L w vals hG hL hargs m=>?_,fn,hf,hb,hname⟩
 simp only at hy hargs ⊢
 rw[<-hg x]at hy
 unfold z5z at hy
 obtain⟨hn,hy⟩:=A7 hy
 exact j65 (hC L w hG) hmix hf hy (z4l hL hargs (Nat.le_of_ble_eq_true hn)) m
end Go.Abs
