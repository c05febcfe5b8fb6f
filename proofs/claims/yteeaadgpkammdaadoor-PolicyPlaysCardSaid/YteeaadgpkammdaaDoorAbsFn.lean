/- The engine, part 19: functions. -/
import Derived.Test.YteeaadgpkammdaaDoorAbsCode2
namespace Go.Abs
open Go Go.RowKit
variable {P:Program} {L:Nat→Prop} {w0:World}
def argAV (agg:Bool) (t:Ty) (x:t.den):AV:=match agg with
  | true=>.agg (elemCells t x)
  | false=>.one (.sc t x)
def argρ:Nat→(as:List (Bool × Ty))→ADen as→Env
  | _,[],_=>fun _=>.one .unk
  | i,(agg,t) :: r,x=>upd (argρ (i+1) r x.2) i (argAV agg t x.1)
def noHeap:Heap:=fun id=>cond (Nat.ble kidBase id) .kid .fresh
theorem noHeap_kid (id:Nat) (h:kidBase≤id):noHeap id=.kid:=by unfold noHeap; rw [Nat.ble_eq_true_of_le h]; rfl
theorem noHeap_ok {w:World} (hL:∀ b,L b→b < w.heap.size):HeapOK L w (fun _=>none) noHeap w where
  obj id:=by unfold noHeap; cases Nat.ble kidBase id <;> trivial
  inj _ _ _ _ _ _ _ h:=by cases h
  own _ _ _ _ h:=by cases h
  below:=Below.refl _ _
  outer b hb:=⟨hL b hb,fun _ _ _ h=>by cases h⟩
  kids:=noHeap_kid
def argSt (as:List (Bool × Ty)) (x:ADen as) (n:Nat):St:={ ρ:=argρ 0 as x,h:=noHeap,lt:=fun _=>false,lo:=fun _=>false,n }
section
variable {R:Type}
def resAV (C:Ctx) (st:St):List ResultVar→(List AV→Option R)→Option R
  | [],K=>K []
  | .tmp t :: r,K=>resAV C st r fun l=>K (st.ρ t :: l)
  | .cell a T :: r,K=>(match C.TI T,st.ρ a with
    | some ti,.one (.ptr id off)=>(match st.h id with
      | .cells l=>pickCells ti l off fun av=>resAV C st r fun l=>K (av :: l)
      | _=>none)
    | _,_=>none)
def retDen (h:Heap):(rs:List RTy)→List AV→(RDen rs→List Nat→Option Nat→Option R)→Option R
  | [],[],K=>K () [] none
  | .val agg t :: r,v :: vs,K=>(match argsOf h [(agg,t)] [v] with
    | some (y,ids0)=>retDen h r vs fun ys ids o=>K (y.1,ys) (ids0++ids) o
    | none=>none)
  | .own _ _ :: r,.one .nils :: vs,K=>retDen h r vs fun ys ids o=>(match o with
    | none=>K ([],ys) ids none
    | some _=>none)
  | .own e t :: r,.one (.own id) :: vs,K=>(match h id with
    | .arr e' t' l=>(match castTy (.list t') (.list t) l with
      | some l'=>cond (Nat.beq e' e && Nat.beq (ownCount r) 0) (retDen h r vs fun ys ids o=>(match o with
        | none=>K (l',ys) ids (some id)
        | some _=>none)) none
      | none=>none)
    | _=>none)
  | _,_,_=>none
end
noncomputable def evalFrom (C:Ctx) (fn:Func) (an:Ann) (rs:List RTy) (st0:St):Option (RDen rs) :=
  match fn.body with
  | none=>none
  | some c=>evalCode C 0 c an (RDen rs) st0 fun k st=>match k with
    | .ex _=>none
    | _=>resAV C st fn.results.toList fun avs=>retDen st.h rs avs fun y ids o=>cond (match o with
      | some id=>!memb ids id
      | none=>true) (some y) none
noncomputable def evalFn (C:Ctx) (fn:Func) (an:Ann) (as:List (Bool × Ty)) (rs:List RTy) (x:ADen as):Option (RDen rs) :=
  cond (Nat.ble as.length fn.ntmps) (evalFrom C fn an rs (argSt as x fn.ntmps)) none
def notTup:AV→Bool
  | .tup _=>false
  | _=>true
def compOf:AV→Bool × List SV
  | .one s=>(false,[s])
  | .agg l=>(true,l)
  | .tup _=>(false,[])
def resTup:List AV→AV
  | [a]=>a
  | l=>.tup (l.map compOf)
def listρ:Nat→List AV→Env
  | _,[]=>fun _=>.one .unk
  | i,a :: r=>upd (listρ (i+1) r) i a
def roundρ:List Tmp→List AV→Env→Env
  | t :: ts,a :: r,ρ=>roundρ ts r (upd ρ t a)
  | _,_,ρ=>ρ
structure Tables where
  TI:TypeId→Option TInfo
  sp:FuncId→Option Spec
  inl:FuncId→Bool
  bd:FuncId→Nat→Option (Func × Ann)
  rd:Nat→Option (Ann × Ann)
  gl:Glob
  pur:FuncId→Bool
  nb:Nat→Nat
  srt:FuncId→Bool
  srn:FuncId→Option Nat
  ifc:TypeId→Bool
  meth:TypeId→String→Option FuncId
  dp:Nat→Option KTy
  fz:Nat→List Nat
  ov:FuncId→Option (List AV→Heap→(Nat→Bool)→Nat→(R:Type)→(AV→Heap→Option R)→Option R):=fun _=>none
def Tables.ctx (T:Tables) (ic:ICall) (yc:YCall):Ctx:={ TI:=T.TI,spec:=T.sp,inl:=T.inl,icall:=ic,ycall:=yc,glob:=T.gl,pur:=T.pur,nb:=T.nb,srt:=T.srt,srn:=T.srn,ifc:=T.ifc,meth:=T.meth,dp:=T.dp,fz:=T.fz }
def roundEnd (x:XK):Bool × RS:=match x with
  | .nrm=>(true,.ready)
  | x=>(false,.left x)
structure Calls' where
  ic:ICall
  yc:YCall
noncomputable def callOf (T:Tables):Nat→Calls'
  | 0=>⟨fun _ _ _ _ _ _ _=>none,fun _ _ _ _ _ _=>none⟩
  | n+1 =>
    ⟨fun f args h lo ib R K=>match T.ov f with
      | some g=>g args h lo ib R K
      | none=>match T.bd f ib with
      | none=>none
      | some (fn,an)=>match fn.body with
        | none=>none
        | some c=>cond (Nat.ble args.length fn.ntmps)
            (evalCode (T.ctx (callOf T n).ic (callOf T n).yc) ib c an R { ρ:=listρ 0 args,h,lt:=fun _=>false,lo,n:=fn.ntmps } fun k st=>match k with
              | .ex _=>none
              | _=>resAV (T.ctx (callOf T n).ic (callOf T n).yc) st fn.results.toList fun avs=>cond (avs.all notTup) (K (resTup avs) st.h) none) none,
     fun id args h lo R K=>match h id,T.rd id with
      | .lrec i .ready,some (an1,an2)=>cond (Nat.beq args.length i.ps.length && i.ps.all (fun t=>Nat.blt t i.n) && !lo id)
          (evalCode (T.ctx (callOf T n).ic (callOf T n).yc) (T.nb (2*id+1)) i.assign an1 R { ρ:=roundρ i.ps args i.ρ,h,lt:=fun _=>false,lo,n:=i.n } fun k st=>match k,st.h id with
            | .nrm,.lrec i1 .ready =>
              evalCode (T.ctx (callOf T n).ic (callOf T n).yc) (T.nb (2*id+1)) i.body an2 R { st with h:=upd st.h id (.lrec i1 .busy) } fun k2 st2=>match st2.h id with
                | .lrec i2 .busy=>K (bBool (roundEnd k2).1) (upd st2.h id (.lrec i2 (roundEnd k2).2))
                | _=>none
            | _,_=>none) none
      | _,_=>none⟩
theorem argρ_out:∀ (as:List (Bool × Ty)) (i:Nat) (x:ADen as) (t:Nat),t < i∨i+as.length≤t→argρ i as x t=.one .unk
  | [],_,_,_,_=>rfl
  | (agg,ty) :: r,i,x,t,h=>by
    simp only [List.length_cons] at h
    simp only [argρ]
    rw [upd_other _ _ (by omega)]
    exact argρ_out r (i+1) x.2 t (by omega)
theorem argρ_rep {κ:Place} {h:Heap} {w:World}:∀ (as:List (Bool × Ty)) (vals:List Value) (x:ADen as) (i:Nat),ArgsRep w (Free L κ h w) as vals x→vals.length=as.length ∧
    ∀ (j:Nat) (v:Value),vals[j]? = some v→RepAV L κ h w (argρ i as x (i+j)) v
  | [],[],_,_,_=>⟨rfl,fun j v hj=>by simp at hj⟩
  | [],_ :: _,_,_,hr=>hr.elim
  | _ :: _,[],_,_,hr=>hr.elim
  | (agg,t) :: r,v :: vs,x,i,hr=>by
    obtain ⟨h1,h2⟩:=hr
    obtain ⟨i1,i2⟩:=argρ_rep r vs x.2 (i+1) h2
    refine ⟨by simp [i1],fun j u hj=>?_⟩
    simp only [argρ]
    cases j with
    | zero =>
      simp at hj; subst hj
      show RepAV L κ h w (upd (argρ (i+1) r x.snd) i (argAV agg t x.fst) i) v
      rw [upd_same]
      cases agg with
      | false=>exact h1
      | true =>
        obtain ⟨cs,c1,c2,c3,c4⟩:=h1
        refine ⟨cs,c1,by rw [c2,elemCells_length],fun k s c hk hck=>?_⟩
        obtain ⟨v',v1,v2⟩:=elemCells_rep t _ x.1 c4 k s hk
        rw [hck] at v1; cases v1; exact v2
    | succ j =>
      rw [upd_other _ _ (by omega),show i+(j+1)=i+1+j from by omega]
      exact i2 j u (by simpa using hj)
theorem arg_sim {as:List (Bool × Ty)} {x:ADen as} {vals:List Value} {w:World} {n:Nat} (hL:∀ b,L b→b < w.heap.size) (hr:ArgsRep w (fun b=>b < w.heap.size∧¬ L b) as vals x) (hn:as.length≤n) :
    Sim P L w w.heap.size none (fun _=>none) (argSt as x n) { tmps:=vals.toArray++Array.replicate (n - vals.toArray.size) undef,defers:=[] } w:=by
  have hmono:ArgsRep w (Free L (fun _=>none) noHeap w) as vals x:=by
    have key:∀ (as:List (Bool × Ty)) (vals:List Value) (x:ADen as),ArgsRep w (fun b=>b < w.heap.size∧¬ L b) as vals x→ArgsRep w (Free L (fun _=>none) noHeap w) as vals x:=by
      intro as
      induction as with
      | nil=>intro vals x h; cases vals <;> exact h
      | cons a r ih =>
        intro vals x h
        cases vals with
        | nil=>exact h
        | cons v vs =>
          obtain ⟨agg,t⟩:=a
          obtain ⟨h1,h2⟩:=h
          have hf:∀ b,(b < w.heap.size∧¬ L b)→Free L (fun _=>none) noHeap w b∧w.heap[b]? = w.heap[b]?:=fun b hb=>⟨⟨hb.1,hb.2,fun _ _ _ h=>by cases h⟩,rfl⟩
          refine ⟨?_,ih vs x.2 h2⟩
          cases agg with
          | false=>exact ⟨h1.1,h1.2.1,RepAt.mono hf t _ _ h1.2.2⟩
          | true=>obtain ⟨cs,c1,c2,c3,c4⟩:=h1; exact ⟨cs,c1,c2,c3,RepAt.mono hf t _ _ c4⟩
    exact key as vals x hr
  obtain ⟨h1,h2⟩:=argρ_rep as vals x 0 hmono
  refine ⟨by simp [argSt]; omega,fun t=>?_,noHeap_ok hL,MarksOK.nil (Nat.le_refl _),fun l hl=>by cases hl⟩
  by_cases ht:t < vals.length
  · have:=h2 t vals[t] (List.getElem?_eq_getElem ht)
    rw [Nat.zero_add] at this
    have hg:(vals.toArray++Array.replicate (n - vals.toArray.size) undef).getD t undef=vals[t]:=by
      simp [Array.getD_eq_getD_getElem?,Array.getElem?_append,ht]
    show RepAV L _ _ _ (argρ 0 as x t) _
    rw [hg]; exact this
  · show RepAV L _ _ _ (argρ 0 as x t) _
    rw [argρ_out as 0 x t (by omega)]
    trivial
def resM (a:Act):ResultVar→Sem Value
  | .tmp t=>pure (a.tmps.getD t undef)
  | .cell c t=>do loadVar t (←asAddr (a.tmps.getD c undef))
theorem mapM_ok {a:Act} {w:World} {x:ResultVar} {l:List ResultVar} {v:Value} {vs:List Value} (h1:(resM a x).run P w=.ok v w) (h2:(l.mapM (resM a)).run P w=.ok vs w):((x :: l).mapM (resM a)).run P w=.ok (v :: vs) w:=by
  rw [List.mapM_cons]
  simp [h1,h2]
theorem resAV_sound {R:Type} {C:Ctx} (hti:∀ t ti,C.TI t=some ti→ti.OK P t) {st:St}:∀ (rs:List ResultVar) (K:List AV→Option R) (z:R),resAV C st rs K=some z →
    ∃ avs,K avs=some z∧∀ κ a w,EnvOK L κ st.h w st.ρ a→HeapOK L w0 κ st.h w→∃ vals:List Value,(rs.mapM (resM a)).run P w=.ok vals w∧vals.length=avs.length∧vals.length=rs.length ∧
      ∀ (i:Nat) (av:AV) (v:Value),avs[i]? = some av→vals[i]? = some v→RepAV L κ st.h w av v
  | [],K,z,he=>⟨[],he,fun κ a w _ _=>⟨[],rfl,rfl,rfl,fun i av v h=>by simp at h⟩⟩
  | .tmp t :: r,K,z,he=>by
    obtain ⟨avs,h1,h2⟩:=resAV_sound hti r _ z he
    refine ⟨_,h1,fun κ a w hev ok=>?_⟩
    obtain ⟨vals,g1,g2,g3,g4⟩:=h2 κ a w hev ok
    refine ⟨a.tmps.getD t undef :: vals,?_,by simp [g2],by simp [g3],fun i av v hi hv=>?_⟩
    · exact mapM_ok rfl g1
    · cases i with
      | zero=>simp at hi hv; subst hi; subst hv; simpa using hev t
      | succ i=>exact g4 i av v (by simpa using hi) (by simpa using hv)
  | .cell c T :: r,K,z,he=>by
    simp only [resAV] at he
    split at he
    · rename_i ti id off hT hc
      split at he
      · rename_i l hid
        obtain ⟨av0,p1,p2⟩:=pickCells_sound (L:=L) (hti T ti hT) he
        obtain ⟨avs,h1,h2⟩:=resAV_sound hti r _ z p1
        refine ⟨_,h1,fun κ a w hev ok=>?_⟩
        obtain ⟨vals,g1,g2,g3,g4⟩:=h2 κ a w hev ok
        have hxr:=hev c
        rw [hc] at hxr
        obtain ⟨_,b,c',hk,hv⟩:=hxr
        have hob:=ok.obj id
        rw [hid] at hob
        obtain ⟨b',c'',cs,ty,hk',hheap,hcs⟩:=hob
        rw [hk] at hk'; simp at hk'; obtain ⟨rfl,rfl⟩:=hk'
        obtain ⟨v,hv1,hv2⟩:=p2 κ st.h w b 0 (cells_get hheap hcs)
        rw [Nat.zero_add] at hv1
        refine ⟨v :: vals,?_,by simp [g2],by simp [g3],fun i av v' hi hv'=>?_⟩
        · refine mapM_ok ?_ g1
          simp [resM,hv,asAddr,hv1]
        · cases i with
          | zero=>simp at hi hv'; subst hi; subst hv'; exact hv2
          | succ i=>exact g4 i av v' (by simpa using hi) (by simpa using hv')
      · cases he
    · cases he
end Go.Abs
