/- The engine, part 21: the table of types, and what a program gives the evaluator. -/
import Derived.Test.YteeaadgpkammdaaDoorAbsFn2
namespace Go.Abs
open Go Go.RowKit
variable {P:Program} {L:Nat→Prop} {w0:World}
def svOf:Value→Option SV
  | .int k n=>some (.sc (.int k) n)
  | .bool b=>some (.sc .bool b)
  | .slice none 0 0=>some .nils
  | .pointer none=>some .nilp
  | .string b=>some (.cstr b)
  | .map none=>some .mpn
  | .nilFunc=>some .nilf
  | _=>none
theorem svOf_const {v:Value} {s:SV} (h:svOf v=some s):s.isConst v:=by
  unfold svOf at h
  split at h <;> first | (cases h; done) | skip
  all_goals cases h
  · exact ⟨rfl,rfl,rfl⟩
  · exact ⟨rfl,rfl,rfl⟩
  · rfl
  · rfl
  · rfl
  · rfl
  · rfl
def fiOf (P:Program) (fd:Field):Option FI:=match P.info? fd.type,P.underlying fd.type with
  | some i,some d=>some { off:=fd.offset,size:=i.size,agg:=isAggD d }
  | _,_=>none
def allM {α β:Type} (f:α→Option β):List α→Option (List β)
  | []=>some []
  | x :: r=>match f x,allM f r with
    | some y,some l=>some (y :: l)
    | _,_=>none
def fisOf (P:Program):TypeDesc→Option (List FI)
  | .struct fs=>allM (fiOf P) fs.toList
  | .array n e=>(match P.info? e,P.underlying e with
    | some i,some d=>some ((List.range n).map fun j=>{ off:=j*i.size,size:=i.size,agg:=isAggD d })
    | _,_=>none)
  | _=>some []
def strOf:TypeDesc→Bool
  | .struct _=>true
  | _=>false
def arrOf:TypeDesc→Option (Nat × TypeId)
  | .array n e=>some (n,e)
  | _=>none
def strgOf:TypeDesc→Bool
  | .string=>true
  | _=>false
def mapOf:TypeDesc→Option (TypeId × TypeId)
  | .map k e=>some (k,e)
  | _=>none
def elemOf:TypeDesc→Option TypeId
  | .slice e=>some e
  | _=>none
def isAggT (P:Program) (t:TypeId):Bool:=match P.underlying t with
  | some d=>isAggD d
  | none=>false
def repTy:Nat→Ty→Ty
  | 0,_=>.nil
  | n+1,t=>.cons t (repTy n t)
mutual
def tyOf (P:Program):Nat→TypeId→Ty
  | 0,_=>.nil
  | n+1,t=>match P.underlying t with
    | some (.int k)=>.int k
    | some .bool=>.bool
    | some (.slice e)=>.list (tyOf P n e)
    | some (.map k e)=>.map (isAggT P k) (isAggT P e) (tyOf P n k) (tyOf P n e)
    | some (.struct fs)=>tysOf P n (fs.toList.map (·.type))
    | some (.array k e)=>repTy (cond (Nat.ble k 32) k 0) (tyOf P n e)
    | _=>.nil
def tysOf (P:Program):Nat→List TypeId→Ty
  | 0,_=>.nil
  | _+1,[]=>.nil
  | n+1,t :: r=>.cons (tyOf P n t) (tysOf P n r)
end
theorem repTy_flat (n:Nat) (t:Ty):(∀ k,repTy n t≠.int k)∧repTy n t≠.bool:=by
  cases n with
  | zero=>exact ⟨(fun k h=>by cases h),(fun h=>by cases h)⟩
  | succ n=>exact ⟨(fun k h=>by cases h),(fun h=>by cases h)⟩
theorem tysOf_flat (P:Program) (n:Nat) (l:List TypeId):(∀ k,tysOf P n l≠.int k)∧tysOf P n l≠.bool:=by
  unfold tysOf
  split
  · exact ⟨(fun k h=>by cases h),(fun h=>by cases h)⟩
  · exact ⟨(fun k h=>by cases h),(fun h=>by cases h)⟩
  · exact ⟨(fun k h=>by cases h),(fun h=>by cases h)⟩
theorem tyOf_int {P:Program} {n:Nat} {t:TypeId} {k:IntKind} (h:tyOf P n t=.int k):P.underlying t=some (.int k):=by
  cases n with
  | zero=>unfold tyOf at h; cases h
  | succ n =>
    unfold tyOf at h
    split at h
    · rename_i hu; cases h; exact hu
    · cases h
    · cases h
    · cases h
    · exact absurd h ((tysOf_flat P n _).1 k)
    · exact absurd h ((repTy_flat _ _).1 k)
    · cases h
theorem tyOf_bool {P:Program} {n:Nat} {t:TypeId} (h:tyOf P n t=.bool):P.underlying t=some .bool:=by
  cases n with
  | zero=>unfold tyOf at h; cases h
  | succ n =>
    unfold tyOf at h
    split at h
    · cases h
    · rename_i hu; exact hu
    · cases h
    · cases h
    · exact absurd h (tysOf_flat P n _).2
    · exact absurd h (repTy_flat _ _).2
    · cases h
def tinfo (P:Program) (t:TypeId):Option TInfo:=match P.info? t,P.underlying t with
  | some i,some d=>match i.zero with
    | some z=>match allM svOf z.cells.toList,fisOf P d with
      | some zs,some fl=>cond (Nat.beq z.cells.size i.size && (aggV z == isAggD d)) (some { agg:=isAggD d,str:=strOf d,size:=i.size,bytes:=i.bytes,zeros:=zs,flds:=fl,elem:=elemOf d,arr:=arrOf d,ty:=tyOf P 40 t,strg:=strgOf d,eqo:=cond (isAggD d && !P.eqGuardType P.depth t && Nat.beq (P.cellsOf t) i.size) (eqOffs P 20 t) none,mp:=mapOf d }) none
      | _,_=>none
    | none=>none
  | _,_=>none
theorem allM_some {α β:Type} {f:α→Option β}:∀ {l:List α} {r:List β},allM f l=some r→l.length=r.length∧∀ (i:Nat) (x:α) (y:β),l[i]? = some x→r[i]? = some y→f x=some y
  | [],_,h=>by cases h; exact ⟨rfl,fun i x y hx=>by simp at hx⟩
  | a :: l,r,h=>by
    simp only [allM] at h
    split at h
    · rename_i y l' hy hl
      cases h
      obtain ⟨h1,h2⟩:=allM_some hl
      refine ⟨by simp [h1],fun i x y hx hy'=>?_⟩
      cases i with
      | zero=>simp at hx hy'; subst hx; subst hy'; exact hy
      | succ i=>exact h2 i x y (by simpa using hx) (by simpa using hy')
    · cases h
theorem tinfo_ok {t:TypeId} {ti:TInfo} (h:tinfo P t=some ti):ti.OK P t:=by
  unfold tinfo at h
  split at h
  · rename_i i d hi hd
    split at h
    · rename_i z hz
      split at h
      · rename_i zs fl hzs hfl
        obtain ⟨hc,h⟩:=cond_some h
        rw [Bool.and_eq_true] at hc
        have hcz:=hc.2
        have hc:=Nat.eq_of_beq_eq_true hc.1
        cases h
        obtain ⟨l1,l2⟩:=allM_some hzs
        refine ⟨⟨⟨i,z,hi,rfl,rfl,hz,hc,by rw [←l1]; simpa using hc,fun j s c hs hcj=>svOf_const (l2 j c s (by simpa using hcj) hs)⟩,d,hd,rfl,?_,?_,?_⟩,?_,?_,?_,?_,?_,?_⟩
        · cases d <;> first | exact .inl rfl | exact .inr ⟨_,rfl,rfl⟩
        · intro k _ hk
          have:=tyOf_int hk
          rw [hd] at this
          exact Option.some.inj this
        · intro hs
          cases d with
          | struct fs =>
            obtain ⟨m1,m2⟩:=allM_some (l:=fs.toList) hfl
            refine ⟨fs,rfl,by simpa using m1,fun f fi hfi=>?_⟩
            have hlt:f < fs.size:=by have:=(List.getElem?_eq_some_iff.1 hfi).1; rw [←m1] at this; simpa using this
            have:=m2 f fs[f] fi (by simp [hlt]) hfi
            unfold fiOf at this
            split at this
            · rename_i i' d' hi' hd'
              cases this
              exact ⟨fs[f],i',d',by simp [hlt],rfl,hi',rfl,hd',rfl⟩
            · cases this
          | _=>cases hs
        · intro _ hk
          exact tyOf_bool hk
        · intro hs
          cases d <;> first | exact hd | cases hs
        · intro k e hke
          cases d <;> first | (cases hke; exact hd) | cases hke
        · intro i' z' hi' hz'
          rw [hi] at hi'; cases hi'
          rw [hz] at hz'; cases hz'
          simpa using hcz
        · intro l hl
          obtain ⟨h1,h2⟩:=cond_some hl
          simp only [Bool.and_eq_true,Bool.not_eq_true'] at h1
          exact ⟨h2,h1.1.2,h1.1.1,Nat.eq_of_beq_eq_true h1.2⟩
        · intro n e hne
          cases d with
          | array n' e' =>
            cases hne
            refine ⟨hd,?_⟩
            simp only [fisOf] at hfl
            split at hfl
            · rename_i ie de hie hde
              cases hfl
              refine ⟨ie,de,hie,hde,fun j fi hj=>?_⟩
              rw [List.getElem?_map] at hj
              cases hr:(List.range n)[j]? with
              | none=>rw [hr] at hj; cases hj
              | some q =>
                rw [hr] at hj
                have hq:q=j:=by
                  obtain ⟨hlt,he⟩:=List.getElem?_eq_some_iff.1 hr
                  simp at he; exact he.symm
                subst hq
                cases hj
                exact ⟨rfl,rfl⟩
            · cases hfl
          | _=>cases hne
      · cases h
    · cases h
  · cases h
def look {α:Type}:List (Nat × α)→Nat→Option α
  | [],_=>none
  | (i,a) :: r,j=>cond (Nat.beq i j) (some a) (look r j)
theorem look_mem {α:Type}:∀ {l:List (Nat × α)} {j:Nat} {a:α},look l j=some a→(j,a)∈l
  | [],_,_,h=>by cases h
  | (i,b) :: r,j,a,h=>by
    simp only [look] at h
    cases hb:Nat.beq i j with
    | true=>rw [hb,cond_true] at h; cases h; rw [Nat.eq_of_beq_eq_true hb]; exact List.mem_cons_self
    | false=>rw [hb,cond_false] at h; exact List.mem_cons_of_mem _ (look_mem h)
abbrev Bodies:=List (Nat × (Nat × (Func × Ann)))
def look2:Bodies→Nat→Nat→Option (Func × Ann)
  | [],_,_=>none
  | (i,(b,p)) :: r,f,ib=>cond (Nat.beq i f && Nat.beq b ib) (some p) (look2 r f ib)
theorem look2_mem:∀ {l:Bodies} {f ib:Nat} {p:Func × Ann},look2 l f ib=some p→∃ b,(f,(b,p))∈l
  | [],_,_,_,h=>by cases h
  | (i,(b,q)) :: r,f,ib,p,h=>by
    simp only [look2] at h
    cases hb:(Nat.beq i f && Nat.beq b ib) with
    | true =>
      rw [hb,cond_true] at h; cases h
      rw [Bool.and_eq_true] at hb
      rw [Nat.eq_of_beq_eq_true hb.1]
      exact ⟨b,List.mem_cons_self⟩
    | false =>
      rw [hb,cond_false] at h
      obtain ⟨b',hb'⟩:=look2_mem h
      exact ⟨b',List.mem_cons_of_mem _ hb'⟩
abbrev Rounds:=List (Nat × (Ann × Ann))
def methOf (ms:List (Nat × (String × Nat))) (t:Nat) (n:String):Option Nat:=match look ms t with
  | some (m,f)=>cond (m == n) (some f) none
  | none=>none
theorem methOf_mem {ms:List (Nat × (String × Nat))} {t:Nat} {n:String} {f:Nat} (h:methOf ms t n=some f):(t,(n,f))∈ms:=by
  unfold methOf at h
  split at h
  · rename_i m f' hm
    obtain ⟨h1,h2⟩:=cond_some h
    cases h2
    rw [←beq_iff_eq.1 h1]
    exact look_mem hm
  · cases h
noncomputable def mkTab (ti:List (Nat × TInfo)) (sp:List (Nat × Spec)) (bd:Bodies) (rd:Rounds) (gl:List (Nat × (IntKind × Nat × List Int))) (pu:List Nat) (nb:List (Nat × Nat)) (sr:List Nat) (sn:List (Nat × Nat)) (ifs:List Nat) (ms:List (Nat × (String × Nat))) (dp:List (Nat × KTy)) (fz:List (Nat × List Nat)):Tables :=
  { TI:=look ti,sp:=look sp,inl:=fun f=>(look bd f).isSome,bd:=look2 bd,rd:=look rd,gl:=look gl,pur:=memb pu,nb:=fun i=>(look nb i).getD 0,srt:=memb sr,srn:=look sn,ifc:=memb ifs,meth:=methOf ms,dp:=look dp,fz:=fun i=>(look fz i).getD [] }
noncomputable def mkCtx (ti:List (Nat × TInfo)) (sp:List (Nat × Spec)) (bd:Bodies) (rd:Rounds) (gl:List (Nat × (IntKind × Nat × List Int))) (pu:List Nat) (nb:List (Nat × Nat)) (sr:List Nat:=[]) (sn:List (Nat × Nat):=[]) (ifs:List Nat:=[]) (ms:List (Nat × (String × Nat)):=[]) (dp:List (Nat × KTy):=[]) (fz:List (Nat × List Nat):=[]):Ctx :=
  (mkTab ti sp bd rd gl pu nb sr sn ifs ms dp fz).ctx (callOf (mkTab ti sp bd rd gl pu nb sr sn ifs ms dp fz) 32).ic (callOf (mkTab ti sp bd rd gl pu nb sr sn ifs ms dp fz) 32).yc
def tiTable (P:Program) (ids:List Nat):List (Nat × Option TInfo):=ids.map fun t=>(t,tinfo P t)
def BodyOK (P:Program) (f:Nat) (fn:Func):Prop:=P.funcs[f]? = some fn∧fn.body.isSome=true∧(fn.name == "runtime.NumGoroutine")=false
theorem mkCtxM_ok {ti:List (Nat × TInfo)} {sp:List (Nat × Spec)} {bd:Bodies} {rd:Rounds} {gl:List (Nat × (IntKind × Nat × List Int))} {pu:List Nat} {nb:List (Nat × Nat)} {sr:List Nat} {sn:List (Nat × Nat)} {ifs:List Nat} {ms:List (Nat × (String × Nat))} {dp:List (Nat × KTy)} {fz:List (Nat × List Nat)} (hmix:P.follows .mixedOrders=true) (hti:tiTable P (ti.map (·.1))=ti.map fun p=>(p.1,some p.2)) (hsp:∀ p∈sp,FunOK' P (look gl) p.1 p.2)
    (hbd:∀ p∈bd,BodyOK P p.1 p.2.2.1) (hsr:∀ f∈sr,Sort1 P f) (hsn:∀ p∈sn,SrnOK P (look gl) p.1 p.2) (hif:∀ t∈ifs,∃ l,P.underlying t=some (.interface l)) (hms:∀ p∈ms,MethOK P p.1 p.2.1 p.2.2):∀ L w0,GlobOK (look gl) w0→CtxOK P L w0 (mkCtx ti sp bd rd gl pu nb sr sn ifs ms dp fz):=fun L w0 hG =>
  have h1:∀ t i,look ti t=some i→i.OK P t:=fun t i h=>by
      have hm:=look_mem h
      have h2:(t,some i)∈tiTable P (ti.map (·.1)):=by rw [hti]; exact List.mem_map.2 ⟨(t,i),hm,rfl⟩
      unfold tiTable at h2
      obtain ⟨u,_,hu⟩:=List.mem_map.1 h2
      simp only [Prod.mk.injEq] at hu
      obtain ⟨rfl,hu⟩:=hu
      exact tinfo_ok hu
  have h2:=callOf_ok (T:=mkTab ti sp bd rd gl pu nb sr sn ifs ms dp fz) h1 (fun f s h=>hsp (f,s) (look_mem h)) (fun f h=>hsr f (memb_iff.1 h)) (fun f k h=>hsn (f,k) (look_mem h)) (fun t h=>hif t (memb_iff.1 h)) (fun t n f h=>hms (t,(n,f)) (methOf_mem h)) (fun f g h=>by cases h) (fun f h=>by
        cases hb:look bd f with
        | none=>change (look bd f).isSome=true at h; rw [hb] at h; cases h
        | some p=>exact ⟨p.2.1,hbd (f,p) (look_mem hb)⟩) (fun f ib fn an h=>by
        obtain ⟨b,hb⟩:=look2_mem h
        exact hbd _ hb) hmix 32 L w0 hG
  { ti:=h1
    spec:=fun f s h=>hsp (f,s) (look_mem h)
    glob:=hG
    ic:=h2.1
    yc:=h2.2
    srt:=fun f h=>hsr f (memb_iff.1 h)
    srn:=fun f k h=>hsn (f,k) (look_mem h)
    ifc:=fun t h=>hif t (memb_iff.1 h)
    meth:=fun t n f h=>hms (t,(n,f)) (methOf_mem h) }
theorem mkCtxN_ok {ti:List (Nat × TInfo)} {sp:List (Nat × Spec)} {bd:Bodies} {rd:Rounds} {gl:List (Nat × (IntKind × Nat × List Int))} {pu:List Nat} {nb:List (Nat × Nat)} {sr:List Nat} {sn:List (Nat × Nat)} (hmix:P.follows .mixedOrders=true) (hti:tiTable P (ti.map (·.1))=ti.map fun p=>(p.1,some p.2)) (hsp:∀ p∈sp,FunOK' P (look gl) p.1 p.2)
    (hbd:∀ p∈bd,BodyOK P p.1 p.2.2.1) (hsr:∀ f∈sr,Sort1 P f) (hsn:∀ p∈sn,SrnOK P (look gl) p.1 p.2):∀ L w0,GlobOK (look gl) w0→CtxOK P L w0 (mkCtx ti sp bd rd gl pu nb sr sn):=mkCtxM_ok hmix hti hsp hbd hsr hsn (fun _ h=>by cases h) fun _ h=>by cases h
theorem mkCtxS_ok {ti:List (Nat × TInfo)} {sp:List (Nat × Spec)} {bd:Bodies} {rd:Rounds} {gl:List (Nat × (IntKind × Nat × List Int))} {pu:List Nat} {nb:List (Nat × Nat)} {sr:List Nat} (hmix:P.follows .mixedOrders=true) (hti:tiTable P (ti.map (·.1))=ti.map fun p=>(p.1,some p.2)) (hsp:∀ p∈sp,FunOK' P (look gl) p.1 p.2)
    (hbd:∀ p∈bd,BodyOK P p.1 p.2.2.1) (hsr:∀ f∈sr,Sort1 P f):∀ L w0,GlobOK (look gl) w0→CtxOK P L w0 (mkCtx ti sp bd rd gl pu nb sr):=mkCtxN_ok hmix hti hsp hbd hsr fun _ h=>by cases h
theorem mkCtx_ok {ti:List (Nat × TInfo)} {sp:List (Nat × Spec)} {bd:Bodies} {rd:Rounds} {gl:List (Nat × (IntKind × Nat × List Int))} {pu:List Nat} {nb:List (Nat × Nat)} (hmix:P.follows .mixedOrders=true) (hti:tiTable P (ti.map (·.1))=ti.map fun p=>(p.1,some p.2)) (hsp:∀ p∈sp,FunOK' P (look gl) p.1 p.2)
    (hbd:∀ p∈bd,BodyOK P p.1 p.2.2.1):∀ L w0,GlobOK (look gl) w0→CtxOK P L w0 (mkCtx ti sp bd rd gl pu nb):=mkCtxS_ok hmix hti hsp hbd fun _ h=>by cases h
theorem srnErr {gl:Glob} {F:FuncId} {T:Nat} (h:CodeF P gl F T):SrnOK P gl F ((1048575+T)+1):=by
  show cond (Nat.ble 1048575 (1048575+T)) (CodeF P gl F (1048575+T - 1048575)) _
  rw [Nat.ble_eq_true_of_le (Nat.le_add_right _ _),cond_true,Nat.add_sub_cancel_left]
  exact h
theorem sortsN_nil {gl:Glob}:∀ p∈([]:List (Nat × Nat)),SrnOK P gl p.1 p.2:=fun _ h=>by cases h
theorem sortsN_cons {gl:Glob} {f k:Nat} {l:List (Nat × Nat)} (h:SrnOK P gl f k) (t:∀ p∈l,SrnOK P gl p.1 p.2):∀ p∈(f,k) :: l,SrnOK P gl p.1 p.2:=fun p hp=>by
  rcases List.mem_cons.1 hp with rfl | hp
  · exact h
  · exact t p hp
def ifaceB (P:Program) (T:TypeId):Bool:=match P.underlying T with
  | some (.interface _)=>true
  | _=>false
theorem iface_of {T:TypeId} (h:ifaceB P T=true):∃ l,P.underlying T=some (.interface l):=by
  unfold ifaceB at h
  split at h
  · rename_i l hl; exact ⟨l,hl⟩
  · cases h
theorem ifs_nil:∀ t∈([]:List Nat),∃ l,P.underlying t=some (.interface l):=fun _ h=>by cases h
theorem ifs_cons {t:Nat} {l:List Nat} (h:ifaceB P t=true) (r:∀ t∈l,∃ l,P.underlying t=some (.interface l)):∀ u∈t :: l,∃ l,P.underlying u=some (.interface l):=fun u hu=>by
  rcases List.mem_cons.1 hu with rfl | hu
  · exact iface_of h
  · exact r u hu
theorem meths_nil:∀ p∈([]:List (Nat × (String × Nat))),MethOK P p.1 p.2.1 p.2.2:=fun _ h=>by cases h
theorem sorts_nil:∀ f∈([]:List Nat),Sort1 P f:=fun _ h=>by cases h
theorem bodies_nil:∀ p∈([]:Bodies),BodyOK P p.1 p.2.2.1:=fun _ h=>by cases h
theorem bodies_cons {f b:Nat} {fn:Func} {an:Ann} {l:Bodies} (h:BodyOK P f fn) (t:∀ p∈l,BodyOK P p.1 p.2.2.1):∀ p∈(f,(b,(fn,an))) :: l,BodyOK P p.1 p.2.2.1:=fun p hp=>by
  rcases List.mem_cons.1 hp with rfl | hp
  · exact h
  · exact t p hp
theorem specs_nil {gl:Glob}:∀ p∈([]:List (Nat × Spec)),FunOK' P gl p.1 p.2:=fun _ h=>by cases h
theorem specs_cons {gl:Glob} {f:Nat} {s:Spec} {l:List (Nat × Spec)} (h:FunOK' P gl f s) (t:∀ p∈l,FunOK' P gl p.1 p.2):∀ p∈(f,s) :: l,FunOK' P gl p.1 p.2:=fun p hp=>by
  rcases List.mem_cons.1 hp with rfl | hp
  · exact h
  · exact t p hp
end Go.Abs
