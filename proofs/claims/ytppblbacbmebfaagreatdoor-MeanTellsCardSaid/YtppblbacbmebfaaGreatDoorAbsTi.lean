/- The engine, part 21: the table of types, and what a program gives the evaluator. -/
import Derived.Test.YtppblbacbmebfaaGreatDoorAbsFn2
namespace Go.Abs
open Go Go.RowKit
variable {P:Program} {L:Nat->Prop} {w0:World}
def j1m:Value->Option SV
 | .int k n=>some (.sc (.int k) n)
 | .bool b=>some (.sc .bool b)
 | .slice none 0 0=>some .nils
 | .pointer none=>some .nilp
 | .string b=>some (.cstr b)
 | .map none=>some .mpn
 | .nilFunc=>some .nilf
 | _=>none
theorem v6x {v:Value} {s:SV} (h:j1m v=some s):s.isConst v:=by
 unfold j1m at h
 split at h<;>first | (cases h;done) | skip
 all_goals cases h
 ·exact⟨rfl,rfl,rfl⟩
 ·exact⟨rfl,rfl,rfl⟩
 ·rfl
 ·rfl
 ·rfl
 ·rfl
 ·rfl
def j4w (P:Program) (fd:Field):Option FI:=match P.info? fd.type,P.underlying fd.type with
 | some i,some d=>some { off:=fd.offset,size:=i.size,agg:=V7 d }
 | _,_=>none
def q6f {α β:Type} (f:α->Option β):List α->Option (List β)
 | []=>some []
 | x::r=>match f x,q6f f r with
  | some y,some l=>some (y::l)
  | _,_=>none
def j52 (P:Program):TypeDesc->Option (List FI)
 | .struct fs=>q6f (j4w P) fs.toList
 | .array n e=>(match P.info? e,P.underlying e with
  | some i,some d=>some ((List.range n).map fun j=>{ off:=j*i.size,size:=i.size,agg:=V7 d })
  | _,_=>none)
 | _=>some []
def v6v:TypeDesc->Bool
 | .struct _=>true
 | _=>false
def y36:TypeDesc->Option (Nat×TypeId)
 | .array n e=>some (n,e)
 | _=>none
def v6w:TypeDesc->Bool
 | .string=>true
 | _=>false
def y8k:TypeDesc->Option (TypeId×TypeId)
 | .map k e=>some (k,e)
 | _=>none
def y4y:TypeDesc->Option TypeId
 | .slice e=>some e
 | _=>none
def q7i (P:Program) (t:TypeId):Bool:=match P.underlying t with
 | some d=>V7 d
 | none=>false
def z4e:Nat->Ty->Ty
 | 0,_=>.nil
 | n+1,t=>.cons t (z4e n t)
mutual
def W6 (P:Program):Nat->TypeId->Ty
 | 0,_=>.nil
 | n+1,t=>match P.underlying t with
  | some (.int k)=>.int k
  | some .bool=>.bool
  | some (.slice e)=>.list (W6 P n e)
  | some (.map k e)=>.map (q7i P k) (q7i P e) (W6 P n k) (W6 P n e)
  | some (.struct fs)=>q9l P n (fs.toList.map (·.type))
  | some (.array k e)=>z4e (cond (Nat.ble k 32) k 0) (W6 P n e)
  | _=>.nil
def q9l (P:Program):Nat->List TypeId->Ty
 | 0,_=>.nil
 | _+1,[]=>.nil
 | n+1,t::r=>.cons (W6 P n t) (q9l P n r)
end
theorem j7u (n:Nat) (t:Ty):(∀ k,z4e n t≠.int k)/\z4e n t≠.bool:=by
 cases n with
 | zero=>exact⟨(fun k h=>by cases h),(fun h=>by cases h)⟩
 | succ n=>exact⟨(fun k h=>by cases h),(fun h=>by cases h)⟩
theorem y0p (P:Program) (n:Nat) (l:List TypeId):(∀ k,q9l P n l≠.int k)/\q9l P n l≠.bool:=by
 unfold q9l
 split
 ·exact⟨(fun k h=>by cases h),(fun h=>by cases h)⟩
 ·exact⟨(fun k h=>by cases h),(fun h=>by cases h)⟩
 ·exact⟨(fun k h=>by cases h),(fun h=>by cases h)⟩
theorem v7e {P:Program} {n:Nat} {t:TypeId} {k:IntKind} (h:W6 P n t=.int k):P.underlying t=some (.int k):=by
 cases n with
 | zero=>unfold W6 at h;cases h
 | succ n =>
  unfold W6 at h
  split at h
  ·rename_i hu;cases h;exact hu
  ·cases h
  ·cases h
  ·cases h
  ·exact absurd h ((y0p P n _).1 k)
  ·exact absurd h ((j7u _ _).1 k)
  ·cases h
theorem v7d {P:Program} {n:Nat} {t:TypeId} (h:W6 P n t=.bool):P.underlying t=some .bool:=by
 cases n with
 | zero=>unfold W6 at h;cases h
 | succ n =>
  unfold W6 at h
  split at h
  ·cases h
  ·rename_i hu;exact hu
  ·cases h
  ·cases h
  ·exact absurd h (y0p P n _).2
  ·exact absurd h (j7u _ _).2
  ·cases h
def j1r (P:Program) (t:TypeId):Option TInfo:=match P.info? t,P.underlying t with
 | some i,some d=>match i.zero with
  | some z=>match q6f j1m z.cells.toList,j52 P d with
   | some zs,some fl=>cond (Nat.beq z.cells.size i.size&&(q4d z==V7 d)) (some { agg:=V7 d,str:=v6v d,size:=i.size,bytes:=i.bytes,zeros:=zs,flds:=fl,elem:=y4y d,arr:=y36 d,ty:=W6 P 40 t,strg:=v6w d,eqo:=cond (V7 d&&!P.eqGuardType P.depth t&&Nat.beq (P.cellsOf t) i.size) (q0h P 20 t) none,mp:=y8k d }) none
   | _,_=>none
  | none=>none
 | _,_=>none
theorem z5f {α β:Type} {f:α->Option β}:∀ {l:List α} {r:List β},q6f f l=some r->l.length=r.length/\∀ (i:Nat) (x:α) (y:β),l[i]? = some x->r[i]? = some y->f x=some y
 | [],_,h=>by cases h;exact⟨rfl,fun i x y hx=>by simp at hx⟩
 | a::l,r,h=>by
  simp only[q6f]at h
  split at h
  ·rename_i y l' hy hl
   cases h
   obtain⟨h1,h2⟩:=z5f hl
   refine⟨by simp[h1],fun i x y hx hy'=>?_⟩
   cases i with
   | zero=>simp at hx hy';subst hx;subst hy';exact hy
   | succ i=>exact h2 i x y (by simpa using hx) (by simpa using hy')
  ·cases h
theorem y0l {t:TypeId} {ti:TInfo} (h:j1r P t=some ti):ti.OK P t:=by
 unfold j1r at h
 split at h
 ·rename_i i d hi hd
  split at h
  ·rename_i z hz
   split at h
   ·rename_i zs fl hzs hfl
    obtain⟨hc,h⟩:=A8 h
    rw[Bool.and_eq_true]at hc
    have hcz:=hc.2
    have hc:=Nat.eq_of_beq_eq_true hc.1
    cases h
    obtain⟨l1,l2⟩:=z5f hzs
    refine⟨⟨⟨i,z,hi,rfl,rfl,hz,hc,by rw[<-l1];simpa using hc,fun j s c hs hcj=>v6x (l2 j c s (by simpa using hcj) hs)⟩,d,hd,rfl,?_,?_,?_⟩,?_,?_,?_,?_,?_,?_⟩
    ·cases d<;>first | exact .inl rfl | exact .inr ⟨_,rfl,rfl⟩
    ·intro k _ hk
     have:=v7e hk
     rw[hd]at this
     exact Option.some.inj this
    ·intro hs
     cases d with
     | struct fs =>
      obtain⟨m1,m2⟩:=z5f (l:=fs.toList) hfl
      refine⟨fs,rfl,by simpa using m1,fun f fi hfi=>?_⟩
      have hlt:f<fs.size:=by have:=(List.getElem?_eq_some_iff.1 hfi).1;rw[<-m1]at this;simpa using this
      have:=m2 f fs[f] fi (by simp[hlt]) hfi
      unfold j4w at this
      split at this
      ·rename_i i' d' hi' hd'
       cases this
       exact⟨fs[f],i',d',by simp[hlt],rfl,hi',rfl,hd',rfl⟩
      ·cases this
     | _=>cases hs
    ·intro _ hk
     exact v7d hk
    ·intro hs
     cases d<;>first | exact hd | cases hs
    ·intro k e hke
     cases d<;>first | (cases hke;exact hd) | cases hke
    ·intro i' z' hi' hz'
     rw[hi]at hi';cases hi'
     rw[hz]at hz';cases hz'
     simpa using hcz
    ·intro l hl
     obtain⟨h1,h2⟩:=A8 hl
     simp only[Bool.and_eq_true,Bool.not_eq_true']at h1
     exact⟨h2,h1.1.2,h1.1.1,Nat.eq_of_beq_eq_true h1.2⟩
    ·intro n e hne
     cases d with
     | array n' e' =>
      cases hne
      refine⟨hd,?_⟩
      simp only[j52]at hfl
      split at hfl
      ·rename_i ie de hie hde
       cases hfl
       refine⟨ie,de,hie,hde,fun j fi hj=>?_⟩
       rw[List.getElem?_map]at hj
       cases hr:(List.range n)[j]? with
       | none=>rw[hr]at hj;cases hj
       | some q =>
        rw[hr]at hj
        have hq:q=j:=by
         obtain⟨hlt,he⟩:=List.getElem?_eq_some_iff.1 hr
         simp at he;exact he.symm
        subst hq
        cases hj
        exact⟨rfl,rfl⟩
      ·cases hfl
     | _=>cases hne
   ·cases h
  ·cases h
 ·cases h
def look {α:Type}:List (Nat×α)->Nat->Option α
 | [],_=>none
 | (i,a)::r,j=>cond (Nat.beq i j) (some a) (look r j)
theorem S2 {α:Type}:∀ {l:List (Nat×α)} {j:Nat} {a:α},look l j=some a->(j,a)∈l
 | [],_,_,h=>by cases h
 | (i,b)::r,j,a,h=>by
  simp only[look]at h
  cases hb:Nat.beq i j with
  | true=>rw[hb,cond_true]at h;cases h;rw[Nat.eq_of_beq_eq_true hb];exact List.mem_cons_self
  | false=>rw[hb,cond_false]at h;exact List.mem_cons_of_mem _ (S2 h)
abbrev S8:=List (Nat×(Nat×(Func×Ann)))
def z1z:S8->Nat->Nat->Option (Func×Ann)
 | [],_,_=>none
 | (i,(b,p))::r,f,ib=>cond (Nat.beq i f&&Nat.beq b ib) (some p) (z1z r f ib)
theorem z9t:∀ {l:S8} {f ib:Nat} {p:Func×Ann},z1z l f ib=some p->∃ b,(f,(b,p))∈l
 | [],_,_,_,h=>by cases h
 | (i,(b,q))::r,f,ib,p,h=>by
  simp only[z1z]at h
  cases hb:(Nat.beq i f&&Nat.beq b ib)with
  | true =>
   rw[hb,cond_true]at h;cases h
   rw[Bool.and_eq_true]at hb
   rw[Nat.eq_of_beq_eq_true hb.1]
   exact⟨b,List.mem_cons_self⟩
  | false =>
   rw[hb,cond_false]at h
   obtain⟨b',hb'⟩:=z9t h
   exact⟨b',List.mem_cons_of_mem _ hb'⟩
abbrev q16:=List (Nat×(Ann×Ann))
def j02 (ms:List (Nat×(String×Nat))) (t:Nat) (n:String):Option Nat:=match look ms t with
 | some (m,f)=>cond (m==n) (some f) none
 | none=>none
theorem j03 {ms:List (Nat×(String×Nat))} {t:Nat} {n:String} {f:Nat} (h:j02 ms t n=some f):(t,(n,f))∈ms:=by
 unfold j02 at h
 split at h
 ·rename_i m f' hm
  obtain⟨h1,h2⟩:=A8 h
  cases h2
  rw[<-beq_iff_eq.1 h1]
  exact S2 hm
 ·cases h
noncomputable def q84 (ti:List (Nat×TInfo)) (sp:List (Nat×Spec)) (bd:S8) (rd:q16) (gl:List (Nat×(IntKind×Nat×List Int))) (pu:List Nat) (nb:List (Nat×Nat)) (sr:List Nat) (sn:List (Nat×Nat)) (ifs:List Nat) (ms:List (Nat×(String×Nat))) (dp:List (Nat×KTy)) (fz:List (Nat×List Nat)):Tables :=
 { TI:=look ti,sp:=look sp,inl:=fun f=>(look bd f).isSome,bd:=z1z bd,rd:=look rd,gl:=look gl,pur:=E4 pu,nb:=fun i=>(look nb i).getD 0,srt:=E4 sr,srn:=look sn,ifc:=E4 ifs,meth:=j02 ms,dp:=look dp,fz:=fun i=>(look fz i).getD [] }
noncomputable def D4 (ti:List (Nat×TInfo)) (sp:List (Nat×Spec)) (bd:S8) (rd:q16) (gl:List (Nat×(IntKind×Nat×List Int))) (pu:List Nat) (nb:List (Nat×Nat)) (sr:List Nat:=[]) (sn:List (Nat×Nat):=[]) (ifs:List Nat:=[]) (ms:List (Nat×(String×Nat)):=[]) (dp:List (Nat×KTy):=[]) (fz:List (Nat×List Nat):=[]):Ctx :=
 (q84 ti sp bd rd gl pu nb sr sn ifs ms dp fz).ctx (J7 (q84 ti sp bd rd gl pu nb sr sn ifs ms dp fz) 32).ic (J7 (q84 ti sp bd rd gl pu nb sr sn ifs ms dp fz) 32).yc
def q10 (P:Program) (ids:List Nat):List (Nat×Option TInfo):=ids.map fun t=>(t,j1r P t)
def q08 (P:Program) (f:Nat) (fn:Func):Prop:=P.funcs[f]? = some fn/\fn.body.isSome=true/\(fn.name== "runtime.NumGoroutine")=false
theorem z2n {ti:List (Nat×TInfo)} {sp:List (Nat×Spec)} {bd:S8} {rd:q16} {gl:List (Nat×(IntKind×Nat×List Int))} {pu:List Nat} {nb:List (Nat×Nat)} {sr:List Nat} {sn:List (Nat×Nat)} {ifs:List Nat} {ms:List (Nat×(String×Nat))} {dp:List (Nat×KTy)} {fz:List (Nat×List Nat)} (hmix:P.follows .mixedOrders=true) (hti:q10 P (ti.map (·.1))=ti.map fun p=>(p.1,some p.2)) (hsp:∀ p∈sp,FunOK' P (look gl) p.1 p.2)
  (hbd:∀ p∈bd,q08 P p.1 p.2.2.1) (hsr:∀ f∈sr,Sort1 P f) (hsn:∀ p∈sn,q0b P (look gl) p.1 p.2) (hif:∀ t∈ifs,∃ l,P.underlying t=some (.interface l)) (hms:∀ p∈ms,q0a P p.1 p.2.1 p.2.2):∀ L w0,GlobOK (look gl) w0->CtxOK P L w0 (D4 ti sp bd rd gl pu nb sr sn ifs ms dp fz):=fun L w0 hG =>
 have h1:∀ t i,look ti t=some i->i.OK P t:=fun t i h=>by
  have hm:=S2 h
  have h2:(t,some i)∈q10 P (ti.map (·.1)):=by rw[hti];exact List.mem_map.2 ⟨(t,i),hm,rfl⟩
  unfold q10 at h2
  obtain⟨u,_,hu⟩:=List.mem_map.1 h2
  simp only[Prod.mk.injEq]at hu
  obtain⟨rfl,hu⟩:=hu
  exact y0l hu
 have h2:=j3e (T:=q84 ti sp bd rd gl pu nb sr sn ifs ms dp fz) h1 (fun f s h=>hsp (f,s) (S2 h)) (fun f h=>hsr f (memb_iff.1 h)) (fun f k h=>hsn (f,k) (S2 h)) (fun t h=>hif t (memb_iff.1 h)) (fun t n f h=>hms (t,(n,f)) (j03 h)) (fun f g h=>by cases h) (fun f di h=>by cases h) (fun f h=>by
  cases hb:look bd f with
  | none=>change (look bd f).isSome=true at h;rw[hb]at h;cases h
  | some p=>exact⟨p.2.1,hbd (f,p) (S2 hb)⟩) (fun f ib fn an h=>by
  obtain⟨b,hb⟩:=z9t h
  exact hbd _ hb) hmix 32 L w0 hG
 { ti:=h1
   spec:=fun f s h=>hsp (f,s) (S2 h)
   glob:=hG
   ic:=h2.1
   yc:=h2.2
   srt:=fun f h=>hsr f (memb_iff.1 h)
   srn:=fun f k h=>hsn (f,k) (S2 h)
   ifc:=fun t h=>hif t (memb_iff.1 h)
   meth:=fun t n f h=>hms (t,(n,f)) (j03 h) }
noncomputable def j04 (ti:List (Nat×TInfo)) (sp:List (Nat×Spec)) (bd:S8) (rd:q16) (gl:List (Nat×(IntKind×Nat×List Int))) (pu:List Nat) (nb:List (Nat×Nat)) (sr:List Nat) (sn:List (Nat×Nat)) (ifs:List Nat) (ms:List (Nat×(String×Nat))) (dp:List (Nat×KTy)) (fz:List (Nat×List Nat)) (df:List (Nat×DefI)):Tables :=
 { q84 ti sp bd rd gl pu nb sr sn ifs ms dp fz with dfr:=look df }
theorem y4t:∀ p∈([]:List (Nat×DefI)),DefF P p.2:=fun _ h=>by cases h
theorem y4s {f:Nat} {di:DefI} {l:List (Nat×DefI)} (h:DefF P di) (t:∀ p∈l,DefF P p.2):∀ p∈(f,di)::l,DefF P p.2:=fun p hp=>by
 rcases List.mem_cons.1 hp with rfl | hp
 ·exact h
 ·exact t p hp
theorem j6p {ti:List (Nat×TInfo)} {sp:List (Nat×Spec)} {bd:S8} {rd:q16} {gl:List (Nat×(IntKind×Nat×List Int))} {pu:List Nat} {nb:List (Nat×Nat)} {sr:List Nat} {sn:List (Nat×Nat)} (hmix:P.follows .mixedOrders=true) (hti:q10 P (ti.map (·.1))=ti.map fun p=>(p.1,some p.2)) (hsp:∀ p∈sp,FunOK' P (look gl) p.1 p.2)
 (hbd:∀ p∈bd,q08 P p.1 p.2.2.1) (hsr:∀ f∈sr,Sort1 P f) (hsn:∀ p∈sn,q0b P (look gl) p.1 p.2):∀ L w0,GlobOK (look gl) w0->CtxOK P L w0 (D4 ti sp bd rd gl pu nb sr sn):=z2n hmix hti hsp hbd hsr hsn (fun _ h=>by cases h) fun _ h=>by cases h
theorem y94 {ti:List (Nat×TInfo)} {sp:List (Nat×Spec)} {bd:S8} {rd:q16} {gl:List (Nat×(IntKind×Nat×List Int))} {pu:List Nat} {nb:List (Nat×Nat)} {sr:List Nat} (hmix:P.follows .mixedOrders=true) (hti:q10 P (ti.map (·.1))=ti.map fun p=>(p.1,some p.2)) (hsp:∀ p∈sp,FunOK' P (look gl) p.1 p.2)
 (hbd:∀ p∈bd,q08 P p.1 p.2.2.1) (hsr:∀ f∈sr,Sort1 P f):∀ L w0,GlobOK (look gl) w0->CtxOK P L w0 (D4 ti sp bd rd gl pu nb sr):=j6p hmix hti hsp hbd hsr fun _ h=>by cases h
theorem E6 {ti:List (Nat×TInfo)} {sp:List (Nat×Spec)} {bd:S8} {rd:q16} {gl:List (Nat×(IntKind×Nat×List Int))} {pu:List Nat} {nb:List (Nat×Nat)} (hmix:P.follows .mixedOrders=true) (hti:q10 P (ti.map (·.1))=ti.map fun p=>(p.1,some p.2)) (hsp:∀ p∈sp,FunOK' P (look gl) p.1 p.2)
 (hbd:∀ p∈bd,q08 P p.1 p.2.2.1):∀ L w0,GlobOK (look gl) w0->CtxOK P L w0 (D4 ti sp bd rd gl pu nb):=y94 hmix hti hsp hbd fun _ h=>by cases h
theorem q9f {gl:L4}:∀ p∈([]:List (Nat×Nat)),q0b P gl p.1 p.2:=fun _ h=>by cases h
theorem v6m {gl:L4} {f k:Nat} {l:List (Nat×Nat)} (h:q0b P gl f k) (t:∀ p∈l,q0b P gl p.1 p.2):∀ p∈(f,k)::l,q0b P gl p.1 p.2:=fun p hp=>by
 rcases List.mem_cons.1 hp with rfl | hp
 ·exact h
 ·exact t p hp
def z99 (P:Program) (T:TypeId):Bool:=match P.underlying T with
 | some (.interface _)=>true
 | _=>false
theorem y70 {T:TypeId} (h:z99 P T=true):∃ l,P.underlying T=some (.interface l):=by
 unfold z99 at h
 split at h
 ·rename_i l hl;exact⟨l,hl⟩
 ·cases h
theorem z1p:∀ t∈([]:List Nat),∃ l,P.underlying t=some (.interface l):=fun _ h=>by cases h
theorem y73 {t:Nat} {l:List Nat} (h:z99 P t=true) (r:∀ t∈l,∃ l,P.underlying t=some (.interface l)):∀ u∈t::l,∃ l,P.underlying u=some (.interface l):=fun u hu=>by
 rcases List.mem_cons.1 hu with rfl | hu
 ·exact y70 h
 ·exact r u hu
def v7s (P:Program) (T:TypeId):List (String×Nat):=match P.info? T with
 | some i=>i.methods.toList.filterMap fun m=>match m.path.toList,m.func with
  | [],some (f,false)=>some (m.name,f)
  | _,_=>none
 | none=>[]
def j01 (P:Program) (T:TypeId) (n:String) (f:FuncId):Bool:=match P.info? T,P.underlying T with
 | some i,some d=>(match i.methods.find? (·.name==n)with
  | some m=>(match m.path.toList,m.func with
   | [],some (g,false)=>Nat.beq g f
   | _,_=>false)&&(match d with
   | .pointer _=>false
   | _=>true)
  | none=>false)
 | _,_=>false
theorem y91 {T:TypeId} {n:String} {f:FuncId} (h:j01 P T n f=true):q0a P T n f:=by
 unfold j01 at h
 split at h
 ·rename_i i d hi hd
  split at h
  ·rename_i m hm
   rw[Bool.and_eq_true]at h
   obtain⟨h1,h2⟩:=h
   split at h1
   ·rename_i g hp hf
    have:=Nat.eq_of_beq_eq_true h1
    subst this
    refine⟨i,m,d,hi,hm,Array.toList_inj.1 hp,hf,hd,fun e he=>?_⟩
    subst he;cases h2
   ·cases h1
  ·cases h
 ·cases h
theorem z2m:∀ p∈([]:List (Nat×(String×Nat))),q0a P p.1 p.2.1 p.2.2:=fun _ h=>by cases h
theorem z2l {q:Nat×(String×Nat)} {l:List (Nat×(String×Nat))} (h:j01 P q.1 q.2.1 q.2.2=true) (r:∀ p∈l,q0a P p.1 p.2.1 p.2.2):∀ p∈q::l,q0a P p.1 p.2.1 p.2.2:=fun p hp=>by
 rcases List.mem_cons.1 hp with rfl | hp
 ·exact y91 h
 ·exact r p hp
theorem q9g:∀ f∈([]:List Nat),Sort1 P f:=fun _ h=>by cases h
theorem D7:∀ p∈([]:S8),q08 P p.1 p.2.2.1:=fun _ h=>by cases h
theorem E5 {f b:Nat} {fn:Func} {an:Ann} {l:S8} (h:q08 P f fn) (t:∀ p∈l,q08 P p.1 p.2.2.1):∀ p∈(f,(b,(fn,an)))::l,q08 P p.1 p.2.2.1:=fun p hp=>by
 rcases List.mem_cons.1 hp with rfl | hp
 ·exact h
 ·exact t p hp
theorem D8 {gl:L4}:∀ p∈([]:List (Nat×Spec)),FunOK' P gl p.1 p.2:=fun _ h=>by cases h
theorem C4 {gl:L4} {f:Nat} {s:Spec} {l:List (Nat×Spec)} (h:FunOK' P gl f s) (t:∀ p∈l,FunOK' P gl p.1 p.2):∀ p∈(f,s)::l,FunOK' P gl p.1 p.2:=fun p hp=>by
 rcases List.mem_cons.1 hp with rfl | hp
 ·exact h
 ·exact t p hp
end Go.Abs
