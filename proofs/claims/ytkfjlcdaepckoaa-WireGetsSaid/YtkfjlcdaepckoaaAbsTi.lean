/- The engine, part 21: the table of types, and what a program gives the evaluator. -/
import Derived.Test.YtkfjlcdaepckoaaAbsFn2
namespace Go.Abs
open Go Go.RowKit
variable {P:Program} {L:Nat->Prop} {w0:World}
def z3p:Value->Option SV
 | .int k n=>some (.sc (.int k) n)
 | .bool b=>some (.sc .bool b)
 | .slice none 0 0=>some .nils
 | .pointer none=>some .nilp
 | .string b=>some (.cstr b)
 | .map none=>some .mpn
 | .nilFunc=>some .nilf
 | _=>none
theorem y3q {v:Value} {s:SV} (h:z3p v=some s):s.isConst v:=by
 unfold z3p at h
 split at h<;>first | (cases h;done) | skip
 all_goals cases h
 ·exact⟨rfl,rfl,rfl⟩
 ·exact⟨rfl,rfl,rfl⟩
 ·rfl
 ·rfl
 ·rfl
 ·rfl
 ·rfl
def z6n (P:Program) (fd:Field):Option FI:=match P.info? fd.type,P.underlying fd.type with
 | some i,some d=>some { off:=fd.offset,size:=i.size,agg:=P7 d }
 | _,_=>none
def q35 {α β:Type} (f:α->Option β):List α->Option (List β)
 | []=>some []
 | x::r=>match f x,q35 f r with
  | some y,some l=>some (y::l)
  | _,_=>none
def z6u (P:Program):TypeDesc->Option (List FI)
 | .struct fs=>q35 (z6n P) fs.toList
 | .array n e=>(match P.info? e,P.underlying e with
  | some i,some d=>some ((List.range n).map fun j=>{ off:=j*i.size,size:=i.size,agg:=P7 d })
  | _,_=>none)
 | _=>some []
def y3l:TypeDesc->Bool
 | .struct _=>true
 | _=>false
def j4q:TypeDesc->Option (Nat×TypeId)
 | .array n e=>some (n,e)
 | _=>none
def y3m:TypeDesc->Bool
 | .string=>true
 | _=>false
def j7z:TypeDesc->Option (TypeId×TypeId)
 | .map k e=>some (k,e)
 | _=>none
def j5v:TypeDesc->Option TypeId
 | .slice e=>some e
 | _=>none
def q3x (P:Program) (t:TypeId):Bool:=match P.underlying t with
 | some d=>P7 d
 | none=>false
def q7w:Nat->Ty->Ty
 | 0,_=>.nil
 | n+1,t=>.cons t (q7w n t)
mutual
def R4 (P:Program):Nat->TypeId->Ty
 | 0,_=>.nil
 | n+1,t=>match P.underlying t with
  | some (.int k)=>.int k
  | some .bool=>.bool
  | some (.slice e)=>.list (R4 P n e)
  | some (.map k e)=>.map (q3x P k) (q3x P e) (R4 P n k) (R4 P n e)
  | some (.struct fs)=>q56 P n (fs.toList.map (·.type))
  | some (.array k e)=>q7w (cond (Nat.ble k 32) k 0) (R4 P n e)
  | _=>.nil
def q56 (P:Program):Nat->List TypeId->Ty
 | 0,_=>.nil
 | _+1,[]=>.nil
 | n+1,t::r=>.cons (R4 P n t) (q56 P n r)
end
theorem z9x (n:Nat) (t:Ty):(∀ k,q7w n t≠.int k)/\q7w n t≠.bool:=by
 cases n with
 | zero=>exact⟨(fun k h=>by cases h),(fun h=>by cases h)⟩
 | succ n=>exact⟨(fun k h=>by cases h),(fun h=>by cases h)⟩
theorem j2u (P:Program) (n:Nat) (l:List TypeId):(∀ k,q56 P n l≠.int k)/\q56 P n l≠.bool:=by
 unfold q56
 split
 ·exact⟨(fun k h=>by cases h),(fun h=>by cases h)⟩
 ·exact⟨(fun k h=>by cases h),(fun h=>by cases h)⟩
 ·exact⟨(fun k h=>by cases h),(fun h=>by cases h)⟩
theorem y48 {P:Program} {n:Nat} {t:TypeId} {k:IntKind} (h:R4 P n t=.int k):P.underlying t=some (.int k):=by
 cases n with
 | zero=>unfold R4 at h;cases h
 | succ n =>
  unfold R4 at h
  split at h
  ·rename_i hu;cases h;exact hu
  ·cases h
  ·cases h
  ·cases h
  ·exact absurd h ((j2u P n _).1 k)
  ·exact absurd h ((z9x _ _).1 k)
  ·cases h
theorem y47 {P:Program} {n:Nat} {t:TypeId} (h:R4 P n t=.bool):P.underlying t=some .bool:=by
 cases n with
 | zero=>unfold R4 at h;cases h
 | succ n =>
  unfold R4 at h
  split at h
  ·cases h
  ·rename_i hu;exact hu
  ·cases h
  ·cases h
  ·exact absurd h (j2u P n _).2
  ·exact absurd h (z9x _ _).2
  ·cases h
def z3s (P:Program) (t:TypeId):Option TInfo:=match P.info? t,P.underlying t with
 | some i,some d=>match i.zero with
  | some z=>match q35 z3p z.cells.toList,z6u P d with
   | some zs,some fl=>cond (Nat.beq z.cells.size i.size&&(q34 z==P7 d)) (some { agg:=P7 d,str:=y3l d,size:=i.size,bytes:=i.bytes,zeros:=zs,flds:=fl,elem:=j5v d,arr:=j4q d,ty:=R4 P 40 t,strg:=y3m d,eqo:=cond (P7 d&&!P.eqGuardType P.depth t&&Nat.beq (P.cellsOf t) i.size) (T8 P 20 t) none,mp:=j7z d }) none
   | _,_=>none
  | none=>none
 | _,_=>none
theorem q95 {α β:Type} {f:α->Option β}:∀ {l:List α} {r:List β},q35 f l=some r->l.length=r.length/\∀ (i:Nat) (x:α) (y:β),l[i]? = some x->r[i]? = some y->f x=some y
 | [],_,h=>by cases h;exact⟨rfl,fun i x y hx=>by simp at hx⟩
 | a::l,r,h=>by
  simp only[q35]at h
  split at h
  ·rename_i y l' hy hl
   cases h
   obtain⟨h1,h2⟩:=q95 hl
   refine⟨by simp[h1],fun i x y hx hy'=>?_⟩
   cases i with
   | zero=>simp at hx hy';subst hx;subst hy';exact hy
   | succ i=>exact h2 i x y (by simpa using hx) (by simpa using hy')
  ·cases h
theorem j2r {t:TypeId} {ti:TInfo} (h:z3s P t=some ti):ti.OK P t:=by
 unfold z3s at h
 split at h
 ·rename_i i d hi hd
  split at h
  ·rename_i z hz
   split at h
   ·rename_i zs fl hzs hfl
    obtain⟨hc,h⟩:=A7 h
    rw[Bool.and_eq_true]at hc
    have hcz:=hc.2
    have hc:=Nat.eq_of_beq_eq_true hc.1
    cases h
    obtain⟨l1,l2⟩:=q95 hzs
    refine⟨⟨⟨i,z,hi,rfl,rfl,hz,hc,by rw[<-l1];simpa using hc,fun j s c hs hcj=>y3q (l2 j c s (by simpa using hcj) hs)⟩,d,hd,rfl,?_,?_,?_⟩,?_,?_,?_,?_,?_,?_⟩
    ·cases d<;>first | exact .inl rfl | exact .inr ⟨_,rfl,rfl⟩
    ·intro k _ hk
     have:=y48 hk
     rw[hd]at this
     exact Option.some.inj this
    ·intro hs
     cases d with
     | struct fs =>
      obtain⟨m1,m2⟩:=q95 (l:=fs.toList) hfl
      refine⟨fs,rfl,by simpa using m1,fun f fi hfi=>?_⟩
      have hlt:f<fs.size:=by have:=(List.getElem?_eq_some_iff.1 hfi).1;rw[<-m1]at this;simpa using this
      have:=m2 f fs[f] fi (by simp[hlt]) hfi
      unfold z6n at this
      split at this
      ·rename_i i' d' hi' hd'
       cases this
       exact⟨fs[f],i',d',by simp[hlt],rfl,hi',rfl,hd',rfl⟩
      ·cases this
     | _=>cases hs
    ·intro _ hk
     exact y47 hk
    ·intro hs
     cases d<;>first | exact hd | cases hs
    ·intro k e hke
     cases d<;>first | (cases hke;exact hd) | cases hke
    ·intro i' z' hi' hz'
     rw[hi]at hi';cases hi'
     rw[hz]at hz';cases hz'
     simpa using hcz
    ·intro l hl
     obtain⟨h1,h2⟩:=A7 hl
     simp only[Bool.and_eq_true,Bool.not_eq_true']at h1
     exact⟨h2,h1.1.2,h1.1.1,Nat.eq_of_beq_eq_true h1.2⟩
    ·intro n e hne
     cases d with
     | array n' e' =>
      cases hne
      refine⟨hd,?_⟩
      simp only[z6u]at hfl
      split at hfl
      ·rename_i ie de hie hde
       cases hfl
       refine⟨ie,de,hie,hde,fun j fi hj=>?_⟩
       rw[List.getElem?_map]at hj
       cases hr:(List.range n)[j]? with
       | none=>rw[hr]at hj;cases hj
       | some q =>
        rw[hr]at hj
        have hq:q=j:=by
         obtain⟨hlt,he⟩:=List.getElem?_eq_some_iff.1 hr
         simp at he;exact he.symm
        subst hq
        cases hj
        exact⟨rfl,rfl⟩
      ·cases hfl
     | _=>cases hne
   ·cases h
  ·cases h
 ·cases h
def look {α:Type}:List (Nat×α)->Nat->Option α
 | [],_=>none
 | (i,a)::r,j=>cond (Nat.beq i j) (some a) (look r j)
theorem M7 {α:Type}:∀ {l:List (Nat×α)} {j:Nat} {a:α},look l j=some a->(j,a)∈l
 | [],_,_,h=>by cases h
 | (i,b)::r,j,a,h=>by
  simp only[look]at h
  cases hb:Nat.beq i j with
  | true=>rw[hb,cond_true]at h;cases h;rw[Nat.eq_of_beq_eq_true hb];exact List.mem_cons_self
  | false=>rw[hb,cond_false]at h;exact List.mem_cons_of_mem _ (M7 h)
abbrev O8:=List (Nat×(Nat×(Func×Ann)))
def q6v:O8->Nat->Nat->Option (Func×Ann)
 | [],_,_=>none
 | (i,(b,p))::r,f,ib=>cond (Nat.beq i f&&Nat.beq b ib) (some p) (q6v r f ib)
theorem z24:∀ {l:O8} {f ib:Nat} {p:Func×Ann},q6v l f ib=some p->∃ b,(f,(b,p))∈l
 | [],_,_,_,h=>by cases h
 | (i,(b,q))::r,f,ib,p,h=>by
  simp only[q6v]at h
  cases hb:(Nat.beq i f&&Nat.beq b ib)with
  | true =>
   rw[hb,cond_true]at h;cases h
   rw[Bool.and_eq_true]at hb
   rw[Nat.eq_of_beq_eq_true hb.1]
   exact⟨b,List.mem_cons_self⟩
  | false =>
   rw[hb,cond_false]at h
   obtain⟨b',hb'⟩:=z24 h
   exact⟨b',List.mem_cons_of_mem _ hb'⟩
abbrev W1:=List (Nat×(Ann×Ann))
def z2b (ms:List (Nat×(String×Nat))) (t:Nat) (n:String):Option Nat:=match look ms t with
 | some (m,f)=>cond (m==n) (some f) none
 | none=>none
theorem q73 {ms:List (Nat×(String×Nat))} {t:Nat} {n:String} {f:Nat} (h:z2b ms t n=some f):(t,(n,f))∈ms:=by
 unfold z2b at h
 split at h
 ·rename_i m f' hm
  obtain⟨h1,h2⟩:=A7 h
  cases h2
  rw[<-beq_iff_eq.1 h1]
  exact M7 hm
 ·cases h
noncomputable def q48 (ti:List (Nat×TInfo)) (sp:List (Nat×Spec)) (bd:O8) (rd:W1) (gl:List (Nat×(IntKind×Nat×List Int))) (pu:List Nat) (nb:List (Nat×Nat)) (sr:List Nat) (sn:List (Nat×Nat)) (ifs:List Nat) (ms:List (Nat×(String×Nat))) (dp:List (Nat×KTy)) (fz:List (Nat×List Nat)):Tables :=
 { TI:=look ti,sp:=look sp,inl:=fun f=>(look bd f).isSome,bd:=q6v bd,rd:=look rd,gl:=look gl,pur:=D6 pu,nb:=fun i=>(look nb i).getD 0,srt:=D6 sr,srn:=look sn,ifc:=D6 ifs,meth:=z2b ms,dp:=look dp,fz:=fun i=>(look fz i).getD [] }
noncomputable def E0 (ti:List (Nat×TInfo)) (sp:List (Nat×Spec)) (bd:O8) (rd:W1) (gl:List (Nat×(IntKind×Nat×List Int))) (pu:List Nat) (nb:List (Nat×Nat)) (sr:List Nat:=[]) (sn:List (Nat×Nat):=[]) (ifs:List Nat:=[]) (ms:List (Nat×(String×Nat)):=[]) (dp:List (Nat×KTy):=[]) (fz:List (Nat×List Nat):=[]):Ctx :=
 (q48 ti sp bd rd gl pu nb sr sn ifs ms dp fz).ctx (I5 (q48 ti sp bd rd gl pu nb sr sn ifs ms dp fz) 32).ic (I5 (q48 ti sp bd rd gl pu nb sr sn ifs ms dp fz) 32).yc
def V5 (P:Program) (ids:List Nat):List (Nat×Option TInfo):=ids.map fun t=>(t,z3s P t)
def V8 (P:Program) (f:Nat) (fn:Func):Prop:=P.funcs[f]? = some fn/\fn.body.isSome=true/\(fn.name== "runtime.NumGoroutine")=false
theorem z8l {ti:List (Nat×TInfo)} {sp:List (Nat×Spec)} {bd:O8} {rd:W1} {gl:List (Nat×(IntKind×Nat×List Int))} {pu:List Nat} {nb:List (Nat×Nat)} {sr:List Nat} {sn:List (Nat×Nat)} {ifs:List Nat} {ms:List (Nat×(String×Nat))} {dp:List (Nat×KTy)} {fz:List (Nat×List Nat)} (hmix:P.follows .mixedOrders=true) (hti:V5 P (ti.map (·.1))=ti.map fun p=>(p.1,some p.2)) (hsp:∀ p∈sp,FunOK' P (look gl) p.1 p.2)
  (hbd:∀ p∈bd,V8 P p.1 p.2.2.1) (hsr:∀ f∈sr,Sort1 P f) (hsn:∀ p∈sn,W2 P (look gl) p.1 p.2) (hif:∀ t∈ifs,∃ l,P.underlying t=some (.interface l)) (hms:∀ p∈ms,q1h P p.1 p.2.1 p.2.2):∀ L w0,GlobOK (look gl) w0->CtxOK P L w0 (E0 ti sp bd rd gl pu nb sr sn ifs ms dp fz):=fun L w0 hG =>
 have h1:∀ t i,look ti t=some i->i.OK P t:=fun t i h=>by
  have hm:=M7 h
  have h2:(t,some i)∈V5 P (ti.map (·.1)):=by rw[hti];exact List.mem_map.2 ⟨(t,i),hm,rfl⟩
  unfold V5 at h2
  obtain⟨u,_,hu⟩:=List.mem_map.1 h2
  simp only[Prod.mk.injEq]at hu
  obtain⟨rfl,hu⟩:=hu
  exact j2r hu
 have h2:=z57 (T:=q48 ti sp bd rd gl pu nb sr sn ifs ms dp fz) h1 (fun f s h=>hsp (f,s) (M7 h)) (fun f h=>hsr f (memb_iff.1 h)) (fun f k h=>hsn (f,k) (M7 h)) (fun t h=>hif t (memb_iff.1 h)) (fun t n f h=>hms (t,(n,f)) (q73 h)) (fun f g h=>by cases h) (fun f di h=>by cases h) (fun f h=>by
  cases hb:look bd f with
  | none=>change (look bd f).isSome=true at h;rw[hb]at h;cases h
  | some p=>exact⟨p.2.1,hbd (f,p) (M7 hb)⟩) (fun f ib fn an h=>by
  obtain⟨b,hb⟩:=z24 h
  exact hbd _ hb) hmix 32 L w0 hG
 { ti:=h1
   spec:=fun f s h=>hsp (f,s) (M7 h)
   glob:=hG
   ic:=h2.1
   yc:=h2.2
   srt:=fun f h=>hsr f (memb_iff.1 h)
   srn:=fun f k h=>hsn (f,k) (M7 h)
   ifc:=fun t h=>hif t (memb_iff.1 h)
   meth:=fun t n f h=>hms (t,(n,f)) (q73 h) }
noncomputable def q74 (ti:List (Nat×TInfo)) (sp:List (Nat×Spec)) (bd:O8) (rd:W1) (gl:List (Nat×(IntKind×Nat×List Int))) (pu:List Nat) (nb:List (Nat×Nat)) (sr:List Nat) (sn:List (Nat×Nat)) (ifs:List Nat) (ms:List (Nat×(String×Nat))) (dp:List (Nat×KTy)) (fz:List (Nat×List Nat)) (df:List (Nat×DefI)):Tables :=
 { q48 ti sp bd rd gl pu nb sr sn ifs ms dp fz with dfr:=look df }
noncomputable def z8k (ti:List (Nat×TInfo)) (sp:List (Nat×Spec)) (bd:O8) (rd:W1) (gl:List (Nat×(IntKind×Nat×List Int))) (pu:List Nat) (nb:List (Nat×Nat)) (sr:List Nat) (sn:List (Nat×Nat)) (ifs:List Nat) (ms:List (Nat×(String×Nat))) (dp:List (Nat×KTy)) (fz:List (Nat×List Nat)) (df:List (Nat×DefI)):Ctx :=
 (q74 ti sp bd rd gl pu nb sr sn ifs ms dp fz df).ctx (I5 (q74 ti sp bd rd gl pu nb sr sn ifs ms dp fz df) 32).ic (I5 (q74 ti sp bd rd gl pu nb sr sn ifs ms dp fz df) 32).yc
theorem j83 {ti:List (Nat×TInfo)} {sp:List (Nat×Spec)} {bd:O8} {rd:W1} {gl:List (Nat×(IntKind×Nat×List Int))} {pu:List Nat} {nb:List (Nat×Nat)} {sr:List Nat} {sn:List (Nat×Nat)} {ifs:List Nat} {ms:List (Nat×(String×Nat))} {dp:List (Nat×KTy)} {fz:List (Nat×List Nat)} {df:List (Nat×DefI)} (hmix:P.follows .mixedOrders=true) (hti:V5 P (ti.map (·.1))=ti.map fun p=>(p.1,some p.2)) (hsp:∀ p∈sp,FunOK' P (look gl) p.1 p.2)
  (hbd:∀ p∈bd,V8 P p.1 p.2.2.1) (hsr:∀ f∈sr,Sort1 P f) (hsn:∀ p∈sn,W2 P (look gl) p.1 p.2) (hif:∀ t∈ifs,∃ l,P.underlying t=some (.interface l)) (hms:∀ p∈ms,q1h P p.1 p.2.1 p.2.2) (hdf:∀ p∈df,DefF P p.2):∀ L w0,GlobOK (look gl) w0->CtxOK P L w0 (z8k ti sp bd rd gl pu nb sr sn ifs ms dp fz df):=fun L w0 hG =>
 have h1:∀ t i,look ti t=some i->i.OK P t:=fun t i h=>by
  have hm:=M7 h
  have h2:(t,some i)∈V5 P (ti.map (·.1)):=by rw[hti];exact List.mem_map.2 ⟨(t,i),hm,rfl⟩
  unfold V5 at h2
  obtain⟨u,_,hu⟩:=List.mem_map.1 h2
  simp only[Prod.mk.injEq]at hu
  obtain⟨rfl,hu⟩:=hu
  exact j2r hu
 have h2:=z57 (T:=q74 ti sp bd rd gl pu nb sr sn ifs ms dp fz df) h1 (fun f s h=>hsp (f,s) (M7 h)) (fun f h=>hsr f (memb_iff.1 h)) (fun f k h=>hsn (f,k) (M7 h)) (fun t h=>hif t (memb_iff.1 h)) (fun t n f h=>hms (t,(n,f)) (q73 h)) (fun f g h=>by cases h) (fun f di h=>hdf (f,di) (M7 h)) (fun f h=>by
  cases hb:look bd f with
  | none=>change (look bd f).isSome=true at h;rw[hb]at h;cases h
  | some p=>exact⟨p.2.1,hbd (f,p) (M7 hb)⟩) (fun f ib fn an h=>by
  obtain⟨b,hb⟩:=z24 h
  exact hbd _ hb) hmix 32 L w0 hG
 { ti:=h1
   spec:=fun f s h=>hsp (f,s) (M7 h)
   glob:=hG
   ic:=h2.1
   yc:=h2.2
   srt:=fun f h=>hsr f (memb_iff.1 h)
   srn:=fun f k h=>hsn (f,k) (M7 h)
   ifc:=fun t h=>hif t (memb_iff.1 h)
   meth:=fun t n f h=>hms (t,(n,f)) (q73 h) }
theorem j5q:∀ p∈([]:List (Nat×DefI)),DefF P p.2:=fun _ h=>by cases h
theorem j5p {f:Nat} {di:DefI} {l:List (Nat×DefI)} (h:DefF P di) (t:∀ p∈l,DefF P p.2):∀ p∈(f,di)::l,DefF P p.2:=fun p hp=>by
 rcases List.mem_cons.1 hp with rfl | hp
 ·exact h
 ·exact t p hp
theorem z2c {ti:List (Nat×TInfo)} {sp:List (Nat×Spec)} {bd:O8} {rd:W1} {gl:List (Nat×(IntKind×Nat×List Int))} {pu:List Nat} {nb:List (Nat×Nat)} {sr:List Nat} {sn:List (Nat×Nat)} (hmix:P.follows .mixedOrders=true) (hti:V5 P (ti.map (·.1))=ti.map fun p=>(p.1,some p.2)) (hsp:∀ p∈sp,FunOK' P (look gl) p.1 p.2)
 (hbd:∀ p∈bd,V8 P p.1 p.2.2.1) (hsr:∀ f∈sr,Sort1 P f) (hsn:∀ p∈sn,W2 P (look gl) p.1 p.2):∀ L w0,GlobOK (look gl) w0->CtxOK P L w0 (E0 ti sp bd rd gl pu nb sr sn):=z8l hmix hti hsp hbd hsr hsn (fun _ h=>by cases h) fun _ h=>by cases h
theorem j84 {ti:List (Nat×TInfo)} {sp:List (Nat×Spec)} {bd:O8} {rd:W1} {gl:List (Nat×(IntKind×Nat×List Int))} {pu:List Nat} {nb:List (Nat×Nat)} {sr:List Nat} (hmix:P.follows .mixedOrders=true) (hti:V5 P (ti.map (·.1))=ti.map fun p=>(p.1,some p.2)) (hsp:∀ p∈sp,FunOK' P (look gl) p.1 p.2)
 (hbd:∀ p∈bd,V8 P p.1 p.2.2.1) (hsr:∀ f∈sr,Sort1 P f):∀ L w0,GlobOK (look gl) w0->CtxOK P L w0 (E0 ti sp bd rd gl pu nb sr):=z2c hmix hti hsp hbd hsr fun _ h=>by cases h
theorem F5 {ti:List (Nat×TInfo)} {sp:List (Nat×Spec)} {bd:O8} {rd:W1} {gl:List (Nat×(IntKind×Nat×List Int))} {pu:List Nat} {nb:List (Nat×Nat)} (hmix:P.follows .mixedOrders=true) (hti:V5 P (ti.map (·.1))=ti.map fun p=>(p.1,some p.2)) (hsp:∀ p∈sp,FunOK' P (look gl) p.1 p.2)
 (hbd:∀ p∈bd,V8 P p.1 p.2.2.1):∀ L w0,GlobOK (look gl) w0->CtxOK P L w0 (E0 ti sp bd rd gl pu nb):=j84 hmix hti hsp hbd fun _ h=>by cases h
theorem q8c {gl:K5}:∀ p∈([]:List (Nat×Nat)),W2 P gl p.1 p.2:=fun _ h=>by cases h
theorem j17 {gl:K5} {f k:Nat} {l:List (Nat×Nat)} (h:W2 P gl f k) (t:∀ p∈l,W2 P gl p.1 p.2):∀ p∈(f,k)::l,W2 P gl p.1 p.2:=fun p hp=>by
 rcases List.mem_cons.1 hp with rfl | hp
 ·exact h
 ·exact t p hp
theorem z7j:∀ t∈([]:List Nat),∃ l,P.underlying t=some (.interface l):=fun _ h=>by cases h
theorem z8j:∀ p∈([]:List (Nat×(String×Nat))),q1h P p.1 p.2.1 p.2.2:=fun _ h=>by cases h
theorem q8d:∀ f∈([]:List Nat),Sort1 P f:=fun _ h=>by cases h
theorem E6:∀ p∈([]:O8),V8 P p.1 p.2.2.1:=fun _ h=>by cases h
theorem J3 {f b:Nat} {fn:Func} {an:Ann} {l:O8} (h:V8 P f fn) (t:∀ p∈l,V8 P p.1 p.2.2.1):∀ p∈(f,(b,(fn,an)))::l,V8 P p.1 p.2.2.1:=fun p hp=>by
 rcases List.mem_cons.1 hp with rfl | hp
 ·exact h
 ·exact t p hp
theorem E7 {gl:K5}:∀ p∈([]:List (Nat×Spec)),FunOK' P gl p.1 p.2:=fun _ h=>by cases h
theorem D4 {gl:K5} {f:Nat} {s:Spec} {l:List (Nat×Spec)} (h:FunOK' P gl f s) (t:∀ p∈l,FunOK' P gl p.1 p.2):∀ p∈(f,s)::l,FunOK' P gl p.1 p.2:=fun p hp=>by
 rcases List.mem_cons.1 hp with rfl | hp
 ·exact h
 ·exact t p hp
end Go.Abs
