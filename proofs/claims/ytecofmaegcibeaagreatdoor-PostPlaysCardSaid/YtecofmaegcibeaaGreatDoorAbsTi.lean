/- The engine, part 21: the table of types, and what a program gives the evaluator. -/
import Derived.Test.YtecofmaegcibeaaGreatDoorAbsFn2
namespace Go.Abs
open Go Go.RowKit
variable {P:Program} {L:Nat->Prop} {w0:World}
def j5l:Value->Option SV
 | .int k n=>some (.sc (.int k) n)
 | .bool b=>some (.sc .bool b)
 | .slice none 0 0=>some .nils
 | .pointer none=>some .nilp
 | .string b=>some (.cstr b)
 | .map none=>some .mpn
 | .nilFunc=>some .nilf
 | _=>none
theorem k4a {v:Value} {s:SV} (h:j5l v=some s):s.isConst v:=by
 unfold j5l at h;split at h<;>first | (cases h;done) | skip
 all_goals cases h
 ·exact⟨rfl,rfl,rfl⟩
 ·exact⟨rfl,rfl,rfl⟩
 ·rfl
 ·rfl
 ·rfl
 ·rfl
 ·rfl
def j9e (P:Program) (fd:Field):Option FI:=match P.info? fd.type,P.underlying fd.type with
 | some i,some d=>some { off:=fd.offset,size:=i.size,agg:=X5 d }
 | _,_=>none
def K2 {α β:Type} (f:α->Option β):List α->Option (List β)
 | []=>some []
 | x::r=>match f x,K2 f r with
  | some y,some l=>some (y::l)
  | _,_=>none
def j9k (P:Program):TypeDesc->Option (List FI)
 | .struct fs=>K2 (j9e P) fs.toList
 | .array n e=>(match P.info? e,P.underlying e with
  | some i,some d=>some ((List.range n).map λj=>{ off:=j*i.size,size:=i.size,agg:=X5 d })
  | _,_=>none)
 | _=>some []
def k40:TypeDesc->Bool
 | .struct _=>true
 | _=>false
def v1v:TypeDesc->Option (Nat×TypeId)
 | .array n e=>some (n,e)
 | _=>none
def k41:TypeDesc->Bool
 | .string=>true
 | _=>false
def v7e:TypeDesc->Option (TypeId×TypeId)
 | .map k e=>some (k,e)
 | _=>none
def v3t:TypeDesc->Option TypeId
 | .slice e=>some e
 | _=>none
def q96 (P:Program) (t:TypeId):Bool:=match P.underlying t with
 | some d=>X5 d
 | none=>false
def z7x:Nat->Ty->Ty
 | 0,_=>.nil
 | n+1,t=>.cons t (z7x n t)
mutual
def q03 (P:Program):Nat->TypeId->Ty
 | 0,_=>.nil
 | n+1,t=>match P.underlying t with
  | some (.int k)=>.int k
  | some .bool=>.bool
  | some (.slice e)=>.list (q03 P n e)
  | some (.map k e)=>.map (q96 P k) (q96 P e) (q03 P n k) (q03 P n e)
  | some (.struct fs)=>z2n P n (fs.toList.map (·.type))
  | some (.array k e)=>z7x (cond (Nat.ble k 32) k 0) (q03 P n e)
  | _=>.nil
def z2n (P:Program):Nat->List TypeId->Ty
 | 0,_=>.nil
 | _+1,[]=>.nil
 | n+1,t::r=>.cons (q03 P n t) (z2n P n r)
end
theorem y4f (n:Nat) (t:Ty):(∀k,z7x n t≠.int k)/\z7x n t≠.bool:=by
 cases n with
 | zero=>exact⟨(λk h=>by cases h),(λh=>by cases h)⟩
 | succ n=>exact⟨(λk h=>by cases h),(λh=>by cases h)⟩
theorem y8e (P:Program) (n:Nat) (l:List TypeId):(∀k,z2n P n l≠.int k)/\z2n P n l≠.bool:=by
 unfold z2n;split
 ·exact⟨(λk h=>by cases h),(λh=>by cases h)⟩
 ·exact⟨(λk h=>by cases h),(λh=>by cases h)⟩
 ·exact⟨(λk h=>by cases h),(λh=>by cases h)⟩
variable {t:TypeId}
theorem k4o {P:Program} {n:Nat} {k:IntKind} (h:q03 P n t=.int k):P.underlying t=some (.int k):=by
 cases n with
 | zero=>unfold q03 at h;cases h
 | succ n =>
  unfold q03 at h;split at h
  ·rename_i hu;cases h;exact hu
  ·cases h
  ·cases h
  ·cases h
  ·exact absurd h ((y8e P n _).1 k)
  ·exact absurd h ((y4f _ _).1 k)
  ·cases h
theorem k4n {P:Program} {n:Nat} (h:q03 P n t=.bool):P.underlying t=some .bool:=by
 cases n with
 | zero=>unfold q03 at h;cases h
 | succ n =>
  unfold q03 at h;split at h
  ·cases h
  ·rename_i hu;exact hu
  ·cases h
  ·cases h
  ·exact absurd h (y8e P n _).2
  ·exact absurd h (y4f _ _).2
  ·cases h
def j5s (P:Program) (t:TypeId):Option TInfo:=match P.info? t,P.underlying t with
 | some i,some d=>match i.zero with
  | some z=>match K2 j5l z.cells.toList,j9k P d with
   | some zs,some fl=>cond (Nat.beq z.cells.size i.size&&(z3a z==X5 d)) (some { agg:=X5 d,str:=k40 d,size:=i.size,bytes:=i.bytes,zeros:=zs,flds:=fl,elem:=v3t d,arr:=v1v d,ty:=q03 P 40 t,strg:=k41 d,eqo:=cond (X5 d&&!P.eqGuardType P.depth t&&Nat.beq (P.cellsOf t) i.size) (q18 P 20 t) none,mp:=v7e d }) none
   | _,_=>none
  | none=>none
 | _,_=>none
theorem z9t {α β:Type} {f:α->Option β}:∀{l:List α} {r:List β},K2 f l=some r->l.length=r.length/\∀(i:Nat) (x:α) (y:β),l[i]? = some x->r[i]? = some y->f x=some y
 | [],_,h=>by cases h;exact⟨rfl,λi x y hx=>by simp at hx⟩
 | a::l,r,h=>by
  simp only[K2]at h;split at h
  ·rename_i y l' hy hl;cases h;obtain⟨h1,h2⟩:=z9t hl;refine⟨by simp[h1],λi x y hx hy'=>?_⟩;cases i with
   | zero=>simp at hx hy';subst hx;subst hy';exact hy
   | succ i=>exact h2 i x y (by simpa using hx) (by simpa using hy')
  ·cases h
theorem k4h {ti:TInfo} (h:j5s P t=some ti):ti.OK P t:=by
 unfold j5s at h;split at h
 ·rename_i i d hi hd;split at h
  ·rename_i z hz;split at h
   ·rename_i zs fl hzs hfl;obtain⟨hc,h⟩:=B1 h;rw[ac]at hc;have hcz:=hc.2;have hc:=ab hc.1;cases h;obtain⟨l1,l2⟩:=z9t hzs;refine⟨⟨⟨i,z,hi,rfl,rfl,hz,hc,by rw[<-l1];simpa using hc,λj s c hs hcj=>k4a (l2 j c s (by simpa using hcj) hs)⟩,d,hd,rfl,?_,?_,?_⟩,?_,?_,?_,?_,?_,?_⟩
    ·cases d<;>first | exact .inl rfl | exact .inr ⟨_,rfl,rfl⟩
    ·intro k _ hk;have:=k4o hk;rw[hd]at this;exact bI this
    ·intro hs;cases d with
     | struct fs =>
      obtain⟨m1,m2⟩:=z9t (l:=fs.toList) hfl;refine⟨fs,rfl,by simpa using m1,λf fi hfi=>?_⟩;have hlt:f<fs.size:=by have:=(ag.1 hfi).1;rw[<-m1]at this;simpa using this
      have:=m2 f fs[f] fi (by simp[hlt]) hfi;unfold j9e at this;split at this
      ·rename_i i' d' hi' hd';cases this;exact⟨fs[f],i',d',by simp[hlt],rfl,hi',rfl,hd',rfl⟩
      ·cases this
     | _=>cases hs
    ·intro _ hk;exact k4n hk
    ·intro hs;cases d<;>first | exact hd | cases hs
    ·intro k e hke;cases d<;>first | (cases hke;exact hd) | cases hke
    ·intro i' z' hi' hz';rw[hi]at hi';cases hi';rw[hz]at hz';cases hz';simpa using hcz
    ·intro l hl;obtain⟨h1,h2⟩:=B1 hl;simp only[ac,aU]at h1;exact⟨h2,h1.1.2,h1.1.1,ab h1.2⟩
    ·intro n e hne;cases d with
     | array n' e' =>
      cases hne;refine⟨hd,?_⟩;simp only[j9k]at hfl;split at hfl
      ·rename_i ie de hie hde;cases hfl;refine⟨ie,de,hie,hde,λj fi hj=>?_⟩;rw[bK]at hj;cases hr:(List.range n)[j]? with
       | none=>rw[hr]at hj;cases hj
       | some q =>
        rw[hr]at hj;have hq:q=j:=by
         obtain⟨hlt,he⟩:=ag.1 hr;simp at he;exact he.symm
        subst hq;cases hj;exact⟨rfl,rfl⟩
      ·cases hfl
     | _=>cases hne
   ·cases h
  ·cases h
 ·cases h
def look {α:Type}:List (Nat×α)->Nat->Option α
 | [],_=>none
 | (i,a)::r,j=>cond (Nat.beq i j) (some a) (look r j)
theorem q2f {α:Type}:∀{l:List (Nat×α)} {j:Nat} {a:α},look l j=some a->(j,a)∈l
 | [],_,_,h=>by cases h
 | (i,b)::r,j,a,h=>by
  simp only[look]at h;cases hb:Nat.beq i j with
  | true=>rw[hb,cond_true]at h;cases h;rw[ab hb];exact ar
  | false=>rw[hb,cond_false]at h;exact aj _ (q2f h)
abbrev q0v:=List (Nat×(Nat×(Func×Ann)))
def z5k:q0v->Nat->Nat->Option (Func×Ann)
 | [],_,_=>none
 | (i,(b,p))::r,f,ib=>cond (Nat.beq i f&&Nat.beq b ib) (some p) (z5k r f ib)
theorem y1k:∀{l:q0v} {f ib:Nat} {p:Func×Ann},z5k l f ib=some p->∃b,(f,(b,p))∈l
 | [],_,_,_,h=>by cases h
 | (i,(b,q))::r,f,ib,p,h=>by
  simp only[z5k]at h;cases hb:(Nat.beq i f&&Nat.beq b ib)with
  | true =>
   rw[hb,cond_true]at h;cases h;rw[ac]at hb;rw[ab hb.1];exact⟨b,ar⟩
  | false =>
   rw[hb,cond_false]at h;obtain⟨b',hb'⟩:=y1k h;exact⟨b',aj _ hb'⟩
abbrev z9p:=List (Nat×(Ann×Ann))
def j3e (ms:List (Nat×(String×Nat))) (t:Nat) (n:String):Option Nat:=match look ms t with
 | some (m,f)=>cond (m==n) (some f) none
 | none=>none
variable {f:Nat} {ms:List (Nat×(String×Nat))}
theorem y23 {t:Nat} {n:String} (h:j3e ms t n=some f):(t,(n,f))∈ms:=by
 unfold j3e at h;split at h
 ·rename_i m f' hm;obtain⟨h1,h2⟩:=B1 h;cases h2;rw[<-beq_iff_eq.1 h1];exact q2f hm
 ·cases h
noncomputable def z5t (ti:List (Nat×TInfo)) (sp:List (Nat×Spec)) (bd:q0v) (rd:z9p) (gl:List (Nat×(IntKind×Nat×List Int))) (pu:List Nat) (nb:List (Nat×Nat)) (sr:List Nat) (sn:List (Nat×Nat)) (ifs:List Nat) (ms:List (Nat×(String×Nat))) (dp:List (Nat×OT)) (fz:List (Nat×List (Nat×(Nat×Nat)))):Tables :=
 { TI:=look ti,sp:=look sp,inl:=λf=>(look bd f).isSome,bd:=z5k bd,rd:=look rd,gl:=look gl,pur:=E2 pu,nb:=λi=>(look nb i).getD 0,srt:=E2 sr,srn:=look sn,ifc:=E2 ifs,meth:=j3e ms,dp:=look dp,pre:=λi=>(look fz i).getD [] }
noncomputable def B7 (ti:List (Nat×TInfo)) (sp:List (Nat×Spec)) (bd:q0v) (rd:z9p) (gl:List (Nat×(IntKind×Nat×List Int))) (pu:List Nat) (nb:List (Nat×Nat)) (sr:List Nat:=[]) (sn:List (Nat×Nat):=[]) (ifs:List Nat:=[]) (ms:List (Nat×(String×Nat)):=[]) (dp:List (Nat×OT):=[]) (fz:List (Nat×List (Nat×(Nat×Nat))):=[]):Ctx :=
 (z5t ti sp bd rd gl pu nb sr sn ifs ms dp fz).ctx (L3 (z5t ti sp bd rd gl pu nb sr sn ifs ms dp fz) 32).ic (L3 (z5t ti sp bd rd gl pu nb sr sn ifs ms dp fz) 32).yc
def q5n (P:Program) (ids:List Nat):List (Nat×Option TInfo):=ids.map λt=>(t,j5s P t)
def q31 (P:Program) (f:Nat) (fn:Func):Prop:=P.funcs[f]? = some fn/\fn.body.isSome=true/\(fn.name== "runtime.NumGoroutine")=false
variable {ti:List (Nat×TInfo)} {rd:z9p} {pu:List Nat} {nb:List (Nat×Nat)}
theorem z5s {sp:List (Nat×Spec)} {bd:q0v} {gl:List (Nat×(IntKind×Nat×List Int))} {sr:List Nat} {sn:List (Nat×Nat)} {ifs:List Nat} {ms:List (Nat×(String×Nat))} {dp:List (Nat×OT)} {fz:List (Nat×List (Nat×(Nat×Nat)))} (hmix:P.follows .mixedOrders=true) (hti:q5n P (ti.map (·.1))=ti.map λp=>(p.1,some p.2)) (hsp:∀p∈sp,FunOK' P (look gl) p.1 p.2) (hbd:∀p∈bd,q31 P p.1 p.2.2.1) (hsr:∀f∈sr,Sort1 P f) (hsn:∀p∈sn,q20 P (look gl) p.1 p.2) (hif:∀t∈ifs,∃l,P.underlying t=some (.interface l)) (hms:∀p∈ms,z2t P p.1 p.2.1 p.2.2):∀L w0,GlobOK (look gl) w0->CtxOK P L w0 (B7 ti sp bd rd gl pu nb sr sn ifs ms dp fz):=λL w0 hG =>
 have h1:∀t i,look ti t=some i->i.OK P t:=λt i h=>by
  have hm:=q2f h;have h2:(t,some i)∈q5n P (ti.map (·.1)):=by rw[hti];exact aW.2 ⟨(t,i),hm,rfl⟩
  unfold q5n at h2;obtain⟨u,_,hu⟩:=aW.1 h2;simp only[bZ]at hu;obtain⟨rfl,hu⟩:=hu;exact k4h hu
 have h2:=v2f (T:=z5t ti sp bd rd gl pu nb sr sn ifs ms dp fz) h1 (λf s h=>hsp (f,s) (q2f h)) (λf h=>hsr f (memb_iff.1 h)) (λf k h=>hsn (f,k) (q2f h)) (λt h=>hif t (memb_iff.1 h)) (λt n f h=>hms (t,(n,f)) (y23 h)) (λf g h=>by cases h) (λf di h=>by cases h) (λf h=>by
  cases hb:look bd f with
  | none=>change (look bd f).isSome=true at h;rw[hb]at h;cases h
  | some p=>exact⟨p.2.1,hbd (f,p) (q2f hb)⟩) (λf ib fn an h=>by
  obtain⟨b,hb⟩:=y1k h;exact hbd _ hb) hmix 32 L w0 hG
 { ti:=h1
   spec:=λf s h=>hsp (f,s) (q2f h)
   glob:=hG
   ic:=h2.1
   yc:=h2.2
   srt:=λf h=>hsr f (memb_iff.1 h)
   srn:=λf k h=>hsn (f,k) (q2f h)
   ifc:=λt h=>hif t (memb_iff.1 h)
   meth:=λt n f h=>hms (t,(n,f)) (y23 h) }
theorem y24 {sp:List (Nat×Spec)} {bd:q0v} {gl:List (Nat×(IntKind×Nat×List Int))} {sr:List Nat} {sn:List (Nat×Nat)} (hmix:P.follows .mixedOrders=true) (hti:q5n P (ti.map (·.1))=ti.map λp=>(p.1,some p.2)) (hsp:∀p∈sp,FunOK' P (look gl) p.1 p.2) (hbd:∀p∈bd,q31 P p.1 p.2.2.1) (hsr:∀f∈sr,Sort1 P f) (hsn:∀p∈sn,q20 P (look gl) p.1 p.2):∀L w0,GlobOK (look gl) w0->CtxOK P L w0 (B7 ti sp bd rd gl pu nb sr sn):=z5s hmix hti hsp hbd hsr hsn (λ_ h=>by cases h) λ_ h=>by cases h
theorem y26 {sp:List (Nat×Spec)} {bd:q0v} {gl:List (Nat×(IntKind×Nat×List Int))} {sr:List Nat} (hmix:P.follows .mixedOrders=true) (hti:q5n P (ti.map (·.1))=ti.map λp=>(p.1,some p.2)) (hsp:∀p∈sp,FunOK' P (look gl) p.1 p.2) (hbd:∀p∈bd,q31 P p.1 p.2.2.1) (hsr:∀f∈sr,Sort1 P f):∀L w0,GlobOK (look gl) w0->CtxOK P L w0 (B7 ti sp bd rd gl pu nb sr):=y24 hmix hti hsp hbd hsr λ_ h=>by cases h
theorem C4 {sp:List (Nat×Spec)} {bd:q0v} {gl:List (Nat×(IntKind×Nat×List Int))} (hmix:P.follows .mixedOrders=true) (hti:q5n P (ti.map (·.1))=ti.map λp=>(p.1,some p.2)) (hsp:∀p∈sp,FunOK' P (look gl) p.1 p.2) (hbd:∀p∈bd,q31 P p.1 p.2.2.1):∀L w0,GlobOK (look gl) w0->CtxOK P L w0 (B7 ti sp bd rd gl pu nb):=y26 hmix hti hsp hbd λ_ h=>by cases h
variable {gl:W5}
theorem k3m {F:FuncId} {T:Nat} (h:DelN P F T):q20 P gl F ((1048575+T)+1):=by
 show cond (Nat.ble 1048575 (1048575+T)) (DelN P F (1048575+T-1048575)) _;rw[bg (cy _ _),cond_true,dN];exact h
theorem z8k:∀p∈([]:List (Nat×Nat)),q20 P gl p.1 p.2:=λ_ h=>by cases h
theorem z8j {f k:Nat} {l:List (Nat×Nat)} (h:q20 P gl f k) (t:∀p∈l,q20 P gl p.1 p.2):∀p∈(f,k)::l,q20 P gl p.1 p.2:=λp hp=>by
 rcases al.1 hp with rfl | hp
 ·exact h
 ·exact t p hp
theorem j2h:∀t∈([]:List Nat),∃l,P.underlying t=some (.interface l):=λ_ h=>by cases h
theorem j3f:∀p∈([]:List (Nat×(String×Nat))),z2t P p.1 p.2.1 p.2.2:=λ_ h=>by cases h
theorem z1s:∀f∈([]:List Nat),Sort1 P f:=λ_ h=>by cases h
theorem k3i {f:Nat} {l:List Nat} (h:Sort1 P f) (t:∀f∈l,Sort1 P f):∀g∈f::l,Sort1 P g:=λg hg=>by
 rcases al.1 hg with rfl | hg
 ·exact h
 ·exact t g hg
theorem B8:∀p∈([]:q0v),q31 P p.1 p.2.2.1:=λ_ h=>by cases h
theorem D0 {f b:Nat} {fn:Func} {an:Ann} {l:q0v} (h:q31 P f fn) (t:∀p∈l,q31 P p.1 p.2.2.1):∀p∈(f,(b,(fn,an)))::l,q31 P p.1 p.2.2.1:=λp hp=>by
 rcases al.1 hp with rfl | hp
 ·exact h
 ·exact t p hp
theorem C0:∀p∈([]:List (Nat×Spec)),FunOK' P gl p.1 p.2:=λ_ h=>by cases h
theorem A7 {f:Nat} {s:Spec} {l:List (Nat×Spec)} (h:FunOK' P gl f s) (t:∀p∈l,FunOK' P gl p.1 p.2):∀p∈(f,s)::l,FunOK' P gl p.1 p.2:=λp hp=>by
 rcases al.1 hp with rfl | hp
 ·exact h
 ·exact t p hp
end Go.Abs
