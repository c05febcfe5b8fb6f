/- The engine, part 21: the table of types, and what a program gives the evaluator. -/
import Derived.Test.YteeaadgpkammdaaGreatDoorAbsFn2
namespace Go.Abs
open Go Go.RowKit
variable {P:Program} {L:Nat->Prop} {w0:World}
def j0w:Value->Option SV
 | .int k n=>some (.sc (.int k) n)
 | .bool b=>some (.sc .bool b)
 | .slice none 0 0=>some .nils
 | .pointer none=>some .nilp
 | .string b=>some (.cstr b)
 | .map none=>some .mpn
 | .nilFunc=>some .nilf
 | _=>none
theorem v5l {v:Value} {s:SV} (h:j0w v=some s):s.isConst v:=by
 unfold j0w at h
 split at h<;>first | (cases h;done) | skip
 all_goals cases h
 ·exact⟨rfl,rfl,rfl⟩
 ·exact⟨rfl,rfl,rfl⟩
 ·rfl
 ·rfl
 ·rfl
 ·rfl
 ·rfl
def j46 (P:Program) (fd:Field):Option FI:=match P.info? fd.type,P.underlying fd.type with
 | some i,some d=>some { off:=fd.offset,size:=i.size,agg:=S5 d }
 | _,_=>none
def I5 {α β:Type} (f:α->Option β):List α->Option (List β)
 | []=>some []
 | x::r=>match f x,I5 f r with
  | some y,some l=>some (y::l)
  | _,_=>none
def j4b (P:Program):TypeDesc->Option (List FI)
 | .struct fs=>I5 (j46 P) fs.toList
 | .array n e=>(match P.info? e,P.underlying e with
  | some i,some d=>some ((List.range n).map fun j=>{ off:=j*i.size,size:=i.size,agg:=S5 d })
  | _,_=>none)
 | _=>some []
def v5d:TypeDesc->Bool
 | .struct _=>true
 | _=>false
def y4a:TypeDesc->Option (Nat×TypeId)
 | .array n e=>some (n,e)
 | _=>none
def v5e:TypeDesc->Bool
 | .string=>true
 | _=>false
def y8b:TypeDesc->Option (TypeId×TypeId)
 | .map k e=>some (k,e)
 | _=>none
def y5p:TypeDesc->Option TypeId
 | .slice e=>some e
 | _=>none
def q7a (P:Program) (t:TypeId):Bool:=match P.underlying t with
 | some d=>S5 d
 | none=>false
def z4a:Nat->Ty->Ty
 | 0,_=>.nil
 | n+1,t=>.cons t (z4a n t)
mutual
def V9 (P:Program):Nat->TypeId->Ty
 | 0,_=>.nil
 | n+1,t=>match P.underlying t with
  | some (.int k)=>.int k
  | some .bool=>.bool
  | some (.slice e)=>.list (V9 P n e)
  | some (.map k e)=>.map (q7a P k) (q7a P e) (V9 P n k) (V9 P n e)
  | some (.struct fs)=>q9i P n (fs.toList.map (·.type))
  | some (.array k e)=>z4a (cond (Nat.ble k 32) k 0) (V9 P n e)
  | _=>.nil
def q9i (P:Program):Nat->List TypeId->Ty
 | 0,_=>.nil
 | _+1,[]=>.nil
 | n+1,t::r=>.cons (V9 P n t) (q9i P n r)
end
theorem j7s (n:Nat) (t:Ty):(∀ k,z4a n t≠.int k)/\z4a n t≠.bool:=by
 cases n with
 | zero=>exact⟨(fun k h=>by cases h),(fun h=>by cases h)⟩
 | succ n=>exact⟨(fun k h=>by cases h),(fun h=>by cases h)⟩
theorem y0p (P:Program) (n:Nat) (l:List TypeId):(∀ k,q9i P n l≠.int k)/\q9i P n l≠.bool:=by
 unfold q9i
 split
 ·exact⟨(fun k h=>by cases h),(fun h=>by cases h)⟩
 ·exact⟨(fun k h=>by cases h),(fun h=>by cases h)⟩
 ·exact⟨(fun k h=>by cases h),(fun h=>by cases h)⟩
theorem v6e {P:Program} {n:Nat} {t:TypeId} {k:IntKind} (h:V9 P n t=.int k):P.underlying t=some (.int k):=by
 cases n with
 | zero=>unfold V9 at h;cases h
 | succ n =>
  unfold V9 at h
  split at h
  ·rename_i hu;cases h;exact hu
  ·cases h
  ·cases h
  ·cases h
  ·exact absurd h ((y0p P n _).1 k)
  ·exact absurd h ((j7s _ _).1 k)
  ·cases h
theorem v6d {P:Program} {n:Nat} {t:TypeId} (h:V9 P n t=.bool):P.underlying t=some .bool:=by
 cases n with
 | zero=>unfold V9 at h;cases h
 | succ n =>
  unfold V9 at h
  split at h
  ·cases h
  ·rename_i hu;exact hu
  ·cases h
  ·cases h
  ·exact absurd h (y0p P n _).2
  ·exact absurd h (j7s _ _).2
  ·cases h
def j12 (P:Program) (t:TypeId):Option TInfo:=match P.info? t,P.underlying t with
 | some i,some d=>match i.zero with
  | some z=>match I5 j0w z.cells.toList,j4b P d with
   | some zs,some fl=>cond (Nat.beq z.cells.size i.size&&(q63 z==S5 d)) (some { agg:=S5 d,str:=v5d d,size:=i.size,bytes:=i.bytes,zeros:=zs,flds:=fl,elem:=y5p d,arr:=y4a d,ty:=V9 P 40 t,strg:=v5e d,eqo:=cond (S5 d&&!P.eqGuardType P.depth t&&Nat.beq (P.cellsOf t) i.size) (q07 P 20 t) none,mp:=y8b d }) none
   | _,_=>none
  | none=>none
 | _,_=>none
theorem z5u {α β:Type} {f:α->Option β}:∀ {l:List α} {r:List β},I5 f l=some r->l.length=r.length/\∀ (i:Nat) (x:α) (y:β),l[i]? = some x->r[i]? = some y->f x=some y
 | [],_,h=>by cases h;exact⟨rfl,fun i x y hx=>by simp at hx⟩
 | a::l,r,h=>by
  simp only[I5]at h
  split at h
  ·rename_i y l' hy hl
   cases h
   obtain⟨h1,h2⟩:=z5u hl
   refine⟨by simp[h1],fun i x y hx hy'=>?_⟩
   cases i with
   | zero=>simp at hx hy';subst hx;subst hy';exact hy
   | succ i=>exact h2 i x y (by simpa using hx) (by simpa using hy')
  ·cases h
theorem v5u {t:TypeId} {ti:TInfo} (h:j12 P t=some ti):ti.OK P t:=by
 unfold j12 at h
 split at h
 ·rename_i i d hi hd
  split at h
  ·rename_i z hz
   split at h
   ·rename_i zs fl hzs hfl
    obtain⟨hc,h⟩:=B1 h
    rw[Bool.and_eq_true]at hc
    have hcz:=hc.2
    have hc:=Nat.eq_of_beq_eq_true hc.1
    cases h
    obtain⟨l1,l2⟩:=z5u hzs
    refine⟨⟨⟨i,z,hi,rfl,rfl,hz,hc,by rw[<-l1];simpa using hc,fun j s c hs hcj=>v5l (l2 j c s (by simpa using hcj) hs)⟩,d,hd,rfl,?_,?_,?_⟩,?_,?_,?_,?_,?_,?_⟩
    ·cases d<;>first | exact .inl rfl | exact .inr ⟨_,rfl,rfl⟩
    ·intro k _ hk
     have:=v6e hk
     rw[hd]at this
     exact Option.some.inj this
    ·intro hs
     cases d with
     | struct fs =>
      obtain⟨m1,m2⟩:=z5u (l:=fs.toList) hfl
      refine⟨fs,rfl,by simpa using m1,fun f fi hfi=>?_⟩
      have hlt:f<fs.size:=by have:=(List.getElem?_eq_some_iff.1 hfi).1;rw[<-m1]at this;simpa using this
      have:=m2 f fs[f] fi (by simp[hlt]) hfi
      unfold j46 at this
      split at this
      ·rename_i i' d' hi' hd'
       cases this
       exact⟨fs[f],i',d',by simp[hlt],rfl,hi',rfl,hd',rfl⟩
      ·cases this
     | _=>cases hs
    ·intro _ hk
     exact v6d hk
    ·intro hs
     cases d<;>first | exact hd | cases hs
    ·intro k e hke
     cases d<;>first | (cases hke;exact hd) | cases hke
    ·intro i' z' hi' hz'
     rw[hi]at hi';cases hi'
     rw[hz]at hz';cases hz'
     simpa using hcz
    ·intro l hl
     obtain⟨h1,h2⟩:=B1 hl
     simp only[Bool.and_eq_true,Bool.not_eq_true']at h1
     exact⟨h2,h1.1.2,h1.1.1,Nat.eq_of_beq_eq_true h1.2⟩
    ·intro n e hne
     cases d with
     | array n' e' =>
      cases hne
      refine⟨hd,?_⟩
      simp only[j4b]at hfl
      split at hfl
      ·rename_i ie de hie hde
       cases hfl
       refine⟨ie,de,hie,hde,fun j fi hj=>?_⟩
       rw[List.getElem?_map]at hj
       cases hr:(List.range n)[j]? with
       | none=>rw[hr]at hj;cases hj
       | some q =>
        rw[hr]at hj
        have hq:q=j:=by
         obtain⟨hlt,he⟩:=List.getElem?_eq_some_iff.1 hr
         simp at he;exact he.symm
        subst hq
        cases hj
        exact⟨rfl,rfl⟩
      ·cases hfl
     | _=>cases hne
   ·cases h
  ·cases h
 ·cases h
def look {α:Type}:List (Nat×α)->Nat->Option α
 | [],_=>none
 | (i,a)::r,j=>cond (Nat.beq i j) (some a) (look r j)
theorem q17 {α:Type}:∀ {l:List (Nat×α)} {j:Nat} {a:α},look l j=some a->(j,a)∈l
 | [],_,_,h=>by cases h
 | (i,b)::r,j,a,h=>by
  simp only[look]at h
  cases hb:Nat.beq i j with
  | true=>rw[hb,cond_true]at h;cases h;rw[Nat.eq_of_beq_eq_true hb];exact List.mem_cons_self
  | false=>rw[hb,cond_false]at h;exact List.mem_cons_of_mem _ (q17 h)
abbrev q01:=List (Nat×(Nat×(Func×Ann)))
def z1p:q01->Nat->Nat->Option (Func×Ann)
 | [],_,_=>none
 | (i,(b,p))::r,f,ib=>cond (Nat.beq i f&&Nat.beq b ib) (some p) (z1p r f ib)
theorem j5p:∀ {l:q01} {f ib:Nat} {p:Func×Ann},z1p l f ib=some p->∃ b,(f,(b,p))∈l
 | [],_,_,_,h=>by cases h
 | (i,(b,q))::r,f,ib,p,h=>by
  simp only[z1p]at h
  cases hb:(Nat.beq i f&&Nat.beq b ib)with
  | true =>
   rw[hb,cond_true]at h;cases h
   rw[Bool.and_eq_true]at hb
   rw[Nat.eq_of_beq_eq_true hb.1]
   exact⟨b,List.mem_cons_self⟩
  | false =>
   rw[hb,cond_false]at h
   obtain⟨b',hb'⟩:=j5p h
   exact⟨b',List.mem_cons_of_mem _ hb'⟩
abbrev q40:=List (Nat×(Ann×Ann))
def z99 (ms:List (Nat×(String×Nat))) (t:Nat) (n:String):Option Nat:=match look ms t with
 | some (m,f)=>cond (m==n) (some f) none
 | none=>none
theorem j68 {ms:List (Nat×(String×Nat))} {t:Nat} {n:String} {f:Nat} (h:z99 ms t n=some f):(t,(n,f))∈ms:=by
 unfold z99 at h
 split at h
 ·rename_i m f' hm
  obtain⟨h1,h2⟩:=B1 h
  cases h2
  rw[<-beq_iff_eq.1 h1]
  exact q17 hm
 ·cases h
noncomputable def z1z (ti:List (Nat×TInfo)) (sp:List (Nat×Spec)) (bd:q01) (rd:q40) (gl:List (Nat×(IntKind×Nat×List Int))) (pu:List Nat) (nb:List (Nat×Nat)) (sr:List Nat) (sn:List (Nat×Nat)) (ifs:List Nat) (ms:List (Nat×(String×Nat))) (dp:List (Nat×KTy)) (fz:List (Nat×List Nat)):Tables :=
 { TI:=look ti,sp:=look sp,inl:=fun f=>(look bd f).isSome,bd:=z1p bd,rd:=look rd,gl:=look gl,pur:=D9 pu,nb:=fun i=>(look nb i).getD 0,srt:=D9 sr,srn:=look sn,ifc:=D9 ifs,meth:=z99 ms,dp:=look dp,fz:=fun i=>(look fz i).getD [] }
noncomputable def C0 (ti:List (Nat×TInfo)) (sp:List (Nat×Spec)) (bd:q01) (rd:q40) (gl:List (Nat×(IntKind×Nat×List Int))) (pu:List Nat) (nb:List (Nat×Nat)) (sr:List Nat:=[]) (sn:List (Nat×Nat):=[]) (ifs:List Nat:=[]) (ms:List (Nat×(String×Nat)):=[]) (dp:List (Nat×KTy):=[]) (fz:List (Nat×List Nat):=[]):Ctx :=
 (z1z ti sp bd rd gl pu nb sr sn ifs ms dp fz).ctx (K1 (z1z ti sp bd rd gl pu nb sr sn ifs ms dp fz) 32).ic (K1 (z1z ti sp bd rd gl pu nb sr sn ifs ms dp fz) 32).yc
def q3u (P:Program) (ids:List Nat):List (Nat×Option TInfo):=ids.map fun t=>(t,j12 P t)
def q1s (P:Program) (f:Nat) (fn:Func):Prop:=P.funcs[f]? = some fn/\fn.body.isSome=true/\(fn.name== "runtime.NumGoroutine")=false
theorem z1y {ti:List (Nat×TInfo)} {sp:List (Nat×Spec)} {bd:q01} {rd:q40} {gl:List (Nat×(IntKind×Nat×List Int))} {pu:List Nat} {nb:List (Nat×Nat)} {sr:List Nat} {sn:List (Nat×Nat)} {ifs:List Nat} {ms:List (Nat×(String×Nat))} {dp:List (Nat×KTy)} {fz:List (Nat×List Nat)} (hmix:P.follows .mixedOrders=true) (hti:q3u P (ti.map (·.1))=ti.map fun p=>(p.1,some p.2)) (hsp:∀ p∈sp,FunOK' P (look gl) p.1 p.2)
  (hbd:∀ p∈bd,q1s P p.1 p.2.2.1) (hsr:∀ f∈sr,Sort1 P f) (hsn:∀ p∈sn,q1v P p.1 p.2) (hif:∀ t∈ifs,∃ l,P.underlying t=some (.interface l)) (hms:∀ p∈ms,q61 P p.1 p.2.1 p.2.2):∀ L w0,GlobOK (look gl) w0->CtxOK P L w0 (C0 ti sp bd rd gl pu nb sr sn ifs ms dp fz):=fun L w0 hG =>
 have h1:∀ t i,look ti t=some i->i.OK P t:=fun t i h=>by
  have hm:=q17 h
  have h2:(t,some i)∈q3u P (ti.map (·.1)):=by rw[hti];exact List.mem_map.2 ⟨(t,i),hm,rfl⟩
  unfold q3u at h2
  obtain⟨u,_,hu⟩:=List.mem_map.1 h2
  simp only[Prod.mk.injEq]at hu
  obtain⟨rfl,hu⟩:=hu
  exact v5u hu
 have h2:=y4f (T:=z1z ti sp bd rd gl pu nb sr sn ifs ms dp fz) h1 (fun f s h=>hsp (f,s) (q17 h)) (fun f h=>hsr f (memb_iff.1 h)) (fun f k h=>hsn (f,k) (q17 h)) (fun t h=>hif t (memb_iff.1 h)) (fun t n f h=>hms (t,(n,f)) (j68 h)) (fun f g h=>by cases h) (fun f h=>by
  cases hb:look bd f with
  | none=>change (look bd f).isSome=true at h;rw[hb]at h;cases h
  | some p=>exact⟨p.2.1,hbd (f,p) (q17 hb)⟩) (fun f ib fn an h=>by
  obtain⟨b,hb⟩:=j5p h
  exact hbd _ hb) hmix 32 L w0 hG
 { ti:=h1
   spec:=fun f s h=>hsp (f,s) (q17 h)
   glob:=hG
   ic:=h2.1
   yc:=h2.2
   srt:=fun f h=>hsr f (memb_iff.1 h)
   srn:=fun f k h=>hsn (f,k) (q17 h)
   ifc:=fun t h=>hif t (memb_iff.1 h)
   meth:=fun t n f h=>hms (t,(n,f)) (j68 h) }
theorem j69 {ti:List (Nat×TInfo)} {sp:List (Nat×Spec)} {bd:q01} {rd:q40} {gl:List (Nat×(IntKind×Nat×List Int))} {pu:List Nat} {nb:List (Nat×Nat)} {sr:List Nat} {sn:List (Nat×Nat)} (hmix:P.follows .mixedOrders=true) (hti:q3u P (ti.map (·.1))=ti.map fun p=>(p.1,some p.2)) (hsp:∀ p∈sp,FunOK' P (look gl) p.1 p.2)
 (hbd:∀ p∈bd,q1s P p.1 p.2.2.1) (hsr:∀ f∈sr,Sort1 P f) (hsn:∀ p∈sn,q1v P p.1 p.2):∀ L w0,GlobOK (look gl) w0->CtxOK P L w0 (C0 ti sp bd rd gl pu nb sr sn):=z1y hmix hti hsp hbd hsr hsn (fun _ h=>by cases h) fun _ h=>by cases h
theorem j6a {ti:List (Nat×TInfo)} {sp:List (Nat×Spec)} {bd:q01} {rd:q40} {gl:List (Nat×(IntKind×Nat×List Int))} {pu:List Nat} {nb:List (Nat×Nat)} {sr:List Nat} (hmix:P.follows .mixedOrders=true) (hti:q3u P (ti.map (·.1))=ti.map fun p=>(p.1,some p.2)) (hsp:∀ p∈sp,FunOK' P (look gl) p.1 p.2)
 (hbd:∀ p∈bd,q1s P p.1 p.2.2.1) (hsr:∀ f∈sr,Sort1 P f):∀ L w0,GlobOK (look gl) w0->CtxOK P L w0 (C0 ti sp bd rd gl pu nb sr):=j69 hmix hti hsp hbd hsr fun _ h=>by cases h
theorem C7 {ti:List (Nat×TInfo)} {sp:List (Nat×Spec)} {bd:q01} {rd:q40} {gl:List (Nat×(IntKind×Nat×List Int))} {pu:List Nat} {nb:List (Nat×Nat)} (hmix:P.follows .mixedOrders=true) (hti:q3u P (ti.map (·.1))=ti.map fun p=>(p.1,some p.2)) (hsp:∀ p∈sp,FunOK' P (look gl) p.1 p.2)
 (hbd:∀ p∈bd,q1s P p.1 p.2.2.1):∀ L w0,GlobOK (look gl) w0->CtxOK P L w0 (C0 ti sp bd rd gl pu nb):=j6a hmix hti hsp hbd fun _ h=>by cases h
theorem z4p:∀ p∈([]:List (Nat×Nat)),q1v P p.1 p.2:=fun _ h=>by cases h
theorem z4o {f k:Nat} {l:List (Nat×Nat)} (h:q1v P f k) (t:∀ p∈l,q1v P p.1 p.2):∀ p∈(f,k)::l,q1v P p.1 p.2:=fun p hp=>by
 rcases List.mem_cons.1 hp with rfl | hp
 ·exact h
 ·exact t p hp
theorem z8r:∀ t∈([]:List Nat),∃ l,P.underlying t=some (.interface l):=fun _ h=>by cases h
theorem z9a:∀ p∈([]:List (Nat×(String×Nat))),q61 P p.1 p.2.1 p.2.2:=fun _ h=>by cases h
theorem q92:∀ f∈([]:List Nat),Sort1 P f:=fun _ h=>by cases h
theorem v4r {f:Nat} {l:List Nat} (h:Sort1 P f) (t:∀ f∈l,Sort1 P f):∀ g∈f::l,Sort1 P g:=fun g hg=>by
 rcases List.mem_cons.1 hg with rfl | hg
 ·exact h
 ·exact t g hg
theorem C2:∀ p∈([]:q01),q1s P p.1 p.2.2.1:=fun _ h=>by cases h
theorem G8 {f b:Nat} {fn:Func} {an:Ann} {l:q01} (h:q1s P f fn) (t:∀ p∈l,q1s P p.1 p.2.2.1):∀ p∈(f,(b,(fn,an)))::l,q1s P p.1 p.2.2.1:=fun p hp=>by
 rcases List.mem_cons.1 hp with rfl | hp
 ·exact h
 ·exact t p hp
theorem C4 {gl:T2}:∀ p∈([]:List (Nat×Spec)),FunOK' P gl p.1 p.2:=fun _ h=>by cases h
theorem A9 {gl:T2} {f:Nat} {s:Spec} {l:List (Nat×Spec)} (h:FunOK' P gl f s) (t:∀ p∈l,FunOK' P gl p.1 p.2):∀ p∈(f,s)::l,FunOK' P gl p.1 p.2:=fun p hp=>by
 rcases List.mem_cons.1 hp with rfl | hp
 ·exact h
 ·exact t p hp
end Go.Abs
