/- Lemmas on functions of the program, by name. -/
import Derived.Test.YtppblbacbmebfaaGreatDoorMTFuns
import Derived.Test.YtppblbacbmebfaaGreatDoorAbsSums
import Derived.Test.YtppblbacbmebfaaGreatDoorMTLemmasMeanTells1
namespace Go.Proofs.Tryz
section
open Go Go.Abs

theorem y5y {p q:Nat->Bool} {n:Nat} (h:∀ i,i<n->p i=q i):(List.range n).find? p=(List.range n).find? q:=by
 have b:∀ l:List Nat,(∀ i,i∈l->p i=q i)->l.find? p=l.find? q:=by
  intro l
  induction l with
  | nil=>grind
  | cons a r c =>
   grind
 grind
def W4 (N:List B4) (E:List Edge) (j:Nat):Bool:=(List.range N.length).any fun i=>fwN (edM N E (J0 N i).toNat E.length) N.length j i&&fwN (edM N E (J0 N i).toNat E.length) N.length i j
section
variable {N:List B4} {E:List Edge}
theorem edM_iff {f a b:Nat}:edM N E f E.length a b=true↔H3 N f a=true/\H3 N f b=true/\∃ j,j<E.length/\frE E j=a/\toE E j=b:=by
 grind[edM]
theorem q7h (f a:Nat):(N9 N f).testBit a=true↔a<N.length/\H3 N f a=true:=by
 grind[N9,y0y]
theorem q3j (c:∀ j,j<E.length->H4 N E j=0) {f a b:Nat} (h:edM N E f E.length a b=true):a<N.length/\b<N.length:=by
 obtain⟨_,_,j,d,i,g⟩:=edM_iff.1 h
 have e:=q0g (c j d)
 omega
theorem j1j (c:∀ j,j<E.length->H4 N E j=0) {f a b:Nat}:N3 (toW E E.length) (N9 N f) a b=true↔(∃ j,j<E.length/\frE E j=a/\toE E j=b)/\(N9 N f).testBit b=true:=by
 unfold N3
 rw[Bool.and_eq_true,y0n E a b E.length fun j d=>(q0g (c j d)).2.2.1]
theorem y0v (b:∀ j,j<E.length->H4 N E j=0) {f i j:Nat} (h:Way (N3 (toW E E.length) (N9 N f)) i j):(N9 N f).testBit i=true->Way (edM N E f E.length) i j/\(N9 N f).testBit j=true:=by
 intro e
 induction h with
 | one h =>
  obtain⟨c,a⟩:=(j1j b).1 h
  exact⟨.one (edM_iff.2 ⟨((q7h _ _).1 e).2,((q7h _ _).1 a).2,c⟩),a⟩
 | more _ a d =>
  obtain⟨c,a⟩:=(j1j b).1 a
  exact⟨.more d.1 (edM_iff.2 ⟨((q7h _ _).1 d.2).2,((q7h _ _).1 a).2,c⟩),a⟩
theorem j42 (e:∀ j,j<E.length->H4 N E j=0) {f i j:Nat} (h:Way (edM N E f E.length) i j):Way (N3 (toW E E.length) (N9 N f)) i j/\(N9 N f).testBit i=true:=by
 have c:∀ {a b},edM N E f E.length a b=true->N3 (toW E E.length) (N9 N f) a b=true/\(N9 N f).testBit a=true:=fun {a b} h=>by
  grind[q3j,edM_iff,j1j,q7h]
 induction h with
 | one h=>exact⟨.one (c h).1,(c h).2⟩
 | more _ g d=>exact⟨.more d.1 (c g).1,d.2⟩
theorem v39 (g:N.all I6=true) (c:∀ j,j<E.length->H4 N E j=0) (j:Nat):(q18 N (toW E E.length) 4).testBit j=W4 N E j:=by
 rw[Bool.eq_iff_iff,j31]
 unfold W4
 rw[List.any_eq_true]
 constructor
 ·rintro ⟨f,i,s,v,n,k,u,r,q⟩
  have l:(J0 N i).toNat=f:=by omega
  have e:=y0v c r k
  have o:=y0v c q e.2
  refine⟨i,List.mem_range.2 n,?_⟩
  rw[l,Bool.and_eq_true]
  exact⟨(q76 (fun a b h=>q3j c h) _ _).2 o.1,(q76 (fun a b h=>q3j c h) _ _).2 e.1⟩
 ·rintro ⟨i,d,h⟩
  have d:=List.mem_range.1 d
  rw[Bool.and_eq_true]at h
  have p:=z2g (X8 g (Int.natCast_nonneg i) (by omega))
  have m:1<=J0 N i/\J0 N i<=4:=p
  have w:=j42 c ((q76 (fun a b h=>q3j c h) _ _).1 h.1)
  have t:=j42 c ((q76 (fun a b h=>q3j c h) _ _).1 h.2)
  grind
def q49 (N:List B4) (E:List Edge):List (List Bool):=tab 4 fun f=>sqT N.length (fwN (edM N E (f+1) E.length) N.length)
theorem v2t (b:N.length<=12) (z:Int×Int×Unit):A4 (q8s ((N,E,()),())) ((0:Int),z,())=some (J4 (((List.range N.length).find? fun i=>!I6 (N.getD i v0)).map fun i:Nat=>(((2:Int),(i:Int),()),())) (.inl (z,()))):=by
 rw[<-M4]
 refine L3 (f:=q8s ((N,E,()),())) N.length (fun i=>((i:Int),z,())) _ _ (fun i a=>?_) ?_ rfl
 ·unfold q8s
  simp only[dcT (show(i:Int)<(N.length:Int)by omega),cond_true,G7 v0 (Int.natCast_nonneg i) (show(i:Int)<(N.length:Int)by omega),Int.toNat_natCast,Option.bind_some,v2g]
  rw[C7 (by omega)]
  cases I6 (N.getD i v0)<;>rfl
 grind[q8s]
theorem v2u (a:N.all I6=true) (c:E.length<=20) (z:Int×Int×Unit):A4 (q8t ((N,E,()),())) ((0:Int),z,())=some (J4 (((List.range E.length).find? fun i=>H4 N E i != 0).map fun i:Nat=>((H4 N E i,(i:Int),()),())) (.inl (z,()))):=by
 rw[<-M4]
 refine L3 (f:=q8t ((N,E,()),())) E.length (fun i=>((i:Int),z,())) _ _ (fun i b=>?_) ?_ rfl
 ·unfold q8t
  simp only[dcT (show(i:Int)<(E.length:Int)by omega),cond_true,v2o a c b,Option.bind_some]
  rw[C7 (by omega)]
  cases H4 N E i != 0<;>rfl
 grind[q8t]
theorem v2v (a:E.length<=20) (i:Nat) (z:(Int×Int×Unit)×Unit):A4 (z3q ((N,E,()),()) ((i:Int),z)) ((0:Int),(0:Int),())=some (.inl (((H0 E.length fun j=>toE E j==(i:Int):Nat):Int),())):=by
 refine N1 E.length (fun j=>(((H0 j fun j=>toE E j==(i:Int):Nat):Int),(j:Int),())) _ (fun j b=>?_) ?_ rfl
 ·unfold z3q
  grind[z0d,toE,G7,Int.toNat_natCast,C7,H0]
 grind[z3q]
theorem v2w (c:N.length<=12) (b:E.length<=20) (a:∀ j,j<E.length->H4 N E j=0) (z:Int×Int×Unit):A4 (q8u ((N,E,()),())) ((0:Int),z,())=some (J4 (((List.range N.length).find? fun i=>S4 N E i).map fun i:Nat=>(((5:Int),(i:Int),()),())) (.inl (z,()))):=by
 rw[<-M4]
 refine L3 (f:=q8u ((N,E,()),())) N.length (fun i=>((i:Int),z,())) _ _ (fun i d=>?_) ?_ rfl
 ·unfold q8u
  simp only[dcT (show(i:Int)<(N.length:Int)by omega),cond_true,v2v b i (z,()),Sum.elim_inl,G7 v0 (Int.natCast_nonneg i) (show(i:Int)<(N.length:Int)by omega),Int.toNat_natCast,Option.bind_some,q5s]
  rw[C7 (by omega),y92 a]
  cases S4 N E i<;>rfl
 grind[q8u]
theorem v2x (b:N.length<=12) (d:E.length<=20) (a:∀ j,j<E.length->H4 N E j=0):A4 (j0u ((N,E,()),())) (([]:List (List Bool)),(1:Int),())=some (.inl (q49 N E,())):=by
 refine N1 4 (fun f=>(tab f fun f=>sqT N.length (fwN (edM N E (f+1) E.length) N.length),((f+1:Nat):Int),())) _ (fun f e=>?_) ?_ rfl
 ·unfold j0u
  simp only[dcT (show((f+1:Nat):Int)<=4 by omega),cond_true,v2n b d a (f+1),Option.bind_some,V9,List.length_cons,List.length_nil]
  have c:C2 (f+(0+1)) 24=true:=by
   grind[C2,Nat.ble_eq_true_of_le]
  rw[c,C7 (by omega),<-y0i]
  rfl
 rfl
theorem v2y (q:N.length<=12) (p:N.all I6=true) {j:Nat} (c:j<N.length) (z w:Int×Int×Unit) :
  A4 (q8v ((N,E,()),()) (q49 N E,()) ((j:Int),z,())) ((0:Int),w,())=some (if W4 N E j=true then .inl (((9:Int),(j:Int),()),())else .inr (.inl (w,()))):=by
 have h:=L3 (f:=q8v ((N,E,()),()) (q49 N E,()) ((j:Int),z,())) N.length (fun i=>((i:Int),w,())) (fun i=>cond (fwN (edM N E (J0 N i).toNat E.length) N.length j i&&fwN (edM N E (J0 N i).toNat E.length) N.length i j) (some (((9:Int),(j:Int),()),())) none) (.inl (w,())) (fun i d=>by
  have m:=z2g (X8 p (Int.natCast_nonneg i) (show(i:Int)<(N.length:Int)by omega))
  have l:1<=J0 N i/\J0 N i<=4:=m
  obtain⟨f,r⟩:=Int.eq_ofNat_of_zero_le (show 0<=J0 N i-1 by omega)
  have g:J0 N i=((f+1:Nat):Int):=by omega
  have e:(N.getD i v0).2.1=((f+1:Nat):Int):=g
  have k:IntKind.i64.wrap (((f+1:Nat):Int)-1)=(f:Int):=by grind[M0]
  have b:f<4:=by omega
  have o:(q49 N E)[f]? = some (sqT N.length (fwN (edM N E (f+1) E.length) N.length)):=q06 _ b
  have n:(q49 N E).length=4:=V9
  have a:N.length<=64:=by omega
  unfold q8v
  simp only[dcT (show(i:Int)<(N.length:Int)by omega),cond_true,G7 v0 (Int.natCast_nonneg i) (show(i:Int)<(N.length:Int)by omega),Int.toNat_natCast,Option.bind_some,e,k,n,F8 b,o,q67 a c d,q67 a d c,J5,j1i c d,j1i d c,C7 (show i<9223372036854775807 by omega),g]
  cases fwN (edM N E (f+1) E.length) N.length j i<;>cases fwN (edM N E (f+1) E.length) N.length i j<;>rfl) (by
  grind[q8v]) rfl
 refine Eq.trans h ?_
 rw[z8p]
 grind[J4,W4]
theorem v2z (c:N.length<=12) (a:N.all I6=true) (z:Int×Int×Unit):A4 (q8w ((N,E,()),()) (q49 N E,())) ((0:Int),z,())=some (J4 (((List.range N.length).find? fun j=>W4 N E j).map fun j:Nat=>(((9:Int),(j:Int),()),())) (.inl (z,()))):=by
 rw[<-M4]
 refine L3 (f:=q8w ((N,E,()),()) (q49 N E,())) N.length (fun i=>((i:Int),z,())) _ _ (fun j b=>?_) ?_ rfl
 ·unfold q8w
  simp only[dcT (show(j:Int)<(N.length:Int)by omega),cond_true,v2y c a b z z,Option.bind_some]
  rw[C7 (by omega)]
  cases W4 N E j<;>rfl
 grind[q8w]
end
def R5 (N:List B4) (E:List Edge):Int×Int×Unit :=
 if 12<N.length\/20<E.length then(1,0,())
 else match(List.range N.length).find? fun i=>!I6 (N.getD i v0)with
 | some i=>(2,(i:Int),())
 | none=>match(List.range E.length).find? fun i=>H4 N E i != 0 with
  | some i=>(H4 N E i,(i:Int),())
  | none=>match(List.range N.length).find? fun i=>S4 N E i with
   | some i=>(5,(i:Int),())
   | none=>match(List.range N.length).find? fun j=>W4 N E j with
    | some j=>(9,(j:Int),())
    | none=>(0,0,())
theorem z5g {N:List B4} (h:(List.range N.length).find? (fun i=>!I6 (N.getD i v0))=none):N.all I6=true:=by
 grind[List.mem_iff_getElem,q50]
theorem v2e (N:List B4) (E:List Edge):z3p ((N,E,()),())=some (R5 N E,()):=by
 unfold z3p R5
 by_cases m:12<N.length
 ·grind
 by_cases l:20<E.length
 ·grind
 have b:N.length<=12:=by omega
 have c:E.length<=20:=by omega
 simp only[dcF (show ¬ (N.length:Int)>12 by omega),dcF (show ¬ (E.length:Int)>20 by omega),cond_false,if_neg (show ¬ (12<N.length\/20<E.length)by omega),v2t b,Option.bind_some]
 cases d:(List.range N.length).find? fun i=>!I6 (N.getD i v0)with
 | some i=>rfl
 | none =>
  have e:=z5g d
  simp[Option.map_none,T3,Sum.elim_inr,Sum.elim_inl,v2u e c,Option.bind_some]
  cases f:(List.range E.length).find? fun i=>H4 N E i != 0 with
  | some i=>rfl
  | none =>
   have a:∀ j,j<E.length->H4 N E j=0:=fun j k=>by grind
   simp[Option.map_none,T3,Sum.elim_inr,Sum.elim_inl,v2w b c a,Option.bind_some]
   cases g:(List.range N.length).find? fun i=>S4 N E i with
   | some i=>rfl
   | none =>
    simp[Option.map_none,T3,Sum.elim_inr,Sum.elim_inl,v2x b c a,v2z b e,Option.bind_some]
    cases h:(List.range N.length).find? fun j=>W4 N E j<;>rfl
end

section
open Go Go.Abs

section
variable {P B S:Type} {deps:P->List P} {val:P->List B->B} {big:B->Bool}
inductive Comes (deps:P->List P) (val:P->List B->B) (big:B->Bool):P->B->Prop
 | mk (p:P) (vs:List B):vs.length=(deps p).length->(∀ (i:Nat) q v,(deps p)[i]? = some q->vs[i]? = some v->Comes deps val big q v)->big (val p vs)=false->Comes deps val big p (val p vs)
inductive TooBig (deps:P->List P) (val:P->List B->B) (big:B->Bool):P->Prop
 | here (p:P) (vs:List B):vs.length=(deps p).length->(∀ (i:Nat) q v,(deps p)[i]? = some q->vs[i]? = some v->Comes deps val big q v)->big (val p vs)=true->TooBig deps val big p
 | under (p q:P):q∈deps p->TooBig deps val big q->TooBig deps val big p
theorem j8c {l m:List B} (h:l.length=m.length) (c:∀ (i:Nat) a b,l[i]? = some a->m[i]? = some b->a=b):l=m:=by
 apply List.ext_getElem?
 grind
theorem j3t {p:P} {v:B} (h:Comes deps val big p v):∀ {c},Comes deps val big p c->v=c:=by
 induction h with
 | mk p o j q f k =>
  intro c l
  cases l with
  | mk _ r d e m =>
   rw[j8c (j.trans d.symm) fun i a b n f=>?_]
   have g:i<(deps p).length:=by grind
   exact k i _ a (List.getElem?_eq_getElem g) n (e i _ b (List.getElem?_eq_getElem g) f)
theorem j3s {p:P} {v:B} (h:Comes deps val big p v):¬ TooBig deps val big p:=by
 induction h with
 | mk p n k m j s =>
  intro o
  cases o with
  | here _ t g e f =>
   rw[<-j8c (k.trans g.symm) fun i a b r j=>?_,j]at f
   ·grind
   ·have c:i<(deps p).length:=by grind
    exact j3t (m i _ a (List.getElem?_eq_getElem c) r) (e i _ b (List.getElem?_eq_getElem c) j)
  | under _ q l d =>
   obtain⟨i,c,rfl⟩:=List.getElem_of_mem l
   exact s i _ (n[i]'(by omega)) (List.getElem?_eq_getElem c) (List.getElem?_eq_getElem (by omega)) d
def W9 (rec:P×S->Option (Option B×S)):List P->S->Option (Option (List B)×S)
 | [],s=>some (some [],s)
 | q::l,s=>(rec (q,s)).bind fun z=>match z.1 with
  | none=>some (none,z.2)
  | some b=>(W9 rec l z.2).bind fun w=>some (w.1.map (b::·),w.2)
def z4w (val:P->List B->B) (big:B->Bool) (set:S->P->B->S) (p:P) (w:Option (List B)×S):Option (Option B×S):=match w.1 with
 | none=>some (none,w.2)
 | some vs=>match big (val p vs)with
  | true=>some (none,w.2)
  | false=>some (some (val p vs),set w.2 p (val p vs))
def goD (deps:P->List P) (val:P->List B->B) (big:B->Bool) (get:S->P->Option B) (set:S->P->B->S) (rec:P×S->Option (Option B×S)) (p:P) (s:S):Option (Option B×S):=match get s p with
 | some b=>some (some b,s)
 | none=>(W9 rec (deps p) s).bind (z4w val big set p)
variable {Ok:P->Prop} {Inv:S->Prop} {get:S->P->Option B} {set:S->P->B->S}
def O6 (deps:P->List P) (val:P->List B->B) (big:B->Bool) (Ok:P->Prop) (Inv:S->Prop) (get:S->P->Option B) (s:S):Prop:=Inv s/\∀ p b,Ok p->get s p=some b->Comes deps val big p b
def j2d (deps:P->List P) (val:P->List B->B) (big:B->Bool) (p:P):Option B->Prop
 | some b=>Comes deps val big p b
 | none=>TooBig deps val big p
def j25 (deps:P->List P) (val:P->List B->B) (big:B->Bool) (Ok:P->Prop) (Inv:S->Prop) (get:S->P->Option B) (p:P) (z:Option B×S):Prop :=
 O6 deps val big Ok Inv get z.2/\j2d deps val big p z.1
def PcD (deps:P->List P) (val:P->List B->B) (big:B->Bool) (Ok:P->Prop) (Inv:S->Prop) (get:S->P->Option B) (rec:P×S->Option (Option B×S)):Prop :=
 ∀ p s z,Ok p->O6 deps val big Ok Inv get s->rec (p,s)=some z->j25 deps val big Ok Inv get p z
theorem j2z {f:P×S->Option (Option B×S)} (h:PcD deps val big Ok Inv get f):∀ (l:List P) (s:S) (z:Option (List B)×S),(∀ q∈l,Ok q)->O6 deps val big Ok Inv get s->W9 f l s=some z ->
  O6 deps val big Ok Inv get z.2/\match z.1 with
   | some m=>m.length=l.length/\∀ (i:Nat) q v,l[i]? = some q->m[i]? = some v->Comes deps val big q v
   | none=>∃ q∈l,TooBig deps val big q
 | [],s,z,_,p,c=>by
  cases c
  grind
 | q::l,s,z,o,p,c=>by
  obtain⟨w,x,c⟩:=Option.bind_eq_some_iff.1 c
  obtain⟨r,g⟩:=h q s w (o q List.mem_cons_self) p x
  cases t:w.1 with
  | none =>
   simp[t]at c g
   cases c
   exact⟨r,q,List.mem_cons_self,g⟩
  | some b =>
   simp[t]at c g
   obtain⟨u,y,c⟩:=Option.bind_eq_some_iff.1 c
   cases c
   obtain⟨C,e⟩:=j2z h l w.2 u (fun q A=>o q (List.mem_cons_of_mem _ A)) r y
   refine⟨C,?_⟩
   cases n:u.1 with
   | none =>
    simp[n]at e
    obtain⟨k,a,j⟩:=e
    exact⟨k,List.mem_cons_of_mem _ a,j⟩
   | some m =>
    simp[n]at e
    refine⟨by simp[e.1],fun i k v a d=>?_⟩
    cases i with
    | zero=>simp at a d;subst a;subst d;exact g
    | succ i=>exact e.2 i k v (by simpa using a) (by simpa using d)
theorem y6h (j:∀ p q,Ok p->q∈deps p->Ok q) (l:∀ s p b,Inv s->Ok p->Inv (set s p b)/\∀ e g,Ok e->get (set s p b) e=some g->(e=p/\g=b)\/get s e=some g) {i:P×S->Option (Option B×S)} (h:PcD deps val big Ok Inv get i) {p:P} {s:S} {z:Option B×S} (t:Ok p) (hs:O6 deps val big Ok Inv get s) (a:goD deps val big get set i p s=some z):j25 deps val big Ok Inv get p z:=by
 unfold goD at a
 cases r:get s p with
 | some b =>
  rw[r]at a
  cases a
  exact⟨hs,hs.2 p b t r⟩
 | none =>
  rw[r]at a
  obtain⟨w,y,a⟩:=Option.bind_eq_some_iff.1 a
  obtain⟨n,d⟩:=j2z h _ s w (fun q o=>j p q t o) hs y
  unfold z4w at a
  cases u:w.1 with
  | none =>
   simp[u]at a d
   cases a
   obtain⟨q,o,f⟩:=d
   exact⟨n,.under p q o f⟩
  | some k =>
   simp[u]at a d
   cases f:big (val p k)with
   | true=>rw[f]at a;cases a;exact⟨n,.here p k d.1 d.2 f⟩
   | false =>
    rw[f]at a
    cases a
    have x:Comes deps val big p (val p k):=.mk p k d.1 d.2 f
    obtain⟨v,A⟩:=l w.2 p (val p k) n.1 t
    refine⟨⟨v,fun e g m c=>?_⟩,x⟩
    rcases A e g m c with⟨rfl,rfl⟩ | c
    ·omega
    ·exact n.2 e g m c
theorem j30 {a:P×S->Option (Option B×S)} (h:PcD deps val big Ok Inv get a):∀ (l:List P) (s:S),(∀ q∈l,Ok q)->(∀ q∈l,∀ s,O6 deps val big Ok Inv get s->(a (q,s)).isSome=true)->O6 deps val big Ok Inv get s->(W9 a l s).isSome=true
 | [],_,_,_,_=>rfl
 | q::l,s,f,i,e=>by
  simp[W9]
  cases g:a (q,s)with
  | none=>have:=i q List.mem_cons_self s e;rw[g]at this;cases this
  | some w =>
   obtain⟨j,-⟩:=h q s w (f q List.mem_cons_self) e g
   simp[Option.bind_some]
   cases w.1 with
   | none=>rfl
   | some b =>
    have:=j30 h l w.2 (fun q d=>f q (List.mem_cons_of_mem _ d)) (fun q d=>i q (List.mem_cons_of_mem _ d)) j
    obtain⟨u,k⟩:=Option.isSome_iff_exists.1 this
    simp[k,Option.bind_some,Option.isSome_some]
theorem j2y {d c:P×S->Option (Option B×S)} (h:PcD deps val big Ok Inv get d) (f:∀ q s z,Ok q->O6 deps val big Ok Inv get s->d (q,s)=some z->c (q,s)=some z):∀ (l:List P) (s:S) (z:Option (List B)×S),(∀ q∈l,Ok q)->O6 deps val big Ok Inv get s->W9 d l s=some z->W9 c l s=some z
 | [],_,_,_,_,a=>a
 | q::l,s,z,e,i,a=>by
  simp[W9]at a ⊢
  obtain⟨w,j,a⟩:=Option.bind_eq_some_iff.1 a
  rw[f q s w (e q List.mem_cons_self) i j,Option.bind_some]
  obtain⟨k,-⟩:=h q s w (e q List.mem_cons_self) i j
  cases g:w.1 with
  | none=>rw[g]at a;exact a
  | some b =>
   simp[g]at a ⊢
   obtain⟨u,m,a⟩:=Option.bind_eq_some_iff.1 a
   rw[j2y h f l w.2 u (fun q n=>e q (List.mem_cons_of_mem _ n)) k m]
   exact a
theorem y6g (a:∀ p q,Ok p->q∈deps p->Ok q) (E:∀ s p b,Inv s->Ok p->Inv (set s p b)/\∀ j x,Ok j->get (set s p b) j=some x->(j=p/\x=b)\/get s j=some x)
  {R:Nat->P×S->Option (Option B×S)} (G:∀ y,R 0 y=none) (v:∀ n,PcD deps val big Ok Inv get (R n)->∀ p s,Ok p->O6 deps val big Ok Inv get s->R (n+1) (p,s)=goD deps val big get set (R n) p s) :
  (∀ n,PcD deps val big Ok Inv get (R n))/\∀ p,Acc (fun q p=>q∈deps p) p->Ok p->∃ n,∀ s,O6 deps val big Ok Inv get s->(R n (p,s)).isSome=true:=by
 have c:∀ n,PcD deps val big Ok Inv get (R n):=by
  intro n
  induction n with
  | zero=>intro p s z _ _ o;grind
  | succ n t =>
   intro p s z e d o
   grind[y6h]
 have D:∀ n q s z,Ok q->O6 deps val big Ok Inv get s->R n (q,s)=some z->R (n+1) (q,s)=some z:=by
  intro n
  induction n with
  | zero=>grind
  | succ n t =>
   intro q s z e d o
   rw[v n (c n) q s e d]at o
   rw[v (n+1) (c (n+1)) q s e d]
   unfold goD at o ⊢
   grind[Option.bind_eq_some_iff,j2y]
 have C:∀ k n q s,Ok q->O6 deps val big Ok Inv get s->(R n (q,s)).isSome=true->(R (n+k) (q,s)).isSome=true:=by
  intro k
  induction k with
  | zero=>grind
  | succ k t =>
   grind[Option.isSome_iff_exists]
 refine⟨c,fun p i=>?_⟩
 induction i with
 | intro p _ t =>
  intro e
  have F:∀ l:List P,(∀ q∈l,q∈deps p)->∃ n,∀ q∈l,∀ s,O6 deps val big Ok Inv get s->(R n (q,s)).isSome=true:=by
   intro l
   induction l with
   | nil=>simp_all
   | cons q l A =>
    intro f
    obtain⟨n,u⟩:=A fun r g=>f r (List.mem_cons_of_mem _ g)
    have h:=f q List.mem_cons_self
    obtain⟨m,H⟩:=t q h (a p q e h)
    refine⟨n+m,fun r g s d=>?_⟩
    rcases List.mem_cons.1 g with rfl | g
    ·grind
    ·exact C m n r s (a p r e (f r (List.mem_cons_of_mem _ g))) d (u r g s d)
  obtain⟨n,u⟩:=F (deps p) fun q f=>f
  refine⟨n+1,fun s d=>?_⟩
  rw[v n (c n) p s e d]
  unfold goD
  cases get s p with
  | some b=>rfl
  | none =>
   obtain⟨w,I⟩:=Option.isSome_iff_exists.1 (j30 (c n) (deps p) s (fun q f=>a p q e f) u d)
   grind[z4w]
end
end

section
open Go Go.Abs

abbrev Pl:=Int×Int×List Int×Unit
def C8 (E:List Edge) (p:Pl):Int:=((E.find? fun e=>e.2.1==p.1&&e.2.2.1==p.2.1).map (·.1)).getD (-1)
def B8 (N:List B4) (E:List Edge) (p:Pl):B4:=N.getD (C8 E p).toNat v0
def J9 (t:List Int):List Int:=t.take (t.length-1)
def I5 (t:List Int):Int:=t.getD (t.length-1) 0
def B5 (N:List B4) (E:List Edge) (Rd:Int) (p:Pl):List Pl :=
 if(B8 N E p).1=1 then []else if(B8 N E p).1=2 then [(C8 E p,0,p.2.2.1,())]else if(B8 N E p).1=3 then [(C8 E p,0,p.2.2.1,()),(C8 E p,1,p.2.2.1,())]
 else if(B8 N E p).1=4 then [(C8 E p,0,J9 p.2.2.1,())]else if(B8 N E p).1=5 then [(C8 E p,0,p.2.2.1++[Rd],())]else if 0<I5 p.2.2.1 then [(C8 E p,0,J9 p.2.2.1++[I5 p.2.2.1-1],())]else []
structure GrP (N:List B4) (E:List Edge):Prop where
 n12:N.length<=12
 e20:E.length<=20
 may:N.all I6=true
 ok:∀ j,j<E.length->H4 N E j=0
 miss:∀ i,i<N.length->S4 N E i=false
 ring:∀ j,j<N.length->W4 N E j=false
theorem z8y {N:List B4} {E:List Edge} (h:(R5 N E).1=0):GrP N E:=by
 unfold R5 at h
 split at h
 ·omega
 ·split at h
  ·omega
  ·rename_i d
   split at h
   ·grind
   ·split at h
    ·omega
    ·rename_i c
     split at h
     ·omega
     ·rename_i b
      exact⟨by omega,by omega,z5g d,fun j e=>by grind,fun i a=>q50 c i a,fun i a=>q50 b i a⟩
def OkP (N:List B4) (Rd ep:Int) (p:Pl):Prop:=0<=p.1/\p.1<N.length/\0<=p.2.1/\p.2.1<D6 (N.getD p.1.toNat v0)/\(p.2.2.1.length:Int)=(N.getD p.1.toNat v0).2.1/\p.2.2.1[0]? = some ep/\∀ (i:Nat) x,p.2.2.1[i]? = some x->0<=x/\(0<i->x<=Rd)
section
variable {N:List B4} {E:List Edge} {Rd ep:Int}
theorem j57 (g:GrP N E) {p:Pl} (l:0<=p.1) (h1:p.1<N.length) (o:0<=p.2.1) (m:p.2.1<D6 (N.getD p.1.toNat v0)):∃ j,j<E.length/\frE E j=C8 E p/\toE E j=p.1/\poE E j=p.2.1:=by
 have b:=g.miss p.1.toNat (by omega)
 unfold S4 at b
 rw[List.any_eq_false]at b
 have:=b p.2.1.toNat (List.mem_range.2 (by omega))
 have c:Q2 E (p.1.toNat:Int) (p.2.1.toNat:Int)=true:=by grind
 unfold Q2 at c
 obtain⟨j,d,f⟩:=List.any_eq_true.1 c
 have d:=List.mem_range.1 d
 have a:(E.find? fun e=>e.2.1==p.1&&e.2.2.1==p.2.1).isSome=true:=by
  grind[toE,poE]
 obtain⟨e,h⟩:=Option.isSome_iff_exists.1 a
 obtain⟨i,k,rfl⟩:=List.getElem_of_mem (List.mem_of_find?_eq_some h)
 have n:E.getD i e0=E[i]:=by grind
 grind[frE,C8,toE,poE]
structure SrcP (N:List B4) (E:List Edge) (p:Pl):Prop where
 lo:0<=C8 E p
 hi:C8 E p<N.length
 may:I6 (B8 N E p)=true
 out:Y0 (B8 N E p)=(N.getD p.1.toNat v0).2.1
 edge:∃ j,j<E.length/\frE E j=C8 E p/\toE E j=p.1
theorem q39 (g:GrP N E) {p:Pl} (h:OkP N Rd ep p):SrcP N E p:=by
 obtain⟨j,c,b,d,e⟩:=j57 g h.1 h.2.1 h.2.2.1 h.2.2.2.1
 have:=q0g (g.ok j c)
 rw[b,d]at this
 exact⟨this.1,this.2.1,X8 g.may this.1 this.2.1,this.2.2.2.2.2.2.2,j,c,b,d⟩
theorem q2s {v:B4} (h:I6 v=true):1<=v.2.1/\v.2.1<=4/\1<=v.1/\v.1<=6/\(v.1=1->v.2.1=1)/\(v.1=4->v.2.1≠4)/\(5<=v.1->2<=v.2.1):=of_decide_eq_true h
theorem q6u (t:List Int) (i:Nat):(J9 t)[i]? = if i<t.length-1 then t[i]? else none:=by
 grind[J9]
theorem z0i (t:List Int):(J9 t).length=t.length-1:=by
 grind[J9]
theorem q2l {t:List Int} (h:t≠[]):t[t.length-1]? = some (I5 t):=by
 grind[List.length_pos_iff,I5]
theorem q1c (g:GrP N E) {p q:Pl} (h:OkP N Rd ep p) (hR:0<=Rd) (f:q∈B5 N E Rd p):q.1=C8 E p/\OkP N Rd ep q /\
  ((q.2.2.1=p.2.2.1/\(B8 N E p).1≠6)\/(q.2.2.1=J9 p.2.2.1/\(B8 N E p).1≠6)\/(q.2.2.1=p.2.2.1++[Rd]/\(B8 N E p).1≠6)\/(q.2.2.1=J9 p.2.2.1++[I5 p.2.2.1-1]/\(B8 N E p).1=6/\0<I5 p.2.2.1/\p.2.2.1.length=q.2.2.1.length)):=by
 obtain⟨o,w,J,l,-⟩:=q39 g h
 obtain⟨X,Z,m3,m4,m5,m6,m7⟩:=q2s J
 obtain⟨O,W,V,U,M,u,r⟩:=h
 have j:0<p.2.2.1.length:=(List.getElem?_eq_some_iff.1 u).1
 have s:p.2.2.1≠[]:=List.length_pos_iff.1 j
 obtain⟨n,m,t,⟨⟩⟩:=p
 simp at O W V U M u r j s l
 unfold B5 at f
 unfold Y0 at l
 have c:∀ k:Int,0<=k->k<(if(B8 N E (n,m,t,())).1=1 then 0 else if(B8 N E (n,m,t,())).1=3 then 2 else 1)->k<D6 (N.getD (C8 E (n,m,t,())).toNat v0):=fun k _ h=>h
 generalize H:B8 N E (n,m,t,())=v at *
 have C:N.getD (C8 E (n,m,t,())).toNat v0=v:=H
 generalize C8 E (n,m,t,())=x at *
 split at f
 ·grind
 ·rename_i Y
  split at f
  ·rename_i Q
   rw[List.mem_singleton.1 f]
   rw[if_neg (by omega),if_neg (by omega)]at l
   exact⟨rfl,⟨o,w,Int.le_refl 0,c 0 (Int.le_refl 0) (by omega),by grind,u,r⟩,.inl ⟨rfl,by omega⟩⟩
  ·rename_i Q
   split at f
   ·rename_i I
    rw[if_neg (by omega),if_neg (by omega)]at l
    have K:∀ k:Int,0<=k->k<2->OkP N Rd ep (x,k,t,()):=fun k a b=>⟨o,w,a,c k a (by omega),by grind,u,r⟩
    grind
   ·rename_i I
    split at f
    ·rename_i z
     rw[List.mem_singleton.1 f]
     rw[if_pos z]at l
     refine⟨rfl,⟨o,w,Int.le_refl 0,c 0 (Int.le_refl 0) (by omega),?_,?_,fun i y d=>?_⟩,.inr (.inl ⟨rfl,by omega⟩)⟩
     all_goals grind[z0i,q6u]
    ·rename_i z
     split at f
     ·rename_i D
      rw[List.mem_singleton.1 f]
      rw[if_neg z,if_pos D]at l
      refine⟨rfl,⟨o,w,Int.le_refl 0,c 0 (Int.le_refl 0) (by omega),?_,?_,fun i y d=>?_⟩,.inr (.inr (.inl ⟨rfl,by omega⟩))⟩
      ·grind
      ·grind
      ·have d:(t++[Rd])[i]? = some y:=d
       by_cases G:i<t.length
       ·grind
       ·rw[List.getElem?_append_right (by omega)]at d
        grind
     ·rename_i D
      split at f
      ·rename_i A
       have A:0<I5 t:=A
       rw[List.mem_singleton.1 f]
       rw[if_neg z,if_neg D]at l
       have S:2<=t.length:=by omega
       have e:(J9 t++[I5 t-1]).length=t.length:=by rw[List.length_append,z0i];simp;omega
       refine⟨rfl,⟨o,w,Int.le_refl 0,c 0 (Int.le_refl 0) (by rw[if_neg (by omega),if_neg (by omega)];decide),?_,?_,fun i y d=>?_⟩,.inr (.inr (.inr ⟨rfl,by omega,A,e.symm⟩))⟩
       ·show((J9 t++[I5 t-1]).length:Int)=(N.getD x.toNat v0).2.1
        rw[C,e];omega
       ·show(J9 t++[I5 t-1])[0]? = some ep
        rw[List.getElem?_append_left (by rw[z0i];omega),q6u,if_pos (by omega)];exact u
       ·have d:(J9 t++[I5 t-1])[i]? = some y:=d
        by_cases G:i<(J9 t).length
        ·rw[List.getElem?_append_left G,q6u]at d
         split at d
         ·exact r i y d
         ·cases d
        ·rw[List.getElem?_append_right (by omega)]at d
         have T:i-(J9 t).length<1:=by have:=(List.getElem?_eq_some_iff.1 d).1;simpa using this
         have R:i-(J9 t).length=0:=by omega
         rw[R]at d
         simp at d
         have:=r (t.length-1) (I5 t) (q2l s)
         exact⟨by omega,fun _=>by omega⟩
      grind
def crd (m:Nat) (p:Pl):Nat:=((p.2.2.1[m-1]?).getD 0).toNat
def dpt (N:List B4) (p:Pl):Int:=J0 N p.1.toNat
theorem z6h (g:GrP N E) {p q:Pl} (h:OkP N Rd ep p) (i:0<=Rd) (c:q∈B5 N E Rd p) {m:Nat} (h1:1<=m) (u:(m:Int)<=dpt N p) (l:(m:Int)<=dpt N q) :
  if q1o N q.1.toNat=6/\dpt N q=m then crd m q<crd m p else crd m q=crd m p:=by
 obtain⟨s,a,b⟩:=q1c g h i c
 have f:(B8 N E p).1=q1o N q.1.toNat:=by grind[B8,q1o]
 have d:(p.2.2.1.length:Int)=dpt N p:=h.2.2.2.2.1
 have j:(q.2.2.1.length:Int)=dpt N q:=a.2.2.2.2.1
 rw[f]at b
 unfold crd
 rcases b with⟨e,k⟩ | ⟨e,k⟩ | ⟨e,k⟩ | ⟨e,k,t,o⟩
 ·grind
 ·grind[q6u]
 ·grind
 ·by_cases n:dpt N q=m
  ·rw[if_pos ⟨k,n⟩,e]
   have r:m-1=p.2.2.1.length-1:=by omega
   rw[List.getElem?_append_right (by grind),z0i,r,Nat.sub_self,q2l (fun e=>by grind)]
   simp[List.getElem?_cons_zero,Option.getD_some]
   omega
  grind[q6u]
def j1z (N:List B4) (E:List Edge) (m j i:Nat):Bool:=fwN (edM N E m E.length) N.length j i
def rnk (N:List B4) (E:List Edge) (m i:Nat):Nat:=(List.range N.length).countP fun j=>j1z N E m j i&&decide (J0 N j=(m:Int))
theorem q9m (g:GrP N E) {m j i:Nat}:j1z N E m j i=true↔Way (edM N E m E.length) j i:=q76 (fun _ _ h=>q3j g.ok h) j i
theorem v3b (g:GrP N E) {m a b:Nat} (h:edM N E m E.length a b=true):rnk N E m a<=rnk N E m b:=List.countP_mono_left fun j _ c=>by
 rw[Bool.and_eq_true]at c ⊢
 exact⟨(q9m g).2 (.more ((q9m g).1 c.1) h),c.2⟩
theorem v3c (g:GrP N E) {m a b:Nat} (h:edM N E m E.length a b=true) (e:J0 N a=(m:Int)):rnk N E m a<rnk N E m b:=by
 have d:=(q3j g.ok h).1
 refine j3v (fun j _ c=>?_) ⟨a,List.mem_range.2 d,?_,?_⟩
 ·rw[Bool.and_eq_true]at c ⊢
  exact⟨(q9m g).2 (.more ((q9m g).1 c.1) h),c.2⟩
 ·rw[(q9m g).2 (.one h),decide_eq_true e];rfl
 ·have:=g.ring a d
  grind[W4,j1z]
def q0q (N:List B4) (E:List Edge) (Rd:Int) (m:Nat) (q p:Pl):Prop:=q∈B5 N E Rd p/\(m:Int)<=dpt N q
theorem z9f {m i:Nat} (h:(m:Int)<=J0 N i):H3 N m i=true↔¬ (q1o N i=6/\J0 N i=m):=by
 grind[H3]
theorem j3y (g:GrP N E) {p q:Pl} (h:OkP N Rd ep p) (c:0<=Rd) (b:q∈B5 N E Rd p) {m:Nat} (n:H3 N m p.1.toNat=true) (d:H3 N m q.1.toNat=true):edM N E m E.length q.1.toNat p.1.toNat=true:=by
 obtain⟨i,a,-⟩:=q1c g h c b
 obtain⟨-,-,-,-,j,e,l,k⟩:=q39 g h
 have:=h.1
 have:=a.1
 grind[edM_iff]
theorem j2g (g:GrP N E) (r:0<=Rd):∀ (d m:Nat),m+d=5->1<=m->∀ p,OkP N Rd ep p->(m:Int)<=dpt N p->Acc (q0q N E Rd m) p
 | 0,m,O,_,p,h,o=>by
  have:=(q2s (X8 g.may h.1 h.2.1)).2.1
  have:dpt N p<=4:=this
  omega
 | d+1,m,O,C,p,h,o=>by
  have below:=j2g g r d (m+1) (by omega) (by omega)
  have F:∀ c:Nat,∀ p,OkP N Rd ep p->(m:Int)<=dpt N p->crd m p=c->Acc (q0q N E Rd m) p:=by
   intro c
   induction c using Nat.strongRecOn with
   | _ c M =>
   have u:∀ k:Nat,∀ p,OkP N Rd ep p->(m:Int)<=dpt N p->crd m p=c->H3 N m p.1.toNat=true->rnk N E m p.1.toNat=k->Acc (q0q N E Rd m) p:=by
    intro k
    induction k using Nat.strongRecOn with
    | _ k S =>
    have step:∀ p q,OkP N Rd ep p->(m:Int)<=dpt N p->crd m p=c->H3 N m p.1.toNat=true->rnk N E m p.1.toNat=k->q0q N E Rd m q p ->
      ((m+1:Nat):Int)<=dpt N q->(OkP N Rd ep q->crd m q=c->H3 N m q.1.toNat=true->rnk N E m q.1.toNat=k->Acc (q0q N E Rd m) q)->Acc (q0q N E Rd m) q:=fun p q h o w v A f s T=>by
     have l:=(q1c g h r f.1).2.1
     have j:=z6h g h r f.1 C o f.2
     rw[if_neg (fun y=>by omega)]at j
     have t:=(z9f (N:=N) (m:=m) (i:=q.1.toNat) f.2).2 (fun y=>by grind[dpt])
     have I:=v3b g (j3y g h r f.1 v t)
     grind
    have H:∀ p q,OkP N Rd ep p->(m:Int)<=dpt N p->crd m p=c->H3 N m p.1.toNat=true->rnk N E m p.1.toNat=k->q0q N E Rd m q p->dpt N q=m->Acc (q0q N E Rd m) q:=fun p q h o w v A f s=>by
     have l:=(q1c g h r f.1).2.1
     have j:=z6h g h r f.1 C o f.2
     by_cases z:q1o N q.1.toNat=6
     ·grind
     ·rw[if_neg (fun y=>z y.1)]at j
      have t:=(z9f (N:=N) (m:=m) (i:=q.1.toNat) f.2).2 (fun y=>z y.1)
      have J:=v3c g (j3y g h r f.1 v t) s
      grind
    have D:∀ p,Acc (q0q N E Rd (m+1)) p->OkP N Rd ep p->((m+1:Nat):Int)<=dpt N p->crd m p=c->H3 N m p.1.toNat=true->rnk N E m p.1.toNat=k->Acc (q0q N E Rd m) p:=by
     intro p Q
     induction Q with
     | intro p _ R =>
      intro h o w v A
      refine Acc.intro p fun q f=>?_
      by_cases s:dpt N q=m
      ·grind
      ·have B:=f.2
       have n:((m+1:Nat):Int)<=dpt N q:=by omega
       exact step p q h (by omega) w v A f n fun a b c e=>R q ⟨f.1,n⟩ a n b c e
    intro p h o w v A
    by_cases K:dpt N p=m
    ·refine Acc.intro p fun q f=>?_
     by_cases s:dpt N q=m
     ·grind
     ·have B:=f.2
      grind
    grind
   intro p h o w
   by_cases v:H3 N m p.1.toNat=true
   ·grind
   ·refine Acc.intro p fun q f=>?_
    have l:=(q1c g h r f.1).2.1
    have j:=z6h g h r f.1 C o f.2
    by_cases z:q1o N q.1.toNat=6/\dpt N q=m
    ·grind
    ·rw[if_neg z]at j
     exact u _ q l f.2 (j.trans w) ((z9f f.2).2 z) rfl
  grind
theorem j2f (g:GrP N E) (d:0<=Rd) {p:Pl} (b:OkP N Rd ep p):Acc (fun q p=>q∈B5 N E Rd p) p:=by
 have d1:∀ p,OkP N Rd ep p->((1:Nat):Int)<=dpt N p:=fun p b=>(q2s (X8 g.may b.1 b.2.1)).1
 have f:=j2g g d 4 1 rfl (Nat.le_refl 1) p b (d1 p b)
 induction f with
 | intro p _ h =>
  refine Acc.intro p fun q c=>?_
  have a:=(q1c g b d c).2.1
  exact h q ⟨c,d1 q a⟩ a
end
end

section
open Go Go.Abs

abbrev Rw:=Int×Int×Int×Unit
abbrev Ky:=Int×Int×Unit
abbrev KT:Ty:=.cons (.int .i64) (.cons (.int .i64) .nil)
abbrev Bg:=List (Ky×Int)
theorem G4:KT.flat=true:=rfl
def B6 (r:Rw):Ky:=(r.1,r.2.1,())
def rE (r:Rw):Ky×Int:=(B6 r,r.2.2.1)
def toR (p:Ky×Int):Rw:=(p.1.1,p.1.2.1,p.2,())
def W (n:Int):Int:=IntKind.i64.wrap n
def nOf (m:Bg) (k:Ky):Int:=(A9 KT m k).getD 0
structure BagIs (m:Bg) (T:Ky->Int):Prop where
 rise:Rise KT m
 num:∀ k,nOf m k=T k
 nz:∀ p∈m,p.2≠0
def q1u (m:Bg) (k:Ky) (n:Int):Bg :=
 cond (nOf (B0 KT (D0 KT m k 0) k (W (nOf m k+n))) k==0) (G5 KT (B0 KT (D0 KT m k 0) k (W (nOf m k+n))) k) (B0 KT (D0 KT m k 0) k (W (nOf m k+n)))
theorem j05 (m:Bg) (k j:Ky) (v:Int):nOf (B0 KT m k v) j=if j=k then v else nOf m j:=by
 grind[nOf,q2o,G4,q2n]
theorem y51 {m:Bg} (h:Rise KT m) (k:Ky):Rise KT (D0 KT m k 0):=q0l G4 h
theorem y98 (m:Bg) (k j:Ky):nOf (D0 KT m k 0) j=nOf m j:=by
 unfold D0
 rw[j05]
 split
 ·rename_i h;subst h;rfl
 rfl
theorem v1o {m:Bg} {T:Ky->Int} (h:BagIs m T) (k:Ky) (n:Int):BagIs (q1u m k n) (fun j=>if j=k then W (T k+n)else T j):=by
 have d:=q0l G4 (k:=k) (v:=W (nOf m k+n)) (y51 h.rise k)
 have i:∀ j,nOf (B0 KT (D0 KT m k 0) k (W (nOf m k+n))) j=if j=k then W (T k+n)else T j:=fun j=>by
  rw[j05,y98,h.num,h.num]
 have a:∀ p∈B0 KT (D0 KT m k 0) k (W (nOf m k+n)),p=(k,W (T k+n))\/(p∈m/\p.1≠k):=fun p c=>by
  by_cases g:p.1=k
  ·have b:A9 KT (B0 KT (D0 KT m k 0) k (W (nOf m k+n))) p.1=some p.2:=(W0 G4 d).2 c
   rw[g,q2o G4]at b
   left
   exact Prod.ext g ((Option.some.inj b).symm.trans (by rw[h.num]))
  ·have b:A9 KT (B0 KT (D0 KT m k 0) k (W (nOf m k+n))) p.1=some p.2:=(W0 G4 d).2 c
   unfold D0 at b
   rw[q2n G4 _ _ _ _ g,q2n G4 _ _ _ _ g]at b
   exact .inr ⟨(W0 G4 h.rise).1 b,g⟩
 unfold q1u
 generalize B0 KT (D0 KT m k 0) k (W (nOf m k+n))=M at d i a ⊢
 have l:=i k
 rw[if_pos rfl]at l
 rw[l]
 by_cases q:W (T k+n)=0
 ·rw[q]
  refine⟨z2c d,fun j=>?_,fun p c=>?_⟩
  ·grind[nOf,y8f,G4,y8e]
  ·have e:p∈M/\¬ KT.eqb k p.1=true:=by
    grind[G5]
   rcases a p e.1 with f | ⟨f,-⟩
   ·exact absurd ((KT.eqb_iff G4 k p.1).2 (by grind)) e.2
   ·exact h.nz p f
 ·have o:(W (T k+n)==0)=false:=by grind
  rw[o,cond_false]
  refine⟨d,i,fun p c=>?_⟩
  rcases a p c with f | ⟨f,-⟩
  ·grind
  ·exact h.nz p f
theorem j34 {m:Bg} {T:Ky->Int} (h:BagIs m T) (p:Ky×Int):p∈m↔p.2≠0/\T p.1=p.2:=by
 constructor
 ·intro b
  refine⟨h.nz p b,?_⟩
  rw[<-h.num]
  unfold nOf
  rw[(W0 G4 h.rise).2 b];rfl
 ·rintro ⟨d,a⟩
  rw[<-h.num]at a
  unfold nOf at a
  cases c:A9 KT m p.1 with
  | none=>grind
  | some v =>
   rw[c]at a
   subst a
   exact(W0 G4 h.rise).1 c
theorem j35 {m:Bg} (h:Rise KT m):m.Nodup:=List.Pairwise.imp (fun {a b} c e=>c (by rw[e])) (h.ne G4)
theorem y3e {m a:Bg} {T:Ky->Int} (h:BagIs m T) (h':BagIs a T):m=a :=
 v3a G4 h.rise h'.rise ((List.perm_ext_iff_of_nodup (j35 h.rise) (j35 h'.rise)).2 fun p=>(j34 h p).trans (j34 h' p).symm)
def tot:List Rw->(Ky->Int)->(Ky->Int)
 | [],T=>T
 | r::l,T=>tot l (fun j=>if j=B6 r then W (T (B6 r)+r.2.2.1)else T j)
def E3 (l:List Rw) (m:Bg):Bg:=l.foldl (fun m r=>q1u m (B6 r) r.2.2.1) m
theorem z5s:∀ (l:List Rw) {m:Bg} {T:Ky->Int},BagIs m T->BagIs (E3 l m) (tot l T)
 | [],_,_,h=>h
 | r::l,_,_,h=>z5s l (v1o h (B6 r) r.2.2.1)
def V6:List Rw->Rw->List Rw
 | [],r=>[r]
 | p::o,r=>if KT.lt (B6 p) (B6 r)=true then p::V6 o r else if B6 p=B6 r then(p.1,p.2.1,W (p.2.2.1+r.2.2.1),())::o else r::p::o
def InR (n:Int):Prop:=W n=n
theorem z1s (n:Int):InR (W n):=by grind[InR,W,IntKind.wrap_i64]
structure RowsAre (o:List Rw) (T:Ky->Int):Prop where
 rise:Rise KT (o.map rE)
 num:∀ k,nOf (o.map rE) k=T k
theorem z9c:∀ (o:List Rw) (r:Rw),Rise KT (o.map rE)->InR r.2.2.1->(V6 o r).map rE=B0 KT (o.map rE) (B6 r) (W (nOf (o.map rE) (B6 r)+r.2.2.1))
 | [],r,_,j=>by
  show [rE r]=[(B6 r,W (0+r.2.2.1))]
  rw[Int.zero_add,j];rfl
 | p::o,r,h,j=>by
  obtain⟨v,t⟩:=List.pairwise_cons.1 h
  have u:=z9c o r t j
  unfold V6
  have s:(List.map rE (p::o))=rE p::o.map rE:=rfl
  by_cases a:KT.lt (B6 p) (B6 r)=true
  ·rw[if_pos a,s]
   have d:B6 r≠B6 p:=fun e=>by rw[e,KT.lt_irr G4]at a;grind
   have l:KT.lt (B6 r) (B6 p)=false:=by
    cases c:KT.lt (B6 r) (B6 p)with
    | false=>rfl
    | true=>have:=KT.lt_trans G4 _ _ _ a c;rw[KT.lt_irr G4]at this;grind
   have k:nOf (rE p::o.map rE) (B6 r)=nOf (o.map rE) (B6 r):=by
    unfold nOf A9
    rw[List.find?_cons,show KT.eqb (B6 r) (rE p).1=false from KT.eqb_false G4 d]
   rw[k,List.map_cons,u,B0,show KT.eqb (B6 r) (rE p).1=false from KT.eqb_false G4 d,cond_false,show KT.lt (B6 r) (rE p).1=false from l,cond_false]
  ·rw[if_neg a,s]
   by_cases i:B6 p=B6 r
   ·have f:KT.eqb (B6 r) (rE p).1=true:=(KT.eqb_iff G4 _ _).2 i.symm
    grind[nOf,rE,B6,A9,B0]
   ·rw[if_neg i]
    have b:KT.lt (B6 r) (B6 p)=true:=by
     rcases KT.lt_tri G4 (B6 p) (B6 r)with n | n | n
     all_goals grind
    have f:KT.eqb (B6 r) (rE p).1=false:=KT.eqb_false G4 (fun e=>i e.symm)
    have k:nOf (rE p::o.map rE) (B6 r)=0:=by
     unfold nOf
     rw[(q2m G4).2]
     ·rfl
     ·intro q c e
      rcases List.mem_cons.1 c with rfl | c
      ·exact i e
      ·have m:=v q c
       rw[e]at m
       have:=KT.lt_trans G4 _ _ _ b m
       rw[KT.lt_irr G4]at this;grind
    rw[k,B0,f,cond_false,show KT.lt (B6 r) (rE p).1=true from b,cond_true,Int.zero_add,j];rfl
theorem y77 {o:List Rw} {T:Ky->Int} (h:RowsAre o T) {r:Rw} (a:InR r.2.2.1):RowsAre (V6 o r) (fun j=>if j=B6 r then W (T (B6 r)+r.2.2.1)else T j) where
 rise:=by rw[z9c o r h.rise a];exact q0l G4 h.rise
 num k:=by rw[z9c o r h.rise a,j05,h.num,h.num]
def P7 (l:List Rw) (o:List Rw):List Rw:=l.foldl V6 o
theorem j82:∀ (l:List Rw) {o:List Rw} {T:Ky->Int},RowsAre o T->(∀ r∈l,InR r.2.2.1)->RowsAre (P7 l o) (tot l T)
 | [],_,_,h,_=>h
 | r::l,_,_,h,a=>j82 l (y77 h (a r List.mem_cons_self)) fun q b=>a q (List.mem_cons_of_mem _ b)
def nzB (r:Rw):Bool:=r.2.2.1 != 0
theorem y5w {o:List Rw} {T:Ky->Int} (h:RowsAre o T):BagIs ((o.filter nzB).map rE) T:=by
 have i:(o.filter nzB).map rE=(o.map rE).filter fun p=>p.2 != 0:=by
  rw[List.filter_map];rfl
 rw[i]
 have d:Rise KT ((o.map rE).filter fun p=>p.2 != 0):=List.Pairwise.filter _ h.rise
 refine⟨d,fun k=>?_,fun p b=>by grind⟩
 rw[<-h.num k]
 unfold nOf
 cases f:A9 KT (o.map rE) k with
 | none =>
  grind[q2m,G4]
 | some v =>
  have a:=(W0 G4 h.rise).1 f
  by_cases c:v=0
  ·subst c
   rw[(q2m G4).2]
   ·rfl
   ·intro p b e
    have g:=List.mem_filter.1 b
    have j:=z2p (h.rise.ne G4) g.1 a e
    grind
  grind[W0,G4]
theorem z4m {l:List Rw} (b:∀ r∈l,InR r.2.2.1):(P7 l []).filter nzB=(E3 l []).map toR:=by
 have a:BagIs [] (fun _=>0):=⟨List.Pairwise.nil,fun _=>rfl,fun p e=>by grind⟩
 have c:RowsAre [] (fun _=>0):=⟨List.Pairwise.nil,fun _=>rfl⟩
 have d:=y3e (y5w (j82 l c b)) (z5s l a)
 rw[<-d,List.map_map]
 have:toR∘rE=id:=funext fun r=>rfl
 simp_all
theorem z5t (l:List Rw):Rise KT (E3 l []):=(z5s l (T:=fun _=>0) ⟨List.Pairwise.nil,fun _=>rfl,fun p a=>by grind⟩).rise
end

section
open Go Go.Abs

theorem y43 (v w:Int):q6s (v,w,())=some (if v<w then -1 else if v>w then 1 else 0,()):=by
 unfold q6s z0c
 simp only[z5v rfl,Option.bind_some,cond_false,z6g]
 split
 ·rfl
 ·split<;>rfl
theorem y4a (p q:Int):z0b ([p,q],())=some (if p≠0 then p else q,()):=by
 have f0:q4l ([p,q],()) ((0:Int),())=if p=0 then some (.inl ((1:Int),()))else some (.inr (.inl (p,()))):=by
  unfold q4l
  have g:A7 [p,q] (0:Int)=some p:=rfl
  have d0:decide ((0:Int)<(([p,q]:List Int).length:Int))=true:=rfl
  have w0:IntKind.i64.wrap ((0:Int)+1)=1:=by decide
  simp only[d0,cond_true,g,Option.bind_some,V1,w0]
 have f1:q4l ([p,q],()) ((1:Int),())=if q=0 then some (.inl ((2:Int),()))else some (.inr (.inl (q,()))):=by
  unfold q4l
  have g:A7 [p,q] (1:Int)=some q:=rfl
  have d0:decide ((1:Int)<(([p,q]:List Int).length:Int))=true:=rfl
  have w0:IntKind.i64.wrap ((1:Int)+1)=2:=by decide
  simp only[d0,cond_true,g,Option.bind_some,V1,w0]
 have f2:q4l ([p,q],()) ((2:Int),())=some (.inr (.inr (.inl ()))):=rfl
 unfold z0b
 by_cases hp:p=0
 ·rw[if_pos hp]at f0
  rw[K2 f0,if_neg (by simpa using hp)]
  by_cases hq:q=0
  ·rw[if_pos hq]at f1
   rw[K2 f1,H1 f2,hq];rfl
  ·rw[if_neg hq]at f1
   rw[H1 f1];rfl
 ·rw[if_neg hp]at f0
  rw[H1 f0,if_pos hp];rfl
def z0a (x y:Rw):Int:=if x.1<y.1 then -1 else if x.1>y.1 then 1 else if x.2.1<y.2.1 then -1 else if x.2.1>y.2.1 then 1 else 0
theorem j83 (x y:Rw):q4g (x,y,())=some (z0a x y,()):=by
 unfold q4g z0a
 simp only[y43,Option.bind_some,y4a]
 by_cases h1:x.1<y.1
 ·simp[h1]
 ·by_cases h2:x.1>y.1
  ·simp[h1,h2]
  ·simp[h1,h2]
theorem y45 (x y:Rw):z0a x y<0↔KT.lt (B6 x) (B6 y)=true:=by
 have h:KT.lt (B6 x) (B6 y)=(decide (x.1<y.1)||((x.1==y.1)&&(decide (x.2.1<y.2.1)||((x.2.1==y.2.1)&&false)))):=rfl
 rw[h]
 unfold z0a
 by_cases h1:x.1<y.1
 ·simp[h1]
 ·by_cases h2:x.1>y.1
  ·have h3:¬ x.1=y.1:=by omega
   simp[h1,h2,h3]
  ·have h3:x.1=y.1:=by omega
   by_cases h4:x.2.1<y.2.1
   ·simp[h3,h4]
   ·by_cases h5:x.2.1>y.2.1
    ·simp[h3,h4,h5]
    ·simp[h3,h4,h5]
theorem j2n {E γ:Type} {F:Type} {row:E->F} {b:Nat} {k:((List F×Unit)⊕Empty)->Option γ} {f:List E->E->(List F×Unit)->Option ((List F×Unit)⊕((List F×Unit)⊕Empty))} {g:(List F×Unit)->Option ((List F×Unit)⊕((List F×Unit)⊕Empty))}
  (hf:∀ r e (y:List F),y.length+1<=b->f r e (y,())=some (.inl (y++[row e],()))) (hg:∀ y:List F,g (y,())=some (.inr (.inl (y,())))) {c:γ} :
  ∀ (n:Nat) (l:List E) (y:List F),l.length=n->y.length+n<=b->(∀ ord:List E,ord.Perm l->k (.inl (y++ord.map row,()))=some c)->q4a f g k n l (y,()) c
 | 0,l,y,hl,hb,h=>by
  have:l=[]:=List.eq_nil_of_length_eq_zero hl
  subst this
  refine⟨.inl (y,()),hg y,?_⟩
  have:=h [] (List.Perm.refl _)
  simpa using this
 | n+1,[],y,hl,_,_=>by simp at hl
 | n+1,e::l,y,hl,hb,h=>by
  intro p r hp
  refine .inr ⟨_,hf r p y (by omega),j2n hf hg n r (y++[row p]) ?_ ?_ fun ord ho=>?_⟩
  ·have:=hp.length_eq
   simp only[List.length_cons]at this hl
   omega
  ·simp only[List.length_append,List.length_cons,List.length_nil];omega
  ·have:=h (p::ord) ((ho.cons p).trans hp.symm)
   rw[List.map_cons]at this
   rw[List.append_assoc];exact this
theorem q36 {n:Nat} (h:n<=4000000000000):C2 n 24=true:=by
 unfold C2
 rw[Bool.and_eq_true]
 exact⟨Nat.ble_eq_true_of_le (by omega),Nat.ble_eq_true_of_le (by omega)⟩
theorem v3d {n:Nat} (h:n<=4000000000000):C2 n 1=true:=by
 unfold C2
 rw[Bool.and_eq_true]
 exact⟨Nat.ble_eq_true_of_le (by omega),Nat.ble_eq_true_of_le (by omega)⟩
theorem v3i {m:Bg} (h:Rise KT m) {z:List Rw} (hz:z.Perm (m.map toR)):q0v (fun a b=>(q4g (a,b,())).map fun r=>r.1) z=some (m.map toR):=by
 have hlt:∀ x y:Rw,ltF (fun a b=>(q4g (a,b,())).map fun r=>r.1) x y↔KT.lt (B6 x) (B6 y)=true:=fun x y=>by
  unfold ltF
  simp only[j83,Option.map_some]
  rw[<-y45]
  exact⟨fun ⟨v,h1,h2⟩=>by cases h1;exact h2,fun h=>⟨_,rfl,h⟩⟩
 have huniq:∀ x∈z,∀ y∈z,B6 x=B6 y->x=y:=by
  intro x hx y hy e
  obtain⟨p,hp,rfl⟩:=List.mem_map.1 (hz.mem_iff.1 hx)
  obtain⟨q,hq,rfl⟩:=List.mem_map.1 (hz.mem_iff.1 hy)
  rw[z2p (h.ne G4) hp hq e]
 refine v6l ⟨fun x _ y _=>⟨_,by rw[j83];rfl⟩,fun x _=>?_,fun x _ y _ w _=>?_,fun x hx y hy h1 h2=>?_⟩ hz.symm ?_
 ·rw[hlt,KT.lt_irr G4];simp
 ·rw[hlt,hlt,hlt];exact KT.lt_trans G4 _ _ _
 ·rw[hlt]at h1 h2
  rcases KT.lt_tri G4 (B6 x) (B6 y)with h3 | h3 | h3
  ·exact absurd h3 h1
  ·exact huniq x hx y hy h3
  ·exact absurd h3 h2
 ·unfold Srt
  rw[List.pairwise_map]
  refine List.Pairwise.imp (fun {a b} hab=>?_) h
  rw[hlt]
  intro hba
  have:KT.lt a.1 a.1=true:=KT.lt_trans G4 _ _ _ hab hba
  rw[KT.lt_irr G4]at this;cases this
theorem q5z {m:Bg} (h:Rise KT m) (hl:m.length<=3000000000000):q19 (m,())=some (m.map toR,()):=by
 unfold q19
 refine y32 ?_
 refine j2n (row:=toR) (b:=4000000000000) (fun r e y hb=>?_) (fun y=>rfl) _ m [] rfl (by simp;omega) fun ord ho=>?_
 ·unfold j36
  rw[show ∀ x:Rw,([x]:List Rw).length=1 from fun _=>rfl,q36 hb];rfl
 ·have hlen:([]++ord.map toR).length<=4000000000000:=by
   rw[List.nil_append,List.length_map,ho.length_eq];omega
  show cond (C2 ([]++ord.map toR).length 1) _ none=_
  rw[v3d hlen,cond_true,List.nil_append,v3i h (ho.map toR)];rfl
def sc (n:Int) (r:Rw):Rw:=(r.1,r.2.1,W (n*r.2.2.1),())
theorem j32 (l l':List Rw) (m:Bg):E3 (l++l') m=E3 l' (E3 l m):=List.foldl_append
theorem y3d (a:List Rw) (n:Int) (m:Bg) {i:Nat} (h:i<a.length):E3 ((a.take (i+1)).map (sc n)) m=q1u (E3 ((a.take i).map (sc n)) m) (B6 a[i]) (W (n*a[i].2.2.1)):=by
 rw[List.take_succ_eq_append_getElem h,List.map_append,j32];rfl
end

section
open Go Go.Abs

theorem y1e (p r:Rw):z4d (p,r,())=some (KT.lt (B6 p) (B6 r),()):=by
 have h:KT.lt (B6 p) (B6 r)=(decide (p.1<r.1)||((p.1==r.1)&&(decide (p.2.1<r.2.1)||((p.2.1==r.2.1)&&false)))):=rfl
 grind[z4d]
def L0:List Rw->Rw->Nat
 | [],_=>0
 | p::s,r=>if KT.lt (B6 p) (B6 r)=true then L0 s r+1 else 0
theorem j7d:∀ (o:List Rw) (r:Rw),L0 o r<=o.length
 | [],_=>Nat.le_refl _
 | p::s,r=>by
  have:=j7d s r
  unfold L0
  split
  ·simp[List.length_cons];omega
  ·omega
theorem z9d:∀ (o:List Rw) (r:Rw),V6 o r=if ∃ p,o[L0 o r]? = some p/\B6 p=B6 r then o.modify (L0 o r) (fun p=>(p.1,p.2.1,W (p.2.2.1+r.2.2.1),()))else o.take (L0 o r)++r::o.drop (L0 o r)
 | [],r=>by rfl
 | p::s,r=>by
  have b:=z9d s r
  unfold V6 L0
  by_cases a:KT.lt (B6 p) (B6 r)=true
  ·simp only[a,if_true,List.getElem?_cons_succ,List.take_succ_cons,List.drop_succ_cons,List.cons_append,List.modify_succ_cons,b]
   split
   all_goals rfl
  ·simp[if_neg a,List.getElem?_cons_zero,List.take_zero,List.drop_zero,List.nil_append,List.modify_zero_cons,Option.some.injEq,exists_eq_left']
theorem j50 {n:Int} {v:Rw} {o:List Rw} (g:o.length<=3000000000000):∀ (b pre:List Rw),o=pre++b->A4 (q5m (o,n,()) v) ((pre.length:Int),())=some (.inl (((pre.length+L0 b v:Nat):Int),()))
 | [],pre,f=>by
  have e:o.length=pre.length:=by grind
  refine H1 ?_
  unfold q5m
  simp only[dcF (show ¬ (pre.length:Int)<(o.length:Int)by omega),cond_false]
  rfl
 | p::s,pre,f=>by
  have a:q5m (o,n,()) v ((pre.length:Int),())=cond (KT.lt (B6 p) (B6 v)) (some (.inl (((pre.length+1:Nat):Int),()))) (some (.inr (.inl ((pre.length:Int),())))):=by
   grind[q5m,F8,y1e,C7]
  unfold L0
  cases c:KT.lt (B6 p) (B6 v)with
  | true =>
   rw[c,cond_true]at a
   rw[K2 a]
   have:=j50 (n:=n) (v:=v) g s (pre++[p]) (by rw[f];simp)
   rw[List.length_append,List.length_singleton]at this
   rw[this,if_pos rfl,show pre.length+1+L0 s v=pre.length+(L0 s v+1)from by omega]
  | false =>
   rw[c,cond_false]at a
   rw[H1 a,if_neg (by simp)];rfl
theorem j8y {b:Type} (x y:b) (r:List b):∀ (l:List b),(l++x::r).set l.length y=l++y::r
 | []=>rfl
 | a::l=>by
  grind
theorem j8z {v:Rw} {o:List Rw} {q:Nat} (g:o.length<=3000000000000):∀ (d:Nat),q+d<=o.length ->
  A4 (q3y ((q:Int),())) (((q+d:Nat):Int),(o++[v]).take (q+d+1)++o.drop (q+d),())=some (.inl ((o++[v]).take (q+1)++o.drop q,()))
 | 0,h=>by
  grind[H1,q3y]
 | d+1,h=>by
  have j:(o++[v]).length=o.length+1:=by simp
  have b:((o++[v]).take (q+(d+1)+1)++o.drop (q+(d+1))).length=o.length+1:=by
   grind
  have c:(o++[v]).take (q+(d+1)+1)=(o++[v]).take (q+(d+1))++[(o++[v])[q+(d+1)]'(by omega)]:=List.take_succ_eq_append_getElem (by omega)
  have i:((o++[v]).take (q+(d+1)+1)++o.drop (q+(d+1)))[q+d]? = some (o[q+d]'(by omega)):=by
   grind
  have e:∃ w,((o++[v]).take (q+(d+1)+1)++o.drop (q+(d+1)))[q+(d+1)]? = some w:=⟨_,List.getElem?_eq_getElem (by omega)⟩
  obtain⟨w,e⟩:=e
  have a:((o++[v]).take (q+(d+1)+1)++o.drop (q+(d+1))).set (q+(d+1)) (o[q+d]'(by omega))=(o++[v]).take (q+d+1)++o.drop (q+d):=by
   grind[j8y,List.drop_eq_getElem_cons]
  have f:IntKind.i64.wrap (((q+(d+1):Nat):Int)-1)=((q+d:Nat):Int):=by
   grind[M0]
  rw[K2 (s':=(((q+d:Nat):Int),(o++[v]).take (q+d+1)++o.drop (q+d),())) (by
   unfold q3y
   simp only[dcT (show((q+(d+1):Nat):Int)>(q:Int)by omega),cond_true,f,b,F8 (show q+d<o.length+1 by omega),F8 (show q+(d+1)<o.length+1 by omega),Int.toNat_natCast,i,e,Option.bind_some,a])]
  exact j8z g d (by omega)
theorem y7k:j7o=q3y:=rfl
theorem y7l:j7p=q3y:=rfl
theorem j0j {v:Rw} {o:List Rw} (c:o.length<=3000000000000) {q:Nat} (f:q<=o.length) {d:Type} (K:List Rw->Option d) :
  (A4 (q3y ((q:Int),())) ((IntKind.i64.wrap (((o++[v]).length:Int)-(1:Int))),(o++[v]),())).bind (Sum.elim (fun a=>(cond (inB (q:Int) a.1.length) ((a.1[((q:Nat):Int).toNat]?).bind fun _=>K (a.1.set (((q:Nat):Int).toNat) v)) none)) Empty.elim)=K (o.take q++v::o.drop q):=by
 have e:(o++[v]).length=o.length+1:=by simp
 have g:IntKind.i64.wrap (((o++[v]).length:Int)-1)=((q+(o.length-q):Nat):Int):=by
  rw[e,M0 (by omega) (by omega)];omega
 have b:=j8z (v:=v) c (o.length-q) (q:=q) (by omega)
 rw[show q+(o.length-q)=o.length from by omega,List.take_of_length_le (by omega),List.drop_of_length_le (Nat.le_refl _),List.append_nil]at b
 grind[List.take_succ_eq_append_getElem,j8y,F8,Int.toNat_natCast]
theorem y78 (o:List Rw) (r:Rw):(V6 o r).length<=o.length+1:=by
 rw[z9d]
 split
 all_goals grind
theorem j12:∀ (l o:List Rw),(P7 l o).length<=o.length+l.length
 | [],o=>Nat.le_refl _
 | r::l,o=>by
  have a:=j12 l (V6 o r)
  have b:=y78 o r
  show(P7 l (V6 o r)).length<=_
  simp[List.length_cons];omega
theorem j6r {b:Type} (f:b->b) (p:b):∀ (o:List b) (q:Nat),o[q]? = some p->o.modify q f=o.set q (f p)
 | [],q,h=>by grind
 | a::o,0,h=>by grind
 | a::o,q+1,h=>by
  show a::o.modify q f=a::o.set q (f p)
  rw[j6r f p o q (by simpa using h)]
theorem v2r {l:List Rw} {o:List Rw} {i:Nat} (hi:i<l.length) (m:l.length<=3000000000000) (k:o.length<=2999999999999):q8p (l,()) (o,(i:Int),())=some (.inl (V6 o l[i],((i+1:Nat):Int),())):=by
 have d:=j7d o l[i]
 have g:=j50 (n:=(i:Int)) (v:=l[i]) (o:=o) (by omega) o [] rfl
 rw[List.length_nil,Nat.zero_add]at g
 have e:A4 (q5m (o,(i:Int),()) l[i]) ((0:Int),())=some (.inl (((L0 o l[i]:Nat):Int),())):=g
 have a:(true&&C2 (o.length+([l[i]]:List Rw).length) 24&&true&&true)=true:=by
  grind[q36]
 unfold q8p
 simp only[dcT (show(i:Int)<(l.length:Int)by omega),cond_true,J5,List.getElem?_eq_getElem hi,Option.bind_some,e,Sum.elim_inl,C7 (show i<9223372036854775807 by omega),y7k,y7l,a]
 rw[z9d]
 by_cases c:L0 o l[i]<o.length
 ·simp only[dcT (show((L0 o l[i]:Nat):Int)<(o.length:Int)by omega),cond_true,F8 c,Int.toNat_natCast,List.getElem?_eq_getElem c,Option.bind_some]
  by_cases j:o[L0 o l[i]].1=l[i].1
  ·by_cases h:o[L0 o l[i]].2.1=l[i].2.1
   ·have f:B6 o[L0 o l[i]]=B6 l[i]:=by grind[B6]
    rw[if_pos ⟨_,rfl,f⟩,j6r _ _ o _ (List.getElem?_eq_getElem c),U8 j,U8 h]
    rfl
   ·have f:¬ ∃ p,some o[L0 o l[i]]=some p/\B6 p=B6 l[i]:=by
     grind[B6]
    have:=j0j (v:=l[i]) (by omega) d (fun z=>(some (Sum.inl (z,((i+1:Nat):Int),())):Option ((List Rw×Int×Unit)⊕((List Rw×Unit)⊕Empty))))
    grind
  ·have f:¬ ∃ p,some o[L0 o l[i]]=some p/\B6 p=B6 l[i]:=by
    grind[B6]
   have:=j0j (v:=l[i]) (by omega) d (fun z=>(some (Sum.inl (z,((i+1:Nat):Int),())):Option ((List Rw×Int×Unit)⊕((List Rw×Unit)⊕Empty))))
   grind
 ·have b:o[L0 o l[i]]? = none:=List.getElem?_eq_none (by omega)
  simp only[dcF (show ¬ ((L0 o l[i]:Nat):Int)<(o.length:Int)by omega),cond_false,b]
  rw[if_neg (by grind)]
  have:=j0j (v:=l[i]) (by omega) d (fun z=>(some (Sum.inl (z,((i+1:Nat):Int),())):Option ((List Rw×Int×Unit)⊕((List Rw×Unit)⊕Empty))))
  omega
theorem v3h (l:List Rw) {i:Nat} (h:i<l.length):P7 (l.take (i+1)) []=V6 (P7 (l.take i) []) l[i]:=by
 grind[List.take_succ_eq_append_getElem,P7]
theorem y5x {o:List Rw} {i:Nat} (h:i<o.length):(o.take (i+1)).filter nzB=(o.take i).filter nzB++(if nzB o[i]=true then [o[i]]else []):=by
 grind[List.take_succ_eq_append_getElem]
theorem z3m {l:List Rw} (d:l.length<=2900000000000):q1w (l,())=some ((P7 l []).filter nzB,()):=by
 have c:=q3s (f:=q8p (l,())) l.length (fun i=>P7 (l.take i) []) (.inl (P7 l [],())) (fun i a=>by
  grind[j12,v2r,v3h]) (by
  grind[q8p])
 have b:=j12 l []
 have e:=q3s (f:=z3n (P7 l [],())) (P7 l []).length (fun i=>((P7 l []).take i).filter nzB) (.inl ((P7 l []).filter nzB,())) (fun i a=>by
  unfold z3n
  rw[y5x a]
  grind[F8,C7,q36,nzB]) (by
  grind[z3n])
 grind[q1w,P7]
theorem j7f (a b:List Rw) (n:Int) (g:a.length<=1500000000000) (j:b.length<=1500000000000):q5t (a,n,b,())=some (a++b.map (sc n),()):=by
 have e:=q3s (f:=z3v (a,n,b,())) a.length (fun i=>a.take i) (.inl (a,())) (fun i d=>by
  grind[z3v,List.take_succ_eq_append_getElem,J5,C7,q36]) (by
  grind[z3v])
 have h:=q3s (f:=z3w (a,n,b,())) b.length (fun i=>a++(b.take i).map (sc n)) (.inl (a++b.map (sc n),())) (fun i d=>by
  unfold z3w
  rw[List.take_succ_eq_append_getElem d,List.map_append,<-List.append_assoc]
  have c:(a++(b.take i).map (sc n)).length=a.length+i:=by rw[List.length_append,List.length_map,List.length_take];omega
  simp only[dcT (show(i:Int)<(b.length:Int)by omega),cond_true,J5,List.getElem?_eq_getElem d,Option.bind_some,C7 (show i<9223372036854775807 by omega),show ∀ x:Rw,([x]:List Rw).length=1 from fun _=>rfl,c,q36 (show a.length+i+1<=4000000000000 by omega),Bool.and_true]
  rfl) (by
  unfold z3w
  simp[dcF (show ¬ (b.length:Int)<(b.length:Int)by omega),cond_false,List.take_length])
 grind[q5t]
theorem j8b (m:List Rw) (a:m.length<=3000000000000):q1x (m,m,())=some (true,()):=by
 unfold q1x
 have h:=y81 (f:=z3o (m,m,())) m.length (fun _=>none) (.inr (.inl ())) (fun i b=>by
  grind[z3o,J5,C7]) (by
  grind[z3o])
 grind[List.findSome?_eq_none_iff]
end

section
open Go Go.Abs

abbrev Op3:=Int×Int×Int×Unit
def q0o (op:Op3) (r:Rw):List Rw :=
 if op.1=1 then [(W (r.1+op.2.1),W (r.2.1+op.2.2.1),r.2.2.1,())]
 else if op.1=2 then [(r.2.1,r.1,r.2.2.1,())]
 else if op.1=4 then [(r.1,r.2.1,W (0-r.2.2.1),())]
 else if E8 .and .i64 r.1 op.2.1=op.2.2.1 then [r]else []
def q1l (kind:Int) (g:List Rw):List Int :=
 if kind=5 then [W ((g.map fun r=>W (r.2.1*r.2.2.1)).sum)]
 else if kind=6 then [W ((g.map fun r=>r.2.2.1).sum)]
 else if kind=8 then(match g.find? fun r=>decide (r.2.2.1>0)with
  | some r=>[r.2.1]
  | none=>[])
 else [0]
def opG (op:Op3) (R:List Rw) (i:Nat):List Rw:=match R[i]? with
 | none=>[]
 | some r =>
  if op.1<=4 then q0o op r
  else if op.1=7 then(if r.2.2.1>0 then [(r.1,r.2.1,1,())]else [])
  else if 0<i/\(R[i-1]?).map (·.1)=some r.1 then []else(q1l op.1 ((R.drop i).filter fun x=>x.1==r.1)).map fun v=>(r.1,v,1,())
def opL (op:Op3) (R:List Rw):List Rw:=(List.range R.length).flatMap (opG op R)
def opA (op:Op3) (R:List Rw) (i:Nat):Bg:=E3 ((List.range i).flatMap (opG op R)) []
theorem z04 (l a:List Rw) (m:Bg):E3 (l++a) m=E3 a (E3 l m):=List.foldl_append
theorem z2v (op:Op3) (R:List Rw) (i:Nat):opA op R (i+1)=E3 (opG op R i) (opA op R i):=by
 grind[opA,List.range_succ,z04]
theorem v0p (op:Op3) (R:List Rw):opA op R 0=[]:=rfl
theorem q1v {a:Type} (m:Bg) (k:Ky) (n:Int) (F:Bg->Option a) :
  (((cond (((A9 KT (B0 KT (D0 KT m k (0:Int)) k (IntKind.i64.wrap (((A9 KT m k).getD (0:Int))+n))) k).getD (0:Int))==(0:Int)) (some (Sum.inl ((G5 KT (B0 KT (D0 KT m k (0:Int)) k (IntKind.i64.wrap (((A9 KT m k).getD (0:Int))+n))) k),()))) (some (Sum.inl ((B0 KT (D0 KT m k (0:Int)) k (IntKind.i64.wrap (((A9 KT m k).getD (0:Int))+n))),())))):Option ((Bg×Unit)⊕Empty)).bind (Sum.elim (fun z=>F z.1) Empty.elim))=F (q1u m k n):=by
 grind[q1u,nOf,W]
abbrev LR:=Option ((Int×Bg×Unit)⊕((Bg×Unit)⊕Empty))
theorem z3j {f:(Int×Bg×Unit)->Option ((Int×Bg×Unit)⊕((Bg×Unit)⊕Empty))} {op:Op3} {R:List Rw} (h:∀ (i:Nat) (c:i<R.length) (m:Bg),f ((i:Int),m,())=some (.inl (((i+1:Nat):Int),E3 (opG op R i) m,())))
  (a:∀ m,f ((R.length:Int),m,())=some (.inr (.inl (m,())))):A4 f ((0:Int),([]:Bg),())=some (.inl (E3 (opL op R) [],())):=by
 have:=z2a (f:=f) R.length (opA op R) (.inl (E3 (opL op R) [],())) (fun i c=>by grind[z2v]) (a _)
 exact this
theorem q88 {op:Op3} {R:List Rw} {i:Nat} (hi:i<R.length) (h:op.1<=4):opG op R i=q0o op R[i]:=by
 grind[opG]
section
variable {op:Op3} {m:Bg} {R:List Rw}
theorem y88 (d:R.length<=3000000000000) (c:op.1=1):A4 (z2x (op,m,()) (R,())) ((0:Int),([]:Bg),())=some (.inl (E3 (opL op R) [],())):=by
 refine z3j (fun i a b=>?_) fun b=>?_
 ·unfold z2x
  simp only[dcT (show(i:Int)<(R.length:Int)by omega),cond_true,F8 a,Int.toNat_natCast,List.getElem?_eq_getElem a,Option.bind_some,C7 (show i<9223372036854775807 by omega),q88 a (show op.1<=4 by omega),q0o,if_pos c]
  exact q1v b (W (R[i].1+op.2.1),W (R[i].2.1+op.2.2.1),()) R[i].2.2.1 fun z=>(some (Sum.inl (((i+1:Nat):Int),z,())):LR)
 grind[z2x]
theorem y89 (d:R.length<=3000000000000) (c:op.1=2):A4 (z2y (R,())) ((0:Int),([]:Bg),())=some (.inl (E3 (opL op R) [],())):=by
 refine z3j (fun i a b=>?_) fun b=>?_
 ·unfold z2y
  simp only[dcT (show(i:Int)<(R.length:Int)by omega),cond_true,F8 a,Int.toNat_natCast,List.getElem?_eq_getElem a,Option.bind_some,C7 (show i<9223372036854775807 by omega),q88 a (show op.1<=4 by omega),q0o,if_neg (show ¬ op.1=1 by omega),if_pos c]
  exact q1v b (R[i].2.1,R[i].1,()) R[i].2.2.1 fun z=>(some (Sum.inl (((i+1:Nat):Int),z,())):LR)
 grind[z2y]
theorem y8a (hl:R.length<=3000000000000) (hk:op.1=3):A4 (z2z (op,m,()) (R,())) ((0:Int),([]:Bg),())=some (.inl (E3 (opL op R) [],())):=by
 refine z3j (fun i hi m'=>?_) fun m'=>?_
 ·unfold z2z
  simp only[dcT (show(i:Int)<(R.length:Int)by omega),cond_true,F8 hi,Int.toNat_natCast,List.getElem?_eq_getElem hi,Option.bind_some,C7 (show i<9223372036854775807 by omega),q88 hi (show op.1<=4 by omega),q0o,if_neg (show ¬ op.1=1 by omega),if_neg (show ¬ op.1=2 by omega),if_neg (show ¬ op.1=4 by omega)]
  by_cases hb:E8 .and .i64 R[i].1 op.2.1=op.2.2.1
  ·rw[if_pos hb,U8 hb,cond_true]
   have:=q1v m' (R[i].1,R[i].2.1,()) R[i].2.2.1 fun z=>(some (.inl (z,())):Option ((Bg×Unit)⊕Empty))
   have h2:=congrArg (fun o:Option ((Bg×Unit)⊕Empty)=>o.bind (Sum.elim (fun z18=>(some (Sum.inl (((i+1:Nat):Int),z18.1,())):Option ((Int×Bg×Unit)⊕((Bg×Unit)⊕Empty)))) Empty.elim)) this
   exact h2
  ·rw[if_neg hb,O8 hb,cond_false];rfl
 ·unfold z2z
  simp only[dcF (show ¬ (R.length:Int)<(R.length:Int)by omega),cond_false]
theorem y8b (hl:R.length<=3000000000000) (hk:op.1=4):A4 (z39 (R,())) ((0:Int),([]:Bg),())=some (.inl (E3 (opL op R) [],())):=by
 refine z3j (fun i hi m'=>?_) fun m'=>?_
 ·unfold z39
  simp only[dcT (show(i:Int)<(R.length:Int)by omega),cond_true,F8 hi,Int.toNat_natCast,List.getElem?_eq_getElem hi,Option.bind_some,C7 (show i<9223372036854775807 by omega),q88 hi (show op.1<=4 by omega),q0o,if_neg (show ¬ op.1=1 by omega),if_neg (show ¬ op.1=2 by omega),if_pos hk]
  exact q1v m' (R[i].1,R[i].2.1,()) (W (0-R[i].2.2.1)) fun z=>(some (Sum.inl (((i+1:Nat):Int),z,())):LR)
 ·unfold z39
  simp only[dcF (show ¬ (R.length:Int)<(R.length:Int)by omega),cond_false]
end
def q9s (R:List Rw):Prop:=R.Pairwise fun a b=>a.1<=b.1
theorem y7i {m:Bg} (h:Rise KT m):q9s (m.map toR):=by
 unfold q9s
 rw[List.pairwise_map]
 refine List.Pairwise.imp (fun {a b} hab=>?_) h
 have hab:(decide (a.1.1<b.1.1)||((a.1.1==b.1.1)&&(decide (a.1.2.1<b.1.2.1)||((a.1.2.1==b.1.2.1)&&false))))=true:=hab
 show a.1.1<=b.1.1
 rw[Bool.or_eq_true,decide_eq_true_eq]at hab
 rcases hab with hab | hab
 ·omega
 ·rw[Bool.and_eq_true,beq_iff_eq]at hab;omega
theorem j8h {R:List Rw} {m:Bg} {i:Nat} (hi:i<R.length) (hl:R.length<=3000000000000):∀ (d q:Nat),q+d=R.length->i<=q->(∀ p (hp:p<R.length),i<=p->p<q->R[p].1=R[i].1) ->
  ∃ j,q<=j/\j<=R.length/\A4 (q89 (R,()) ((i:Int),m,())) ((q:Int),())=some (.inl ((j:Int),()))/\(∀ p (hp:p<R.length),i<=p->p<j->R[p].1=R[i].1)/\∀ (hj:j<R.length),R[j].1≠R[i].1
 | 0,q,hq,hiq,hall=>by
  have:q=R.length:=by omega
  subst this
  refine⟨R.length,Nat.le_refl _,Nat.le_refl _,H1 ?_,hall,fun h=>absurd h (by omega)⟩
  unfold q89
  simp only[dcF (show ¬ (R.length:Int)<(R.length:Int)by omega),cond_false]
 | d+1,q,hq,hiq,hall=>by
  have hql:q<R.length:=by omega
  have hst:q89 (R,()) ((i:Int),m,()) ((q:Int),())=if R[q].1=R[i].1 then some (.inl (((q+1:Nat):Int),()))else some (.inr (.inl ((q:Int),()))):=by
   unfold q89
   simp only[dcT (show(q:Int)<(R.length:Int)by omega),cond_true,F8 hql,F8 hi,Int.toNat_natCast,List.getElem?_eq_getElem hql,List.getElem?_eq_getElem hi,Option.bind_some,C7 (show q<9223372036854775807 by omega),R1]
  by_cases he:R[q].1=R[i].1
  ·rw[if_pos he]at hst
   rw[K2 hst]
   obtain⟨j,h1,h2,h3,h4,h5⟩:=j8h (m:=m) hi hl d (q+1) (by omega) (by omega) (fun p hp h1 h2=>by
    by_cases hpq:p=q
    ·subst hpq;exact he
    ·exact hall p hp h1 (by omega))
   exact⟨j,by omega,h2,h3,h4,h5⟩
  ·rw[if_neg he]at hst
   exact⟨q,Nat.le_refl _,by omega,H1 hst,hall,fun hj=>he⟩
theorem v3r {R:List Rw} (hu:q9s R) {i j:Nat} (hi:i<R.length) (hij:i<=j) (hj:j<=R.length) (h1:∀ p (hp:p<R.length),i<=p->p<j->R[p].1=R[i].1) (h2:∀ (hj:j<R.length),R[j].1≠R[i].1) :
  (R.drop i).filter (fun x=>x.1==R[i].1)=(R.drop i).take (j-i):=by
 have hs:R.drop i=(R.drop i).take (j-i)++R.drop j:=by
  have:=(List.take_append_drop (j-i) (R.drop i)).symm
  rw[List.drop_drop,show i+(j-i)=j from by omega]at this
  exact this
 have ha:((R.drop i).take (j-i)).filter (fun x=>x.1==R[i].1)=(R.drop i).take (j-i):=by
  rw[List.filter_eq_self]
  intro x hx
  obtain⟨p,hp⟩:=List.getElem?_of_mem hx
  rw[List.getElem?_take]at hp
  split at hp
  ·rename_i hlt
   rw[List.getElem?_drop]at hp
   obtain⟨hpl,rfl⟩:=List.getElem?_eq_some_iff.1 hp
   simpa using h1 (i+p) hpl (by omega) (by omega)
  ·cases hp
 have hb:(R.drop j).filter (fun x=>x.1==R[i].1)=[]:=by
  rw[List.filter_eq_nil_iff]
  intro x hx
  obtain⟨p,hp⟩:=List.getElem?_of_mem hx
  rw[List.getElem?_drop]at hp
  obtain⟨hpl,rfl⟩:=List.getElem?_eq_some_iff.1 hp
  have hjl:j<R.length:=by omega
  have hle:R[j].1<=R[j+p].1:=by
   by_cases h0:p=0
   ·subst h0;exact Int.le_refl _
   ·exact(List.pairwise_iff_getElem.1 hu) j (j+p) hjl hpl (by omega)
  have hle2:R[i].1<=R[j].1:=by
   by_cases h0:i=j
   ·subst h0;exact Int.le_refl _
   ·exact(List.pairwise_iff_getElem.1 hu) i j hi hjl (by omega)
  have hne:=h2 hjl
  have:R[j+p].1≠R[i].1:=by omega
  simpa using this
 conv=>lhs;rw[hs]
 rw[List.filter_append,ha,hb,List.append_nil]
theorem j2e (a b:Int):W (W a+b)=W (a+b):=by unfold W;rw[IntKind.wrap_i64,IntKind.wrap_i64,IntKind.wrap_i64];omega
theorem y1d (a b:Int):W (a+W b)=W (a+b):=by unfold W;rw[IntKind.wrap_i64,IntKind.wrap_i64,IntKind.wrap_i64];omega
theorem z5d:W 0=0:=by decide
theorem y6v {g:List Rw} (hl:g.length<=3000000000000) (k:Int):A4 (q8d (k,g,())) ((0:Int),(0:Int),())=some (.inl (W ((g.map fun r=>W (r.2.1*r.2.2.1)).sum),())):=by
 have h:=q3s (f:=q8d (k,g,())) g.length (fun i=>W (((g.take i).map fun r=>W (r.2.1*r.2.2.1)).sum)) (.inl (W ((g.map fun r=>W (r.2.1*r.2.2.1)).sum),())) (fun i hi=>by
  unfold q8d
  simp only[dcT (show(i:Int)<(g.length:Int)by omega),cond_true,J5,List.getElem?_eq_getElem hi,Option.bind_some,C7 (show i<9223372036854775807 by omega),List.take_succ_eq_append_getElem hi,List.map_append,List.sum_append,List.map_cons,List.map_nil,List.sum_cons,List.sum_nil,Int.add_zero]
  rw[<-j2e];rfl) (by
  unfold q8d
  simp only[dcF (show ¬ (g.length:Int)<(g.length:Int)by omega),cond_false,List.take_length])
 simp only[List.take_zero,List.map_nil,List.sum_nil,z5d]at h
 exact h
theorem y6w {g:List Rw} (hl:g.length<=3000000000000) (k:Int):A4 (q8e (k,g,())) ((0:Int),(0:Int),())=some (.inl (W ((g.map fun r=>r.2.2.1).sum),())):=by
 have h:=q3s (f:=q8e (k,g,())) g.length (fun i=>W (((g.take i).map fun r=>r.2.2.1).sum)) (.inl (W ((g.map fun r=>r.2.2.1).sum),())) (fun i hi=>by
  unfold q8e
  simp only[dcT (show(i:Int)<(g.length:Int)by omega),cond_true,J5,List.getElem?_eq_getElem hi,Option.bind_some,C7 (show i<9223372036854775807 by omega),List.take_succ_eq_append_getElem hi,List.map_append,List.sum_append,List.map_cons,List.map_nil,List.sum_cons,List.sum_nil,Int.add_zero]
  rw[<-j2e];rfl) (by
  unfold q8e
  simp only[dcF (show ¬ (g.length:Int)<(g.length:Int)by omega),cond_false,List.take_length])
 simp only[List.take_zero,List.map_nil,List.sum_nil,z5d]at h
 exact h
theorem y6s {g:List Rw} (hl:g.length<=3000000000000) {k:Int} (hk:k=5\/k=6\/k=8):z3f (k,g,())=some (match q1l k g with
  | v::_=>(v,true,())
  | []=>(0,false,())):=by
 unfold z3f q1l
 rcases hk with rfl | rfl | rfl
 ·simp only[y6v hl,Option.bind_some,Sum.elim_inl]
  rfl
 ·simp only[y6w hl,Option.bind_some,Sum.elim_inl]
  rfl
 ·have k1:=L3 (f:=z3g (8,g,())) g.length (fun i=>((i:Int),())) (fun i=>cond (decide ((g.getD i (0,0,0,())).2.2.1>0)) (some ((i:Int),())) none) (.inl ()) (fun i hi=>by
   unfold z3g j0l
   simp only[dcT (show(i:Int)<(g.length:Int)by omega),cond_true,G7 (0,0,0,()) (Int.natCast_nonneg i) (show(i:Int)<(g.length:Int)by omega),Int.toNat_natCast,Option.bind_some]
   rw[C7 (by omega)]
   cases decide ((g.getD i (0,0,0,())).2.2.1>0)<;>rfl) (by
   unfold z3g
   simp only[dcF (show ¬ (g.length:Int)<(g.length:Int)by omega),cond_false]) (s0:=((0:Int),())) rfl
  rw[M4 (fun i=>decide ((g.getD i (0,0,0,())).2.2.1>0)) fun i=>((i:Int),())]at k1
  have hfind:∀ (g:List Rw),(match(List.range g.length).find? (fun i=>decide ((g.getD i (0,0,0,())).2.2.1>0))with
    | some i=>(g.find? fun r=>decide (r.2.2.1>0))=some (g.getD i (0,0,0,()))/\i<g.length
    | none=>(g.find? fun r=>decide (r.2.2.1>0))=none):=by
   intro g
   induction g with
   | nil=>rfl
   | cons a g ih =>
    rw[List.length_cons,List.range_succ_eq_map,List.find?_cons]
    by_cases ha:a.2.2.1>0
    ·simp only[List.getD_cons_zero,decide_eq_true ha,List.find?_cons]
     exact⟨trivial,by simp⟩
    ·simp only[List.getD_cons_zero,decide_eq_false ha,List.find?_cons,List.find?_map]
     have e:((fun i=>decide (((a::g).getD i (0,0,0,())).2.2.1>0))∘Nat.succ)=fun i=>decide ((g.getD i (0,0,0,())).2.2.1>0):=by
      funext i;simp
     rw[e]
     cases hf:(List.range g.length).find? fun i=>decide ((g.getD i (0,0,0,())).2.2.1>0)with
     | none=>rw[hf]at ih;exact ih
     | some i =>
      rw[hf]at ih
      simp only[Option.map_some]
      exact⟨by simpa using ih.1,by simp;exact ih.2⟩
  have hfg:=hfind g
  simp only[show((8:Int)==5)=false from rfl,show((8:Int)==6)=false from rfl,show((8:Int)==8)=true from rfl,cond_true,cond_false,if_neg (show ¬ (8:Int)=5 by decide),if_neg (show ¬ (8:Int)=6 by decide),if_true]
  rw[k1]
  cases hf:(List.range g.length).find? fun i=>decide ((g.getD i (0,0,0,())).2.2.1>0)with
  | none =>
   rw[hf]at hfg
   rw[hfg];rfl
  | some i =>
   rw[hf]at hfg
   obtain⟨h1,h2⟩:=hfg
   rw[h1]
   simp only[Option.map_some,q1g,Option.bind_some,Sum.elim_inl,dcF (show ¬ (i:Int)<0 by omega),cond_false,G7 (0,0,0,()) (Int.natCast_nonneg i) (show(i:Int)<(g.length:Int)by omega),Int.toNat_natCast]
section
variable {op:Op3} {m0:Bg} {R:List Rw}
theorem v0o {i j:Nat} (hij:i<j) (hj:j<=R.length) (hk:4<op.1) (h7:op.1≠7) (h1:∀ p (hp:p<R.length),i<=p->p<j->R[p].1=(R[i]'(by omega)).1):opA op R j=E3 (opG op R i) (opA op R i):=by
 have key:∀ d,i+1+d<=j->opA op R (i+1+d)=E3 (opG op R i) (opA op R i):=by
  intro d
  induction d with
  | zero=>intro _;exact z2v op R i
  | succ d ih =>
   intro hd
   rw[show i+1+(d+1)=(i+1+d)+1 from rfl,z2v,ih (by omega)]
   have hq:i+1+d<R.length:=by omega
   have hq':i+d<R.length:=by omega
   have:opG op R (i+1+d)=[]:=by
    unfold opG
    rw[List.getElem?_eq_getElem hq]
    have e1:=h1 (i+1+d) hq (by omega) (by omega)
    have e2:=h1 (i+d) hq' (by omega) (by omega)
    have hpv:R[i+1+d-1]? = some R[i+d]:=by
     rw[show i+1+d-1=i+d from by omega];exact List.getElem?_eq_getElem hq'
    simp only[if_neg (show ¬ op.1<=4 by omega),if_neg h7,hpv,Option.map_some,e1,e2,show 0<i+1+d from by omega,true_and,if_true]
   rw[this];rfl
 have:=key (j-(i+1)) (by omega)
 rw[show i+1+(j-(i+1))=j from by omega]at this
 exact this
theorem y8c (hl:R.length<=3000000000000) (h7:op.1=7) {i j:Nat} (hij:i<=j) (hj:j<=R.length) (m:Bg):A4 (q8a ((j:Int),()) ((i:Int),m,()) (R,())) ((0:Int),opA op R i,())=some (.inl (opA op R j,())):=by
 have h:=z2a (f:=q8a ((j:Int),()) ((i:Int),m,()) (R,())) (j-i) (fun q=>opA op R (i+q)) (.inl (opA op R j,())) (fun q hq=>by
  have hlt:i+q<R.length:=by omega
  unfold q8a
  simp only[Int.toNat_natCast,dcT (show(q:Int)<((j-i:Nat):Int)by omega),cond_true,F8 hq,List.getElem?_eq_getElem hlt,Option.bind_some,C7 (show q<9223372036854775807 by omega)]
  rw[show i+(q+1)=(i+q)+1 from rfl,z2v]
  have hg:opG op R (i+q)=if R[i+q].2.2.1>0 then [(R[i+q].1,R[i+q].2.1,1,())]else []:=by
   unfold opG
   rw[List.getElem?_eq_getElem hlt]
   simp only[if_neg (show ¬ op.1<=4 by omega),if_pos h7]
  rw[hg]
  by_cases hp:R[i+q].2.2.1>0
  ·rw[if_pos hp,dcT hp,cond_true]
   exact q1v (opA op R (i+q)) (R[i+q].1,R[i+q].2.1,()) 1 fun z=>(some (Sum.inl (((q+1:Nat):Int),z,())):LR)
  ·rw[if_neg hp,dcF hp,cond_false];rfl) (by
  unfold q8a
  simp only[Int.toNat_natCast,dcF (show ¬ ((j-i:Nat):Int)<((j-i:Nat):Int)by omega),cond_false]
  rw[show i+(j-i)=j from by omega])
 exact h
theorem j6e (hl:R.length<=3000000000000) (hu:q9s R) (hk:op.1=5\/op.1=6\/op.1=7\/op.1=8):∀ (d i:Nat),R.length<=i+d->i<=R.length->(∀ (hi:i<R.length),0<i->(R[i-1]'(by omega)).1≠R[i].1) ->
  A4 (q8b (op,m0,()) (R,())) ((i:Int),opA op R i,())=some (.inl (E3 (opL op R) [],()))
 | d,i,hd,hil,hfirst=>by
  by_cases hi:i<R.length
  ·obtain⟨j,j1,j2,j3,j4,j5⟩:=j8h (m:=opA op R i) hi hl (R.length-i) i (by omega) (Nat.le_refl _) (fun p hp h1 h2=>absurd h1 (by omega))
   have hij:i<j:=by
    rcases Nat.lt_or_eq_of_le j1 with h | h
    ·exact h
    ·subst h;exact absurd rfl (j5 hi)
   have hstep:q8b (op,m0,()) (R,()) ((i:Int),opA op R i,())=some (.inl ((j:Int),opA op R j,())):=by
    unfold q8b
    simp only[dcT (show(i:Int)<(R.length:Int)by omega),cond_true]
    rw[j3]
    simp only[Option.bind_some,Sum.elim_inl,dcT (show(0:Int)<=(i:Int)by omega),dcT (show(i:Int)<=(j:Int)by omega),dcT (show(j:Int)<=(R.length:Int)by omega),Bool.and_self,cond_true]
    by_cases h7:op.1=7
    ·rw[U8 h7,cond_true,y8c hl h7 (by omega) j2]
     rfl
    ·rw[O8 h7,cond_false]
     have hgl:((R.drop ((i:Int)).toNat).take (((j:Int)).toNat-((i:Int)).toNat)).length<=3000000000000:=by
      rw[List.length_take,List.length_drop];omega
     rw[y6s hgl (by omega)]
     simp only[Int.toNat_natCast,Option.bind_some]
     have hfil:=v3r hu hi (by omega) j2 j4 j5
     have hG:opG op R i=(q1l op.1 ((R.drop i).take (j-i))).map fun v=>(R[i].1,v,1,()):=by
      unfold opG
      rw[List.getElem?_eq_getElem hi]
      have hnf:¬ (0<i/\(R[i-1]?).map (·.1)=some R[i].1):=by
       rintro ⟨h0,h1⟩
       rw[List.getElem?_eq_getElem (show i-1<R.length by omega),Option.map_some,Option.some.injEq]at h1
       exact hfirst hi h0 h1
      simp only[if_neg (show ¬ op.1<=4 by omega),if_neg h7,if_neg hnf,hfil]
     rw[v0o hij j2 (by omega) h7 j4,hG]
     cases hh:q1l op.1 ((R.drop i).take (j-i))with
     | nil=>rfl
     | cons v vs =>
      have hvs:vs=[]:=by
       unfold q1l at hh
       split at hh
       ·cases hh;rfl
       ·split at hh
        ·cases hh;rfl
        ·split at hh
         ·split at hh
          ·cases hh;rfl
          ·cases hh
         ·cases hh;rfl
      subst hvs
      simp only[cond_true,show(0:Int).toNat=0 from rfl,Nat.add_zero,List.getElem?_eq_getElem hi,Option.bind_some]
      have hin:inB (0:Int) (j-i)=true:=F8 (i:=0) (show 0<j-i by omega)
      rw[hin,cond_true]
      exact q1v (opA op R i) (R[i].1,v,()) 1 fun z=>(some (Sum.inl ((j:Int),z,())):LR)
   rw[K2 hstep]
   cases d with
   | zero=>omega
   | succ d =>
    exact j6e hl hu hk d j (by omega) j2 (fun hj h0=>by
     rw[j4 (j-1) (by omega) (by omega) (by omega)]
     exact fun e=>j5 hj e.symm)
  ·have:i=R.length:=by omega
   subst this
   refine H1 ?_
   unfold q8b
   simp only[dcF (show ¬ (R.length:Int)<(R.length:Int)by omega),cond_false]
   rfl
end
theorem y87 {op:Op3} {m:Bg} (h:Rise KT m) (hl:m.length<=3000000000000) (h1:1<=op.1) (h8:op.1<=8):z2w (op,m,())=some (E3 (opL op (m.map toR)) [],()):=by
 have hR:(m.map toR).length<=3000000000000:=by rw[List.length_map];exact hl
 unfold z2w
 rw[q5z h hl]
 simp only[Option.bind_some,R1]
 by_cases k1:op.1=1
 ·rw[if_pos k1,y88 hR k1];rfl
 ·rw[if_neg k1]
  by_cases k2:op.1=2
  ·rw[if_pos k2,y89 hR k2];rfl
  ·rw[if_neg k2]
   by_cases k3:op.1=3
   ·rw[if_pos k3,y8a hR k3];rfl
   ·rw[if_neg k3]
    by_cases k4:op.1=4
    ·rw[if_pos k4,y8b hR k4];rfl
    ·rw[if_neg k4]
     have:=j6e (op:=op) (m0:=m) hR (y7i h) (by omega) (m.map toR).length 0 (by omega) (Nat.zero_le _) (fun _ h=>absurd h (by omega))
     rw[show((0:Nat):Int)=0 from rfl,v0p]at this
     rw[this];rfl
end

section
open Go Go.Abs

theorem v2q (op:Op3) (r:Rw):z4c (op,r,())=some (if op.1=1 then((W (r.1+op.2.1),W (r.2.1+op.2.2.1),r.2.2.1,()),true,())else if op.1=2 then((r.2.1,r.1,r.2.2.1,()),true,())else if op.1=4 then((r.1,r.2.1,W (0-r.2.2.1),()),true,())else(r,(E8 .and .i64 r.1 op.2.1==op.2.2.1),())):=by
 grind[z4c,W]
def K3 (k:Int):List Rw->Int×Int×Int×Bool×Unit
 | []=>(0,0,0,false,())
 | x::l=>if x.1=k then(W ((K3 k l).1+W (x.2.1*x.2.2.1)),W ((K3 k l).2.1+x.2.2.1),if x.2.2.1>0 then x.2.1 else(K3 k l).2.2.1,if x.2.2.1>0 then true else(K3 k l).2.2.2.1,())else K3 k l
theorem j8f (k:Int):∀ (l:List Rw),K3 k l=(W (((l.filter fun x=>x.1==k).map fun r=>W (r.2.1*r.2.2.1)).sum),W (((l.filter fun x=>x.1==k).map fun r=>r.2.2.1).sum),
  (match(l.filter fun x=>x.1==k).find? fun r=>decide (r.2.2.1>0)with | some r=>r.2.1 | none=>0),((l.filter fun x=>x.1==k).find? fun r=>decide (r.2.2.1>0)).isSome,())
 | []=>by
  rfl
 | x::l=>by
  have a:=j8f k l
  unfold K3
  grind[y1d]
theorem j8g {op:Op3} {R:List Rw} {i:Nat} (hi:i<R.length) (e:R.length<=2900000000000) (out:List Rw):∀ (d q:Nat),q=i+d->q<=R.length ->
  A4 (q90 (op,R,()) (out,(i:Int),()) R[i]) ((K3 R[i].1 (R.drop q)).1,(K3 R[i].1 (R.drop q)).2.1,(K3 R[i].1 (R.drop q)).2.2.1,(K3 R[i].1 (R.drop q)).2.2.2.1,(q:Int)-1,())=some (.inl (K3 R[i].1 (R.drop i)))
 | 0,q,f,a=>by
  grind[H1,q90]
 | d+1,q,f,a=>by
  have c:A7 R ((q:Int)-1)=some R[q-1]:=by
   grind[J5]
  have b:R.drop (q-1)=R[q-1]::R.drop q:=by
   grind[List.drop_eq_getElem_cons]
  have g:IntKind.i64.wrap ((q:Int)-1-1)=((q-1:Nat):Int)-1:=by grind[M0]
  rw[K2 (s':=((K3 R[i].1 (R.drop (q-1))).1,(K3 R[i].1 (R.drop (q-1))).2.1,(K3 R[i].1 (R.drop (q-1))).2.2.1,(K3 R[i].1 (R.drop (q-1))).2.2.2.1,((q-1:Nat):Int)-1,())) (by
   grind[q90,K3,W])]
  exact j8g hi e out d (q-1) (by omega) (by omega)
theorem v0r (op:Op3) (R:List Rw) (i:Nat):(opG op R i).length<=1:=by
 grind[opG,q0o,q1l]
def opO (op:Op3) (R:List Rw) (i:Nat):List Rw:=(List.range i).flatMap (opG op R)
theorem j72 (op:Op3) (R:List Rw) (i:Nat):opO op R (i+1)=opO op R i++opG op R i:=by
 grind[opO,List.range_succ]
theorem j0h (op:Op3) (R:List Rw):∀ i,(opO op R i).length<=i
 | 0=>Nat.le_refl _
 | i+1=>by
  rw[j72,List.length_append]
  have:=j0h op R i
  have:=v0r op R i
  omega
theorem v0t (op:Op3) (R:List Rw):(opL op R).length<=R.length:=j0h op R R.length
theorem v0n:∀ x:Rw,([x]:List Rw).length=1:=fun _=>rfl
abbrev LO:=Option ((List Rw×Int×Unit)⊕((List Rw×Unit)⊕Empty))
theorem v2i {op:Op3} {R:List Rw} (h1:1<=op.1) (q:op.1<=8) (n:R.length<=2900000000000) {i:Nat} (hi:i<R.length):q5q (op,R,()) (opO op R i,(i:Int),())=some (.inl (opO op R (i+1),((i+1:Nat):Int),())):=by
 have h:=j0h op R i
 have e:C2 ((opO op R i).length+1) 24=true:=q36 (by omega)
 unfold q5q
 rw[j72]
 simp[dcT (show(i:Int)<(R.length:Int)by omega),cond_true,J5,List.getElem?_eq_getElem hi,Option.bind_some,C7 (show i<9223372036854775807 by omega),v0n,e,Bool.and_true,Bool.true_and]
 by_cases m:op.1<=4
 ·grind[v2q,q88,q0o]
 ·rw[dcF m,cond_false]
  by_cases k:op.1=7
  ·grind[opG]
  ·rw[O8 k,cond_false]
   have p:opG op R i=if 0<i/\(R[i-1]?).map (·.1)=some R[i].1 then []else(q1l op.1 ((R.drop i).filter fun x=>x.1==R[i].1)).map fun v=>(R[i].1,v,1,()):=by
    grind[opG]
   have c:∀ (a:List Rw),A4 (q90 (op,R,()) (a,(i:Int),()) R[i]) ((0:Int),(0:Int),(0:Int),false,IntKind.i64.wrap ((R.length:Int)-1),())=some (.inl (K3 R[i].1 (R.drop i))):=fun a=>by
    have:=j8g (op:=op) hi n a (R.length-i) R.length (by omega) (Nat.le_refl _)
    rw[List.drop_length]at this
    rw[show IntKind.i64.wrap ((R.length:Int)-1)=(R.length:Int)-1 from M0 (by omega) (by omega)]
    exact this
   have g:∀ (a:List Rw),A4 (j7q (op,R,()) (a,(i:Int),()) R[i]) ((0:Int),(0:Int),(0:Int),false,IntKind.i64.wrap ((R.length:Int)-1),())=some (.inl (K3 R[i].1 (R.drop i))):=c
   have j:¬ (0<i/\(R[i-1]?).map (·.1)=some R[i].1)->(((cond (op.1==(5:Int)) (some (Sum.inl ((opO op R i++[(R[i].1,(K3 R[i].1 (R.drop i)).1,(1:Int),())]),()))) (some (Sum.inl (opO op R i,())))):Option ((List Rw×Unit)⊕Empty)).bind (Sum.elim (fun d=>(((cond (op.1==(6:Int)) (cond (C2 (d.1.length+1) 24) (some (Sum.inl ((d.1++[(R[i].1,(K3 R[i].1 (R.drop i)).2.1,(1:Int),())]),()))) none) (some (Sum.inl d))):Option ((List Rw×Unit)⊕Empty)).bind (Sum.elim (fun b=>(cond (op.1==(8:Int)) (cond (K3 R[i].1 (R.drop i)).2.2.2.1 (cond (C2 (b.1.length+1) 24) (some (Sum.inl ((b.1++[(R[i].1,(K3 R[i].1 (R.drop i)).2.2.1,(1:Int),())]),((i+1:Nat):Int),()))) none) (some (Sum.inl (b.1,((i+1:Nat):Int),())))) (some (Sum.inl (b.1,((i+1:Nat):Int),()))):LO)) Empty.elim))) Empty.elim))=some (.inl (opO op R i++opG op R i,((i+1:Nat):Int),())):=by
    intro l
    rw[p,if_neg l,j8f]
    unfold q1l
    grind
   by_cases r:0<i
   ·have o:A7 R (IntKind.i64.wrap ((i:Int)-1))=some R[i-1]:=by
     grind[M0,J5]
    grind
   grind
theorem v2h {op:Op3} {R:List Rw} (h1:1<=op.1) (b:op.1<=8) (a:R.length<=2900000000000):q5p (op,R,())=some ((P7 (opL op R) []).filter nzB,()):=by
 have h:=q3s (f:=q5q (op,R,())) R.length (opO op R) (.inl (opO op R R.length,())) (fun i c=>v2i h1 b a c) (by
  grind[q5q])
 have d:A4 (q5q (op,R,())) (([]:List Rw),(0:Int),())=some (.inl (opL op R,())):=h
 grind[v0t,q5p,z3m]
end

section
open Go Go.Abs

abbrev IT:Ty:=.int .i64
theorem q5a:IT.flat=true:=rfl
abbrev Gm:=List (Int×List Rw)
def q52 (G:Gm) (s:Rw):Gm:=B0 IT G s.1 ((A9 IT G s.1).getD []++[s])
def grp (S:List Rw):Gm:=S.foldl q52 []
theorem y6p (S:List Rw) {i:Nat} (h:i<S.length):grp (S.take (i+1))=q52 (grp (S.take i)) S[i]:=by
 grind[grp,List.take_succ_eq_append_getElem]
theorem z91:∀ (S P:List Rw) (G:Gm),Rise IT G->(∀ k,(A9 IT G k).getD []=P.filter fun s=>k==s.1) ->
  Rise IT (S.foldl q52 G)/\∀ k,(A9 IT (S.foldl q52 G) k).getD []=(P++S).filter fun s=>k==s.1
 | [],P,G,a,b=>⟨a,fun k=>by grind⟩
 | s::S,P,G,a,b=>by
  have c:=z91 S (P++[s]) (q52 G s) (q0l q5a a) (fun k=>by
   grind[q52,q2o,q5a,q2n])
  grind
theorem y6o (S:List Rw):Rise IT (grp S):=(z91 S [] [] List.Pairwise.nil (fun k=>rfl)).1
theorem j5i (S:List Rw) (k:Int):(A9 IT (grp S) k).getD []=S.filter fun s=>k==s.1:=by
 have:=(z91 S [] [] List.Pairwise.nil (fun k=>rfl)).2 k
 exact this
theorem y6n (S:List Rw) (k:Int):T8 IT (grp S) k ((A9 IT (grp S) k).getD [])=grp S:=by
 cases b:A9 IT (grp S) k with
 | some x=>exact j6h q5a (y6o S) b
 | none =>
  have d:=(q2m q5a).1 b
  unfold T8
  have:∀ p∈grp S,(cond (IT.eqb k p.1) (p.1,(none:Option (List Rw)).getD []) p)=p:=fun p c=>by
   have f:=d p c
   cases e:IT.eqb k p.1 with
   | true=>exact absurd ((IT.eqb_iff q5a _ _).1 e).symm f
   | false=>rfl
  rw[List.map_congr_left this,List.map_id']
def pr (op:Op3) (r s:Rw):Rw:=(r.1,W (W (op.2.1*r.2.1)+W (op.2.2.1*s.2.1)),W (r.2.2.1*s.2.2.1),())
def T6 (op:Op3) (S:List Rw) (r:Rw):List Rw:=(S.filter fun s=>r.1==s.1).map (pr op r)
def X4 (op:Op3) (R S:List Rw):List Rw:=R.flatMap (T6 op S)
theorem j60 (op:Op3) (S:List Rw) (r:Rw):(T6 op S r).length<=S.length:=by
 grind[T6]
theorem z9n (op:Op3) (S:List Rw):∀ R:List Rw,(X4 op R S).length<=R.length*S.length
 | []=>by simp[X4]
 | r::R=>by
  have a:=z9n op S R
  have b:=j60 op S r
  unfold X4 at a ⊢
  rw[List.flatMap_cons,List.length_append,List.length_cons,Nat.add_mul,Nat.one_mul]
  omega
theorem j5z (op:Op3) {R S:List Rw} {i:Nat} (h:i<R.length):X4 op (R.take (i+1)) S=X4 op (R.take i) S++T6 op S R[i]:=by
 unfold X4
 grind[List.take_succ_eq_append_getElem]
theorem j7e (f:Rw->Rw) (R:List Rw) (m:Bg) {i:Nat} (h:i<R.length):E3 ((R.take (i+1)).map f) m=q1u (E3 ((R.take i).map f) m) (B6 (f R[i])) (f R[i]).2.2.1:=by
 rw[List.take_succ_eq_append_getElem h,List.map_append,z04];rfl
theorem j76 (R:List Rw) (m:Bg) (b:R.length<=3000000000000):A4 (z3b (R,())) ((0:Int),m,())=some (.inl (E3 (R.map (sc 1)) m,())):=by
 refine N1 R.length (fun i=>((i:Int),E3 ((R.take i).map (sc 1)) m,())) _ (fun i a=>?_) ?_ rfl
 ·unfold z3b
  simp only[dcT (show(i:Int)<(R.length:Int)by omega),cond_true,F8 a,Int.toNat_natCast,List.getElem?_eq_getElem a,Option.bind_some,C7 (show i<9223372036854775807 by omega),j7e _ _ _ a]
  exact q1v (E3 ((R.take i).map (sc 1)) m) (B6 (sc 1 R[i])) (sc 1 R[i]).2.2.1 fun z=>(some (Sum.inl (((i+1:Nat):Int),z,())):LR)
 grind[z3b]
theorem v1c (R:List Rw) (m:Bg) (a:R.length<=3000000000000):A4 (j73 (R,())) ((0:Int),m,())=some (.inl (E3 (R.map (sc 1)) m,())):=j76 R m a
theorem v1d (S:List Rw) (d:S.length<=3000000000000):A4 (z3c (S,())) ((0:Int),([]:Gm),())=some (.inl (grp S,())):=by
 refine N1 S.length (fun i=>((i:Int),grp (S.take i),())) _ (fun i b=>?_) ?_ rfl
 ·have a:=List.length_filter_le (fun s:Rw=>S[i].1==s.1) (S.take i)
  rw[List.length_take]at a
  have c:((A9 (.int .i64) (grp (S.take i)) S[i].1).getD ([]:List Rw)).length=_:=congrArg List.length (j5i (S.take i) S[i].1)
  unfold z3c
  simp only[dcT (show(i:Int)<(S.length:Int)by omega),cond_true,F8 b,Int.toNat_natCast,List.getElem?_eq_getElem b,Option.bind_some,C7 (show i<9223372036854775807 by omega),show ∀ x:Rw,([x]:List Rw).length=1 from fun _=>rfl,y6p S b]
  rw[q36 (by omega),show Ty.eqb (.int .i64) S[i].1 S[i].1=true from IT.eqb_self q5a _]
  rfl
 grind[z3c]
theorem v1e (op:Op3) (d e:Bg) (r:Rw) (i:Int) (m0 m:Bg) (S:List Rw) (f:S.length<=3000000000000):A4 (z3d (op,d,e,()) (i,m0,grp S,()) r) ((0:Int),m,())=some (.inl (E3 (T6 op S r) m,())):=by
 have c:=j5i S r.1
 have a:=List.length_filter_le (fun s:Rw=>r.1==s.1) S
 unfold T6
 generalize g:S.filter (fun s:Rw=>r.1==s.1)=F at c a
 refine N1 F.length (fun j=>((j:Int),E3 ((F.take j).map (pr op r)) m,())) _ (fun j b=>?_) ?_ rfl
 ·unfold z3d
  simp only[show ∀ k,A9 (.int .i64) (grp S) k=A9 IT (grp S) k from fun _=>rfl,c,dcT (show(j:Int)<(F.length:Int)by omega),cond_true,F8 b,Int.toNat_natCast,List.getElem?_eq_getElem b,Option.bind_some,C7 (show j<9223372036854775807 by omega),j7e _ _ _ b]
  exact q1v (E3 ((F.take j).map (pr op r)) m) (B6 (pr op r F[j])) (pr op r F[j]).2.2.1 fun z=>(some (Sum.inl (((j+1:Nat):Int),z,())):LR)
 grind[z3d]
theorem v1f (op:Op3) (c b:Bg) (R S:List Rw) (d:R.length<=3000000000000) (e:S.length<=3000000000000):A4 (z3e (op,c,b,()) (R,())) ((0:Int),([]:Bg),grp S,())=some (.inl (E3 (X4 op R S) [],grp S,())):=by
 refine N1 R.length (fun i=>((i:Int),E3 (X4 op (R.take i) S) [],grp S,())) _ (fun i a=>?_) ?_ rfl
 ·unfold z3e
  simp[dcT (show(i:Int)<(R.length:Int)by omega),cond_true,F8 a,Int.toNat_natCast,List.getElem?_eq_getElem a,Option.bind_some,C7 (show i<9223372036854775807 by omega)]
  grind[v1e,y6n,j5z,z04]
 grind[z3e]
def q27 (op:Op3) (R S:List Rw):List Rw:=if op.1=9 then R.map (sc 1)++S.map (sc 1)else X4 op R S
theorem v1b (op:Op3) {a b:Bg} (e:Rise KT a) (c:Rise KT b) (f:a.length<=3000000000000) (d:b.length<=3000000000000):z3a (op,a,b,())=some (E3 (q27 op (a.map toR) (b.map toR)) [],()):=by
 unfold z3a q27
 by_cases g:op.1=9
 ·rw[q5z e f]
  simp[Option.bind_some]
  grind[j76,q5z,v1c,z04]
 ·rw[q5z c d]
  grind[v1d,q5z,v1f]
theorem v0v (op:Op3) (R S:List Rw) (r:Rw) (out:List Rw) (d:out.length+S.length<=2900000000000):A4 (z3t (op,R,S,()) r) (out,(0:Int),())=some (.inl (out++T6 op S r,())):=by
 refine N1 S.length (fun i=>(out++T6 op (S.take i) r,(i:Int),())) _ (fun i c=>?_) ?_ (by grind[T6])
 ·have b:=j60 op (S.take i) r
  rw[List.length_take]at b
  have a:T6 op (S.take (i+1)) r=T6 op (S.take i) r++cond (r.1==S[i].1) [pr op r S[i]] []:=by
   grind[T6,List.take_succ_eq_append_getElem]
  unfold z3t
  simp only[dcT (show(i:Int)<(S.length:Int)by omega),cond_true,J5,List.getElem?_eq_getElem c,Option.bind_some,C7 (show i<9223372036854775807 by omega),show ∀ x:Rw,([x]:List Rw).length=1 from fun _=>rfl,List.length_append,q36 (show out.length+(T6 op (S.take i) r).length+1<=4000000000000 by omega),Bool.and_true]
  rw[a]
  cases(r.1==S[i].1)with
  | true=>rw[cond_true,cond_true,<-List.append_assoc];rfl
  | false=>simp[cond_false,List.append_nil]
 grind[z3t]
theorem v0w (op:Op3) (R S:List Rw) (e:R.length<=1000) (a:S.length<=1000):A4 (z3u (op,R,S,())) (([]:List Rw),(0:Int),())=some (.inl (X4 op R S,())):=by
 refine N1 R.length (fun i=>(X4 op (R.take i) S,(i:Int),())) _ (fun i d=>?_) ?_ rfl
 ·have c:=z9n op S (R.take i)
  have b:min i R.length*S.length<=1000*1000:=Nat.mul_le_mul (by omega) a
  grind[z3u,J5,C7,v0v,j5z]
 grind[z3u]
end

section
open Go Go.Abs

def R0 (l:List Rw):Prop:=∀ r∈l,InR r.2.2.1
theorem j6o {k:Ky} {v:Int} {p:Ky×Int}:∀ {m:Bg},p∈B0 KT m k v->p.2=v\/p∈m
 | [],h=>by
  rcases List.mem_singleton.1 h with rfl
  exact .inl rfl
 | q::r,h=>by
  unfold B0 at h
  cases h1:KT.eqb k q.1 with
  | true =>
   rw[h1,cond_true]at h
   rcases List.mem_cons.1 h with rfl | h
   ·exact .inl rfl
   ·exact .inr (List.mem_cons_of_mem _ h)
  | false =>
   rw[h1,cond_false]at h
   cases h2:KT.lt k q.1 with
   | true =>
    rw[h2,cond_true]at h
    rcases List.mem_cons.1 h with rfl | h
    ·exact .inl rfl
    ·exact .inr h
   | false =>
    rw[h2,cond_false]at h
    rcases List.mem_cons.1 h with rfl | h
    ·exact .inr List.mem_cons_self
    ·rcases j6o h with h | h
     ·exact .inl h
     ·exact .inr (List.mem_cons_of_mem _ h)
theorem y75:InR 0:=z5d
theorem y6f {m:Bg} (h:∀ p∈m,InR p.2) (k:Ky):InR ((A9 KT m k).getD 0):=by
 unfold A9
 cases hf:m.find? fun p=>KT.eqb k p.1 with
 | none=>exact y75
 | some p=>exact h p (List.mem_of_find?_eq_some hf)
theorem j8x {m:Bg} (h:∀ p∈m,InR p.2) (k:Ky) {v:Int} (hv:InR v):∀ p∈B0 KT m k v,InR p.2:=fun p hp=>by
 rcases j6o hp with e | hp
 ·rw[e];exact hv
 ·exact h p hp
theorem v1n {m:Bg} (h:∀ p∈m,InR p.2) (k:Ky) (n:Int):∀ p∈q1u m k n,InR p.2:=by
 have h1:=j8x (j8x h k (y6f h k)) k (z1s (nOf m k+n))
 unfold q1u
 cases(nOf (B0 KT (D0 KT m k 0) k (W (nOf m k+n))) k==0)with
 | true=>exact fun p hp=>h1 p (List.mem_filter.1 hp).1
 | false=>exact h1
theorem j33:∀ (l:List Rw) {m:Bg},(∀ p∈m,InR p.2)->∀ p∈E3 l m,InR p.2
 | [],_,h=>h
 | r::l,_,h=>j33 l (v1n h (B6 r) r.2.2.1)
theorem j13 (l:List Rw):R0 ((E3 l []).map toR):=fun r hr=>by
 obtain⟨p,hp,rfl⟩:=List.mem_map.1 hr
 exact j33 l (fun p hp=>by cases hp) p hp
theorem j5r:InR 1:=by show W 1=1;decide
theorem v0x {op:Op3} {r:Rw} (h:InR r.2.2.1):R0 (q0o op r):=by
 unfold q0o R0
 intro q hq
 split at hq
 ·rcases List.mem_singleton.1 hq with rfl;exact h
 ·split at hq
  ·rcases List.mem_singleton.1 hq with rfl;exact h
  ·split at hq
   ·rcases List.mem_singleton.1 hq with rfl;exact z1s _
   ·split at hq
    ·rcases List.mem_singleton.1 hq with rfl;exact h
    ·cases hq
theorem v0q {op:Op3} {R:List Rw} (h:R0 R) (i:Nat):R0 (opG op R i):=by
 intro q hq
 unfold opG at hq
 cases hr:R[i]? with
 | none=>rw[hr]at hq;cases hq
 | some r =>
  rw[hr]at hq
  simp only at hq
  split at hq
  ·exact v0x (h r (List.mem_of_getElem? hr)) q hq
  ·split at hq
   ·split at hq
    ·rcases List.mem_singleton.1 hq with rfl;exact j5r
    ·cases hq
   ·split at hq
    ·cases hq
    ·obtain⟨v,-,rfl⟩:=List.mem_map.1 hq
     exact j5r
theorem v0s {op:Op3} {R:List Rw} (h:R0 R):R0 (opL op R):=fun q hq=>by
 obtain⟨i,-,hi⟩:=List.mem_flatMap.1 hq
 exact v0q h i q hi
end

end Go.Proofs.Tryz
