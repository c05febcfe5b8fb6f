/- The engine, part 17: code. -/
import Derived.Test.YtecofmaegcibeaaGreatDoorAbsCanon2
namespace Go.Abs
open Go Go.RowKit
abbrev q1z:=List (XK×List LI)
@[reducible] def O9:q1z->Type
 | []=>Empty
 | e::r=>D7 e.2⊕O9 r
inductive Ann where
 | leaf
 | seq (a b:Ann)
 | br (a b:Ann)
 | blk (a:Ann)
 | loop (mt mo sr stat:List Nat) (head:List LI) (exits:q1z) (body:Ann)
 | rng (k:Nat)
 | join (mt mo sr stat:List Nat) (exits:q1z) (a:Ann)
def X6 {σ β:Type} (f:σ->Option (σ⊕β)):Nat->σ->Option β
 | 0,_=>none
 | n+1,s=>match f s with
  | none=>none
  | some (.inr b)=>some b
  | some (.inl s')=>X6 f n s'
open Classical in
noncomputable def A1 {σ β:Type} (f:σ->Option (σ⊕β)) (s:σ):Option β :=
 if h:∃n,(X6 f n s).isSome=true then X6 f h.choose s else none
theorem j2s {σ β:Type} (f:σ->Option (σ⊕β)):∀(n m:Nat) (s:σ) (b:β),X6 f n s=some b->n<=m->X6 f m s=some b
 | 0,_,_,_,h,_=>by cases h
 | n+1,0,_,_,_,hm=>by omega
 | n+1,m+1,s,b,h,hm=>by
  simp only[X6]at h ⊢;split at h
  ·cases h
  ·rename_i b' hb;cases h;rfl
  ·rename_i s' hs';exact j2s f n m s' b h (by omega)
theorem loopM_iff {σ β:Type} {f:σ->Option (σ⊕β)} {s:σ} {b:β}:A1 f s=some b↔∃n,X6 f n s=some b:=by
 unfold A1;split
 ·rename_i h;constructor
  ·exactλhh=>⟨_,hh⟩
  ·rintro ⟨n,hn⟩;have hc:=h.choose_spec;obtain⟨b',hb'⟩:=cV.1 hc;have h1:=j2s f _ (max n h.choose) s b hn (by omega);have h2:=j2s f _ (max n h.choose) s b' hb' (by omega);rw[h1]at h2;cases h2;exact hb'
 ·rename_i h;constructor
  ·intro hh;cases hh
  ·rintro ⟨n,hn⟩;exact absurd ⟨n,by rw[hn];rfl⟩ h
theorem y1n {σ β:Type} (f:σ->Option (σ⊕β)) (s:σ):A1 f s=(f s).bind λ| .inl s'=>A1 f s' | .inr b=>some b:=by
 apply Option.ext;intro b;rw[loopM_iff];constructor
 ·rintro ⟨n,hn⟩;cases n with
  | zero=>cases hn
  | succ n =>
   simp only[X6]at hn;cases hf:f s with
   | none=>rw[hf]at hn;cases hn
   | some q =>
    rw[hf]at hn;cases q with
    | inl s'=>exact loopM_iff.2 ⟨n,hn⟩
    | inr b'=>exact hn
 ·intro h;cases hf:f s with
  | none=>rw[hf]at h;cases h
  | some q =>
   rw[hf]at h;cases q with
   | inl s' =>
    obtain⟨n,hn⟩:=loopM_iff.1 h;exact⟨n+1,by simp only[X6,hf];exact hn⟩
   | inr b'=>exact⟨1,by simp only[X6,hf];exact h⟩
def z86 (h:Heap):List LI->Bool
 | []=>true
 | .rng id s::r=>(match h id with
  | .lrec _ s'=>RS.beq s' s
  | _=>false)&&z86 h r
 | _::r=>z86 h r
def S5 {S:Type} (st:St) (mt mo sr stat:List Nat) (x:XK):(es:q1z)->(O9 es->S)->Option S
 | [],_=>none
 | (k,l)::r,g=>cond (XK.beq k x&&z86 st.h l) (N3 st mt mo sr stat l λy=>some (g (.inl y))) (S5 st mt mo sr stat x r λo=>g (.inr o))
def q43 {R:Type} (st:St) (mt mo sr:List Nat) (K:XK->St->Option R):(es:q1z)->O9 es->Option R
 | [],o=>Empty.elim o
 | (k,l)::r,o=>Sum.elim (λy=>K k (C7 st mt mo sr l y)) (λo=>q43 st mt mo sr K r o) o
def z4g (h:Heap) (lo:Nat->Bool):List Nat->Bool
 | []=>true
 | id::r=>(match h id with
  | .fresh=>!lo id
  | _=>false)&&z4g h lo r
def q6v (p:Nat->Bool):List Nat->Bool
 | []=>true
 | x::r=>!p x&&q6v p r
def q7c (st:St) (mt mo sr stat:List Nat):Bool :=
 z4g st.h st.lo mo&&q6v st.lt mt&&q6v st.lo sr&&q6v st.lo stat&&j2p (st.h D1)
def q97 (g:Ann->(R:Type)->St->(XK->St->Option R)->Option R) (an:Ann) (R:Type) (st:St) (K:XK->St->Option R):Option R :=
 match an with
 | .join mt mo sr stat exits p=>cond (q7c st mt mo sr stat)
  ((g p (O9 exits) (T6 st mt (mo++sr++stat)) λx st'=>S5 st' mt mo sr stat x exits λo=>o).bind λo=>q43 st mt mo sr K exits o) none
 | p=>g p R st K
def y9e (h:Heap) (ib:Nat) (o:Oper):Bool:=match o.op,o.dst with
 | .alloc _,some d=>(match h (ib+d)with
  | .fresh=>true
  | _=>false)
 | _,_=>true
def j2f (h:Heap) (ib:Nat) (ops:Array Oper):Nat:=cond (ops.toList.all (y9e h ib)) ib (ib+512)
def v7y:AV->Bool
 | .one (.pan _)=>false
 | _=>true
def XK.plain:XK->Bool
 | .pan _=>false
 | _=>true
noncomputable def J9 (C:Ctx) (ib:Nat):Code->Ann->(R:Type)->St->(XK->St->Option R)->Option R
 | .skip,_,_,st,K=>K .nrm st
 | .label _,_,_,st,K=>K .nrm st
 | .exit id,_,_,st,K=>K (.ex id) st
 | .ret,_,_,st,K=>K .ret st
 | .region _ ops draw,_,_,st,K=>j1k C (j2f st.h ib ops) ops draw st K
 | .seq a b,an,R,st,K=>q97 (λan R st K=>match an with
  | .seq p q=>J9 C ib a p R st λx st'=>match x with
   | .nrm=>J9 C ib b q R st' K
   | x=>K x st'
  | _=>none) an R st K
 | .cond c a b,an,R,st,K=>q97 (λan R st K=>match an with
  | .br p q=>(match ev st.ρ c with
   | .one (.sc .bool t)=>cond t (J9 C ib a p R st K) (J9 C ib b q R st K)
   | _=>none)
  | _=>none) an R st K
 | .block id a,an,R,st,K=>q97 (λan R st K=>match an with
  | .blk p=>J9 C ib a p R st λx st'=>match x with
   | .ex j=>cond (Nat.beq j id) (K .nrm st') (K (.ex j) st')
   | x=>K x st'
  | _=>none) an R st K
 | .loop a,an,R,st,K=>(match an with
  | .loop mt mo sr stat head exits p=>cond (q7c st mt mo sr stat)
   (N3 st mt mo sr stat head λy0 =>
    (A1 (λy=>J9 C ib a p (D7 head⊕O9 exits) (T6 (C7 st mt mo sr head y) mt (mo++stat)) λx st'=>match x with
     | .nrm=>N3 st' mt mo sr stat head λy'=>some (.inl y')
     | x=>S5 st' mt mo sr stat x exits .inr) y0).bind λo=>q43 st mt mo sr K exits o) none
  | .blk p=>J9 C ib a p R st λx st'=>match x with
   | .nrm=>none
   | x=>K x st'
  | _=>none)
 | .rangeFunc g ps assign body,an,R,st,K=>(match an with
  | .rng k=>(match st.h k,q24 (ev st.ρ g)with
   | .fresh,some (f,pre,post)=>cond (!st.lo k&&C.inl f) (C.icall f (pre++.one (.yld k)::post) (upd st.h k (.lrec { ρ:=st.ρ,n:=st.n,ps:=ps.toList,assign,body } .ready)) st.lo (C.nb (2*k)) R λav h'=>cond (v7y av) (match h' k with
    | .lrec _ .ready=>K .nrm { st with h:=upd h' k .dead }
    | .lrec _ (.left x)=>cond x.plain (K x { st with h:=upd h' k .dead }) none
    | _=>none) none) none
   | _,_=>none)
  | _=>none)
 | .scope a,an,R,st,K=>J9 C ib a an R st K
 | _,_,_,_,_=>none
end Go.Abs
