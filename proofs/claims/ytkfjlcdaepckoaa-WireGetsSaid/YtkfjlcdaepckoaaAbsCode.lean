/- The engine, part 17: code. -/
import Derived.Test.YtkfjlcdaepckoaaAbsCanon2
namespace Go.Abs
open Go Go.RowKit
abbrev W0:=List (XK×List LI)
@[reducible] def L3:W0->Type
 | []=>Empty
 | e::r=>C7 e.2⊕L3 r
inductive Ann where
 | leaf
 | seq (a b:Ann)
 | br (a b:Ann)
 | blk (a:Ann)
 | loop (mt mo sr stat:List Nat) (head:List LI) (exits:W0) (body:Ann)
 | rng (k:Nat)
 | join (mt mo sr stat:List Nat) (exits:W0) (a:Ann)
def Q5 {σ β:Type} (f:σ->Option (σ⊕β)):Nat->σ->Option β
 | 0,_=>none
 | n+1,s=>match f s with
  | none=>none
  | some (.inr b)=>some b
  | some (.inl s')=>Q5 f n s'
open Classical in
noncomputable def A3 {σ β:Type} (f:σ->Option (σ⊕β)) (s:σ):Option β :=
 if h:∃ n,(Q5 f n s).isSome=true then Q5 f h.choose s else none
theorem z1y {σ β:Type} (f:σ->Option (σ⊕β)):∀ (n m:Nat) (s:σ) (b:β),Q5 f n s=some b->n<=m->Q5 f m s=some b
 | 0,_,_,_,h,_=>by cases h
 | n+1,0,_,_,_,hm=>by omega
 | n+1,m+1,s,b,h,hm=>by
  simp only[Q5]at h ⊢
  split at h
  ·cases h
  ·rename_i b' hb;cases h;rfl
  ·rename_i s' hs'
   exact z1y f n m s' b h (by omega)
theorem loopM_iff {σ β:Type} {f:σ->Option (σ⊕β)} {s:σ} {b:β}:A3 f s=some b↔∃ n,Q5 f n s=some b:=by
 unfold A3
 split
 ·rename_i h
  constructor
  ·exact fun hh=>⟨_,hh⟩
  ·rintro ⟨n,hn⟩
   have hc:=h.choose_spec
   obtain⟨b',hb'⟩:=Option.isSome_iff_exists.1 hc
   have h1:=z1y f _ (max n h.choose) s b hn (by omega)
   have h2:=z1y f _ (max n h.choose) s b' hb' (by omega)
   rw[h1]at h2;cases h2;exact hb'
 ·rename_i h
  constructor
  ·intro hh;cases hh
  ·rintro ⟨n,hn⟩
   exact absurd ⟨n,by rw[hn];rfl⟩ h
theorem z89 {σ β:Type} (f:σ->Option (σ⊕β)) (s:σ):A3 f s=(f s).bind fun | .inl s'=>A3 f s' | .inr b=>some b:=by
 apply Option.ext
 intro b
 rw[loopM_iff]
 constructor
 ·rintro ⟨n,hn⟩
  cases n with
  | zero=>cases hn
  | succ n =>
   simp only[Q5]at hn
   cases hf:f s with
   | none=>rw[hf]at hn;cases hn
   | some q =>
    rw[hf]at hn
    cases q with
    | inl s'=>exact loopM_iff.2 ⟨n,hn⟩
    | inr b'=>exact hn
 ·intro h
  cases hf:f s with
  | none=>rw[hf]at h;cases h
  | some q =>
   rw[hf]at h
   cases q with
   | inl s' =>
    obtain⟨n,hn⟩:=loopM_iff.1 h
    exact⟨n+1,by simp only[Q5,hf];exact hn⟩
   | inr b'=>exact⟨1,by simp only[Q5,hf];exact h⟩
def q80 (h:Heap):List LI->Bool
 | []=>true
 | .rng id s::r=>(match h id with
  | .lrec _ s'=>RS.beq s' s
  | _=>false)&&q80 h r
 | _::r=>q80 h r
def N0 {S:Type} (st:St) (mt mo sr stat:List Nat) (x:XK):(es:W0)->(L3 es->S)->Option S
 | [],_=>none
 | (k,l)::r,g=>cond (XK.beq k x&&q80 st.h l) (K3 st mt mo sr stat l fun y=>some (g (.inl y))) (N0 st mt mo sr stat x r fun o=>g (.inr o))
def q0d {R:Type} (st:St) (mt mo sr:List Nat) (K:XK->St->Option R):(es:W0)->L3 es->Option R
 | [],o=>Empty.elim o
 | (k,l)::r,o=>Sum.elim (fun y=>K k (B9 st mt mo sr l y)) (fun o=>q0d st mt mo sr K r o) o
def q6j (h:Heap) (lo:Nat->Bool):List Nat->Bool
 | []=>true
 | id::r=>(match h id with
  | .fresh=>!lo id
  | _=>false)&&q6j h lo r
def q2c (p:Nat->Bool):List Nat->Bool
 | []=>true
 | x::r=>!p x&&q2c p r
def q2n (st:St) (mt mo sr stat:List Nat):Bool :=
 q6j st.h st.lo mo&&q2c st.lt mt&&q2c st.lo sr&&q2c st.lo stat&&z1w (st.h B6)
def q3y (g:Ann->(R:Type)->St->(XK->St->Option R)->Option R) (an:Ann) (R:Type) (st:St) (K:XK->St->Option R):Option R :=
 match an with
 | .join mt mo sr stat exits p=>cond (q2n st mt mo sr stat)
  ((g p (L3 exits) (O0 st mt (mo++sr++stat)) fun x st'=>N0 st' mt mo sr stat x exits fun o=>o).bind fun o=>q0d st mt mo sr K exits o) none
 | p=>g p R st K
def j3k (h:Heap) (ib:Nat) (o:Oper):Bool:=match o.op,o.dst with
 | .alloc _,some d=>(match h (ib+d)with
  | .fresh=>true
  | _=>false)
 | _,_=>true
def z1q (h:Heap) (ib:Nat) (ops:Array Oper):Nat:=cond (ops.toList.all (j3k h ib)) ib (ib+512)
def j8f:AV->Bool
 | .one (.pan _)=>false
 | _=>true
def XK.plain:XK->Bool
 | .pan _=>false
 | _=>true
noncomputable def I1 (C:Ctx) (ib:Nat):Code->Ann->(R:Type)->St->(XK->St->Option R)->Option R
 | .skip,_,_,st,K=>K .nrm st
 | .label _,_,_,st,K=>K .nrm st
 | .exit id,_,_,st,K=>K (.ex id) st
 | .ret,_,_,st,K=>K .ret st
 | .region _ ops draw,_,_,st,K=>q6c C (z1q st.h ib ops) ops draw st K
 | .seq a b,an,R,st,K=>q3y (fun an R st K=>match an with
  | .seq p q=>I1 C ib a p R st fun x st'=>match x with
   | .nrm=>I1 C ib b q R st' K
   | x=>K x st'
  | _=>none) an R st K
 | .cond c a b,an,R,st,K=>q3y (fun an R st K=>match an with
  | .br p q=>(match ev st.ρ c with
   | .one (.sc .bool t)=>cond t (I1 C ib a p R st K) (I1 C ib b q R st K)
   | _=>none)
  | _=>none) an R st K
 | .block id a,an,R,st,K=>q3y (fun an R st K=>match an with
  | .blk p=>I1 C ib a p R st fun x st'=>match x with
   | .ex j=>cond (Nat.beq j id) (K .nrm st') (K (.ex j) st')
   | x=>K x st'
  | _=>none) an R st K
 | .loop a,an,R,st,K=>(match an with
  | .loop mt mo sr stat head exits p=>cond (q2n st mt mo sr stat)
   (K3 st mt mo sr stat head fun y0 =>
    (A3 (fun y=>I1 C ib a p (C7 head⊕L3 exits) (O0 (B9 st mt mo sr head y) mt (mo++stat)) fun x st'=>match x with
     | .nrm=>K3 st' mt mo sr stat head fun y'=>some (.inl y')
     | x=>N0 st' mt mo sr stat x exits .inr) y0).bind fun o=>q0d st mt mo sr K exits o) none
  | .blk p=>I1 C ib a p R st fun x st'=>match x with
   | .nrm=>none
   | x=>K x st'
  | _=>none)
 | .rangeFunc g ps assign body,an,R,st,K=>(match an with
  | .rng k=>(match st.h k,Z1 (ev st.ρ g)with
   | .fresh,some (f,pre,post)=>cond (!st.lo k&&C.inl f) (C.icall f (pre++.one (.yld k)::post) (upd st.h k (.lrec { ρ:=st.ρ,n:=st.n,ps:=ps.toList,assign,body } .ready)) st.lo (C.nb (2*k)) R fun av h'=>cond (j8f av) (match h' k with
    | .lrec _ .ready=>K .nrm { st with h:=upd h' k .dead }
    | .lrec _ (.left x)=>cond x.plain (K x { st with h:=upd h' k .dead }) none
    | _=>none) none) none
   | _,_=>none)
  | _=>none)
 | .scope a,an,R,st,K=>I1 C ib a an R st K
 | _,_,_,_,_=>none
end Go.Abs
