/- The engine, part 17: code. -/
import Derived.Test.YtppblbacbmebfaaGreatDoorAbsCanon2
namespace Go.Abs
open Go Go.RowKit
abbrev q15:=List (XK×List LI)
@[reducible] def N4:q15->Type
 | []=>Empty
 | e::r=>D5 e.2⊕N4 r
inductive Ann where
 | leaf
 | seq (a b:Ann)
 | br (a b:Ann)
 | blk (a:Ann)
 | loop (mt mo sr stat:List Nat) (head:List LI) (exits:q15) (body:Ann)
 | rng (k:Nat)
 | join (mt mo sr stat:List Nat) (exits:q15) (a:Ann)
def V8 {σ β:Type} (f:σ->Option (σ⊕β)):Nat->σ->Option β
 | 0,_=>none
 | n+1,s=>match f s with
  | none=>none
  | some (.inr b)=>some b
  | some (.inl s')=>V8 f n s'
open Classical in
noncomputable def A4 {σ β:Type} (f:σ->Option (σ⊕β)) (s:σ):Option β :=
 if h:∃ n,(V8 f n s).isSome=true then V8 f h.choose s else none
theorem z9k {σ β:Type} (f:σ->Option (σ⊕β)):∀ (n m:Nat) (s:σ) (b:β),V8 f n s=some b->n<=m->V8 f m s=some b
 | 0,_,_,_,h,_=>by cases h
 | n+1,0,_,_,_,hm=>by omega
 | n+1,m+1,s,b,h,hm=>by
  simp only[V8]at h ⊢
  split at h
  ·cases h
  ·rename_i b' hb;cases h;rfl
  ·rename_i s' hs'
   exact z9k f n m s' b h (by omega)
theorem loopM_iff {σ β:Type} {f:σ->Option (σ⊕β)} {s:σ} {b:β}:A4 f s=some b↔∃ n,V8 f n s=some b:=by
 unfold A4
 split
 ·rename_i h
  constructor
  ·exact fun hh=>⟨_,hh⟩
  ·rintro ⟨n,hn⟩
   have hc:=h.choose_spec
   obtain⟨b',hb'⟩:=Option.isSome_iff_exists.1 hc
   have h1:=z9k f _ (max n h.choose) s b hn (by omega)
   have h2:=z9k f _ (max n h.choose) s b' hb' (by omega)
   rw[h1]at h2;cases h2;exact hb'
 ·rename_i h
  constructor
  ·intro hh;cases hh
  ·rintro ⟨n,hn⟩
   exact absurd ⟨n,by rw[hn];rfl⟩ h
theorem j6d {σ β:Type} (f:σ->Option (σ⊕β)) (s:σ):A4 f s=(f s).bind fun | .inl s'=>A4 f s' | .inr b=>some b:=by
 apply Option.ext
 intro b
 rw[loopM_iff]
 constructor
 ·rintro ⟨n,hn⟩
  cases n with
  | zero=>cases hn
  | succ n =>
   simp only[V8]at hn
   cases hf:f s with
   | none=>rw[hf]at hn;cases hn
   | some q =>
    rw[hf]at hn
    cases q with
    | inl s'=>exact loopM_iff.2 ⟨n,hn⟩
    | inr b'=>exact hn
 ·intro h
  cases hf:f s with
  | none=>rw[hf]at h;cases h
  | some q =>
   rw[hf]at h
   cases q with
   | inl s' =>
    obtain⟨n,hn⟩:=loopM_iff.1 h
    exact⟨n+1,by simp only[V8,hf];exact hn⟩
   | inr b'=>exact⟨1,by simp only[V8,hf];exact h⟩
def z4j (h:Heap):List LI->Bool
 | []=>true
 | .rng id s::r=>(match h id with
  | .lrec _ s'=>RS.beq s' s
  | _=>false)&&z4j h r
 | _::r=>z4j h r
def Q9 {S:Type} (st:St) (mt mo sr stat:List Nat) (x:XK):(es:q15)->(N4 es->S)->Option S
 | [],_=>none
 | (k,l)::r,g=>cond (XK.beq k x&&z4j st.h l) (M3 st mt mo sr stat l fun y=>some (g (.inl y))) (Q9 st mt mo sr stat x r fun o=>g (.inr o))
def q35 {R:Type} (st:St) (mt mo sr:List Nat) (K:XK->St->Option R):(es:q15)->N4 es->Option R
 | [],o=>Empty.elim o
 | (k,l)::r,o=>Sum.elim (fun y=>K k (C1 st mt mo sr l y)) (fun o=>q35 st mt mo sr K r o) o
def q75 (h:Heap) (lo:Nat->Bool):List Nat->Bool
 | []=>true
 | id::r=>(match h id with
  | .fresh=>!lo id
  | _=>false)&&q75 h lo r
def q1s (p:Nat->Bool):List Nat->Bool
 | []=>true
 | x::r=>!p x&&q1s p r
def q5x (st:St) (mt mo sr stat:List Nat):Bool :=
 q75 st.h st.lo mo&&q1s st.lt mt&&q1s st.lo sr&&q1s st.lo stat&&z9i (st.h C0)
def q7k (g:Ann->(R:Type)->St->(XK->St->Option R)->Option R) (an:Ann) (R:Type) (st:St) (K:XK->St->Option R):Option R :=
 match an with
 | .join mt mo sr stat exits p=>cond (q5x st mt mo sr stat)
  ((g p (N4 exits) (S1 st mt (mo++sr++stat)) fun x st'=>Q9 st' mt mo sr stat x exits fun o=>o).bind fun o=>q35 st mt mo sr K exits o) none
 | p=>g p R st K
def y1f (h:Heap) (ib:Nat) (o:Oper):Bool:=match o.op,o.dst with
 | .alloc _,some d=>(match h (ib+d)with
  | .fresh=>true
  | _=>false)
 | _,_=>true
def z97 (h:Heap) (ib:Nat) (ops:Array Oper):Nat:=cond (ops.toList.all (y1f h ib)) ib (ib+512)
def y9d:AV->Bool
 | .one (.pan _)=>false
 | _=>true
def XK.plain:XK->Bool
 | .pan _=>false
 | _=>true
noncomputable def J1 (C:Ctx) (ib:Nat):Code->Ann->(R:Type)->St->(XK->St->Option R)->Option R
 | .skip,_,_,st,K=>K .nrm st
 | .label _,_,_,st,K=>K .nrm st
 | .exit id,_,_,st,K=>K (.ex id) st
 | .ret,_,_,st,K=>K .ret st
 | .region _ ops draw,_,_,st,K=>z7z C (z97 st.h ib ops) ops draw st K
 | .seq a b,an,R,st,K=>q7k (fun an R st K=>match an with
  | .seq p q=>J1 C ib a p R st fun x st'=>match x with
   | .nrm=>J1 C ib b q R st' K
   | x=>K x st'
  | _=>none) an R st K
 | .cond c a b,an,R,st,K=>q7k (fun an R st K=>match an with
  | .br p q=>(match ev st.ρ c with
   | .one (.sc .bool t)=>cond t (J1 C ib a p R st K) (J1 C ib b q R st K)
   | _=>none)
  | _=>none) an R st K
 | .block id a,an,R,st,K=>q7k (fun an R st K=>match an with
  | .blk p=>J1 C ib a p R st fun x st'=>match x with
   | .ex j=>cond (Nat.beq j id) (K .nrm st') (K (.ex j) st')
   | x=>K x st'
  | _=>none) an R st K
 | .loop a,an,R,st,K=>(match an with
  | .loop mt mo sr stat head exits p=>cond (q5x st mt mo sr stat)
   (M3 st mt mo sr stat head fun y0 =>
    (A4 (fun y=>J1 C ib a p (D5 head⊕N4 exits) (S1 (C1 st mt mo sr head y) mt (mo++stat)) fun x st'=>match x with
     | .nrm=>M3 st' mt mo sr stat head fun y'=>some (.inl y')
     | x=>Q9 st' mt mo sr stat x exits .inr) y0).bind fun o=>q35 st mt mo sr K exits o) none
  | .blk p=>J1 C ib a p R st fun x st'=>match x with
   | .nrm=>none
   | x=>K x st'
  | _=>none)
 | .rangeFunc g ps assign body,an,R,st,K=>(match an with
  | .rng k=>(match st.h k,q2c (ev st.ρ g)with
   | .fresh,some (f,pre,post)=>cond (!st.lo k&&C.inl f) (C.icall f (pre++.one (.yld k)::post) (upd st.h k (.lrec { ρ:=st.ρ,n:=st.n,ps:=ps.toList,assign,body } .ready)) st.lo (C.nb (2*k)) R fun av h'=>cond (y9d av) (match h' k with
    | .lrec _ .ready=>K .nrm { st with h:=upd h' k .dead }
    | .lrec _ (.left x)=>cond x.plain (K x { st with h:=upd h' k .dead }) none
    | _=>none) none) none
   | _,_=>none)
  | _=>none)
 | .scope a,an,R,st,K=>J1 C ib a an R st K
 | _,_,_,_,_=>none
end Go.Abs
