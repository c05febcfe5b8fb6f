/- The engine, part 17: code. -/
import Derived.Test.YteeaadgpkammdaaGreatDoorAbsCanon2
namespace Go.Abs
open Go Go.RowKit
abbrev q0r:=List (XK×List LI)
@[reducible] def M2:q0r->Type
 | []=>Empty
 | e::r=>D3 e.2⊕M2 r
inductive Ann where
 | leaf
 | seq (a b:Ann)
 | br (a b:Ann)
 | blk (a:Ann)
 | loop (mt mo sr stat:List Nat) (head:List LI) (exits:q0r) (body:Ann)
 | rng (k:Nat)
 | join (mt mo sr stat:List Nat) (exits:q0r) (a:Ann)
def U5 {σ β:Type} (f:σ->Option (σ⊕β)):Nat->σ->Option β
 | 0,_=>none
 | n+1,s=>match f s with
  | none=>none
  | some (.inr b)=>some b
  | some (.inl s')=>U5 f n s'
open Classical in
noncomputable def A2 {σ β:Type} (f:σ->Option (σ⊕β)) (s:σ):Option β :=
 if h:∃ n,(U5 f n s).isSome=true then U5 f h.choose s else none
theorem z8y {σ β:Type} (f:σ->Option (σ⊕β)):∀ (n m:Nat) (s:σ) (b:β),U5 f n s=some b->n<=m->U5 f m s=some b
 | 0,_,_,_,h,_=>by cases h
 | n+1,0,_,_,_,hm=>by omega
 | n+1,m+1,s,b,h,hm=>by
  simp only[U5]at h ⊢
  split at h
  ·cases h
  ·rename_i b' hb;cases h;rfl
  ·rename_i s' hs'
   exact z8y f n m s' b h (by omega)
theorem loopM_iff {σ β:Type} {f:σ->Option (σ⊕β)} {s:σ} {b:β}:A2 f s=some b↔∃ n,U5 f n s=some b:=by
 unfold A2
 split
 ·rename_i h
  constructor
  ·exact fun hh=>⟨_,hh⟩
  ·rintro ⟨n,hn⟩
   have hc:=h.choose_spec
   obtain⟨b',hb'⟩:=Option.isSome_iff_exists.1 hc
   have h1:=z8y f _ (max n h.choose) s b hn (by omega)
   have h2:=z8y f _ (max n h.choose) s b' hb' (by omega)
   rw[h1]at h2;cases h2;exact hb'
 ·rename_i h
  constructor
  ·intro hh;cases hh
  ·rintro ⟨n,hn⟩
   exact absurd ⟨n,by rw[hn];rfl⟩ h
theorem j5u {σ β:Type} (f:σ->Option (σ⊕β)) (s:σ):A2 f s=(f s).bind fun | .inl s'=>A2 f s' | .inr b=>some b:=by
 apply Option.ext
 intro b
 rw[loopM_iff]
 constructor
 ·rintro ⟨n,hn⟩
  cases n with
  | zero=>cases hn
  | succ n =>
   simp only[U5]at hn
   cases hf:f s with
   | none=>rw[hf]at hn;cases hn
   | some q =>
    rw[hf]at hn
    cases q with
    | inl s'=>exact loopM_iff.2 ⟨n,hn⟩
    | inr b'=>exact hn
 ·intro h
  cases hf:f s with
  | none=>rw[hf]at h;cases h
  | some q =>
   rw[hf]at h
   cases q with
   | inl s' =>
    obtain⟨n,hn⟩:=loopM_iff.1 h
    exact⟨n+1,by simp only[U5,hf];exact hn⟩
   | inr b'=>exact⟨1,by simp only[U5,hf];exact h⟩
def z4e (h:Heap):List LI->Bool
 | []=>true
 | .rng id s::r=>(match h id with
  | .lrec _ s'=>RS.beq s' s
  | _=>false)&&z4e h r
 | _::r=>z4e h r
def P1 {S:Type} (st:St) (mt mo sr stat:List Nat) (x:XK):(es:q0r)->(M2 es->S)->Option S
 | [],_=>none
 | (k,l)::r,g=>cond (XK.beq k x&&z4e st.h l) (L4 st mt mo sr stat l fun y=>some (g (.inl y))) (P1 st mt mo sr stat x r fun o=>g (.inr o))
def q2q {R:Type} (st:St) (mt mo sr:List Nat) (K:XK->St->Option R):(es:q0r)->M2 es->Option R
 | [],o=>Empty.elim o
 | (k,l)::r,o=>Sum.elim (fun y=>K k (C3 st mt mo sr l y)) (fun o=>q2q st mt mo sr K r o) o
def z0o (h:Heap) (lo:Nat->Bool):List Nat->Bool
 | []=>true
 | id::r=>(match h id with
  | .fresh=>!lo id
  | _=>false)&&z0o h lo r
def q4v (p:Nat->Bool):List Nat->Bool
 | []=>true
 | x::r=>!p x&&q4v p r
def q5c (st:St) (mt mo sr stat:List Nat):Bool :=
 z0o st.h st.lo mo&&q4v st.lt mt&&q4v st.lo sr&&q4v st.lo stat
def q7b (g:Ann->(R:Type)->St->(XK->St->Option R)->Option R) (an:Ann) (R:Type) (st:St) (K:XK->St->Option R):Option R :=
 match an with
 | .join mt mo sr stat exits p=>cond (q5c st mt mo sr stat)
  ((g p (M2 exits) (Q7 st mt (mo++sr++stat)) fun x st'=>P1 st' mt mo sr stat x exits fun o=>o).bind fun o=>q2q st mt mo sr K exits o) none
 | p=>g p R st K
def y1s (h:Heap) (ib:Nat) (o:Oper):Bool:=match o.op,o.dst with
 | .alloc _,some d=>(match h (ib+d)with
  | .fresh=>true
  | _=>false)
 | _,_=>true
def j52 (h:Heap) (ib:Nat) (ops:Array Oper):Nat:=cond (ops.toList.all (y1s h ib)) ib (ib+512)
noncomputable def J1 (C:Ctx) (ib:Nat):Code->Ann->(R:Type)->St->(XK->St->Option R)->Option R
 | .skip,_,_,st,K=>K .nrm st
 | .label _,_,_,st,K=>K .nrm st
 | .exit id,_,_,st,K=>K (.ex id) st
 | .ret,_,_,st,K=>K .ret st
 | .region _ ops draw,_,_,st,K=>z0g C (j52 st.h ib ops) ops draw st fun st'=>K .nrm st'
 | .seq a b,an,R,st,K=>q7b (fun an R st K=>match an with
  | .seq p q=>J1 C ib a p R st fun x st'=>match x with
   | .nrm=>J1 C ib b q R st' K
   | x=>K x st'
  | _=>none) an R st K
 | .cond c a b,an,R,st,K=>q7b (fun an R st K=>match an with
  | .br p q=>(match ev st.ρ c with
   | .one (.sc .bool t)=>cond t (J1 C ib a p R st K) (J1 C ib b q R st K)
   | _=>none)
  | _=>none) an R st K
 | .block id a,an,R,st,K=>q7b (fun an R st K=>match an with
  | .blk p=>J1 C ib a p R st fun x st'=>match x with
   | .ex j=>cond (Nat.beq j id) (K .nrm st') (K (.ex j) st')
   | x=>K x st'
  | _=>none) an R st K
 | .loop a,an,R,st,K=>(match an with
  | .loop mt mo sr stat head exits p=>cond (q5c st mt mo sr stat)
   (L4 st mt mo sr stat head fun y0 =>
    (A2 (fun y=>J1 C ib a p (D3 head⊕M2 exits) (Q7 (C3 st mt mo sr head y) mt (mo++stat)) fun x st'=>match x with
     | .nrm=>L4 st' mt mo sr stat head fun y'=>some (.inl y')
     | x=>P1 st' mt mo sr stat x exits .inr) y0).bind fun o=>q2q st mt mo sr K exits o) none
  | .blk p=>J1 C ib a p R st fun x st'=>match x with
   | .nrm=>none
   | x=>K x st'
  | _=>none)
 | .rangeFunc g ps assign body,an,R,st,K=>(match an with
  | .rng k=>(match st.h k,q1x (ev st.ρ g)with
   | .fresh,some (f,pre,post)=>cond (!st.lo k&&C.inl f) (C.icall f (pre++.one (.yld k)::post) (upd st.h k (.lrec { ρ:=st.ρ,n:=st.n,ps:=ps.toList,assign,body } .ready)) st.lo (C.nb (2*k)) R fun _ h'=>(match h' k with
    | .lrec _ .ready=>K .nrm { st with h:=upd h' k .dead }
    | .lrec _ (.left x)=>K x { st with h:=upd h' k .dead }
    | _=>none)) none
   | _,_=>none)
  | _=>none)
 | .scope a,an,R,st,K=>J1 C ib a an R st K
 | _,_,_,_,_=>none
end Go.Abs
