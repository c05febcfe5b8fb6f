/- The engine, part 17: code. -/
import Derived.Test.YteeaadgpkammdaaDoorAbsCanon2
namespace Go.Abs
open Go Go.RowKit
abbrev Exits:=List (XK × List LI)
@[reducible] def ODen:Exits→Type
  | []=>Empty
  | e :: r=>LDen e.2 ⊕ ODen r
inductive Ann where
  | leaf
  | seq (a b:Ann)
  | br (a b:Ann)
  | blk (a:Ann)
  | loop (mt mo sr stat:List Nat) (head:List LI) (exits:Exits) (body:Ann)
  | rng (k:Nat)
  | join (mt mo sr stat:List Nat) (exits:Exits) (a:Ann)
def iterN {σ β:Type} (f:σ→Option (σ ⊕ β)):Nat→σ→Option β
  | 0,_=>none
  | n+1,s=>match f s with
    | none=>none
    | some (.inr b)=>some b
    | some (.inl s')=>iterN f n s'
open Classical in
noncomputable def loopM {σ β:Type} (f:σ→Option (σ ⊕ β)) (s:σ):Option β :=
  if h:∃ n,(iterN f n s).isSome=true then iterN f h.choose s else none
theorem iterN_more {σ β:Type} (f:σ→Option (σ ⊕ β)):∀ (n m:Nat) (s:σ) (b:β),iterN f n s=some b→n≤m→iterN f m s=some b
  | 0,_,_,_,h,_=>by cases h
  | n+1,0,_,_,_,hm=>by omega
  | n+1,m+1,s,b,h,hm=>by
    simp only [iterN] at h ⊢
    split at h
    · cases h
    · rename_i b' hb; cases h; rfl
    · rename_i s' hs'
      exact iterN_more f n m s' b h (by omega)
theorem loopM_iff {σ β:Type} {f:σ→Option (σ ⊕ β)} {s:σ} {b:β}:loopM f s=some b↔∃ n,iterN f n s=some b:=by
  unfold loopM
  split
  · rename_i h
    constructor
    · exact fun hh=>⟨_,hh⟩
    · rintro ⟨n,hn⟩
      have hc:=h.choose_spec
      obtain ⟨b',hb'⟩:=Option.isSome_iff_exists.1 hc
      have h1:=iterN_more f _ (max n h.choose) s b hn (by omega)
      have h2:=iterN_more f _ (max n h.choose) s b' hb' (by omega)
      rw [h1] at h2; cases h2; exact hb'
  · rename_i h
    constructor
    · intro hh; cases hh
    · rintro ⟨n,hn⟩
      exact absurd ⟨n,by rw [hn]; rfl⟩ h
theorem loopM_unfold {σ β:Type} (f:σ→Option (σ ⊕ β)) (s:σ):loopM f s=(f s).bind fun | .inl s'=>loopM f s' | .inr b=>some b:=by
  apply Option.ext
  intro b
  rw [loopM_iff]
  constructor
  · rintro ⟨n,hn⟩
    cases n with
    | zero=>cases hn
    | succ n =>
      simp only [iterN] at hn
      cases hf:f s with
      | none=>rw [hf] at hn; cases hn
      | some q =>
        rw [hf] at hn
        cases q with
        | inl s'=>exact loopM_iff.2 ⟨n,hn⟩
        | inr b'=>exact hn
  · intro h
    cases hf:f s with
    | none=>rw [hf] at h; cases h
    | some q =>
      rw [hf] at h
      cases q with
      | inl s' =>
        obtain ⟨n,hn⟩:=loopM_iff.1 h
        exact ⟨n+1,by simp only [iterN,hf]; exact hn⟩
      | inr b'=>exact ⟨1,by simp only [iterN,hf]; exact h⟩
def rngsB (h:Heap):List LI→Bool
  | []=>true
  | .rng id s :: r=>(match h id with
    | .lrec _ s'=>RS.beq s' s
    | _=>false) && rngsB h r
  | _ :: r=>rngsB h r
def pickEx {S:Type} (st:St) (mt mo sr stat:List Nat) (x:XK):(es:Exits)→(ODen es→S)→Option S
  | [],_=>none
  | (k,l) :: r,g=>cond (XK.beq k x && rngsB st.h l) (exSt st mt mo sr stat l fun y=>some (g (.inl y))) (pickEx st mt mo sr stat x r fun o=>g (.inr o))
def resume {R:Type} (st:St) (mt mo sr:List Nat) (K:XK→St→Option R):(es:Exits)→ODen es→Option R
  | [],o=>Empty.elim o
  | (k,l) :: r,o=>Sum.elim (fun y=>K k (mkSt st mt mo sr l y)) (fun o=>resume st mt mo sr K r o) o
def freeIds (h:Heap) (lo:Nat→Bool):List Nat→Bool
  | []=>true
  | id :: r=>(match h id with
    | .fresh=>!lo id
    | _=>false) && freeIds h lo r
def noneOf (p:Nat→Bool):List Nat→Bool
  | []=>true
  | x :: r=>!p x && noneOf p r
def roomFor (st:St) (mt mo sr stat:List Nat):Bool :=
  freeIds st.h st.lo mo && noneOf st.lt mt && noneOf st.lo sr && noneOf st.lo stat
def joinOr (g:Ann→(R:Type)→St→(XK→St→Option R)→Option R) (an:Ann) (R:Type) (st:St) (K:XK→St→Option R):Option R :=
  match an with
  | .join mt mo sr stat exits p=>cond (roomFor st mt mo sr stat)
      ((g p (ODen exits) (lockSt st mt (mo++sr++stat)) fun x st'=>pickEx st' mt mo sr stat x exits fun o=>o).bind fun o=>resume st mt mo sr K exits o) none
  | p=>g p R st K
def allocFree (h:Heap) (ib:Nat) (o:Oper):Bool:=match o.op,o.dst with
  | .alloc _,some d=>(match h (ib+d) with
    | .fresh=>true
    | _=>false)
  | _,_=>true
def ibFor (h:Heap) (ib:Nat) (ops:Array Oper):Nat:=cond (ops.toList.all (allocFree h ib)) ib (ib+512)
noncomputable def evalCode (C:Ctx) (ib:Nat):Code→Ann→(R:Type)→St→(XK→St→Option R)→Option R
  | .skip,_,_,st,K=>K .nrm st
  | .label _,_,_,st,K=>K .nrm st
  | .exit id,_,_,st,K=>K (.ex id) st
  | .ret,_,_,st,K=>K .ret st
  | .region _ ops draw,_,_,st,K=>evalRegion C (ibFor st.h ib ops) ops draw st fun st'=>K .nrm st'
  | .seq a b,an,R,st,K=>joinOr (fun an R st K=>match an with
    | .seq p q=>evalCode C ib a p R st fun x st'=>match x with
      | .nrm=>evalCode C ib b q R st' K
      | x=>K x st'
    | _=>none) an R st K
  | .cond c a b,an,R,st,K=>joinOr (fun an R st K=>match an with
    | .br p q=>(match ev st.ρ c with
      | .one (.sc .bool t)=>cond t (evalCode C ib a p R st K) (evalCode C ib b q R st K)
      | _=>none)
    | _=>none) an R st K
  | .block id a,an,R,st,K=>joinOr (fun an R st K=>match an with
    | .blk p=>evalCode C ib a p R st fun x st'=>match x with
      | .ex j=>cond (Nat.beq j id) (K .nrm st') (K (.ex j) st')
      | x=>K x st'
    | _=>none) an R st K
  | .loop a,an,R,st,K=>(match an with
    | .loop mt mo sr stat head exits p=>cond (roomFor st mt mo sr stat)
        (exSt st mt mo sr stat head fun y0 =>
          (loopM (fun y=>evalCode C ib a p (LDen head ⊕ ODen exits) (lockSt (mkSt st mt mo sr head y) mt (mo++stat)) fun x st'=>match x with
            | .nrm=>exSt st' mt mo sr stat head fun y'=>some (.inl y')
            | x=>pickEx st' mt mo sr stat x exits .inr) y0).bind fun o=>resume st mt mo sr K exits o) none
    | .blk p=>evalCode C ib a p R st fun x st'=>match x with
      | .nrm=>none
      | x=>K x st'
    | _=>none)
  | .rangeFunc g ps assign body,an,R,st,K=>(match an with
    | .rng k=>(match st.h k,calleeOf (ev st.ρ g) with
      | .fresh,some (f,pre,post)=>cond (!st.lo k && C.inl f) (C.icall f (pre++.one (.yld k) :: post) (upd st.h k (.lrec { ρ:=st.ρ,n:=st.n,ps:=ps.toList,assign,body } .ready)) st.lo (C.nb (2*k)) R fun _ h'=>(match h' k with
        | .lrec _ .ready=>K .nrm { st with h:=upd h' k .dead }
        | .lrec _ (.left x)=>K x { st with h:=upd h' k .dead }
        | _=>none)) none
      | _,_=>none)
    | _=>none)
  | .scope a,an,R,st,K=>evalCode C ib a an R st K
  | _,_,_,_,_=>none
end Go.Abs
