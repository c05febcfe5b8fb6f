/- The engine, part 15: states of a fixed form, at the heads and ends of loops. -/
import Derived.Test.YtecofmaegcibeaaGreatDoorAbsDraw
namespace Go.Abs
open Go Go.RowKit
variable {P:Program} {L:Nat->Prop} {w0:World}
inductive CI where
 | v (t:Ty)
 | o (id:Nat)
 | m (id:Nat)
 | t (id:Nat)
 | p (id off:Nat)
inductive Src where
 | t (slot:Nat)
 | c (id i:Nat)
def y5k (o:AObj) (s:RS):AObj:=match o with
 | .lrec i _=>.lrec i s
 | _=>.dead
def XK.beq:XK->XK->Bool
 | .nrm,.nrm=>true
 | .ex i,.ex j=>Nat.beq i j
 | .ret,.ret=>true
 | .pan i,.pan j=>Nat.beq i j
 | _,_=>false
def RS.beq:RS->RS->Bool
 | .ready,.ready=>true
 | .busy,.busy=>true
 | .left x,.left y=>XK.beq x y
 | .over x,.over y=>XK.beq x y
 | _,_=>false
inductive LI where
 | tmp (slot:Nat) (t:Ty)
 | own (slot id:Nat)
 | arr (id:Nat) (e:TypeId) (t:Ty) (src:Src)
 | arrS (id:Nat) (e:TypeId) (t:Ty)
 | cel (id:Nat) (cs:List CI)
 | rng (id:Nat) (s:RS)
 | ptr (slot id:Nat)
 | celN (id:Nat) (cs:List CI) (slot:Nat)
 | mapS (id:Nat) (ak av:Bool) (tk tv:Ty)
 | mpt (slot id:Nat)
 | mapN (id:Nat) (ak av:Bool) (tk tv:Ty) (slot:Nat)
 | nlp (slot:Nat)
 | nlm (slot:Nat)
 | subS (slot id:Nat)
 | itr (id:Nat) (ak av:Bool) (tk tv:Ty)
 | treeS (id:Nat) (e:TypeId) (k:OT)
 | treeN (id:Nat) (e:TypeId) (k:OT) (src:Src)
 | tsl (slot id:Nat)
@[reducible] def q06:List CI->Type
 | []=>Unit
 | .v t::r=>t.den×q06 r
 | .o _::r=>q06 r
 | .m _::r=>q06 r
 | .t _::r=>q06 r
 | .p _ _::r=>q06 r
@[reducible] def D7:List LI->Type
 | []=>Unit
 | .tmp _ t::r=>t.den×D7 r
 | .own _ _::r=>D7 r
 | .arr _ _ t _::r=>List t.den×D7 r
 | .arrS _ _ t::r=>List t.den×D7 r
 | .cel _ cs::r=>q06 cs×D7 r
 | .rng _ _::r=>D7 r
 | .ptr _ _::r=>D7 r
 | .celN _ cs _::r=>q06 cs×D7 r
 | .mapS _ _ _ tk tv::r=>List (tk.den×tv.den)×D7 r
 | .mpt _ _::r=>D7 r
 | .mapN _ _ _ tk tv _::r=>List (tk.den×tv.den)×D7 r
 | .nlp _::r=>D7 r
 | .nlm _::r=>D7 r
 | .subS _ _::r=>Nat×Nat×D7 r
 | .itr _ _ _ tk tv::r=>List (tk.den×tv.den)×Option (tk.den×tv.den)×D7 r
 | .treeS _ _ k::r=>List k.den×D7 r
 | .treeN _ _ k _::r=>List k.den×D7 r
 | .tsl _ _::r=>D7 r
def I6:(cs:List CI)->q06 cs->List SV
 | [],_=>[]
 | .v t::r,y=>.sc t y.1::I6 r y.2
 | .o id::r,y=>.own id::I6 r y
 | .m id::r,y=>.mp id::I6 r y
 | .t id::r,y=>.ts id []::I6 r y
 | .p id o::r,y=>.ptr id o::I6 r y
def F7:(l:List LI)->D7 l->Env->Env
 | [],_,ρ=>ρ
 | .tmp s t::r,y,ρ=>upd (F7 r y.2 ρ) s (.one (.sc t y.1))
 | .own s id::r,y,ρ=>upd (F7 r y ρ) s (.one (.own id))
 | .arr _ _ _ _::r,y,ρ=>F7 r y.2 ρ
 | .arrS _ _ _::r,y,ρ=>F7 r y.2 ρ
 | .cel _ _::r,y,ρ=>F7 r y.2 ρ
 | .rng _ _::r,y,ρ=>F7 r y ρ
 | .ptr s id::r,y,ρ=>upd (F7 r y ρ) s (.one (.ptr id 0))
 | .celN _ _ _::r,y,ρ=>F7 r y.2 ρ
 | .mapS _ _ _ _ _::r,y,ρ=>F7 r y.2 ρ
 | .mpt s id::r,y,ρ=>upd (F7 r y ρ) s (.one (.mp id))
 | .mapN _ _ _ _ _ _::r,y,ρ=>F7 r y.2 ρ
 | .nlp s::r,y,ρ=>upd (F7 r y ρ) s (.one .nilp)
 | .nlm s::r,y,ρ=>upd (F7 r y ρ) s (.one .mpn)
 | .subS s id::r,y,ρ=>upd (F7 r y.2.2 ρ) s (.one (.sub id y.1 y.2.1))
 | .itr _ _ _ _ _::r,y,ρ=>F7 r y.2.2 ρ
 | .treeS _ _ _::r,y,ρ=>F7 r y.2 ρ
 | .treeN _ _ _ _::r,y,ρ=>F7 r y.2 ρ
 | .tsl s id::r,y,ρ=>upd (F7 r y ρ) s (.one (.ts id []))
def D8:(l:List LI)->D7 l->Heap->Heap
 | [],_,h=>h
 | .tmp _ _::r,y,h=>D8 r y.2 h
 | .own _ _::r,y,h=>D8 r y h
 | .arr id e t _::r,y,h=>upd (D8 r y.2 h) id (.arr e t y.1)
 | .arrS id e t::r,y,h=>upd (D8 r y.2 h) id (.arr e t y.1)
 | .cel id cs::r,y,h=>upd (D8 r y.2 h) id (.cells (I6 cs y.1))
 | .rng id s::r,y,h=>upd (D8 r y h) id (y5k (h id) s)
 | .ptr _ _::r,y,h=>D8 r y h
 | .celN id cs _::r,y,h=>upd (D8 r y.2 h) id (.cells (I6 cs y.1))
 | .mapS id ak av tk tv::r,y,h=>upd (D8 r y.2 h) id (.mapo ak av tk tv y.1)
 | .mpt _ _::r,y,h=>D8 r y h
 | .mapN id ak av tk tv _::r,y,h=>upd (D8 r y.2 h) id (.mapo ak av tk tv y.1)
 | .nlp _::r,y,h=>D8 r y h
 | .nlm _::r,y,h=>D8 r y h
 | .subS _ _::r,y,h=>D8 r y.2.2 h
 | .itr id ak av tk tv::r,y,h=>upd (D8 r y.2.2 h) id (.iter ak av tk tv y.1 y.2.1)
 | .treeS id e k::r,y,h=>upd (D8 r y.2 h) id (.tree e k y.1 [])
 | .treeN id e k _::r,y,h=>upd (D8 r y.2 h) id (.tree e k y.1 [])
 | .tsl _ _::r,y,h=>D8 r y h
def C7 (st:St) (mt mo sr:List Nat) (l:List LI) (y:D7 l):St :=
 { ρ:=F7 l y (λt=>cond (E2 mt t) (.one .unk) (st.ρ t)),h:=D8 l y (λid=>cond (E2 mo id) .fresh (cond (E2 sr id) .dead (st.h id))),lt:=st.lt,lo:=st.lo,n:=st.n }
def T6 (st:St) (mt ob:List Nat):St:={ st with lt:=λt=>st.lt t||!E2 mt t,lo:=λid=>st.lo id||(!E2 ob id&&!Nat.beq id D1) }
def y3x (ρ:Env) (h:Heap):Src->Option SV
 | .t s=>match ρ s with
  | .one v=>some v
  | _=>none
 | .c id i=>match h id with
  | .cells l=>l[i]?
  | _=>none
abbrev Mv:=List (Nat×Option Nat×Bool)
def X9 (ρ:Env) (h:Heap):List LI->Option Mv
 | []=>some []
 | .arr id _ _ src::r=>(match y3x ρ h src,X9 ρ h r with
  | some (.own j),some m=>some ((id,some j,false)::m)
  | some .nils,some m=>some ((id,none,false)::m)
  | _,_=>none)
 | .treeN id _ _ src::r=>(match y3x ρ h src,X9 ρ h r with
  | some (.ts j []),some m=>some ((id,some j,true)::m)
  | some .nils,some m=>some ((id,none,true)::m)
  | _,_=>none)
 | .celN id _ slot::r=>(match ρ slot,X9 ρ h r with
  | .one (.ptr j _),some m=>some ((id,some j,false)::m)
  | _,_=>none)
 | .mapN id _ _ _ _ slot::r=>(match ρ slot,X9 ρ h r with
  | .one (.mp j),some m=>some ((id,some j,false)::m)
  | _,_=>none)
 | _::r=>X9 ρ h r
def C8 (id:Nat):Mv->Option (Option Nat)
 | []=>none
 | (i,j,_)::r=>cond (Nat.beq i id) (some j) (C8 id r)
def W0 (id:Nat):Mv->Bool
 | []=>false
 | (i,_,b)::r=>cond (Nat.beq i id) b (W0 id r)
def q00 (m:Mv):List Nat:=m.filterMap (·.2.1)
def q1w (m:Mv) (gone:List Nat) (h:Heap) (id:Nat):Bool:=match h id with
 | .ice _ _ _=>true
 | .arr _ _ _=>E2 gone id&&!E2 (q00 m) id
 | .mice ..=>true
 | .mapo ..=>E2 gone id&&!E2 (q00 m) id
 | _=>false
def T1 (m:Mv) (gone:List Nat) (h:Heap):(t:Ty)->SV->Option t.den
 | t,.sc t' x=>cond (Nat.beq t.size 1) (H0 t' t x) none
 | .list _,.nils=>some []
 | .list e,.own id=>cond (q1w m gone h id) (C2 h e (.own id)) none
 | .list e,.sub id a b=>cond (q1w m gone h id) (C2 h e (.sub id a b)) none
 | .map ak av k v,.mp id=>cond (q1w m gone h id) (S3 h ak av k v (.mp id)) none
 | _,_=>none
def z89 (m:Mv) (gone:List Nat) (id:Nat) (s:SV):Bool :=
 match C8 id m,s with
 | some (some j),.own i=>Nat.beq i j
 | some none,.nils=>!W0 id m
 | none,.own i=>Nat.beq i id&&!E2 gone id
 | _,_=>false
def z8a (m:Mv) (gone:List Nat) (id:Nat) (s:SV):Bool :=
 match C8 id m,s with
 | some (some j),.ts i []=>Nat.beq i j
 | some none,.nils=>W0 id m
 | none,.ts i []=>Nat.beq i id&&!E2 gone id
 | _,_=>false
def y52 (m:Mv) (gone:List Nat) (id:Nat) (s:SV):Bool :=
 match C8 id m,s with
 | none,.mp i=>Nat.beq i id&&!E2 gone id
 | _,_=>false
def y53 (m:Mv) (gone:List Nat) (id off:Nat) (s:SV):Bool :=
 match C8 id m,s with
 | none,.ptr i o=>Nat.beq i id&&Nat.beq o off&&!E2 gone id
 | _,_=>false
section
variable {R:Type}
def exC (m:Mv) (gone:List Nat) (h:Heap):(cs:List CI)->List SV->(q06 cs->Option R)->Option R
 | [],[],K=>K ()
 | .v t::r,s::l,K=>(match T1 m gone h t s with
  | some x=>exC m gone h r l λy=>K (x,y)
  | none=>none)
 | .o id::r,s::l,K=>cond (z89 m gone id s) (exC m gone h r l K) none
 | .m id::r,s::l,K=>cond (y52 m gone id s) (exC m gone h r l K) none
 | .t id::r,s::l,K=>cond (z8a m gone id s) (exC m gone h r l K) none
 | .p id o::r,s::l,K=>cond (y53 m gone id o s) (exC m gone h r l K) none
 | _,_,_=>none
def z5o (h:Heap) (id:Nat) (ak av:Bool) (tk tv:Ty) (K:List (tk.den×tv.den)->Option R):Option R:=match h id with
 | .mapo ak' av' tk' tv' l=>(match H0 (.list (.cons tk' tv')) (.list (.cons tk tv)) l with
  | some l'=>cond (ak==ak'&&av==av') (K l') none
  | none=>none)
 | _=>none
def j2r (h:Heap) (id:Nat) (ak av:Bool) (tk tv:Ty) (K:List (tk.den×tv.den)->Option (tk.den×tv.den)->Option R):Option R:=match h id with
 | .iter ak' av' tk' tv' l c=>(match H0 (.list (.cons tk' tv')) (.list (.cons tk tv)) l,H0 (.list (.cons tk' tv')) (.list (.cons tk tv)) c.toList with
  | some l',some c'=>cond (ak==ak'&&av==av') (K l' c'.head?) none
  | _,_=>none)
 | _=>none
def z9b (h:Heap) (id:Nat) (e:TypeId) (k:OT) (K:List k.den->Option R):Option R:=match h id with
 | .tree e' k' l []=>(q5y k k' l).bind λl'=>cond (Nat.beq e e') (K l') none
 | _=>none
def exI (m:Mv) (gone:List Nat) (ρ:Env) (h:Heap):(l:List LI)->(D7 l->Option R)->Option R
 | [],K=>K ()
 | .tmp s t::r,K=>(match ρ s with
  | .one v=>(match T1 m gone h t v with
   | some x=>exI m gone ρ h r λy=>K (x,y)
   | none=>none)
  | _=>none)
 | .own s id::r,K=>(match ρ s with
  | .one v=>cond (z89 m gone id v) (exI m gone ρ h r K) none
  | _=>none)
 | .arr id e t _::r,K=>(match C8 id m with
  | some (some j)=>(match h j with
   | .arr e' t' x=>(match H0 (.list t') (.list t) x with
    | some x'=>cond (Nat.beq e e') (exI m gone ρ h r λy=>K (x',y)) none
    | none=>none)
   | _=>none)
  | some none=>cond (W0 id m) none (exI m gone ρ h r λy=>K ([],y))
  | none=>none)
 | .arrS id e t::r,K=>(match h id with
  | .arr e' t' x=>(match H0 (.list t') (.list t) x with
   | some x'=>cond (Nat.beq e e') (exI m gone ρ h r λy=>K (x',y)) none
   | none=>none)
  | _=>none)
 | .cel id cs::r,K=>(match h id with
  | .cells l=>exC m gone h cs l λx=>exI m gone ρ h r λy=>K (x,y)
  | _=>none)
 | .rng id s::r,K=>(match h id with
  | .lrec _ s'=>cond (RS.beq s' s) (exI m gone ρ h r K) none
  | _=>none)
 | .ptr s id::r,K=>(match ρ s,C8 id m with
  | .one (.ptr j o),some (some j')=>cond (Nat.beq o 0&&Nat.beq j j') (exI m gone ρ h r K) none
  | _,_=>none)
 | .celN id cs _::r,K=>(match C8 id m with
  | some (some j)=>(match h j with
   | .cells l=>exC m gone h cs l λx=>exI m gone ρ h r λy=>K (x,y)
   | _=>none)
  | _=>none)
 | .mapS id ak av tk tv::r,K=>z5o h id ak av tk tv λx=>exI m gone ρ h r λy=>K (x,y)
 | .mpt s id::r,K=>(match ρ s,C8 id m with
  | .one (.mp j),some (some j')=>cond (Nat.beq j j') (exI m gone ρ h r K) none
  | _,_=>none)
 | .mapN id ak av tk tv _::r,K=>(match C8 id m with
  | some (some j)=>z5o h j ak av tk tv λx=>exI m gone ρ h r λy=>K (x,y)
  | _=>none)
 | .nlp s::r,K=>(match ρ s with
  | .one .nilp=>exI m gone ρ h r K
  | _=>none)
 | .nlm s::r,K=>(match ρ s with
  | .one .mpn=>exI m gone ρ h r K
  | _=>none)
 | .subS s id::r,K=>(match ρ s,C8 id m with
  | .one (.sub i a b),none=>cond (Nat.beq i id&&!E2 gone id) (exI m gone ρ h r λy=>K (a,b,y)) none
  | _,_=>none)
 | .itr id ak av tk tv::r,K=>j2r h id ak av tk tv λx c=>exI m gone ρ h r λy=>K (x,c,y)
 | .treeS id e k::r,K=>z9b h id e k λx=>exI m gone ρ h r λy=>K (x,y)
 | .treeN id e k _::r,K=>(match C8 id m with
  | some (some j)=>z9b h j e k λx=>exI m gone ρ h r λy=>K (x,y)
  | some none=>cond (W0 id m) (exI m gone ρ h r λy=>K ([],y)) none
  | none=>none)
 | .tsl s id::r,K=>(match ρ s with
  | .one v=>cond (z8a m gone id v) (exI m gone ρ h r K) none
  | _=>none)
end
def q1h:List Nat->Bool
 | []=>true
 | x::r=>!E2 r x&&q1h r
def F8:List LI->List Nat
 | []=>[]
 | .arr id _ _ _::r=>id::F8 r
 | .celN id _ _::r=>id::F8 r
 | .treeN id _ _ _::r=>id::F8 r
 | .mapN id _ _ _ _ _::r=>id::F8 r
 | _::r=>F8 r
def E9:List LI->List Nat
 | []=>[]
 | .arrS id _ _::r=>id::E9 r
 | .cel id _::r=>id::E9 r
 | .rng id _::r=>id::E9 r
 | .mapS id _ _ _ _::r=>id::E9 r
 | .itr id _ _ _ _::r=>id::E9 r
 | .treeS id _ _::r=>id::E9 r
 | _::r=>E9 r
def E3:List LI->List Nat
 | []=>[]
 | .tmp s _::r=>s::E3 r
 | .own s _::r=>s::E3 r
 | .ptr s _::r=>s::E3 r
 | .mpt s _::r=>s::E3 r
 | .nlp s::r=>s::E3 r
 | .nlm s::r=>s::E3 r
 | .subS s _::r=>s::E3 r
 | .tsl s _::r=>s::E3 r
 | _::r=>E3 r
def q7n (a b:List Nat):Bool:=a.all (E2 b)
def v7x:AObj->Bool
 | .kid=>false
 | _=>true
def wfI (mt mo sr stat:List Nat) (l:List LI):Bool :=
 q7n (F8 l) mo&&q7n (E3 l) mt&&q7n stat (E9 l)&&q7n (E9 l) stat&&q1h (F8 l)&&q1h (E9 l)&&q1h (E3 l)&&!L5 stat (mo++sr)
def q68 {R:Type} (st:St) (mt mo sr stat:List Nat) (l:List LI) (K:D7 l->Option R):Option R :=
 match X9 st.ρ st.h l with
 | some m=>cond (wfI mt mo sr stat l&&q1h (q00 m)&&q7n (q00 m) (mo++sr)&&sr.all λid=>v7x (st.h id)) (exI m (mo++sr) st.ρ st.h l K) none
 | none=>none
def j0n:List LI->List Nat
 | []=>[]
 | .treeS id _ _::r=>id::j0n r
 | _::r=>j0n r
def j0h {R:Type} (h:Heap) (id:Nat) (K:List (Nat×AObj)->Option R):Option R:=match h id with
 | .tree e k l (q::f)=>L4 h k l (q::f) λl1 u=>K (u++[(id,.tree e k l1 [])])
 | _=>K []
def j0f {R:Type} (K:List (Nat×AObj)->Heap->Option R):List Nat->List (Nat×AObj)->Heap->Option R
 | [],u,h=>K u h
 | id::r,u,h=>j0h h id λv=>j0f K r (u++v) (A3 v h)
def y2g:AObj->Bool
 | .iter ..=>false
 | _=>true
def j2p:AObj->Bool
 | .fresh=>true
 | _=>false
theorem y0u {o:AObj} (h:j2p o=true):o=.fresh:=by cases o<;>first | rfl | cases h
def N3 {R:Type} (st:St) (mt mo sr stat:List Nat) (l:List LI) (K:D7 l->Option R):Option R :=
 j0f (λv h1=>cond ((v.all λp=>E2 (mo++(sr++stat)) p.1&&y2g (st.h p.1))&&j2p (st.h D1)) (q68 { st with h:=h1 } mt mo sr stat l K) none) (j0n l) [] st.h
end Go.Abs
