/- The engine, part 15: states of a fixed form, at the heads and ends of loops. -/
import Derived.Test.YteeaadgpkammdaaGreatDoorAbsDraw
namespace Go.Abs
open Go Go.RowKit
variable {P:Program} {L:Nat->Prop} {w0:World}
inductive CI where
 | v (t:Ty)
 | o (id:Nat)
inductive Src where
 | t (slot:Nat)
 | c (id i:Nat)
def j8k (o:AObj) (s:RS):AObj:=match o with
 | .lrec i _=>.lrec i s
 | _=>.dead
def XK.beq:XK->XK->Bool
 | .nrm,.nrm=>true
 | .ex i,.ex j=>Nat.beq i j
 | .ret,.ret=>true
 | _,_=>false
def RS.beq:RS->RS->Bool
 | .ready,.ready=>true
 | .busy,.busy=>true
 | .left x,.left y=>XK.beq x y
 | .over x,.over y=>XK.beq x y
 | _,_=>false
inductive LI where
 | tmp (slot:Nat) (t:Ty)
 | own (slot id:Nat)
 | arr (id:Nat) (e:TypeId) (t:Ty) (src:Src)
 | arrS (id:Nat) (e:TypeId) (t:Ty)
 | cel (id:Nat) (cs:List CI)
 | rng (id:Nat) (s:RS)
 | ptr (slot id:Nat)
 | celN (id:Nat) (cs:List CI) (slot:Nat)
 | mapS (id:Nat) (ak av:Bool) (tk tv:Ty)
 | mpt (slot id:Nat)
 | mapN (id:Nat) (ak av:Bool) (tk tv:Ty) (slot:Nat)
 | nlp (slot:Nat)
 | nlm (slot:Nat)
 | subS (slot id:Nat)
 | itr (id:Nat) (ak av:Bool) (tk tv:Ty)
 | arrDS (id:Nat) (e:TypeId) (t:KTy)
 | mapDS (id:Nat) (ak:Bool) (tk:Ty) (t:KTy)
@[reducible] def q1t:List CI->Type
 | []=>Unit
 | .v t::r=>t.den×q1t r
 | .o _::r=>q1t r
@[reducible] def D3:List LI->Type
 | []=>Unit
 | .tmp _ t::r=>t.den×D3 r
 | .own _ _::r=>D3 r
 | .arr _ _ t _::r=>List t.den×D3 r
 | .arrS _ _ t::r=>List t.den×D3 r
 | .cel _ cs::r=>q1t cs×D3 r
 | .rng _ _::r=>D3 r
 | .ptr _ _::r=>D3 r
 | .celN _ cs _::r=>q1t cs×D3 r
 | .mapS _ _ _ tk tv::r=>List (tk.den×tv.den)×D3 r
 | .mpt _ _::r=>D3 r
 | .mapN _ _ _ tk tv _::r=>List (tk.den×tv.den)×D3 r
 | .nlp _::r=>D3 r
 | .nlm _::r=>D3 r
 | .subS _ _::r=>Nat×Nat×D3 r
 | .itr _ _ _ tk tv::r=>List (tk.den×tv.den)×Option (tk.den×tv.den)×D3 r
 | .arrDS _ _ t::r=>List t.den×D3 r
 | .mapDS _ _ tk t::r=>List (tk.den×t.den)×D3 r
def M4:(cs:List CI)->q1t cs->List SV
 | [],_=>[]
 | .v t::r,y=>.sc t y.1::M4 r y.2
 | .o id::r,y=>.own id::M4 r y
def F8:(l:List LI)->D3 l->Env->Env
 | [],_,ρ=>ρ
 | .tmp s t::r,y,ρ=>upd (F8 r y.2 ρ) s (.one (.sc t y.1))
 | .own s id::r,y,ρ=>upd (F8 r y ρ) s (.one (.own id))
 | .arr _ _ _ _::r,y,ρ=>F8 r y.2 ρ
 | .arrS _ _ _::r,y,ρ=>F8 r y.2 ρ
 | .cel _ _::r,y,ρ=>F8 r y.2 ρ
 | .rng _ _::r,y,ρ=>F8 r y ρ
 | .ptr s id::r,y,ρ=>upd (F8 r y ρ) s (.one (.ptr id 0))
 | .celN _ _ _::r,y,ρ=>F8 r y.2 ρ
 | .mapS _ _ _ _ _::r,y,ρ=>F8 r y.2 ρ
 | .mpt s id::r,y,ρ=>upd (F8 r y ρ) s (.one (.mp id))
 | .mapN _ _ _ _ _ _::r,y,ρ=>F8 r y.2 ρ
 | .nlp s::r,y,ρ=>upd (F8 r y ρ) s (.one .nilp)
 | .nlm s::r,y,ρ=>upd (F8 r y ρ) s (.one .mpn)
 | .subS s id::r,y,ρ=>upd (F8 r y.2.2 ρ) s (.one (.sub id y.1 y.2.1))
 | .itr _ _ _ _ _::r,y,ρ=>F8 r y.2.2 ρ
 | .arrDS _ _ _::r,y,ρ=>F8 r y.2 ρ
 | .mapDS _ _ _ _::r,y,ρ=>F8 r y.2 ρ
def C8:(l:List LI)->D3 l->Heap->Heap
 | [],_,h=>h
 | .tmp _ _::r,y,h=>C8 r y.2 h
 | .own _ _::r,y,h=>C8 r y h
 | .arr id e t _::r,y,h=>upd (C8 r y.2 h) id (.arr e t y.1)
 | .arrS id e t::r,y,h=>upd (C8 r y.2 h) id (.arr e t y.1)
 | .cel id cs::r,y,h=>upd (C8 r y.2 h) id (.cells (M4 cs y.1))
 | .rng id s::r,y,h=>upd (C8 r y h) id (j8k (h id) s)
 | .ptr _ _::r,y,h=>C8 r y h
 | .celN id cs _::r,y,h=>upd (C8 r y.2 h) id (.cells (M4 cs y.1))
 | .mapS id ak av tk tv::r,y,h=>upd (C8 r y.2 h) id (.mapo ak av tk tv y.1)
 | .mpt _ _::r,y,h=>C8 r y h
 | .mapN id ak av tk tv _::r,y,h=>upd (C8 r y.2 h) id (.mapo ak av tk tv y.1)
 | .nlp _::r,y,h=>C8 r y h
 | .nlm _::r,y,h=>C8 r y h
 | .subS _ _::r,y,h=>C8 r y.2.2 h
 | .itr id ak av tk tv::r,y,h=>upd (C8 r y.2.2 h) id (.iter ak av tk tv y.1 y.2.1)
 | .arrDS id e t::r,y,h=>upd (C8 r y.2 h) id (.arrD e t y.1 none)
 | .mapDS id ak tk t::r,y,h=>upd (C8 r y.2 h) id (.mapD ak tk t y.1 none)
def C3 (st:St) (mt mo sr:List Nat) (l:List LI) (y:D3 l):St :=
 { ρ:=F8 l y (fun t=>cond (D9 mt t) (.one .unk) (st.ρ t)),h:=C8 l y (fun id=>cond (D9 mo id) .fresh (cond (D9 sr id) .dead (st.h id))),lt:=st.lt,lo:=st.lo,n:=st.n }
def Q7 (st:St) (mt ob:List Nat):St:={ st with lt:=fun t=>st.lt t||!D9 mt t,lo:=fun id=>st.lo id||!D9 ob id }
def v0m (ρ:Env) (h:Heap):Src->Option SV
 | .t s=>match ρ s with
  | .one v=>some v
  | _=>none
 | .c id i=>match h id with
  | .cells l=>l[i]?
  | _=>none
def X4 (ρ:Env) (h:Heap):List LI->Option (List (Nat×Option Nat))
 | []=>some []
 | .arr id _ _ src::r=>(match v0m ρ h src,X4 ρ h r with
  | some (.own j),some m=>some ((id,some j)::m)
  | some .nils,some m=>some ((id,none)::m)
  | _,_=>none)
 | .celN id _ slot::r=>(match ρ slot,X4 ρ h r with
  | .one (.ptr j _),some m=>some ((id,some j)::m)
  | _,_=>none)
 | .mapN id _ _ _ _ slot::r=>(match ρ slot,X4 ρ h r with
  | .one (.mp j),some m=>some ((id,some j)::m)
  | _,_=>none)
 | _::r=>X4 ρ h r
def D4 (id:Nat):List (Nat×Option Nat)->Option (Option Nat)
 | []=>none
 | (i,j)::r=>cond (Nat.beq i id) (some j) (D4 id r)
def V4 (m:List (Nat×Option Nat)):List Nat:=m.filterMap (·.2)
def q1i (m:List (Nat×Option Nat)) (gone:List Nat) (h:Heap) (id:Nat):Bool:=match h id with
 | .ice _ _ _=>true
 | .arr _ _ _=>D9 gone id&&!D9 (V4 m) id
 | .mice ..=>true
 | .mapo ..=>D9 gone id&&!D9 (V4 m) id
 | _=>false
def P9 (m:List (Nat×Option Nat)) (gone:List Nat) (h:Heap):(t:Ty)->SV->Option t.den
 | t,.sc t' x=>cond (Nat.beq t.size 1) (G2 t' t x) none
 | .list _,.nils=>some []
 | .list e,.own id=>cond (q1i m gone h id) (B8 h e (.own id)) none
 | .list e,.sub id a b=>cond (q1i m gone h id) (B8 h e (.sub id a b)) none
 | .map ak av k v,.mp id=>cond (q1i m gone h id) (M7 h ak av k v (.mp id)) none
 | _,_=>none
def z4h (m:List (Nat×Option Nat)) (gone:List Nat) (id:Nat) (s:SV):Bool :=
 match D4 id m,s with
 | some (some j),.own i=>Nat.beq i j
 | some none,.nils=>true
 | none,.own i=>Nat.beq i id&&!D9 gone id
 | _,_=>false
section
variable {R:Type}
def exC (m:List (Nat×Option Nat)) (gone:List Nat) (h:Heap):(cs:List CI)->List SV->(q1t cs->Option R)->Option R
 | [],[],K=>K ()
 | .v t::r,s::l,K=>(match P9 m gone h t s with
  | some x=>exC m gone h r l fun y=>K (x,y)
  | none=>none)
 | .o id::r,s::l,K=>cond (z4h m gone id s) (exC m gone h r l K) none
 | _,_,_=>none
def z1u (h:Heap) (id:Nat) (ak av:Bool) (tk tv:Ty) (K:List (tk.den×tv.den)->Option R):Option R:=match h id with
 | .mapo ak' av' tk' tv' l=>(match G2 (.list (.cons tk' tv')) (.list (.cons tk tv)) l with
  | some l'=>cond (ak==ak'&&av==av') (K l') none
  | none=>none)
 | _=>none
def z8x (h:Heap) (id:Nat) (ak av:Bool) (tk tv:Ty) (K:List (tk.den×tv.den)->Option (tk.den×tv.den)->Option R):Option R:=match h id with
 | .iter ak' av' tk' tv' l c=>(match G2 (.list (.cons tk' tv')) (.list (.cons tk tv)) l,G2 (.list (.cons tk' tv')) (.list (.cons tk tv)) c.toList with
  | some l',some c'=>cond (ak==ak'&&av==av') (K l' c'.head?) none
  | _,_=>none)
 | _=>none
def z65 (h:Heap) (id:Nat) (e:TypeId) (t:KTy) (K:List t.den->Option R):Option R:=match h id with
 | .arrD e' t' l none=>(match decEq t' t with
  | .isTrue h1=>cond (Nat.beq e e') (K (h1▸l)) none
  | .isFalse _=>none)
 | _=>none
def z97 (h:Heap) (id:Nat) (ak:Bool) (tk:Ty) (t:KTy) (K:List (tk.den×t.den)->Option R):Option R:=match h id with
 | .mapD ak' tk' t' l none=>(match decEq tk' tk,decEq t' t with
  | .isTrue h1,.isTrue h2=>cond (ak==ak') (K (h1▸h2▸l)) none
  | _,_=>none)
 | _=>none
def exI (m:List (Nat×Option Nat)) (gone:List Nat) (ρ:Env) (h:Heap):(l:List LI)->(D3 l->Option R)->Option R
 | [],K=>K ()
 | .tmp s t::r,K=>(match ρ s with
  | .one v=>(match P9 m gone h t v with
   | some x=>exI m gone ρ h r fun y=>K (x,y)
   | none=>none)
  | _=>none)
 | .own s id::r,K=>(match ρ s with
  | .one v=>cond (z4h m gone id v) (exI m gone ρ h r K) none
  | _=>none)
 | .arr id e t _::r,K=>(match D4 id m with
  | some (some j)=>(match h j with
   | .arr e' t' x=>(match G2 (.list t') (.list t) x with
    | some x'=>cond (Nat.beq e e') (exI m gone ρ h r fun y=>K (x',y)) none
    | none=>none)
   | _=>none)
  | some none=>exI m gone ρ h r fun y=>K ([],y)
  | none=>none)
 | .arrS id e t::r,K=>(match h id with
  | .arr e' t' x=>(match G2 (.list t') (.list t) x with
   | some x'=>cond (Nat.beq e e') (exI m gone ρ h r fun y=>K (x',y)) none
   | none=>none)
  | _=>none)
 | .cel id cs::r,K=>(match h id with
  | .cells l=>exC m gone h cs l fun x=>exI m gone ρ h r fun y=>K (x,y)
  | _=>none)
 | .rng id s::r,K=>(match h id with
  | .lrec _ s'=>cond (RS.beq s' s) (exI m gone ρ h r K) none
  | _=>none)
 | .ptr s id::r,K=>(match ρ s,D4 id m with
  | .one (.ptr j o),some (some j')=>cond (Nat.beq o 0&&Nat.beq j j') (exI m gone ρ h r K) none
  | _,_=>none)
 | .celN id cs _::r,K=>(match D4 id m with
  | some (some j)=>(match h j with
   | .cells l=>exC m gone h cs l fun x=>exI m gone ρ h r fun y=>K (x,y)
   | _=>none)
  | _=>none)
 | .mapS id ak av tk tv::r,K=>z1u h id ak av tk tv fun x=>exI m gone ρ h r fun y=>K (x,y)
 | .mpt s id::r,K=>(match ρ s,D4 id m with
  | .one (.mp j),some (some j')=>cond (Nat.beq j j') (exI m gone ρ h r K) none
  | _,_=>none)
 | .mapN id ak av tk tv _::r,K=>(match D4 id m with
  | some (some j)=>z1u h j ak av tk tv fun x=>exI m gone ρ h r fun y=>K (x,y)
  | _=>none)
 | .nlp s::r,K=>(match ρ s with
  | .one .nilp=>exI m gone ρ h r K
  | _=>none)
 | .nlm s::r,K=>(match ρ s with
  | .one .mpn=>exI m gone ρ h r K
  | _=>none)
 | .subS s id::r,K=>(match ρ s,D4 id m with
  | .one (.sub i a b),none=>cond (Nat.beq i id&&!D9 gone id) (exI m gone ρ h r fun y=>K (a,b,y)) none
  | _,_=>none)
 | .itr id ak av tk tv::r,K=>z8x h id ak av tk tv fun x c=>exI m gone ρ h r fun y=>K (x,c,y)
 | .arrDS id e t::r,K=>z65 h id e t fun x=>exI m gone ρ h r fun y=>K (x,y)
 | .mapDS id ak tk t::r,K=>z97 h id ak tk t fun x=>exI m gone ρ h r fun y=>K (x,y)
end
def q0d:List Nat->Bool
 | []=>true
 | x::r=>!D9 r x&&q0d r
def G6:List LI->List Nat
 | []=>[]
 | .arr id _ _ _::r=>id::G6 r
 | .celN id _ _::r=>id::G6 r
 | .mapN id _ _ _ _ _::r=>id::G6 r
 | _::r=>G6 r
def D7:List LI->List Nat
 | []=>[]
 | .arrS id _ _::r=>id::D7 r
 | .cel id _::r=>id::D7 r
 | .rng id _::r=>id::D7 r
 | .mapS id _ _ _ _::r=>id::D7 r
 | .itr id _ _ _ _::r=>id::D7 r
 | .arrDS id _ _::r=>id::D7 r
 | .mapDS id _ _ _::r=>id::D7 r
 | _::r=>D7 r
def E6:List LI->List Nat
 | []=>[]
 | .tmp s _::r=>s::E6 r
 | .own s _::r=>s::E6 r
 | .ptr s _::r=>s::E6 r
 | .mpt s _::r=>s::E6 r
 | .nlp s::r=>s::E6 r
 | .nlm s::r=>s::E6 r
 | .subS s _::r=>s::E6 r
 | _::r=>E6 r
def q5o (a b:List Nat):Bool:=a.all (D9 b)
def y8x:AObj->Bool
 | .kid=>false
 | _=>true
def wfI (mt mo sr stat:List Nat) (l:List LI):Bool :=
 q5o (G6 l) mo&&q5o (E6 l) mt&&q5o stat (D7 l)&&q5o (D7 l) stat&&q0d (G6 l)&&q0d (D7 l)&&q0d (E6 l)&&!J6 stat (mo++sr)
def q4d {R:Type} (st:St) (mt mo sr stat:List Nat) (l:List LI) (K:D3 l->Option R):Option R :=
 match X4 st.ρ st.h l with
 | some m=>cond (wfI mt mo sr stat l&&q0d (V4 m)&&q5o (V4 m) (mo++sr)&&sr.all fun id=>y8x (st.h id)) (exI m (mo++sr) st.ρ st.h l K) none
 | none=>none
def z09:List LI->List Nat
 | []=>[]
 | .arrDS id _ _::r=>id::z09 r
 | .mapDS id _ _ _::r=>id::z09 r
 | _::r=>z09 r
def z6m {R:Type} (h:Heap) (id:Nat) (K:List (Nat×AObj)->Option R):Option R:=match h id with
 | .arrD e t l (some f)=>(match W4 h t l (some f)with
  | some (l1,u)=>K (u++[(id,.arrD e t l1 none)])
  | none=>none)
 | .mapD ak tk t l (some f)=>(match T8 h tk t l (some f)with
  | some (l1,u)=>K (u++[(id,.mapD ak tk t l1 none)])
  | none=>none)
 | _=>K []
def z6l {R:Type} (K:List (Nat×AObj)->Heap->Option R):List Nat->List (Nat×AObj)->Heap->Option R
 | [],u,h=>K u h
 | id::r,u,h=>z6m h id fun v=>z6l K r (u++v) (A5 v h)
def j6j:AObj->Bool
 | .iter ..=>false
 | _=>true
def L4 {R:Type} (st:St) (mt mo sr stat:List Nat) (l:List LI) (K:D3 l->Option R):Option R :=
 z6l (fun v h1=>cond (v.all fun p=>D9 (mo++(sr++stat)) p.1&&j6j (st.h p.1)) (q4d { st with h:=h1 } mt mo sr stat l K) none) (z09 l) [] st.h
end Go.Abs
