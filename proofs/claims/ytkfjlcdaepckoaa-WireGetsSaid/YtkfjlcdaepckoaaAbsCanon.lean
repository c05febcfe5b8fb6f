/- The engine, part 15: states of a fixed form, at the heads and ends of loops. -/
import Derived.Test.YtkfjlcdaepckoaaAbsDraw
namespace Go.Abs
open Go Go.RowKit
variable {P:Program} {L:Nat->Prop} {w0:World}
inductive CI where
 | v (t:Ty)
 | o (id:Nat)
 | m (id:Nat)
inductive Src where
 | t (slot:Nat)
 | c (id i:Nat)
def j10 (o:AObj) (s:RS):AObj:=match o with
 | .lrec i _=>.lrec i s
 | _=>.dead
def XK.beq:XK->XK->Bool
 | .nrm,.nrm=>true
 | .ex i,.ex j=>Nat.beq i j
 | .ret,.ret=>true
 | .pan i,.pan j=>Nat.beq i j
 | _,_=>false
def RS.beq:RS->RS->Bool
 | .ready,.ready=>true
 | .busy,.busy=>true
 | .left x,.left y=>XK.beq x y
 | .over x,.over y=>XK.beq x y
 | _,_=>false
inductive LI where
 | tmp (slot:Nat) (t:Ty)
 | own (slot id:Nat)
 | arr (id:Nat) (e:TypeId) (t:Ty) (src:Src)
 | arrS (id:Nat) (e:TypeId) (t:Ty)
 | cel (id:Nat) (cs:List CI)
 | rng (id:Nat) (s:RS)
 | ptr (slot id:Nat)
 | celN (id:Nat) (cs:List CI) (slot:Nat)
 | mapS (id:Nat) (ak av:Bool) (tk tv:Ty)
 | mpt (slot id:Nat)
 | mapN (id:Nat) (ak av:Bool) (tk tv:Ty) (slot:Nat)
 | nlp (slot:Nat)
 | nlm (slot:Nat)
 | subS (slot id:Nat)
 | itr (id:Nat) (ak av:Bool) (tk tv:Ty)
 | arrDS (id:Nat) (e:TypeId) (t:KTy)
 | mapDS (id:Nat) (ak:Bool) (tk:Ty) (t:KTy)
@[reducible] def V9:List CI->Type
 | []=>Unit
 | .v t::r=>t.den×V9 r
 | .o _::r=>V9 r
 | .m _::r=>V9 r
@[reducible] def C7:List LI->Type
 | []=>Unit
 | .tmp _ t::r=>t.den×C7 r
 | .own _ _::r=>C7 r
 | .arr _ _ t _::r=>List t.den×C7 r
 | .arrS _ _ t::r=>List t.den×C7 r
 | .cel _ cs::r=>V9 cs×C7 r
 | .rng _ _::r=>C7 r
 | .ptr _ _::r=>C7 r
 | .celN _ cs _::r=>V9 cs×C7 r
 | .mapS _ _ _ tk tv::r=>List (tk.den×tv.den)×C7 r
 | .mpt _ _::r=>C7 r
 | .mapN _ _ _ tk tv _::r=>List (tk.den×tv.den)×C7 r
 | .nlp _::r=>C7 r
 | .nlm _::r=>C7 r
 | .subS _ _::r=>Nat×Nat×C7 r
 | .itr _ _ _ tk tv::r=>List (tk.den×tv.den)×Option (tk.den×tv.den)×C7 r
 | .arrDS _ _ t::r=>List t.den×C7 r
 | .mapDS _ _ tk t::r=>List (tk.den×t.den)×C7 r
def J4:(cs:List CI)->V9 cs->List SV
 | [],_=>[]
 | .v t::r,y=>.sc t y.1::J4 r y.2
 | .o id::r,y=>.own id::J4 r y
 | .m id::r,y=>.mp id::J4 r y
def F2:(l:List LI)->C7 l->Env->Env
 | [],_,ρ=>ρ
 | .tmp s t::r,y,ρ=>upd (F2 r y.2 ρ) s (.one (.sc t y.1))
 | .own s id::r,y,ρ=>upd (F2 r y ρ) s (.one (.own id))
 | .arr _ _ _ _::r,y,ρ=>F2 r y.2 ρ
 | .arrS _ _ _::r,y,ρ=>F2 r y.2 ρ
 | .cel _ _::r,y,ρ=>F2 r y.2 ρ
 | .rng _ _::r,y,ρ=>F2 r y ρ
 | .ptr s id::r,y,ρ=>upd (F2 r y ρ) s (.one (.ptr id 0))
 | .celN _ _ _::r,y,ρ=>F2 r y.2 ρ
 | .mapS _ _ _ _ _::r,y,ρ=>F2 r y.2 ρ
 | .mpt s id::r,y,ρ=>upd (F2 r y ρ) s (.one (.mp id))
 | .mapN _ _ _ _ _ _::r,y,ρ=>F2 r y.2 ρ
 | .nlp s::r,y,ρ=>upd (F2 r y ρ) s (.one .nilp)
 | .nlm s::r,y,ρ=>upd (F2 r y ρ) s (.one .mpn)
 | .subS s id::r,y,ρ=>upd (F2 r y.2.2 ρ) s (.one (.sub id y.1 y.2.1))
 | .itr _ _ _ _ _::r,y,ρ=>F2 r y.2.2 ρ
 | .arrDS _ _ _::r,y,ρ=>F2 r y.2 ρ
 | .mapDS _ _ _ _::r,y,ρ=>F2 r y.2 ρ
def C2:(l:List LI)->C7 l->Heap->Heap
 | [],_,h=>h
 | .tmp _ _::r,y,h=>C2 r y.2 h
 | .own _ _::r,y,h=>C2 r y h
 | .arr id e t _::r,y,h=>upd (C2 r y.2 h) id (.arr e t y.1)
 | .arrS id e t::r,y,h=>upd (C2 r y.2 h) id (.arr e t y.1)
 | .cel id cs::r,y,h=>upd (C2 r y.2 h) id (.cells (J4 cs y.1))
 | .rng id s::r,y,h=>upd (C2 r y h) id (j10 (h id) s)
 | .ptr _ _::r,y,h=>C2 r y h
 | .celN id cs _::r,y,h=>upd (C2 r y.2 h) id (.cells (J4 cs y.1))
 | .mapS id ak av tk tv::r,y,h=>upd (C2 r y.2 h) id (.mapo ak av tk tv y.1)
 | .mpt _ _::r,y,h=>C2 r y h
 | .mapN id ak av tk tv _::r,y,h=>upd (C2 r y.2 h) id (.mapo ak av tk tv y.1)
 | .nlp _::r,y,h=>C2 r y h
 | .nlm _::r,y,h=>C2 r y h
 | .subS _ _::r,y,h=>C2 r y.2.2 h
 | .itr id ak av tk tv::r,y,h=>upd (C2 r y.2.2 h) id (.iter ak av tk tv y.1 y.2.1)
 | .arrDS id e t::r,y,h=>upd (C2 r y.2 h) id (.arrD e t y.1 none)
 | .mapDS id ak tk t::r,y,h=>upd (C2 r y.2 h) id (.mapD ak tk t y.1 none)
def B9 (st:St) (mt mo sr:List Nat) (l:List LI) (y:C7 l):St :=
 { ρ:=F2 l y (fun t=>cond (D6 mt t) (.one .unk) (st.ρ t)),h:=C2 l y (fun id=>cond (D6 mo id) .fresh (cond (D6 sr id) .dead (st.h id))),lt:=st.lt,lo:=st.lo,n:=st.n }
def O0 (st:St) (mt ob:List Nat):St:={ st with lt:=fun t=>st.lt t||!D6 mt t,lo:=fun id=>st.lo id||(!D6 ob id&&!Nat.beq id B6) }
def j9z (ρ:Env) (h:Heap):Src->Option SV
 | .t s=>match ρ s with
  | .one v=>some v
  | _=>none
 | .c id i=>match h id with
  | .cells l=>l[i]?
  | _=>none
def S8 (ρ:Env) (h:Heap):List LI->Option (List (Nat×Option Nat))
 | []=>some []
 | .arr id _ _ src::r=>(match j9z ρ h src,S8 ρ h r with
  | some (.own j),some m=>some ((id,some j)::m)
  | some .nils,some m=>some ((id,none)::m)
  | _,_=>none)
 | .celN id _ slot::r=>(match ρ slot,S8 ρ h r with
  | .one (.ptr j _),some m=>some ((id,some j)::m)
  | _,_=>none)
 | .mapN id _ _ _ _ slot::r=>(match ρ slot,S8 ρ h r with
  | .one (.mp j),some m=>some ((id,some j)::m)
  | _,_=>none)
 | _::r=>S8 ρ h r
def C9 (id:Nat):List (Nat×Option Nat)->Option (Option Nat)
 | []=>none
 | (i,j)::r=>cond (Nat.beq i id) (some j) (C9 id r)
def R1 (m:List (Nat×Option Nat)):List Nat:=m.filterMap (·.2)
def Y1 (m:List (Nat×Option Nat)) (gone:List Nat) (h:Heap) (id:Nat):Bool:=match h id with
 | .ice _ _ _=>true
 | .arr _ _ _=>D6 gone id&&!D6 (R1 m) id
 | .mice ..=>true
 | .mapo ..=>D6 gone id&&!D6 (R1 m) id
 | _=>false
def N3 (m:List (Nat×Option Nat)) (gone:List Nat) (h:Heap):(t:Ty)->SV->Option t.den
 | t,.sc t' x=>cond (Nat.beq t.size 1) (F8 t' t x) none
 | .list _,.nils=>some []
 | .list e,.own id=>cond (Y1 m gone h id) (B5 h e (.own id)) none
 | .list e,.sub id a b=>cond (Y1 m gone h id) (B5 h e (.sub id a b)) none
 | .map ak av k v,.mp id=>cond (Y1 m gone h id) (L5 h ak av k v (.mp id)) none
 | _,_=>none
def q84 (m:List (Nat×Option Nat)) (gone:List Nat) (id:Nat) (s:SV):Bool :=
 match C9 id m,s with
 | some (some j),.own i=>Nat.beq i j
 | some none,.nils=>true
 | none,.own i=>Nat.beq i id&&!D6 gone id
 | _,_=>false
def j0h (m:List (Nat×Option Nat)) (gone:List Nat) (id:Nat) (s:SV):Bool :=
 match C9 id m,s with
 | none,.mp i=>Nat.beq i id&&!D6 gone id
 | _,_=>false
section
variable {R:Type}
def exC (m:List (Nat×Option Nat)) (gone:List Nat) (h:Heap):(cs:List CI)->List SV->(V9 cs->Option R)->Option R
 | [],[],K=>K ()
 | .v t::r,s::l,K=>(match N3 m gone h t s with
  | some x=>exC m gone h r l fun y=>K (x,y)
  | none=>none)
 | .o id::r,s::l,K=>cond (q84 m gone id s) (exC m gone h r l K) none
 | .m id::r,s::l,K=>cond (j0h m gone id s) (exC m gone h r l K) none
 | _,_,_=>none
def q6z (h:Heap) (id:Nat) (ak av:Bool) (tk tv:Ty) (K:List (tk.den×tv.den)->Option R):Option R:=match h id with
 | .mapo ak' av' tk' tv' l=>(match F8 (.list (.cons tk' tv')) (.list (.cons tk tv)) l with
  | some l'=>cond (ak==ak'&&av==av') (K l') none
  | none=>none)
 | _=>none
def z1x (h:Heap) (id:Nat) (ak av:Bool) (tk tv:Ty) (K:List (tk.den×tv.den)->Option (tk.den×tv.den)->Option R):Option R:=match h id with
 | .iter ak' av' tk' tv' l c=>(match F8 (.list (.cons tk' tv')) (.list (.cons tk tv)) l,F8 (.list (.cons tk' tv')) (.list (.cons tk tv)) c.toList with
  | some l',some c'=>cond (ak==ak'&&av==av') (K l' c'.head?) none
  | _,_=>none)
 | _=>none
def q9a (h:Heap) (id:Nat) (e:TypeId) (t:KTy) (K:List t.den->Option R):Option R:=match h id with
 | .arrD e' t' l none=>(match decEq t' t with
  | .isTrue h1=>cond (Nat.beq e e') (K (h1▸l)) none
  | .isFalse _=>none)
 | _=>none
def z25 (h:Heap) (id:Nat) (ak:Bool) (tk:Ty) (t:KTy) (K:List (tk.den×t.den)->Option R):Option R:=match h id with
 | .mapD ak' tk' t' l none=>(match decEq tk' tk,decEq t' t with
  | .isTrue h1,.isTrue h2=>cond (ak==ak') (K (h1▸h2▸l)) none
  | _,_=>none)
 | _=>none
def exI (m:List (Nat×Option Nat)) (gone:List Nat) (ρ:Env) (h:Heap):(l:List LI)->(C7 l->Option R)->Option R
 | [],K=>K ()
 | .tmp s t::r,K=>(match ρ s with
  | .one v=>(match N3 m gone h t v with
   | some x=>exI m gone ρ h r fun y=>K (x,y)
   | none=>none)
  | _=>none)
 | .own s id::r,K=>(match ρ s with
  | .one v=>cond (q84 m gone id v) (exI m gone ρ h r K) none
  | _=>none)
 | .arr id e t _::r,K=>(match C9 id m with
  | some (some j)=>(match h j with
   | .arr e' t' x=>(match F8 (.list t') (.list t) x with
    | some x'=>cond (Nat.beq e e') (exI m gone ρ h r fun y=>K (x',y)) none
    | none=>none)
   | _=>none)
  | some none=>exI m gone ρ h r fun y=>K ([],y)
  | none=>none)
 | .arrS id e t::r,K=>(match h id with
  | .arr e' t' x=>(match F8 (.list t') (.list t) x with
   | some x'=>cond (Nat.beq e e') (exI m gone ρ h r fun y=>K (x',y)) none
   | none=>none)
  | _=>none)
 | .cel id cs::r,K=>(match h id with
  | .cells l=>exC m gone h cs l fun x=>exI m gone ρ h r fun y=>K (x,y)
  | _=>none)
 | .rng id s::r,K=>(match h id with
  | .lrec _ s'=>cond (RS.beq s' s) (exI m gone ρ h r K) none
  | _=>none)
 | .ptr s id::r,K=>(match ρ s,C9 id m with
  | .one (.ptr j o),some (some j')=>cond (Nat.beq o 0&&Nat.beq j j') (exI m gone ρ h r K) none
  | _,_=>none)
 | .celN id cs _::r,K=>(match C9 id m with
  | some (some j)=>(match h j with
   | .cells l=>exC m gone h cs l fun x=>exI m gone ρ h r fun y=>K (x,y)
   | _=>none)
  | _=>none)
 | .mapS id ak av tk tv::r,K=>q6z h id ak av tk tv fun x=>exI m gone ρ h r fun y=>K (x,y)
 | .mpt s id::r,K=>(match ρ s,C9 id m with
  | .one (.mp j),some (some j')=>cond (Nat.beq j j') (exI m gone ρ h r K) none
  | _,_=>none)
 | .mapN id ak av tk tv _::r,K=>(match C9 id m with
  | some (some j)=>q6z h j ak av tk tv fun x=>exI m gone ρ h r fun y=>K (x,y)
  | _=>none)
 | .nlp s::r,K=>(match ρ s with
  | .one .nilp=>exI m gone ρ h r K
  | _=>none)
 | .nlm s::r,K=>(match ρ s with
  | .one .mpn=>exI m gone ρ h r K
  | _=>none)
 | .subS s id::r,K=>(match ρ s,C9 id m with
  | .one (.sub i a b),none=>cond (Nat.beq i id&&!D6 gone id) (exI m gone ρ h r fun y=>K (a,b,y)) none
  | _,_=>none)
 | .itr id ak av tk tv::r,K=>z1x h id ak av tk tv fun x c=>exI m gone ρ h r fun y=>K (x,c,y)
 | .arrDS id e t::r,K=>q9a h id e t fun x=>exI m gone ρ h r fun y=>K (x,y)
 | .mapDS id ak tk t::r,K=>z25 h id ak tk t fun x=>exI m gone ρ h r fun y=>K (x,y)
end
def U3:List Nat->Bool
 | []=>true
 | x::r=>!D6 r x&&U3 r
def F9:List LI->List Nat
 | []=>[]
 | .arr id _ _ _::r=>id::F9 r
 | .celN id _ _::r=>id::F9 r
 | .mapN id _ _ _ _ _::r=>id::F9 r
 | _::r=>F9 r
def D3:List LI->List Nat
 | []=>[]
 | .arrS id _ _::r=>id::D3 r
 | .cel id _::r=>id::D3 r
 | .rng id _::r=>id::D3 r
 | .mapS id _ _ _ _::r=>id::D3 r
 | .itr id _ _ _ _::r=>id::D3 r
 | .arrDS id _ _::r=>id::D3 r
 | .mapDS id _ _ _::r=>id::D3 r
 | _::r=>D3 r
def E4:List LI->List Nat
 | []=>[]
 | .tmp s _::r=>s::E4 r
 | .own s _::r=>s::E4 r
 | .ptr s _::r=>s::E4 r
 | .mpt s _::r=>s::E4 r
 | .nlp s::r=>s::E4 r
 | .nlm s::r=>s::E4 r
 | .subS s _::r=>s::E4 r
 | _::r=>E4 r
def q2w (a b:List Nat):Bool:=a.all (D6 b)
def j8e:AObj->Bool
 | .kid=>false
 | _=>true
def wfI (mt mo sr stat:List Nat) (l:List LI):Bool :=
 q2w (F9 l) mo&&q2w (E4 l) mt&&q2w stat (D3 l)&&q2w (D3 l) stat&&U3 (F9 l)&&U3 (D3 l)&&U3 (E4 l)&&!J2 stat (mo++sr)
def q1y {R:Type} (st:St) (mt mo sr stat:List Nat) (l:List LI) (K:C7 l->Option R):Option R :=
 match S8 st.ρ st.h l with
 | some m=>cond (wfI mt mo sr stat l&&U3 (R1 m)&&q2w (R1 m) (mo++sr)&&sr.all fun id=>j8e (st.h id)) (exI m (mo++sr) st.ρ st.h l K) none
 | none=>none
def q5x:List LI->List Nat
 | []=>[]
 | .arrDS id _ _::r=>id::q5x r
 | .mapDS id _ _ _::r=>id::q5x r
 | _::r=>q5x r
def q9l {R:Type} (h:Heap) (id:Nat) (K:List (Nat×AObj)->Option R):Option R:=match h id with
 | .arrD e t l (some f)=>(match R9 h t l (some f)with
  | some (l1,u)=>K (u++[(id,.arrD e t l1 none)])
  | none=>none)
 | .mapD ak tk t l (some f)=>(match Q3 h tk t l (some f)with
  | some (l1,u)=>K (u++[(id,.mapD ak tk t l1 none)])
  | none=>none)
 | _=>K []
def q9j {R:Type} (K:List (Nat×AObj)->Heap->Option R):List Nat->List (Nat×AObj)->Heap->Option R
 | [],u,h=>K u h
 | id::r,u,h=>q9l h id fun v=>q9j K r (u++v) (A5 v h)
def z8p:AObj->Bool
 | .iter ..=>false
 | _=>true
def z1w:AObj->Bool
 | .fresh=>true
 | _=>false
theorem z7r {o:AObj} (h:z1w o=true):o=.fresh:=by cases o<;>first | rfl | cases h
def K3 {R:Type} (st:St) (mt mo sr stat:List Nat) (l:List LI) (K:C7 l->Option R):Option R :=
 q9j (fun v h1=>cond ((v.all fun p=>D6 (mo++(sr++stat)) p.1&&z8p (st.h p.1))&&z1w (st.h B6)) (q1y { st with h:=h1 } mt mo sr stat l K) none) (q5x l) [] st.h
end Go.Abs
