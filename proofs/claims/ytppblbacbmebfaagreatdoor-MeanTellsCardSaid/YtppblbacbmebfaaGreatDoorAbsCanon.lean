/- The engine, part 15: states of a fixed form, at the heads and ends of loops. -/
import Derived.Test.YtppblbacbmebfaaGreatDoorAbsDraw
namespace Go.Abs
open Go Go.RowKit
variable {P:Program} {L:Nat->Prop} {w0:World}
inductive CI where
 | v (t:Ty)
 | o (id:Nat)
 | m (id:Nat)
inductive Src where
 | t (slot:Nat)
 | c (id i:Nat)
def j8w (o:AObj) (s:RS):AObj:=match o with
 | .lrec i _=>.lrec i s
 | _=>.dead
def XK.beq:XK->XK->Bool
 | .nrm,.nrm=>true
 | .ex i,.ex j=>Nat.beq i j
 | .ret,.ret=>true
 | .pan i,.pan j=>Nat.beq i j
 | _,_=>false
def RS.beq:RS->RS->Bool
 | .ready,.ready=>true
 | .busy,.busy=>true
 | .left x,.left y=>XK.beq x y
 | .over x,.over y=>XK.beq x y
 | _,_=>false
inductive LI where
 | tmp (slot:Nat) (t:Ty)
 | own (slot id:Nat)
 | arr (id:Nat) (e:TypeId) (t:Ty) (src:Src)
 | arrS (id:Nat) (e:TypeId) (t:Ty)
 | cel (id:Nat) (cs:List CI)
 | rng (id:Nat) (s:RS)
 | ptr (slot id:Nat)
 | celN (id:Nat) (cs:List CI) (slot:Nat)
 | mapS (id:Nat) (ak av:Bool) (tk tv:Ty)
 | mpt (slot id:Nat)
 | mapN (id:Nat) (ak av:Bool) (tk tv:Ty) (slot:Nat)
 | nlp (slot:Nat)
 | nlm (slot:Nat)
 | subS (slot id:Nat)
 | itr (id:Nat) (ak av:Bool) (tk tv:Ty)
 | arrDS (id:Nat) (e:TypeId) (t:KTy)
 | mapDS (id:Nat) (ak:Bool) (tk:Ty) (t:KTy)
 | arrKS (id:Nat) (e:TypeId) (t:Ty) (c:Nat) (t1:KTy)
 | arrKN (id:Nat) (e:TypeId) (t:Ty) (c:Nat) (t1:KTy) (src:Src)
@[reducible] def q14:List CI->Type
 | []=>Unit
 | .v t::r=>t.den×q14 r
 | .o _::r=>q14 r
 | .m _::r=>q14 r
@[reducible] def D5:List LI->Type
 | []=>Unit
 | .tmp _ t::r=>t.den×D5 r
 | .own _ _::r=>D5 r
 | .arr _ _ t _::r=>List t.den×D5 r
 | .arrS _ _ t::r=>List t.den×D5 r
 | .cel _ cs::r=>q14 cs×D5 r
 | .rng _ _::r=>D5 r
 | .ptr _ _::r=>D5 r
 | .celN _ cs _::r=>q14 cs×D5 r
 | .mapS _ _ _ tk tv::r=>List (tk.den×tv.den)×D5 r
 | .mpt _ _::r=>D5 r
 | .mapN _ _ _ tk tv _::r=>List (tk.den×tv.den)×D5 r
 | .nlp _::r=>D5 r
 | .nlm _::r=>D5 r
 | .subS _ _::r=>Nat×Nat×D5 r
 | .itr _ _ _ tk tv::r=>List (tk.den×tv.den)×Option (tk.den×tv.den)×D5 r
 | .arrDS _ _ t::r=>List t.den×D5 r
 | .mapDS _ _ tk t::r=>List (tk.den×t.den)×D5 r
 | .arrKS _ _ t _ t1::r=>List t.den×List t1.den×D5 r
 | .arrKN _ _ t _ t1 _::r=>List t.den×List t1.den×D5 r
def M8:(cs:List CI)->q14 cs->List SV
 | [],_=>[]
 | .v t::r,y=>.sc t y.1::M8 r y.2
 | .o id::r,y=>.own id::M8 r y
 | .m id::r,y=>.mp id::M8 r y
def G1:(l:List LI)->D5 l->Env->Env
 | [],_,ρ=>ρ
 | .tmp s t::r,y,ρ=>upd (G1 r y.2 ρ) s (.one (.sc t y.1))
 | .own s id::r,y,ρ=>upd (G1 r y ρ) s (.one (.own id))
 | .arr _ _ _ _::r,y,ρ=>G1 r y.2 ρ
 | .arrS _ _ _::r,y,ρ=>G1 r y.2 ρ
 | .cel _ _::r,y,ρ=>G1 r y.2 ρ
 | .rng _ _::r,y,ρ=>G1 r y ρ
 | .ptr s id::r,y,ρ=>upd (G1 r y ρ) s (.one (.ptr id 0))
 | .celN _ _ _::r,y,ρ=>G1 r y.2 ρ
 | .mapS _ _ _ _ _::r,y,ρ=>G1 r y.2 ρ
 | .mpt s id::r,y,ρ=>upd (G1 r y ρ) s (.one (.mp id))
 | .mapN _ _ _ _ _ _::r,y,ρ=>G1 r y.2 ρ
 | .nlp s::r,y,ρ=>upd (G1 r y ρ) s (.one .nilp)
 | .nlm s::r,y,ρ=>upd (G1 r y ρ) s (.one .mpn)
 | .subS s id::r,y,ρ=>upd (G1 r y.2.2 ρ) s (.one (.sub id y.1 y.2.1))
 | .itr _ _ _ _ _::r,y,ρ=>G1 r y.2.2 ρ
 | .arrDS _ _ _::r,y,ρ=>G1 r y.2 ρ
 | .mapDS _ _ _ _::r,y,ρ=>G1 r y.2 ρ
 | .arrKS _ _ _ _ _::r,y,ρ=>G1 r y.2.2 ρ
 | .arrKN _ _ _ _ _ _::r,y,ρ=>G1 r y.2.2 ρ
def C6:(l:List LI)->D5 l->Heap->Heap
 | [],_,h=>h
 | .tmp _ _::r,y,h=>C6 r y.2 h
 | .own _ _::r,y,h=>C6 r y h
 | .arr id e t _::r,y,h=>upd (C6 r y.2 h) id (.arr e t y.1)
 | .arrS id e t::r,y,h=>upd (C6 r y.2 h) id (.arr e t y.1)
 | .cel id cs::r,y,h=>upd (C6 r y.2 h) id (.cells (M8 cs y.1))
 | .rng id s::r,y,h=>upd (C6 r y h) id (j8w (h id) s)
 | .ptr _ _::r,y,h=>C6 r y h
 | .celN id cs _::r,y,h=>upd (C6 r y.2 h) id (.cells (M8 cs y.1))
 | .mapS id ak av tk tv::r,y,h=>upd (C6 r y.2 h) id (.mapo ak av tk tv y.1)
 | .mpt _ _::r,y,h=>C6 r y h
 | .mapN id ak av tk tv _::r,y,h=>upd (C6 r y.2 h) id (.mapo ak av tk tv y.1)
 | .nlp _::r,y,h=>C6 r y h
 | .nlm _::r,y,h=>C6 r y h
 | .subS _ _::r,y,h=>C6 r y.2.2 h
 | .itr id ak av tk tv::r,y,h=>upd (C6 r y.2.2 h) id (.iter ak av tk tv y.1 y.2.1)
 | .arrDS id e t::r,y,h=>upd (C6 r y.2 h) id (.arrD e t y.1 none)
 | .mapDS id ak tk t::r,y,h=>upd (C6 r y.2 h) id (.mapD ak tk t y.1 none)
 | .arrKS id e t c t1::r,y,h=>upd (C6 r y.2.2 h) id (.arrK e t c t1 y.1 y.2.1 none)
 | .arrKN id e t c t1 _::r,y,h=>upd (C6 r y.2.2 h) id (.arrK e t c t1 y.1 y.2.1 none)
def C1 (st:St) (mt mo sr:List Nat) (l:List LI) (y:D5 l):St :=
 { ρ:=G1 l y (fun t=>cond (E4 mt t) (.one .unk) (st.ρ t)),h:=C6 l y (fun id=>cond (E4 mo id) .fresh (cond (E4 sr id) .dead (st.h id))),lt:=st.lt,lo:=st.lo,n:=st.n }
def S1 (st:St) (mt ob:List Nat):St:={ st with lt:=fun t=>st.lt t||!E4 mt t,lo:=fun id=>st.lo id||(!E4 ob id&&!Nat.beq id C0) }
def j7k (ρ:Env) (h:Heap):Src->Option SV
 | .t s=>match ρ s with
  | .one v=>some v
  | _=>none
 | .c id i=>match h id with
  | .cells l=>l[i]?
  | _=>none
def T9 (ρ:Env) (h:Heap):List LI->Option (List (Nat×Option Nat))
 | []=>some []
 | .arr id _ _ src::r=>(match j7k ρ h src,T9 ρ h r with
  | some (.own j),some m=>some ((id,some j)::m)
  | some .nils,some m=>some ((id,none)::m)
  | _,_=>none)
 | .arrKN id _ _ _ _ src::r=>(match j7k ρ h src,T9 ρ h r with
  | some (.own j),some m=>some ((id,some j)::m)
  | _,_=>none)
 | .celN id _ slot::r=>(match ρ slot,T9 ρ h r with
  | .one (.ptr j _),some m=>some ((id,some j)::m)
  | _,_=>none)
 | .mapN id _ _ _ _ slot::r=>(match ρ slot,T9 ρ h r with
  | .one (.mp j),some m=>some ((id,some j)::m)
  | _,_=>none)
 | _::r=>T9 ρ h r
def B9 (id:Nat):List (Nat×Option Nat)->Option (Option Nat)
 | []=>none
 | (i,j)::r=>cond (Nat.beq i id) (some j) (B9 id r)
def E2 (m:List (Nat×Option Nat)):List Nat:=m.filterMap (·.2)
def q0z (m:List (Nat×Option Nat)) (gone:List Nat) (h:Heap) (id:Nat):Bool:=match h id with
 | .ice _ _ _=>true
 | .arr _ _ _=>E4 gone id&&!E4 (E2 m) id
 | .mice ..=>true
 | .mapo ..=>E4 gone id&&!E4 (E2 m) id
 | _=>false
def X1 (m:List (Nat×Option Nat)) (gone:List Nat) (h:Heap):(t:Ty)->SV->Option t.den
 | t,.sc t' x=>cond (Nat.beq t.size 1) (G2 t' t x) none
 | .list _,.nils=>some []
 | .list e,.own id=>cond (q0z m gone h id) (B7 h e (.own id)) none
 | .list e,.sub id a b=>cond (q0z m gone h id) (B7 h e (.sub id a b)) none
 | .map ak av k v,.mp id=>cond (q0z m gone h id) (O1 h ak av k v (.mp id)) none
 | _,_=>none
def z4o (m:List (Nat×Option Nat)) (gone:List Nat) (id:Nat) (s:SV):Bool :=
 match B9 id m,s with
 | some (some j),.own i=>Nat.beq i j
 | some none,.nils=>true
 | none,.own i=>Nat.beq i id&&!E4 gone id
 | _,_=>false
def j8a (m:List (Nat×Option Nat)) (gone:List Nat) (id:Nat) (s:SV):Bool :=
 match B9 id m,s with
 | none,.mp i=>Nat.beq i id&&!E4 gone id
 | _,_=>false
section
variable {R:Type}
def exC (m:List (Nat×Option Nat)) (gone:List Nat) (h:Heap):(cs:List CI)->List SV->(q14 cs->Option R)->Option R
 | [],[],K=>K ()
 | .v t::r,s::l,K=>(match X1 m gone h t s with
  | some x=>exC m gone h r l fun y=>K (x,y)
  | none=>none)
 | .o id::r,s::l,K=>cond (z4o m gone id s) (exC m gone h r l K) none
 | .m id::r,s::l,K=>cond (j8a m gone id s) (exC m gone h r l K) none
 | _,_,_=>none
def q7x (h:Heap) (id:Nat) (ak av:Bool) (tk tv:Ty) (K:List (tk.den×tv.den)->Option R):Option R:=match h id with
 | .mapo ak' av' tk' tv' l=>(match G2 (.list (.cons tk' tv')) (.list (.cons tk tv)) l with
  | some l'=>cond (ak==ak'&&av==av') (K l') none
  | none=>none)
 | _=>none
def z9j (h:Heap) (id:Nat) (ak av:Bool) (tk tv:Ty) (K:List (tk.den×tv.den)->Option (tk.den×tv.den)->Option R):Option R:=match h id with
 | .iter ak' av' tk' tv' l c=>(match G2 (.list (.cons tk' tv')) (.list (.cons tk tv)) l,G2 (.list (.cons tk' tv')) (.list (.cons tk tv)) c.toList with
  | some l',some c'=>cond (ak==ak'&&av==av') (K l' c'.head?) none
  | _,_=>none)
 | _=>none
def z5l (h:Heap) (id:Nat) (e:TypeId) (t:KTy) (K:List t.den->Option R):Option R:=match h id with
 | .arrD e' t' l none=>(match decEq t' t with
  | .isTrue h1=>cond (Nat.beq e e') (K (h1▸l)) none
  | .isFalse _=>none)
 | _=>none
def z9w (h:Heap) (id:Nat) (ak:Bool) (tk:Ty) (t:KTy) (K:List (tk.den×t.den)->Option R):Option R:=match h id with
 | .mapD ak' tk' t' l none=>(match decEq tk' tk,decEq t' t with
  | .isTrue h1,.isTrue h2=>cond (ak==ak') (K (h1▸h2▸l)) none
  | _,_=>none)
 | _=>none
def z01 (h:Heap) (id:Nat) (e:TypeId) (t:Ty) (c:Nat) (t1:KTy) (K:List t.den->List t1.den->Option R):Option R:=match h id with
 | .arrK e' t' c' t1' l k none=>(match decEq t' t,decEq t1' t1 with
  | .isTrue h1,.isTrue h2=>cond (Nat.beq e e'&&Nat.beq c c') (K (h1▸l) (h2▸k)) none
  | _,_=>none)
 | _=>none
def exI (m:List (Nat×Option Nat)) (gone:List Nat) (ρ:Env) (h:Heap):(l:List LI)->(D5 l->Option R)->Option R
 | [],K=>K ()
 | .tmp s t::r,K=>(match ρ s with
  | .one v=>(match X1 m gone h t v with
   | some x=>exI m gone ρ h r fun y=>K (x,y)
   | none=>none)
  | _=>none)
 | .own s id::r,K=>(match ρ s with
  | .one v=>cond (z4o m gone id v) (exI m gone ρ h r K) none
  | _=>none)
 | .arr id e t _::r,K=>(match B9 id m with
  | some (some j)=>(match h j with
   | .arr e' t' x=>(match G2 (.list t') (.list t) x with
    | some x'=>cond (Nat.beq e e') (exI m gone ρ h r fun y=>K (x',y)) none
    | none=>none)
   | _=>none)
  | some none=>exI m gone ρ h r fun y=>K ([],y)
  | none=>none)
 | .arrS id e t::r,K=>(match h id with
  | .arr e' t' x=>(match G2 (.list t') (.list t) x with
   | some x'=>cond (Nat.beq e e') (exI m gone ρ h r fun y=>K (x',y)) none
   | none=>none)
  | _=>none)
 | .cel id cs::r,K=>(match h id with
  | .cells l=>exC m gone h cs l fun x=>exI m gone ρ h r fun y=>K (x,y)
  | _=>none)
 | .rng id s::r,K=>(match h id with
  | .lrec _ s'=>cond (RS.beq s' s) (exI m gone ρ h r K) none
  | _=>none)
 | .ptr s id::r,K=>(match ρ s,B9 id m with
  | .one (.ptr j o),some (some j')=>cond (Nat.beq o 0&&Nat.beq j j') (exI m gone ρ h r K) none
  | _,_=>none)
 | .celN id cs _::r,K=>(match B9 id m with
  | some (some j)=>(match h j with
   | .cells l=>exC m gone h cs l fun x=>exI m gone ρ h r fun y=>K (x,y)
   | _=>none)
  | _=>none)
 | .mapS id ak av tk tv::r,K=>q7x h id ak av tk tv fun x=>exI m gone ρ h r fun y=>K (x,y)
 | .mpt s id::r,K=>(match ρ s,B9 id m with
  | .one (.mp j),some (some j')=>cond (Nat.beq j j') (exI m gone ρ h r K) none
  | _,_=>none)
 | .mapN id ak av tk tv _::r,K=>(match B9 id m with
  | some (some j)=>q7x h j ak av tk tv fun x=>exI m gone ρ h r fun y=>K (x,y)
  | _=>none)
 | .nlp s::r,K=>(match ρ s with
  | .one .nilp=>exI m gone ρ h r K
  | _=>none)
 | .nlm s::r,K=>(match ρ s with
  | .one .mpn=>exI m gone ρ h r K
  | _=>none)
 | .subS s id::r,K=>(match ρ s,B9 id m with
  | .one (.sub i a b),none=>cond (Nat.beq i id&&!E4 gone id) (exI m gone ρ h r fun y=>K (a,b,y)) none
  | _,_=>none)
 | .itr id ak av tk tv::r,K=>z9j h id ak av tk tv fun x c=>exI m gone ρ h r fun y=>K (x,c,y)
 | .arrDS id e t::r,K=>z5l h id e t fun x=>exI m gone ρ h r fun y=>K (x,y)
 | .mapDS id ak tk t::r,K=>z9w h id ak tk t fun x=>exI m gone ρ h r fun y=>K (x,y)
 | .arrKS id e t c t1::r,K=>z01 h id e t c t1 fun x x'=>exI m gone ρ h r fun y=>K (x,x',y)
 | .arrKN id e t c t1 _::r,K=>(match B9 id m with
  | some (some j)=>z01 h j e t c t1 fun x x'=>exI m gone ρ h r fun y=>K (x,x',y)
  | _=>none)
end
def O3:List Nat->Bool
 | []=>true
 | x::r=>!E4 r x&&O3 r
def G0:List LI->List Nat
 | []=>[]
 | .arr id _ _ _::r=>id::G0 r
 | .celN id _ _::r=>id::G0 r
 | .arrKN id _ _ _ _ _::r=>id::G0 r
 | .mapN id _ _ _ _ _::r=>id::G0 r
 | _::r=>G0 r
def D9:List LI->List Nat
 | []=>[]
 | .arrS id _ _::r=>id::D9 r
 | .cel id _::r=>id::D9 r
 | .rng id _::r=>id::D9 r
 | .mapS id _ _ _ _::r=>id::D9 r
 | .itr id _ _ _ _::r=>id::D9 r
 | .arrDS id _ _::r=>id::D9 r
 | .mapDS id _ _ _::r=>id::D9 r
 | .arrKS id _ _ _ _::r=>id::D9 r
 | _::r=>D9 r
def F4:List LI->List Nat
 | []=>[]
 | .tmp s _::r=>s::F4 r
 | .own s _::r=>s::F4 r
 | .ptr s _::r=>s::F4 r
 | .mpt s _::r=>s::F4 r
 | .nlp s::r=>s::F4 r
 | .nlm s::r=>s::F4 r
 | .subS s _::r=>s::F4 r
 | _::r=>F4 r
def q3a (a b:List Nat):Bool:=a.all (E4 b)
def y9c:AObj->Bool
 | .kid=>false
 | _=>true
def wfI (mt mo sr stat:List Nat) (l:List LI):Bool :=
 q3a (G0 l) mo&&q3a (F4 l) mt&&q3a stat (D9 l)&&q3a (D9 l) stat&&O3 (G0 l)&&O3 (D9 l)&&O3 (F4 l)&&!K9 stat (mo++sr)
def q4u {R:Type} (st:St) (mt mo sr stat:List Nat) (l:List LI) (K:D5 l->Option R):Option R :=
 match T9 st.ρ st.h l with
 | some m=>cond (wfI mt mo sr stat l&&O3 (E2 m)&&q3a (E2 m) (mo++sr)&&sr.all fun id=>y9c (st.h id)) (exI m (mo++sr) st.ρ st.h l K) none
 | none=>none
def q4p:List LI->List (Bool×Nat)
 | []=>[]
 | .arrS id _ _::r=>(true,id)::q4p r
 | .arrDS id _ _::r=>(false,id)::q4p r
 | .mapDS id _ _ _::r=>(false,id)::q4p r
 | .arrKS id _ _ _ _::r=>(false,id)::q4p r
 | _::r=>q4p r
def z61 {R:Type} (h:Heap) (id:Nat) (K:List (Nat×AObj)->Option R):Option R:=match h id with
 | .arrD e t l (some f)=>(match M2 h t l (some f)with
  | some (l1,u)=>K (u++[(id,.arrD e t l1 none)])
  | none=>none)
 | .mapD ak tk t l (some f)=>(match V0 h tk t l (some f)with
  | some (l1,u)=>K (u++[(id,.mapD ak tk t l1 none)])
  | none=>none)
 | .arrK e t c t1 l k (some f)=>(match M2 h t1 k (some f)with
  | some (k1,u)=>K (u++[(id,.arrK e t c t1 l k1 none)])
  | none=>none)
 | _=>K []
def j00 {R:Type} (h:Heap) (id:Nat) (K:List (Nat×AObj)->Option R):Option R:=match h id with
 | .arrK e t c (.arr e1 t1) l k f=>(match M2 h (.arr e1 t1) k f with
  | some (k1,u)=>(q1r t c t1 l k1).bind fun z=>K ((u++[(id,.arrK e t c (.arr e1 t1) l k1 none)])++[(id,.arr e t z)])
  | none=>none)
 | _=>K []
def q6q {R:Type} (K:List (Nat×AObj)->Heap->Option R):List (Bool×Nat)->List (Nat×AObj)->Heap->Option R
 | [],u,h=>K u h
 | (true,id)::r,u,h=>j00 h id fun v=>q6q K r (u++v) (A5 v h)
 | (false,id)::r,u,h=>z61 h id fun v=>q6q K r (u++v) (A5 v h)
def j6x:AObj->Bool
 | .iter ..=>false
 | _=>true
def z9i:AObj->Bool
 | .fresh=>true
 | _=>false
theorem j5w {o:AObj} (h:z9i o=true):o=.fresh:=by cases o<;>first | rfl | cases h
def M3 {R:Type} (st:St) (mt mo sr stat:List Nat) (l:List LI) (K:D5 l->Option R):Option R :=
 q6q (fun v h1=>cond ((v.all fun p=>E4 (mo++(sr++stat)) p.1&&j6x (st.h p.1))&&z9i (st.h C0)) (q4u { st with h:=h1 } mt mo sr stat l K) none) (q4p l) [] st.h
end Go.Abs
