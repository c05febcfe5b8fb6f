/- The engine, part 15: states of a fixed form, at the heads and ends of loops. -/
import Derived.Test.YteeaadgpkammdaaDoorAbsDraw
namespace Go.Abs
open Go Go.RowKit
variable {P:Program} {L:Nat→Prop} {w0:World}
inductive CI where
  | v (t:Ty)
  | o (id:Nat)
  | m (id:Nat)
inductive Src where
  | t (slot:Nat)
  | c (id i:Nat)
def setRS (o:AObj) (s:RS):AObj:=match o with
  | .lrec i _=>.lrec i s
  | _=>.dead
def XK.beq:XK→XK→Bool
  | .nrm,.nrm=>true
  | .ex i,.ex j=>Nat.beq i j
  | .ret,.ret=>true
  | _,_=>false
def RS.beq:RS→RS→Bool
  | .ready,.ready=>true
  | .busy,.busy=>true
  | .left x,.left y=>XK.beq x y
  | .over x,.over y=>XK.beq x y
  | _,_=>false
inductive LI where
  | tmp (slot:Nat) (t:Ty)
  | own (slot id:Nat)
  | arr (id:Nat) (e:TypeId) (t:Ty) (src:Src)
  | arrS (id:Nat) (e:TypeId) (t:Ty)
  | cel (id:Nat) (cs:List CI)
  | rng (id:Nat) (s:RS)
  | ptr (slot id:Nat)
  | celN (id:Nat) (cs:List CI) (slot:Nat)
  | mapS (id:Nat) (ak av:Bool) (tk tv:Ty)
  | mpt (slot id:Nat)
  | mapN (id:Nat) (ak av:Bool) (tk tv:Ty) (slot:Nat)
  | nlp (slot:Nat)
  | nlm (slot:Nat)
  | subS (slot id:Nat)
  | itr (id:Nat) (ak av:Bool) (tk tv:Ty)
  | arrDS (id:Nat) (e:TypeId) (t:KTy)
  | mapDS (id:Nat) (ak:Bool) (tk:Ty) (t:KTy)
@[reducible] def CDen:List CI→Type
  | []=>Unit
  | .v t :: r=>t.den × CDen r
  | .o _ :: r=>CDen r
  | .m _ :: r=>CDen r
@[reducible] def LDen:List LI→Type
  | []=>Unit
  | .tmp _ t :: r=>t.den × LDen r
  | .own _ _ :: r=>LDen r
  | .arr _ _ t _ :: r=>List t.den × LDen r
  | .arrS _ _ t :: r=>List t.den × LDen r
  | .cel _ cs :: r=>CDen cs × LDen r
  | .rng _ _ :: r=>LDen r
  | .ptr _ _ :: r=>LDen r
  | .celN _ cs _ :: r=>CDen cs × LDen r
  | .mapS _ _ _ tk tv :: r=>List (tk.den × tv.den) × LDen r
  | .mpt _ _ :: r=>LDen r
  | .mapN _ _ _ tk tv _ :: r=>List (tk.den × tv.den) × LDen r
  | .nlp _ :: r=>LDen r
  | .nlm _ :: r=>LDen r
  | .subS _ _ :: r=>Nat × Nat × LDen r
  | .itr _ _ _ tk tv :: r=>List (tk.den × tv.den) × Option (tk.den × tv.den) × LDen r
  | .arrDS _ _ t :: r=>List t.den × LDen r
  | .mapDS _ _ tk t :: r=>List (tk.den × t.den) × LDen r
def canonC:(cs:List CI)→CDen cs→List SV
  | [],_=>[]
  | .v t :: r,y=>.sc t y.1 :: canonC r y.2
  | .o id :: r,y=>.own id :: canonC r y
  | .m id :: r,y=>.mp id :: canonC r y
def canonρ:(l:List LI)→LDen l→Env→Env
  | [],_,ρ=>ρ
  | .tmp s t :: r,y,ρ=>upd (canonρ r y.2 ρ) s (.one (.sc t y.1))
  | .own s id :: r,y,ρ=>upd (canonρ r y ρ) s (.one (.own id))
  | .arr _ _ _ _ :: r,y,ρ=>canonρ r y.2 ρ
  | .arrS _ _ _ :: r,y,ρ=>canonρ r y.2 ρ
  | .cel _ _ :: r,y,ρ=>canonρ r y.2 ρ
  | .rng _ _ :: r,y,ρ=>canonρ r y ρ
  | .ptr s id :: r,y,ρ=>upd (canonρ r y ρ) s (.one (.ptr id 0))
  | .celN _ _ _ :: r,y,ρ=>canonρ r y.2 ρ
  | .mapS _ _ _ _ _ :: r,y,ρ=>canonρ r y.2 ρ
  | .mpt s id :: r,y,ρ=>upd (canonρ r y ρ) s (.one (.mp id))
  | .mapN _ _ _ _ _ _ :: r,y,ρ=>canonρ r y.2 ρ
  | .nlp s :: r,y,ρ=>upd (canonρ r y ρ) s (.one .nilp)
  | .nlm s :: r,y,ρ=>upd (canonρ r y ρ) s (.one .mpn)
  | .subS s id :: r,y,ρ=>upd (canonρ r y.2.2 ρ) s (.one (.sub id y.1 y.2.1))
  | .itr _ _ _ _ _ :: r,y,ρ=>canonρ r y.2.2 ρ
  | .arrDS _ _ _ :: r,y,ρ=>canonρ r y.2 ρ
  | .mapDS _ _ _ _ :: r,y,ρ=>canonρ r y.2 ρ
def canonh:(l:List LI)→LDen l→Heap→Heap
  | [],_,h=>h
  | .tmp _ _ :: r,y,h=>canonh r y.2 h
  | .own _ _ :: r,y,h=>canonh r y h
  | .arr id e t _ :: r,y,h=>upd (canonh r y.2 h) id (.arr e t y.1)
  | .arrS id e t :: r,y,h=>upd (canonh r y.2 h) id (.arr e t y.1)
  | .cel id cs :: r,y,h=>upd (canonh r y.2 h) id (.cells (canonC cs y.1))
  | .rng id s :: r,y,h=>upd (canonh r y h) id (setRS (h id) s)
  | .ptr _ _ :: r,y,h=>canonh r y h
  | .celN id cs _ :: r,y,h=>upd (canonh r y.2 h) id (.cells (canonC cs y.1))
  | .mapS id ak av tk tv :: r,y,h=>upd (canonh r y.2 h) id (.mapo ak av tk tv y.1)
  | .mpt _ _ :: r,y,h=>canonh r y h
  | .mapN id ak av tk tv _ :: r,y,h=>upd (canonh r y.2 h) id (.mapo ak av tk tv y.1)
  | .nlp _ :: r,y,h=>canonh r y h
  | .nlm _ :: r,y,h=>canonh r y h
  | .subS _ _ :: r,y,h=>canonh r y.2.2 h
  | .itr id ak av tk tv :: r,y,h=>upd (canonh r y.2.2 h) id (.iter ak av tk tv y.1 y.2.1)
  | .arrDS id e t :: r,y,h=>upd (canonh r y.2 h) id (.arrD e t y.1 none)
  | .mapDS id ak tk t :: r,y,h=>upd (canonh r y.2 h) id (.mapD ak tk t y.1 none)
def mkSt (st:St) (mt mo sr:List Nat) (l:List LI) (y:LDen l):St :=
  { ρ:=canonρ l y (fun t=>cond (memb mt t) (.one .unk) (st.ρ t)),h:=canonh l y (fun id=>cond (memb mo id) .fresh (cond (memb sr id) .dead (st.h id))),lt:=st.lt,lo:=st.lo,n:=st.n }
def lockSt (st:St) (mt ob:List Nat):St:={ st with lt:=fun t=>st.lt t || !memb mt t,lo:=fun id=>st.lo id || !memb ob id }
def readSrc (ρ:Env) (h:Heap):Src→Option SV
  | .t s=>match ρ s with
    | .one v=>some v
    | _=>none
  | .c id i=>match h id with
    | .cells l=>l[i]?
    | _=>none
def moves (ρ:Env) (h:Heap):List LI→Option (List (Nat × Option Nat))
  | []=>some []
  | .arr id _ _ src :: r=>(match readSrc ρ h src,moves ρ h r with
    | some (.own j),some m=>some ((id,some j) :: m)
    | some .nils,some m=>some ((id,none) :: m)
    | _,_=>none)
  | .celN id _ slot :: r=>(match ρ slot,moves ρ h r with
    | .one (.ptr j _),some m=>some ((id,some j) :: m)
    | _,_=>none)
  | .mapN id _ _ _ _ slot :: r=>(match ρ slot,moves ρ h r with
    | .one (.mp j),some m=>some ((id,some j) :: m)
    | _,_=>none)
  | _ :: r=>moves ρ h r
def lookm (id:Nat):List (Nat × Option Nat)→Option (Option Nat)
  | []=>none
  | (i,j) :: r=>cond (Nat.beq i id) (some j) (lookm id r)
def sources (m:List (Nat × Option Nat)):List Nat:=m.filterMap (·.2)
def thaw (m:List (Nat × Option Nat)) (gone:List Nat) (h:Heap) (id:Nat):Bool:=match h id with
  | .ice _ _ _=>true
  | .arr _ _ _=>memb gone id && !memb (sources m) id
  | .mice ..=>true
  | .mapo ..=>memb gone id && !memb (sources m) id
  | _=>false
def denOf (m:List (Nat × Option Nat)) (gone:List Nat) (h:Heap):(t:Ty)→SV→Option t.den
  | t,.sc t' x=>cond (Nat.beq t.size 1) (castTy t' t x) none
  | .list _,.nils=>some []
  | .list e,.own id=>cond (thaw m gone h id) (listOf h e (.own id)) none
  | .list e,.sub id a b=>cond (thaw m gone h id) (listOf h e (.sub id a b)) none
  | .map ak av k v,.mp id=>cond (thaw m gone h id) (mapDen h ak av k v (.mp id)) none
  | _,_=>none
def sameRef (m:List (Nat × Option Nat)) (gone:List Nat) (id:Nat) (s:SV):Bool :=
  match lookm id m,s with
  | some (some j),.own i=>Nat.beq i j
  | some none,.nils=>true
  | none,.own i=>Nat.beq i id && !memb gone id
  | _,_=>false
def sameMap (m:List (Nat × Option Nat)) (gone:List Nat) (id:Nat) (s:SV):Bool :=
  match lookm id m,s with
  | none,.mp i=>Nat.beq i id && !memb gone id
  | _,_=>false
section
variable {R:Type}
def exC (m:List (Nat × Option Nat)) (gone:List Nat) (h:Heap):(cs:List CI)→List SV→(CDen cs→Option R)→Option R
  | [],[],K=>K ()
  | .v t :: r,s :: l,K=>(match denOf m gone h t s with
    | some x=>exC m gone h r l fun y=>K (x,y)
    | none=>none)
  | .o id :: r,s :: l,K=>cond (sameRef m gone id s) (exC m gone h r l K) none
  | .m id :: r,s :: l,K=>cond (sameMap m gone id s) (exC m gone h r l K) none
  | _,_,_=>none
def mapIn (h:Heap) (id:Nat) (ak av:Bool) (tk tv:Ty) (K:List (tk.den × tv.den)→Option R):Option R:=match h id with
  | .mapo ak' av' tk' tv' l=>(match castTy (.list (.cons tk' tv')) (.list (.cons tk tv)) l with
    | some l'=>cond (ak == ak' && av == av') (K l') none
    | none=>none)
  | _=>none
def iterIn (h:Heap) (id:Nat) (ak av:Bool) (tk tv:Ty) (K:List (tk.den × tv.den)→Option (tk.den × tv.den)→Option R):Option R:=match h id with
  | .iter ak' av' tk' tv' l c=>(match castTy (.list (.cons tk' tv')) (.list (.cons tk tv)) l,castTy (.list (.cons tk' tv')) (.list (.cons tk tv)) c.toList with
    | some l',some c'=>cond (ak == ak' && av == av') (K l' c'.head?) none
    | _,_=>none)
  | _=>none
def arrDIn (h:Heap) (id:Nat) (e:TypeId) (t:KTy) (K:List t.den→Option R):Option R:=match h id with
  | .arrD e' t' l none=>(match decEq t' t with
    | .isTrue h1=>cond (Nat.beq e e') (K (h1 ▸ l)) none
    | .isFalse _=>none)
  | _=>none
def mapDIn (h:Heap) (id:Nat) (ak:Bool) (tk:Ty) (t:KTy) (K:List (tk.den × t.den)→Option R):Option R:=match h id with
  | .mapD ak' tk' t' l none=>(match decEq tk' tk,decEq t' t with
    | .isTrue h1,.isTrue h2=>cond (ak == ak') (K (h1 ▸ h2 ▸ l)) none
    | _,_=>none)
  | _=>none
def exI (m:List (Nat × Option Nat)) (gone:List Nat) (ρ:Env) (h:Heap):(l:List LI)→(LDen l→Option R)→Option R
  | [],K=>K ()
  | .tmp s t :: r,K=>(match ρ s with
    | .one v=>(match denOf m gone h t v with
      | some x=>exI m gone ρ h r fun y=>K (x,y)
      | none=>none)
    | _=>none)
  | .own s id :: r,K=>(match ρ s with
    | .one v=>cond (sameRef m gone id v) (exI m gone ρ h r K) none
    | _=>none)
  | .arr id e t _ :: r,K=>(match lookm id m with
    | some (some j)=>(match h j with
      | .arr e' t' x=>(match castTy (.list t') (.list t) x with
        | some x'=>cond (Nat.beq e e') (exI m gone ρ h r fun y=>K (x',y)) none
        | none=>none)
      | _=>none)
    | some none=>exI m gone ρ h r fun y=>K ([],y)
    | none=>none)
  | .arrS id e t :: r,K=>(match h id with
    | .arr e' t' x=>(match castTy (.list t') (.list t) x with
      | some x'=>cond (Nat.beq e e') (exI m gone ρ h r fun y=>K (x',y)) none
      | none=>none)
    | _=>none)
  | .cel id cs :: r,K=>(match h id with
    | .cells l=>exC m gone h cs l fun x=>exI m gone ρ h r fun y=>K (x,y)
    | _=>none)
  | .rng id s :: r,K=>(match h id with
    | .lrec _ s'=>cond (RS.beq s' s) (exI m gone ρ h r K) none
    | _=>none)
  | .ptr s id :: r,K=>(match ρ s,lookm id m with
    | .one (.ptr j o),some (some j')=>cond (Nat.beq o 0 && Nat.beq j j') (exI m gone ρ h r K) none
    | _,_=>none)
  | .celN id cs _ :: r,K=>(match lookm id m with
    | some (some j)=>(match h j with
      | .cells l=>exC m gone h cs l fun x=>exI m gone ρ h r fun y=>K (x,y)
      | _=>none)
    | _=>none)
  | .mapS id ak av tk tv :: r,K=>mapIn h id ak av tk tv fun x=>exI m gone ρ h r fun y=>K (x,y)
  | .mpt s id :: r,K=>(match ρ s,lookm id m with
    | .one (.mp j),some (some j')=>cond (Nat.beq j j') (exI m gone ρ h r K) none
    | _,_=>none)
  | .mapN id ak av tk tv _ :: r,K=>(match lookm id m with
    | some (some j)=>mapIn h j ak av tk tv fun x=>exI m gone ρ h r fun y=>K (x,y)
    | _=>none)
  | .nlp s :: r,K=>(match ρ s with
    | .one .nilp=>exI m gone ρ h r K
    | _=>none)
  | .nlm s :: r,K=>(match ρ s with
    | .one .mpn=>exI m gone ρ h r K
    | _=>none)
  | .subS s id :: r,K=>(match ρ s,lookm id m with
    | .one (.sub i a b),none=>cond (Nat.beq i id && !memb gone id) (exI m gone ρ h r fun y=>K (a,b,y)) none
    | _,_=>none)
  | .itr id ak av tk tv :: r,K=>iterIn h id ak av tk tv fun x c=>exI m gone ρ h r fun y=>K (x,c,y)
  | .arrDS id e t :: r,K=>arrDIn h id e t fun x=>exI m gone ρ h r fun y=>K (x,y)
  | .mapDS id ak tk t :: r,K=>mapDIn h id ak tk t fun x=>exI m gone ρ h r fun y=>K (x,y)
end
def nodupB:List Nat→Bool
  | []=>true
  | x :: r=>!memb r x && nodupB r
def newIds:List LI→List Nat
  | []=>[]
  | .arr id _ _ _ :: r=>id :: newIds r
  | .celN id _ _ :: r=>id :: newIds r
  | .mapN id _ _ _ _ _ :: r=>id :: newIds r
  | _ :: r=>newIds r
def statIds:List LI→List Nat
  | []=>[]
  | .arrS id _ _ :: r=>id :: statIds r
  | .cel id _ :: r=>id :: statIds r
  | .rng id _ :: r=>id :: statIds r
  | .mapS id _ _ _ _ :: r=>id :: statIds r
  | .itr id _ _ _ _ :: r=>id :: statIds r
  | .arrDS id _ _ :: r=>id :: statIds r
  | .mapDS id _ _ _ :: r=>id :: statIds r
  | _ :: r=>statIds r
def slotsOf:List LI→List Nat
  | []=>[]
  | .tmp s _ :: r=>s :: slotsOf r
  | .own s _ :: r=>s :: slotsOf r
  | .ptr s _ :: r=>s :: slotsOf r
  | .mpt s _ :: r=>s :: slotsOf r
  | .nlp s :: r=>s :: slotsOf r
  | .nlm s :: r=>s :: slotsOf r
  | .subS s _ :: r=>s :: slotsOf r
  | _ :: r=>slotsOf r
def subB (a b:List Nat):Bool:=a.all (memb b)
def notKid:AObj→Bool
  | .kid=>false
  | _=>true
def wfI (mt mo sr stat:List Nat) (l:List LI):Bool :=
  subB (newIds l) mo && subB (slotsOf l) mt && subB stat (statIds l) && subB (statIds l) stat && nodupB (newIds l) && nodupB (statIds l) && nodupB (slotsOf l) && !meets stat (mo++sr)
def exSt1 {R:Type} (st:St) (mt mo sr stat:List Nat) (l:List LI) (K:LDen l→Option R):Option R :=
  match moves st.ρ st.h l with
  | some m=>cond (wfI mt mo sr stat l && nodupB (sources m) && subB (sources m) (mo++sr) && sr.all fun id=>notKid (st.h id)) (exI m (mo++sr) st.ρ st.h l K) none
  | none=>none
def dIds:List LI→List Nat
  | []=>[]
  | .arrDS id _ _ :: r=>id :: dIds r
  | .mapDS id _ _ _ :: r=>id :: dIds r
  | _ :: r=>dIds r
def closeOne {R:Type} (h:Heap) (id:Nat) (K:List (Nat × AObj)→Option R):Option R:=match h id with
  | .arrD e t l (some f)=>(match closeA h t l (some f) with
    | some (l1,u)=>K (u++[(id,.arrD e t l1 none)])
    | none=>none)
  | .mapD ak tk t l (some f)=>(match closeM h tk t l (some f) with
    | some (l1,u)=>K (u++[(id,.mapD ak tk t l1 none)])
    | none=>none)
  | _=>K []
def closeAll {R:Type} (K:List (Nat × AObj)→Heap→Option R):List Nat→List (Nat × AObj)→Heap→Option R
  | [],u,h=>K u h
  | id :: r,u,h=>closeOne h id fun v=>closeAll K r (u++v) (applyUps v h)
def notIter:AObj→Bool
  | .iter ..=>false
  | _=>true
def exSt {R:Type} (st:St) (mt mo sr stat:List Nat) (l:List LI) (K:LDen l→Option R):Option R :=
  closeAll (fun v h1=>cond (v.all fun p=>memb (mo++(sr++stat)) p.1 && notIter (st.h p.1)) (exSt1 { st with h:=h1 } mt mo sr stat l K) none) (dIds l) [] st.h
end Go.Abs
