/- The engine, part 2: the abstract evaluator. -/
import Derived.Test.YtppblbacbmebfaaGreatDoorAbsBase
import Derived.Test.YtppblbacbmebfaaGreatDoorAbsSortP
namespace Go.Abs
open Go
def F6:(t:Ty)->t.den->List SV
 | .int k,x=>[.sc (.int k) x]
 | .bool,x=>[.sc .bool x]
 | .list e,x=>[.sc (.list e) x]
 | .nil,_=>[]
 | .cons a b,x=>F6 a x.1++F6 b x.2
 | .map ak av k v,x=>[.sc (.map ak av k v) x]
def G2 (t t':Ty) (x:t.den):Option t'.den :=
 match decEq t t' with
 | .isTrue h=>some (h▸x)
 | .isFalse _=>none
def B7 (h:Heap) (e:Ty):SV->Option (List e.den)
 | .nils=>some []
 | .sc t x=>G2 t (.list e) x
 | .ne t x=>G2 (.list t) (.list e) x
 | .own id=>match h id with
  | .arr _ t l=>G2 (.list t) (.list e) l
  | .ice _ t l=>G2 (.list t) (.list e) l
  | _=>none
 | .sub id off len=>match h id with
  | .arr _ t l=>G2 (.list t) (.list e) ((l.drop off).take len)
  | .ice _ t l=>G2 (.list t) (.list e) ((l.drop off).take len)
  | _=>none
 | _=>none
def O1 (h:Heap) (ak av:Bool) (k v:Ty):SV->Option (List (k.den×v.den))
 | .sc t x=>G2 t (.map ak av k v) x
 | .mp id=>match h id with
  | .mapo ak' av' k' v' l=>G2 (.map ak' av' k' v') (.map ak av k v) l
  | .mice ak' av' k' v' l=>G2 (.map ak' av' k' v') (.map ak av k v) l
  | _=>none
 | _=>none
def D2 (h:Heap):(t:Ty)->List SV->Option (t.den×List SV)
 | .int k,.sc t x::r=>(G2 t (.int k) x).map (·,r)
 | .bool,.sc t x::r=>(G2 t .bool x).map (·,r)
 | .list e,s::r=>(B7 h e s).map (·,r)
 | .map ak av k v,s::r=>(O1 h ak av k v s).map (·,r)
 | .nil,r=>some ((),r)
 | .cons a b,cs=>match D2 h a cs with
  | some (x,r)=>(match D2 h b r with
   | some (y,r')=>some ((x,y),r')
   | none=>none)
  | none=>none
 | _,_=>none
def G9:SV->List Nat
 | .own id=>[id]
 | .sub id _ _=>[id]
 | .mp id=>[id]
 | _=>[]
def F9 (cs:List SV):List Nat:=cs.flatMap G9
def B3 (h:Heap) (ids:List Nat):List (Nat×AObj) :=
 ids.filterMap fun id=>match h id with
  | .arr e t l=>some (id,.ice e t l)
  | .mapo ak av k v l=>some (id,.mice ak av k v l)
  | _=>none
def A5 (ups:List (Nat×AObj)) (h:Heap):Heap:=ups.foldl (fun h p=>upd h p.1 p.2) h
structure FI where
 off:Nat
 size:Nat
 agg:Bool
structure TInfo where
 agg:Bool
 str:Bool
 size:Nat
 bytes:Nat
 zeros:List SV
 flds:List FI
 elem:Option TypeId
 arr:Option (Nat×TypeId)
 ty:Ty
 strg:Bool:=false
 eqo:Option (List (Nat×Bool)):=none
 mp:Option (TypeId×TypeId):=none
inductive RTy where
 | val (agg:Bool) (t:Ty)
 | own (e:TypeId) (t:Ty)
@[reducible] def RTy.den:RTy->Type
 | .val _ t=>t.den
 | .own _ t=>List t.den
@[reducible] def I8:List (Bool×Ty)->Type
 | []=>Unit
 | a::r=>a.2.den×I8 r
@[reducible] def J2:List RTy->Type
 | []=>Unit
 | a::r=>a.den×J2 r
structure Spec where
 args:List (Bool×Ty)
 res:List RTy
 f:I8 args->Option (J2 res)
structure Eff where
 av:AV
 rd:List Nat
 ups:List (Nat×AObj)
 full:Option Heap
 lim:Nat:=0
def Eff.heap (e:Eff) (h:Heap):Heap:=match e.full with
 | some H=>H
 | none=>A5 e.ups h
def D3 (av:AV):Eff:={ av,rd:=[],ups:=[],full:=none }
def E9 (av:AV) (rd:List Nat):Eff:={ av,rd,ups:=[],full:=none }
abbrev q9r:=FuncId->List AV->Heap->(Nat->Bool)->Nat->(R:Type)->(AV->Heap->Option R)->Option R
abbrev q9v:=Nat->List AV->Heap->(Nat->Bool)->(R:Type)->(AV->Heap->Option R)->Option R
structure Ctx where
 TI:TypeId->Option TInfo
 spec:FuncId->Option Spec
 inl:FuncId->Bool
 icall:q9r
 ycall:q9v
 glob:Nat->Option (IntKind×Nat×List Int)
 pur:FuncId->Bool
 nb:Nat->Nat
 srt:FuncId->Bool
 srn:FuncId->Option Nat
 ifc:TypeId->Bool
 meth:TypeId->String->Option FuncId
 dp:Nat->Option KTy
 fz:Nat->List Nat
def j0d:Value->AV
 | .int k n=>.one (.sc (.int k) n)
 | .bool b=>.one (.sc .bool b)
 | .slice none 0 0=>.one .nils
 | .pointer none=>.one .nilp
 | .string b=>.one (.cstr b)
 | .map none=>.one .mpn
 | .nilIface=>.one .nif
 | _=>.one .unk
def ev (ρ:Env):Operand->AV
 | .tmp t=>ρ t
 | .const v=>j0d v
 | .func f=>.one (.fn f [])
 | .global g=>.one (.gl g)
def cellsOf:AV->Option (List SV)
 | .one s=>some [s]
 | .agg l=>some l
 | .tup _=>none
def SV.known:SV->Bool
 | .unk=>false
 | .udf=>false
 | _=>true
def E8 (op:BinOp) (k:IntKind) (x y:Int):Int :=
 let a:=BitVec.ofInt k.bits x
 let b:=BitVec.ofInt k.bits y
 match op with
 | .and=>k.wrap (a &&& b).toNat
 | .or=>k.wrap (a ||| b).toNat
 | .xor=>k.wrap (a ^^^ b).toNat
 | _=>k.wrap (a &&& ~~~b).toNat
def q9c (k:IntKind) (x y:Int):Int:=k.wrap (x*2^(min y.toNat k.bits))
def q38 (k:IntKind) (x y:Int):Int:=x.fdiv (2^(min y.toNat k.bits))
def F0 (k:IntKind) (x:Int):AV:=.one (.sc (.int k) x)
def H8 (b:Bool):AV:=.one (.sc .bool b)
section
variable {R:Type}
def z7i (op:BinOp) (k k':IntKind) (x y:Int) (K:AV->Option R):Option R :=
 match op with
 | .shl=>cond (decide (y<0)) none (K (F0 k (q9c k x y)))
 | .shr=>cond (decide (y<0)) none (K (F0 k (q38 k x y)))
 | op=>match decEq k k' with
  | .isFalse _=>none
  | .isTrue _=>match op with
   | .add=>K (F0 k (k.wrap (x+y)))
   | .sub=>K (F0 k (k.wrap (x-y)))
   | .mul=>K (F0 k (k.wrap (x*y)))
   | .quo=>cond (y==0) none (K (F0 k (k.wrap (x.tdiv y))))
   | .rem=>cond (y==0) none (K (F0 k (x.tmod y)))
   | .and=>K (F0 k (E8 .and k x y))
   | .or=>K (F0 k (E8 .or k x y))
   | .xor=>K (F0 k (E8 .xor k x y))
   | .andNot=>K (F0 k (E8 .andNot k x y))
   | .eql=>K (H8 (x==y))
   | .neq=>K (H8 (x != y))
   | .lss=>K (H8 (decide (x<y)))
   | .leq=>K (H8 (decide (x<=y)))
   | .gtr=>K (H8 (decide (x>y)))
   | .geq=>K (H8 (decide (x≥y)))
   | _=>none
def z8g (op:UnOp) (x:AV) (K:AV->Option R):Option R :=
 match op,x with
 | .neg,.one (.sc (.int k) n)=>K (F0 k (k.wrap (0-n)))
 | .xor,.one (.sc (.int k) n)=>K (F0 k (E8 .xor k (if k.signed then -1 else k.max) n))
 | .not,.one (.sc .bool b)=>K (H8 (!b))
 | _,_=>none
def Z0 (ti:TInfo) (cs:List SV) (off:Nat) (K:AV->Option R):Option R :=
 match ti.agg with
 | true=>cond (Nat.ble (off+ti.size) cs.length) (K (.agg ((cs.drop off).take ti.size))) none
 | false=>match cs[off]? with
  | some s=>K (.one s)
  | none=>none
def C9 {α:Type} (cs:List α) (off:Nat) (vs:List α):List α:=cs.take off++vs++cs.drop (off+vs.length)
def A7 {α:Type} (l:List α) (i:Int):Option α:=cond (decide (0<=i)) l[i.toNat]? none
theorem j5f (α:Type):∃ f:List α->Int->Option α,f=A7:=⟨_,rfl⟩
noncomputable def z1d {α:Type}:List α->Int->Option α:=Classical.choose (j5f α)
theorem z8x {α:Type}:(z1d:List α->Int->Option α)=A7:=Classical.choose_spec (j5f α)
def inB (i:Int) (n:Nat):Bool:=decide (0<=i)&&decide (i<n)
def q6z (ti:TInfo) (h:Heap) (x:AV) (K:Eff->Option R):Option R :=
 match x with
 | .one (.ptr id off)=>match h id with
  | .cells l=>Z0 ti l off fun av=>K (E9 av [id])
  | _=>none
 | .one (.eptr id t i c)=>match h id with
  | .arr _ t' l=>match decEq t t' with
   | .isTrue _=>(l[i]?).bind fun y=>Z0 ti (F6 t' y) c fun av=>K (E9 av [id])
   | .isFalse _=>none
  | .ice _ t' l=>match decEq t t' with
   | .isTrue _=>(l[i]?).bind fun y=>Z0 ti (F6 t' y) c fun av=>K (E9 av [id])
   | .isFalse _=>none
  | _=>none
 | .one (.ro t y c)=>Z0 ti (F6 t y) c fun av=>K (D3 av)
 | .one (.gp k x)=>Z0 ti [.sc (.int k) x] 0 fun av=>K (D3 av)
 | _=>none
def j4k (ti:TInfo) (h:Heap) (x v:AV) (K:Eff->Option R):Option R :=
 match cellsOf v with
 | none=>none
 | some vs=>cond (vs.all SV.known&&Nat.beq vs.length ti.size) (match x with
  | .one (.ptr id off)=>match h id with
   | .cells l=>cond (Nat.ble (off+vs.length) l.length) (K { av:=.one .unk,rd:=[],ups:=[(id,.cells (C9 l off vs))],full:=none }) none
   | _=>none
  | .one (.eptr id t i c)=>match h id with
   | .arr e t' l=>match decEq t t' with
    | .isTrue _=>(l[i]?).bind fun y=>match D2 h t' (C9 (F6 t' y) c vs)with
     | some (y',[])=>cond ((F9 vs).all (fun j=>!Nat.beq j id)&&Nat.ble (c+vs.length) t'.size)
      (K { av:=.one .unk,rd:=F9 vs,ups:=B3 h (F9 vs)++[(id,.arr e t' (l.set i y'))],full:=none }) none
     | _=>none
    | .isFalse _=>none
   | _=>none
  | _=>none) none
def q9a (t:Ty):Nat->List SV->Option (List t.den)
 | 0,[]=>some []
 | 0,_::_=>none
 | n+1,cs=>match D2 (fun _=>.fresh) t (cs.take t.size)with
  | some (y,[])=>(q9a t n (cs.drop t.size)).map (y::·)
  | _=>none
def q05 (t:Ty):List SV->Option (List t.den)
 | []=>some []
 | .sc t' x::r=>(match G2 t' t x,q05 t r with
  | some y,some l=>some (y::l)
  | _,_=>none)
 | _=>none
def H5 (h:Heap) (id:Nat) (K:Option R):Option R:=match h id with
 | .fresh=>K
 | _=>none
def X3 (flds:List FI) (ρ:Operand->AV):List (Nat×Operand)->List SV->Option (List SV)
 | [],cs=>some cs
 | (i,x)::r,cs=>match flds[i]?,cellsOf (ρ x)with
  | some fi,some vs=>cond (Nat.beq vs.length fi.size&&vs.all SV.known&&Nat.ble (fi.off+vs.length) cs.length) (X3 flds ρ r (C9 cs fi.off vs)) none
  | _,_=>none
def Q6 (h:Heap) (t:Ty) (ρ:Operand->AV):Nat->List (Nat×Operand)->Option (List t.den×List Nat)
 | _,[]=>some ([],[])
 | n,(i,x)::r=>cond (Nat.beq i n) (match cellsOf (ρ x)with
  | some vs=>cond (vs.all SV.known) (match D2 h t vs,Q6 h t ρ (n+1) r with
   | some (y,[]),some (l,ids)=>some (y::l,F9 vs++ids)
   | _,_=>none) none
  | none=>none) none
def K6 (x:Option AV) (d:Nat) (K:Int->Option R):Option R:=match x with
 | none=>K d
 | some (.one (.sc (.int _) n))=>K n
 | _=>none
def z81 (sz:Nat) (h:Heap) (x:AV) (lo hi:Option AV) (K:Eff->Option R):Option R :=
 match x with
 | .one (.own id)=>match h id with
  | .arr _ t l=>cond (Nat.beq t.size sz) (K6 lo 0 fun a=>K6 hi l.length fun b =>
   cond (decide (0<=a)&&decide (a<=b)&&decide (b<=l.length)) (K (E9 (.one (.sub id a.toNat (b.toNat-a.toNat))) [id])) none) none
  | .ice _ t l=>cond (Nat.beq t.size sz) (K6 lo 0 fun a=>K6 hi l.length fun b =>
   cond (decide (0<=a)&&decide (a<=b)&&decide (b<=l.length)) (K (E9 (.one (.sub id a.toNat (b.toNat-a.toNat))) [id])) none) none
  | _=>none
 | .one (.sub id off len)=>match h id with
  | .arr _ t _=>cond (Nat.beq t.size sz) (K6 lo 0 fun a=>K6 hi len fun b =>
   cond (decide (0<=a)&&decide (a<=b)&&decide (b<=len)) (K (E9 (.one (.sub id (off+a.toNat) (b.toNat-a.toNat))) [id])) none) none
  | .ice _ t _=>cond (Nat.beq t.size sz) (K6 lo 0 fun a=>K6 hi len fun b =>
   cond (decide (0<=a)&&decide (a<=b)&&decide (b<=len)) (K (E9 (.one (.sub id (off+a.toNat) (b.toNat-a.toNat))) [id])) none) none
  | _=>none
 | .one (.sc (.list t) l)=>cond (Nat.beq t.size sz) (K6 lo 0 fun a=>K6 hi l.length fun b =>
  cond (decide (0<=a)&&decide (a<=b)&&decide (b<=l.length)) (K (D3 (.one (.sc (.list t) ((l.drop a.toNat).take (b.toNat-a.toNat)))))) none) none
 | _=>none
def z7g (sz:Nat) (h:Heap) (x i:AV) (K:Eff->Option R):Option R :=
 match i with
 | .one (.sc (.int _) n)=>match x with
  | .one (.own id)=>match h id with
   | .arr _ t l=>cond (Nat.beq t.size sz&&inB n l.length) (K (E9 (.one (.eptr id t n.toNat 0)) [id])) none
   | .ice _ t l=>cond (Nat.beq t.size sz&&inB n l.length) (K (E9 (.one (.eptr id t n.toNat 0)) [id])) none
   | _=>none
  | .one (.sub id off len)=>match h id with
   | .arr _ t _=>cond (Nat.beq t.size sz&&inB n len) (K (E9 (.one (.eptr id t (off+n.toNat) 0)) [id])) none
   | .ice _ t _=>cond (Nat.beq t.size sz&&inB n len) (K (E9 (.one (.eptr id t (off+n.toNat) 0)) [id])) none
   | _=>none
  | .one (.sc (.list t) l)=>cond (Nat.beq t.size sz&&Nat.ble 1 sz) ((A7 l n).bind fun y=>K (D3 (.one (.ro t y 0)))) none
  | _=>none
 | _=>none
def C2 (n bytes:Nat):Bool:=Nat.ble n 140737488355328&&Nat.ble (n*bytes) 140737488355328
def z6m (e:TypeId) (te:TInfo) (h:Heap) (id':Nat) (s x:AV) (K:Eff->Option R):Option R :=
 match s,x with
 | .one .nils,.one sx=>(match B7 h te.ty sx with
  | some m=>H5 h id' (cond (C2 m.length te.bytes&&Nat.ble 1 te.size&&Nat.beq te.ty.size te.size) (K { av:=.one (.own id'),rd:=G9 sx,ups:=[(id',.arr e te.ty m)],full:=none }) none)
  | none=>none)
 | .one (.own id),.one sx=>match h id with
  | .arr e' t l=>match decEq t te.ty with
   | .isTrue _=>(match B7 h t sx with
    | some m=>H5 h id' (cond (Nat.beq e e'&&C2 (l.length+m.length) te.bytes&&Nat.ble 1 te.size&&Nat.beq te.ty.size te.size)
     (K { av:=.one (.own id'),rd:=G9 sx,ups:=[(id,.dead),(id',.arr e t (l++m))],full:=none }) none)
    | none=>none)
   | .isFalse _=>none
  | _=>none
 | _,_=>none
def F5 (h:Heap):(as:List (Bool×Ty))->List AV->Option (I8 as×List Nat)
 | [],[]=>some ((),[])
 | (true,t)::r,.agg cs::vs=>(match D2 h t cs,F5 h r vs with
  | some (y,[]),some (ys,ids)=>some ((y,ys),F9 cs++ids)
  | _,_=>none)
 | (false,t)::r,.one s::vs=>cond s.known (match D2 h t [s],F5 h r vs with
  | some (y,[]),some (ys,ids)=>some ((y,ys),G9 s++ids)
  | _,_=>none) none
 | _,_=>none
def I7 (id':Nat):(rs:List RTy)->J2 rs->List (Bool×List SV)×List (Nat×AObj)
 | [],_=>([],[])
 | .val agg t::r,y=>let p:=I7 id' r y.2;((agg,F6 t y.1)::p.1,p.2)
 | .own e t::r,y=>let p:=I7 id' r y.2;((false,[.own id'])::p.1,(id',.arr e t y.1)::p.2)
def RTy.isOwn:RTy->Bool
 | .own ..=>true
 | _=>false
def S5:List RTy->Nat
 | []=>0
 | r::rs=>(if r.isOwn then 1 else 0)+S5 rs
def q2h:List RTy->Bool
 | []=>true
 | .val _ t::r=>t.flat&&q2h r
 | .own _ t::r=>t.flat&&q2h r
def q24:List (Bool×List SV)->AV
 | [(true,l)]=>.agg l
 | [(false,[s])]=>.one s
 | l=>.tup l
def z8c (sp:Spec) (h:Heap) (id':Nat) (args:List AV) (K:Eff->Option R):Option R :=
 match F5 h sp.args args with
 | none=>none
 | some (x,ids)=>(sp.f x).bind fun y =>
  let p:=I7 id' sp.res y
  cond (Nat.ble (S5 sp.res) 1&&ids.all (fun j=>!Nat.beq j id')) (H5 h id' (K { av:=q24 p.1,rd:=id'::ids,ups:=cond (q2h sp.res) p.2 (B3 h ids++p.2),full:=none })) none
def y97 (cs:List SV):List Nat:=cs.flatMap fun s=>match s with
 | .ptr id _=>[id]
 | s=>G9 s
def j6s (C:Ctx) (id':Nat) (args:List AV):List Nat:=match C.nb (2*id'+1)with
 | 0=>[]
 | n+1=>(match n with
  | 0=>[]
  | k+1=>[k])++args.flatMap fun a=>match cellsOf a with
  | some cs=>y97 cs
  | none=>[]
def j09 (M:List Nat) (id:Nat):Bool:=M.all fun j=>!Nat.beq j id
theorem j0a {M:List Nat} {id:Nat} (h:id∉M):j09 M id=true:=by
 unfold j09
 rw[List.all_eq_true]
 intro j hj
 have:Nat.beq j id=false:=by
  cases hb:Nat.beq j id with
  | false=>rfl
  | true=>exact absurd (Nat.eq_of_beq_eq_true hb▸hj) h
 rw[this];rfl
def j5x:AV->Bool
 | .one .mpn=>true
 | _=>false
def j1f (C:Ctx) (f:FuncId) (args:List AV):Option Spec:=cond (args.any j5x) none (C.spec f)
theorem j1g {C:Ctx} {f:FuncId} {args:List AV} {sp:Spec} (h:j1f C f args=some sp):C.spec f=some sp:=by
 unfold j1f at h
 cases hb:args.any j5x with
 | true=>rw[hb]at h;cases h
 | false=>rw[hb]at h;exact h
def q4s (C:Ctx) (lo:Nat->Bool) (id':Nat) (f:FuncId) (args:List AV) (h:Heap) (K:Eff->Option R):Option R :=
 match j1f C f args with
 | some sp=>z8c sp h id' args K
 | none=>cond (C.inl f) (cond (C.pur f)
  (C.icall f args h (fun id=>lo id||(Nat.blt id (C.nb (2*id'))&&j09 (j6s C id' args) id)) (C.nb (2*id')) R fun av h'=>K { av,rd:=[],ups:=(j6s C id' args).map fun id=>(id,h' id),full:=some h',lim:=C.nb (2*id') })
  (C.icall f args h lo (C.nb (2*id')) R fun av h'=>K { av,rd:=[],ups:=[],full:=some h' })) none
def z6a (t:Ty) (sp:Spec):Option (t.den->t.den->Option Int):=match sp with
 | ⟨[(false,t1),(false,t2)],[.val false (.int .i64)],f⟩=>some fun x y=>(G2 t t1 x).bind fun x'=>(G2 t t2 y).bind fun y'=>(f (x',y',())).map fun r=>r.1
 | _=>none
noncomputable def z8a (C:Ctx) (caps:List (Nat×Nat)) (args:List AV) (h:Heap) (K:Eff->Option R):Option R :=
 match caps,args with
 | [],[.one (.own id),.one (.fn g [])]=>(match h id,C.spec g with
  | .arr e t l,some sp=>(match z6a t sp with
   | some f=>cond (Nat.beq t.size 1) (cond (C2 l.length 1) ((q0v f l).bind fun z=>K { av:=.tup [],rd:=[],ups:=[(id,.arr e t z)],full:=none }) none) none
   | none=>none)
  | _,_=>none)
 | _,_=>none
def z6b (t:Ty) (sp:Spec):Option (t.den->t.den->Option Int):=match sp with
 | ⟨[(true,t1),(true,t2)],[.val false (.int .i64)],f⟩=>some fun x y=>(G2 t t1 x).bind fun x'=>(G2 t t2 y).bind fun y'=>(f (x',y',())).map fun r=>r.1
 | _=>none
noncomputable def z8b (C:Ctx) (k:Nat) (caps:List (Nat×Nat)) (args:List AV) (h:Heap) (K:Eff->Option R):Option R :=
 match caps,args with
 | [],[.one (.own id),.one (.fn g [])]=>(match h id,C.spec g with
  | .arr e t l,some sp=>(match z6b t sp with
   | some f=>cond (Nat.beq t.size k) (cond (C2 l.length 1) ((q0v f l).bind fun z=>K { av:=.tup [],rd:=[],ups:=[(id,.arr e t z)],full:=none }) none) none
   | none=>none)
  | _,_=>none)
 | [],[.one .nils,.one (.fn _ [])]=>K { av:=.tup [],rd:=[],ups:=[],full:=none }
 | _,_=>none
def q0e (ρ:Operand->AV):List Operand->Option (List (Nat×Nat))
 | []=>some []
 | x::r=>match ρ x,q0e ρ r with
  | .one (.ptr id off),some l=>some ((id,off)::l)
  | _,_=>none
def q3g (l:List (Nat×Nat)):List AV:=l.map fun p=>.one (.ptr p.1 p.2)
def q4h (agg:Bool) (cs:List ((t:Ty)×t.den)):AV:=match agg,cs with
 | true,cs=>.agg (cs.map fun p=>.sc p.1 p.2)
 | false,[p]=>.one (.sc p.1 p.2)
 | false,_=>.one .unk
def q5k:List SV->Option (List ((t:Ty)×t.den))
 | []=>some []
 | .sc t x::r=>match q5k r with
  | some l=>some (⟨t,x⟩::l)
  | none=>none
 | _::_=>none
def q2z:AV->Option (Bool×List ((t:Ty)×t.den))
 | .one (.sc t x)=>some (false,[⟨t,x⟩])
 | .agg l=>match q5k l with
  | some cs=>some (true,cs)
  | none=>none
 | _=>none
def q2c:AV->Option (Nat×List AV×List AV)
 | .one (.fn f caps)=>some (f,[],q3g caps)
 | .one (.bfn f agg cs)=>some (f,[q4h agg cs],[])
 | .one (.bfp f id off)=>some (f,[.one (.ptr id off)],[])
 | _=>none
def S0:Ty->List Bool
 | .int _=>[false]
 | .bool=>[true]
 | .list _=>[false]
 | .map _ _ _ _=>[false]
 | .nil=>[]
 | .cons a b=>S0 a++S0 b
def q28 (agg:Bool) (t:Ty) (y:t.den):List SV:=match agg with
 | true=>F6 t y
 | false=>[.sc t y]
def y0t (agg:Bool) (t:Ty) (y:t.den):AV:=match agg with
 | true=>.agg (F6 t y)
 | false=>.one (.sc t y)
def q5b (ti:TInfo) (ak:Bool) (tk:Ty):Bool :=
 decide (ti.ty=tk)&&(ti.agg==ak)&&tk.flat&&Nat.beq tk.size ti.size&&(match ak,tk,ti.eqo with
  | false,.int _,_=>true
  | true,t,some l=>(List.range ti.size).all (fun i=>l.any fun p=>Nat.beq p.1 i)&&l.all (fun p=>(S0 t)[p.1]? == some p.2)
  | _,_,_=>false)
def q3c (ti:TInfo) (av:Bool) (tv:Ty):Bool:=decide (ti.ty=tv)&&(ti.agg==av)&&Nat.beq tv.size ti.size
def q1q (C:Ctx) (T:TypeId) (ak av:Bool) (tk tv:Ty) (K:TInfo->Option R):Option R:=match C.TI T with
 | some ti=>(match ti.mp with
  | some (k,v)=>(match C.TI k,C.TI v with
   | some tik,some tiv=>cond (q5b tik ak tk&&q3c tiv av tv) (K tiv) none
   | _,_=>none)
  | none=>none)
 | none=>none
def z7r (C:Ctx) (T:TypeId) (h:Heap) (id':Nat) (hint:Option AV) (K:Eff->Option R):Option R :=
 match C.TI T,hint with
 | some ti,none=>(match ti.mp with
  | some (k,v)=>(match C.TI k,C.TI v with
   | some tik,some tiv=>cond (q5b tik tik.agg tik.ty&&q3c tiv tiv.agg tiv.ty) (H5 h id' (K { av:=.one (.mp id'),rd:=[],ups:=[(id',.mapo tik.agg tiv.agg tik.ty tiv.ty [])],full:=none })) none
   | _,_=>none)
  | none=>none)
 | _,_=>none
def q5e (ok:Bool) (av:Bool) (tv:Ty) (y:tv.den) (b:Bool):AV:=match ok with
 | true=>.tup [(av,q28 av tv y),(false,[.sc .bool b])]
 | false=>y0t av tv y
def q4t (C:Ctx) (T:TypeId) (m i:AV) (ok:Bool) (h:Heap) (K:Eff->Option R):Option R :=
 match m with
 | .one (.mp id)=>(match h id with
  | .mapo ak av tk tv l=>q1q C T ak av tk tv fun tiv=>(match F5 h [(ak,tk)] [i],D2 h tv tiv.zeros with
   | some (k,ids),some (z,[])=>K { av:=q5e ok av tv ((A9 tk l k.1).getD z) (A9 tk l k.1).isSome,rd:=id::ids,ups:=[],full:=none }
   | _,_=>none)
  | _=>none)
 | _=>none
def z0n (C:Ctx) (T:TypeId) (m i v:AV) (h:Heap) (K:Eff->Option R):Option R :=
 match m with
 | .one (.mp id)=>(match h id with
  | .mapo ak av tk tv l=>q1q C T ak av tk tv fun _=>(match F5 h [(ak,tk),(av,tv)] [i,v]with
   | some (x,ids)=>cond (ids.all fun j=>!Nat.beq j id) (K { av:=.one .unk,rd:=id::ids,ups:=B3 h ids++[(id,.mapo ak av tk tv (B0 tk l x.1 x.2.1))],full:=none }) none
   | _=>none)
  | _=>none)
 | _=>none
def q6x (C:Ctx) (T:TypeId) (m i:AV) (h:Heap) (id':Nat) (K:Eff->Option R):Option R :=
 match m with
 | .one (.mp id)=>(match h id with
  | .mapo ak av tk tv l=>q1q C T ak av tk tv fun tiv=>(match F5 h [(ak,tk)] [i],D2 h tv tiv.zeros with
   | some (k,ids),some (z,[])=>H5 h id' (K { av:=.tup [(av,q28 av tv ((A9 tk l k.1).getD z)),(false,[.stmp id'])],rd:=id::ids,ups:=[(id',.dead),(id,.mapp ak av tk tv (D0 tk l k.1 z) k.1 id')],full:=none })
   | _,_=>none)
  | _=>none)
 | _=>none
def z7a (m s v:AV) (h:Heap) (K:Eff->Option R):Option R :=
 match m,s with
 | .one (.mp id),.one (.stmp g)=>(match h id with
  | .mapp ak av tk tv l k g'=>(match F5 h [(av,tv)] [v]with
   | some (x,ids)=>cond (Nat.beq g g'&&ids.all fun j=>!Nat.beq j id) (K { av:=.one .unk,rd:=id::ids,ups:=B3 h ids++[(id,.mapo ak av tk tv (B0 tk l k x.1))],full:=none }) none
   | none=>none)
  | _=>none)
 | _,_=>none
def z79 (C:Ctx) (T:TypeId) (m i:AV) (h:Heap) (K:Eff->Option R):Option R :=
 match m with
 | .one (.mp id)=>(match h id with
  | .mapo ak av tk tv l=>q1q C T ak av tk tv fun _=>(match F5 h [(ak,tk)] [i]with
   | some (k,ids)=>K { av:=.tup [],rd:=id::ids,ups:=[(id,.mapo ak av tk tv (G5 tk l k.1))],full:=none }
   | _=>none)
  | _=>none)
 | _=>none
def z7t (C:Ctx) (T:TypeId) (m:AV) (h:Heap) (K:Eff->Option R):Option R :=
 match C.TI T,m with
 | some ti,.one (.mp id)=>(match ti.mp,h id with
  | some _,.mapo _ _ _ _ l=>K (E9 (F0 .i64 l.length) [id])
  | some _,.mice _ _ _ _ l=>K (E9 (F0 .i64 l.length) [id])
  | _,_=>none)
 | some ti,.one (.sc (.map _ _ _ _) l)=>(match ti.mp with
  | some _=>K (D3 (F0 .i64 l.length))
  | none=>none)
 | _,_=>none
def z7u (x:AV) (h:Heap) (K:Eff->Option R):Option R:=match x with
 | .one (.ptr id 0)=>(match h id with
  | .iter _ _ _ _ [] none=>K { av:=.tup [(false,[.sc .bool false])],rd:=[id],ups:=[],full:=none }
  | _=>none)
 | _=>none
def z7y (C:Ctx) (T:TypeId) (x:AV) (h:Heap) (id':Nat) (K:Eff->Option R):Option R :=
 match C.TI T with
 | some ti=>(match ti.mp with
  | some _=>(match x with
   | .one (.sc (.map ak av tk tv) l)=>H5 h id' (K { av:=.one (.ptr id' 0),rd:=[],ups:=[(id',.iter ak av tk tv l none)],full:=none })
   | .one .mpn=>H5 h id' (K { av:=.one (.ptr id' 0),rd:=[],ups:=[(id',.iter false false .bool .bool [] none)],full:=none })
   | _=>none)
  | none=>none)
 | none=>none
def z7j (x:AV) (h:Heap) (K:Eff->Option R):Option R :=
 match x with
 | .one (.ptr id 0)=>(match h id with
  | .iter ak av tk tv _ (some q)=>K (E9 (.tup [(ak,q28 ak tk q.1),(av,q28 av tv q.2)]) [id])
  | _=>none)
 | _=>none
def z6t (args:List AV) (h:Heap) (id':Nat) (K:Eff->Option R):Option R :=
 match args with
 | [.one (.sc (.map ak av tk tv) l)]=>H5 h id' (K { av:=.one (.mp id'),rd:=[],ups:=[(id',.mapo ak av tk tv l)],full:=none })
 | _=>none
def z6r (C:Ctx) (T:TypeId) (m:AV) (h:Heap) (K:Eff->Option R):Option R :=
 match C.TI T,m with
 | some ti,.one (.mp id)=>(match ti.mp,h id with
  | some _,.mapo ak av tk tv _=>K { av:=.tup [],rd:=[],ups:=[(id,.mapo ak av tk tv [])],full:=none }
  | _,_=>none)
 | _,_=>none
def z6s (C:Ctx) (T:TypeId) (id off len:Nat) (h:Heap) (K:Eff->Option R):Option R :=
 match C.TI T with
 | some ti=>(match ti.elem with
  | some e=>(match C.TI e with
   | some te=>(match h id with
    | .arr e' t l=>(match decEq t te.ty,D2 h te.ty te.zeros with
     | .isTrue _,some (z,[])=>(match G2 te.ty t z with
      | some z'=>cond (Nat.beq e e'&&Nat.ble 1 te.size&&Nat.beq te.ty.size te.size)
       (K { av:=.tup [],rd:=[],ups:=[(id,.arr e t (l.take off++List.replicate len z'++l.drop (off+len)))],full:=none }) none
      | none=>none)
     | _,_=>none)
    | _=>none)
   | none=>none)
  | none=>none)
 | none=>none
def z6u (e:TypeId) (te:TInfo) (h:Heap) (s x:AV) (K:Eff->Option R):Option R :=
 match s,x with
 | .one (.own id),.one sx=>(match h id with
  | .arr e' t l=>match decEq t te.ty with
   | .isTrue _=>(match B7 h t sx with
    | some m=>cond (Nat.beq e e'&&Nat.beq te.size 1&&Nat.beq te.ty.size 1)
     (K { av:=F0 .i64 (Nat.min m.length l.length:Nat),rd:=G9 sx,ups:=[(id,.arr e t (m.take l.length++l.drop m.length))],full:=none }) none
    | none=>none)
   | .isFalse _=>none
  | _=>none)
 | _,_=>none
def q4o (t:Ty) (m:List t.den):Nat->List SV->Option (List SV)
 | _,[]=>some []
 | i,.sc t' y::r=>(match G2 t' t y,q4o t m (i+1) r with
  | some y',some r'=>some (.sc t ((m[i]?).getD y')::r')
  | _,_=>none)
 | _,_::_=>none
def z6v (te:TInfo) (h:Heap) (id off len:Nat) (x:AV) (K:Eff->Option R):Option R :=
 match x,h id with
 | .one sx,.cells l=>(match B7 h te.ty sx with
  | some m=>(match q4o te.ty m 0 ((l.drop off).take len)with
   | some mid=>cond (Nat.ble (off+len) l.length&&Nat.beq te.size 1&&Nat.beq te.ty.size 1)
    (K { av:=F0 .i64 (Nat.min m.length len:Nat),rd:=G9 sx,ups:=[(id,.cells (C9 l off mid))],full:=none }) none
   | none=>none)
  | none=>none)
 | _,_=>none
def j4a (C:Ctx) (b:Builtin) (argTypes:List TypeId) (args:List AV) (h:Heap) (id':Nat) (K:Eff->Option R):Option R :=
 match b,args with
 | .clear,[m]=>(match argTypes with
  | [T]=>(match m with
   | .one (.sub id off len)=>z6s C T id off len h K
   | m=>z6r C T m h K)
  | _=>none)
 | .delete,[m,i]=>(match argTypes with
  | [T,_]=>z79 C T m i h K
  | _=>none)
 | .len,[x]=>(match argTypes with
  | [T]=>(match C.TI T with
   | some ti=>(match ti.elem with
    | none=>z7t C T x h K
    | some _=>(match x with
     | .one .nils=>K (D3 (F0 .i64 0))
     | .one (.own id)=>(match h id with
      | .arr _ _ l=>K (E9 (F0 .i64 l.length) [id])
      | .ice _ _ l=>K (E9 (F0 .i64 l.length) [id])
      | _=>none)
     | .one (.sub id _ len)=>(match h id with
      | .arr ..=>K (E9 (F0 .i64 len) [id])
      | .ice ..=>K (E9 (F0 .i64 len) [id])
      | _=>none)
     | .one (.sc (.list _) l)=>K (D3 (F0 .i64 l.length))
     | _=>none))
   | none=>none)
  | _=>none)
 | .append,[s,x]=>(match argTypes with
  | [T,T']=>(match C.TI T with
   | some ti=>(match ti.elem with
    | some e=>(match C.TI e with
     | some te=>cond (Nat.beq T T') (z6m e te h id' s x K) none
     | none=>none)
    | none=>none)
   | none=>none)
  | _=>none)
 | .copy,[s,x]=>(match argTypes with
  | [T,_]=>(match C.TI T with
   | some ti=>(match ti.elem with
    | some e=>(match C.TI e with
     | some te=>(match s with
      | .one (.csl id off len _)=>z6v te h id off len x K
      | s=>z6u e te h s x K)
     | none=>none)
    | none=>none)
   | none=>none)
  | _=>none)
 | .min,[.one (.sc (.int k) x),.one (.sc (.int k') y)]=>(match decEq k k' with
  | .isTrue _=>K (D3 (F0 k (if y<x then y else x)))
  | .isFalse _=>none)
 | .max,[.one (.sc (.int k) x),.one (.sc (.int k') y)]=>(match decEq k k' with
  | .isTrue _=>K (D3 (F0 k (if y>x then y else x)))
  | .isFalse _=>none)
 | _,_=>none
def j4g (te:TInfo) (e:TypeId) (h:Heap) (id':Nat) (n c:Int) (K:Eff->Option R):Option R :=
 match D2 h te.ty te.zeros with
 | some (z,[])=>H5 h id' (cond (decide (0<=n)&&decide (n<=c)&&C2 c.toNat te.bytes&&decide (c<=9223372036854775807)&&Nat.ble 1 te.size&&Nat.beq te.ty.size te.size)
  (K { av:=.one (.own id'),rd:=[],ups:=[(id',.arr e te.ty (List.replicate n.toNat z))],full:=none }) none)
 | _=>none
noncomputable def j4e (C:Ctx) (T:TypeId) (g:Nat) (i:AV) (K:Eff->Option R):Option R :=
 match C.TI T with
 | some ti=>(match ti.arr,C.glob g with
  | some (n,e),some (k,m,l)=>(match C.TI e,i with
   | some te,.one (.sc (.int _) j)=>cond (Nat.beq te.size 1&&Nat.beq m n&&Nat.ble 2 n) ((z1d l j).bind fun y=>K (D3 (.one (.gp k y)))) none
   | _,_=>none)
  | _,_=>none)
 | none=>none
def j4b (C:Ctx) (T:TypeId) (id off:Nat) (i:AV) (K:Eff->Option R):Option R :=
 match C.TI T with
 | some ti=>(match ti.arr with
  | some (n,e)=>(match C.TI e,i with
   | some te,.one (.sc (.int _) j)=>cond (Nat.beq te.size 1&&inB j n) (K (D3 (.one (.ptr id (off+j.toNat))))) none
   | _,_=>none)
  | none=>none)
 | none=>none
def z4x (b:ByteArray):List Int:=b.data.toList.map fun u=>(u.toNat:Int)
def z7b (T:Nat) (args:List AV) (K:Eff->Option R):Option R :=
 match args with
 | [.one .nif]=>K (D3 (F0 .i64 0))
 | [.one (.ifc T' true [⟨.int .i64,v⟩])]=>cond (Nat.beq T' T) (K (D3 (F0 .i64 v))) none
 | _=>none
noncomputable def j4m (C:Ctx) (T:TypeId) (b:ByteArray) (i:AV) (K:Eff->Option R):Option R :=
 match C.TI T with
 | some ti=>(match ti.strg,i with
  | true,.one (.sc (.int _) j)=>(z1d (z4x b) j).bind fun y=>K (D3 (F0 .u8 y))
  | _,_=>none)
 | none=>none
def z0o (C:Ctx) (op:BinOp) (T:TypeId) (b:Bool) (K:Eff->Option R):Option R :=
 match C.TI T with
 | some ti=>(match ti.elem,op with
  | some _,.eql=>K (D3 (H8 b))
  | some _,.neq=>K (D3 (H8 (!b)))
  | _,_=>none)
 | none=>none
def q2e (cs ds:List SV):List (Nat×Bool)->Option Bool
 | []=>some true
 | (o,false)::r=>(match cs[o]?,ds[o]?,q2e cs ds r with
  | some (.sc (.int k) a),some (.sc (.int k') b),some q=>(match decEq k k' with
   | .isTrue _=>some (a==b&&q)
   | .isFalse _=>none)
  | _,_,_=>none)
 | (o,true)::r=>(match cs[o]?,ds[o]?,q2e cs ds r with
  | some (.sc .bool a),some (.sc .bool b),some q=>some (a==b&&q)
  | _,_,_=>none)
def j4c (C:Ctx) (op:BinOp) (T:TypeId) (cs ds:List SV) (K:Eff->Option R):Option R :=
 match C.TI T with
 | some ti=>(match ti.eqo with
  | some l=>(match q2e cs ds l,op with
   | some b,.eql=>cond (Nat.beq cs.length ti.size&&Nat.beq ds.length ti.size) (K (D3 (H8 b))) none
   | some b,.neq=>cond (Nat.beq cs.length ti.size&&Nat.beq ds.length ti.size) (K (D3 (H8 (!b)))) none
   | _,_=>none)
  | none=>none)
 | none=>none
noncomputable def z7v (C:Ctx) (lo:Nat->Bool) (id':Nat) (o:Op) (ρ:Operand->AV) (h:Heap) (K:Eff->Option R):Option R :=
 match o with
 | .move x=>K (D3 (ρ x))
 | .assign x=>K (D3 (ρ x))
 | .pick c a b=>(match ρ c with
  | .one (.sc .bool t)=>cond t (K (D3 (ρ a))) (K (D3 (ρ b)))
  | _=>none)
 | .alloc T=>(match C.TI T with
  | some ti=>H5 h id' (K { av:=.one (.ptr id' 0),rd:=[],ups:=[(id',.cells ti.zeros)],full:=none })
  | none=>none)
 | .box T x=>(match C.TI T,cellsOf (ρ x)with
  | some _,some vs=>H5 h id' (cond (vs.all SV.known) (K { av:=.one (.ptr id' 0),rd:=[],ups:=[(id',.cells vs)],full:=none }) none)
  | _,_=>none)
 | .build T parts=>(match C.TI T with
  | some ti=>cond (ti.str||ti.arr.isSome) (match X3 ti.flds ρ parts.toList ti.zeros with
   | some cs=>K (D3 (.agg cs))
   | none=>none) none
  | none=>none)
 | .buildSlice T len parts=>(match C.TI T with
  | some ti=>(match ti.elem with
   | some e=>(match C.TI e with
    | some te=>(match Q6 h te.ty ρ 0 parts.toList with
     | some (l,ids)=>H5 h id' (cond (Nat.beq l.length len&&Nat.ble (len*te.size) 16777216&&Nat.ble 1 te.size&&Nat.beq te.ty.size te.size&&ids.all (fun j=>!Nat.beq j id'))
      (K { av:=.one (.own id'),rd:=ids,ups:=B3 h ids++[(id',.arr e te.ty l)],full:=none }) none)
     | none=>none)
    | none=>none)
   | none=>none)
  | none=>none)
 | .load T x=>(match C.TI T with
  | some ti=>q6z ti h (ρ x) K
  | none=>none)
 | .store T x v=>(match C.TI T with
  | some ti=>j4k ti h (ρ x) (ρ v) K
  | none=>none)
 | .nilCheck x=>(match ρ x with
  | .one (.ptr id off)=>K (D3 (.one (.ptr id off)))
  | .one (.eptr id t i c)=>K (D3 (.one (.eptr id t i c)))
  | .one (.ro t y c)=>K (D3 (.one (.ro t y c)))
  | _=>none)
 | .binOp op T x y _=>(match ρ x,ρ y with
  | .one (.sc (.int k) a),.one (.sc (.int k') b)=>z7i op k k' a b fun av=>K (D3 av)
  | .one (.sc .bool a),.one (.sc .bool b)=>(match C.TI T with
   | some ti=>(match ti.agg,ti.ty,op with
    | false,.bool,.eql=>K (D3 (H8 (a==b)))
    | false,.bool,.neq=>K (D3 (H8 (a != b)))
    | _,_,_=>none)
   | none=>none)
  | .agg cs,.agg ds=>j4c C op T cs ds K
  | .one (.ne _ _),.one .nils=>z0o C op T false K
  | .one .nx,.one .nils=>z0o C op T true K
  | _,_=>none)
 | .unOp op _ x=>z8g op (ρ x) fun av=>K (D3 av)
 | .convert S T x=>(match C.TI S,C.TI T,ρ x with
  | some _,some ti,.one (.sc (.int _) n)=>(match ti.agg,ti.ty with
   | false,.int k=>K (D3 (F0 k (k.wrap n)))
   | _,_=>none)
  | _,_,_=>none)
 | .makeFunc (.func f) first caps=>(match first.toList,q0e ρ caps.toList with
  | [],some l=>K (D3 (.one (.fn f l)))
  | [a],some []=>(match q2z (ρ a)with
   | some (agg,cs)=>K (D3 (.one (.bfn f agg cs)))
   | none=>none)
  | _,_=>none)
 | .makeSlice T x y=>(match C.TI T with
  | some ti=>(match ti.elem with
   | some e=>(match C.TI e,ρ x,ρ y with
    | some te,.one (.sc (.int .i64) n),.one (.sc (.int .i64) c)=>j4g te e h id' n c K
    | _,_,_=>none)
   | none=>none)
  | none=>none)
 | .makeMap T r=>z7r C T h id' (r.map ρ) K
 | .lookup T x i ok=>q4t C T (ρ x) (ρ i) ok h K
 | .mapUpdate T m k v=>z0n C T (ρ m) (ρ k) (ρ v) h K
 | .insert T m k v=>z0n C T (ρ m) (ρ k) (ρ v) h K
 | .mapEntry T m k=>q6x C T (ρ m) (ρ k) h id' K
 | .entryStore _ m s v=>z7a (ρ m) (ρ s) (ρ v) h K
 | .range T x=>z7y C T (ρ x) h id' K
 | .next x false=>z7u (ρ x) h K
 | .entry x=>z7j (ρ x) h K
 | .slice T x a b none=>(match C.TI T with
  | some ti=>(match ti.arr,ti.elem with
   | some (n,e),_=>(match ρ x,a,b,C.TI e with
    | .one (.ptr id off),none,none,some _=>K (D3 (.one (.csl id off n n)))
    | _,_,_,_=>none)
   | none,el=>(match el with
   | some e=>(match C.TI e with
    | some te=>z81 te.size h (ρ x) (a.map ρ) (b.map ρ) K
    | none=>none)
   | none=>none))
  | none=>none)
 | .fieldAddr T x f=>(match C.TI T with
  | some ti=>cond ti.str (match ti.flds[f]? with
   | some fi=>cond (Nat.ble 1 fi.size) (match ρ x with
    | .one (.ptr id off)=>K (D3 (.one (.ptr id (off+fi.off))))
    | .one (.eptr id t i c)=>K (D3 (.one (.eptr id t i (c+fi.off))))
    | .one (.ro t y c)=>K (D3 (.one (.ro t y (c+fi.off))))
    | _=>none) none
   | none=>none) none
  | none=>none)
 | .field T x f=>(match C.TI T with
  | some ti=>cond ti.str (match ti.flds[f]?,ρ x with
   | some fi,.agg cs=>cond (Nat.ble (fi.off+fi.size) cs.length) (match fi.agg with
    | true=>K (D3 (.agg ((cs.drop fi.off).take fi.size)))
    | false=>(match cs[fi.off]? with
     | some s=>K (D3 (.one s))
     | none=>none)) none
   | _,_=>none) none
  | none=>none)
 | .index T x i=>(match ρ x with
  | .one (.cstr b)=>j4m C T b (ρ i) K
  | _=>match C.TI T with
   | some ti=>(match ti.arr with
    | some (n,e)=>(match C.TI e,ρ x,ρ i with
     | some te,.agg cs,.one (.sc (.int _) k)=>(match te.agg with
      | true=>(match q9a te.ty n cs with
       | some l=>cond (Nat.beq te.size te.ty.size) ((A7 l k).bind fun y=>K (D3 (.agg (F6 te.ty y)))) none
       | none=>none)
      | false=>(match q05 te.ty cs with
       | some l=>cond (Nat.beq te.size 1&&Nat.beq te.ty.size 1&&Nat.beq cs.length n) ((A7 l k).bind fun y=>K (D3 (.one (.sc te.ty y)))) none
       | none=>none))
     | _,_,_=>none)
    | none=>none)
   | none=>none)
 | .indexAddr T x i=>(match ρ x with
  | .one (.gl g)=>j4e C T g (ρ i) K
  | .one (.ptr id off)=>j4b C T id off (ρ i) K
  | _=>match C.TI T with
   | some ti=>(match ti.elem with
    | some e=>(match C.TI e with
     | some te=>z7g te.size h (ρ x) (ρ i) K
     | none=>none)
    | none=>none)
   | none=>none)
 | .extract t i=>(match ρ t with
  | .tup l=>(match l[i]? with
   | some (true,cs)=>K (D3 (.agg cs))
   | some (false,[s])=>K (D3 (.one s))
   | _=>none)
  | _=>none)
 | .call { callee:=.builtin b,args,argTypes }=>j4a C b argTypes.toList (args.toList.map ρ) h id' K
 | .call { callee:=.value g,args,.. }=>(match ρ g with
  | .one (.fn f caps)=>cond (C.srt f) (z8a C caps (args.toList.map ρ) h K) (match C.srn f with
   | some 0=>cond caps.isEmpty (z6t (args.toList.map ρ) h id' K) none
   | some (k+1)=>cond (Nat.ble 1048575 k) (cond caps.isEmpty (z7b (k-1048575) (args.toList.map ρ) K) none) (z8b C (k+1) caps (args.toList.map ρ) h K)
   | none=>q4s C lo id' f (args.toList.map ρ++q3g caps) h K)
  | .one (.bfn f agg cs)=>q4s C lo id' f ([q4h agg cs]++args.toList.map ρ++[]) h K
  | .one (.yld id)=>C.ycall id (args.toList.map ρ) h lo R fun av h'=>K { av,rd:=[],ups:=[],full:=some h' }
  | _=>none)
 | _=>none
def z87 (C:Ctx) (T:TypeId) (lo hi:Option AV) (K:Eff->Option R):Option R :=
 match C.TI T with
 | some ti=>(match ti.elem with
  | some e=>(match C.TI e with
   | some _=>K6 lo 0 fun a=>K6 hi 0 fun b=>cond (decide (0<=a)&&decide (a<=b)&&decide (b<=0)) (K (D3 (.one .nils))) none
   | none=>none)
  | none=>none)
 | none=>none
def z6w (C:Ctx) (T:TypeId) (h:Heap) (id id':Nat) (hi:Option AV) (K:Eff->Option R):Option R :=
 match C.TI T with
 | some ti=>(match ti.elem with
  | some e=>(match C.TI e,h id with
   | some te,.arr e' t l=>K6 hi l.length fun b=>cond (Nat.beq t.size te.size&&decide (0<=b)&&decide (b<=l.length))
    (H5 h id' (K { av:=.one (.own id'),rd:=[],ups:=[(id,.dead),(id',.arr e' t (l.take b.toNat))],full:=none })) none
   | _,_=>none)
  | none=>none)
 | none=>none
def z6x (C:Ctx) (T:TypeId) (h:Heap) (id id':Nat) (lo:AV) (K:Eff->Option R):Option R :=
 match C.TI T with
 | some ti=>(match ti.elem with
  | some e=>(match C.TI e,h id with
   | some te,.arr e' t l=>K6 (some lo) 0 fun a=>cond (Nat.beq t.size te.size&&decide (0<=a)&&decide (a<=l.length))
    (H5 h id' (K { av:=.one (.own id'),rd:=[],ups:=[(id,.dead),(id',.arr e' t (l.drop a.toNat))],full:=none })) none
   | _,_=>none)
  | none=>none)
 | none=>none
def z6q (C:Ctx) (T:TypeId) (K:Eff->Option R):Option R :=
 match C.TI T with
 | some ti=>(match ti.elem with
  | some _=>K (D3 (F0 .i64 0))
  | none=>none)
 | none=>none
def z6o (C:Ctx) (T T':TypeId) (n:Int) (h:Heap) (id':Nat) (K:Eff->Option R):Option R :=
 match C.TI T,C.TI T' with
 | some ti,some ti'=>(match ti.elem,ti'.agg,ti'.ty with
  | some e,false,.int _=>(match C.TI e with
   | some te=>(match D2 h te.ty te.zeros with
    | some (z,[])=>H5 h id' (cond (decide (0<=n)&&C2 n.toNat te.bytes&&Nat.ble 1 te.size&&Nat.beq te.ty.size te.size)
     (K { av:=.one (.own id'),rd:=[],ups:=[(id',.arr e te.ty (List.replicate n.toNat z))],full:=none }) none)
    | _=>none)
   | none=>none)
  | _,_,_=>none)
 | _,_=>none
def z7f (C:Ctx) (T:TypeId) (x:AV) (K:Eff->Option R):Option R :=
 match C.TI T,q2z x with
 | some ti,some (agg,cs)=>cond ti.str (K (D3 (.one (.ifc T agg cs)))) none
 | _,_=>none
def z0p (C:Ctx) (op:BinOp) (T:TypeId) (b:Bool) (K:Eff->Option R):Option R :=
 cond (C.ifc T) (match op with
  | .eql=>K (D3 (H8 b))
  | .neq=>K (D3 (H8 (!b)))
  | _=>none) none
def z7x (lo:Nat->Bool) (x:AV) (h:Heap) (K:Eff->Option R):Option R :=
 match x,h C0 with
 | .one (.ifc T true []),.fresh=>cond (!lo C0) (K { av:=.one (.pan T),rd:=[],ups:=[],full:=some (upd h C0 (K5 T)) }) none
 | _,_=>none
noncomputable def j4f (C:Ctx) (lo:Nat->Bool) (id':Nat) (T:TypeId) (name:String) (agg:Bool) (cs:List ((t:Ty)×t.den)) (args:List AV) (h:Heap) (K:Eff->Option R):Option R :=
 match C.meth T name with
 | some f=>q4s C lo id' f ([q4h agg cs]++args++[]) h K
 | none=>none
def isX (C:Ctx) (id':Nat) (o:Op) (ρ:Operand->AV):Bool :=
 match o with
 | .slice _ x _ _ none=>(match ρ x with
  | .one .nils=>true
  | .one (.own _)=>Nat.beq (C.nb (2*id'+1)) 1
  | _=>false)
 | .call { callee:=.builtin .cap,.. }=>true
 | .call { callee:=.builtin .append,args,.. }=>(match args.toList.map ρ with
  | [.one .nils,.one (.sc (.int _) _)]=>true
  | _=>false)
 | .makeInterface _ _=>true
 | .panic _=>true
 | .binOp _ _ x (.const .nilIface) _=>(match ρ x with
  | .one (.ifc ..)=>true
  | .one .nif=>true
  | _=>false)
 | .call { callee:=.invoke ..,.. }=>true
 | _=>false
noncomputable def z8h (C:Ctx) (lo:Nat->Bool) (id':Nat) (o:Op) (ρ:Operand->AV) (h:Heap) (K:Eff->Option R):Option R :=
 match o with
 | .slice T x lo hi none=>(match ρ x with
  | .one .nils=>z87 C T (lo.map ρ) (hi.map ρ) K
  | .one (.own id)=>(match lo,hi with
   | none,hi=>z6w C T h id id' (hi.map ρ) K
   | some lo,none=>z6x C T h id id' (ρ lo) K
   | some _,some _=>none)
  | _=>none)
 | .call { callee:=.builtin .cap,args,argTypes }=>(match args.toList.map ρ,argTypes.toList with
  | [.one .nils],[T]=>z6q C T K
  | _,_=>none)
 | .call { callee:=.builtin .append,args,argTypes }=>(match args.toList.map ρ,argTypes.toList with
  | [.one .nils,.one (.sc (.int .i64) n)],[T,T']=>z6o C T T' n h id' K
  | _,_=>none)
 | .makeInterface T x=>z7f C T (ρ x) K
 | .panic x=>z7x lo (ρ x) h K
 | .binOp op T x (.const .nilIface) _=>(match ρ x with
  | .one (.ifc ..)=>z0p C op T false K
  | .one .nif=>z0p C op T true K
  | _=>none)
 | .call { callee:=.invoke r name,args,.. }=>(match ρ r with
  | .one (.ifc T agg cs)=>j4f C lo id' T name agg cs (args.toList.map ρ) h K
  | _=>none)
 | _=>none
noncomputable def q70 (C:Ctx) (lo:Nat->Bool) (id':Nat) (o:Op) (ρ:Operand->AV) (h:Heap) (K:Eff->Option R):Option R :=
 cond (isX C id' o ρ) (z8h C lo id' o ρ h K) (z7v C lo id' o ρ h K)
def P5 {α:Type} (o:Option α) (a:Option R) (b:α->Option R):Option R:=match o with
 | none=>a
 | some x=>b x
def KTy.zero:(t:KTy)->t.den
 | .arr _ _=>[]
 | .map _ _ _ _=>none
 | .ptr _=>none
def KTy.zeroB:KTy->List SV->Bool
 | .arr _ _,[.nils]=>true
 | .map _ _ _ _,[.mpn]=>true
 | .ptr _,[.nilp]=>true
 | _,_=>false
def KTy.back (h:Heap):(t:KTy)->AObj->Option t.den
 | .arr e t,.arr e' t' l=>cond (Nat.beq e e') (G2 (.list t') (.list t) l) none
 | .map ak av k v,.mapo ak' av' k' v' l=>(G2 (.map ak' av' k' v') (.map ak av k v) l).map some
 | .ptr t,.cells cs=>cond (F9 cs).isEmpty (match D2 h t cs with
  | some (x,[])=>some (some x)
  | _=>none) none
 | _,_=>none
def q3u (id':Nat) (t:KTy) (x:t.den) (K:SV->Option AObj->Option R):Option R:=match t,x with
 | .arr e t,l=>K (.own id') (some (.arr e t l))
 | .map ak av k v,x=>P5 x (K .mpn none) fun l=>K (.mp id') (some (.mapo ak av k v l))
 | .ptr t,x=>P5 x (K .nilp none) fun y=>K (.ptr id' 0) (some (.cells (F6 t y)))
def q8m (h:Heap) (t:KTy) (s:SV):Option (t.den×Nat):=match t,s with
 | .arr e t,.own g=>((KTy.arr e t).back h (h g)).map (·,g)
 | .map ak av k v,.mp g=>((KTy.map ak av k v).back h (h g)).map (·,g)
 | .ptr t,.ptr g off=>cond (Nat.beq off 0) (((KTy.ptr t).back h (h g)).map (·,g)) none
 | _,_=>none
def z9h:AObj->Bool
 | .dead=>true
 | _=>false
def T8 {β:Type} (t:Ty) (l:List (t.den×β)) (k:t.den) (x:β):List (t.den×β):=l.map fun p=>cond (t.eqb k p.1) (p.1,x) p
def M2 (h:Heap) (t:KTy) (l:List t.den) (f:Option (Nat×Nat)):Option (List t.den×List (Nat×AObj)):=match f with
 | none=>some (l,[])
 | some (i,g)=>(t.back h (h g)).map fun x=>(l.set i x,[(g,.dead)])
def V0 (h:Heap) (tk:Ty) (t:KTy) (l:List (tk.den×t.den)) (f:Option (tk.den×Nat)):Option (List (tk.den×t.den)×List (Nat×AObj)):=match f with
 | none=>some (l,[])
 | some (k,g)=>(t.back h (h g)).map fun x=>(T8 tk l k x,[(g,.dead)])
def z0j (t:Ty) (c:Nat) (y:t.den):List SV:=(F6 t y).set c .unk
def z7m (ti:TInfo) (h:Heap) (id':Nat) (id:Nat) (tt:Ty) (i c:Nat) (K:Eff->Option R):Option R:=match h id with
 | .arrK e t c0 t1 l k f=>cond (Nat.beq tt.size t.size) (cond (Nat.beq c c0&&Nat.beq ti.size 1&&!ti.agg)
  (match M2 h t1 k f with
   | some (k1,u)=>(k1[i]?).bind fun y=>H5 h id' (q3u id' t1 y fun s o=>match o with
    | some o=>K { av:=.one s,rd:=[id],ups:=u++[(id,.arrK e t c0 t1 l k1 (some (i,id'))),(id',o)],full:=none }
    | none=>K { av:=.one s,rd:=[id],ups:=u++[(id,.arrK e t c0 t1 l k1 none)],full:=none })
   | none=>none)
  ((l[i]?).bind fun y=>Z0 ti (z0j t c0 y) c fun av=>K (E9 av [id]))) none
 | _=>none
def z8f (ti:TInfo) (h:Heap) (id:Nat) (tt:Ty) (i c:Nat) (v:AV) (K:Eff->Option R):Option R:=match h id with
 | .arrK e t c0 t1 l k f=>cond (Nat.beq tt.size t.size) (cond (Nat.beq c c0&&Nat.beq ti.size 1)
  (match v with
   | .one s=>(match q8m h t1 s with
    | some (x,g0)=>(k[i]?).bind fun _=>cond (match f with
      | none=>true
      | some (j,g)=>(z9h (h g)||Nat.beq g g0)&&Nat.beq i j)
     (K { av:=.one .unk,rd:=[id],ups:=[(g0,.dead),(id,.arrK e t c0 t1 l (k.set i x) none)],full:=none }) none
    | none=>none)
   | _=>none)
  (match cellsOf v with
   | some vs=>cond (vs.all SV.known&&Nat.beq vs.length ti.size&&(Nat.ble (c+vs.length) c0||Nat.ble (c0+1) c)&&Nat.ble (c+vs.length) t.size&&(F9 vs).isEmpty)
    ((l[i]?).bind fun y=>match D2 h t (C9 (F6 t y) c vs)with
     | some (y',[])=>K { av:=.one .unk,rd:=[],ups:=[(id,.arrK e t c0 t1 (l.set i y') k f)],full:=none }
     | _=>none) none
   | none=>none)) none
 | _=>none
def j68 (ρ:Operand->AV) (c:Nat) (parts:List (Nat×Operand)):Bool:=parts.all fun q=>match cellsOf (ρ q.2)with
 | some vs=>(match vs[c]? with
  | some .nils=>true
  | _=>false)
 | none=>false
def dpK (C:Ctx) (id':Nat):Nat->Option (Nat×KTy)
 | 0=>none
 | n+1=>match C.dp (id'+1048576*(n+1))with
  | some t=>some (n,t)
  | none=>dpK C id' n
def z6p (te:TInfo) (e:TypeId) (len:Nat) (c:Nat) (t1:KTy) (ρ:Operand->AV) (parts:List (Nat×Operand)) (h:Heap) (id':Nat) (K:Eff->Option R):Option R:=match t1,Q6 h te.ty ρ 0 parts with
 | .arr e1 t1,some (l,[])=>H5 h id' (cond (Nat.beq l.length len&&Nat.ble (len*te.size) 16777216&&Nat.ble (c+1) te.size&&Nat.beq te.ty.size te.size&&j68 ρ c parts)
  (K { av:=.one (.own id'),rd:=[],ups:=[(id',.arrK e te.ty c (.arr e1 t1) l (List.replicate l.length []) none)],full:=none }) none)
 | _,_=>none
def j3h (t1 t2:KTy) (l:List t2.den):Option (List t1.den):=match decEq t2 t1 with
 | .isTrue e=>some (e▸l)
 | .isFalse _=>none
def z6n (te:TInfo) (e:TypeId) (h:Heap) (id' id id2:Nat) (K:Eff->Option R):Option R:=match h id,h id2 with
 | .arrK e1 t c t1 l k f,.arrK e2 t2 c2 t1' l2 k2 none=>(match M2 h t1 k f,G2 (.list t2) (.list t) l2,j3h t1 t1' k2 with
  | some (k1,u),some m,some n=>H5 h id' (cond (Nat.beq e e1&&Nat.beq e e2&&Nat.beq c c2&&Nat.beq t.size te.size&&C2 (l.length+m.length) te.bytes&&!Nat.beq id id2&&Nat.beq k1.length l.length&&Nat.beq n.length m.length&&Nat.ble 1 l.length&&Nat.ble 1 m.length)
   (K { av:=.one (.own id'),rd:=[id,id2],ups:=u++[(id,.dead),(id2,.dead),(id',.arrK e t c t1 (l++m) (k1++n) none)],full:=none }) none)
  | _,_,_=>none)
 | _,_=>none
def Ty.setL:(t:Ty)->Nat->(e:Ty)->t.den->List e.den->Option t.den
 | .list s,0,e,_,x=>G2 (.list e) (.list s) x
 | .cons a b,c,e,y,x=>cond (Nat.ble (c+1) a.size) ((a.setL c e y.1 x).map fun z=>(z,y.2)) ((b.setL (c-a.size) e y.2 x).map fun z=>(y.1,z))
 | _,_,_,_,_=>none
def q1r (t:Ty) (c:Nat) (e:Ty):List t.den->List (List e.den)->Option (List t.den)
 | [],[]=>some []
 | y::l,x::k=>(t.setL c e y x).bind fun z=>(q1r t c e l k).map (z::·)
 | _,_=>none
def z7l (ti:TInfo) (h:Heap) (id':Nat) (id:Nat) (tt:Ty) (i c:Nat) (K:Eff->Option R):Option R:=match h id with
 | .arrD e t l f=>(match M2 h t l f with
  | some (l1,u)=>cond (Nat.beq tt.size 1&&Nat.beq c 0&&Nat.beq ti.size 1&&!ti.agg) ((l1[i]?).bind fun y=>H5 h id' (q3u id' t y fun s o=>match o with
   | some o=>K { av:=.one s,rd:=[id],ups:=u++[(id,.arrD e t l1 (some (i,id'))),(id',o)],full:=none }
   | none=>K { av:=.one s,rd:=[id],ups:=u++[(id,.arrD e t l1 none)],full:=none })) none
  | none=>none)
 | _=>none
def z8e (ti:TInfo) (h:Heap) (id:Nat) (tt:Ty) (i c:Nat) (v:AV) (K:Eff->Option R):Option R:=match h id,v with
 | .arrD e t l f,.one s=>(match q8m h t s with
  | some (x,g0)=>cond (Nat.beq tt.size 1&&Nat.beq c 0&&Nat.beq ti.size 1) ((l[i]?).bind fun _=>match f with
   | none=>K { av:=.one .unk,rd:=[id],ups:=[(g0,.dead),(id,.arrD e t (l.set i x) none)],full:=none }
   | some (j,g)=>(match z9h (h g)||Nat.beq g g0 with
    | true=>cond (Nat.beq i j) (K { av:=.one .unk,rd:=[id],ups:=[(g0,.dead),(id,.arrD e t (l.set i x) none)],full:=none }) none
    | false=>(match M2 h t l (some (j,g))with
     | some (l1,u)=>K { av:=.one .unk,rd:=[id],ups:=u++[(id,.arrD e t l1 none),(g0,.dead),(id,.arrD e t (l1.set i x) none)],full:=none }
     | none=>none))) none
  | none=>none)
 | _,_=>none
def z7h (te:TInfo) (h:Heap) (id:Nat) (i:AV) (K:Eff->Option R):Option R:=match h id,i with
 | .arrD _ _ l _,.one (.sc (.int _) n)=>cond (Nat.beq te.size 1&&inB n l.length) (K (E9 (.one (.eptr id (.int .i64) n.toNat 0)) [id])) none
 | _,_=>none
def z7q (te:TInfo) (e:TypeId) (t:KTy) (h:Heap) (id':Nat) (n c:Int) (K:Eff->Option R):Option R :=
 H5 h id' (cond (decide (0<=n)&&decide (n<=c)&&C2 c.toNat te.bytes&&decide (c<=9223372036854775807)&&Nat.beq te.size 1&&t.zeroB te.zeros)
  (K { av:=.one (.own id'),rd:=[],ups:=[(id',.arrD e t (List.replicate n.toNat t.zero) none)],full:=none }) none)
def z7s (C:Ctx) (T:TypeId) (t:KTy) (h:Heap) (id':Nat) (K:Eff->Option R):Option R:=match C.TI T with
 | some ti=>(match ti.mp with
  | some (k,v)=>(match C.TI k,C.TI v with
   | some tik,some tiv=>cond (q5b tik tik.agg tik.ty&&Nat.beq tiv.size 1&&!tiv.agg&&t.zeroB tiv.zeros) (H5 h id' (K { av:=.one (.mp id'),rd:=[],ups:=[(id',.mapD tik.agg tik.ty t [] none)],full:=none })) none
   | _,_=>none)
  | none=>none)
 | none=>none
def z2e (C:Ctx) (T:TypeId) (ak:Bool) (tk:Ty) (t:KTy) (K:Option R):Option R:=match C.TI T with
 | some ti=>(match ti.mp with
  | some (k,v)=>(match C.TI k,C.TI v with
   | some tik,some tiv=>cond (q5b tik ak tk&&Nat.beq tiv.size 1&&!tiv.agg&&t.zeroB tiv.zeros) K none
   | _,_=>none)
  | none=>none)
 | none=>none
def z7p (C:Ctx) (T:TypeId) (id:Nat) (i:AV) (h:Heap) (id':Nat) (K:Eff->Option R):Option R:=match h id with
 | .mapD ak tk t l f=>(match V0 h tk t l f,F5 h [(ak,tk)] [i]with
  | some (l1,u),some (k,[])=>z2e C T ak tk t (H5 h id' (q3u id' t ((A9 tk l1 k.1).getD t.zero) fun s o=>match o with
   | some o=>K { av:=.one s,rd:=[id,id],ups:=u++[(id,.mapD ak tk t l1 (some (k.1,id'))),(id',o)],full:=none }
   | none=>K { av:=.one s,rd:=[id,id],ups:=u++[(id,.mapD ak tk t l1 none)],full:=none }))
  | _,_=>none)
 | _=>none
def z0u (C:Ctx) (T:TypeId) (id:Nat) (i v:AV) (h:Heap) (K:Eff->Option R):Option R:=match h id,v with
 | .mapD ak tk t l f,.one s=>(match q8m h t s,F5 h [(ak,tk)] [i]with
  | some (x,g0),some (k,[])=>z2e C T ak tk t (match f with
   | none=>K { av:=.one .unk,rd:=[id],ups:=[(g0,.dead),(id,.mapD ak tk t (B0 tk l k.1 x) none)],full:=none }
   | some (j,g)=>(match z9h (h g)||Nat.beq g g0 with
    | true=>cond (tk.eqb j k.1) (K { av:=.one .unk,rd:=[id],ups:=[(g0,.dead),(id,.mapD ak tk t (B0 tk l k.1 x) none)],full:=none }) none
    | false=>(match V0 h tk t l (some (j,g))with
     | some (l1,u)=>K { av:=.one .unk,rd:=[id],ups:=u++[(id,.mapD ak tk t l1 none),(g0,.dead),(id,.mapD ak tk t (B0 tk l1 k.1 x) none)],full:=none }
     | none=>none)))
  | _,_=>none)
 | _,_=>none
def z0q (C:Ctx) (op:BinOp) (T:TypeId) (b:Bool) (K:Eff->Option R):Option R :=
 match C.TI T with
 | some ti=>(match ti.mp,op with
  | some _,.eql=>K (D3 (H8 b))
  | some _,.neq=>K (D3 (H8 (!b)))
  | _,_=>none)
 | none=>none
def q6g {α β:Type}:List (α×Option β)->Option (List (α×β))
 | []=>some []
 | (a,some b)::r=>(q6g r).map ((a,b)::·)
 | (_,none)::_=>none
def z8t (h:Heap) (id:Nat) (K:List (Nat×AObj)->Option R):Option R:=match h id with
 | .arrD e (.arr e' t) l f=>(match M2 h (.arr e' t) l f with
  | some (l1,u)=>K (u++[(id,.ice e (.list t) l1)])
  | none=>none)
 | .mapD ak tk (.arr e' t) l f=>(match V0 h tk (.arr e' t) l f with
  | some (l1,u)=>K (u++[(id,.mice ak false tk (.list t) l1)])
  | none=>none)
 | .mapD ak tk (.map ak2 av2 k v) l f=>(match V0 h tk (.map ak2 av2 k v) l f with
  | some (l1,u)=>(q6g l1).bind fun l2=>K (u++[(id,.mice ak false tk (.map ak2 av2 k v) l2)])
  | none=>none)
 | .fresh=>K []
 | .dead=>K []
 | _=>none
def z0z (K:List (Nat×AObj)->Heap->Option R):List Nat->List (Nat×AObj)->Heap->Option R
 | [],u,h=>K u h
 | id::r,u,h=>z8t h id fun v=>z0z K r (u++v) (A5 v h)
def q3q (h:Heap):AV->Bool
 | .one (.eptr id _ _ _)=>(match h id with
  | .arrD ..=>true
  | _=>false)
 | .one (.own id)=>(match h id with
  | .arrD ..=>true
  | _=>false)
 | .one (.mp id)=>(match h id with
  | .mapD ..=>true
  | _=>false)
 | _=>false
def j5v (C:Ctx):AV->Bool
 | .one (.ptr id _)=>(match C.dp id with
  | some (.ptr _)=>true
  | _=>false)
 | _=>false
def q37 (t:Ty) (off:Nat) (y:t.den):Nat->List t.den->List SV
 | _,[]=>[]
 | j,x::r=>.sc t (cond (Nat.beq off j) y x)::q37 t off y (j+1) r
def z7n (ti:TInfo) (h:Heap) (id off:Nat) (K:Eff->Option R):Option R:=match h id with
 | .cells l=>(match q05 ti.ty l with
  | some vs=>cond (!ti.agg) ((vs[off]?).bind fun x=>K (E9 (.one (.sc ti.ty x)) [id])) none
  | none=>none)
 | _=>none
def j4l (ti:TInfo) (h:Heap) (id off:Nat) (v:AV) (K:Eff->Option R):Option R:=match h id,v with
 | .cells l,.one (.sc t y)=>(match q05 ti.ty l,G2 t ti.ty y with
  | some vs,some y=>cond (Nat.beq ti.size 1&&Nat.ble (off+1) l.length) (K { av:=.one .unk,rd:=[],ups:=[(id,.cells (q37 ti.ty off y 0 vs))],full:=none }) none
  | _,_=>none)
 | _,_=>none
def z86 (C:Ctx) (T:TypeId) (h:Heap) (id off:Nat) (hi:AV) (K:Eff->Option R):Option R:=match C.TI T with
 | some ti=>(match ti.arr with
  | some (n,e)=>(match C.TI e,h id with
   | some te,.cells l=>(match q05 te.ty ((l.drop off).take n)with
    | some vs=>K6 (some hi) 0 fun q=>cond (Nat.beq vs.length n&&Nat.beq te.size 1&&Nat.beq te.ty.size 1&&decide (0<=q)&&decide (q<=n))
     (K { av:=.one (.sc (.list te.ty) (vs.take q.toNat)),rd:=[],ups:=[(id,.dead)],full:=none }) none
    | none=>none)
   | _,_=>none)
  | none=>none)
 | none=>none
def z89 (C:Ctx) (T:TypeId) (h:Heap) (id off:Nat) (hi:AV) (K:Eff->Option R):Option R:=match C.TI T with
 | some ti=>(match ti.arr with
  | some (n,e)=>(match C.TI e,h id with
   | some te,.cells _=>K6 (some hi) 0 fun q=>cond (Nat.beq te.size 1&&decide (0<=q)&&decide (q<=n)) (K (D3 (.one (.csl id off q.toNat n)))) none
   | _,_=>none)
  | none=>none)
 | none=>none
def z8d (C:Ctx) (h:Heap) (id':Nat) (f:FuncId) (id off len cap:Nat) (K:Eff->Option R):Option R:=match C.spec f with
 | some ⟨[(false,.list e)],rs,g⟩=>(match h id with
  | .cells l=>(match q05 e ((l.drop off).take cap)with
   | some vs=>cond (Nat.beq vs.length cap&&Nat.beq e.size 1&&q2h rs&&Nat.ble (S5 rs) 1&&!Nat.beq id id') (cond (Nat.ble len cap) ((g (vs.take len,())).bind fun y =>
    H5 h id' (K { av:=q24 (I7 id' rs y).1,rd:=[id',id],ups:=(I7 id' rs y).2,full:=none })) none) none
   | none=>none)
  | _=>none)
 | _=>none
def y7e:AV->Bool
 | .one (.mp _)=>true
 | .one .mpn=>true
 | _=>false
def y7c (C:Ctx) (id':Nat) (o:Op) (ρ:Operand->AV) (h:Heap):Bool :=
 match o with
 | .load _ x=>q3q h (ρ x)||j5v C (ρ x)
 | .store _ x _=>q3q h (ρ x)||j5v C (ρ x)
 | .indexAddr _ x _=>q3q h (ρ x)
 | .lookup _ m _ false=>q3q h (ρ m)
 | .mapUpdate _ m _ _=>q3q h (ρ m)
 | .insert _ m _ _=>q3q h (ρ m)
 | .makeSlice _ _ _=>(C.dp id').isSome
 | .makeMap _ none=>(C.dp id').isSome
 | .binOp _ _ x (.const (.map none)) _=>y7e (ρ x)
 | .slice _ x none (some _) none=>(match ρ x with
  | .one (.ptr _ _)=>true
  | _=>false)
 | .makeFunc (.func _) first _=>(match first.toList.map ρ with
  | [.one (.ptr _ _)]=>true
  | _=>false)
 | .call { callee:=.builtin .len,args,.. }=>(match args.toList.map ρ with
  | [x]=>q3q h x
  | _=>false)
 | .call { callee:=.value g,args,.. }=>(match ρ g,args.toList.map ρ with
  | .one (.fn f []),[.one (.csl _ _ _ _)]=>(C.spec f).isSome
  | _,_=>false)
 | _=>false
noncomputable def z6z (C:Ctx) (id':Nat) (o:Op) (ρ:Operand->AV) (h:Heap) (K:Eff->Option R):Option R :=
 match o with
 | .load T x=>(match C.TI T,ρ x with
  | some ti,.one (.eptr id tt i c)=>z7l ti h id' id tt i c K
  | some ti,.one (.ptr id off)=>z7n ti h id off K
  | _,_=>none)
 | .store T x v=>(match C.TI T,ρ x with
  | some ti,.one (.eptr id tt i c)=>z8e ti h id tt i c (ρ v) K
  | some ti,.one (.ptr id off)=>j4l ti h id off (ρ v) K
  | _,_=>none)
 | .indexAddr T x i=>(match C.TI T,ρ x with
  | some ti,.one (.own id)=>(match ti.elem with
   | some e=>(match C.TI e with
    | some te=>z7h te h id (ρ i) K
    | none=>none)
   | none=>none)
  | _,_=>none)
 | .lookup T m i false=>(match ρ m with
  | .one (.mp id)=>z7p C T id (ρ i) h id' K
  | _=>none)
 | .mapUpdate T m k v=>(match ρ m with
  | .one (.mp id)=>z0u C T id (ρ k) (ρ v) h K
  | _=>none)
 | .insert T m k v=>(match ρ m with
  | .one (.mp id)=>z0u C T id (ρ k) (ρ v) h K
  | _=>none)
 | .makeSlice T x y=>(match C.TI T,C.dp id',ρ x,ρ y with
  | some ti,some t,.one (.sc (.int .i64) n),.one (.sc (.int .i64) c)=>(match ti.elem with
   | some e=>(match C.TI e with
    | some te=>z7q te e t h id' n c K
    | none=>none)
   | none=>none)
  | _,_,_,_=>none)
 | .makeMap T none=>(match C.dp id' with
  | some t=>z7s C T t h id' K
  | none=>none)
 | .binOp op T x (.const (.map none)) _=>(match ρ x with
  | .one .mpn=>z0q C op T true K
  | .one (.mp _)=>z0q C op T false K
  | _=>none)
 | .slice T x none (some y) none=>(match ρ x with
  | .one (.ptr id off)=>(match C.dp id' with
   | some _=>z89 C T h id off (ρ y) K
   | none=>z86 C T h id off (ρ y) K)
  | _=>none)
 | .call { callee:=.value g,args,argTypes:=_ }=>(match ρ g,args.toList.map ρ with
  | .one (.fn f []),[.one (.csl id off len cap)]=>z8d C h id' f id off len cap K
  | _,_=>none)
 | .makeFunc (.func f) first caps=>(match first.toList,caps.toList with
  | [a],[]=>(match ρ a with
   | .one (.ptr id off)=>K (D3 (.one (.bfp f id off)))
   | _=>none)
  | _,_=>none)
 | .call { callee:=.builtin .len,args,argTypes }=>(match args.toList.map ρ,argTypes.toList with
  | [.one (.own id)],[T]=>(match C.TI T,h id with
   | some ti,.arrD _ _ l _=>(match ti.elem with
    | some _=>K (E9 (F0 .i64 l.length) [id])
    | none=>none)
   | _,_=>none)
  | [.one (.mp id)],[T]=>(match C.TI T,h id with
   | some ti,.mapD _ _ _ l _=>(match ti.mp with
    | some _=>K (E9 (F0 .i64 l.length) [id])
    | none=>none)
   | _,_=>none)
  | _,_=>none)
 | _=>none
def y9b:Op->Bool
 | .mapEntry ..=>false
 | .lookup ..=>false
 | _=>true
def z7o (C:Ctx) (T:TypeId) (m i:AV) (h:Heap) (K:Eff->Option R):Option R:=match m with
 | .one (.mp id)=>(match h id with
  | .mapo ak false tk (.map a b c d) l=>q1q C T ak false tk (.map a b c d) fun tiv=>(match F5 h [(ak,tk)] [i],tiv.zeros with
   | some (k,ids),[.mpn]=>P5 (A9 tk l k.1) (K { av:=.tup [(false,[.mpn]),(false,[.sc .bool false])],rd:=id::ids,ups:=[],full:=none })
    fun y=>K { av:=.tup [(false,[.sc (.map a b c d) y]),(false,[.sc .bool true])],rd:=id::ids,ups:=[],full:=none }
   | _,_=>none)
  | _=>none)
 | _=>none
def y7d (h:Heap):AV->Bool
 | .one (.mp id)=>(match h id with
  | .mapo _ false _ (.map _ _ _ _) _=>true
  | _=>false)
 | _=>false
def q7j (h:Heap):AV->Bool
 | .one (.eptr id _ _ _)=>(match h id with
  | .arrK ..=>true
  | _=>false)
 | .one (.own id)=>(match h id with
  | .arrK ..=>true
  | _=>false)
 | _=>false
def isK (C:Ctx) (id':Nat) (o:Op) (ρ:Operand->AV) (h:Heap):Bool:=match o with
 | .load _ x=>q7j h (ρ x)
 | .store _ x _=>q7j h (ρ x)
 | .indexAddr _ x _=>q7j h (ρ x)
 | .call { callee:=.builtin .len,args,.. }=>(match args.toList.map ρ with
  | [x]=>q7j h x
  | _=>false)
 | .call { callee:=.builtin .append,args,.. }=>(match args.toList.map ρ with
  | [x,_]=>q7j h x
  | _=>false)
 | .buildSlice _ _ _=>(dpK C id' 16).isSome
 | .lookup _ m _ true=>y7d h (ρ m)
 | _=>false
def q4r (C:Ctx) (T:TypeId) (K:TInfo->TypeId->TInfo->Option R):Option R:=match C.TI T with
 | some ti=>(match ti.elem with
  | some e=>(match C.TI e with
   | some te=>K ti e te
   | none=>none)
  | none=>none)
 | none=>none
def z7k (C:Ctx) (id':Nat) (o:Op) (ρ:Operand->AV) (h:Heap) (K:Eff->Option R):Option R:=match o with
 | .load T x=>(match C.TI T,ρ x with
  | some ti,.one (.eptr id tt i c)=>z7m ti h id' id tt i c K
  | _,_=>none)
 | .store T x v=>(match C.TI T,ρ x with
  | some ti,.one (.eptr id tt i c)=>z8f ti h id tt i c (ρ v) K
  | _,_=>none)
 | .indexAddr T x i=>q4r C T fun _ _ te=>(match ρ x,ρ i with
  | .one (.own id),.one (.sc (.int _) n)=>(match h id with
   | .arrK _ t _ _ l _ _=>cond (Nat.beq te.size t.size&&inB n l.length) (K (E9 (.one (.eptr id t n.toNat 0)) [id])) none
   | _=>none)
  | _,_=>none)
 | .call { callee:=.builtin .len,args,argTypes }=>(match args.toList.map ρ,argTypes.toList with
  | [.one (.own id)],[T]=>q4r C T fun _ _ _=>(match h id with
   | .arrK _ _ _ _ l _ _=>K (E9 (F0 .i64 l.length) [id])
   | _=>none)
  | _,_=>none)
 | .call { callee:=.builtin .append,args,argTypes }=>(match args.toList.map ρ,argTypes.toList with
  | [.one (.own id),.one (.own id2)],[T,T']=>cond (Nat.beq T T') (q4r C T fun _ e te=>z6n te e h id' id id2 K) none
  | _,_=>none)
 | .buildSlice T len parts=>(match dpK C id' 16 with
  | some (c,t1)=>q4r C T fun _ e te=>z6p te e len c t1 ρ parts.toList h id' K
  | none=>none)
 | .lookup T m i true=>z7o C T (ρ m) (ρ i) h K
 | _=>none
def isD (C:Ctx) (id':Nat) (o:Op) (ρ:Operand->AV) (h:Heap):Bool:=isK C id' o ρ h||y7c C id' o ρ h
noncomputable def z6y (C:Ctx) (id':Nat) (o:Op) (ρ:Operand->AV) (h:Heap) (K:Eff->Option R):Option R:=cond (isK C id' o ρ h) (z7k C id' o ρ h K) (z6z C id' o ρ h K)
noncomputable def j4h (C:Ctx) (lo:Nat->Bool) (id':Nat) (o:Op) (ρ:Operand->AV) (h:Heap) (K:Eff->Option R):Option R :=
 match C.fz id' with
 | []=>cond (isD C id' o ρ h) (z6y C id' o ρ h K) (q70 C lo id' o ρ h K)
 | ids=>cond (y9b o) (z0z (fun u h1=>q70 C lo id' o ρ h1 fun q=>match q.full with
  | none=>K { q with ups:=u++q.ups }
  | some _=>none) ids [] h) none
end
end Go.Abs
