/- The engine, part 2: the abstract evaluator. -/
import Derived.Test.YtkfjlcdaepckoaaAbsBase
import Derived.Test.YtkfjlcdaepckoaaAbsSortP
namespace Go.Abs
open Go
def F6:(t:Ty)->t.den->List SV
 | .int k,x=>[.sc (.int k) x]
 | .bool,x=>[.sc .bool x]
 | .list e,x=>[.sc (.list e) x]
 | .nil,_=>[]
 | .cons a b,x=>F6 a x.1++F6 b x.2
 | .map ak av k v,x=>[.sc (.map ak av k v) x]
def F8 (t t':Ty) (x:t.den):Option t'.den :=
 match decEq t t' with
 | .isTrue h=>some (h▸x)
 | .isFalse _=>none
def B5 (h:Heap) (e:Ty):SV->Option (List e.den)
 | .nils=>some []
 | .sc t x=>F8 t (.list e) x
 | .ne t x=>F8 (.list t) (.list e) x
 | .own id=>match h id with
  | .arr _ t l=>F8 (.list t) (.list e) l
  | .ice _ t l=>F8 (.list t) (.list e) l
  | _=>none
 | .sub id off len=>match h id with
  | .arr _ t l=>F8 (.list t) (.list e) ((l.drop off).take len)
  | .ice _ t l=>F8 (.list t) (.list e) ((l.drop off).take len)
  | _=>none
 | _=>none
def L5 (h:Heap) (ak av:Bool) (k v:Ty):SV->Option (List (k.den×v.den))
 | .sc t x=>F8 t (.map ak av k v) x
 | .mp id=>match h id with
  | .mapo ak' av' k' v' l=>F8 (.map ak' av' k' v') (.map ak av k v) l
  | .mice ak' av' k' v' l=>F8 (.map ak' av' k' v') (.map ak av k v) l
  | _=>none
 | _=>none
def C4 (h:Heap):(t:Ty)->List SV->Option (t.den×List SV)
 | .int k,.sc t x::r=>(F8 t (.int k) x).map (·,r)
 | .bool,.sc t x::r=>(F8 t .bool x).map (·,r)
 | .list e,s::r=>(B5 h e s).map (·,r)
 | .map ak av k v,s::r=>(L5 h ak av k v s).map (·,r)
 | .nil,r=>some ((),r)
 | .cons a b,cs=>match C4 h a cs with
  | some (x,r)=>(match C4 h b r with
   | some (y,r')=>some ((x,y),r')
   | none=>none)
  | none=>none
 | _,_=>none
def F7:SV->List Nat
 | .own id=>[id]
 | .sub id _ _=>[id]
 | .mp id=>[id]
 | _=>[]
def E5 (cs:List SV):List Nat:=cs.flatMap F7
def B0 (h:Heap) (ids:List Nat):List (Nat×AObj) :=
 ids.filterMap fun id=>match h id with
  | .arr e t l=>some (id,.ice e t l)
  | .mapo ak av k v l=>some (id,.mice ak av k v l)
  | _=>none
def A5 (ups:List (Nat×AObj)) (h:Heap):Heap:=ups.foldl (fun h p=>upd h p.1 p.2) h
structure FI where
 off:Nat
 size:Nat
 agg:Bool
structure TInfo where
 agg:Bool
 str:Bool
 size:Nat
 bytes:Nat
 zeros:List SV
 flds:List FI
 elem:Option TypeId
 arr:Option (Nat×TypeId)
 ty:Ty
 strg:Bool:=false
 eqo:Option (List (Nat×Bool)):=none
 mp:Option (TypeId×TypeId):=none
inductive RTy where
 | val (agg:Bool) (t:Ty)
 | own (e:TypeId) (t:Ty)
@[reducible] def RTy.den:RTy->Type
 | .val _ t=>t.den
 | .own _ t=>List t.den
@[reducible] def H6:List (Bool×Ty)->Type
 | []=>Unit
 | a::r=>a.2.den×H6 r
@[reducible] def I0:List RTy->Type
 | []=>Unit
 | a::r=>a.den×I0 r
structure Spec where
 args:List (Bool×Ty)
 res:List RTy
 f:H6 args->Option (I0 res)
structure Eff where
 av:AV
 rd:List Nat
 ups:List (Nat×AObj)
 full:Option Heap
 lim:Nat:=0
def Eff.heap (e:Eff) (h:Heap):Heap:=match e.full with
 | some H=>H
 | none=>A5 e.ups h
def C3 (av:AV):Eff:={ av,rd:=[],ups:=[],full:=none }
def E2 (av:AV) (rd:List Nat):Eff:={ av,rd,ups:=[],full:=none }
abbrev q5b:=FuncId->List AV->Heap->(Nat->Bool)->Nat->(R:Type)->(AV->Heap->Option R)->Option R
abbrev q5d:=Nat->List AV->Heap->(Nat->Bool)->(R:Type)->(AV->Heap->Option R)->Option R
structure Ctx where
 TI:TypeId->Option TInfo
 spec:FuncId->Option Spec
 inl:FuncId->Bool
 icall:q5b
 ycall:q5d
 glob:Nat->Option (IntKind×Nat×List Int)
 pur:FuncId->Bool
 nb:Nat->Nat
 srt:FuncId->Bool
 srn:FuncId->Option Nat
 ifc:TypeId->Bool
 meth:TypeId->String->Option FuncId
 dp:Nat->Option KTy
 fz:Nat->List Nat
def z2o:Value->AV
 | .int k n=>.one (.sc (.int k) n)
 | .bool b=>.one (.sc .bool b)
 | .slice none 0 0=>.one .nils
 | .pointer none=>.one .nilp
 | .string b=>.one (.cstr b)
 | .map none=>.one .mpn
 | .nilIface=>.one .nif
 | _=>.one .unk
def ev (ρ:Env):Operand->AV
 | .tmp t=>ρ t
 | .const v=>z2o v
 | .func f=>.one (.fn f [])
 | .global g=>.one (.gl g)
def cellsOf:AV->Option (List SV)
 | .one s=>some [s]
 | .agg l=>some l
 | .tup _=>none
def SV.known:SV->Bool
 | .unk=>false
 | .udf=>false
 | _=>true
def D0 (op:BinOp) (k:IntKind) (x y:Int):Int :=
 let a:=BitVec.ofInt k.bits x
 let b:=BitVec.ofInt k.bits y
 match op with
 | .and=>k.wrap (a &&& b).toNat
 | .or=>k.wrap (a ||| b).toNat
 | .xor=>k.wrap (a ^^^ b).toNat
 | _=>k.wrap (a &&& ~~~b).toNat
def N1 (k:IntKind) (x y:Int):Int:=k.wrap (x*2^(min y.toNat k.bits))
def O7 (k:IntKind) (x y:Int):Int:=x.fdiv (2^(min y.toNat k.bits))
def D8 (k:IntKind) (x:Int):AV:=.one (.sc (.int k) x)
def G3 (b:Bool):AV:=.one (.sc .bool b)
section
variable {R:Type}
def z0e (op:BinOp) (k k':IntKind) (x y:Int) (K:AV->Option R):Option R :=
 match op with
 | .shl=>cond (decide (y<0)) none (K (D8 k (N1 k x y)))
 | .shr=>cond (decide (y<0)) none (K (D8 k (O7 k x y)))
 | op=>match decEq k k' with
  | .isFalse _=>none
  | .isTrue _=>match op with
   | .add=>K (D8 k (k.wrap (x+y)))
   | .sub=>K (D8 k (k.wrap (x-y)))
   | .mul=>K (D8 k (k.wrap (x*y)))
   | .quo=>cond (y==0) none (K (D8 k (k.wrap (x.tdiv y))))
   | .rem=>cond (y==0) none (K (D8 k (x.tmod y)))
   | .and=>K (D8 k (D0 .and k x y))
   | .or=>K (D8 k (D0 .or k x y))
   | .xor=>K (D8 k (D0 .xor k x y))
   | .andNot=>K (D8 k (D0 .andNot k x y))
   | .eql=>K (G3 (x==y))
   | .neq=>K (G3 (x != y))
   | .lss=>K (G3 (decide (x<y)))
   | .leq=>K (G3 (decide (x<=y)))
   | .gtr=>K (G3 (decide (x>y)))
   | .geq=>K (G3 (decide (x≥y)))
   | _=>none
def z1c (op:UnOp) (x:AV) (K:AV->Option R):Option R :=
 match op,x with
 | .neg,.one (.sc (.int k) n)=>K (D8 k (k.wrap (0-n)))
 | .xor,.one (.sc (.int k) n)=>K (D8 k (D0 .xor k (if k.signed then -1 else k.max) n))
 | .not,.one (.sc .bool b)=>K (G3 (!b))
 | _,_=>none
def U6 (ti:TInfo) (cs:List SV) (off:Nat) (K:AV->Option R):Option R :=
 match ti.agg with
 | true=>cond (Nat.ble (off+ti.size) cs.length) (K (.agg ((cs.drop off).take ti.size))) none
 | false=>match cs[off]? with
  | some s=>K (.one s)
  | none=>none
def D2 {α:Type} (cs:List α) (off:Nat) (vs:List α):List α:=cs.take off++vs++cs.drop (off+vs.length)
def A9 {α:Type} (l:List α) (i:Int):Option α:=cond (decide (0<=i)) l[i.toNat]? none
theorem z75 (α:Type):∃ f:List α->Int->Option α,f=A9:=⟨_,rfl⟩
noncomputable def z1m {α:Type}:List α->Int->Option α:=Classical.choose (z75 α)
theorem z74 {α:Type}:(z1m:List α->Int->Option α)=A9:=Classical.choose_spec (z75 α)
def inB (i:Int) (n:Nat):Bool:=decide (0<=i)&&decide (i<n)
def q3n (ti:TInfo) (h:Heap) (x:AV) (K:Eff->Option R):Option R :=
 match x with
 | .one (.ptr id off)=>match h id with
  | .cells l=>U6 ti l off fun av=>K (E2 av [id])
  | _=>none
 | .one (.eptr id t i c)=>match h id with
  | .arr _ t' l=>match decEq t t' with
   | .isTrue _=>(l[i]?).bind fun y=>U6 ti (F6 t' y) c fun av=>K (E2 av [id])
   | .isFalse _=>none
  | .ice _ t' l=>match decEq t t' with
   | .isTrue _=>(l[i]?).bind fun y=>U6 ti (F6 t' y) c fun av=>K (E2 av [id])
   | .isFalse _=>none
  | _=>none
 | .one (.ro t y c)=>U6 ti (F6 t y) c fun av=>K (C3 av)
 | .one (.gp k x)=>U6 ti [.sc (.int k) x] 0 fun av=>K (C3 av)
 | _=>none
def z6a (ti:TInfo) (h:Heap) (x v:AV) (K:Eff->Option R):Option R :=
 match cellsOf v with
 | none=>none
 | some vs=>cond (vs.all SV.known&&Nat.beq vs.length ti.size) (match x with
  | .one (.ptr id off)=>match h id with
   | .cells l=>cond (Nat.ble (off+vs.length) l.length) (K { av:=.one .unk,rd:=[],ups:=[(id,.cells (D2 l off vs))],full:=none }) none
   | _=>none
  | .one (.eptr id t i c)=>match h id with
   | .arr e t' l=>match decEq t t' with
    | .isTrue _=>(l[i]?).bind fun y=>match C4 h t' (D2 (F6 t' y) c vs)with
     | some (y',[])=>cond ((E5 vs).all (fun j=>!Nat.beq j id)&&Nat.ble (c+vs.length) t'.size)
      (K { av:=.one .unk,rd:=E5 vs,ups:=B0 h (E5 vs)++[(id,.arr e t' (l.set i y'))],full:=none }) none
     | _=>none
    | .isFalse _=>none
   | _=>none
  | _=>none) none
def q51 (t:Ty):Nat->List SV->Option (List t.den)
 | 0,[]=>some []
 | 0,_::_=>none
 | n+1,cs=>match C4 (fun _=>.fresh) t (cs.take t.size)with
  | some (y,[])=>(q51 t n (cs.drop t.size)).map (y::·)
  | _=>none
def T1 (t:Ty):List SV->Option (List t.den)
 | []=>some []
 | .sc t' x::r=>(match F8 t' t x,T1 t r with
  | some y,some l=>some (y::l)
  | _,_=>none)
 | _=>none
def H5 (h:Heap) (id:Nat) (K:Option R):Option R:=match h id with
 | .fresh=>K
 | _=>none
def S3 (flds:List FI) (ρ:Operand->AV):List (Nat×Operand)->List SV->Option (List SV)
 | [],cs=>some cs
 | (i,x)::r,cs=>match flds[i]?,cellsOf (ρ x)with
  | some fi,some vs=>cond (Nat.beq vs.length fi.size&&vs.all SV.known&&Nat.ble (fi.off+vs.length) cs.length) (S3 flds ρ r (D2 cs fi.off vs)) none
  | _,_=>none
def X5 (h:Heap) (t:Ty) (ρ:Operand->AV):Nat->List (Nat×Operand)->Option (List t.den×List Nat)
 | _,[]=>some ([],[])
 | n,(i,x)::r=>cond (Nat.beq i n) (match cellsOf (ρ x)with
  | some vs=>cond (vs.all SV.known) (match C4 h t vs,X5 h t ρ (n+1) r with
   | some (y,[]),some (l,ids)=>some (y::l,E5 vs++ids)
   | _,_=>none) none
  | none=>none) none
def J0 (x:Option AV) (d:Nat) (K:Int->Option R):Option R:=match x with
 | none=>K d
 | some (.one (.sc (.int _) n))=>K n
 | _=>none
def z0t (sz:Nat) (h:Heap) (x:AV) (lo hi:Option AV) (K:Eff->Option R):Option R :=
 match x with
 | .one (.own id)=>match h id with
  | .arr _ t l=>cond (Nat.beq t.size sz) (J0 lo 0 fun a=>J0 hi l.length fun b =>
   cond (decide (0<=a)&&decide (a<=b)&&decide (b<=l.length)) (K (E2 (.one (.sub id a.toNat (b.toNat-a.toNat))) [id])) none) none
  | .ice _ t l=>cond (Nat.beq t.size sz) (J0 lo 0 fun a=>J0 hi l.length fun b =>
   cond (decide (0<=a)&&decide (a<=b)&&decide (b<=l.length)) (K (E2 (.one (.sub id a.toNat (b.toNat-a.toNat))) [id])) none) none
  | _=>none
 | .one (.sub id off len)=>match h id with
  | .arr _ t _=>cond (Nat.beq t.size sz) (J0 lo 0 fun a=>J0 hi len fun b =>
   cond (decide (0<=a)&&decide (a<=b)&&decide (b<=len)) (K (E2 (.one (.sub id (off+a.toNat) (b.toNat-a.toNat))) [id])) none) none
  | .ice _ t _=>cond (Nat.beq t.size sz) (J0 lo 0 fun a=>J0 hi len fun b =>
   cond (decide (0<=a)&&decide (a<=b)&&decide (b<=len)) (K (E2 (.one (.sub id (off+a.toNat) (b.toNat-a.toNat))) [id])) none) none
  | _=>none
 | .one (.sc (.list t) l)=>cond (Nat.beq t.size sz) (J0 lo 0 fun a=>J0 hi l.length fun b =>
  cond (decide (0<=a)&&decide (a<=b)&&decide (b<=l.length)) (K (C3 (.one (.sc (.list t) ((l.drop a.toNat).take (b.toNat-a.toNat)))))) none) none
 | _=>none
def z0c (sz:Nat) (h:Heap) (x i:AV) (K:Eff->Option R):Option R :=
 match i with
 | .one (.sc (.int _) n)=>match x with
  | .one (.own id)=>match h id with
   | .arr _ t l=>cond (Nat.beq t.size sz&&inB n l.length) (K (E2 (.one (.eptr id t n.toNat 0)) [id])) none
   | .ice _ t l=>cond (Nat.beq t.size sz&&inB n l.length) (K (E2 (.one (.eptr id t n.toNat 0)) [id])) none
   | _=>none
  | .one (.sub id off len)=>match h id with
   | .arr _ t _=>cond (Nat.beq t.size sz&&inB n len) (K (E2 (.one (.eptr id t (off+n.toNat) 0)) [id])) none
   | .ice _ t _=>cond (Nat.beq t.size sz&&inB n len) (K (E2 (.one (.eptr id t (off+n.toNat) 0)) [id])) none
   | _=>none
  | .one (.sc (.list t) l)=>cond (Nat.beq t.size sz&&Nat.ble 1 sz) ((A9 l n).bind fun y=>K (C3 (.one (.ro t y 0)))) none
  | _=>none
 | _=>none
def C1 (n bytes:Nat):Bool:=Nat.ble n 140737488355328&&Nat.ble (n*bytes) 140737488355328
def q9u (e:TypeId) (te:TInfo) (h:Heap) (id':Nat) (s x:AV) (K:Eff->Option R):Option R :=
 match s,x with
 | .one .nils,.one sx=>(match B5 h te.ty sx with
  | some m=>H5 h id' (cond (C1 m.length te.bytes&&Nat.ble 1 te.size&&Nat.beq te.ty.size te.size) (K { av:=.one (.own id'),rd:=F7 sx,ups:=[(id',.arr e te.ty m)],full:=none }) none)
  | none=>none)
 | .one (.own id),.one sx=>match h id with
  | .arr e' t l=>match decEq t te.ty with
   | .isTrue _=>(match B5 h t sx with
    | some m=>H5 h id' (cond (Nat.beq e e'&&C1 (l.length+m.length) te.bytes&&Nat.ble 1 te.size&&Nat.beq te.ty.size te.size)
     (K { av:=.one (.own id'),rd:=F7 sx,ups:=[(id,.dead),(id',.arr e t (l++m))],full:=none }) none)
    | none=>none)
   | .isFalse _=>none
  | _=>none
 | _,_=>none
def F0 (h:Heap):(as:List (Bool×Ty))->List AV->Option (H6 as×List Nat)
 | [],[]=>some ((),[])
 | (true,t)::r,.agg cs::vs=>(match C4 h t cs,F0 h r vs with
  | some (y,[]),some (ys,ids)=>some ((y,ys),E5 cs++ids)
  | _,_=>none)
 | (false,t)::r,.one s::vs=>cond s.known (match C4 h t [s],F0 h r vs with
  | some (y,[]),some (ys,ids)=>some ((y,ys),F7 s++ids)
  | _,_=>none) none
 | _,_=>none
def H3 (id':Nat):(rs:List RTy)->I0 rs->List (Bool×List SV)×List (Nat×AObj)
 | [],_=>([],[])
 | .val agg t::r,y=>let p:=H3 id' r y.2;((agg,F6 t y.1)::p.1,p.2)
 | .own e t::r,y=>let p:=H3 id' r y.2;((false,[.own id'])::p.1,(id',.arr e t y.1)::p.2)
def RTy.isOwn:RTy->Bool
 | .own ..=>true
 | _=>false
def M9:List RTy->Nat
 | []=>0
 | r::rs=>(if r.isOwn then 1 else 0)+M9 rs
def Z9:List RTy->Bool
 | []=>true
 | .val _ t::r=>t.flat&&Z9 r
 | .own _ t::r=>t.flat&&Z9 r
def Y2:List (Bool×List SV)->AV
 | [(true,l)]=>.agg l
 | [(false,[s])]=>.one s
 | l=>.tup l
def z0z (sp:Spec) (h:Heap) (id':Nat) (args:List AV) (K:Eff->Option R):Option R :=
 match F0 h sp.args args with
 | none=>none
 | some (x,ids)=>(sp.f x).bind fun y =>
  let p:=H3 id' sp.res y
  cond (Nat.ble (M9 sp.res) 1&&ids.all (fun j=>!Nat.beq j id')) (H5 h id' (K { av:=Y2 p.1,rd:=id'::ids,ups:=cond (Z9 sp.res) p.2 (B0 h ids++p.2),full:=none })) none
def j87 (cs:List SV):List Nat:=cs.flatMap fun s=>match s with
 | .ptr id _=>[id]
 | s=>F7 s
def z8n (C:Ctx) (id':Nat) (args:List AV):List Nat:=match C.nb (2*id'+1)with
 | 0=>[]
 | _=>args.flatMap fun a=>match cellsOf a with
  | some cs=>j87 cs
  | none=>[]
def z2h (M:List Nat) (id:Nat):Bool:=M.all fun j=>!Nat.beq j id
theorem z2i {M:List Nat} {id:Nat} (h:id∉M):z2h M id=true:=by
 unfold z2h
 rw[List.all_eq_true]
 intro j hj
 have:Nat.beq j id=false:=by
  cases hb:Nat.beq j id with
  | false=>rfl
  | true=>exact absurd (Nat.eq_of_beq_eq_true hb▸hj) h
 rw[this];rfl
def z7s:AV->Bool
 | .one .mpn=>true
 | _=>false
def z3k (C:Ctx) (f:FuncId) (args:List AV):Option Spec:=cond (args.any z7s) none (C.spec f)
theorem z3l {C:Ctx} {f:FuncId} {args:List AV} {sp:Spec} (h:z3k C f args=some sp):C.spec f=some sp:=by
 unfold z3k at h
 cases hb:args.any z7s with
 | true=>rw[hb]at h;cases h
 | false=>rw[hb]at h;exact h
def q1u (C:Ctx) (lo:Nat->Bool) (id':Nat) (f:FuncId) (args:List AV) (h:Heap) (K:Eff->Option R):Option R :=
 match z3k C f args with
 | some sp=>z0z sp h id' args K
 | none=>cond (C.inl f) (cond (C.pur f)
  (C.icall f args h (fun id=>lo id||(Nat.blt id (C.nb (2*id'))&&z2h (z8n C id' args) id)) (C.nb (2*id')) R fun av h'=>K { av,rd:=[],ups:=(z8n C id' args).map fun id=>(id,h' id),full:=some h',lim:=C.nb (2*id') })
  (C.icall f args h lo (C.nb (2*id')) R fun av h'=>K { av,rd:=[],ups:=[],full:=some h' })) none
def q9n (t:Ty) (sp:Spec):Option (t.den->t.den->Option Int):=match sp with
 | ⟨[(false,t1),(false,t2)],[.val false (.int .i64)],f⟩=>some fun x y=>(F8 t t1 x).bind fun x'=>(F8 t t2 y).bind fun y'=>(f (x',y',())).map fun r=>r.1
 | _=>none
noncomputable def z0x (C:Ctx) (caps:List (Nat×Nat)) (args:List AV) (h:Heap) (K:Eff->Option R):Option R :=
 match caps,args with
 | [],[.one (.own id),.one (.fn g [])]=>(match h id,C.spec g with
  | .arr e t l,some sp=>(match q9n t sp with
   | some f=>cond (Nat.beq t.size 1) (cond (C1 l.length 1) ((R0 f l).bind fun z=>K { av:=.tup [],rd:=[],ups:=[(id,.arr e t z)],full:=none }) none) none
   | none=>none)
  | _,_=>none)
 | _,_=>none
def q9o (t:Ty) (sp:Spec):Option (t.den->t.den->Option Int):=match sp with
 | ⟨[(true,t1),(true,t2)],[.val false (.int .i64)],f⟩=>some fun x y=>(F8 t t1 x).bind fun x'=>(F8 t t2 y).bind fun y'=>(f (x',y',())).map fun r=>r.1
 | _=>none
noncomputable def z0y (C:Ctx) (k:Nat) (caps:List (Nat×Nat)) (args:List AV) (h:Heap) (K:Eff->Option R):Option R :=
 match caps,args with
 | [],[.one (.own id),.one (.fn g [])]=>(match h id,C.spec g with
  | .arr e t l,some sp=>(match q9o t sp with
   | some f=>cond (Nat.beq t.size k) (cond (C1 l.length 1) ((R0 f l).bind fun z=>K { av:=.tup [],rd:=[],ups:=[(id,.arr e t z)],full:=none }) none) none
   | none=>none)
  | _,_=>none)
 | [],[.one .nils,.one (.fn _ [])]=>K { av:=.tup [],rd:=[],ups:=[],full:=none }
 | _,_=>none
def T4 (ρ:Operand->AV):List Operand->Option (List (Nat×Nat))
 | []=>some []
 | x::r=>match ρ x,T4 ρ r with
  | .one (.ptr id off),some l=>some ((id,off)::l)
  | _,_=>none
def q0m (l:List (Nat×Nat)):List AV:=l.map fun p=>.one (.ptr p.1 p.2)
def q1m (agg:Bool) (cs:List ((t:Ty)×t.den)):AV:=match agg,cs with
 | true,cs=>.agg (cs.map fun p=>.sc p.1 p.2)
 | false,[p]=>.one (.sc p.1 p.2)
 | false,_=>.one .unk
def q2g:List SV->Option (List ((t:Ty)×t.den))
 | []=>some []
 | .sc t x::r=>match q2g r with
  | some l=>some (⟨t,x⟩::l)
  | none=>none
 | _::_=>none
def q0b:AV->Option (Bool×List ((t:Ty)×t.den))
 | .one (.sc t x)=>some (false,[⟨t,x⟩])
 | .agg l=>match q2g l with
  | some cs=>some (true,cs)
  | none=>none
 | _=>none
def Z1:AV->Option (Nat×List AV×List AV)
 | .one (.fn f caps)=>some (f,[],q0m caps)
 | .one (.bfn f agg cs)=>some (f,[q1m agg cs],[])
 | .one (.bfp f id off)=>some (f,[.one (.ptr id off)],[])
 | _=>none
def N9:Ty->List Bool
 | .int _=>[false]
 | .bool=>[true]
 | .list _=>[false]
 | .map _ _ _ _=>[false]
 | .nil=>[]
 | .cons a b=>N9 a++N9 b
def Y5 (agg:Bool) (t:Ty) (y:t.den):List SV:=match agg with
 | true=>F6 t y
 | false=>[.sc t y]
def j33 (agg:Bool) (t:Ty) (y:t.den):AV:=match agg with
 | true=>.agg (F6 t y)
 | false=>.one (.sc t y)
def q27 (ti:TInfo) (ak:Bool) (tk:Ty):Bool :=
 decide (ti.ty=tk)&&(ti.agg==ak)&&tk.flat&&Nat.beq tk.size ti.size&&(match ak,tk,ti.eqo with
  | false,.int _,_=>true
  | true,t,some l=>(List.range ti.size).all (fun i=>l.any fun p=>Nat.beq p.1 i)&&l.all (fun p=>(N9 t)[p.1]? == some p.2)
  | _,_,_=>false)
def q1c (ti:TInfo) (av:Bool) (tv:Ty):Bool:=decide (ti.ty=tv)&&(ti.agg==av)&&Nat.beq tv.size ti.size
def q03 (C:Ctx) (T:TypeId) (ak av:Bool) (tk tv:Ty) (K:TInfo->Option R):Option R:=match C.TI T with
 | some ti=>(match ti.mp with
  | some (k,v)=>(match C.TI k,C.TI v with
   | some tik,some tiv=>cond (q27 tik ak tk&&q1c tiv av tv) (K tiv) none
   | _,_=>none)
  | none=>none)
 | none=>none
def z0k (C:Ctx) (T:TypeId) (h:Heap) (id':Nat) (hint:Option AV) (K:Eff->Option R):Option R :=
 match C.TI T,hint with
 | some ti,none=>(match ti.mp with
  | some (k,v)=>(match C.TI k,C.TI v with
   | some tik,some tiv=>cond (q27 tik tik.agg tik.ty&&q1c tiv tiv.agg tiv.ty) (H5 h id' (K { av:=.one (.mp id'),rd:=[],ups:=[(id',.mapo tik.agg tiv.agg tik.ty tiv.ty [])],full:=none })) none
   | _,_=>none)
  | none=>none)
 | _,_=>none
def q0u (ok:Bool) (av:Bool) (tv:Ty) (y:tv.den) (b:Bool):AV:=match ok with
 | true=>.tup [(av,Y5 av tv y),(false,[.sc .bool b])]
 | false=>j33 av tv y
def q1w (C:Ctx) (T:TypeId) (m i:AV) (ok:Bool) (h:Heap) (K:Eff->Option R):Option R :=
 match m with
 | .one (.mp id)=>(match h id with
  | .mapo ak av tk tv l=>q03 C T ak av tk tv fun tiv=>(match F0 h [(ak,tk)] [i],C4 h tv tiv.zeros with
   | some (k,ids),some (z,[])=>K { av:=q0u ok av tv ((B4 tk l k.1).getD z) (B4 tk l k.1).isSome,rd:=id::ids,ups:=[],full:=none }
   | _,_=>none)
  | _=>none)
 | _=>none
def q66 (C:Ctx) (T:TypeId) (m i v:AV) (h:Heap) (K:Eff->Option R):Option R :=
 match m with
 | .one (.mp id)=>(match h id with
  | .mapo ak av tk tv l=>q03 C T ak av tk tv fun _=>(match F0 h [(ak,tk),(av,tv)] [i,v]with
   | some (x,ids)=>cond (ids.all fun j=>!Nat.beq j id) (K { av:=.one .unk,rd:=id::ids,ups:=B0 h ids++[(id,.mapo ak av tk tv (A8 tk l x.1 x.2.1))],full:=none }) none
   | _=>none)
  | _=>none)
 | _=>none
def q3l (C:Ctx) (T:TypeId) (m i:AV) (h:Heap) (id':Nat) (K:Eff->Option R):Option R :=
 match m with
 | .one (.mp id)=>(match h id with
  | .mapo ak av tk tv l=>q03 C T ak av tk tv fun tiv=>(match F0 h [(ak,tk)] [i],C4 h tv tiv.zeros with
   | some (k,ids),some (z,[])=>H5 h id' (K { av:=.tup [(av,Y5 av tv ((B4 tk l k.1).getD z)),(false,[.stmp id'])],rd:=id::ids,ups:=[(id',.dead),(id,.mapp ak av tk tv (F4 tk l k.1 z) k.1 id')],full:=none })
   | _,_=>none)
  | _=>none)
 | _=>none
def z06 (m s v:AV) (h:Heap) (K:Eff->Option R):Option R :=
 match m,s with
 | .one (.mp id),.one (.stmp g)=>(match h id with
  | .mapp ak av tk tv l k g'=>(match F0 h [(av,tv)] [v]with
   | some (x,ids)=>cond (Nat.beq g g'&&ids.all fun j=>!Nat.beq j id) (K { av:=.one .unk,rd:=id::ids,ups:=B0 h ids++[(id,.mapo ak av tk tv (A8 tk l k x.1))],full:=none }) none
   | none=>none)
  | _=>none)
 | _,_=>none
def z05 (C:Ctx) (T:TypeId) (m i:AV) (h:Heap) (K:Eff->Option R):Option R :=
 match m with
 | .one (.mp id)=>(match h id with
  | .mapo ak av tk tv l=>q03 C T ak av tk tv fun _=>(match F0 h [(ak,tk)] [i]with
   | some (k,ids)=>K { av:=.tup [],rd:=id::ids,ups:=[(id,.mapo ak av tk tv (G6 tk l k.1))],full:=none }
   | _=>none)
  | _=>none)
 | _=>none
def z0m (C:Ctx) (T:TypeId) (m:AV) (h:Heap) (K:Eff->Option R):Option R :=
 match C.TI T,m with
 | some ti,.one (.mp id)=>(match ti.mp,h id with
  | some _,.mapo _ _ _ _ l=>K (E2 (D8 .i64 l.length) [id])
  | some _,.mice _ _ _ _ l=>K (E2 (D8 .i64 l.length) [id])
  | _,_=>none)
 | some ti,.one (.sc (.map _ _ _ _) l)=>(match ti.mp with
  | some _=>K (C3 (D8 .i64 l.length))
  | none=>none)
 | _,_=>none
def z0n (x:AV) (h:Heap) (K:Eff->Option R):Option R:=match x with
 | .one (.ptr id 0)=>(match h id with
  | .iter _ _ _ _ [] none=>K { av:=.tup [(false,[.sc .bool false])],rd:=[id],ups:=[],full:=none }
  | _=>none)
 | _=>none
def z0r (C:Ctx) (T:TypeId) (x:AV) (h:Heap) (id':Nat) (K:Eff->Option R):Option R :=
 match C.TI T with
 | some ti=>(match ti.mp with
  | some _=>(match x with
   | .one (.sc (.map ak av tk tv) l)=>H5 h id' (K { av:=.one (.ptr id' 0),rd:=[],ups:=[(id',.iter ak av tk tv l none)],full:=none })
   | .one .mpn=>H5 h id' (K { av:=.one (.ptr id' 0),rd:=[],ups:=[(id',.iter false false .bool .bool [] none)],full:=none })
   | _=>none)
  | none=>none)
 | none=>none
def z0f (x:AV) (h:Heap) (K:Eff->Option R):Option R :=
 match x with
 | .one (.ptr id 0)=>(match h id with
  | .iter ak av tk tv _ (some q)=>K (E2 (.tup [(ak,Y5 ak tk q.1),(av,Y5 av tv q.2)]) [id])
  | _=>none)
 | _=>none
def q9z (args:List AV) (h:Heap) (id':Nat) (K:Eff->Option R):Option R :=
 match args with
 | [.one (.sc (.map ak av tk tv) l)]=>H5 h id' (K { av:=.one (.mp id'),rd:=[],ups:=[(id',.mapo ak av tk tv l)],full:=none })
 | _=>none
def q9x (C:Ctx) (T:TypeId) (m:AV) (h:Heap) (K:Eff->Option R):Option R :=
 match C.TI T,m with
 | some ti,.one (.mp id)=>(match ti.mp,h id with
  | some _,.mapo ak av tk tv _=>K { av:=.tup [],rd:=[],ups:=[(id,.mapo ak av tk tv [])],full:=none }
  | _,_=>none)
 | _,_=>none
def q9y (C:Ctx) (T:TypeId) (id off len:Nat) (h:Heap) (K:Eff->Option R):Option R :=
 match C.TI T with
 | some ti=>(match ti.elem with
  | some e=>(match C.TI e with
   | some te=>(match h id with
    | .arr e' t l=>(match decEq t te.ty,C4 h te.ty te.zeros with
     | .isTrue _,some (z,[])=>(match F8 te.ty t z with
      | some z'=>cond (Nat.beq e e'&&Nat.ble 1 te.size&&Nat.beq te.ty.size te.size)
       (K { av:=.tup [],rd:=[],ups:=[(id,.arr e t (l.take off++List.replicate len z'++l.drop (off+len)))],full:=none }) none
      | none=>none)
     | _,_=>none)
    | _=>none)
   | none=>none)
  | none=>none)
 | none=>none
def z00 (e:TypeId) (te:TInfo) (h:Heap) (s x:AV) (K:Eff->Option R):Option R :=
 match s,x with
 | .one (.own id),.one sx=>(match h id with
  | .arr e' t l=>match decEq t te.ty with
   | .isTrue _=>(match B5 h t sx with
    | some m=>cond (Nat.beq e e'&&Nat.beq te.size 1&&Nat.beq te.ty.size 1)
     (K { av:=D8 .i64 (Nat.min m.length l.length:Nat),rd:=F7 sx,ups:=[(id,.arr e t (m.take l.length++l.drop m.length))],full:=none }) none
    | none=>none)
   | .isFalse _=>none
  | _=>none)
 | _,_=>none
def q1s (t:Ty) (m:List t.den):Nat->List SV->Option (List SV)
 | _,[]=>some []
 | i,.sc t' y::r=>(match F8 t' t y,q1s t m (i+1) r with
  | some y',some r'=>some (.sc t ((m[i]?).getD y')::r')
  | _,_=>none)
 | _,_::_=>none
def z01 (te:TInfo) (h:Heap) (id off len:Nat) (x:AV) (K:Eff->Option R):Option R :=
 match x,h id with
 | .one sx,.cells l=>(match B5 h te.ty sx with
  | some m=>(match q1s te.ty m 0 ((l.drop off).take len)with
   | some mid=>cond (Nat.ble (off+len) l.length&&Nat.beq te.size 1&&Nat.beq te.ty.size 1)
    (K { av:=D8 .i64 (Nat.min m.length len:Nat),rd:=F7 sx,ups:=[(id,.cells (D2 l off mid))],full:=none }) none
   | none=>none)
  | none=>none)
 | _,_=>none
def z5v (C:Ctx) (b:Builtin) (argTypes:List TypeId) (args:List AV) (h:Heap) (id':Nat) (K:Eff->Option R):Option R :=
 match b,args with
 | .clear,[m]=>(match argTypes with
  | [T]=>(match m with
   | .one (.sub id off len)=>q9y C T id off len h K
   | m=>q9x C T m h K)
  | _=>none)
 | .delete,[m,i]=>(match argTypes with
  | [T,_]=>z05 C T m i h K
  | _=>none)
 | .len,[x]=>(match argTypes with
  | [T]=>(match C.TI T with
   | some ti=>(match ti.elem with
    | none=>z0m C T x h K
    | some _=>(match x with
     | .one .nils=>K (C3 (D8 .i64 0))
     | .one (.own id)=>(match h id with
      | .arr _ _ l=>K (E2 (D8 .i64 l.length) [id])
      | .ice _ _ l=>K (E2 (D8 .i64 l.length) [id])
      | _=>none)
     | .one (.sub id _ len)=>(match h id with
      | .arr ..=>K (E2 (D8 .i64 len) [id])
      | .ice ..=>K (E2 (D8 .i64 len) [id])
      | _=>none)
     | .one (.sc (.list _) l)=>K (C3 (D8 .i64 l.length))
     | _=>none))
   | none=>none)
  | _=>none)
 | .append,[s,x]=>(match argTypes with
  | [T,T']=>(match C.TI T with
   | some ti=>(match ti.elem with
    | some e=>(match C.TI e with
     | some te=>cond (Nat.beq T T') (q9u e te h id' s x K) none
     | none=>none)
    | none=>none)
   | none=>none)
  | _=>none)
 | .copy,[s,x]=>(match argTypes with
  | [T,_]=>(match C.TI T with
   | some ti=>(match ti.elem with
    | some e=>(match C.TI e with
     | some te=>(match s with
      | .one (.csl id off len _)=>z01 te h id off len x K
      | s=>z00 e te h s x K)
     | none=>none)
    | none=>none)
   | none=>none)
  | _=>none)
 | .min,[.one (.sc (.int k) x),.one (.sc (.int k') y)]=>(match decEq k k' with
  | .isTrue _=>K (C3 (D8 k (if y<x then y else x)))
  | .isFalse _=>none)
 | .max,[.one (.sc (.int k) x),.one (.sc (.int k') y)]=>(match decEq k k' with
  | .isTrue _=>K (C3 (D8 k (if y>x then y else x)))
  | .isFalse _=>none)
 | _,_=>none
def z65 (te:TInfo) (e:TypeId) (h:Heap) (id':Nat) (n c:Int) (K:Eff->Option R):Option R :=
 match C4 h te.ty te.zeros with
 | some (z,[])=>H5 h id' (cond (decide (0<=n)&&decide (n<=c)&&C1 c.toNat te.bytes&&decide (c<=9223372036854775807)&&Nat.ble 1 te.size&&Nat.beq te.ty.size te.size)
  (K { av:=.one (.own id'),rd:=[],ups:=[(id',.arr e te.ty (List.replicate n.toNat z))],full:=none }) none)
 | _=>none
noncomputable def z62 (C:Ctx) (T:TypeId) (g:Nat) (i:AV) (K:Eff->Option R):Option R :=
 match C.TI T with
 | some ti=>(match ti.arr,C.glob g with
  | some (n,e),some (k,m,l)=>(match C.TI e,i with
   | some te,.one (.sc (.int _) j)=>cond (Nat.beq te.size 1&&Nat.beq m n&&Nat.ble 2 n) ((z1m l j).bind fun y=>K (C3 (.one (.gp k y)))) none
   | _,_=>none)
  | _,_=>none)
 | none=>none
def z5w (C:Ctx) (T:TypeId) (id off:Nat) (i:AV) (K:Eff->Option R):Option R :=
 match C.TI T with
 | some ti=>(match ti.arr with
  | some (n,e)=>(match C.TI e,i with
   | some te,.one (.sc (.int _) j)=>cond (Nat.beq te.size 1&&inB j n) (K (C3 (.one (.ptr id (off+j.toNat))))) none
   | _,_=>none)
  | none=>none)
 | none=>none
def q8h (b:ByteArray):List Int:=b.data.toList.map fun u=>(u.toNat:Int)
def z07 (T:Nat) (args:List AV) (K:Eff->Option R):Option R :=
 match args with
 | [.one .nif]=>K (C3 (D8 .i64 0))
 | [.one (.ifc T' true [⟨.int .i64,v⟩])]=>cond (Nat.beq T' T) (K (C3 (D8 .i64 v))) none
 | _=>none
noncomputable def z6c (C:Ctx) (T:TypeId) (b:ByteArray) (i:AV) (K:Eff->Option R):Option R :=
 match C.TI T with
 | some ti=>(match ti.strg,i with
  | true,.one (.sc (.int _) j)=>(z1m (q8h b) j).bind fun y=>K (C3 (D8 .u8 y))
  | _,_=>none)
 | none=>none
def q67 (C:Ctx) (op:BinOp) (T:TypeId) (b:Bool) (K:Eff->Option R):Option R :=
 match C.TI T with
 | some ti=>(match ti.elem,op with
  | some _,.eql=>K (C3 (G3 b))
  | some _,.neq=>K (C3 (G3 (!b)))
  | _,_=>none)
 | none=>none
def Z5 (cs ds:List SV):List (Nat×Bool)->Option Bool
 | []=>some true
 | (o,false)::r=>(match cs[o]?,ds[o]?,Z5 cs ds r with
  | some (.sc (.int k) a),some (.sc (.int k') b),some q=>(match decEq k k' with
   | .isTrue _=>some (a==b&&q)
   | .isFalse _=>none)
  | _,_,_=>none)
 | (o,true)::r=>(match cs[o]?,ds[o]?,Z5 cs ds r with
  | some (.sc .bool a),some (.sc .bool b),some q=>some (a==b&&q)
  | _,_,_=>none)
def z5x (C:Ctx) (op:BinOp) (T:TypeId) (cs ds:List SV) (K:Eff->Option R):Option R :=
 match C.TI T with
 | some ti=>(match ti.eqo with
  | some l=>(match Z5 cs ds l,op with
   | some b,.eql=>cond (Nat.beq cs.length ti.size&&Nat.beq ds.length ti.size) (K (C3 (G3 b))) none
   | some b,.neq=>cond (Nat.beq cs.length ti.size&&Nat.beq ds.length ti.size) (K (C3 (G3 (!b)))) none
   | _,_=>none)
  | none=>none)
 | none=>none
noncomputable def z0o (C:Ctx) (lo:Nat->Bool) (id':Nat) (o:Op) (ρ:Operand->AV) (h:Heap) (K:Eff->Option R):Option R :=
 match o with
 | .move x=>K (C3 (ρ x))
 | .assign x=>K (C3 (ρ x))
 | .pick c a b=>(match ρ c with
  | .one (.sc .bool t)=>cond t (K (C3 (ρ a))) (K (C3 (ρ b)))
  | _=>none)
 | .alloc T=>(match C.TI T with
  | some ti=>H5 h id' (K { av:=.one (.ptr id' 0),rd:=[],ups:=[(id',.cells ti.zeros)],full:=none })
  | none=>none)
 | .box T x=>(match C.TI T,cellsOf (ρ x)with
  | some _,some vs=>H5 h id' (cond (vs.all SV.known) (K { av:=.one (.ptr id' 0),rd:=[],ups:=[(id',.cells vs)],full:=none }) none)
  | _,_=>none)
 | .build T parts=>(match C.TI T with
  | some ti=>cond (ti.str||ti.arr.isSome) (match S3 ti.flds ρ parts.toList ti.zeros with
   | some cs=>K (C3 (.agg cs))
   | none=>none) none
  | none=>none)
 | .buildSlice T len parts=>(match C.TI T with
  | some ti=>(match ti.elem with
   | some e=>(match C.TI e with
    | some te=>(match X5 h te.ty ρ 0 parts.toList with
     | some (l,ids)=>H5 h id' (cond (Nat.beq l.length len&&Nat.ble (len*te.size) 16777216&&Nat.ble 1 te.size&&Nat.beq te.ty.size te.size&&ids.all (fun j=>!Nat.beq j id'))
      (K { av:=.one (.own id'),rd:=ids,ups:=B0 h ids++[(id',.arr e te.ty l)],full:=none }) none)
     | none=>none)
    | none=>none)
   | none=>none)
  | none=>none)
 | .load T x=>(match C.TI T with
  | some ti=>q3n ti h (ρ x) K
  | none=>none)
 | .store T x v=>(match C.TI T with
  | some ti=>z6a ti h (ρ x) (ρ v) K
  | none=>none)
 | .nilCheck x=>(match ρ x with
  | .one (.ptr id off)=>K (C3 (.one (.ptr id off)))
  | .one (.eptr id t i c)=>K (C3 (.one (.eptr id t i c)))
  | .one (.ro t y c)=>K (C3 (.one (.ro t y c)))
  | _=>none)
 | .binOp op T x y _=>(match ρ x,ρ y with
  | .one (.sc (.int k) a),.one (.sc (.int k') b)=>z0e op k k' a b fun av=>K (C3 av)
  | .one (.sc .bool a),.one (.sc .bool b)=>(match C.TI T with
   | some ti=>(match ti.agg,ti.ty,op with
    | false,.bool,.eql=>K (C3 (G3 (a==b)))
    | false,.bool,.neq=>K (C3 (G3 (a != b)))
    | _,_,_=>none)
   | none=>none)
  | .agg cs,.agg ds=>z5x C op T cs ds K
  | .one (.ne _ _),.one .nils=>q67 C op T false K
  | .one .nx,.one .nils=>q67 C op T true K
  | _,_=>none)
 | .unOp op _ x=>z1c op (ρ x) fun av=>K (C3 av)
 | .convert S T x=>(match C.TI S,C.TI T,ρ x with
  | some _,some ti,.one (.sc (.int _) n)=>(match ti.agg,ti.ty with
   | false,.int k=>K (C3 (D8 k (k.wrap n)))
   | _,_=>none)
  | _,_,_=>none)
 | .makeFunc (.func f) first caps=>(match first.toList,T4 ρ caps.toList with
  | [],some l=>K (C3 (.one (.fn f l)))
  | [a],some []=>(match q0b (ρ a)with
   | some (agg,cs)=>K (C3 (.one (.bfn f agg cs)))
   | none=>none)
  | _,_=>none)
 | .makeSlice T x y=>(match C.TI T with
  | some ti=>(match ti.elem with
   | some e=>(match C.TI e,ρ x,ρ y with
    | some te,.one (.sc (.int .i64) n),.one (.sc (.int .i64) c)=>z65 te e h id' n c K
    | _,_,_=>none)
   | none=>none)
  | none=>none)
 | .makeMap T r=>z0k C T h id' (r.map ρ) K
 | .lookup T x i ok=>q1w C T (ρ x) (ρ i) ok h K
 | .mapUpdate T m k v=>q66 C T (ρ m) (ρ k) (ρ v) h K
 | .insert T m k v=>q66 C T (ρ m) (ρ k) (ρ v) h K
 | .mapEntry T m k=>q3l C T (ρ m) (ρ k) h id' K
 | .entryStore _ m s v=>z06 (ρ m) (ρ s) (ρ v) h K
 | .range T x=>z0r C T (ρ x) h id' K
 | .next x false=>z0n (ρ x) h K
 | .entry x=>z0f (ρ x) h K
 | .slice T x a b none=>(match C.TI T with
  | some ti=>(match ti.arr,ti.elem with
   | some (n,e),_=>(match ρ x,a,b,C.TI e with
    | .one (.ptr id off),none,none,some _=>K (C3 (.one (.csl id off n n)))
    | _,_,_,_=>none)
   | none,el=>(match el with
   | some e=>(match C.TI e with
    | some te=>z0t te.size h (ρ x) (a.map ρ) (b.map ρ) K
    | none=>none)
   | none=>none))
  | none=>none)
 | .fieldAddr T x f=>(match C.TI T with
  | some ti=>cond ti.str (match ti.flds[f]? with
   | some fi=>cond (Nat.ble 1 fi.size) (match ρ x with
    | .one (.ptr id off)=>K (C3 (.one (.ptr id (off+fi.off))))
    | .one (.eptr id t i c)=>K (C3 (.one (.eptr id t i (c+fi.off))))
    | .one (.ro t y c)=>K (C3 (.one (.ro t y (c+fi.off))))
    | _=>none) none
   | none=>none) none
  | none=>none)
 | .field T x f=>(match C.TI T with
  | some ti=>cond ti.str (match ti.flds[f]?,ρ x with
   | some fi,.agg cs=>cond (Nat.ble (fi.off+fi.size) cs.length) (match fi.agg with
    | true=>K (C3 (.agg ((cs.drop fi.off).take fi.size)))
    | false=>(match cs[fi.off]? with
     | some s=>K (C3 (.one s))
     | none=>none)) none
   | _,_=>none) none
  | none=>none)
 | .index T x i=>(match ρ x with
  | .one (.cstr b)=>z6c C T b (ρ i) K
  | _=>match C.TI T with
   | some ti=>(match ti.arr with
    | some (n,e)=>(match C.TI e,ρ x,ρ i with
     | some te,.agg cs,.one (.sc (.int _) k)=>(match te.agg with
      | true=>(match q51 te.ty n cs with
       | some l=>cond (Nat.beq te.size te.ty.size) ((A9 l k).bind fun y=>K (C3 (.agg (F6 te.ty y)))) none
       | none=>none)
      | false=>(match T1 te.ty cs with
       | some l=>cond (Nat.beq te.size 1&&Nat.beq te.ty.size 1&&Nat.beq cs.length n) ((A9 l k).bind fun y=>K (C3 (.one (.sc te.ty y)))) none
       | none=>none))
     | _,_,_=>none)
    | none=>none)
   | none=>none)
 | .indexAddr T x i=>(match ρ x with
  | .one (.gl g)=>z62 C T g (ρ i) K
  | .one (.ptr id off)=>z5w C T id off (ρ i) K
  | _=>match C.TI T with
   | some ti=>(match ti.elem with
    | some e=>(match C.TI e with
     | some te=>z0c te.size h (ρ x) (ρ i) K
     | none=>none)
    | none=>none)
   | none=>none)
 | .extract t i=>(match ρ t with
  | .tup l=>(match l[i]? with
   | some (true,cs)=>K (C3 (.agg cs))
   | some (false,[s])=>K (C3 (.one s))
   | _=>none)
  | _=>none)
 | .call { callee:=.builtin b,args,argTypes }=>z5v C b argTypes.toList (args.toList.map ρ) h id' K
 | .call { callee:=.value g,args,.. }=>(match ρ g with
  | .one (.fn f caps)=>cond (C.srt f) (z0x C caps (args.toList.map ρ) h K) (match C.srn f with
   | some 0=>cond caps.isEmpty (q9z (args.toList.map ρ) h id' K) none
   | some (k+1)=>cond (Nat.ble 1048575 k) (cond caps.isEmpty (z07 (k-1048575) (args.toList.map ρ) K) none) (z0y C (k+1) caps (args.toList.map ρ) h K)
   | none=>q1u C lo id' f (args.toList.map ρ++q0m caps) h K)
  | .one (.bfn f agg cs)=>q1u C lo id' f ([q1m agg cs]++args.toList.map ρ++[]) h K
  | .one (.yld id)=>C.ycall id (args.toList.map ρ) h lo R fun av h'=>K { av,rd:=[],ups:=[],full:=some h' }
  | _=>none)
 | _=>none
def z0v (C:Ctx) (T:TypeId) (lo hi:Option AV) (K:Eff->Option R):Option R :=
 match C.TI T with
 | some ti=>(match ti.elem with
  | some e=>(match C.TI e with
   | some _=>J0 lo 0 fun a=>J0 hi 0 fun b=>cond (decide (0<=a)&&decide (a<=b)&&decide (b<=0)) (K (C3 (.one .nils))) none
   | none=>none)
  | none=>none)
 | none=>none
def z02 (C:Ctx) (T:TypeId) (h:Heap) (id id':Nat) (hi:Option AV) (K:Eff->Option R):Option R :=
 match C.TI T with
 | some ti=>(match ti.elem with
  | some e=>(match C.TI e,h id with
   | some te,.arr e' t l=>J0 hi l.length fun b=>cond (Nat.beq t.size te.size&&decide (0<=b)&&decide (b<=l.length))
    (H5 h id' (K { av:=.one (.own id'),rd:=[],ups:=[(id,.dead),(id',.arr e' t (l.take b.toNat))],full:=none })) none
   | _,_=>none)
  | none=>none)
 | none=>none
def z03 (C:Ctx) (T:TypeId) (h:Heap) (id id':Nat) (lo:AV) (K:Eff->Option R):Option R :=
 match C.TI T with
 | some ti=>(match ti.elem with
  | some e=>(match C.TI e,h id with
   | some te,.arr e' t l=>J0 (some lo) 0 fun a=>cond (Nat.beq t.size te.size&&decide (0<=a)&&decide (a<=l.length))
    (H5 h id' (K { av:=.one (.own id'),rd:=[],ups:=[(id,.dead),(id',.arr e' t (l.drop a.toNat))],full:=none })) none
   | _,_=>none)
  | none=>none)
 | none=>none
def q9w (C:Ctx) (T:TypeId) (K:Eff->Option R):Option R :=
 match C.TI T with
 | some ti=>(match ti.elem with
  | some _=>K (C3 (D8 .i64 0))
  | none=>none)
 | none=>none
def q9v (C:Ctx) (T T':TypeId) (n:Int) (h:Heap) (id':Nat) (K:Eff->Option R):Option R :=
 match C.TI T,C.TI T' with
 | some ti,some ti'=>(match ti.elem,ti'.agg,ti'.ty with
  | some e,false,.int _=>(match C.TI e with
   | some te=>(match C4 h te.ty te.zeros with
    | some (z,[])=>H5 h id' (cond (decide (0<=n)&&C1 n.toNat te.bytes&&Nat.ble 1 te.size&&Nat.beq te.ty.size te.size)
     (K { av:=.one (.own id'),rd:=[],ups:=[(id',.arr e te.ty (List.replicate n.toNat z))],full:=none }) none)
    | _=>none)
   | none=>none)
  | _,_,_=>none)
 | _,_=>none
def z0b (C:Ctx) (T:TypeId) (x:AV) (K:Eff->Option R):Option R :=
 match C.TI T,q0b x with
 | some ti,some (agg,cs)=>cond ti.str (K (C3 (.one (.ifc T agg cs)))) none
 | _,_=>none
def q68 (C:Ctx) (op:BinOp) (T:TypeId) (b:Bool) (K:Eff->Option R):Option R :=
 cond (C.ifc T) (match op with
  | .eql=>K (C3 (G3 b))
  | .neq=>K (C3 (G3 (!b)))
  | _=>none) none
def z0q (lo:Nat->Bool) (x:AV) (h:Heap) (K:Eff->Option R):Option R :=
 match x,h B6 with
 | .one (.ifc T true []),.fresh=>cond (!lo B6) (K { av:=.one (.pan T),rd:=[],ups:=[],full:=some (upd h B6 (I9 T)) }) none
 | _,_=>none
noncomputable def z63 (C:Ctx) (lo:Nat->Bool) (id':Nat) (T:TypeId) (name:String) (agg:Bool) (cs:List ((t:Ty)×t.den)) (args:List AV) (h:Heap) (K:Eff->Option R):Option R :=
 match C.meth T name with
 | some f=>q1u C lo id' f ([q1m agg cs]++args++[]) h K
 | none=>none
def isX (C:Ctx) (id':Nat) (o:Op) (ρ:Operand->AV):Bool :=
 match o with
 | .slice _ x _ _ none=>(match ρ x with
  | .one .nils=>true
  | .one (.own _)=>Nat.beq (C.nb (2*id'+1)) 1
  | _=>false)
 | .call { callee:=.builtin .cap,.. }=>true
 | .call { callee:=.builtin .append,args,.. }=>(match args.toList.map ρ with
  | [.one .nils,.one (.sc (.int _) _)]=>true
  | _=>false)
 | .makeInterface _ _=>true
 | .panic _=>true
 | .binOp _ _ x (.const .nilIface) _=>(match ρ x with
  | .one (.ifc ..)=>true
  | .one .nif=>true
  | _=>false)
 | .call { callee:=.invoke ..,.. }=>true
 | _=>false
noncomputable def z1d (C:Ctx) (lo:Nat->Bool) (id':Nat) (o:Op) (ρ:Operand->AV) (h:Heap) (K:Eff->Option R):Option R :=
 match o with
 | .slice T x lo hi none=>(match ρ x with
  | .one .nils=>z0v C T (lo.map ρ) (hi.map ρ) K
  | .one (.own id)=>(match lo,hi with
   | none,hi=>z02 C T h id id' (hi.map ρ) K
   | some lo,none=>z03 C T h id id' (ρ lo) K
   | some _,some _=>none)
  | _=>none)
 | .call { callee:=.builtin .cap,args,argTypes }=>(match args.toList.map ρ,argTypes.toList with
  | [.one .nils],[T]=>q9w C T K
  | _,_=>none)
 | .call { callee:=.builtin .append,args,argTypes }=>(match args.toList.map ρ,argTypes.toList with
  | [.one .nils,.one (.sc (.int .i64) n)],[T,T']=>q9v C T T' n h id' K
  | _,_=>none)
 | .makeInterface T x=>z0b C T (ρ x) K
 | .panic x=>z0q lo (ρ x) h K
 | .binOp op T x (.const .nilIface) _=>(match ρ x with
  | .one (.ifc ..)=>q68 C op T false K
  | .one .nif=>q68 C op T true K
  | _=>none)
 | .call { callee:=.invoke r name,args,.. }=>(match ρ r with
  | .one (.ifc T agg cs)=>z63 C lo id' T name agg cs (args.toList.map ρ) h K
  | _=>none)
 | _=>none
noncomputable def q3o (C:Ctx) (lo:Nat->Bool) (id':Nat) (o:Op) (ρ:Operand->AV) (h:Heap) (K:Eff->Option R):Option R :=
 cond (isX C id' o ρ) (z1d C lo id' o ρ h K) (z0o C lo id' o ρ h K)
def q0w {α:Type} (o:Option α) (a:Option R) (b:α->Option R):Option R:=match o with
 | none=>a
 | some x=>b x
def KTy.zero:(t:KTy)->t.den
 | .arr _ _=>[]
 | .map _ _ _ _=>none
 | .ptr _=>none
def KTy.zeroB:KTy->List SV->Bool
 | .arr _ _,[.nils]=>true
 | .map _ _ _ _,[.mpn]=>true
 | .ptr _,[.nilp]=>true
 | _,_=>false
def KTy.back (h:Heap):(t:KTy)->AObj->Option t.den
 | .arr e t,.arr e' t' l=>cond (Nat.beq e e') (F8 (.list t') (.list t) l) none
 | .map ak av k v,.mapo ak' av' k' v' l=>(F8 (.map ak' av' k' v') (.map ak av k v) l).map some
 | .ptr t,.cells cs=>cond (E5 cs).isEmpty (match C4 h t cs with
  | some (x,[])=>some (some x)
  | _=>none) none
 | _,_=>none
def q2f (id':Nat) (t:KTy) (x:t.den) (K:SV->Option AObj->Option R):Option R:=match t,x with
 | .arr e t,l=>K (.own id') (some (.arr e t l))
 | .map ak av k v,x=>q0w x (K .mpn none) fun l=>K (.mp id') (some (.mapo ak av k v l))
 | .ptr t,x=>q0w x (K .nilp none) fun y=>K (.ptr id' 0) (some (.cells (F6 t y)))
def q7d (h:Heap) (t:KTy) (s:SV):Option (t.den×Nat):=match t,s with
 | .arr e t,.own g=>((KTy.arr e t).back h (h g)).map (·,g)
 | .map ak av k v,.mp g=>((KTy.map ak av k v).back h (h g)).map (·,g)
 | .ptr t,.ptr g off=>cond (Nat.beq off 0) (((KTy.ptr t).back h (h g)).map (·,g)) none
 | _,_=>none
def z7p:AObj->Bool
 | .dead=>true
 | _=>false
def J1 {β:Type} (t:Ty) (l:List (t.den×β)) (k:t.den) (x:β):List (t.den×β):=l.map fun p=>cond (t.eqb k p.1) (p.1,x) p
def R9 (h:Heap) (t:KTy) (l:List t.den) (f:Option (Nat×Nat)):Option (List t.den×List (Nat×AObj)):=match f with
 | none=>some (l,[])
 | some (i,g)=>(t.back h (h g)).map fun x=>(l.set i x,[(g,.dead)])
def Q3 (h:Heap) (tk:Ty) (t:KTy) (l:List (tk.den×t.den)) (f:Option (tk.den×Nat)):Option (List (tk.den×t.den)×List (Nat×AObj)):=match f with
 | none=>some (l,[])
 | some (k,g)=>(t.back h (h g)).map fun x=>(J1 tk l k x,[(g,.dead)])
def z0g (ti:TInfo) (h:Heap) (id':Nat) (id:Nat) (tt:Ty) (i c:Nat) (K:Eff->Option R):Option R:=match h id with
 | .arrD e t l f=>(match R9 h t l f with
  | some (l1,u)=>cond (Nat.beq tt.size 1&&Nat.beq c 0&&Nat.beq ti.size 1&&!ti.agg) ((l1[i]?).bind fun y=>H5 h id' (q2f id' t y fun s o=>match o with
   | some o=>K { av:=.one s,rd:=[id],ups:=u++[(id,.arrD e t l1 (some (i,id'))),(id',o)],full:=none }
   | none=>K { av:=.one s,rd:=[id],ups:=u++[(id,.arrD e t l1 none)],full:=none })) none
  | none=>none)
 | _=>none
def z1b (ti:TInfo) (h:Heap) (id:Nat) (tt:Ty) (i c:Nat) (v:AV) (K:Eff->Option R):Option R:=match h id,v with
 | .arrD e t l f,.one s=>(match q7d h t s with
  | some (x,g0)=>cond (Nat.beq tt.size 1&&Nat.beq c 0&&Nat.beq ti.size 1) ((l[i]?).bind fun _=>match f with
   | none=>K { av:=.one .unk,rd:=[id],ups:=[(g0,.dead),(id,.arrD e t (l.set i x) none)],full:=none }
   | some (j,g)=>(match z7p (h g)||Nat.beq g g0 with
    | true=>cond (Nat.beq i j) (K { av:=.one .unk,rd:=[id],ups:=[(g0,.dead),(id,.arrD e t (l.set i x) none)],full:=none }) none
    | false=>(match R9 h t l (some (j,g))with
     | some (l1,u)=>K { av:=.one .unk,rd:=[id],ups:=u++[(id,.arrD e t l1 none),(g0,.dead),(id,.arrD e t (l1.set i x) none)],full:=none }
     | none=>none))) none
  | none=>none)
 | _,_=>none
def z0d (te:TInfo) (h:Heap) (id:Nat) (i:AV) (K:Eff->Option R):Option R:=match h id,i with
 | .arrD _ _ l _,.one (.sc (.int _) n)=>cond (Nat.beq te.size 1&&inB n l.length) (K (E2 (.one (.eptr id (.int .i64) n.toNat 0)) [id])) none
 | _,_=>none
def z0j (te:TInfo) (e:TypeId) (t:KTy) (h:Heap) (id':Nat) (n c:Int) (K:Eff->Option R):Option R :=
 H5 h id' (cond (decide (0<=n)&&decide (n<=c)&&C1 c.toNat te.bytes&&decide (c<=9223372036854775807)&&Nat.beq te.size 1&&t.zeroB te.zeros)
  (K { av:=.one (.own id'),rd:=[],ups:=[(id',.arrD e t (List.replicate n.toNat t.zero) none)],full:=none }) none)
def z0l (C:Ctx) (T:TypeId) (t:KTy) (h:Heap) (id':Nat) (K:Eff->Option R):Option R:=match C.TI T with
 | some ti=>(match ti.mp with
  | some (k,v)=>(match C.TI k,C.TI v with
   | some tik,some tiv=>cond (q27 tik tik.agg tik.ty&&Nat.beq tiv.size 1&&!tiv.agg&&t.zeroB tiv.zeros) (H5 h id' (K { av:=.one (.mp id'),rd:=[],ups:=[(id',.mapD tik.agg tik.ty t [] none)],full:=none })) none
   | _,_=>none)
  | none=>none)
 | none=>none
def q71 (C:Ctx) (T:TypeId) (ak:Bool) (tk:Ty) (t:KTy) (K:Option R):Option R:=match C.TI T with
 | some ti=>(match ti.mp with
  | some (k,v)=>(match C.TI k,C.TI v with
   | some tik,some tiv=>cond (q27 tik ak tk&&Nat.beq tiv.size 1&&!tiv.agg&&t.zeroB tiv.zeros) K none
   | _,_=>none)
  | none=>none)
 | none=>none
def z0i (C:Ctx) (T:TypeId) (id:Nat) (i:AV) (h:Heap) (id':Nat) (K:Eff->Option R):Option R:=match h id with
 | .mapD ak tk t l f=>(match Q3 h tk t l f,F0 h [(ak,tk)] [i]with
  | some (l1,u),some (k,[])=>q71 C T ak tk t (H5 h id' (q2f id' t ((B4 tk l1 k.1).getD t.zero) fun s o=>match o with
   | some o=>K { av:=.one s,rd:=[id,id],ups:=u++[(id,.mapD ak tk t l1 (some (k.1,id'))),(id',o)],full:=none }
   | none=>K { av:=.one s,rd:=[id,id],ups:=u++[(id,.mapD ak tk t l1 none)],full:=none }))
  | _,_=>none)
 | _=>none
def q6d (C:Ctx) (T:TypeId) (id:Nat) (i v:AV) (h:Heap) (K:Eff->Option R):Option R:=match h id,v with
 | .mapD ak tk t l f,.one s=>(match q7d h t s,F0 h [(ak,tk)] [i]with
  | some (x,g0),some (k,[])=>q71 C T ak tk t (match f with
   | none=>K { av:=.one .unk,rd:=[id],ups:=[(g0,.dead),(id,.mapD ak tk t (A8 tk l k.1 x) none)],full:=none }
   | some (j,g)=>(match z7p (h g)||Nat.beq g g0 with
    | true=>cond (tk.eqb j k.1) (K { av:=.one .unk,rd:=[id],ups:=[(g0,.dead),(id,.mapD ak tk t (A8 tk l k.1 x) none)],full:=none }) none
    | false=>(match Q3 h tk t l (some (j,g))with
     | some (l1,u)=>K { av:=.one .unk,rd:=[id],ups:=u++[(id,.mapD ak tk t l1 none),(g0,.dead),(id,.mapD ak tk t (A8 tk l1 k.1 x) none)],full:=none }
     | none=>none)))
  | _,_=>none)
 | _,_=>none
def q69 (C:Ctx) (op:BinOp) (T:TypeId) (b:Bool) (K:Eff->Option R):Option R :=
 match C.TI T with
 | some ti=>(match ti.mp,op with
  | some _,.eql=>K (C3 (G3 b))
  | some _,.neq=>K (C3 (G3 (!b)))
  | _,_=>none)
 | none=>none
def W4 {α β:Type}:List (α×Option β)->Option (List (α×β))
 | []=>some []
 | (a,some b)::r=>(W4 r).map ((a,b)::·)
 | (_,none)::_=>none
def z1k (h:Heap) (id:Nat) (K:List (Nat×AObj)->Option R):Option R:=match h id with
 | .arrD e (.arr e' t) l f=>(match R9 h (.arr e' t) l f with
  | some (l1,u)=>K (u++[(id,.ice e (.list t) l1)])
  | none=>none)
 | .mapD ak tk (.arr e' t) l f=>(match Q3 h tk (.arr e' t) l f with
  | some (l1,u)=>K (u++[(id,.mice ak false tk (.list t) l1)])
  | none=>none)
 | .mapD ak tk (.map ak2 av2 k v) l f=>(match Q3 h tk (.map ak2 av2 k v) l f with
  | some (l1,u)=>(W4 l1).bind fun l2=>K (u++[(id,.mice ak false tk (.map ak2 av2 k v) l2)])
  | none=>none)
 | .fresh=>K []
 | .dead=>K []
 | _=>none
def q6k (K:List (Nat×AObj)->Heap->Option R):List Nat->List (Nat×AObj)->Heap->Option R
 | [],u,h=>K u h
 | id::r,u,h=>z1k h id fun v=>q6k K r (u++v) (A5 v h)
def q0r (h:Heap):AV->Bool
 | .one (.eptr id _ _ _)=>(match h id with
  | .arrD ..=>true
  | _=>false)
 | .one (.own id)=>(match h id with
  | .arrD ..=>true
  | _=>false)
 | .one (.mp id)=>(match h id with
  | .mapD ..=>true
  | _=>false)
 | _=>false
def z7q (C:Ctx):AV->Bool
 | .one (.ptr id _)=>(match C.dp id with
  | some (.ptr _)=>true
  | _=>false)
 | _=>false
def q0e (t:Ty) (off:Nat) (y:t.den):Nat->List t.den->List SV
 | _,[]=>[]
 | j,x::r=>.sc t (cond (Nat.beq off j) y x)::q0e t off y (j+1) r
def z0h (ti:TInfo) (h:Heap) (id off:Nat) (K:Eff->Option R):Option R:=match h id with
 | .cells l=>(match T1 ti.ty l with
  | some vs=>cond (!ti.agg) ((vs[off]?).bind fun x=>K (E2 (.one (.sc ti.ty x)) [id])) none
  | none=>none)
 | _=>none
def z6b (ti:TInfo) (h:Heap) (id off:Nat) (v:AV) (K:Eff->Option R):Option R:=match h id,v with
 | .cells l,.one (.sc t y)=>(match T1 ti.ty l,F8 t ti.ty y with
  | some vs,some y=>cond (Nat.beq ti.size 1&&Nat.ble (off+1) l.length) (K { av:=.one .unk,rd:=[],ups:=[(id,.cells (q0e ti.ty off y 0 vs))],full:=none }) none
  | _,_=>none)
 | _,_=>none
def z0u (C:Ctx) (T:TypeId) (h:Heap) (id off:Nat) (hi:AV) (K:Eff->Option R):Option R:=match C.TI T with
 | some ti=>(match ti.arr with
  | some (n,e)=>(match C.TI e,h id with
   | some te,.cells l=>(match T1 te.ty ((l.drop off).take n)with
    | some vs=>J0 (some hi) 0 fun q=>cond (Nat.beq vs.length n&&Nat.beq te.size 1&&Nat.beq te.ty.size 1&&decide (0<=q)&&decide (q<=n))
     (K { av:=.one (.sc (.list te.ty) (vs.take q.toNat)),rd:=[],ups:=[(id,.dead)],full:=none }) none
    | none=>none)
   | _,_=>none)
  | none=>none)
 | none=>none
def z0w (C:Ctx) (T:TypeId) (h:Heap) (id off:Nat) (hi:AV) (K:Eff->Option R):Option R:=match C.TI T with
 | some ti=>(match ti.arr with
  | some (n,e)=>(match C.TI e,h id with
   | some te,.cells _=>J0 (some hi) 0 fun q=>cond (Nat.beq te.size 1&&decide (0<=q)&&decide (q<=n)) (K (C3 (.one (.csl id off q.toNat n)))) none
   | _,_=>none)
  | none=>none)
 | none=>none
def z1a (C:Ctx) (h:Heap) (id':Nat) (f:FuncId) (id off len cap:Nat) (K:Eff->Option R):Option R:=match C.spec f with
 | some ⟨[(false,.list e)],rs,g⟩=>(match h id with
  | .cells l=>(match T1 e ((l.drop off).take cap)with
   | some vs=>cond (Nat.beq vs.length cap&&Nat.beq e.size 1&&Z9 rs&&Nat.ble (M9 rs) 1&&!Nat.beq id id') (cond (Nat.ble len cap) ((g (vs.take len,())).bind fun y =>
    H5 h id' (K { av:=Y2 (H3 id' rs y).1,rd:=[id',id],ups:=(H3 id' rs y).2,full:=none })) none) none
   | none=>none)
  | _=>none)
 | _=>none
def j79:AV->Bool
 | .one (.mp _)=>true
 | .one .mpn=>true
 | _=>false
def isD (C:Ctx) (id':Nat) (o:Op) (ρ:Operand->AV) (h:Heap):Bool :=
 match o with
 | .load _ x=>q0r h (ρ x)||z7q C (ρ x)
 | .store _ x _=>q0r h (ρ x)||z7q C (ρ x)
 | .indexAddr _ x _=>q0r h (ρ x)
 | .lookup _ m _ false=>q0r h (ρ m)
 | .mapUpdate _ m _ _=>q0r h (ρ m)
 | .insert _ m _ _=>q0r h (ρ m)
 | .makeSlice _ _ _=>(C.dp id').isSome
 | .makeMap _ none=>(C.dp id').isSome
 | .binOp _ _ x (.const (.map none)) _=>j79 (ρ x)
 | .slice _ x none (some _) none=>(match ρ x with
  | .one (.ptr _ _)=>true
  | _=>false)
 | .makeFunc (.func _) first _=>(match first.toList.map ρ with
  | [.one (.ptr _ _)]=>true
  | _=>false)
 | .call { callee:=.builtin .len,args,.. }=>(match args.toList.map ρ with
  | [x]=>q0r h x
  | _=>false)
 | .call { callee:=.value g,args,.. }=>(match ρ g,args.toList.map ρ with
  | .one (.fn f []),[.one (.csl _ _ _ _)]=>(C.spec f).isSome
  | _,_=>false)
 | _=>false
noncomputable def z04 (C:Ctx) (id':Nat) (o:Op) (ρ:Operand->AV) (h:Heap) (K:Eff->Option R):Option R :=
 match o with
 | .load T x=>(match C.TI T,ρ x with
  | some ti,.one (.eptr id tt i c)=>z0g ti h id' id tt i c K
  | some ti,.one (.ptr id off)=>z0h ti h id off K
  | _,_=>none)
 | .store T x v=>(match C.TI T,ρ x with
  | some ti,.one (.eptr id tt i c)=>z1b ti h id tt i c (ρ v) K
  | some ti,.one (.ptr id off)=>z6b ti h id off (ρ v) K
  | _,_=>none)
 | .indexAddr T x i=>(match C.TI T,ρ x with
  | some ti,.one (.own id)=>(match ti.elem with
   | some e=>(match C.TI e with
    | some te=>z0d te h id (ρ i) K
    | none=>none)
   | none=>none)
  | _,_=>none)
 | .lookup T m i false=>(match ρ m with
  | .one (.mp id)=>z0i C T id (ρ i) h id' K
  | _=>none)
 | .mapUpdate T m k v=>(match ρ m with
  | .one (.mp id)=>q6d C T id (ρ k) (ρ v) h K
  | _=>none)
 | .insert T m k v=>(match ρ m with
  | .one (.mp id)=>q6d C T id (ρ k) (ρ v) h K
  | _=>none)
 | .makeSlice T x y=>(match C.TI T,C.dp id',ρ x,ρ y with
  | some ti,some t,.one (.sc (.int .i64) n),.one (.sc (.int .i64) c)=>(match ti.elem with
   | some e=>(match C.TI e with
    | some te=>z0j te e t h id' n c K
    | none=>none)
   | none=>none)
  | _,_,_,_=>none)
 | .makeMap T none=>(match C.dp id' with
  | some t=>z0l C T t h id' K
  | none=>none)
 | .binOp op T x (.const (.map none)) _=>(match ρ x with
  | .one .mpn=>q69 C op T true K
  | .one (.mp _)=>q69 C op T false K
  | _=>none)
 | .slice T x none (some y) none=>(match ρ x with
  | .one (.ptr id off)=>(match C.dp id' with
   | some _=>z0w C T h id off (ρ y) K
   | none=>z0u C T h id off (ρ y) K)
  | _=>none)
 | .call { callee:=.value g,args,argTypes:=_ }=>(match ρ g,args.toList.map ρ with
  | .one (.fn f []),[.one (.csl id off len cap)]=>z1a C h id' f id off len cap K
  | _,_=>none)
 | .makeFunc (.func f) first caps=>(match first.toList,caps.toList with
  | [a],[]=>(match ρ a with
   | .one (.ptr id off)=>K (C3 (.one (.bfp f id off)))
   | _=>none)
  | _,_=>none)
 | .call { callee:=.builtin .len,args,argTypes }=>(match args.toList.map ρ,argTypes.toList with
  | [.one (.own id)],[T]=>(match C.TI T,h id with
   | some ti,.arrD _ _ l _=>(match ti.elem with
    | some _=>K (E2 (D8 .i64 l.length) [id])
    | none=>none)
   | _,_=>none)
  | [.one (.mp id)],[T]=>(match C.TI T,h id with
   | some ti,.mapD _ _ _ l _=>(match ti.mp with
    | some _=>K (E2 (D8 .i64 l.length) [id])
    | none=>none)
   | _,_=>none)
  | _,_=>none)
 | _=>none
def j8c:Op->Bool
 | .mapEntry ..=>false
 | .lookup ..=>false
 | _=>true
noncomputable def z66 (C:Ctx) (lo:Nat->Bool) (id':Nat) (o:Op) (ρ:Operand->AV) (h:Heap) (K:Eff->Option R):Option R :=
 match C.fz id' with
 | []=>cond (isD C id' o ρ h) (z04 C id' o ρ h K) (q3o C lo id' o ρ h K)
 | ids=>cond (j8c o) (q6k (fun u h1=>q3o C lo id' o ρ h1 fun q=>match q.full with
  | none=>K { q with ups:=u++q.ups }
  | some _=>none) ids [] h) none
end
end Go.Abs
