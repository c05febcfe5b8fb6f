/- The engine, part 2: the abstract evaluator. -/
import Derived.Test.YtecofmaegcibeaaGreatDoorAbsBase
import Derived.Test.YtecofmaegcibeaaGreatDoorAbsSortP
namespace Go.Abs
noncomputable section
open Go
def H1:(t:Ty)->t.den->List SV
 | .int k,x=>[.sc (.int k) x]
 | .bool,x=>[.sc .bool x]
 | .list e,x=>[.sc (.list e) x]
 | .nil,_=>[]
 | .cons a b,x=>H1 a x.1++H1 b x.2
 | .map ak av k v,x=>[.sc (.map ak av k v) x]
def H0 (t t':Ty) (x:t.den):Option t'.den :=
 match decEq t t' with
 | .isTrue h=>some (h▸x)
 | .isFalse _=>none
def C2 (h:Heap) (e:Ty):SV->Option (List e.den)
 | .nils=>some []
 | .sc t x=>H0 t (.list e) x
 | .ne t x=>H0 (.list t) (.list e) x
 | .own id=>match h id with
  | .arr _ t l=>H0 (.list t) (.list e) l
  | .ice _ t l=>H0 (.list t) (.list e) l
  | _=>none
 | .sub id off len=>match h id with
  | .arr _ t l=>H0 (.list t) (.list e) ((l.drop off).take len)
  | .ice _ t l=>H0 (.list t) (.list e) ((l.drop off).take len)
  | _=>none
 | _=>none
def S3 (h:Heap) (ak av:Bool) (k v:Ty):SV->Option (List (k.den×v.den))
 | .sc t x=>H0 t (.map ak av k v) x
 | .mp id=>match h id with
  | .mapo ak' av' k' v' l=>H0 (.map ak' av' k' v') (.map ak av k v) l
  | .mice ak' av' k' v' l=>H0 (.map ak' av' k' v') (.map ak av k v) l
  | _=>none
 | _=>none
def F0 (h:Heap):(t:Ty)->List SV->Option (t.den×List SV)
 | .int k,.sc t x::r=>(H0 t (.int k) x).map (·,r)
 | .bool,.sc t x::r=>(H0 t .bool x).map (·,r)
 | .list e,s::r=>(C2 h e s).map (·,r)
 | .map ak av k v,s::r=>(S3 h ak av k v s).map (·,r)
 | .nil,r=>some ((),r)
 | .cons a b,cs=>match F0 h a cs with
  | some (x,r)=>(match F0 h b r with
   | some (y,r')=>some ((x,y),r')
   | none=>none)
  | none=>none
 | _,_=>none
def H3:SV->List Nat
 | .own id=>[id]
 | .sub id _ _=>[id]
 | .mp id=>[id]
 | _=>[]
def G4 (cs:List SV):List Nat:=cs.flatMap H3
def B4 (h:Heap) (ids:List Nat):List (Nat×AObj) :=
 ids.filterMap λid=>match h id with
  | .arr e t l=>some (id,.ice e t l)
  | .mapo ak av k v l=>some (id,.mice ak av k v l)
  | _=>none
def A3 (ups:List (Nat×AObj)) (h:Heap):Heap:=ups.foldl (λh p=>upd h p.1 p.2) h
structure FI where
 off:Nat
 size:Nat
 agg:Bool
structure TInfo where
 agg:Bool
 str:Bool
 size:Nat
 bytes:Nat
 zeros:List SV
 flds:List FI
 elem:Option TypeId
 arr:Option (Nat×TypeId)
 ty:Ty
 strg:Bool:=false
 eqo:Option (List (Nat×Bool)):=none
 mp:Option (TypeId×TypeId):=none
inductive RTy where
 | val (agg:Bool) (t:Ty)
 | own (e:TypeId) (t:Ty)
@[reducible] def RTy.den:RTy->Type
 | .val _ t=>t.den
 | .own _ t=>List t.den
@[reducible] def F9:List (Bool×Ty)->Type
 | []=>Unit
 | a::r=>a.2.den×F9 r
@[reducible] def J2:List RTy->Type
 | []=>Unit
 | a::r=>a.den×J2 r
structure Spec where
 args:List (Bool×Ty)
 res:List RTy
 f:F9 args->Option (J2 res)
 refs:List Bool:=[]
structure Eff where
 av:AV
 rd:List Nat
 ups:List (Nat×AObj)
 full:Option Heap
 lim:Nat:=0
def Eff.heap (e:Eff) (h:Heap):Heap:=match e.full with
 | some H=>H
 | none=>A3 e.ups h
def E4 (av:AV):Eff:={ av,rd:=[],ups:=[],full:=none }
def E1 (av:AV) (rd:List Nat):Eff:={ av,rd,ups:=[],full:=none }
abbrev z2s:=FuncId->List AV->Heap->(Nat->Bool)->Nat->(R:Type)->(AV->Heap->Option R)->Option R
abbrev z2x:=Nat->List AV->Heap->(Nat->Bool)->(R:Type)->(AV->Heap->Option R)->Option R
structure Ctx where
 TI:TypeId->Option TInfo
 spec:FuncId->Option Spec
 inl:FuncId->Bool
 icall:z2s
 ycall:z2x
 glob:Nat->Option (IntKind×Nat×List Int)
 pur:FuncId->Bool
 nb:Nat->Nat
 srt:FuncId->Bool
 srn:FuncId->Option Nat
 ifc:TypeId->Bool
 meth:TypeId->String->Option FuncId
 dp:Nat->Option OT
 pre:Nat->List (Nat×(Nat×Nat))
def j3n:Value->AV
 | .int k n=>.one (.sc (.int k) n)
 | .bool b=>.one (.sc .bool b)
 | .slice none 0 0=>.one .nils
 | .pointer none=>.one .nilp
 | .string b=>.one (.cstr b)
 | .map none=>.one .mpn
 | .nilIface=>.one .nif
 | _=>.one .unk
def ev (ρ:Env):Operand->AV
 | .tmp t=>ρ t
 | .const v=>j3n v
 | .func f=>.one (.fn f [])
 | .global g=>.one (.gl g)
def cellsOf:AV->Option (List SV)
 | .one s=>some [s]
 | .agg l=>some l
 | .tup _=>none
def SV.known:SV->Bool
 | .unk=>false
 | .udf=>false
 | _=>true
def F1 (op:BinOp) (k:IntKind) (x y:Int):Int :=
 let a:=BitVec.ofInt k.bits x
 let b:=BitVec.ofInt k.bits y
 match op with
 | .and=>k.wrap (a &&& b).toNat
 | .or=>k.wrap (a ||| b).toNat
 | .xor=>k.wrap (a ^^^ b).toNat
 | _=>k.wrap (a &&& ~~~b).toNat
def z1o (k:IntKind) (x y:Int):Int:=k.wrap (x*2^(min y.toNat k.bits))
def q45 (k:IntKind) (x y:Int):Int:=x.fdiv (2^(min y.toNat k.bits))
def G7 (k:IntKind) (x:Int):AV:=.one (.sc (.int k) x)
def J4 (b:Bool):AV:=.one (.sc .bool b)
section
variable {R:Type}
def j19 (op:BinOp) (k k':IntKind) (x y:Int) (K:AV->Option R):Option R :=
 match op with
 | .shl=>cond (decide (y<0)) none (K (G7 k (z1o k x y)))
 | .shr=>cond (decide (y<0)) none (K (G7 k (q45 k x y)))
 | op=>match decEq k k' with
  | .isFalse _=>none
  | .isTrue _=>match op with
   | .add=>K (G7 k (k.wrap (x+y)))
   | .sub=>K (G7 k (k.wrap (x-y)))
   | .mul=>K (G7 k (k.wrap (x*y)))
   | .quo=>cond (y==0) none (K (G7 k (k.wrap (x.tdiv y))))
   | .rem=>cond (y==0) none (K (G7 k (x.tmod y)))
   | .and=>K (G7 k (F1 .and k x y))
   | .or=>K (G7 k (F1 .or k x y))
   | .xor=>K (G7 k (F1 .xor k x y))
   | .andNot=>K (G7 k (F1 .andNot k x y))
   | .eql=>K (J4 (x==y))
   | .neq=>K (J4 (x != y))
   | .lss=>K (J4 (decide (x<y)))
   | .leq=>K (J4 (decide (x<=y)))
   | .gtr=>K (J4 (decide (x>y)))
   | .geq=>K (J4 (decide (x≥y)))
   | _=>none
def j1u (op:UnOp) (x:AV) (K:AV->Option R):Option R :=
 match op,x with
 | .neg,.one (.sc (.int k) n)=>K (G7 k (k.wrap (0-n)))
 | .xor,.one (.sc (.int k) n)=>K (G7 k (F1 .xor k (if k.signed then -1 else k.max) n))
 | .not,.one (.sc .bool b)=>K (J4 (!b))
 | _,_=>none
def U1 (ti:TInfo) (cs:List SV) (off:Nat) (K:AV->Option R):Option R :=
 match ti.agg with
 | true=>cond (Nat.ble (off+ti.size) cs.length) (K (.agg ((cs.drop off).take ti.size))) none
 | false=>match cs[off]? with
  | some s=>K (.one s)
  | none=>none
def splice {α:Type} (cs:List α) (off:Nat) (vs:List α):List α:=cs.take off++vs++cs.drop (off+vs.length)
def A5 {α:Type} (l:List α) (i:Int):Option α:=cond (decide (0<=i)) l[i.toNat]? none
theorem j9z (α:Type):∃f:List α->Int->Option α,f=A5:=⟨_,rfl⟩
def j29 {α:Type}:List α->Int->Option α:=Classical.choose (j9z α)
theorem j9y {α:Type}:(j29:List α->Int->Option α)=A5:=eX (j9z α)
def inB (i:Int) (n:Nat):Bool:=decide (0<=i)&&decide (i<n)
def j1b (ti:TInfo) (h:Heap) (x:AV) (K:Eff->Option R):Option R :=
 match x with
 | .one (.ptr id off)=>match h id with
  | .cells l=>U1 ti l off λav=>K (E1 av [id])
  | _=>none
 | .one (.eptr id t i c)=>match h id with
  | .arr _ t' l=>match decEq t t' with
   | .isTrue _=>(l[i]?).bind λy=>U1 ti (H1 t' y) c λav=>K (E1 av [id])
   | .isFalse _=>none
  | .ice _ t' l=>match decEq t t' with
   | .isTrue _=>(l[i]?).bind λy=>U1 ti (H1 t' y) c λav=>K (E1 av [id])
   | .isFalse _=>none
  | _=>none
 | .one (.ro t y c)=>U1 ti (H1 t y) c λav=>K (E4 av)
 | .one (.gp k x)=>U1 ti [.sc (.int k) x] 0 λav=>K (E4 av)
 | _=>none
def j95 (ti:TInfo) (h:Heap) (x v:AV) (K:Eff->Option R):Option R :=
 match cellsOf v with
 | none=>none
 | some vs=>cond (vs.all SV.known&&Nat.beq vs.length ti.size) (match x with
  | .one (.ptr id off)=>match h id with
   | .cells l=>cond (Nat.ble (off+vs.length) l.length) (K { av:=.one .unk,rd:=[],ups:=[(id,.cells (splice l off vs))],full:=none }) none
   | _=>none
  | .one (.eptr id t i c)=>match h id with
   | .arr e t' l=>match decEq t t' with
    | .isTrue _=>(l[i]?).bind λy=>match F0 h t' (splice (H1 t' y) c vs)with
     | some (y',[])=>cond ((G4 vs).all (λj=>!Nat.beq j id)&&Nat.ble (c+vs.length) t'.size)
      (K { av:=.one .unk,rd:=G4 vs,ups:=B4 h (G4 vs)++[(id,.arr e t' (l.set i y'))],full:=none }) none
     | _=>none
    | .isFalse _=>none
   | _=>none
  | _=>none) none
def z1l (t:Ty):List SV->Option (List t.den)
 | []=>some []
 | .sc t' x::r=>(match H0 t' t x,z1l t r with
  | some y,some l=>some (y::l)
  | _,_=>none)
 | _=>none
def I3 (h:Heap) (id:Nat) (K:Option R):Option R:=match h id with
 | .fresh=>K
 | _=>none
def q0e (flds:List FI) (ρ:Operand->AV):List (Nat×Operand)->List SV->Option (List SV)
 | [],cs=>some cs
 | (i,x)::r,cs=>match flds[i]?,cellsOf (ρ x)with
  | some fi,some vs=>cond (Nat.beq vs.length fi.size&&vs.all SV.known&&Nat.ble (fi.off+vs.length) cs.length) (q0e flds ρ r (splice cs fi.off vs)) none
  | _,_=>none
def q1f (h:Heap) (t:Ty) (ρ:Operand->AV):Nat->List (Nat×Operand)->Option (List t.den×List Nat)
 | _,[]=>some ([],[])
 | n,(i,x)::r=>cond (Nat.beq i n) (match cellsOf (ρ x)with
  | some vs=>cond (vs.all SV.known) (match F0 h t vs,q1f h t ρ (n+1) r with
   | some (y,[]),some (l,ids)=>some (y::l,G4 vs++ids)
   | _,_=>none) none
  | none=>none) none
def N0 (x:Option AV) (d:Nat) (K:Int->Option R):Option R:=match x with
 | none=>K d
 | some (.one (.sc (.int _) n))=>K n
 | _=>none
def j1m (sz:Nat) (h:Heap) (x:AV) (lo hi:Option AV) (K:Eff->Option R):Option R :=
 match x with
 | .one (.own id)=>match h id with
  | .arr _ t l=>cond (Nat.beq t.size sz) (N0 lo 0 λa=>N0 hi l.length λb =>
   cond (decide (0<=a)&&decide (a<=b)&&decide (b<=l.length)) (K (E1 (.one (.sub id a.toNat (b.toNat-a.toNat))) [id])) none) none
  | .ice _ t l=>cond (Nat.beq t.size sz) (N0 lo 0 λa=>N0 hi l.length λb =>
   cond (decide (0<=a)&&decide (a<=b)&&decide (b<=l.length)) (K (E1 (.one (.sub id a.toNat (b.toNat-a.toNat))) [id])) none) none
  | _=>none
 | .one (.sub id off len)=>match h id with
  | .arr _ t _=>cond (Nat.beq t.size sz) (N0 lo 0 λa=>N0 hi len λb =>
   cond (decide (0<=a)&&decide (a<=b)&&decide (b<=len)) (K (E1 (.one (.sub id (off+a.toNat) (b.toNat-a.toNat))) [id])) none) none
  | .ice _ t _=>cond (Nat.beq t.size sz) (N0 lo 0 λa=>N0 hi len λb =>
   cond (decide (0<=a)&&decide (a<=b)&&decide (b<=len)) (K (E1 (.one (.sub id (off+a.toNat) (b.toNat-a.toNat))) [id])) none) none
  | _=>none
 | .one (.sc (.list t) l)=>cond (Nat.beq t.size sz) (N0 lo 0 λa=>N0 hi l.length λb =>
  cond (decide (0<=a)&&decide (a<=b)&&decide (b<=l.length)) (K (E4 (.one (.sc (.list t) ((l.drop a.toNat).take (b.toNat-a.toNat)))))) none) none
 | _=>none
def j18 (sz:Nat) (h:Heap) (x i:AV) (K:Eff->Option R):Option R :=
 match i with
 | .one (.sc (.int _) n)=>match x with
  | .one (.own id)=>match h id with
   | .arr _ t l=>cond (Nat.beq t.size sz&&inB n l.length) (K (E1 (.one (.eptr id t n.toNat 0)) [id])) none
   | .ice _ t l=>cond (Nat.beq t.size sz&&inB n l.length) (K (E1 (.one (.eptr id t n.toNat 0)) [id])) none
   | _=>none
  | .one (.sub id off len)=>match h id with
   | .arr _ t _=>cond (Nat.beq t.size sz&&inB n len) (K (E1 (.one (.eptr id t (off+n.toNat) 0)) [id])) none
   | .ice _ t _=>cond (Nat.beq t.size sz&&inB n len) (K (E1 (.one (.eptr id t (off+n.toNat) 0)) [id])) none
   | _=>none
  | .one (.sc (.list t) l)=>cond (Nat.beq t.size sz&&Nat.ble 1 sz) ((A5 l n).bind λy=>K (E4 (.one (.ro t y 0)))) none
  | _=>none
 | _=>none
def A8 (n bytes:Nat):Bool:=Nat.ble n 140737488355328&&Nat.ble (n*bytes) 140737488355328
def j0v (e:TypeId) (te:TInfo) (h:Heap) (id':Nat) (s x:AV) (K:Eff->Option R):Option R :=
 match s,x with
 | .one .nils,.one sx=>(match C2 h te.ty sx with
  | some m=>I3 h id' (cond (A8 m.length te.bytes&&Nat.ble 1 te.size&&Nat.beq te.ty.size te.size) (K { av:=.one (.own id'),rd:=H3 sx,ups:=[(id',.arr e te.ty m)],full:=none }) none)
  | none=>none)
 | .one (.own id),.one sx=>match h id with
  | .arr e' t l=>match decEq t te.ty with
   | .isTrue _=>(match C2 h t sx with
    | some m=>I3 h id' (cond (Nat.beq e e'&&A8 (l.length+m.length) te.bytes&&Nat.ble 1 te.size&&Nat.beq te.ty.size te.size)
     (K { av:=.one (.own id'),rd:=H3 sx,ups:=[(id,.dead),(id',.arr e t (l++m))],full:=none }) none)
    | none=>none)
   | .isFalse _=>none
  | _=>none
 | _,_=>none
def G6 (h:Heap):(as:List (Bool×Ty))->List AV->Option (F9 as×List Nat)
 | [],[]=>some ((),[])
 | (true,t)::r,.agg cs::vs=>(match F0 h t cs,G6 h r vs with
  | some (y,[]),some (ys,ids)=>some ((y,ys),G4 cs++ids)
  | _,_=>none)
 | (false,t)::r,.one s::vs=>cond s.known (match F0 h t [s],G6 h r vs with
  | some (y,[]),some (ys,ids)=>some ((y,ys),H3 s++ids)
  | _,_=>none) none
 | _,_=>none
def J8 (h:Heap):List Bool->(as:List (Bool×Ty))->List AV->Option (F9 as×List Nat)
 | [],as,vs=>G6 h as vs
 | true::rf,(_,t)::r,.one (.ptr id 0)::vs=>(match h id with
  | .cells cs=>(match F0 h t cs,J8 h rf r vs with
   | some (y,[]),some (ys,ids)=>some ((y,ys),id::(G4 cs++ids))
   | _,_=>none)
  | _=>none)
 | false::rf,(agg,t)::r,v::vs=>(match G6 h [(agg,t)] [v],J8 h rf r vs with
  | some (y,ids1),some (ys,ids2)=>some ((y.1,ys),ids1++ids2)
  | _,_=>none)
 | _,_,_=>none
def J1 (id':Nat):(rs:List RTy)->J2 rs->List (Bool×List SV)×List (Nat×AObj)
 | [],_=>([],[])
 | .val agg t::r,y=>let p:=J1 id' r y.2;((agg,H1 t y.1)::p.1,p.2)
 | .own e t::r,y=>let p:=J1 id' r y.2;((false,[.own id'])::p.1,(id',.arr e t y.1)::p.2)
def RTy.isOwn:RTy->Bool
 | .own ..=>true
 | _=>false
def T9:List RTy->Nat
 | []=>0
 | r::rs=>(if r.isOwn then 1 else 0)+T9 rs
def q3e:List RTy->Bool
 | []=>true
 | .val _ t::r=>t.flat&&q3e r
 | .own _ t::r=>t.flat&&q3e r
def q2v:List (Bool×List SV)->AV
 | [(true,l)]=>.agg l
 | [(false,[s])]=>.one s
 | l=>.tup l
def j1q (sp:Spec) (h:Heap) (id':Nat) (args:List AV) (K:Eff->Option R):Option R :=
 match J8 h sp.refs sp.args args with
 | none=>none
 | some (x,ids)=>(sp.f x).bind λy =>
  let p:=J1 id' sp.res y
  cond (Nat.ble (T9 sp.res) 1&&ids.all (λj=>!Nat.beq j id')) (I3 h id' (K { av:=q2v p.1,rd:=id'::ids,ups:=cond (q3e sp.res) p.2 (B4 h ids++p.2),full:=none })) none
def v7p (cs:List SV):List Nat:=cs.flatMap λs=>match s with
 | .ptr id _=>[id]
 | s=>H3 s
def y27 (C:Ctx) (id':Nat) (args:List AV):List Nat:=(match C.nb (2*id'+1)with
 | 0=>[]
 | n+1=>(match n with
  | 0=>[]
  | k+1=>[k])++args.flatMap λa=>match cellsOf a with
  | some cs=>v7p cs
  | none=>[])++(C.pre id').map (·.1)
def j3j (M:List Nat) (id:Nat):Bool:=M.all λj=>!Nat.beq j id
theorem j3k {M:List Nat} {id:Nat} (h:id∉M):j3j M id=true:=by
 unfold j3j;rw[aG];intro j hj;have:Nat.beq j id=false:=by
  cases hb:Nat.beq j id with
  | false=>rfl
  | true=>exact absurd (ab hb▸hj) h
 rw[this];rfl
def y0v:AV->Bool
 | .one .mpn=>true
 | _=>false
def j56 (C:Ctx) (f:FuncId) (args:List AV):Option Spec:=cond (args.any y0v) none (C.spec f)
theorem j57 {C:Ctx} {f:FuncId} {args:List AV} {sp:Spec} (h:j56 C f args=some sp):C.spec f=some sp:=by
 unfold j56 at h;cases hb:args.any y0v with
 | true=>rw[hb]at h;cases h
 | false=>rw[hb]at h;exact h
def q65 (C:Ctx) (lo:Nat->Bool) (id':Nat) (f:FuncId) (args:List AV) (h:Heap) (K:Eff->Option R):Option R :=
 match j56 C f args with
 | some sp=>j1q sp h id' args K
 | none=>cond (C.inl f) (cond (C.pur f)
  (C.icall f args h (λid=>lo id||(Nat.blt id (C.nb (2*id'))&&j3j (y27 C id' args) id)) (C.nb (2*id')) R λav h'=>K { av,rd:=[],ups:=(y27 C id' args).map λid=>(id,h' id),full:=some h',lim:=C.nb (2*id') })
  (C.icall f args h lo (C.nb (2*id')) R λav h'=>K { av,rd:=[],ups:=[],full:=some h' })) none
def j0i (t:Ty) (sp:Spec):Option (t.den->t.den->Option Int):=match sp with
 | ⟨[(false,t1),(false,t2)],[.val false (.int .i64)],f,[]⟩=>some λx y=>(H0 t t1 x).bind λx'=>(H0 t t2 y).bind λy'=>(f (x',y',())).map λr=>r.1
 | _=>none
def j1o (C:Ctx) (caps:List (Nat×Nat)) (args:List AV) (h:Heap) (K:Eff->Option R):Option R :=
 match caps,args with
 | [],[.one (.own id),.one (.fn g [])]=>(match h id,C.spec g with
  | .arr e t l,some sp=>(match j0i t sp with
   | some f=>cond (Nat.beq t.size 1) (cond (A8 l.length 1) ((O6 f l).bind λz=>K { av:=.tup [],rd:=[],ups:=[(id,.arr e t z)],full:=none }) none) none
   | none=>none)
  | _,_=>none)
 | _,_=>none
def j0j (t:Ty) (sp:Spec):Option (t.den->t.den->Option Int):=match sp with
 | ⟨[(true,t1),(true,t2)],[.val false (.int .i64)],f,[]⟩=>some λx y=>(H0 t t1 x).bind λx'=>(H0 t t2 y).bind λy'=>(f (x',y',())).map λr=>r.1
 | _=>none
def j1p (C:Ctx) (k:Nat) (caps:List (Nat×Nat)) (args:List AV) (h:Heap) (K:Eff->Option R):Option R :=
 match caps,args with
 | [],[.one (.own id),.one (.fn g [])]=>(match h id,C.spec g with
  | .arr e t l,some sp=>(match j0j t sp with
   | some f=>cond (Nat.beq t.size k) (cond (A8 l.length 1) ((O6 f l).bind λz=>K { av:=.tup [],rd:=[],ups:=[(id,.arr e t z)],full:=none }) none) none
   | none=>none)
  | _,_=>none)
 | [],[.one .nils,.one (.fn _ [])]=>K { av:=.tup [],rd:=[],ups:=[],full:=none }
 | _,_=>none
def q0z (ρ:Operand->AV):List Operand->Option (List (Nat×Nat))
 | []=>some []
 | x::r=>match ρ x,q0z ρ r with
  | .one (.ptr id off),some l=>some ((id,off)::l)
  | _,_=>none
def q4j (l:List (Nat×Nat)):List AV:=l.map λp=>.one (.ptr p.1 p.2)
def z3j (agg:Bool) (cs:List ((t:Ty)×t.den)):AV:=match agg,cs with
 | true,cs=>.agg (cs.map λp=>.sc p.1 p.2)
 | false,[p]=>.one (.sc p.1 p.2)
 | false,_=>.one .unk
def q71:List SV->Option (List ((t:Ty)×t.den))
 | []=>some []
 | .sc t x::r=>match q71 r with
  | some l=>some (⟨t,x⟩::l)
  | none=>none
 | _::_=>none
def q59:AV->Option (Bool×List ((t:Ty)×t.den))
 | .one (.sc t x)=>some (false,[⟨t,x⟩])
 | .agg l=>match q71 l with
  | some cs=>some (true,cs)
  | none=>none
 | _=>none
def q24:AV->Option (Nat×List AV×List AV)
 | .one (.fn f caps)=>some (f,[],q4j caps)
 | .one (.bfn f agg cs)=>some (f,[z3j agg cs],[])
 | .one (.bfp f id off)=>some (f,[.one (.ptr id off)],[])
 | _=>none
def T5:Ty->List Bool
 | .int _=>[false]
 | .bool=>[true]
 | .list _=>[false]
 | .map _ _ _ _=>[false]
 | .nil=>[]
 | .cons a b=>T5 a++T5 b
def q2y (agg:Bool) (t:Ty) (y:t.den):List SV:=match agg with
 | true=>H1 t y
 | false=>[.sc t y]
def y8m (agg:Bool) (t:Ty) (y:t.den):AV:=match agg with
 | true=>.agg (H1 t y)
 | false=>.one (.sc t y)
def z5b (ti:TInfo) (ak:Bool) (tk:Ty):Bool :=
 decide (ti.ty=tk)&&(ti.agg==ak)&&tk.flat&&Nat.beq tk.size ti.size&&(match ak,tk,ti.eqo with
  | false,.int _,_=>true
  | true,t,some l=>(List.range ti.size).all (λi=>l.any λp=>Nat.beq p.1 i)&&l.all (λp=>(T5 t)[p.1]? == some p.2)
  | _,_,_=>false)
def q5q (ti:TInfo) (av:Bool) (tv:Ty):Bool:=decide (ti.ty=tv)&&(ti.agg==av)&&Nat.beq tv.size ti.size
def q3m (C:Ctx) (T:TypeId) (ak av:Bool) (tk tv:Ty) (K:TInfo->Option R):Option R:=match C.TI T with
 | some ti=>(match ti.mp with
  | some (k,v)=>(match C.TI k,C.TI v with
   | some tik,some tiv=>cond (z5b tik ak tk&&q5q tiv av tv) (K tiv) none
   | _,_=>none)
  | none=>none)
 | none=>none
def j1d (C:Ctx) (T:TypeId) (h:Heap) (id':Nat) (hint:Option AV) (K:Eff->Option R):Option R :=
 match C.TI T,hint with
 | some ti,none=>(match ti.mp with
  | some (k,v)=>(match C.TI k,C.TI v with
   | some tik,some tiv=>cond (z5b tik tik.agg tik.ty&&q5q tiv tiv.agg tiv.ty) (I3 h id' (K { av:=.one (.mp id'),rd:=[],ups:=[(id',.mapo tik.agg tiv.agg tik.ty tiv.ty [])],full:=none })) none
   | _,_=>none)
  | none=>none)
 | _,_=>none
def q6o (ok:Bool) (av:Bool) (tv:Ty) (y:tv.den) (b:Bool):AV:=match ok with
 | true=>.tup [(av,q2y av tv y),(false,[.sc .bool b])]
 | false=>y8m av tv y
def q67 (C:Ctx) (T:TypeId) (m i:AV) (ok:Bool) (h:Heap) (K:Eff->Option R):Option R :=
 match m with
 | .one (.mp id)=>(match h id with
  | .mapo ak av tk tv l=>q3m C T ak av tk tv λtiv=>(match G6 h [(ak,tk)] [i],F0 h tv tiv.zeros with
   | some (k,ids),some (z,[])=>K { av:=q6o ok av tv ((D2 tk l k.1).getD z) (D2 tk l k.1).isSome,rd:=id::ids,ups:=[],full:=none }
   | _,_=>none)
  | _=>none)
 | _=>none
def z3z (C:Ctx) (T:TypeId) (m i v:AV) (h:Heap) (K:Eff->Option R):Option R :=
 match m with
 | .one (.mp id)=>(match h id with
  | .mapo ak av tk tv l=>q3m C T ak av tk tv λ_=>(match G6 h [(ak,tk),(av,tv)] [i,v]with
   | some (x,ids)=>cond (ids.all λj=>!Nat.beq j id) (K { av:=.one .unk,rd:=id::ids,ups:=B4 h ids++[(id,.mapo ak av tk tv (C9 tk l x.1 x.2.1))],full:=none }) none
   | _=>none)
  | _=>none)
 | _=>none
def q8f (C:Ctx) (T:TypeId) (m i:AV) (h:Heap) (id':Nat) (K:Eff->Option R):Option R :=
 match m with
 | .one (.mp id)=>(match h id with
  | .mapo ak av tk tv l=>q3m C T ak av tk tv λtiv=>(match G6 h [(ak,tk)] [i],F0 h tv tiv.zeros with
   | some (k,ids),some (z,[])=>I3 h id' (K { av:=.tup [(av,q2y av tv ((D2 tk l k.1).getD z)),(false,[.stmp id'])],rd:=id::ids,ups:=[(id',.dead),(id,.mapp ak av tk tv (F4 tk l k.1 z) k.1 id')],full:=none })
   | _,_=>none)
  | _=>none)
 | _=>none
def j15 (m s v:AV) (h:Heap) (K:Eff->Option R):Option R :=
 match m,s with
 | .one (.mp id),.one (.stmp g)=>(match h id with
  | .mapp ak av tk tv l k g'=>(match G6 h [(av,tv)] [v]with
   | some (x,ids)=>cond (Nat.beq g g'&&ids.all λj=>!Nat.beq j id) (K { av:=.one .unk,rd:=id::ids,ups:=B4 h ids++[(id,.mapo ak av tk tv (C9 tk l k x.1))],full:=none }) none
   | none=>none)
  | _=>none)
 | _,_=>none
def j14 (C:Ctx) (T:TypeId) (m i:AV) (h:Heap) (K:Eff->Option R):Option R :=
 match m with
 | .one (.mp id)=>(match h id with
  | .mapo ak av tk tv l=>q3m C T ak av tk tv λ_=>(match G6 h [(ak,tk)] [i]with
   | some (k,ids)=>K { av:=.tup [],rd:=id::ids,ups:=[(id,.mapo ak av tk tv (H2 tk l k.1))],full:=none }
   | _=>none)
  | _=>none)
 | _=>none
def k57 (C:Ctx) (T:TypeId) (m:AV) (h:Heap) (K:Eff->Option R):Option R :=
 match C.TI T,m with
 | some ti,.one (.mp id)=>(match ti.mp,h id with
  | some _,.mapo _ _ _ _ l=>K (E1 (G7 .i64 l.length) [id])
  | some _,.mice _ _ _ _ l=>K (E1 (G7 .i64 l.length) [id])
  | _,_=>none)
 | some ti,.one (.sc (.map _ _ _ _) l)=>(match ti.mp with
  | some _=>K (E4 (G7 .i64 l.length))
  | none=>none)
 | _,_=>none
def j1f (x:AV) (h:Heap) (K:Eff->Option R):Option R:=match x with
 | .one (.ptr id 0)=>(match h id with
  | .iter _ _ _ _ [] none=>K { av:=.tup [(false,[.sc .bool false])],rd:=[id],ups:=[],full:=none }
  | _=>none)
 | _=>none
def j1j (C:Ctx) (T:TypeId) (x:AV) (h:Heap) (id':Nat) (K:Eff->Option R):Option R :=
 match C.TI T with
 | some ti=>(match ti.mp with
  | some _=>(match x with
   | .one (.sc (.map ak av tk tv) l)=>I3 h id' (K { av:=.one (.ptr id' 0),rd:=[],ups:=[(id',.iter ak av tk tv l none)],full:=none })
   | .one .mpn=>I3 h id' (K { av:=.one (.ptr id' 0),rd:=[],ups:=[(id',.iter false false .bool .bool [] none)],full:=none })
   | _=>none)
  | none=>none)
 | none=>none
def j1a (x:AV) (h:Heap) (K:Eff->Option R):Option R :=
 match x with
 | .one (.ptr id 0)=>(match h id with
  | .iter ak av tk tv _ (some q)=>K (E1 (.tup [(ak,q2y ak tk q.1),(av,q2y av tv q.2)]) [id])
  | _=>none)
 | _=>none
def j0y (C:Ctx) (T:TypeId) (id off len:Nat) (h:Heap) (K:Eff->Option R):Option R :=
 match C.TI T with
 | some ti=>(match ti.elem with
  | some e=>(match C.TI e with
   | some te=>(match h id with
    | .arr e' t l=>(match decEq t te.ty,F0 h te.ty te.zeros with
     | .isTrue _,some (z,[])=>(match H0 te.ty t z with
      | some z'=>cond (Nat.beq e e'&&Nat.ble 1 te.size&&Nat.beq te.ty.size te.size)
       (K { av:=.tup [],rd:=[],ups:=[(id,.arr e t (l.take off++List.replicate len z'++l.drop (off+len)))],full:=none }) none
      | none=>none)
     | _,_=>none)
    | _=>none)
   | none=>none)
  | none=>none)
 | none=>none
def q63 (t:Ty) (m:List t.den):Nat->List SV->Option (List SV)
 | _,[]=>some []
 | i,.sc t' y::r=>(match H0 t' t y,q63 t m (i+1) r with
  | some y',some r'=>some (.sc t ((m[i]?).getD y')::r')
  | _,_=>none)
 | _,_::_=>none
def j0z (te:TInfo) (h:Heap) (id off len:Nat) (x:AV) (K:Eff->Option R):Option R :=
 match x,h id with
 | .one sx,.cells l=>(match C2 h te.ty sx with
  | some m=>(match q63 te.ty m 0 ((l.drop off).take len)with
   | some mid=>cond (Nat.ble (off+len) l.length&&Nat.beq te.size 1&&Nat.beq te.ty.size 1)
    (K { av:=G7 .i64 (Nat.min m.length len:Nat),rd:=H3 sx,ups:=[(id,.cells (splice l off mid))],full:=none }) none
   | none=>none)
  | none=>none)
 | _,_=>none
def j8v (C:Ctx) (b:Builtin) (argTypes:List TypeId) (args:List AV) (h:Heap) (id':Nat) (K:Eff->Option R):Option R :=
 match b,args with
 | .clear,[m]=>(match argTypes with
  | [T]=>(match m with
   | .one (.sub id off len)=>j0y C T id off len h K
   | _=>none)
  | _=>none)
 | .delete,[m,i]=>(match argTypes with
  | [T,_]=>j14 C T m i h K
  | _=>none)
 | .len,[x]=>(match argTypes with
  | [T]=>(match C.TI T with
   | some ti=>(match ti.elem with
    | none=>none
    | some _=>(match x with
     | .one .nils=>K (E4 (G7 .i64 0))
     | .one (.own id)=>(match h id with
      | .arr _ _ l=>K (E1 (G7 .i64 l.length) [id])
      | .ice _ _ l=>K (E1 (G7 .i64 l.length) [id])
      | _=>none)
     | .one (.sub id _ len)=>(match h id with
      | .arr ..=>K (E1 (G7 .i64 len) [id])
      | .ice ..=>K (E1 (G7 .i64 len) [id])
      | _=>none)
     | .one (.sc (.list _) l)=>K (E4 (G7 .i64 l.length))
     | _=>none))
   | none=>none)
  | _=>none)
 | .append,[s,x]=>(match argTypes with
  | [T,T']=>(match C.TI T with
   | some ti=>(match ti.elem with
    | some e=>(match C.TI e with
     | some te=>cond (Nat.beq T T') (j0v e te h id' s x K) none
     | none=>none)
    | none=>none)
   | none=>none)
  | _=>none)
 | .copy,[s,x]=>(match argTypes with
  | [T,_]=>(match C.TI T with
   | some ti=>(match ti.elem with
    | some e=>(match C.TI e with
     | some te=>(match s with
      | .one (.csl id off len _)=>j0z te h id off len x K
      | _=>none)
     | none=>none)
    | none=>none)
   | none=>none)
  | _=>none)
 | .min,[.one (.sc (.int k) x),.one (.sc (.int k') y)]=>(match decEq k k' with
  | .isTrue _=>K (E4 (G7 k (if y<x then y else x)))
  | .isFalse _=>none)
 | .max,[.one (.sc (.int k) x),.one (.sc (.int k') y)]=>(match decEq k k' with
  | .isTrue _=>K (E4 (G7 k (if y>x then y else x)))
  | .isFalse _=>none)
 | _,_=>none
def j91 (te:TInfo) (e:TypeId) (h:Heap) (id':Nat) (n c:Int) (K:Eff->Option R):Option R :=
 match F0 h te.ty te.zeros with
 | some (z,[])=>I3 h id' (cond (decide (0<=n)&&decide (n<=c)&&A8 c.toNat te.bytes&&decide (c<=9223372036854775807)&&Nat.ble 1 te.size&&Nat.beq te.ty.size te.size)
  (K { av:=.one (.own id'),rd:=[],ups:=[(id',.arr e te.ty (List.replicate n.toNat z))],full:=none }) none)
 | _=>none
def j90 (C:Ctx) (T:TypeId) (g:Nat) (i:AV) (K:Eff->Option R):Option R :=
 match C.TI T with
 | some ti=>(match ti.arr,C.glob g with
  | some (n,e),some (k,m,l)=>(match C.TI e,i with
   | some te,.one (.sc (.int _) j)=>cond (Nat.beq te.size 1&&Nat.beq m n&&Nat.ble 2 n) ((j29 l j).bind λy=>K (E4 (.one (.gp k y)))) none
   | _,_=>none)
  | _,_=>none)
 | none=>none
def k56 (C:Ctx) (T:TypeId) (id off:Nat) (i:AV) (K:Eff->Option R):Option R :=
 match C.TI T with
 | some ti=>(match ti.arr with
  | some (n,e)=>(match C.TI e,i with
   | some te,.one (.sc (.int _) j)=>cond (Nat.beq te.size 1&&inB j n) (K (E4 (.one (.ptr id (off+j.toNat))))) none
   | _,_=>none)
  | none=>none)
 | none=>none
def j13 (k:Nat) (args:List AV) (h:Heap) (id':Nat) (K:Eff->Option R):Option R :=
 match args with
 | [.one (.own id),.one (.sc (.int .i64) i),.one (.sc (.int .i64) j)]=>(match h id with
  | .arr e t l=>I3 h id' (cond (Nat.beq t.size k&&decide (0<=i)&&decide (i<j)&&decide (j<=l.length)) (K { av:=.one (.own id'),rd:=[],ups:=[(id,.dead),(id',.arr e t (l.take i.toNat++l.drop j.toNat))],full:=none }) none)
  | _=>none)
 | _=>none
def z44 (C:Ctx) (op:BinOp) (T:TypeId) (b:Bool) (K:Eff->Option R):Option R :=
 match C.TI T with
 | some ti=>(match ti.elem,op with
  | some _,.eql=>K (E4 (J4 b))
  | some _,.neq=>K (E4 (J4 (!b)))
  | _,_=>none)
 | none=>none
def q39 (cs ds:List SV):List (Nat×Bool)->Option Bool
 | []=>some true
 | (o,false)::r=>(match cs[o]?,ds[o]?,q39 cs ds r with
  | some (.sc (.int k) a),some (.sc (.int k') b),some q=>(match decEq k k' with
   | .isTrue _=>some (a==b&&q)
   | .isFalse _=>none)
  | _,_,_=>none)
 | (o,true)::r=>(match cs[o]?,ds[o]?,q39 cs ds r with
  | some (.sc .bool a),some (.sc .bool b),some q=>some (a==b&&q)
  | _,_,_=>none)
def j8w (C:Ctx) (op:BinOp) (T:TypeId) (cs ds:List SV) (K:Eff->Option R):Option R :=
 match C.TI T with
 | some ti=>(match ti.eqo with
  | some l=>(match q39 cs ds l,op with
   | some b,.eql=>cond (Nat.beq cs.length ti.size&&Nat.beq ds.length ti.size) (K (E4 (J4 b))) none
   | some b,.neq=>cond (Nat.beq cs.length ti.size&&Nat.beq ds.length ti.size) (K (E4 (J4 (!b)))) none
   | _,_=>none)
  | none=>none)
 | none=>none
def j1h (C:Ctx) (lo:Nat->Bool) (id':Nat) (o:Op) (ρ:Operand->AV) (h:Heap) (K:Eff->Option R):Option R :=
 match o with
 | .move x=>K (E4 (ρ x))
 | .assign x=>K (E4 (ρ x))
 | .pick c a b=>(match ρ c with
  | .one (.sc .bool t)=>cond t (K (E4 (ρ a))) (K (E4 (ρ b)))
  | _=>none)
 | .alloc T=>(match C.TI T with
  | some ti=>I3 h id' (K { av:=.one (.ptr id' 0),rd:=[],ups:=[(id',.cells ti.zeros)],full:=none })
  | none=>none)
 | .box T x=>(match C.TI T,cellsOf (ρ x)with
  | some _,some vs=>I3 h id' (cond (vs.all SV.known) (K { av:=.one (.ptr id' 0),rd:=[],ups:=[(id',.cells vs)],full:=none }) none)
  | _,_=>none)
 | .build T parts=>(match C.TI T with
  | some ti=>cond (ti.str||ti.arr.isSome) (match q0e ti.flds ρ parts.toList ti.zeros with
   | some cs=>K (E4 (.agg cs))
   | none=>none) none
  | none=>none)
 | .buildSlice T len parts=>(match C.TI T with
  | some ti=>(match ti.elem with
   | some e=>(match C.TI e with
    | some te=>(match q1f h te.ty ρ 0 parts.toList with
     | some (l,ids)=>I3 h id' (cond (Nat.beq l.length len&&Nat.ble (len*te.size) 16777216&&Nat.ble 1 te.size&&Nat.beq te.ty.size te.size&&ids.all (λj=>!Nat.beq j id'))
      (K { av:=.one (.own id'),rd:=ids,ups:=B4 h ids++[(id',.arr e te.ty l)],full:=none }) none)
     | none=>none)
    | none=>none)
   | none=>none)
  | none=>none)
 | .load T x=>(match C.TI T with
  | some ti=>j1b ti h (ρ x) K
  | none=>none)
 | .store T x v=>(match C.TI T with
  | some ti=>j95 ti h (ρ x) (ρ v) K
  | none=>none)
 | .nilCheck x=>(match ρ x with
  | .one (.ptr id off)=>K (E4 (.one (.ptr id off)))
  | .one (.eptr id t i c)=>K (E4 (.one (.eptr id t i c)))
  | .one (.ro t y c)=>K (E4 (.one (.ro t y c)))
  | _=>none)
 | .binOp op T x y _=>(match ρ x,ρ y with
  | .one (.sc (.int k) a),.one (.sc (.int k') b)=>j19 op k k' a b λav=>K (E4 av)
  | .one (.sc .bool a),.one (.sc .bool b)=>(match C.TI T with
   | some ti=>(match ti.agg,ti.ty,op with
    | false,.bool,.eql=>K (E4 (J4 (a==b)))
    | false,.bool,.neq=>K (E4 (J4 (a != b)))
    | _,_,_=>none)
   | none=>none)
  | .agg cs,.agg ds=>j8w C op T cs ds K
  | .one (.ne _ _),.one .nils=>z44 C op T false K
  | .one .nx,.one .nils=>z44 C op T true K
  | _,_=>none)
 | .unOp op _ x=>j1u op (ρ x) λav=>K (E4 av)
 | .convert S T x=>(match C.TI S,C.TI T,ρ x with
  | some _,some ti,.one (.sc (.int _) n)=>(match ti.agg,ti.ty with
   | false,.int k=>K (E4 (G7 k (k.wrap n)))
   | _,_=>none)
  | _,_,_=>none)
 | .makeFunc (.func f) first caps=>(match first.toList,q0z ρ caps.toList with
  | [],some l=>K (E4 (.one (.fn f l)))
  | [a],some []=>(match q59 (ρ a)with
   | some (agg,cs)=>K (E4 (.one (.bfn f agg cs)))
   | none=>none)
  | _,_=>none)
 | .makeSlice T x y=>(match C.TI T with
  | some ti=>(match ti.elem with
   | some e=>(match C.TI e,ρ x,ρ y with
    | some te,.one (.sc (.int .i64) n),.one (.sc (.int .i64) c)=>j91 te e h id' n c K
    | _,_,_=>none)
   | none=>none)
  | none=>none)
 | .makeMap T r=>j1d C T h id' (r.map ρ) K
 | .lookup T x i ok=>q67 C T (ρ x) (ρ i) ok h K
 | .mapUpdate T m k v=>z3z C T (ρ m) (ρ k) (ρ v) h K
 | .insert T m k v=>z3z C T (ρ m) (ρ k) (ρ v) h K
 | .mapEntry T m k=>q8f C T (ρ m) (ρ k) h id' K
 | .entryStore _ m s v=>j15 (ρ m) (ρ s) (ρ v) h K
 | .range T x=>j1j C T (ρ x) h id' K
 | .next x false=>j1f (ρ x) h K
 | .entry x=>j1a (ρ x) h K
 | .slice T x a b none=>(match C.TI T with
  | some ti=>(match ti.arr,ti.elem with
   | some (n,e),_=>(match ρ x,a,b,C.TI e with
    | .one (.ptr id off),none,none,some _=>K (E4 (.one (.csl id off n n)))
    | _,_,_,_=>none)
   | none,el=>(match el with
   | some e=>(match C.TI e with
    | some te=>j1m te.size h (ρ x) (a.map ρ) (b.map ρ) K
    | none=>none)
   | none=>none))
  | none=>none)
 | .fieldAddr T x f=>(match C.TI T with
  | some ti=>cond ti.str (match ti.flds[f]? with
   | some fi=>cond (Nat.ble 1 fi.size) (match ρ x with
    | .one (.ptr id off)=>K (E4 (.one (.ptr id (off+fi.off))))
    | .one (.eptr id t i c)=>K (E4 (.one (.eptr id t i (c+fi.off))))
    | .one (.ro t y c)=>K (E4 (.one (.ro t y (c+fi.off))))
    | _=>none) none
   | none=>none) none
  | none=>none)
 | .field T x f=>(match C.TI T with
  | some ti=>cond ti.str (match ti.flds[f]?,ρ x with
   | some fi,.agg cs=>cond (Nat.ble (fi.off+fi.size) cs.length) (match fi.agg with
    | true=>K (E4 (.agg ((cs.drop fi.off).take fi.size)))
    | false=>(match cs[fi.off]? with
     | some s=>K (E4 (.one s))
     | none=>none)) none
   | _,_=>none) none
  | none=>none)
 | .indexAddr T x i=>(match ρ x with
  | .one (.gl g)=>j90 C T g (ρ i) K
  | _=>match C.TI T with
   | some ti=>(match ti.elem with
    | some e=>(match C.TI e with
     | some te=>j18 te.size h (ρ x) (ρ i) K
     | none=>none)
    | none=>none)
   | none=>none)
 | .extract t i=>(match ρ t with
  | .tup l=>(match l[i]? with
   | some (true,cs)=>K (E4 (.agg cs))
   | some (false,[s])=>K (E4 (.one s))
   | _=>none)
  | _=>none)
 | .call { callee:=.builtin b,args,argTypes }=>j8v C b argTypes.toList (args.toList.map ρ) h id' K
 | .call { callee:=.value g,args,.. }=>(match ρ g with
  | .one (.fn f caps)=>cond (C.srt f) (j1o C caps (args.toList.map ρ) h K) (match C.srn f with
   | some 0=>none
   | some (k+1)=>cond (Nat.ble 1048575 k) (cond caps.isEmpty (j13 (k-1048575) (args.toList.map ρ) h id' K) none) (j1p C (k+1) caps (args.toList.map ρ) h K)
   | none=>q65 C lo id' f (args.toList.map ρ++q4j caps) h K)
  | .one (.bfn f agg cs)=>q65 C lo id' f ([z3j agg cs]++args.toList.map ρ++[]) h K
  | .one (.bfp f id off)=>q65 C lo id' f ([.one (.ptr id off)]++args.toList.map ρ++[]) h K
  | .one (.yld id)=>C.ycall id (args.toList.map ρ) h lo R λav h'=>K { av,rd:=[],ups:=[],full:=some h' }
  | _=>none)
 | _=>none
def j10 (C:Ctx) (T:TypeId) (h:Heap) (id id':Nat) (hi:Option AV) (K:Eff->Option R):Option R :=
 match C.TI T with
 | some ti=>(match ti.elem with
  | some e=>(match C.TI e,h id with
   | some te,.arr e' t l=>N0 hi l.length λb=>cond (Nat.beq t.size te.size&&decide (0<=b)&&decide (b<=l.length))
    (I3 h id' (K { av:=.one (.own id'),rd:=[],ups:=[(id,.dead),(id',.arr e' t (l.take b.toNat))],full:=none })) none
   | _,_=>none)
  | none=>none)
 | none=>none
def j11 (C:Ctx) (T:TypeId) (h:Heap) (id id':Nat) (lo:AV) (K:Eff->Option R):Option R :=
 match C.TI T with
 | some ti=>(match ti.elem with
  | some e=>(match C.TI e,h id with
   | some te,.arr e' t l=>N0 (some lo) 0 λa=>cond (Nat.beq t.size te.size&&decide (0<=a)&&decide (a<=l.length))
    (I3 h id' (K { av:=.one (.own id'),rd:=[],ups:=[(id,.dead),(id',.arr e' t (l.drop a.toNat))],full:=none })) none
   | _,_=>none)
  | none=>none)
 | none=>none
def isX (C:Ctx) (id':Nat) (o:Op) (ρ:Operand->AV):Bool :=
 match o with
 | .slice _ x _ _ none=>(match ρ x with
  | .one (.own _)=>Nat.beq (C.nb (2*id'+1)) 1
  | _=>false)
 | _=>false
def j1v (C:Ctx) (_:Nat->Bool) (id':Nat) (o:Op) (ρ:Operand->AV) (h:Heap) (K:Eff->Option R):Option R :=
 match o with
 | .slice T x lo hi none=>(match ρ x with
  | .one (.own id)=>(match lo,hi with
   | none,hi=>j10 C T h id id' (hi.map ρ) K
   | some lo,none=>j11 C T h id id' (ρ lo) K
   | some _,some _=>none)
  | _=>none)
 | _=>none
def q8g (C:Ctx) (lo:Nat->Bool) (id':Nat) (o:Op) (ρ:Operand->AV) (h:Heap) (K:Eff->Option R):Option R :=
 cond (isX C id' o ρ) (j1v C lo id' o ρ h K) (j1h C lo id' o ρ h K)
def P7 {α:Type} (o:Option α) (a:Option R) (b:α->Option R):Option R:=match o with
 | none=>a
 | some x=>b x
def j1n (C:Ctx) (T:TypeId) (h:Heap) (id off:Nat) (hi:AV) (K:Eff->Option R):Option R:=match C.TI T with
 | some ti=>(match ti.arr with
  | some (n,e)=>(match C.TI e,h id with
   | some te,.cells _=>N0 (some hi) 0 λq=>cond (Nat.beq te.size 1&&decide (0<=q)&&decide (q<=n)) (K (E4 (.one (.csl id off q.toNat n)))) none
   | _,_=>none)
  | none=>none)
 | none=>none
def j1r (C:Ctx) (h:Heap) (id':Nat) (f:FuncId) (id off len cap:Nat) (K:Eff->Option R):Option R:=match C.spec f with
 | some ⟨[(false,.list e)],rs,g,[]⟩=>(match h id with
  | .cells l=>(match z1l e ((l.drop off).take cap)with
   | some vs=>cond (Nat.beq vs.length cap&&Nat.beq e.size 1&&q3e rs&&Nat.ble (T9 rs) 1&&!Nat.beq id id') (cond (Nat.ble len cap) ((g (vs.take len,())).bind λy =>
    I3 h id' (K { av:=q2v (J1 id' rs y).1,rd:=[id',id],ups:=(J1 id' rs y).2,full:=none })) none) none
   | none=>none)
  | _=>none)
 | _=>none
def q4n (C:Ctx) (T:TypeId) (K:TInfo->TypeId->TInfo->Option R):Option R:=match C.TI T with
 | some ti=>(match ti.elem with
  | some e=>(match C.TI e with
   | some te=>K ti e te
   | none=>none)
  | none=>none)
 | none=>none
def OT.outK:(t:OT)->t.den->(AObj->Option R)->Option R
 | .arr e t,l,K=>K (.arr e t l)
 | .map ak av k v,l,K=>K (.mapo ak av k v l)
 | .opt k,x,K=>P7 x none λy=>k.outK y K
 | _,_,_=>none
def OT.getK:(t:OT)->t.den->List Nat->(AObj->Option R)->Option R
 | t,x,[],K=>t.outK x K
 | .arrs _ k,l,i::p,K=>(l[i]?).bind λy=>k.getK y p K
 | .ptr c,x,i::p,K=>c.getK x (i::p) K
 | .cons a _,x,0::p,K=>a.getK x.1 p K
 | .cons _ b,x,1::i::p,K=>b.getK x.2 (i::p) K
 | _,_,_::_,_=>none
def q5o (k:OT) (l:List k.den) (p:List Nat) (K:AObj->Option R):Option R:=match p with
 | []=>none
 | i::p=>(l[i]?).bind λy=>k.getK y p K
def OT.back:(t:OT)->AObj->Option t.den
 | .arr e t,.arr e' t' l=>cond (Nat.beq e e') (H0 (.list t') (.list t) l) none
 | .map ak av k v,.mapo ak' av' k' v' l=>H0 (.map ak' av' k' v') (.map ak av k v) l
 | .opt k,o=>(match o with
  | .ice ..=>some none
  | .mice ..=>some none
  | o=>(k.back o).map some)
 | _,_=>none
def OT.setK:(t:OT)->t.den->List Nat->AObj->(t.den->Option R)->Option R
 | t,_,[],o,K=>(t.back o).bind K
 | .arrs _ k,l,i::p,o,K=>(l[i]?).bind λy=>k.setK y p o λy'=>K (l.set i y')
 | .ptr c,x,i::p,o,K=>c.setK x (i::p) o K
 | .cons a _,x,0::p,o,K=>a.setK x.1 p o λy=>K (y,x.2)
 | .cons _ b,x,1::i::p,o,K=>b.setK x.2 (i::p) o λy=>K (x.1,y)
 | _,_,_::_,_,_=>none
def W2 (k:OT) (l:List k.den) (p:List Nat) (o:AObj) (K:List k.den->Option R):Option R:=match p with
 | []=>none
 | i::p=>(l[i]?).bind λy=>k.setK y p o λy'=>K (l.set i y')
def OT.lenK:(t:OT)->t.den->List Nat->(Nat->Option R)->Option R
 | .arrs _ _,l,[],K=>K l.length
 | .arrs _ k,l,i::p,K=>(l[i]?).bind λy=>k.lenK y p K
 | .ptr c,_,[],K=>K c.row
 | .ptr c,x,i::p,K=>c.lenK x (i::p) K
 | .cons a _,x,0::p,K=>a.lenK x.1 p K
 | .cons _ b,x,1::i::p,K=>b.lenK x.2 (i::p) K
 | _,_,_,_=>none
def z2m (k:OT) (l:List k.den) (p:List Nat) (K:Nat->Option R):Option R:=match p with
 | []=>K l.length
 | i::p=>(l[i]?).bind λy=>k.lenK y p K
def OT.at:OT->List Nat->Option OT
 | t,[]=>some t
 | .arrs _ k,_::p=>k.at p
 | .ptr c,i::p=>c.at (i::p)
 | .cons a _,0::p=>a.at p
 | .cons _ b,1::i::p=>b.at (i::p)
 | _,_::_=>none
def q5c:OT->Nat->Option (List Nat)
 | .cons _ _,0=>some [0]
 | .cons _ b,i+1=>(q5c b i).map (1::·)
 | _,_=>none
def N9:OT->List Nat->Nat->Option (List Nat)
 | .arrs _ _,[],i=>some [i]
 | .arrs _ k,j::p,i=>(N9 k p i).map (j::·)
 | .ptr c,[],i=>q5c c i
 | .ptr c,j::p,i=>N9 c (j::p) i
 | .cons a _,0::p,i=>(N9 a p i).map (0::·)
 | .cons _ b,1::j::p,i=>(N9 b (j::p) i).map (1::·)
 | _,_,_=>none
def K6:AObj->Bool
 | .ice ..=>true
 | .mice ..=>true
 | _=>false
def v5x:AObj->Bool
 | .dead=>true
 | _=>false
def V5 (g:Nat):OT->Option SV
 | .arr _ _=>some (.own g)
 | .map _ _ _ _=>some (.mp g)
 | .opt k=>V5 g k
 | _=>none
def E5:List Nat->List Nat->Bool
 | [],[]=>true
 | i::p,j::q=>Nat.beq i j&&E5 p q
 | _,_=>false
def L4 (h:Heap) (k:OT):List k.den->List (List Nat×Nat)->(List k.den->List (Nat×AObj)->Option R)->Option R
 | l,[],K=>K l []
 | l,(p,g)::r,K=>W2 k l p (h g) λl1=>cond (r.all λq=>!E5 q.1 p&&!Nat.beq q.2 g) (L4 h k l1 r λl2 u=>K l2 ((g,cond (K6 (h g)) (h g) .dead)::u)) none
def j1c (ti:TInfo) (same:Option Nat) (h:Heap) (id' id:Nat) (p:List Nat) (i:Nat) (K:Eff->Option R):Option R:=match h id with
 | .tree e k l f=>(N9 (.arrs e k) p i).bind λc=>match(OT.arrs e k).at c with
  | some (.arrs _ _)=>z2m k l c λ_=>U1 ti [.ts id c] 0 λav=>K (E1 av [id])
  | some (.ptr _)=>z2m k l c λ_=>U1 ti [.tp id c 0] 0 λav=>K (E1 av [id])
  | some t=>(match same with
   | some n=>(match f[n]? with
    | some (q,g)=>(V5 g t).bind λs=>cond (E5 q c&&(f.take n).all λq=>!E5 q.1 c) (q5o k l c λ_=>U1 ti [s] 0 λav=>K (E1 av [id])) none
    | none=>none)
   | none=>(V5 id' t).bind λs=>L4 h k l f λl1 u=>q5o k l1 c λo=>I3 h id'
    (U1 ti [s] 0 λav=>K { av,rd:=[id],ups:=u++[(id,.tree e k l1 [(c,id')]),(id',o)],full:=none }))
  | none=>none
 | _=>none
def k1h:Option OT->Option Nat
 | some (.arr n _)=>some n
 | _=>none
def z6b (h:Heap) (id:Nat) (p:List Nat) (n g:Nat) (K:List (Nat×AObj)->Option R):Option R:=match h id with
 | .tree e k l f=>(N9 (.arrs e k) p n).bind λc=>(((OT.arrs e k).at c).bind (V5 g)).bind λ_=>cond (f.all λq=>!E5 q.1 c) (q5o k l c λo=>I3 h g (K [(id,.tree e k l ((c,g)::f)),(g,o)])) none
 | _=>none
def v80:AV->Option Nat
 | .one (.sc (.int _) n)=>some n.toNat
 | _=>none
def V7 (ρ:Operand->AV) (K:List (Nat×AObj)->Heap->Option R):List (Nat×(Nat×Nat))->List (Nat×AObj)->Heap->Option R
 | [],u,h=>K u h
 | (t,(i,g))::r,u,h=>match ρ (.tmp t)with
  | .one (.tp id p j)=>z6b h id p (j+i) g λv=>V7 ρ K r (u++v) (A3 v h)
  | .one (.ptr c j)=>(match h c with
   | .cells cs=>(match i / 64 with
    | s+1=>(match cs[j+i % 64]? with
     | some (.ts id p)=>(v80 (ρ (.tmp s))).bind λn=>z6b h id p n g λv=>V7 ρ K r (u++v) (A3 v h)
     | _=>V7 ρ K r u h)
    | 0=>(match cs[j+i]? with
     | some (.ts id [])=>(match h id with
      | .tree e (.arr e1 t1) l f=>L4 h (.arr e1 t1) l f λl1 v=>cond (v.all λq=>!Nat.beq q.1 c) (V7 ρ K r (u++(v++[(id,.tree e (.arr e1 t1) l1 []),(id,.dead),(c,.cells (cs.set (j+i) (.sc (.list (.list t1)) l1)))]))
       (A3 (v++[(id,.tree e (.arr e1 t1) l1 []),(id,.dead),(c,.cells (cs.set (j+i) (.sc (.list (.list t1)) l1)))]) h)) none
      | _=>none)
     | some (.own id)=>(match h id with
      | .arr e t l=>V7 ρ K r (u++[(id,.ice e t l)]) (upd h id (.ice e t l))
      | _=>V7 ρ K r u h)
     | _=>V7 ρ K r u h))
   | _=>V7 ρ K r u h)
  | _=>V7 ρ K r u h
def q6m:OT->SV->Option Nat
 | .arr _ _,.own g=>some g
 | .map _ _ _ _,.mp g=>some g
 | .opt k,s=>q6m k s
 | _,_=>none
def j3y (h:Heap) (g0:Nat):List (List Nat×Nat)->Bool
 | []=>true
 | [(_,g)]=>v5x (h g)||Nat.beq g g0
 | _=>false
def j1t (ti:TInfo) (h:Heap) (id:Nat) (p:List Nat) (i:Nat) (v:AV) (K:Eff->Option R):Option R:=match h id,v with
 | .tree e k l f,.one s=>cond (Nat.beq ti.size 1) ((N9 (.arrs e k) p i).bind λc=>q5o k l c λ_=>(((OT.arrs e k).at c).bind λt=>q6m t s).bind λg0=>cond (K6 (h g0)) none (cond (j3y h g0 f)
  (cond (f.all λq=>E5 q.1 c) (W2 k l c (h g0) λl1=>K { av:=.one .unk,rd:=id::f.map (·.2),ups:=[(g0,.dead),(id,.tree e k l1 [])],full:=none }) none)
  (L4 h k l f λl1 u=>cond (u.all λp=>!Nat.beq p.1 g0) (q5o k l1 c λ_=>W2 k l1 c (h g0) λl2=>K { av:=.one .unk,rd:=[id],ups:=u++[(id,.tree e k l1 []),(g0,.dead),(id,.tree e k l2 [])],full:=none }) none))) none
 | _,_=>none
def j1s (ti:TInfo) (h:Heap) (id' id:Nat) (p:List Nat) (i:Nat) (g0 off len:Nat) (K:Eff->Option R):Option R:=match h id,h g0 with
 | .tree e k l f,.arr e0 t0 l0=>cond (Nat.beq ti.size 1&&Nat.beq (off+len) l0.length) ((N9 (.arrs e k) p i).bind λc=>cond (j3y h g0 f&&f.all λq=>E5 q.1 c) (q5o k l c λ_=>(((OT.arrs e k).at c).bind λt=>q6m t (.own id')).bind λ_=>I3 h id'
  (W2 k l c (.arr e0 t0 (l0.drop off)) λl1=>K { av:=.one .unk,rd:=id::f.map (·.2),ups:=[(g0,.dead),(id',.dead),(id,.tree e k l1 [])],full:=none })) none) none
 | _,_=>none
def q5y (k k':OT) (l:List k'.den):Option (List k.den):=match decEq k' k with
 | .isTrue e=>some (e▸l)
 | .isFalse _=>none
def z5v:List Nat->Bool
 | []=>true
 | a::r=>!r.any (Nat.beq a)&&z5v r
def q6i:OT->Bool
 | .nil=>true
 | .cons _ b=>q6i b
 | _=>false
def I5 (h:Heap):(t:OT)->List SV->Option (t.den×List Nat)
 | .arr _ _,[.nils]=>some ([],[])
 | .arr e t,[.own g]=>((OT.arr e t).back (h g)).map (·,[g])
 | .map ak av k v,[.mp g]=>((OT.map ak av k v).back (h g)).map (·,[g])
 | .opt k,ss=>(I5 h k ss).map λr=>(some r.1,r.2)
 | .arrs e k,[.ts g []]=>(match h g with
  | .tree e' k' l []=>cond (Nat.beq e e'&&Nat.ble 1 l.length) ((q5y k k' l).map (·,[g])) none
  | _=>none)
 | .ptr c,[.ptr g 0]=>(match h g with
  | .cells ss=>cond (q6i c) ((I5 h c ss).map λr=>(r.1,g::r.2)) none
  | _=>none)
 | .nil,[]=>some ((),[])
 | .cons a b,s::r=>(match I5 h a [s],I5 h b r with
  | some x,some y=>some ((x.1,y.1),x.2++y.2)
  | _,_=>none)
 | _,_=>none
def q4g (h:Heap):(t:OT)->List SV->(t.den->List Nat->Option R)->Option R
 | .arrs e k,[.ts g []],K=>(match h g with
  | .tree e' k' l []=>cond (Nat.beq e e'&&Nat.ble 1 l.length) ((q5y k k' l).bind λl=>K l [g]) none
  | _=>none)
 | .opt k,ss,K=>q4g h k ss λx i=>K (some x) i
 | .ptr c,[.ptr g 0],K=>(match h g with
  | .cells ss=>cond (q6i c) (q4g h c ss λx i=>K x (g::i)) none
  | _=>none)
 | .cons a b,s::r,K=>q4g h a [s] λx i=>q4g h b r λy j=>K (x,y) (i++j)
 | t,ss,K=>(I5 h t ss).bind λr=>K r.1 r.2
def j1e (te:TInfo) (e:TypeId) (k:OT) (h:Heap) (id':Nat) (n c:Int) (K:Eff->Option R):Option R:=match k,te.zeros with
 | .arr e1 t1,[.nils]=>I3 h id' (cond (decide (0<=n)&&decide (n<=c)&&A8 c.toNat te.bytes&&decide (c<=9223372036854775807)&&Nat.beq te.size 1)
  (K { av:=.one (.ts id' []),rd:=[],ups:=[(id',.tree e (.arr e1 t1) (List.replicate n.toNat []) [])],full:=none }) none)
 | _,_=>none
def j0w (te:TInfo) (e:TypeId) (h:Heap) (id':Nat) (x:SV) (id2:Nat) (K:Eff->Option R):Option R:=match x,h id2 with
 | .nils,.tree e2 k m []=>I3 h id' (cond (Nat.beq e e2&&Nat.beq te.size 1&&A8 m.length te.bytes&&Nat.ble 1 m.length)
  (K { av:=.one (.ts id' []),rd:=[id2],ups:=[(id2,.dead),(id',.tree e k m [])],full:=none }) none)
 | .ts id [],.tree e2 k2 m []=>(match h id with
  | .tree e1 k l f=>L4 h k l f λl1 u=>(q5y k k2 m).bind λn=>I3 h id' (cond (Nat.beq e e1&&Nat.beq e e2&&Nat.beq te.size 1&&A8 (l1.length+n.length) te.bytes&&!Nat.beq id id2&&Nat.ble 1 n.length&&u.all λp=>!Nat.beq p.1 id2)
   (K { av:=.one (.ts id' []),rd:=[id,id2],ups:=u++[(id,.dead),(id2,.dead),(id',.tree e k (l1++n) [])],full:=none }) none)
  | _=>none)
 | _,_=>none
def j0x (te:TInfo) (e:TypeId) (len:Nat) (k:OT) (ρ:Operand->AV) (parts:List (Nat×Operand)) (h:Heap) (id':Nat) (K:Eff->Option R):Option R:=match parts with
 | [(0,x)]=>(cellsOf (ρ x)).bind λvs=>cond (vs.all SV.known&&Nat.beq vs.length 1) (q4g h k vs λy is=>I3 h id' (cond (Nat.beq len 1&&Nat.beq te.size 1&&z5v is)
  (K { av:=.one (.ts id' []),rd:=is,ups:=is.map (λg=>(g,.dead))++[(id',.tree e k [y] [])],full:=none }) none)) none
 | _=>none
def z5a:AV->Bool
 | .one (.tp _ _ _)=>true
 | _=>false
def j2q:AV->Bool
 | .one (.ts _ _)=>true
 | _=>false
def isD (C:Ctx) (id':Nat) (o:Op) (ρ:Operand->AV):Bool:=match o with
 | .load _ x=>z5a (ρ x)
 | .store _ x _=>z5a (ρ x)
 | .indexAddr _ x _=>j2q (ρ x)
 | .nilCheck x=>z5a (ρ x)
 | .fieldAddr _ x _=>z5a (ρ x)
 | .makeSlice _ _ _=>(C.dp id').isSome
 | .buildSlice _ _ _=>(C.dp id').isSome
 | .slice _ _ none (some _) none=>(C.dp id').isSome
 | .makeFunc (.func _) first _=>(match first.toList.map ρ with
  | [.one (.ptr _ _)]=>true
  | _=>false)
 | .call { callee:=.builtin .len,args,.. }=>(match args.toList.map ρ with
  | [x]=>j2q x
  | _=>false)
 | .call { callee:=.builtin .append,args,.. }=>(match args.toList.map ρ with
  | [_,x]=>j2q x
  | _=>false)
 | .call { callee:=.value g,args,.. }=>(match ρ g,args.toList.map ρ with
  | .one (.fn f []),[.one (.csl _ _ _ _)]=>(C.spec f).isSome
  | _,_=>false)
 | _=>false
def j12 (C:Ctx) (id':Nat) (o:Op) (ρ:Operand->AV) (h:Heap) (K:Eff->Option R):Option R:=match o with
 | .load T x=>(match C.TI T,ρ x with
  | some ti,.one (.tp id p i)=>j1c ti (k1h (C.dp id')) h id' id p i K
  | _,_=>none)
 | .store T x v=>(match C.TI T,ρ x with
  | some ti,.one (.tp id p i)=>(match ρ v with
   | .one (.sub g off len)=>j1s ti h id' id p i g off len K
   | _=>j1t ti h id p i (ρ v) K)
  | _,_=>none)
 | .nilCheck x=>(match ρ x with
  | .one (.tp id p i)=>(match h id with
   | .tree ..=>K (E1 (.one (.tp id p i)) [id])
   | _=>none)
  | _=>none)
 | .fieldAddr T x f=>(match C.TI T,ρ x with
  | some ti,.one (.tp id p i)=>cond ti.str (match ti.flds[f]?,h id with
   | some fi,.tree ..=>cond (Nat.ble 1 fi.size) (K (E1 (.one (.tp id p (i+fi.off))) [id])) none
   | _,_=>none) none
  | _,_=>none)
 | .indexAddr T x i=>q4n C T λ_ _ te=>(match ρ x,ρ i with
  | .one (.ts id p),.one (.sc (.int _) n)=>(match h id with
   | .tree _ k l _=>z2m k l p λm=>cond (Nat.beq te.size 1&&inB n m) (K (E1 (.one (.tp id p n.toNat)) [id])) none
   | _=>none)
  | _,_=>none)
 | .makeSlice T x y=>(match C.dp id',ρ x,ρ y with
  | some k,.one (.sc (.int .i64) n),.one (.sc (.int .i64) c)=>q4n C T λ_ e te=>j1e te e k h id' n c K
  | _,_,_=>none)
 | .buildSlice T len parts=>(match C.dp id' with
  | some k=>q4n C T λ_ e te=>j0x te e len k ρ parts.toList h id' K
  | none=>none)
 | .slice T x none (some y) none=>(match ρ x with
  | .one (.ptr id off)=>j1n C T h id off (ρ y) K
  | _=>none)
 | .call { callee:=.value g,args,argTypes:=_ }=>(match ρ g,args.toList.map ρ with
  | .one (.fn f []),[.one (.csl id off len cap)]=>j1r C h id' f id off len cap K
  | _,_=>none)
 | .makeFunc (.func f) first caps=>(match first.toList,caps.toList with
  | [a],[]=>(match ρ a with
   | .one (.ptr id off)=>K (E4 (.one (.bfp f id off)))
   | _=>none)
  | _,_=>none)
 | .call { callee:=.builtin .len,args,argTypes }=>(match args.toList.map ρ,argTypes.toList with
  | [.one (.ts id p)],[T]=>q4n C T λ_ _ _=>(match h id with
   | .tree _ k l _=>z2m k l p λm=>K (E1 (G7 .i64 m) [id])
   | _=>none)
  | _,_=>none)
 | .call { callee:=.builtin .append,args,argTypes }=>(match args.toList.map ρ,argTypes.toList with
  | [.one x,.one (.ts id2 [])],[T,T']=>cond (Nat.beq T T') (q4n C T λ_ e te=>j0w te e h id' x id2 K) none
  | _,_=>none)
 | _=>none
def y0w (C:Ctx) (id':Nat):Op->Bool
 | .alloc _=>!(C.pre id').isEmpty
 | .move _=>!(C.pre id').isEmpty
 | .assign _=>!(C.pre id').isEmpty
 | .fieldAddr _ _ _=>!(C.pre id').isEmpty
 | _=>false
def j92 (C:Ctx) (lo:Nat->Bool) (id':Nat) (o:Op) (ρ:Operand->AV) (h:Heap) (K:Eff->Option R):Option R :=
 cond (y0w C id' o) (V7 ρ (λu h1=>q8g C lo id' o ρ h1 λq=>match q.full with
  | none=>K { q with ups:=u++q.ups }
  | some _=>none) (C.pre id') [] h) (cond (isD C id' o ρ) (j12 C id' o ρ h K) (q8g C lo id' o ρ h K))
end
end
end Go.Abs
