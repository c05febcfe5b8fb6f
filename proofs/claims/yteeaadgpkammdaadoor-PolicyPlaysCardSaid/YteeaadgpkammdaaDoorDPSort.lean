/- errors.As at the program's one type of errors, and what asks it: from the library's own text and the model's entries for reflectlite. -/
import Derived.Test.YteeaadgpkammdaaDoorAbsSound14
import Derived.Test.YteeaadgpkammdaaDoorProg
import Derived.WalkKit
import Derived.LaidEql
import Derived.Stop.Asserts
import Derived.RowKitTokens
namespace Go.Proofs
open Go Go.RowKit Go.Extern.Stop Go.Stop Go.Extern
theorem Tryd.as_nil (t:Value) (w:World):Calls Tryd.prog 52 #[.nilIface,t] w fun e w'=>e=.returned (.bool false)∧w'=w:=by
  go_enter Tryd.func52,Tryd.ntmps52
  go_wp2
  go_ret
  exact ⟨rfl,rfl⟩
theorem Tryd.valueOfP (t:Addr) (w:World):(ReflectliteValue.unpack (.iface 108 (.pointer (some t)))).run Tryd.prog w
   =.ok (.agg #[.pointer (some ⟨2,108,none⟩),.pointer (some ⟨w.heap.size,0,none⟩),.int .u64 150]) (w.alloc (.cells #[.pointer (some t)] 108)):=by kernel_rfl
theorem Tryd.typeP (a:Addr) (w:World):(ReflectliteValue.methodAny (ReflectliteValue.valueError "reflectlite.Value.Type" 0) (fun t _ _ _=>ReflectliteType.toType t) #[.agg #[.pointer (some ⟨2,108,none⟩),.pointer (some a),.int .u64 150]]).run Tryd.prog w
   =.ok (.iface 124 (.agg #[.pointer (some ⟨2,108,none⟩)])) w:=by kernel_rfl
theorem Tryd.methodKind (h:Value) (w:World):(Go.method 267 124 (.agg #[h]) "Kind").run Tryd.prog w=.ok (74,h) w:=by kernel_rfl
theorem Tryd.kindP (w:World):((ReflectliteType.abiMethod fun t=>Functor.map (fun a:Nat=>Value.int IntKind.u8 (a:Int)) (Rtype.kind t)) #[.pointer (some ⟨2,108,none⟩)]).run Tryd.prog w=.ok (.int .u8 22) w:=by kernel_rfl
theorem Tryd.kindE (w:World):((ReflectliteType.abiMethod fun t=>Functor.map (fun a:Nat=>Value.int IntKind.u8 (a:Int)) (Rtype.kind t)) #[.pointer (some ⟨2,105,none⟩)]).run Tryd.prog w=.ok (.int .u8 25) w:=by kernel_rfl
theorem Tryd.rlm (z:Sem Value) (f:TypeId→Addr→Nat→Nat→Sem Value) (v:Value) :
    ReflectliteValue.method z f #[v]=(do match ←ReflectliteValue.parts v with | none=>z | some (t,a,fl)=>f t a fl (fl % 32)):=rfl
theorem Tryd.partsP (a:Addr) (w:World):(ReflectliteValue.parts (.agg #[.pointer (some ⟨2,108,none⟩),.pointer (some a),.int .u64 150])).run Tryd.prog w=.ok (some (108,a,150)) w:=by kernel_rfl
theorem Tryd.isNilP (a p:Addr) (W:World) (ha:W.cell? a=some (.pointer (some p))) :
    (ReflectliteValue.method (ReflectliteValue.valueError "reflectlite.Value.IsNil" 0) ReflectliteValue.isNil #[.agg #[.pointer (some ⟨2,108,none⟩),.pointer (some a),.int .u64 150]]).run Tryd.prog W=.ok (.bool false) W:=by
  rw [Tryd.rlm]
  simp only [Sem.run_bind,Tryd.partsP,Result.andThen]
  simp [ReflectliteValue.isNil,loadVar,isAgg,underlying,Tryd.underlying108,ha,Result.andThen]
theorem Tryd.methodElem (h:Value) (w:World):(Go.method 267 124 (.agg #[h]) "Elem").run Tryd.prog w=.ok (85,.agg #[h]) w:=by kernel_rfl
theorem Tryd.methodImplements (h:Value) (w:World):(Go.method 267 124 (.agg #[h]) "Implements").run Tryd.prog w=.ok (86,.agg #[h]) w:=by kernel_rfl
theorem Tryd.methodAssignableTo (h:Value) (w:World):(Go.method 267 124 (.agg #[h]) "AssignableTo").run Tryd.prog w=.ok (83,.agg #[h]) w:=by kernel_rfl
theorem Tryd.elemP (w:World):(ReflectliteType.method ReflectliteType.elem #[.agg #[.pointer (some ⟨2,108,none⟩)]]).run Tryd.prog w=.ok (.iface 124 (.agg #[.pointer (some ⟨2,105,none⟩)])) w:=by kernel_rfl
theorem Tryd.implementsE (w:World):(ReflectliteType.relation "Implements" ReflectliteType.implements_ #[.agg #[.pointer (some ⟨2,105,none⟩)],.iface 124 (.agg #[.pointer (some ⟨2,91,none⟩)])]).run Tryd.prog w=.ok (.bool true) w:=by kernel_rfl
theorem Tryd.typeOfE (v:Value) (w:World):(ReflectliteType.typeOf #[.iface 105 v]).run Tryd.prog w=.ok (.iface 124 (.agg #[.pointer (some ⟨2,105,none⟩)])) w:=by kernel_rfl
theorem Tryd.assignableE (w:World):(ReflectliteType.relation "AssignableTo" ReflectliteType.assignableTo #[.agg #[.pointer (some ⟨2,105,none⟩)],.iface 124 (.agg #[.pointer (some ⟨2,105,none⟩)])]).run Tryd.prog w=.ok (.bool true) w:=by kernel_rfl
theorem Tryd.valueOfE (v:Int) (w:World):(ReflectliteValue.unpack (.iface 105 (.agg #[.int .i64 v]))).run Tryd.prog w
   =.ok (.agg #[.pointer (some ⟨2,105,none⟩),.pointer (some ⟨w.heap.size,0,none⟩),.int .u64 153]) (w.alloc (.cells #[.int .i64 v] 105)):=by kernel_rfl
theorem Tryd.elemOfP (w:World):(Rtype.elem? 108).run Tryd.prog w=.ok (some 105) w:=by kernel_rfl
theorem Tryd.mkE (p:Addr) (w:World):(ReflectliteValue.mk 105 p ReflectliteValue.flagAddr).run Tryd.prog w=.ok (.agg #[.pointer (some ⟨2,105,none⟩),.pointer (some p),.int .u64 409]) w:=by kernel_rfl
theorem Tryd.elemV (a p:Addr) (W:World) (ha:W.cell? a=some (.pointer (some p))) :
    (ReflectliteValue.method (ReflectliteValue.valueError "reflectlite.Value.Elem" 0) ReflectliteValue.elem #[.agg #[.pointer (some ⟨2,108,none⟩),.pointer (some a),.int .u64 150]]).run Tryd.prog W
     =.ok (.agg #[.pointer (some ⟨2,105,none⟩),.pointer (some p),.int .u64 409]) W:=by
  rw [Tryd.rlm]
  simp only [Sem.run_bind,Tryd.partsP,Result.andThen]
  simp [ReflectliteValue.elem,loadVar,isAgg,underlying,Tryd.underlying108,ha,Result.andThen,Tryd.elemOfP,Tryd.mkE]
theorem Tryd.rls (v x:Value):ReflectliteValue.set #[v,x]=(do
    let (some (dst,a,fl),some (src,b,_)):=(←ReflectliteValue.parts v,←ReflectliteValue.parts x)
      | unsupported (.noEntry "extern/(internal/reflectlite.Value).Set.zeroValue")
    if fl / ReflectliteValue.flagAddr % 2 == 0 then unsupported (.noEntry "extern/(internal/reflectlite.Value).Set.unaddressable")
    let val ←loadVar src b
    if ←Rtype.directlyAssignable dst src then storeVar dst a val
    else if ←Rtype.implements dst src then
      if (←Rtype.kind src) == 20 then
        match val with
        | .nilIface=>unsupported (.noEntry "extern/reflectlite: a nil value of one interface type handed on as a value of another")
        | _=>storeVar dst a val
      else storeVar dst a (.iface src val)
    else panicString ("reflectlite.Set: value of type "++(←Rtype.spelt src)++ " is not assignable to type "++(←Rtype.spelt dst))
    pure (.tuple #[])):=rfl
theorem Tryd.partsEa (a:Addr) (w:World):(ReflectliteValue.parts (.agg #[.pointer (some ⟨2,105,none⟩),.pointer (some a),.int .u64 409])).run Tryd.prog w=.ok (some (105,a,409)) w:=by kernel_rfl
theorem Tryd.partsE (a:Addr) (w:World):(ReflectliteValue.parts (.agg #[.pointer (some ⟨2,105,none⟩),.pointer (some a),.int .u64 153])).run Tryd.prog w=.ok (some (105,a,153)) w:=by kernel_rfl
theorem Tryd.directE (w:World):(Rtype.directlyAssignable 105 105).run Tryd.prog w=.ok true w:=by kernel_rfl
theorem Tryd.aggE (w:World):(isAgg 105).run Tryd.prog w=.ok true w:=by kernel_rfl
theorem Tryd.sizeE (w:World):(Go.sizeOf 105).run Tryd.prog w=.ok 1 w:=by kernel_rfl
theorem Tryd.loadE (b:Addr) (v:Value) (W:World) (hb:W.cell? b=some v):(loadVar 105 b).run Tryd.prog W=.ok (.agg #[v]) W:=by
  unfold loadVar
  simp only [Sem.run_bind,Tryd.aggE,Result.andThen_ok,if_true,Tryd.sizeE]
  simp [loadCells,loadCellsFrom,Addr.add,hb,Result.andThen]
theorem Tryd.setE (ta b:Addr) (v:Int) (old:Value) (W:World) (hb:W.cell? b=some (.int .i64 v)) (ht:W.cell? ta=some old) (hf:W.frozen? ta=false) :
    (ReflectliteValue.set #[.agg #[.pointer (some ⟨2,105,none⟩),.pointer (some ta),.int .u64 409],.agg #[.pointer (some ⟨2,105,none⟩),.pointer (some b),.int .u64 153]]).run Tryd.prog W
     =.ok (.tuple #[]) (W.setCell ta (.int .i64 v)):=by
  rw [Tryd.rls]
  simp only [Sem.run_bind,Tryd.partsEa,Tryd.partsE,Result.andThen]
  simp [ReflectliteValue.flagAddr,Tryd.loadE b _ W hb,Result.andThen,Tryd.directE,storeVar,Value.cells,storeCells,Addr.add]
  rw [run_store Tryd.prog W ta _ _ (by rfl)]
  simp [ht,hf]
set_option maxRecDepth 100000 in
set_option maxHeartbeats 4000000 in
theorem Tryd.as_hit (v:Int) (t:Addr) (old:Value) (w:World) (hg:w.cell? ⟨1,0,none⟩=some (.iface 124 (.agg #[.pointer (some ⟨2,91,none⟩)]))) (ht0:w.cell? t=some old) (hf0:w.frozen? t=false) :
    Calls Tryd.prog 52 #[.iface 105 (.agg #[.int .i64 v]),.iface 108 (.pointer (some t))] w fun ev w'=>ev=.returned (.bool true)∧w'=((((w.alloc (.cells #[.pointer (some t)] 108)).alloc (.cells #[.pointer (some ⟨2,108,none⟩),.pointer (some ⟨w.heap.size,0,none⟩),.int .u64 150] 113)).alloc (.cells #[.pointer (some ⟨2,108,none⟩),.pointer (some ⟨w.heap.size,0,none⟩),.int .u64 150] 113)).alloc (.cells #[.int .i64 v] 105)).setCell t (.int .i64 v):=by
  have h6:=@run_callFunc_extern Tryd.prog 53 _ (fun args=>ReflectliteValue.unpack (args.getD 0 (.tuple #[]))) Tryd.func53 (by kernel_rfl) (by kernel_rfl) (by kernel_rfl) (by kernel_rfl)
  have h7:=@run_callFunc_extern Tryd.prog 54 _ (ReflectliteValue.methodAny (ReflectliteValue.valueError "reflectlite.Value.Type" 0) (fun t _ _ _=>ReflectliteType.toType t)) Tryd.func54 (by kernel_rfl) (by kernel_rfl) (by kernel_rfl) (by kernel_rfl)
  have h8:=@run_callFunc_extern Tryd.prog 55 _ (ReflectliteValue.method (ReflectliteValue.valueError "reflectlite.Value.IsNil" 0) ReflectliteValue.isNil) Tryd.func55 (by kernel_rfl) (by kernel_rfl) (by kernel_rfl) (by kernel_rfl)
  have h27:=@run_callFunc_extern Tryd.prog 74 _ (ReflectliteType.abiMethod fun t=>do pure (.int .u8 (←Rtype.kind t))) Tryd.func74 (by kernel_rfl) (by kernel_rfl) (by kernel_rfl) (by kernel_rfl)
  have h37:=@run_callFunc_extern Tryd.prog 85 _ (ReflectliteType.method ReflectliteType.elem) Tryd.func85 (by kernel_rfl) (by kernel_rfl) (by kernel_rfl) (by kernel_rfl)
  have h38:=@run_callFunc_extern Tryd.prog 86 _ (ReflectliteType.relation "Implements" ReflectliteType.implements_) Tryd.func86 (by kernel_rfl) (by kernel_rfl) (by kernel_rfl) (by kernel_rfl)
  have h10:=@run_callFunc_extern Tryd.prog 57 _ ReflectliteType.typeOf Tryd.func57 (by kernel_rfl) (by kernel_rfl) (by kernel_rfl) (by kernel_rfl)
  have h35:=@run_callFunc_extern Tryd.prog 83 _ (ReflectliteType.relation "AssignableTo" ReflectliteType.assignableTo) Tryd.func83 (by kernel_rfl) (by kernel_rfl) (by kernel_rfl) (by kernel_rfl)
  have h11:=@run_callFunc_extern Tryd.prog 58 _ (ReflectliteValue.method (ReflectliteValue.valueError "reflectlite.Value.Elem" 0) ReflectliteValue.elem) Tryd.func58 (by kernel_rfl) (by kernel_rfl) (by kernel_rfl) (by kernel_rfl)
  have h12:=@run_callFunc_extern Tryd.prog 59 _ ReflectliteValue.set Tryd.func59 (by kernel_rfl) (by kernel_rfl) (by kernel_rfl) (by kernel_rfl)
  have tO:=Tryd.typeOfE
  have mA:=Tryd.methodAssignableTo
  have a25:=Tryd.assignableE
  have v25:=Tryd.valueOfE
  have f6:=Tryd.valueOfP
  have f7:=Tryd.typeP
  have mK:=Tryd.methodKind
  have mE:=Tryd.methodElem
  have mI:=Tryd.methodImplements
  have k27:=Tryd.kindP
  have k25:=Tryd.kindE
  have e27:=Tryd.elemP
  have i25:=Tryd.implementsE
  have n8:=Tryd.isNilP ⟨w.heap.size,0,none⟩ t ((w.alloc (.cells #[.pointer (some t)] 108)).alloc (.cells #[.pointer (some ⟨2,108,none⟩),.pointer (some ⟨w.heap.size,0,none⟩),.int .u64 150] 113)) (by simp)
  have hlt:1 < w.heap.size:=Go.Abs.cell_lt hg
  have hg2:((w.alloc (.cells #[.pointer (some t)] 108)).alloc (.cells #[.pointer (some ⟨2,108,none⟩),.pointer (some ⟨w.heap.size,0,none⟩),.int .u64 150] 113)).cell? ⟨1,0,none⟩=some (.iface 124 (.agg #[.pointer (some ⟨2,91,none⟩)])):=by
    rw [World.cell?_alloc_lt _ _ ⟨1,0,none⟩ (by simp; omega),World.cell?_alloc_lt _ _ ⟨1,0,none⟩ hlt]; exact hg
  have htl:t.block < w.heap.size:=Go.Abs.cell_lt ht0
  have el:=Tryd.elemV ⟨w.heap.size,0,none⟩ t (((w.alloc (.cells #[.pointer (some t)] 108)).alloc (.cells #[.pointer (some ⟨2,108,none⟩),.pointer (some ⟨w.heap.size,0,none⟩),.int .u64 150] 113)).alloc (.cells #[.pointer (some ⟨2,108,none⟩),.pointer (some ⟨w.heap.size,0,none⟩),.int .u64 150] 113)) (by rw [World.cell?_alloc_lt _ _ ⟨w.heap.size,0,none⟩ (by simp; omega)]; simp)
  have st:=Tryd.setE t ⟨w.heap.size+1+1+1,0,none⟩ v old ((((w.alloc (.cells #[.pointer (some t)] 108)).alloc (.cells #[.pointer (some ⟨2,108,none⟩),.pointer (some ⟨w.heap.size,0,none⟩),.int .u64 150] 113)).alloc (.cells #[.pointer (some ⟨2,108,none⟩),.pointer (some ⟨w.heap.size,0,none⟩),.int .u64 150] 113)).alloc (.cells #[.int .i64 v] 105))
    (by rw [World.cell?_alloc_at _ _ _ _ (by simp)]; rfl)
    (by rw [World.cell?_alloc_lt _ _ t (by simp; omega),World.cell?_alloc_lt _ _ t (by simp; omega),World.cell?_alloc_lt _ _ t (by simp; omega),World.cell?_alloc_lt _ _ t htl]; exact ht0)
    (by rw [World.frozen?_alloc_old _ _ t (by simp; omega),World.frozen?_alloc_old _ _ t (by simp; omega),World.frozen?_alloc_old _ _ t (by simp; omega),World.frozen?_alloc_old _ _ t (Nat.ne_of_lt htl)]; exact hf0)
  go_enter Tryd.func52,Tryd.ntmps52
  go_wp2
  refine wp_loop_rounds 1 ?_
  rw [rounds_succ]
  go_wp2
  go_ret
  exact ⟨rfl,rfl⟩
set_option maxRecDepth 100000 in
set_option maxHeartbeats 4000000 in
theorem Tryd.code_nil (w:World):Calls Tryd.prog 42 #[.nilIface] w fun e w'=>e=.returned (.int .i64 0)∧w'=w.alloc (.cells #[.int .i64 0] 105):=by
  go_enter Tryd.func42,Tryd.ntmps42
  go_wp2_with (go_at_call 52; refine (Tryd.as_nil _ _).mono ?_; rintro e w' ⟨rfl,rfl⟩)
  go_ret
  exact ⟨rfl,rfl⟩
set_option maxRecDepth 100000 in
set_option maxHeartbeats 4000000 in
theorem Tryd.code_hit (v:Int) (w:World) (hg:w.cell? ⟨1,0,none⟩=some (.iface 124 (.agg #[.pointer (some ⟨2,91,none⟩)]))) :
    Calls Tryd.prog 42 #[.iface 105 (.agg #[.int .i64 v])] w fun e w'=>e=.returned (.int .i64 v)∧∃ o a b c d,w'=((((w.alloc o).alloc a).alloc b).alloc c).alloc d:=by
  have hlt:1 < w.heap.size:=Go.Abs.cell_lt hg
  have hgA:(w.alloc (.cells #[.int .i64 0] 105)).cell? ⟨1,0,none⟩=some (.iface 124 (.agg #[.pointer (some ⟨2,91,none⟩)])):=by
    rw [World.cell?_alloc_lt _ _ ⟨1,0,none⟩ hlt]; exact hg
  have htA:(w.alloc (.cells #[.int .i64 0] 105)).cell? ⟨w.heap.size,0,none⟩=some (.int .i64 0):=by simp
  have hfA:(w.alloc (.cells #[.int .i64 0] 105)).frozen? ⟨w.heap.size,0,none⟩=false:=by simp
  go_enter Tryd.func42,Tryd.ntmps42
  go_wp2_with (go_at_call 52; refine (Tryd.as_hit _ _ (.int .i64 0) _ hgA htA hfA).mono ?_; rintro e w' ⟨rfl,rfl⟩)
  go_ret
  exact ⟨rfl,_,_,_,_,_,rfl⟩
theorem Tryd.err42 {gl:Go.Abs.Glob} {k:IntKind} (h1:gl 1=some (k,0,[124,2,91])):Go.Abs.CodeF Tryd.prog gl 42 105 where
  fn:=⟨Tryd.f42,Tryd.func42,by kernel_rfl,by kernel_rfl⟩
  nil w _:=(Tryd.code_nil w).mono fun e w' ⟨h2,h3⟩=>⟨h2,by rw [h3]; exact (Go.Abs.Below.refl _ _).alloc (Nat.le_refl _) _⟩
  hit w v hG:=by
    obtain ⟨r,b,e,h2,h3⟩:=(hG 1 k 0 _ h1).2 rfl
    simp only [List.cons.injEq,and_true] at h2
    obtain ⟨h4,h5,h6⟩:=h2
    have h4:r=124:=by omega
    have h5:b=2:=by omega
    have h6:e=91:=by omega
    subst h4; subst h5; subst h6
    exact (Tryd.code_hit v w h3).mono fun e w' ⟨h7,o,a,b,c,d,h8⟩=>⟨h7,by
      rw [h8]
      exact (((((Go.Abs.Below.refl _ _).alloc (Nat.le_refl _) _).alloc (by simp) _).alloc (by simp; omega) _).alloc (by simp; omega) _).alloc (by simp; omega) _⟩
end Go.Proofs
