/- slices.SortFunc and maps.Clone, by the library's contracts, at what this program sorts and copies. -/
import Derived.Test.YtkfjlcdaepckoaaAbsFn2
import Derived.Test.YtkfjlcdaepckoaaProg
import Derived.Shelf.SlSortCmp.NoneTotal
import Derived.Ground.SlsfProg
import Derived.Ground.NamesProg
import Derived.Shelf.Bytes.SlEqualAll
import Derived.Tactics
import Derived.Tactics2
import Derived.RecoverIn
import Derived.WalkKit
namespace Go.Proofs
open Go Go.Shelf Go.Sort
set_option maxRecDepth 100000
theorem Try.lf {P : Program} {f : FuncId} {A B : Func} (h : P.funcs[f]? = some A) (e : A = B) : P.funcs[f]? = some B := h.trans (congrArg some e)
theorem Try.lg {P : Program} {f : FuncId} {A B : Func} (h : P.funcs[f]? = some A) (n : (A.name == "runtime.NumGoroutine") = false) (e : A = { B with name := A.name }) : Bears P f B := ⟨A.name, n, h.trans (congrArg some e)⟩
def Try.sortL38_ren : Go.Shelf.Ren := ⟨fun | 6 => 38 | 15 => 54 | 14 => 53 | 28 => 67 | 29 => 68 | 20 => 59 | 21 => 60 | 22 => 61 | 23 => 62 | 24 => 63 | 25 => 64 | 26 => 65 | 27 => 66 | 46 => 78 | 47 => 79 | 48 => 80 | 49 => 81 | 50 => 82 | 57 => 86 | n => n, fun | 22 => 23 | 24 => 49 | 25 => 82 | 3 => 3 | 39 => 30 | 0 => 0 | 53 => 109 | 55 => 64 | 4 => 4 | 46 => 102 | 45 => 101 | 50 => 106 | 5 => 5 | 9 => 9 | 66 => 117 | 70 => 121 | 76 => 125 | 77 => 126 | n => n, fun | n => n⟩
open Try in
theorem Try.sortL38 : Go.Proofs.SlLaysF0.n6 Try.prog Try.sortL38_ren := {
  mixed := by kernel_rfl
  f6 := lg func38 rfl (by kernel_rfl)
  f14 := lg func53 rfl (by kernel_rfl)
  f15 := lf func54 (by kernel_rfl)
  f20 := lg func59 rfl (by kernel_rfl)
  f21 := lg func60 rfl (by kernel_rfl)
  f22 := lg func61 rfl (by kernel_rfl)
  f23 := lg func62 rfl (by kernel_rfl)
  f24 := lg func63 rfl (by kernel_rfl)
  f25 := lg func64 rfl (by kernel_rfl)
  f26 := lg func65 rfl (by kernel_rfl)
  f27 := lg func66 rfl (by kernel_rfl)
  f28 := lf func67 (by kernel_rfl)
  f29 := lf func68 (by kernel_rfl)
  f46 := lg func78 rfl (by kernel_rfl)
  f47 := lf func79 (by kernel_rfl)
  f48 := lf func80 (by kernel_rfl)
  f49 := lg func81 rfl (by kernel_rfl)
  f50 := lg func82 rfl (by kernel_rfl)
  f57 := lg func86 rfl (by kernel_rfl)
  t0 := underlying0
  a0 := isAgg0
  z0 := sizeOf0
  v0 := zeroValue0
  t3 := underlying3
  a3 := isAgg3
  z3 := sizeOf3
  v3 := zeroValue3
  t4 := underlying4
  a4 := isAgg4
  z4 := sizeOf4
  v4 := zeroValue4
  t5 := underlying5
  a5 := isAgg5
  z5 := sizeOf5
  v5 := zeroValue5
  t9 := underlying9
  a9 := isAgg9
  z9 := sizeOf9
  v9 := zeroValue9
  t22 := underlying23
  a22 := isAgg23
  z22 := sizeOf23
  v22 := zeroValue23
  t25 := underlying82
  a25 := isAgg82
  z25 := sizeOf82
  v25 := zeroValue82
  t39 := underlying30
  a39 := isAgg30
  z39 := sizeOf30
  v39 := zeroValue30
  t45 := underlying101
  a45 := isAgg101
  z45 := sizeOf101
  v45 := zeroValue101
  t46 := underlying102
  a46 := isAgg102
  z46 := sizeOf102
  v46 := zeroValue102
  t50 := underlying106
  a50 := isAgg106
  z50 := sizeOf106
  v50 := zeroValue106
  t53 := underlying109
  a53 := isAgg109
  z53 := sizeOf109
  v53 := zeroValue109
  t55 := underlying64
  a55 := isAgg64
  z55 := sizeOf64
  v55 := zeroValue64
  t66 := underlying117
  a66 := isAgg117
  z66 := sizeOf117
  v66 := zeroValue117
  t70 := underlying121
  a70 := isAgg121
  z70 := sizeOf121
  v70 := zeroValue121
  t76 := underlying125
  a76 := isAgg125
  z76 := sizeOf125
  v76 := zeroValue125
  t77 := underlying126
  a77 := isAgg126
  z77 := sizeOf126
  v77 := zeroValue126 }
def Try.sortL49_ren : Go.Shelf.Ren := ⟨fun | 6 => 49 | 15 => 54 | 14 => 57 | 28 => 67 | 29 => 68 | 20 => 70 | 21 => 71 | 22 => 72 | 23 => 73 | 24 => 74 | 25 => 75 | 26 => 76 | 27 => 77 | 46 => 83 | 47 => 79 | 48 => 80 | 49 => 84 | 50 => 85 | 57 => 87 | n => n, fun | 22 => 47 | 24 => 57 | 25 => 93 | 3 => 3 | 39 => 30 | 0 => 0 | 53 => 109 | 55 => 64 | 4 => 4 | 46 => 102 | 45 => 101 | 50 => 106 | 5 => 5 | 9 => 9 | 66 => 117 | 70 => 121 | 76 => 125 | 77 => 126 | n => n, fun | n => n⟩
open Try in
theorem Try.sortL49 : Go.Proofs.SlLaysF0.n6 Try.prog Try.sortL49_ren := {
  mixed := by kernel_rfl
  f6 := lg func49 rfl (by kernel_rfl)
  f14 := lg func57 rfl (by kernel_rfl)
  f15 := lf func54 (by kernel_rfl)
  f20 := lg func70 rfl (by kernel_rfl)
  f21 := lg func71 rfl (by kernel_rfl)
  f22 := lg func72 rfl (by kernel_rfl)
  f23 := lg func73 rfl (by kernel_rfl)
  f24 := lg func74 rfl (by kernel_rfl)
  f25 := lg func75 rfl (by kernel_rfl)
  f26 := lg func76 rfl (by kernel_rfl)
  f27 := lg func77 rfl (by kernel_rfl)
  f28 := lf func67 (by kernel_rfl)
  f29 := lf func68 (by kernel_rfl)
  f46 := lg func83 rfl (by kernel_rfl)
  f47 := lf func79 (by kernel_rfl)
  f48 := lf func80 (by kernel_rfl)
  f49 := lg func84 rfl (by kernel_rfl)
  f50 := lg func85 rfl (by kernel_rfl)
  f57 := lg func87 rfl (by kernel_rfl)
  t0 := underlying0
  a0 := isAgg0
  z0 := sizeOf0
  v0 := zeroValue0
  t3 := underlying3
  a3 := isAgg3
  z3 := sizeOf3
  v3 := zeroValue3
  t4 := underlying4
  a4 := isAgg4
  z4 := sizeOf4
  v4 := zeroValue4
  t5 := underlying5
  a5 := isAgg5
  z5 := sizeOf5
  v5 := zeroValue5
  t9 := underlying9
  a9 := isAgg9
  z9 := sizeOf9
  v9 := zeroValue9
  t22 := underlying47
  a22 := isAgg47
  z22 := sizeOf47
  v22 := zeroValue47
  t25 := underlying93
  a25 := isAgg93
  z25 := sizeOf93
  v25 := zeroValue93
  t39 := underlying30
  a39 := isAgg30
  z39 := sizeOf30
  v39 := zeroValue30
  t45 := underlying101
  a45 := isAgg101
  z45 := sizeOf101
  v45 := zeroValue101
  t46 := underlying102
  a46 := isAgg102
  z46 := sizeOf102
  v46 := zeroValue102
  t50 := underlying106
  a50 := isAgg106
  z50 := sizeOf106
  v50 := zeroValue106
  t53 := underlying109
  a53 := isAgg109
  z53 := sizeOf109
  v53 := zeroValue109
  t55 := underlying64
  a55 := isAgg64
  z55 := sizeOf64
  v55 := zeroValue64
  t66 := underlying117
  a66 := isAgg117
  z66 := sizeOf117
  v66 := zeroValue117
  t70 := underlying121
  a70 := isAgg121
  z70 := sizeOf121
  v70 := zeroValue121
  t76 := underlying125
  a76 := isAgg125
  z76 := sizeOf125
  v76 := zeroValue125
  t77 := underlying126
  a77 := isAgg126
  z77 := sizeOf126
  v77 := zeroValue126 }
theorem Try.agg49 (w:World):(isAgg 49).run Try.prog w=.ok true w:=by kernel_rfl
theorem Try.size49 (w:World):(Go.sizeOf 49).run Try.prog w=.ok 2 w:=by kernel_rfl
theorem Try.agg57 (w:World):(isAgg 57).run Try.prog w=.ok true w:=by kernel_rfl
theorem Try.size57 (w:World):(Go.sizeOf 57).run Try.prog w=.ok 3 w:=by kernel_rfl
theorem Try.sortN38:Go.Abs.SortN Try.prog 38 2 where
 fn:=⟨Try.f38,Try.func38,by kernel_rfl,by kernel_rfl⟩
 none:=fun p cap fv w=>AnyF.slices_SortFunc_none Try.sortL38 p cap fv w
 sort:=fun enc hk h1 cf hO g cb blk off cap d w eg hcmp hH hblk hsz=>AnyQ.slices_SortFunc Try.sortL38 2 Try.agg49 Try.size49 enc hk h1 cf hO g cb blk off cap d w eg hcmp hH hblk hsz
theorem Try.sortN49:Go.Abs.SortN Try.prog 49 3 where
 fn:=⟨Try.f49,Try.func49,by kernel_rfl,by kernel_rfl⟩
 none:=fun p cap fv w=>AnyF.slices_SortFunc_none Try.sortL49 p cap fv w
 sort:=fun enc hk h1 cf hO g cb blk off cap d w eg hcmp hH hblk hsz=>AnyQ.slices_SortFunc Try.sortL49 3 Try.agg57 Try.size57 enc hk h1 cf hO g cb blk off cap d w eg hcmp hH hblk hsz
def Try.lays115_ren : Go.Shelf.Ren := ⟨fun | 115 => 11 | n => n, fun | 37 => 22 | 4 => 4 | 9 => 9 | 5 => 5 | n => n, fun | n => n⟩
open Try in
theorem Try.lays115 : Go.Proofs.Lays.nb115 Try.prog Try.lays115_ren := {
  mixed := by kernel_rfl
  f115 := lf func11 (by kernel_rfl)
  t4 := underlying4
  a4 := isAgg4
  z4 := sizeOf4
  v4 := zeroValue4
  t9 := underlying9
  a9 := isAgg9
  z9 := sizeOf9
  v9 := zeroValue9
  t37 := underlying22
  a37 := isAgg22
  z37 := sizeOf22
  v37 := zeroValue22
  t5 := underlying5
  a5 := isAgg5
  z5 := sizeOf5
  v5 := zeroValue5 }
namespace Try
open Go Go.Abs Go.Lib
def q3a:(List Int×List Int×Unit)->Option (Bool×Unit):=fun x=>some (bytesOf x.1==bytesOf x.2.1,())
noncomputable def z3h:Abs.Spec:={ args:=[(false,.list (.int .u8)),(false,.list (.int .u8))],res:=[.val false .bool],f:=q3a }
theorem z53 {w:World} {A:Nat->Prop} {v:Value} {x:List Int} (h:RepVal w A false (.list (.int .u8)) v x):∃ p n c,v=.slice p n c/\x.length=n/\BytesIn w p n x:=by
 obtain⟨-,-,sa,len,cap,h1,h2,h3,h4⟩:=h
 refine⟨sa,len,cap,by simpa[E3]using h1,h2.symm,fun hn=>?_⟩
 obtain⟨b,o,e1,-,e2⟩:=h4 (fun e=>by rw[e]at h2;simp at h2;omega)
 refine⟨b,o,e1,fun i hi=>?_⟩
 have hlt:i<x.length:=by omega
 have:=e2 i x[i] (List.getElem?_eq_getElem hlt)
 simp only[RepAt,Ty.size,Nat.zero_lt_one,if_true,Nat.mul_one,Nat.add_zero]at this
 rw[this,List.getD_eq_getElem?_getD,List.getElem?_eq_getElem hlt];rfl
theorem j8j {gl:K5}:FunOK' prog gl 11 z3h:=by
 refine⟨fun x y hy L w vals hG hL hargs m=>?_,f11,func11,by kernel_rfl,by kernel_rfl⟩
 obtain⟨a,b,⟨⟩⟩:=x
 simp only[z3h,q3a]at hy hargs ⊢
 cases hy
 match vals,hargs with
 | [v,u],hargs =>
  obtain⟨h1,h2,-⟩:=hargs
  obtain⟨p,n,c,rfl,e1,e2⟩:=z53 h1
  obtain⟨q,m',d,rfl,e3,e4⟩:=z53 h2
  refine callsIn_wide.2 ((Any.bytes_Equal_all lays115 p q n c m' d a b w e1 e3 e2 e4).mono ?_)
  rintro e w' ⟨rfl,rfl⟩
  exact⟨_,rfl,Below.refl _ _,none,[.bool _],rfl,⟨rfl,rfl,rfl⟩,trivial⟩
 | [],hargs=>exact hargs.elim
 | [_],hargs=>exact hargs.2.elim
 | _::_::_::_,hargs=>exact hargs.2.2.elim
theorem z5a {w:World} {a:Addr} {c:Array Value} {ty:TypeId} (hs:a.spot=none) (h:w.heap[a.block]? = some (.cells c ty (0,0))) (hlt:a.off<c.size):(∃ v,w.cell? a=some v)/\w.frozen? a=false:=by
 obtain⟨b,o,s⟩:=a
 simp only at hs h hlt
 subst hs
 refine⟨⟨c[o],by simp[World.cell?,h,hlt]⟩,?_⟩
 simp[World.frozen?,h]
theorem j72 (p q:Addr) (w:World) (m:Nat):CallsDIn (Fr none) m prog 19 #[.pointer (some p),.pointer (some q)] .returning w fun e u w'=>(∃ v,e=.returned v)/\u=.returning/\w'=w:=by
 refine callsDIn_of_wpSIn func19 rfl trivial fun c₀ cs hu=>?_
 apply wpSIn_seq
 apply wpSIn_region
 simp[wpOpsSIn,go_sem,recoverD,hu,ntmps19,Exit.thenS,Fr]
 apply wpSIn_seq
 apply wpSIn_region
 simp[wpOpsSIn,go_sem,Exit.thenS]
 refine wpSIn_cond (t:=false) (by simp[Act.eval]) ?_
 simp only[Bool.false_eq_true,if_false]
 refine wpSIn_of_wpIn rfl (wpIn_skip ?_)
 cases c₀
 simp_all [bodyPostS,results,results19]
theorem j4r (w:World):(Instr.typeAssert (.iface 52 (.agg #[])) 20 52 true).run prog w=.ok (.tuple #[.agg #[],.bool true]) w:=by kernel_rfl
theorem j59 (p q:Addr) (w:World) (m:Nat) {x y:Value} (hp:w.cell? p=some x) (hpf:w.frozen? p=false) (hq:w.cell? q=some y) (hqf:w.frozen? q=false) :
  CallsDIn (Fr none) m prog 19 #[.pointer (some p),.pointer (some q)] (.panicking [pv 52]) w fun e u w'=>(∃ v,e=.returned v)/\u=.panicking [{ pv 52 with recovered:=true }]/\w'=((w.alloc (.cells #[] 52)).setCell p (.slice none 0 0)).setCell q (.bool false):=by
 refine callsDIn_of_wpSIn func19 rfl trivial fun c₀ cs hu=>?_
 apply wpSIn_seq
 apply wpSIn_region
 simp[wpOpsSIn,go_sem,recoverD,hu,ntmps19,Exit.thenS,Fr,pv]
 apply wpSIn_seq
 apply wpSIn_region
 simp[wpOpsSIn,go_sem,Exit.thenS]
 refine wpSIn_cond (t:=true) (by simp[Act.eval]) ?_
 simp only[if_true]
 apply wpSIn_seq
 apply wpSIn_seq
 apply wpSIn_region
 simp[wpOpsSIn,go_sem,Exit.thenS,j4r]
 apply wpSIn_seq
 apply wpSIn_region
 simp[wpOpsSIn,go_sem,Exit.thenS]
 refine wpSIn_cond (t:=false) (by simp[Act.eval]) ?_
 simp only[Bool.false_eq_true,if_false]
 refine wpSIn_of_wpIn rfl (wpIn_skip ?_)
 simp only[Exit.thenS]
 apply wpSIn_region
 have h1:(w.alloc (.cells #[] 52)).cell? p=some x:=by rw[World.cell?_alloc_lt _ _ p (q1p hp)];exact hp
 have h2:(w.alloc (.cells #[] 52)).frozen? p=false:=by rw[World.frozen?_alloc_old _ _ p (Nat.ne_of_lt (q1p hp))];exact hpf
 have h3:∃ y',((w.alloc (.cells #[] 52)).setCell p (.slice none 0 0)).cell? q=some y':=Go.RowKit.cell?_setCell_some (by rw[World.cell?_alloc_lt _ _ q (q1p hq)];exact hq)
 have h4:((w.alloc (.cells #[] 52)).setCell p (.slice none 0 0)).frozen? q=false:=by rw[World.frozen?_setCell,World.frozen?_alloc_old _ _ q (Nat.ne_of_lt (q1p hq))];exact hqf
 obtain⟨y',h3⟩:=h3
 simp[wpOpsSIn,go_sem,h1,h2,h3,h4]
 cases c₀
 simp_all [bodyPostS,results,results19]
theorem j5n:DefF prog { g:=19,X:=52,vs:=[.nils,.sc .bool false] } where
 fn:=⟨f19,func19,by kernel_rfl,by kernel_rfl⟩
 ret:=fun l w m hl=>match l,hl with
  | [p,q],_=>j72 p q w m
 pan:=fun l w m us hl hu hc=>match l,hl,hc with
  | [p,q],_,hc=>by
   cases hu
   obtain⟨h1,c,ty,h2,h3⟩:=hc p (by simp)
   obtain⟨h4,d,ty2,h5,h6⟩:=hc q (by simp)
   obtain⟨⟨x,g1⟩,g2⟩:=z5a h1 h2 h3
   obtain⟨⟨y,g3⟩,g4⟩:=z5a h4 h5 h6
   exact(j59 p q w m g1 g2 g3 g4).mono fun e u w' ⟨a,b,c⟩=>⟨a,b,_,c⟩
end Try
end Go.Proofs
