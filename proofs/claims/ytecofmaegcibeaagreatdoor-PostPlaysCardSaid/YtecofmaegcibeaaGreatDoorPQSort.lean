/- slices.SortFunc, by the library's contracts, at what this program sorts. -/
import Derived.Test.YtecofmaegcibeaaGreatDoorAbsSound14
import Derived.Test.YtecofmaegcibeaaGreatDoorProg
import Derived.Shelf.SlSortCmp.NoneTotal
import Derived.Ground.SlsfProg
import Derived.Test.YtecofmaegcibeaaGreatDoorAbsSound13
import Derived.WalkKit
import Derived.Deep.LoopGhost
import Derived.Deep.RegionLaw
import Derived.Lib.Walk
import Derived.Shelf.RegionOpenPlain
import Derived.Lib.SliceRun
namespace Go.Proofs
open Go Go.Shelf Go.Sort
set_option maxRecDepth 100000
theorem Tryz.lf {P:Program} {f:FuncId} {A B:Func} (h:P.funcs[f]? = some A) (e:A=B):P.funcs[f]? = some B:=h.trans (congrArg some e)
theorem Tryz.lg {P:Program} {f:FuncId} {A B:Func} (h:P.funcs[f]? = some A) (n:(A.name== "runtime.NumGoroutine")=false) (e:A={ B with name:=A.name }):Bears P f B:=⟨A.name,n,h.trans (congrArg some e)⟩
def Tryz.sortL48_ren:Go.Shelf.Ren:=⟨λ| 6=>48 | 15=>91 | 14=>90 | 28=>123 | 29=>124 | 20=>115 | 21=>116 | 22=>117 | 23=>118 | 24=>119 | 25=>120 | 26=>121 | 27=>122 | 46=>153 | 47=>154 | 48=>155 | 49=>156 | 50=>157 | 57=>166 | n=>n,λ| 22=>40 | 24=>61 | 25=>138 | 3=>3 | 39=>172 | 0=>0 | 53=>184 | 55=>210 | 4=>4 | 46=>203 | 45=>202 | 50=>183 | 5=>5 | 9=>9 | 66=>225 | 70=>163 | 76=>237 | 77=>238 | n=>n,λ| n=>n⟩
open Tryz in
theorem Tryz.sortL48:Go.Proofs.SlLaysF0.n6 Tryz.prog Tryz.sortL48_ren:={
 mixed:=by kernel_rfl
 f6:=lg func48 (by decide) (by kernel_rfl)
 f14:=lg func90 (by decide) (by kernel_rfl)
 f15:=lf func91 (by kernel_rfl)
 f20:=lg func115 (by decide) (by kernel_rfl)
 f21:=lg func116 (by decide) (by kernel_rfl)
 f22:=lg func117 (by decide) (by kernel_rfl)
 f23:=lg func118 (by decide) (by kernel_rfl)
 f24:=lg func119 (by decide) (by kernel_rfl)
 f25:=lg func120 (by decide) (by kernel_rfl)
 f26:=lg func121 (by decide) (by kernel_rfl)
 f27:=lg func122 (by decide) (by kernel_rfl)
 f28:=lf func123 (by kernel_rfl)
 f29:=lf func124 (by kernel_rfl)
 f46:=lg func153 (by decide) (by kernel_rfl)
 f47:=lf func154 (by kernel_rfl)
 f48:=lf func155 (by kernel_rfl)
 f49:=lg func156 (by decide) (by kernel_rfl)
 f50:=lg func157 (by decide) (by kernel_rfl)
 f57:=lg func166 (by decide) (by kernel_rfl)
 t0:=underlying0
 a0:=isAgg0
 z0:=sizeOf0
 v0:=zeroValue0
 t3:=underlying3
 a3:=isAgg3
 z3:=sizeOf3
 v3:=zeroValue3
 t4:=underlying4
 a4:=isAgg4
 z4:=sizeOf4
 v4:=zeroValue4
 t5:=underlying5
 a5:=isAgg5
 z5:=sizeOf5
 v5:=zeroValue5
 t9:=underlying9
 a9:=isAgg9
 z9:=sizeOf9
 v9:=zeroValue9
 t22:=underlying40
 a22:=isAgg40
 z22:=sizeOf40
 v22:=zeroValue40
 t25:=underlying138
 a25:=isAgg138
 z25:=sizeOf138
 v25:=zeroValue138
 t39:=underlying172
 a39:=isAgg172
 z39:=sizeOf172
 v39:=zeroValue172
 t45:=underlying202
 a45:=isAgg202
 z45:=sizeOf202
 v45:=zeroValue202
 t46:=underlying203
 a46:=isAgg203
 z46:=sizeOf203
 v46:=zeroValue203
 t50:=underlying183
 a50:=isAgg183
 z50:=sizeOf183
 v50:=zeroValue183
 t53:=underlying184
 a53:=isAgg184
 z53:=sizeOf184
 v53:=zeroValue184
 t55:=underlying210
 a55:=isAgg210
 z55:=sizeOf210
 v55:=zeroValue210
 t66:=underlying225
 a66:=isAgg225
 z66:=sizeOf225
 v66:=zeroValue225
 t70:=underlying163
 a70:=isAgg163
 z70:=sizeOf163
 v70:=zeroValue163
 t76:=underlying237
 a76:=isAgg237
 z76:=sizeOf237
 v76:=zeroValue237
 t77:=underlying238
 a77:=isAgg238
 z77:=sizeOf238
 v77:=zeroValue238 }
def Tryz.sortL76_ren:Go.Shelf.Ren:=⟨λ| 6=>76 | 15=>91 | 14=>109 | 28=>123 | 29=>124 | 20=>130 | 21=>131 | 22=>132 | 23=>133 | 24=>134 | 25=>135 | 26=>136 | 27=>137 | 46=>158 | 47=>154 | 48=>155 | 49=>159 | 50=>160 | 57=>167 | n=>n,λ| 22=>108 | 24=>104 | 25=>160 | 3=>3 | 39=>172 | 0=>0 | 53=>184 | 55=>210 | 4=>4 | 46=>203 | 45=>202 | 50=>183 | 5=>5 | 9=>9 | 66=>225 | 70=>163 | 76=>237 | 77=>238 | n=>n,λ| n=>n⟩
open Tryz in
theorem Tryz.sortL76:Go.Proofs.SlLaysF0.n6 Tryz.prog Tryz.sortL76_ren:={
 mixed:=by kernel_rfl
 f6:=lg func76 (by decide) (by kernel_rfl)
 f14:=lg func109 (by decide) (by kernel_rfl)
 f15:=lf func91 (by kernel_rfl)
 f20:=lg func130 (by decide) (by kernel_rfl)
 f21:=lg func131 (by decide) (by kernel_rfl)
 f22:=lg func132 (by decide) (by kernel_rfl)
 f23:=lg func133 (by decide) (by kernel_rfl)
 f24:=lg func134 (by decide) (by kernel_rfl)
 f25:=lg func135 (by decide) (by kernel_rfl)
 f26:=lg func136 (by decide) (by kernel_rfl)
 f27:=lg func137 (by decide) (by kernel_rfl)
 f28:=lf func123 (by kernel_rfl)
 f29:=lf func124 (by kernel_rfl)
 f46:=lg func158 (by decide) (by kernel_rfl)
 f47:=lf func154 (by kernel_rfl)
 f48:=lf func155 (by kernel_rfl)
 f49:=lg func159 (by decide) (by kernel_rfl)
 f50:=lg func160 (by decide) (by kernel_rfl)
 f57:=lg func167 (by decide) (by kernel_rfl)
 t0:=underlying0
 a0:=isAgg0
 z0:=sizeOf0
 v0:=zeroValue0
 t3:=underlying3
 a3:=isAgg3
 z3:=sizeOf3
 v3:=zeroValue3
 t4:=underlying4
 a4:=isAgg4
 z4:=sizeOf4
 v4:=zeroValue4
 t5:=underlying5
 a5:=isAgg5
 z5:=sizeOf5
 v5:=zeroValue5
 t9:=underlying9
 a9:=isAgg9
 z9:=sizeOf9
 v9:=zeroValue9
 t22:=underlying108
 a22:=isAgg108
 z22:=sizeOf108
 v22:=zeroValue108
 t25:=underlying160
 a25:=isAgg160
 z25:=sizeOf160
 v25:=zeroValue160
 t39:=underlying172
 a39:=isAgg172
 z39:=sizeOf172
 v39:=zeroValue172
 t45:=underlying202
 a45:=isAgg202
 z45:=sizeOf202
 v45:=zeroValue202
 t46:=underlying203
 a46:=isAgg203
 z46:=sizeOf203
 v46:=zeroValue203
 t50:=underlying183
 a50:=isAgg183
 z50:=sizeOf183
 v50:=zeroValue183
 t53:=underlying184
 a53:=isAgg184
 z53:=sizeOf184
 v53:=zeroValue184
 t55:=underlying210
 a55:=isAgg210
 z55:=sizeOf210
 v55:=zeroValue210
 t66:=underlying225
 a66:=isAgg225
 z66:=sizeOf225
 v66:=zeroValue225
 t70:=underlying163
 a70:=isAgg163
 z70:=sizeOf163
 v70:=zeroValue163
 t76:=underlying237
 a76:=isAgg237
 z76:=sizeOf237
 v76:=zeroValue237
 t77:=underlying238
 a77:=isAgg238
 z77:=sizeOf238
 v77:=zeroValue238 }
def Tryz.sortL87_ren:Go.Shelf.Ren:=⟨λ| 6=>87 | 15=>91 | 14=>113 | 28=>123 | 29=>124 | 20=>141 | 21=>142 | 22=>143 | 23=>144 | 24=>145 | 25=>146 | 26=>147 | 27=>148 | 46=>161 | 47=>154 | 48=>155 | 49=>162 | 50=>163 | 57=>168 | n=>n,λ| 22=>41 | 24=>68 | 25=>168 | 3=>3 | 39=>172 | 0=>0 | 53=>184 | 55=>210 | 4=>4 | 46=>203 | 45=>202 | 50=>183 | 5=>5 | 9=>9 | 66=>225 | 70=>163 | 76=>237 | 77=>238 | n=>n,λ| n=>n⟩
open Tryz in
theorem Tryz.sortL87:Go.Proofs.SlLaysF0.n6 Tryz.prog Tryz.sortL87_ren:={
 mixed:=by kernel_rfl
 f6:=lg func87 (by decide) (by kernel_rfl)
 f14:=lg func113 (by decide) (by kernel_rfl)
 f15:=lf func91 (by kernel_rfl)
 f20:=lg func141 (by decide) (by kernel_rfl)
 f21:=lg func142 (by decide) (by kernel_rfl)
 f22:=lg func143 (by decide) (by kernel_rfl)
 f23:=lg func144 (by decide) (by kernel_rfl)
 f24:=lg func145 (by decide) (by kernel_rfl)
 f25:=lg func146 (by decide) (by kernel_rfl)
 f26:=lg func147 (by decide) (by kernel_rfl)
 f27:=lg func148 (by decide) (by kernel_rfl)
 f28:=lf func123 (by kernel_rfl)
 f29:=lf func124 (by kernel_rfl)
 f46:=lg func161 (by decide) (by kernel_rfl)
 f47:=lf func154 (by kernel_rfl)
 f48:=lf func155 (by kernel_rfl)
 f49:=lg func162 (by decide) (by kernel_rfl)
 f50:=lg func163 (by decide) (by kernel_rfl)
 f57:=lg func168 (by decide) (by kernel_rfl)
 t0:=underlying0
 a0:=isAgg0
 z0:=sizeOf0
 v0:=zeroValue0
 t3:=underlying3
 a3:=isAgg3
 z3:=sizeOf3
 v3:=zeroValue3
 t4:=underlying4
 a4:=isAgg4
 z4:=sizeOf4
 v4:=zeroValue4
 t5:=underlying5
 a5:=isAgg5
 z5:=sizeOf5
 v5:=zeroValue5
 t9:=underlying9
 a9:=isAgg9
 z9:=sizeOf9
 v9:=zeroValue9
 t22:=underlying41
 a22:=isAgg41
 z22:=sizeOf41
 v22:=zeroValue41
 t25:=underlying168
 a25:=isAgg168
 z25:=sizeOf168
 v25:=zeroValue168
 t39:=underlying172
 a39:=isAgg172
 z39:=sizeOf172
 v39:=zeroValue172
 t45:=underlying202
 a45:=isAgg202
 z45:=sizeOf202
 v45:=zeroValue202
 t46:=underlying203
 a46:=isAgg203
 z46:=sizeOf203
 v46:=zeroValue203
 t50:=underlying183
 a50:=isAgg183
 z50:=sizeOf183
 v50:=zeroValue183
 t53:=underlying184
 a53:=isAgg184
 z53:=sizeOf184
 v53:=zeroValue184
 t55:=underlying210
 a55:=isAgg210
 z55:=sizeOf210
 v55:=zeroValue210
 t66:=underlying225
 a66:=isAgg225
 z66:=sizeOf225
 v66:=zeroValue225
 t70:=underlying163
 a70:=isAgg163
 z70:=sizeOf163
 v70:=zeroValue163
 t76:=underlying237
 a76:=isAgg237
 z76:=sizeOf237
 v76:=zeroValue237
 t77:=underlying238
 a77:=isAgg238
 z77:=sizeOf238
 v77:=zeroValue238 }
def Tryz.sortL150_ren:Go.Shelf.Ren:=⟨λ| 6=>150 | 15=>91 | 14=>164 | 28=>123 | 29=>124 | 20=>169 | 21=>170 | 22=>171 | 23=>172 | 24=>173 | 25=>174 | 26=>175 | 27=>176 | 46=>177 | 47=>154 | 48=>155 | 49=>178 | 50=>179 | 57=>180 | n=>n,λ| 22=>88 | 24=>43 | 25=>137 | 3=>3 | 39=>172 | 0=>0 | 53=>184 | 55=>210 | 4=>4 | 46=>203 | 45=>202 | 50=>183 | 5=>5 | 9=>9 | 66=>225 | 70=>163 | 76=>237 | 77=>238 | n=>n,λ| n=>n⟩
open Tryz in
theorem Tryz.sortL150:Go.Proofs.SlLaysF.n6 Tryz.prog Tryz.sortL150_ren:={
 mixed:=by kernel_rfl
 f6:=lg func150 (by decide) (by kernel_rfl)
 f14:=lg func164 (by decide) (by kernel_rfl)
 f15:=lf func91 (by kernel_rfl)
 f20:=lg func169 (by decide) (by kernel_rfl)
 f21:=lg func170 (by decide) (by kernel_rfl)
 f22:=lg func171 (by decide) (by kernel_rfl)
 f23:=lg func172 (by decide) (by kernel_rfl)
 f24:=lg func173 (by decide) (by kernel_rfl)
 f25:=lg func174 (by decide) (by kernel_rfl)
 f26:=lg func175 (by decide) (by kernel_rfl)
 f27:=lg func176 (by decide) (by kernel_rfl)
 f28:=lf func123 (by kernel_rfl)
 f29:=lf func124 (by kernel_rfl)
 f46:=lg func177 (by decide) (by kernel_rfl)
 f47:=lf func154 (by kernel_rfl)
 f48:=lf func155 (by kernel_rfl)
 f49:=lg func178 (by decide) (by kernel_rfl)
 f50:=lg func179 (by decide) (by kernel_rfl)
 f57:=lg func180 (by decide) (by kernel_rfl)
 t0:=underlying0
 a0:=isAgg0
 z0:=sizeOf0
 v0:=zeroValue0
 t3:=underlying3
 a3:=isAgg3
 z3:=sizeOf3
 v3:=zeroValue3
 t4:=underlying4
 a4:=isAgg4
 z4:=sizeOf4
 v4:=zeroValue4
 t5:=underlying5
 a5:=isAgg5
 z5:=sizeOf5
 v5:=zeroValue5
 t9:=underlying9
 a9:=isAgg9
 z9:=sizeOf9
 v9:=zeroValue9
 t22:=underlying88
 a22:=isAgg88
 z22:=sizeOf88
 v22:=zeroValue88
 a24:=isAgg43
 z24:=sizeOf43
 t25:=underlying137
 a25:=isAgg137
 z25:=sizeOf137
 v25:=zeroValue137
 t39:=underlying172
 a39:=isAgg172
 z39:=sizeOf172
 v39:=zeroValue172
 t45:=underlying202
 a45:=isAgg202
 z45:=sizeOf202
 v45:=zeroValue202
 t46:=underlying203
 a46:=isAgg203
 z46:=sizeOf203
 v46:=zeroValue203
 t50:=underlying183
 a50:=isAgg183
 z50:=sizeOf183
 v50:=zeroValue183
 t53:=underlying184
 a53:=isAgg184
 z53:=sizeOf184
 v53:=zeroValue184
 t55:=underlying210
 a55:=isAgg210
 z55:=sizeOf210
 v55:=zeroValue210
 t66:=underlying225
 a66:=isAgg225
 z66:=sizeOf225
 v66:=zeroValue225
 t70:=underlying163
 a70:=isAgg163
 z70:=sizeOf163
 v70:=zeroValue163
 t76:=underlying237
 a76:=isAgg237
 z76:=sizeOf237
 v76:=zeroValue237
 t77:=underlying238
 a77:=isAgg238
 z77:=sizeOf238
 v77:=zeroValue238 }
theorem Tryz.agg61 (w:World):(isAgg 61).run Tryz.prog w=.ok true w:=by kernel_rfl
theorem Tryz.size61 (w:World):(Go.sizeOf 61).run Tryz.prog w=.ok 2 w:=by kernel_rfl
theorem Tryz.sortN48:Go.Abs.SortN Tryz.prog 48 2 where
 fn:=⟨Tryz.f48,Tryz.func48,by kernel_rfl,by kernel_rfl⟩
 none:=λp cap fv w=>AnyF.slices_SortFunc_none Tryz.sortL48 p cap fv w
 sort:=λenc hk h1 cf hO g cb blk off cap d w eg hcmp hH hblk hsz=>AnyQ.slices_SortFunc Tryz.sortL48 2 Tryz.agg61 Tryz.size61 enc hk h1 cf hO g cb blk off cap d w eg hcmp hH hblk hsz
theorem Tryz.agg104 (w:World):(isAgg 104).run Tryz.prog w=.ok true w:=by kernel_rfl
theorem Tryz.size104 (w:World):(Go.sizeOf 104).run Tryz.prog w=.ok 3 w:=by kernel_rfl
theorem Tryz.sortN76:Go.Abs.SortN Tryz.prog 76 3 where
 fn:=⟨Tryz.f76,Tryz.func76,by kernel_rfl,by kernel_rfl⟩
 none:=λp cap fv w=>AnyF.slices_SortFunc_none Tryz.sortL76 p cap fv w
 sort:=λenc hk h1 cf hO g cb blk off cap d w eg hcmp hH hblk hsz=>AnyQ.slices_SortFunc Tryz.sortL76 3 Tryz.agg104 Tryz.size104 enc hk h1 cf hO g cb blk off cap d w eg hcmp hH hblk hsz
theorem Tryz.agg68 (w:World):(isAgg 68).run Tryz.prog w=.ok true w:=by kernel_rfl
theorem Tryz.size68 (w:World):(Go.sizeOf 68).run Tryz.prog w=.ok 3 w:=by kernel_rfl
theorem Tryz.sortN87:Go.Abs.SortN Tryz.prog 87 3 where
 fn:=⟨Tryz.f87,Tryz.func87,by kernel_rfl,by kernel_rfl⟩
 none:=λp cap fv w=>AnyF.slices_SortFunc_none Tryz.sortL87 p cap fv w
 sort:=λenc hk h1 cf hO g cb blk off cap d w eg hcmp hH hblk hsz=>AnyQ.slices_SortFunc Tryz.sortL87 3 Tryz.agg68 Tryz.size68 enc hk h1 cf hO g cb blk off cap d w eg hcmp hH hblk hsz
theorem Tryz.sort150:Go.Abs.Sort1 Tryz.prog 150 where
 fn:=⟨Tryz.f150,Tryz.func150,by kernel_rfl,by kernel_rfl⟩
 none:=λp cap fv w=>AnyF.slices_SortFunc_none { Tryz.sortL150 with } p cap fv w
 sort:=λenc h1 cf hO g cb blk off cap d w eg hcmp hH hblk hsz=>Any.slices_SortFunc Tryz.sortL150 enc h1 cf hO g cb blk off cap d w eg hcmp hH hblk hsz
open Go.Abs Go.RowKit Go.Lib
variable {P:Program}
theorem k1c (t ty e et:TypeId) (i:TypeInfo) (ht:P.underlying t=some (.slice e)) (hi:P.info? e=some i) (w:World)
  (g off sLen sCap:Nat) (cur:Array Value) (hg:w.heap[g]? = some (.cells cur et (0,0)))
  (a:Addr) (m c:Nat) (news:List Value) (hl:news.length=m*i.size) (hnews:∀j u,news[j]? = some u->w.cell? (a.add j)=some u) (h1:∀u∈news,u.oneCell'=true)
  (hroom:sLen+m<=sCap) (hfit:off+sLen*i.size+news.length<=cur.size) :
  (Builtin.append_ #[t,t] ty #[.slice (some ⟨g,off,none⟩) sLen sCap,.slice (some a) m c]).run P w =
   .ok (.slice (some ⟨g,off,none⟩) (sLen+m) sCap) (w.setRow g (cur.toList.take (off+sLen*i.size)++news++cur.toList.drop (off+sLen*i.size+news.length)).toArray):=by
 have hf:=run_firstCells_some (P:=P) w i.size m a m c news hl hnews;have hst:=run_storeCells_at P g (off+sLen*i.size) et news 0 cur w hg (by simpa using hfit) h1;simp only[cz]at hst;simp[Builtin.append_,run_underlying ht,sizeOf,typeInfo,hi,Builtin.lenOf,hroom,hf,Addr.add_lit,hst]
theorem k3v {ops:Array Oper} {o:Oper} {a:Act} {w:World} {K:Act->World->Prop} {Q:Exit->Act->World->Prop} {E:Prop}
  (hg:o.guard=none) (s x:Operand) (t:TypeId) (hop:o.op=Op.call { callee:=Callee.builtin Builtin.append,args:=#[s,x],argTypes:=#[t,t] })
  (e:TypeId) (i:TypeInfo) (h1:P.underlying t=some (.slice e)) (h2:P.info? e=some i)
  (b off n cap:Nat) (hs:a.eval s=.slice (some ⟨b,off,none⟩) n cap) (cur:Array Value) (et:TypeId) (hcur:w.heap[b]? = some (.cells cur et (0,0)))
  (ad:Addr) (m c:Nat) (news:List Value) (hx:a.eval x=.slice (some ad) m c) (hn:news.length=m*i.size) (hc:∀j u,news[j]? = some u->w.cell? (ad.add j)=some u) (h1c:∀u∈news,u.oneCell'=true)
  (hroom:n+m<=cap) (hfit:off+n*i.size+news.length<=cur.size)
  (hK:K (a.put o.dst (.slice (some ⟨b,off,none⟩) (n+m) cap)) (w.setRow b (cur.toList.take (off+n*i.size)++news++cur.toList.drop (off+n*i.size+news.length)).toArray)) :
  if Region.wanted o (yielded ops a.tmps)=true then Oper.wp P o a w K Q else E:=by
 have hw:Region.wanted o (yielded ops a.tmps)=true:=by simp[Region.wanted,hg]
 rw[if_pos hw];have hrun:=k1c (P:=P) t o.type e et i h1 h2 w b off n cap cur hcur ad m c news hn hc h1c hroom hfit;unfold Oper.wp;simp only[aS]at hrun hK;simp[execOp,hop,resolve,invoke,builtin,hs,hx,hrun,Result.andThen,Oper.upon];exact hK
set_option maxHeartbeats 4000000 in
set_option maxRecDepth 1000000 in
theorem Tryz.del42:Go.Abs.DelN Tryz.prog 42 2 where
 fn:=⟨Tryz.f42,Tryz.func42,by kernel_rfl,by kernel_rfl⟩
 run b off n cap i j cur ty w hh hfit hm hn hij hj hone:=by
  obtain⟨ii,zv,hi,hsz,hz,hzs,hz1⟩:∃ii zv,Tryz.prog.info? 61=some ii/\ii.size=2/\ii.zero=some zv/\zv.cells.size=2/\(zv.cells.toList.all λu=>u.oneCell')=true :=
   ⟨(Tryz.prog.info? 61).get (by kernel_rfl),((Tryz.prog.info? 61).get (by kernel_rfl)).zero.get (by kernel_rfl),(Option.some_get _).symm,by kernel_rfl,(Option.some_get _).symm,by kernel_rfl,by kernel_rfl⟩
  have t40:Tryz.prog.underlying 40=some (.slice 61):=by kernel_rfl
  obtain⟨news,hnews⟩:∃news,news=(cur.toList.drop (off+j*2)).take ((n-j)*2):=⟨_,rfl⟩;have hlen:news.length=(n-j)*2:=by rw[hnews,aY,bR,bj];omega
  have hget:∀t,t<(n-j)*2->news[t]? = cur[off+j*2+t]?:=λt ht=>by
   rw[hnews,dK,if_pos ht,aT,aE]
  have s2:Hid (∀u∈news,u.oneCell'=true):=λu hu=>by
   rw[hnews]at hu;exact hone u (bY (bq hu))
  obtain⟨A,hA,hsrc⟩:∃A:Addr,(if cap=j then some (⟨b,off,none⟩:Addr)else some ⟨b,off+j*2,none⟩)=some A/\Hid (∀t u,news[t]? = some u->w.drew.cell? (A.add t)=some u):=by
   by_cases h:cap=j
   ·refine⟨⟨b,off,none⟩,by simp[h],λt u hu=>?_⟩;have h0:news.length=0:=by rw[hlen];omega
    rw[List.length_eq_zero_iff.1 h0]at hu;simp at hu
   ·refine⟨⟨b,off+j*2,none⟩,by simp[h],λt u hu=>?_⟩;have ht:t<(n-j)*2:=by
     have:=(ag.1 hu).1
     rwa [hlen]at this
    rw[hget t ht]at hu;rw[Addr.add_lit];simp only[World.cell?];rw[show w.drew.heap[b]? = _ from hh];exact hu
  have s1:Hid (news.length=(n-j)*ii.size):=by rw[hsz];exact hlen
  obtain⟨cur1,hcur1⟩:∃c:Array Value,c=(cur.toList.take (off+i*2)++news++cur.toList.drop (off+i*2+(n-j)*2)).toArray:=⟨_,rfl⟩;have hc1s:cur1.size=cur.size:=by
   rw[hcur1];simp[hlen];omega
  have hc1o:∀u∈cur1.toList,u.oneCell'=true:=λu hu=>by
   rw[hcur1]at hu;simp only[aS,aQ]at hu;rcases hu with hu | hu | hu
   ·exact hone u (bq hu)
   ·exact s2 u hu
   ·exact hone u (bY hu)
  have hc1g:∀q,q<i*2->cur1[off+q]? = cur[off+q]?:=λq hq=>by
   rw[hcur1,cx,aS,aH (by simp;omega),dK,if_pos (by omega),aE]
  have hc1h:∀q,i*2<=q->q<(n-(j-i))*2->cur1[off+q]? = cur[off+(q+(j-i)*2)]?:=λq hq hq2=>by
   have hl1:(cur.toList.take (off+i*2)).length=off+i*2:=by rw[aY,bj];omega
   rw[hcur1,cx,aS,aP (by rw[hl1];omega),hl1,aH (by rw[hlen];omega),hget _ (by omega)];congr 1;omega
  obtain⟨W1,hW1⟩:∃W1,W1=w.drew.setRow b cur1:=⟨_,rfl⟩;have hW1h:W1.heap[b]? = some (.cells cur1 ty (0,0)):=by rw[hW1];exact setRow_heap _ _ cur _ _ _ hh
  obtain⟨cur2,hcur2⟩:∃c:Array Value,c=(Abs.splice cur1.toList (off+(i+(n-j))*2) (Builtin.zeroCells zv.cells (n-(i+(n-j)))).toList).toArray:=⟨_,rfl⟩;have hzl:(Builtin.zeroCells zv.cells (n-(i+(n-j)))).toList.length=(n-(i+(n-j)))*2:=by simp[Builtin.zeroCells,hzs]
  have hc2s:cur2.size=cur.size:=by
   rw[hcur2,dm,Abs.splice_length _ _ _ (by rw[hzl,bj];omega),bj,hc1s]
  have hc2o:∀u∈cur2.toList,u.oneCell'=true:=λu hu=>by
   rw[hcur2]at hu;simp only[Abs.splice,aS,aQ]at hu;rcases hu with hu | hu | hu
   ·exact hc1o u (bq hu)
   ·simp only[Builtin.zeroCells,eK,aW]at hu;obtain⟨q,_,rfl⟩:=hu;have hm0:q % zv.cells.size<zv.cells.size:=dH _ (by omega);rw[getElem!_pos zv.cells _ hm0];exact aG.1 hz1 _ (by rw[<-Array.mem_def];exact Array.getElem_mem hm0)
   ·exact hc1o u (bY hu)
  have hc2g:∀q,q<(n-(j-i))*2->cur2[off+q]? = cur1[off+q]?:=λq hq=>by
   rw[hcur2,cx,Abs.splice,aS,aH (by rw[aY,bj];omega),dK,if_pos (by omega),aE]
  have hcl:∀ty',(Builtin.clear_ #[40] ty' #[.slice (some ⟨b,off+(i+(n-j))*2,none⟩) (n-(i+(n-j))) (cap-(i+(n-j)))]).run Tryz.prog W1=.ok (.tuple #[]) (W1.setRow b cur2):=λty'=>by
   rw[hcur2];exact Abs.run_clear_row t40 hi hz hW1h (by omega) (by rw[hzs];omega) (λu hu=>aG.1 hz1 u hu) (by omega)
  have hw1:Hid (W1=w.drew.setRow b cur1):=hW1;have hcc:Hid (cur1=(cur.toList.take (off+i*ii.size)++news++cur.toList.drop (off+i*ii.size+news.length)).toArray):=by rw[hsz,hlen];exact hcur1
  have hW1h':Hid (W1.heap[b]? = some (.cells cur1 ty (0,0))):=hW1h;clear hW1 hcur1 hcur2 hW1h hnews hget hlen hz hz1 hzs hzl;have mixed:Tryz.prog.follows Departure.mixedOrders=true:=by kernel_rfl
  have hic:i<=cap:=by omega
  have hjc:j<=cap:=by omega
  have hhh:Hid (w.heap[b]? = some (.cells cur ty (0,0))):=hh;have fs:off+i*ii.size+news.length<=cur.size:=by rw[s1.out,hsz];omega
  go_enter Tryz.func42,Tryz.ntmps42
  go_wp2_with fail
  go_region_law_o (refine k3v rfl (.tmp 22) (.tmp 25) 40 rfl 61 ii t40 hi b off i cap (by simp[Act.eval,Act.put]) cur ty hhh.out A (n-j) (cap-j) news (by simp[Act.eval,Act.put]) s1.out hsrc.out s2.out (by omega) fs ?_;rw[<-hcc.out,<-hw1.out])
  go_wp2
  go_ret
  refine⟨by rw[show n-(j-i)=i+(n-j)by omega];rfl,?_,?_,λb' hb'=>?_,cur2,?_,hc2s,hc2o,λq hq=>?_,λq hq hq2=>?_⟩
  ·refine q0y _ ?_ (ax _);rw[hw1.out];exact q0y _ ⟨rfl,rfl,rfl,ax _,λ_ _=>rfl,Nat.le_succ _⟩ (ax _)
  ·rw[hw1.out];simp only[World.setRow,Array.size_modify];rfl
  ·rw[setRow_other _ _ _ _ hb',hw1.out,setRow_other _ _ _ _ hb'];rfl
  ·exact setRow_heap _ _ _ _ _ _ hW1h'.out
  ·rw[hc2g q (by omega),hc1g q hq]
  ·rw[hc2g q hq2,hc1h q hq hq2]
end Go.Proofs
