/- The engine, part 11 d: 'clear' on a part of an array of the call's own. -/
import Derived.Test.YtecofmaegcibeaaGreatDoorAbsSound12
import Derived.Test.YtecofmaegcibeaaGreatDoorAbsSound10
namespace Go.Abs
open Go Go.RowKit
variable {P:Program} {L:Nat->Prop} {w0:World}
variable {T:TypeId} {e:TypeId}
theorem run_clear_row {i:TypeInfo} {zv:Value} (ht:P.underlying T=some (.slice e)) (hi:P.info? e=some i) (hz:i.zero=some zv) {w:World} {b o n c:Nat} {cur:Array Value} {et:TypeId} {ty:TypeId} (hh:w.heap[b]? = some (.cells cur et (0,0))) (hn:n≠0) (hle:o+n*zv.cells.size<=cur.size) (h1:∀u∈zv.cells.toList,u.oneCell'=true) (hp:0<zv.cells.size) :
  (Builtin.clear_ #[T] ty #[.slice (some ⟨b,o,none⟩) n c]).run P w=.ok (.tuple #[]) (w.setRow b (splice cur.toList o (Builtin.zeroCells zv.cells n).toList).toArray):=by
 have hzs:(Builtin.zeroCells zv.cells n).size=n*zv.cells.size:=by simp[Builtin.zeroCells]
 have hst:=run_storeCells_at (P:=P) b o et (Builtin.zeroCells zv.cells n).toList 0 cur w hh (by simpa[hzs]using hle) (λu hu=>by
  obtain⟨j,hj⟩:=bf hu;have hjl:j<n*zv.cells.size:=by
   have:=(ag.1 hj).1;rw[bj,hzs]at this;exact this
  have hm:j % zv.cells.size<zv.cells.size:=dH _ hp;rw[aE]at hj;simp only[Builtin.zeroCells,ey,ej,hjl,if_true,bu,aN]at hj;subst hj;rw[getElem!_pos zv.cells _ hm];exact h1 _ (by rw[<-Array.mem_def];exact Array.getElem_mem hm))
 unfold Builtin.clear_;cases n with
 | zero=>exact absurd rfl hn
 | succ n =>
  have hst2:(storeCells ⟨b,o,none⟩ (Builtin.zeroCells zv.cells (n+1)).toList).run P w=.ok () (w.setRow b (splice cur.toList o (Builtin.zeroCells zv.cells (n+1)).toList).toArray):=by simpa[splice]using hst
  simp[run_underlying ht,zeroValue,typeInfo,hi,hz];rw[hst2];rfl
theorem k1d {ty:TypeId} (ht:P.underlying T=some (.slice e)) (w:World) (p:Option Addr) (c:Nat):(Builtin.clear_ #[T] ty #[.slice p 0 c]).run P w=.ok (.tuple #[]) w:=by
 unfold Builtin.clear_;cases p<;>simp[run_underlying ht]
theorem k1w {o:Oper} {m:Operand} {ti te:TInfo} (hti:ti.OK P T) (hel:ti.elem=some e) (hte:te.OK P e) (ho:o.op=.call { callee:=.builtin .clear,args:=#[m],argTypes:=#[T] }) {ρs:Env} {hs:Heap} {id off len:Nat} {l:List te.ty.den} (hm:ev ρs m=.one (.sub id off len)) (hid:hs id=.arr e te.ty l) {z:te.ty.den} (hz:F0 hs te.ty te.zeros=some (z,[])) (hpos:1<=te.size) (hsz:te.ty.size=te.size) (hzo:G4 te.zeros=[]) :
  A9 P L w0 o ρs hs (upd hs id (.arr e te.ty (l.take off++List.replicate len z++l.drop (off+len)))) (.tup []):=by
 refine M7 (λc hc=>by rw[ho]at hc;cases hc) λκ a w hev ok=>?_;obtain⟨i,zv,hi,hisz,hiby,hiz,hzs,hzl,hrep,hz1⟩:=hte.zero_one (L:=L);have hu:=q38 hti hel;have hmv:=hev m;rw[hm]at hmv;have hmv1:=hmv.1;rw[hid]at hmv1;obtain⟨hle,hcase⟩:=hmv1;have hrt:∀(κ':A6) (h':Heap) (w':World),RepAV L κ' h' w' (.tup []) (.tuple #[]):=λκ' h' w'=>⟨[],rfl,rfl,λj c u hj=>by simp at hj⟩;have hobj:=ok.obj id;rw[hid]at hobj;by_cases h0:len=0
 ·subst h0;have hl:l.take off++List.replicate 0 z++l.drop (off+0)=l:=by simp
  rw[hl,q5p hs id _ hid];obtain⟨p,c,hv⟩:∃p c,a.eval m=.slice p 0 c:=by
   rcases hcase with⟨_,hv⟩ | ⟨b,cap,q,_,hv,_⟩
   ·exact⟨_,_,hv⟩
   ·exact⟨_,_,hv⟩
  exact⟨κ,_,w,j9b ho (by rw[hv];exact k1d hu w p c),ok,hrt _ _ _,Ext.refl L κ hs w⟩
 ·rcases hcase with⟨hk0,hv⟩ | ⟨b,cap,q,hk,hv,hq⟩
  ·exfalso;rcases hobj with⟨_,hl⟩ | ⟨b',cap',cur,hk',_⟩
   ·have:l.length=0:=by rw[hl];rfl
    omega
   ·rw[hk0]at hk';cases hk'
  rcases hobj with⟨hk',_⟩ | ⟨b',cap',cur,hk',hheap,hcsz,hcm,hll,hone,hel'⟩
  ·rw[hk]at hk';cases hk'
  rw[hk]at hk';simp at hk';obtain⟨rfl,rfl⟩:=hk';have hq:=hq.resolve_right (by omega);subst hq;have hlive:(hs id).live=true:=by rw[hid];rfl
  have hown:=ok.own id b cap hlive hk;obtain⟨cap,o0⟩:=cap;simp only at hcsz hcm hll hel' hv;have hzn:(Builtin.zeroCells zv.cells len).toList.length=len*te.ty.size:=by simp[Builtin.zeroCells,hzs,hsz]
  have hfit:o0+off*te.ty.size+len*te.ty.size<=cur.toList.length:=by
   have:(off+len)*te.ty.size<=cap*te.ty.size:=aJ _ (by omega);rw[bH]at this;rw[bj];omega
  have hrun:=run_clear_row (P:=P) (ty:=o.type) (c:=cap-off) hu hi hiz hheap h0 (o:=o0+off*te.ty.size) (by rw[hzs,<-hsz];simpa using hfit) hz1 (by rw[hzs];omega);obtain⟨-,-,hzr⟩:=q1x ok (Ext.refl _ _ _ _) te.ty te.zeros (λj=>zv.cells[j]?) z [] (λj s hj=>by
   have:=q1o (hrep κ hs w) hj;simpa using this) (λid hm=>by rw[hzo]at hm;cases hm) hz
  have hlike:(hs id).like (.arr e te.ty (l.take off++List.replicate len z++l.drop (off+len))):=by
   rw[hid];refine⟨rfl,rfl,?_⟩;simp only[aK,aY,ch,bR];omega
  have hlen':(l.take off++List.replicate len z++l.drop (off+len)).length=l.length:=by
   simp only[aK,aY,ch,bR];omega
  let w':=w.setRow b (splice cur.toList (o0+off*te.ty.size) (Builtin.zeroCells zv.cells len).toList).toArray
  have hsize:w'.heap.size=w.heap.size:=by simp[w']
  have hoth:∀b',b'≠b->w'.heap[b']? = w.heap[b']?:=λb' hne=>setRow_other w b b' _ hne;have extW:=U9 (L:=L) (κ:=κ) (h:=hs) hk hlike (.inl (.inl ⟨_,_,_,hheap⟩)) hsize hoth;have hheap':w'.heap[b]? = some (.cells (splice cur.toList (o0+off*te.ty.size) (Builtin.zeroCells zv.cells len).toList).toArray e (0,0)):=setRow_heap w b _ _ e (0,0) hheap;have hget:∀p:Nat,(splice cur.toList (o0+off*te.ty.size) (Builtin.zeroCells zv.cells len).toList)[p]? = if p<o0+off*te.ty.size then cur.toList[p]? else if p<o0+off*te.ty.size+len*te.ty.size then(Builtin.zeroCells zv.cells len).toList[p-(o0+off*te.ty.size)]? else cur.toList[p]?:=λp=>by
   rw[q5h _ _ _ (by rw[hzn];exact hfit),hzn]
  have hzc:∀p,p<len*te.ty.size->(Builtin.zeroCells zv.cells len).toList[p]? = zv.cells[p % te.ty.size]?:=λp hp=>by
   have hm':p % zv.cells.size<zv.cells.size:=dH _ (by rw[hzs];omega);have hp':p<len*zv.cells.size:=by rw[hzs,<-hsz];exact hp
   simp only[Builtin.zeroCells,aE,ey,ej,hp',if_true,bu];rw[getElem!_pos zv.cells _ hm',<-bh hm',hzs,hsz]
  refine⟨κ,.tuple #[],w',j9b ho (by rw[hv];exact hrun),X4 ok hk hlike hsize hoth (q0y _ ok.below hown.1) ?_,hrt _ _ _,extW⟩;refine q2m hk hheap' ?_ hcm (by rw[hlen'];exact hll) (λu hu=>?_) (λj y hy=>?_)
  ·rw[splice_length _ _ _ (by rw[hzn];exact hfit),bj];exact hcsz
  ·obtain⟨p,hp⟩:=bf hu;rw[hget]at hp;split at hp
   ·exact hone u (bk hp)
   ·split at hp
    ·rw[hzc _ (by omega)]at hp;exact hz1 u (bk (by rw[aE];exact hp))
    ·exact hone u (bk hp)
  ·have hjl:j<l.length:=by rw[<-hlen'];exact(ag.1 hy).1
   by_cases hin:off<=j/\j<off+len
   ·have hyz:y=z:=by
     rw[aH (by simp only[aK,aY,ch];omega),aP (by rw[aY];omega),aY,dO,if_pos (by omega)]at hy;exact(bI hy).symm
    subst hyz;refine RepAt.congr te.ty _ _ y (λc hc=>?_) (RepAt.ext extW hzr);have hjo:j=off+(j-off):=by omega
    have h3:j*te.ty.size=off*te.ty.size+(j-off)*te.ty.size:=by rw[<-bH,<-hjo]
    have h4:(j-off+1)*te.ty.size<=len*te.ty.size:=aJ _ (by omega);rw[cP]at h4;simp only[hc,if_true,aT];rw[hget,if_neg (by omega),if_pos (by omega),hzc _ (by omega)];congr 1;rw[show o0+(j*te.ty.size+c)-(o0+off*te.ty.size)=(j-off)*te.ty.size+c by omega,bG,dd,bN hc]
   ·have hy':l[j]? = some y:=by
     by_cases hj1:j<off
     ·rw[aS,aH (by rw[aY];omega),aV hj1]at hy;exact hy
     ·rw[aP (by simp only[aK,aY,ch];omega),aT]at hy;simp only[aK,aY,ch]at hy;rw[<-hy];congr 1;omega
    refine RepAt.congr te.ty _ _ y (λc hc=>?_) (RepAt.mono extW.free te.ty _ _ (hel' j y hy'));have h5:j<off->(j+1)*te.ty.size<=off*te.ty.size:=λh=>aJ _ h;have h6:off+len<=j->(off+len)*te.ty.size<=j*te.ty.size:=λh=>aJ _ h;rw[cP]at h5;rw[bH]at h6;simp only[hc,if_true,aT];rw[hget,<-bT];by_cases hj1:j<off
    ·rw[if_pos (by have:=h5 hj1;omega),aE]
    ·have:=h6 (by omega);rw[if_neg (by omega),if_neg (by omega),aE]
end Go.Abs
