/- The engine, part 11 d: 'clear' on a part of an array of the call's own. -/
import Derived.Test.YtppblbacbmebfaaGreatDoorAbsSound12
import Derived.Test.YtppblbacbmebfaaGreatDoorAbsSound10
namespace Go.Abs
open Go Go.RowKit
variable {P:Program} {L:Nat->Prop} {w0:World}
theorem v3m {T e:TypeId} {i:TypeInfo} {zv:Value} (ht:P.underlying T=some (.slice e)) (hi:P.info? e=some i) (hz:i.zero=some zv) {w:World} {b o n c:Nat} {cur:Array Value} {et:TypeId} {ty:TypeId}
  (hh:w.heap[b]? = some (.cells cur et (0,0))) (hn:n≠0) (hle:o+n*zv.cells.size<=cur.size) (h1:∀ u∈zv.cells.toList,u.oneCell'=true) (hp:0<zv.cells.size) :
  (Builtin.clear_ #[T] ty #[.slice (some ⟨b,o,none⟩) n c]).run P w=.ok (.tuple #[]) (w.setRow b (C9 cur.toList o (Builtin.zeroCells zv.cells n).toList).toArray):=by
 have hzs:(Builtin.zeroCells zv.cells n).size=n*zv.cells.size:=by simp[Builtin.zeroCells]
 have hst:=run_storeCells_at (P:=P) b o et (Builtin.zeroCells zv.cells n).toList 0 cur w hh (by simpa[hzs]using hle) (fun u hu=>by
  obtain⟨j,hj⟩:=List.getElem?_of_mem hu
  have hjl:j<n*zv.cells.size:=by
   have:=(List.getElem?_eq_some_iff.1 hj).1
   rw[Array.length_toList,hzs]at this;exact this
  have hm:j % zv.cells.size<zv.cells.size:=Nat.mod_lt _ hp
  rw[Array.getElem?_toList]at hj
  simp only[Builtin.zeroCells,Array.getElem?_map,Array.getElem?_range,hjl,if_true,Option.map_some,Option.some.injEq]at hj
  subst hj
  rw[getElem!_pos zv.cells _ hm]
  exact h1 _ (by rw[<-Array.mem_def];exact Array.getElem_mem hm))
 unfold Builtin.clear_
 cases n with
 | zero=>exact absurd rfl hn
 | succ n =>
  have hst2:(storeCells ⟨b,o,none⟩ (Builtin.zeroCells zv.cells (n+1)).toList).run P w=.ok () (w.setRow b (C9 cur.toList o (Builtin.zeroCells zv.cells (n+1)).toList).toArray):=by simpa[C9]using hst
  simp[run_underlying ht,zeroValue,typeInfo,hi,hz]
  rw[hst2]
  rfl
theorem v3l {T e:TypeId} {ty:TypeId} (ht:P.underlying T=some (.slice e)) (w:World) (p:Option Addr) (c:Nat):(Builtin.clear_ #[T] ty #[.slice p 0 c]).run P w=.ok (.tuple #[]) w:=by
 unfold Builtin.clear_
 cases p<;>simp[run_underlying ht]
theorem v4f {o:Oper} {T e:TypeId} {m:Operand} {ti te:TInfo} (hti:ti.OK P T) (hel:ti.elem=some e) (hte:te.OK P e) (ho:o.op=.call { callee:=.builtin .clear,args:=#[m],argTypes:=#[T] }) {ρs:Env} {hs:Heap}
  {id off len:Nat} {l:List te.ty.den} (hm:ev ρs m=.one (.sub id off len)) (hid:hs id=.arr e te.ty l) {z:te.ty.den} (hz:D2 hs te.ty te.zeros=some (z,[])) (hpos:1<=te.size) (hsz:te.ty.size=te.size) (hzo:F9 te.zeros=[]) :
  A6 P L w0 o ρs hs (upd hs id (.arr e te.ty (l.take off++List.replicate len z++l.drop (off+len)))) (.tup []):=by
 refine I4 (fun c hc=>by rw[ho]at hc;cases hc) fun κ a w hev ok=>?_
 obtain⟨i,zv,hi,hisz,hiby,hiz,hzs,hzl,hrep,hz1⟩:=hte.zero_one (L:=L)
 have hu:=q1d hti hel
 have hmv:=hev m
 rw[hm]at hmv
 have hmv1:=hmv.1
 rw[hid]at hmv1
 obtain⟨hle,hcase⟩:=hmv1
 have hrt:∀ (κ':A2) (h':Heap) (w':World),RepAV L κ' h' w' (.tup []) (.tuple #[]):=fun κ' h' w'=>⟨[],rfl,rfl,fun j c u hj=>by simp at hj⟩
 have hobj:=ok.obj id
 rw[hid]at hobj
 by_cases h0:len=0
 ·subst h0
  have hl:l.take off++List.replicate 0 z++l.drop (off+0)=l:=by simp
  rw[hl,q48 hs id _ hid]
  obtain⟨p,c,hv⟩:∃ p c,a.eval m=.slice p 0 c:=by
   rcases hcase with⟨_,hv⟩ | ⟨b,cap,q,_,hv,_⟩
   ·exact⟨_,_,hv⟩
   ·exact⟨_,_,hv⟩
  exact⟨κ,_,w,z8j ho (by rw[hv];exact v3l hu w p c),ok,hrt _ _ _,Ext.refl L κ hs w⟩
 ·rcases hcase with⟨hk0,hv⟩ | ⟨b,cap,q,hk,hv,hq⟩
  ·exfalso
   rcases hobj with⟨_,hl⟩ | ⟨b',cap',cur,hk',_⟩
   ·have:l.length=0:=by rw[hl];rfl
    omega
   ·rw[hk0]at hk';cases hk'
  have hq:=hq h0
  subst hq
  rcases hobj with⟨hk',_⟩ | ⟨b',cap',cur,hk',hheap,hcsz,hcm,hll,hone,hel'⟩
  ·rw[hk]at hk';cases hk'
  rw[hk]at hk';simp at hk';obtain⟨rfl,rfl⟩:=hk'
  have hlive:(hs id).live=true:=by rw[hid];rfl
  have hown:=ok.own id b cap hlive hk
  obtain⟨cap,o0⟩:=cap
  simp only at hcsz hcm hll hel' hv
  have hzn:(Builtin.zeroCells zv.cells len).toList.length=len*te.ty.size:=by simp[Builtin.zeroCells,hzs,hsz]
  have hfit:o0+off*te.ty.size+len*te.ty.size<=cur.toList.length:=by
   have:(off+len)*te.ty.size<=cap*te.ty.size:=Nat.mul_le_mul_right _ (by omega)
   rw[Nat.add_mul]at this
   rw[Array.length_toList];omega
  have hrun:=v3m (P:=P) (ty:=o.type) (c:=cap-off) hu hi hiz hheap h0 (o:=o0+off*te.ty.size) (by rw[hzs,<-hsz];simpa using hfit) hz1 (by rw[hzs];omega)
  obtain⟨-,-,hzr⟩:=U2 ok (Ext.refl _ _ _ _) te.ty te.zeros (fun j=>zv.cells[j]?) z [] (fun j s hj=>by
   have:=W3 (hrep κ hs w) hj;simpa using this) (fun id hm=>by rw[hzo]at hm;cases hm) hz
  have hlike:(hs id).like (.arr e te.ty (l.take off++List.replicate len z++l.drop (off+len))):=by
   rw[hid]
   refine⟨rfl,rfl,?_⟩
   simp only[List.length_append,List.length_take,List.length_replicate,List.length_drop]
   omega
  have hlen':(l.take off++List.replicate len z++l.drop (off+len)).length=l.length:=by
   simp only[List.length_append,List.length_take,List.length_replicate,List.length_drop]
   omega
  let w':=w.setRow b (C9 cur.toList (o0+off*te.ty.size) (Builtin.zeroCells zv.cells len).toList).toArray
  have hsize:w'.heap.size=w.heap.size:=by simp[w']
  have hoth:∀ b',b'≠b->w'.heap[b']? = w.heap[b']?:=fun b' hne=>setRow_other w b b' _ hne
  have extW:=P3 (L:=L) (κ:=κ) (h:=hs) hk hlike (.inl (.inl ⟨_,_,_,hheap⟩)) hsize hoth
  have hheap':w'.heap[b]? = some (.cells (C9 cur.toList (o0+off*te.ty.size) (Builtin.zeroCells zv.cells len).toList).toArray e (0,0)):=setRow_heap w b _ _ e (0,0) hheap
  have hget:∀ p:Nat,(C9 cur.toList (o0+off*te.ty.size) (Builtin.zeroCells zv.cells len).toList)[p]? = if p<o0+off*te.ty.size then cur.toList[p]? else if p<o0+off*te.ty.size+len*te.ty.size then(Builtin.zeroCells zv.cells len).toList[p-(o0+off*te.ty.size)]? else cur.toList[p]?:=fun p=>by
   rw[q0w _ _ _ (by rw[hzn];exact hfit),hzn]
  have hzc:∀ p,p<len*te.ty.size->(Builtin.zeroCells zv.cells len).toList[p]? = zv.cells[p % te.ty.size]?:=fun p hp=>by
   have hm':p % zv.cells.size<zv.cells.size:=Nat.mod_lt _ (by rw[hzs];omega)
   have hp':p<len*zv.cells.size:=by rw[hzs,<-hsz];exact hp
   simp only[Builtin.zeroCells,Array.getElem?_toList,Array.getElem?_map,Array.getElem?_range,hp',if_true,Option.map_some]
   rw[getElem!_pos zv.cells _ hm',<-Array.getElem?_eq_getElem hm',hzs,hsz]
  refine⟨κ,.tuple #[],w',z8j ho (by rw[hv];exact hrun),Q4 ok hk hlike hsize hoth (X0 _ ok.below hown.1) ?_,hrt _ _ _,extW⟩
  refine q0r hk hheap' ?_ hcm (by rw[hlen'];exact hll) (fun u hu=>?_) (fun j y hy=>?_)
  ·rw[q21 _ _ _ (by rw[hzn];exact hfit),Array.length_toList];exact hcsz
  ·obtain⟨p,hp⟩:=List.getElem?_of_mem hu
   rw[hget]at hp
   split at hp
   ·exact hone u (List.mem_of_getElem? hp)
   ·split at hp
    ·rw[hzc _ (by omega)]at hp
     exact hz1 u (List.mem_of_getElem? (by rw[Array.getElem?_toList];exact hp))
    ·exact hone u (List.mem_of_getElem? hp)
  ·have hjl:j<l.length:=by rw[<-hlen'];exact(List.getElem?_eq_some_iff.1 hy).1
   by_cases hin:off<=j/\j<off+len
   ·have hyz:y=z:=by
     rw[List.getElem?_append_left (by simp only[List.length_append,List.length_take,List.length_replicate];omega),List.getElem?_append_right (by rw[List.length_take];omega),List.length_take,List.getElem?_replicate,if_pos (by omega)]at hy
     exact(Option.some.inj hy).symm
    subst hyz
    refine RepAt.congr te.ty _ _ y (fun c hc=>?_) (RepAt.ext extW hzr)
    have hjo:j=off+(j-off):=by omega
    have h3:j*te.ty.size=off*te.ty.size+(j-off)*te.ty.size:=by rw[<-Nat.add_mul,<-hjo]
    have h4:(j-off+1)*te.ty.size<=len*te.ty.size:=Nat.mul_le_mul_right _ (by omega)
    rw[Nat.succ_mul]at h4
    simp only[hc,if_true,List.getElem?_drop]
    rw[hget,if_neg (by omega),if_pos (by omega),hzc _ (by omega)]
    congr 1
    rw[show o0+(j*te.ty.size+c)-(o0+off*te.ty.size)=(j-off)*te.ty.size+c by omega,Nat.mul_comm,Nat.mul_add_mod,Nat.mod_eq_of_lt hc]
   ·have hy':l[j]? = some y:=by
     by_cases hj1:j<off
     ·rw[List.append_assoc,List.getElem?_append_left (by rw[List.length_take];omega),List.getElem?_take_of_lt hj1]at hy
      exact hy
     ·rw[List.getElem?_append_right (by simp only[List.length_append,List.length_take,List.length_replicate];omega),List.getElem?_drop]at hy
      simp only[List.length_append,List.length_take,List.length_replicate]at hy
      rw[<-hy];congr 1;omega
    refine RepAt.congr te.ty _ _ y (fun c hc=>?_) (RepAt.mono extW.free te.ty _ _ (hel' j y hy'))
    have h5:j<off->(j+1)*te.ty.size<=off*te.ty.size:=fun h=>Nat.mul_le_mul_right _ h
    have h6:off+len<=j->(off+len)*te.ty.size<=j*te.ty.size:=fun h=>Nat.mul_le_mul_right _ h
    rw[Nat.succ_mul]at h5
    rw[Nat.add_mul]at h6
    simp only[hc,if_true,List.getElem?_drop]
    rw[hget,<-Nat.add_assoc]
    by_cases hj1:j<off
    ·rw[if_pos (by have:=h5 hj1;omega),Array.getElem?_toList]
    ·have:=h6 (by omega)
     rw[if_neg (by omega),if_neg (by omega),Array.getElem?_toList]
end Go.Abs
