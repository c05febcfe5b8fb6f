/- The engine, part 11 b: slices.SortFunc on an array of the call's own, elements of one cell. -/
import Derived.Test.YteeaadgpkammdaaGreatDoorAbsFun
import Derived.Test.YteeaadgpkammdaaGreatDoorAbsSortP
import Derived.Sort.Statements
import Derived.Sort.Row
import Derived.Sort.Grow
import Derived.Deep.Draws
namespace Go.Abs
open Go Go.RowKit Go.Sort
variable {P:Program} {L:Nat->Prop} {w0:World}
def J4 {α:Type} [Inhabited α] (enc:α->Value) (w:World) (blk off m:Nat) (dk:Array α) (os:Array Obj):World:=grow (putRow enc (Sort.ahead w m) blk off dk) os
def ltC {α:Type} (cf:α->α->Int) (x y:α):Bool:=decide (cf x y<0)
def j1g {α:Type} [Inhabited α] (P:Program) (g:Nat) (cb:Array Value) (enc:α->Value) (cf:α->α->Int) (blk off size:Nat) (w:World):Prop :=
 ∀ (m:Nat) (os:Array Obj) (dk:Array α),dk.size=size->∀ x y:α,
  Calls P g (#[enc x,enc y]++cb) (J4 enc w blk off m dk os) fun e w'=>e=.returned (.int .i64 (cf x y))/\∃ q os',w'=grow ((J4 enc w blk off m dk os).drewN q) os'
structure Sort1 (P:Program) (F:FuncId):Prop where
 fn:∃ fn,P.funcs[F]? = some fn/\fn.body.isSome=true/\(fn.name== "runtime.NumGoroutine")=false
 none:∀ (p:Option Addr) (cap:Nat) (fv:Value) (w:World),Calls P F #[.slice p 0 cap,fv] w fun e w'=>e=.returned (.tuple #[])/\w'=w
 sort:∀ {α:Type} [Inhabited α] (enc:α->Value),(∀ x,(enc x).oneCell'=true)->∀ (cf:α->α->Int),SWO (ltC cf)->∀ (g:Nat) (cb:Array Value) (blk off cap:Nat) (d:Array α) (w:World),
  (∀ args w,(callFunc g args).run P w=.ok (.enter g args) w)->j1g P g cb enc cf blk off d.size w->Holds enc w blk off d->blk<w.heap.size->d.size<4611686018427387904 ->
  Calls P F #[.slice (some ⟨blk,off,Option.none⟩) d.size cap,.func (.func g) #[] cb] w fun e w'=>e=.returned (.tuple #[])/\∃ d' n os,PermIn 0 d.size d d'/\SortedIn (ltC cf) 0 d.size d'/\w'=J4 enc w blk off n d' os
theorem j2c {w w':World} (h:Below w.heap.size w w'):∃ q os,w'=grow (w.drewN q) os:=by
 refine⟨w'.drawn-w.drawn,w'.heap.extract w.heap.size w'.heap.size,?_⟩
 have hd:=h.drawn
 have hs:=h.size
 have hh:w'.heap=w.heap++w'.heap.extract w.heap.size w'.heap.size:=by
  apply Array.ext_getElem?
  intro i
  by_cases hi:i<w.heap.size
  ·rw[Array.getElem?_append_left hi,h.block i hi]
  ·rw[Array.getElem?_append_right (by omega)]
   rw[Array.getElem?_extract]
   by_cases hi2:i<w'.heap.size
   ·rw[if_pos (by omega)];congr 1;omega
   ·rw[Array.getElem?_eq_none (by omega),if_neg (by omega)]
 cases w' with
 | mk heap tape drawn os output =>
  have e1:=h.os;have e2:=h.tape;have e3:=h.output
  simp only at e1 e2 e3 hd hh hs
  unfold grow World.drewN
  simp only[World.mk.injEq]
  exact⟨hh,e2,by omega,e1,e3⟩
theorem j3f {g:FuncId} (h:∃ fn,P.funcs[g]? = some fn/\fn.body.isSome=true/\(fn.name== "runtime.NumGoroutine")=false) (args:Array Value) (w:World):(callFunc g args).run P w=.ok (.enter g args) w:=by
 obtain⟨fn,hf,hb,hn⟩:=h
 simp[callFunc,hf,Option.isNone_iff_eq_none]
 cases hbb:fn.body with
 | none=>rw[hbb]at hb;cases hb
 | some c=>simpa using hn
theorem q47 {R:Type} {b:Bool} {K:Option R} {z:R} (he:cond b K none=some z):b=true/\K=some z:=by
 cases b with
 | true=>exact⟨rfl,he⟩
 | false=>cases he
structure CmpIs (sp:Spec) (t:Ty) (f:t.den->t.den->Option Int):Prop where
 is:∀ x y v,f x y=some v->∃ X Y,sp.f X=some Y/\(∀ (w:World) (A:Nat->Prop) (v1 v2:Value),RepVal w A false t v1 x->RepVal w A false t v2 y->O3 w A sp.args [v1,v2] X) /\
  ∀ (L:Nat->Prop) (w w':World) (u:Value),R2 L w w' sp.res u Y->u=.int .i64 v
theorem z2n {α:Type} [Inhabited α] (enc:α->Value) (off:Nat) (d:Array α) (c:Array Value) (k:Nat):(putCells enc off d c)[k]? = if off<=k/\k<off+d.size then(c[k]?).map (fun _=>enc d[k-off]!)else c[k]?:=by
 unfold putCells
 rw[Array.getElem?_mapIdx]
 by_cases h:off<=k/\k<off+d.size
 ·simp only[h,if_true,and_self]
 ·rw[if_neg h]
  cases c[k]? with
  | none=>rfl
  | some v=>simp only[Option.map_some,if_neg h]
theorem j7f {α:Type} [Inhabited α] (enc:α->Value) (off:Nat) (d:Array α) (c:Array Value):(putCells enc off d c).size=c.size:=by
 unfold putCells;rw[Array.size_mapIdx]
theorem q5h {α:Type} [Inhabited α] (enc:α->Value) (w:World) (b off m:Nat) (d:Array α) (os:Array Obj) {cur:Array Value} {e:TypeId} {fr:Nat×Nat} (hb:w.heap[b]? = some (.cells cur e fr)) :
  (putRow enc (Sort.ahead w m) b off d).heap.size=w.heap.size/\(putRow enc (Sort.ahead w m) b off d).heap[b]? = some (.cells (putCells enc off d cur) e fr)/\(∀ b',b'≠b->(putRow enc (Sort.ahead w m) b off d).heap[b']? = w.heap[b']?) /\
  J4 enc w b off m d os=grow (putRow enc (Sort.ahead w m) b off d) os:=by
 refine⟨by simp[putRow,mapBlock,Sort.ahead],?_,fun b' hne=>?_,rfl⟩
 ·simp only[putRow,mapBlock,Sort.ahead,Array.getElem?_modify,if_true,hb,Option.map_some,onCells]
 ·simp only[putRow,mapBlock,Sort.ahead,Array.getElem?_modify]
  rw[if_neg (fun e=>hne e.symm)]
theorem v4a {o:Oper} {g s c:Operand} {Ts:Array TypeId} (ho:o.op=.call { callee:=.value g,args:=#[s,c],argTypes:=Ts }) {F:FuncId} (hS:Sort1 P F) {ρs:Env} {hs:Heap} (hg:ev ρs g=.one (.fn F []))
  {cg:FuncId} {sp:Spec} {gl:T2} (hsp:FunOK' P gl cg sp) (hgl:GlobOK gl w0) {id:Nat} {e:TypeId} {t:Ty} {l:List t.den} (hsv:ev ρs s=.one (.own id)) (hid:hs id=.arr e t l) (hc:ev ρs c=.one (.fn cg []))
  (ht1:t.size=1) {f:t.den->t.den->Option Int} (hf:CmpIs sp t f) {z:List t.den} (hz:O0 f l=some z) (hlen:l.length<4611686018427387904) :
  A8 P L w0 o ρs hs (upd hs id (.arr e t z)) (.tup []):=by
 obtain⟨hok,hperm,hsrt⟩:=j8n hz
 have hzl:z.length=l.length:=hperm.length_eq
 intro r κ a w henv ok m K' Q hK
 have hev:=O4 henv
 have hgv:=hev g
 rw[hg]at hgv
 obtain⟨cs,hgv,hcl,-⟩:=hgv
 have hcs:cs=[]:=List.eq_nil_of_length_eq_zero hcl
 subst hcs
 have hcv:=hev c
 rw[hc]at hcv
 obtain⟨cs,hcv,hcl,-⟩:=hcv
 have hcs:cs=[]:=List.eq_nil_of_length_eq_zero hcl
 subst hcs
 have hsv':=hev s
 rw[hsv]at hsv'
 have hsv1:=hsv'.1
 rw[hid]at hsv1
 obtain⟨fn,hf1,hf2,hf3⟩:=hS.fn
 have hrun:=q36 (P:=P) ho hgv hf1 hf2 hf3 w
 have harr:(#[]++#[s,c].map a.eval++([]:List Value).toArray)=#[a.eval s,.func (.func cg) #[] #[]]:=by
  simp[show a.eval c=.func (.func cg) #[] #[]from hcv]
 rw[harr]at hrun
 have hrep:∀ (κ':A3) (h':Heap) (w':World),RepAV L κ' h' w' (.tup []) (.tuple #[]):=fun κ' h' w'=>⟨[],rfl,rfl,fun j c u hj=>by simp at hj⟩
 by_cases hl0:l.length=0
 ·have hl:l=[]:=List.eq_nil_of_length_eq_zero hl0
  have hz0:z=[]:=List.eq_nil_of_length_eq_zero (by omega)
  subst hl;subst hz0
  obtain⟨p,cap,hv⟩:∃ p cap,a.eval s=.slice p 0 cap:=by
   rcases hsv1 with⟨-,-,hv⟩ | ⟨b,cap,-,hv⟩
   ·exact⟨_,_,hv⟩
   ·exact⟨_,_,hv⟩
  rw[hv]at hrun
  have hcall:=(callsIn_wide (n:=m-1)).2 (hS.none p cap (.func (.func cg) #[] #[]) w)
  refine q0q (fun c hc=>by rw[ho]at hc;cases hc) hrun hcall fun e' w' ⟨he,hw⟩=>⟨_,he,?_⟩
  subst hw
  rw[q5x hs id _ hid]at hK
  exact hK κ _ w' ok (hrep _ _ _) (Ext.refl L κ hs w')
 ·rcases hsv1 with⟨-,hnil,-⟩ | ⟨b,cap,hk,hv⟩
  ·subst hnil;exact absurd rfl hl0
  have hlive:(hs id).live=true:=by rw[hid];rfl
  have hobj:=ok.obj id
  rw[hid]at hobj
  rcases hobj with⟨hk',_⟩ | ⟨b',cap',cur,hk',hheap,hcsz,hcm,hll,hone,hel⟩
  ·rw[hk]at hk';cases hk'
  rw[hk]at hk';simp at hk';obtain⟨rfl,rfl⟩:=hk'
  have hown:=ok.own id b cap hlive hk
  obtain⟨cap,off⟩:=cap
  simp only at hcsz hcm hll hel hv
  have hcsz:off+cap<=cur.size:=by rw[ht1,Nat.mul_one]at hcsz;exact hcsz
  let α:=Fin l.length
  have:Inhabited α:=⟨⟨0,by omega⟩⟩
  let enc:α->Value:=fun i=>cur[off+i.1]!
  have henc:∀ i:α,cur[off+i.1]? = some (enc i):=fun i=>by
   have hi:off+i.1<cur.size:=by have:=i.2;omega
   show _=some cur[off+i.1]!
   rw[getElem!_pos cur (off+i.1) hi,Array.getElem?_eq_getElem hi]
  have h1:(∀ x,(enc x).oneCell'=true):=fun i=>hone _ (List.mem_of_getElem? (by rw[Array.getElem?_toList];exact henc i))
  have hval:∀ i:α,RepVal w (A4 L κ hs w) false t (enc i) l[i.1]:=fun i=>⟨ht1,h1 i,RepAt.congr t _ _ _ (fun c hc=>by
   have h0:c=0:=by omega
   subst h0
   simp only[F4,ht1,Nat.mul_one,Nat.add_zero,henc i]
   simp) (hel i.1 l[i.1] (List.getElem?_eq_getElem i.2))⟩
  let d:Array α:=Array.ofFn fun i=>i
  have hds:d.size=l.length:=Array.size_ofFn
  have hd:∀ j (h:j<l.length),d[j]! = (⟨j,h⟩:α):=fun j h=>by
   rw[getElem!_pos d j (by omega)]
   simp[d]
  let cf:α->α->Int:=fun i j=>(f l[i.1] l[j.1]).getD 0
  have hcf:∀ i j:α,f l[i.1] l[j.1]=some (cf i j):=fun i j=>by
   obtain⟨v,hv⟩:=hok.all _ (List.getElem_mem i.2) _ (List.getElem_mem j.2)
   simp only[cf,hv,Option.getD_some]
  have hlt:∀ i j:α,ltC cf i j=true↔ltF f l[i.1] l[j.1]:=fun i j=>by
   unfold ltC ltF
   rw[decide_eq_true_eq,hcf i j]
   constructor
   ·exact fun h=>⟨_,rfl,h⟩
   ·rintro ⟨v,h1,h2⟩;cases h1;exact h2
  have hmem:∀ i:α,l[i.1]∈l:=fun i=>List.getElem_mem i.2
  have hnlt:∀ i j:α,ltC cf i j=false↔¬ ltF f l[i.1] l[j.1]:=fun i j=>by rw[<-hlt,Bool.not_eq_true]
  have hO:SWO (ltC cf):=by
   refine⟨fun x=>(hnlt x x).2 (hok.irr _ (hmem x)),fun x y q h1 h2=>(hlt x q).2 (hok.trans _ (hmem x) _ (hmem y) _ (hmem q) ((hlt x y).1 h1) ((hlt y q).1 h2)),fun x y q h1 h2=>(hnlt x q).2 fun h=>?_⟩
   have n1:=(hnlt x y).1 h1
   have n2:=(hnlt y q).1 h2
   by_cases hyx:ltF f l[y.1] l[x.1]
   ·exact n2 (hok.trans _ (hmem y) _ (hmem x) _ (hmem q) hyx h)
   ·have he:=hok.tri _ (hmem x) _ (hmem y) n1 hyx
    rw[he]at h
    exact n2 h
  have hH:Holds enc w b off d:=fun j hj=>by
   have hj':j<l.length:=by omega
   rw[hd j hj']
   refine⟨?_,?_⟩
   ·unfold World.cell?
    rw[hheap]
    exact henc ⟨j,hj'⟩
   ·unfold World.frozen?
    rw[hheap]
    simp
  have hfreeW:∀ (m':Nat) (dk:Array α) (os:Array Obj) (b':Nat),b'≠b->b' < w.heap.size->(J4 enc w b off m' dk os).heap[b']? = w.heap[b']?:=fun m' dk os b' hne hlt'=>by
   obtain⟨q1,q2,q3,q4⟩:=q5h enc w b off m' dk os hheap
   rw[q4]
   show(_++os)[b']? = _
   rw[Array.getElem?_append_left (by omega),q3 b' hne]
  have hsizeW:∀ (m':Nat) (dk:Array α) (os:Array Obj),w.heap.size<=(J4 enc w b off m' dk os).heap.size:=fun m' dk os=>by
   obtain⟨q1,q2,q3,q4⟩:=q5h enc w b off m' dk os hheap
   rw[q4]
   show _<=(_++os).size
   rw[Array.size_append];omega
  have hbelW:∀ (m':Nat) (dk:Array α) (os:Array Obj),Below w0.heap.size w0 (J4 enc w b off m' dk os):=fun m' dk os =>
   ok.below.trans ⟨rfl,rfl,rfl,hsizeW m' dk os,fun k hk=>hfreeW m' dk os k (by omega) (by have:=ok.below.size;omega),Nat.le_add_right _ _⟩
  have hcmp:j1g P cg #[] enc cf b off d.size w:=fun m' os dk hdk x y=>by
   obtain⟨X,Y,hX,hargs,hres⟩:=hf.is _ _ _ (hcf x y)
   have hA:∀ b',A4 L κ hs w b'->(b' < (J4 enc w b off m' dk os).heap.size/\¬ (b' < (J4 enc w b off m' dk os).heap.size/\¬ A4 L κ hs w b'))/\(J4 enc w b off m' dk os).heap[b']? = w.heap[b']?:=fun b' hb'=>by
    have h3:=hsizeW m' dk os
    refine⟨⟨Nat.lt_of_lt_of_le hb'.1 h3,fun h=>h.2 hb'⟩,hfreeW m' dk os b' (fun e=>?_) hb'.1⟩
    subst e
    exact hb'.2.2 id (cap,off) hlive hk
   have hcl:=hsp.ok X Y hX (fun b'=>b' < (J4 enc w b off m' dk os).heap.size/\¬ A4 L κ hs w b') (J4 enc w b off m' dk os) [enc x,enc y] (hgl.below (hbelW m' dk os)) (fun b' h=>h.1)
    (hargs _ _ _ _ ((hval x).mono hA) ((hval y).mono hA)) 0
   refine((callsIn_wide (n:=0)).1 hcl).mono fun e' w' ⟨v,he,hbel,hrs⟩=>?_
   exact⟨by rw[he,hres _ _ _ _ hrs],j2c hbel⟩
  have hcall:=hS.sort enc h1 cf hO cg #[] b off cap d w (j3f hsp.fn) hcmp hH hown.2 (by omega)
  rw[hv]at hrun
  rw[hds]at hcall
  refine q0q (fun c hc=>by rw[ho]at hc;cases hc) hrun ((callsIn_wide (n:=m-1)).2 hcall) fun e' w' ⟨he,d',n,os,hp,hsd,hw⟩=>⟨_,he,?_⟩
  have hd's:d'.size=l.length:=by rw[hp.1,hds]
  have hpl:d'.toList.Perm d.toList:=by
   have:=hp.2.2
   have e1:d'.extract 0 l.length=d':=by rw[<-hd's];exact Array.extract_size
   have e2:d.extract 0 l.length=d:=by rw[<-hds];exact Array.extract_size
   rwa [e1,e2]at this
  have hdl:d.toList.map (fun i:α=>l[i.1])=l:=by
   apply List.ext_getElem?
   intro j
   rw[List.getElem?_map,Array.getElem?_toList]
   by_cases hj:j<l.length
   ·rw[Array.getElem?_eq_getElem (by omega),List.getElem?_eq_getElem hj]
    simp[d]
   ·rw[Array.getElem?_eq_none (by omega),List.getElem?_eq_none (by omega)];rfl
  have hzp:(d'.toList.map fun i:α=>l[i.1]).Perm l:=by
   have:=hpl.map (fun i:α=>l[i.1])
   rwa [hdl]at this
  have hzs:Srt f (d'.toList.map fun i:α=>l[i.1]):=by
   unfold Srt
   rw[List.pairwise_iff_getElem]
   intro i j hi hj hij
   rw[List.length_map,Array.length_toList]at hi hj
   have:=hsd i j (Nat.zero_le _) hij (by omega)
   rw[getElem!_pos d' i hi,getElem!_pos d' j hj]at this
   rw[List.getElem_map,List.getElem_map,Array.getElem_toList,Array.getElem_toList]
   exact(hnlt _ _).1 this
  have hzz:(d'.toList.map fun i:α=>l[i.1])=z:=z4z (hok.sub fun x hx=>hzp.mem_iff.1 hx) (hzp.trans hperm.symm) hzs hsrt
  obtain⟨q1,q2,q3,q4⟩:=q5h enc w b off n d' os hheap
  have hlike:(hs id).like (.arr e t z):=by
   rw[hid]
   exact⟨rfl,rfl,hzl⟩
  have extW:=R8 (L:=L) (κ:=κ) (h:=hs) hk hlike (.inl (.inl ⟨_,_,_,hheap⟩)) q1 q3
  have hbel2:Below w0.heap.size w0 (putRow enc (Sort.ahead w n) b off d') :=
   ok.below.trans ⟨rfl,rfl,rfl,by omega,fun k hk=>q3 k (by omega),Nat.le_add_right _ _⟩
  have hpg:∀ j,j<l.length->∀ hj:j<d'.size,(putCells enc off d' cur)[off+j]? = some (enc d'[j]):=fun j hj hj2=>by
   rw[z2n,if_pos ⟨by omega,by omega⟩,henc ⟨j,hj⟩,Option.map_some,Nat.add_sub_cancel_left,getElem!_pos d' j hj2]
  have ok2:=U3 ok hk hlike q1 q3 hbel2 (q0h (cs:=(putCells enc off d' cur).toList) hk (by rw[Array.toArray_toList];exact q2) (by rw[Array.length_toList,j7f,ht1,Nat.mul_one];exact hcsz) hcm (by rw[hzl];exact hll)
   (fun u hu=>by
    obtain⟨j,hj⟩:=List.getElem?_of_mem hu
    rw[Array.getElem?_toList,z2n]at hj
    split at hj
    ·rename_i hjd
     cases hq:cur[j]? with
     | none=>rw[hq]at hj;cases hj
     | some v0=>rw[hq]at hj;cases hj;exact h1 _
    ·exact hone u (List.mem_of_getElem? (by rw[Array.getElem?_toList];exact hj)))
   (fun j y hy=>by
    have hjl:j<l.length:=by rw[<-hzl];exact(List.getElem?_eq_some_iff.1 hy).1
    have hjd:j<d'.size:=by omega
    have hy2:y=l[(d'[j]).1]:=by
     rw[<-hzz,List.getElem?_map,Array.getElem?_toList,Array.getElem?_eq_getElem hjd]at hy
     simpa using hy.symm
    subst hy2
    refine RepAt.congr t _ _ _ (fun c hc=>?_) (RepAt.mono extW.free t _ _ (hval d'[j]).2.2)
    have h0:c=0:=by omega
    subst h0
    simp only[F4,ht1,Nat.mul_one,Nat.add_zero,List.getElem?_drop,Array.getElem?_toList,hpg j hjl hjd]
    simp))
  have hbelG:Below (putRow enc (Sort.ahead w n) b off d').heap.size (putRow enc (Sort.ahead w n) b off d') w':=by
   rw[hw,q4]
   refine⟨rfl,rfl,rfl,by rw[size_grow];omega,fun k hk=>?_,Nat.le_refl _⟩
   show(_++os)[k]? = _
   rw[Array.getElem?_append_left hk]
  exact hK κ _ w' (q25 ok2 hbelG) (hrep _ _ _) (extW.trans (q11 hbelG))
theorem y57 {t:Ty} {sp:Spec} {f:t.den->t.den->Option Int} (h:z6n t sp=some f):CmpIs sp t f:=by
 unfold z6n at h
 split at h
 ·rename_i t1 t2 g
  cases h
  refine⟨fun x y v hv=>?_⟩
  obtain⟨x',hx,hv⟩:=Option.bind_eq_some_iff.1 hv
  obtain⟨y',hy,hv⟩:=Option.bind_eq_some_iff.1 hv
  obtain⟨e1,hx⟩:=H5 hx
  obtain⟨e2,hy⟩:=H5 hy
  subst e1;subst e2
  subst hx;subst hy
  obtain⟨r,hr,hv⟩:=Option.map_eq_some_iff.1 hv
  obtain⟨n,⟨⟩⟩:=r
  subst hv
  refine⟨(x,y,()),(n,()),hr,fun w A v1 v2 h1 h2=>⟨h1,h2,trivial⟩,fun L w w' u hres=>?_⟩
  obtain⟨bo,vs,hv,hr⟩:=hres
  match vs,hr with
  | [u'],hr =>
   have:=hr.1.2.2
   simp only[RepAt,F4,if_true,Option.some.injEq]at this
   rw[hv,this];rfl
 ·cases h
theorem v38 {R:Type} {C:Ctx} {F:FuncId} (hS:Sort1 P F) (hspec:∀ f sp,C.spec f=some sp->FunOK' P C.glob f sp) (hgl:GlobOK C.glob w0) {o:Oper} {g:Operand} {args:Array Operand} {Ts:Array TypeId} (ho:o.op=.call { callee:=.value g,args:=args,argTypes:=Ts })
  {ρ:Env} {caps:List (Nat×Nat)} (hg:ev ρ g=.one (.fn F caps)) {h:Heap} {K:Eff->Option R} {z:R} (he:z86 C caps (args.toList.map (ev ρ)) h K=some z) :
  ∃ q,K q=some z/\q.full=none/\∀ ρs hs,(∀ x,x=g\/x∈args.toList->ev ρs x=ev ρ x)->(∀ p∈q.ups,hs p.1=h p.1)->A8 P L w0 o ρs hs (q.heap hs) q.av:=by
 unfold z86 at he
 split at he
 ·rename_i id cg hargs
  obtain⟨s,c,hax,hs',hc'⟩:∃ s c,args=#[s,c]/\ev ρ s=.one (.own id)/\ev ρ c=.one (.fn cg []):=by
   obtain⟨l,hl⟩:∃ l,args.toList=l:=⟨_,rfl⟩
   rw[hl]at hargs
   match l,hargs with
   | [s,c],h=>simp only[List.map_cons,List.map_nil,List.cons.injEq,and_true]at h;exact⟨s,c,Array.toList_inj.1 hl,h⟩
   | [],h=>simp at h
   | [_],h=>simp at h
   | _::_::_::_,h=>simp at h
  subst hax
  split at he
  ·rename_i e t l sp hid hsp
   split at he
   ·rename_i f hf
    obtain⟨h1,he⟩:=q47 he
    obtain⟨h2,he⟩:=q47 he
    obtain⟨zz,hz,he⟩:=Option.bind_eq_some_iff.1 he
    refine⟨_,he,rfl,fun ρs hs ha hup=>?_⟩
    have hid':hs id=.arr e t l:=(hup (id,.arr e t zz) (by simp)).trans hid
    have hlen:l.length<4611686018427387904:=by
     unfold B2 at h2
     rw[Bool.and_eq_true]at h2
     have:=Nat.le_of_ble_eq_true h2.1
     omega
    exact v4a ho hS ((ha g (.inl rfl)).trans hg) (hspec cg sp hsp) hgl ((ha s (.inr (by simp))).trans hs') hid' ((ha c (.inr (by simp))).trans hc') (Nat.eq_of_beq_eq_true h1) (y57 hf) hz hlen
   ·cases he
  ·cases he
 ·cases he
end Go.Abs
