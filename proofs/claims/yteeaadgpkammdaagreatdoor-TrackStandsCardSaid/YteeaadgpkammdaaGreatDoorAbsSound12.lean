/- The engine, part 11 c: slices.SortFunc on an array of the call's own, elements of several cells. -/
import Derived.Test.YteeaadgpkammdaaGreatDoorAbsSound11
namespace Go.Abs
open Go Go.RowKit Go.Sort
variable {P:Program} {L:Nat->Prop} {w0:World}
def H6 {α:Type} [Inhabited α] (enc:α->List Value) (k:Nat) (d:Array α):Array Value:=(Array.range (d.size*k)).map fun t=>(enc d[t / k]!)[t % k]!
theorem z0n {α:Type} [Inhabited α] (enc:α->List Value) (k:Nat) (d:Array α):(H6 enc k d).size=d.size*k:=by simp[H6]
theorem y69 {α:Type} [Inhabited α] (enc:α->List Value) (k:Nat) (d:Array α) (j c:Nat) (hj:j<d.size) (hc:c<k):(H6 enc k d)[j*k+c]! = (enc d[j]!)[c]!:=by
 have h1:j*k+c<d.size*k:=by
  have:(j+1)*k<=d.size*k:=Nat.mul_le_mul_right k hj
  rw[Nat.add_mul,Nat.one_mul]at this
  omega
 have h2:(j*k+c) / k=j:=by rw[Nat.mul_comm,Nat.mul_add_div (by omega),Nat.div_eq_of_lt hc];rfl
 have h3:(j*k+c) % k=c:=by rw[Nat.mul_comm,Nat.mul_add_mod,Nat.mod_eq_of_lt hc]
 rw[getElem!_pos _ _ (by rw[z0n];exact h1)]
 simp only[H6,Array.getElem_map,Array.getElem_range,h2,h3]
def j1h {α:Type} [Inhabited α] (P:Program) (g:Nat) (cb:Array Value) (enc:α->List Value) (k:Nat) (cf:α->α->Int) (blk off size:Nat) (w:World):Prop :=
 ∀ (m:Nat) (os:Array Obj) (dk:Array α),dk.size=size->∀ x y:α,
  Calls P g (#[.agg (enc x).toArray,.agg (enc y).toArray]++cb) (J4 id w blk off m (H6 enc k dk) os) fun e w'=>e=.returned (.int .i64 (cf x y))/\∃ q os',w'=grow ((J4 id w blk off m (H6 enc k dk) os).drewN q) os'
structure SortN (P:Program) (F:FuncId) (k:Nat):Prop where
 fn:∃ fn,P.funcs[F]? = some fn/\fn.body.isSome=true/\(fn.name== "runtime.NumGoroutine")=false
 none:∀ (p:Option Addr) (cap:Nat) (fv:Value) (w:World),Calls P F #[.slice p 0 cap,fv] w fun e w'=>e=.returned (.tuple #[])/\w'=w
 sort:∀ {α:Type} [Inhabited α] (enc:α->List Value),(∀ x,(enc x).length=k)->(∀ x,∀ v∈enc x,v.oneCell'=true)->∀ (cf:α->α->Int),SWO (ltC cf)->∀ (g:Nat) (cb:Array Value) (blk off cap:Nat) (d:Array α) (w:World),
  (∀ args w,(callFunc g args).run P w=.ok (.enter g args) w)->j1h P g cb enc k cf blk off d.size w->Holds id w blk off (H6 enc k d)->blk<w.heap.size->d.size<4611686018427387904 ->
  Calls P F #[.slice (some ⟨blk,off,Option.none⟩) d.size cap,.func (.func g) #[] cb] w fun e w'=>e=.returned (.tuple #[])/\∃ d' n os,PermIn 0 d.size d d'/\SortedIn (ltC cf) 0 d.size d'/\w'=J4 id w blk off n (H6 enc k d') os
structure CmpIsN (sp:Spec) (t:Ty) (f:t.den->t.den->Option Int):Prop where
 is:∀ x y v,f x y=some v->∃ X Y,sp.f X=some Y/\(∀ (w:World) (A:Nat->Prop) (v1 v2:Value),RepVal w A true t v1 x->RepVal w A true t v2 y->O3 w A sp.args [v1,v2] X) /\
  ∀ (L:Nat->Prop) (w w':World) (u:Value),R2 L w w' sp.res u Y->u=.int .i64 v
theorem v4b {o:Oper} {g s c:Operand} {Ts:Array TypeId} (ho:o.op=.call { callee:=.value g,args:=#[s,c],argTypes:=Ts }) {F:FuncId} {ρs:Env} {hs:Heap} (hg:ev ρs g=.one (.fn F []))
  {cg:FuncId} {sp:Spec} {gl:T2} (hsp:FunOK' P gl cg sp) (hgl:GlobOK gl w0) {id:Nat} {e:TypeId} {t:Ty} {l:List t.den} (hsv:ev ρs s=.one (.own id)) (hid:hs id=.arr e t l) (hc:ev ρs c=.one (.fn cg []))
  (hS:SortN P F t.size) {f:t.den->t.den->Option Int} (hf:CmpIsN sp t f) {z:List t.den} (hz:O0 f l=some z) (hlen:l.length<4611686018427387904) :
  A8 P L w0 o ρs hs (upd hs id (.arr e t z)) (.tup []):=by
 obtain⟨hok,hperm,hsrt⟩:=j8n hz
 have hzl:z.length=l.length:=hperm.length_eq
 intro r κ a w henv ok m K' Q hK
 have hev:=O4 henv
 have hgv:=hev g
 rw[hg]at hgv
 obtain⟨cs,hgv,hcl,-⟩:=hgv
 have hcs:cs=[]:=List.eq_nil_of_length_eq_zero hcl
 subst hcs
 have hcv:=hev c
 rw[hc]at hcv
 obtain⟨cs,hcv,hcl,-⟩:=hcv
 have hcs:cs=[]:=List.eq_nil_of_length_eq_zero hcl
 subst hcs
 have hsv':=hev s
 rw[hsv]at hsv'
 have hsv1:=hsv'.1
 rw[hid]at hsv1
 obtain⟨fn,hf1,hf2,hf3⟩:=hS.fn
 have hrun:=q36 (P:=P) ho hgv hf1 hf2 hf3 w
 have harr:(#[]++#[s,c].map a.eval++([]:List Value).toArray)=#[a.eval s,.func (.func cg) #[] #[]]:=by
  simp[show a.eval c=.func (.func cg) #[] #[]from hcv]
 rw[harr]at hrun
 have hrep:∀ (κ':A3) (h':Heap) (w':World),RepAV L κ' h' w' (.tup []) (.tuple #[]):=fun κ' h' w'=>⟨[],rfl,rfl,fun j c u hj=>by simp at hj⟩
 by_cases hl0:l.length=0
 ·have hl:l=[]:=List.eq_nil_of_length_eq_zero hl0
  have hz0:z=[]:=List.eq_nil_of_length_eq_zero (by omega)
  subst hl;subst hz0
  obtain⟨p,cap,hv⟩:∃ p cap,a.eval s=.slice p 0 cap:=by
   rcases hsv1 with⟨-,-,hv⟩ | ⟨b,cap,-,hv⟩
   ·exact⟨_,_,hv⟩
   ·exact⟨_,_,hv⟩
  rw[hv]at hrun
  have hcall:=(callsIn_wide (n:=m-1)).2 (hS.none p cap (.func (.func cg) #[] #[]) w)
  refine q0q (fun c hc=>by rw[ho]at hc;cases hc) hrun hcall fun e' w' ⟨he,hw⟩=>⟨_,he,?_⟩
  subst hw
  rw[q5x hs id _ hid]at hK
  exact hK κ _ w' ok (hrep _ _ _) (Ext.refl L κ hs w')
 ·rcases hsv1 with⟨-,hnil,-⟩ | ⟨b,cap,hk,hv⟩
  ·subst hnil;exact absurd rfl hl0
  have hlive:(hs id).live=true:=by rw[hid];rfl
  have hobj:=ok.obj id
  rw[hid]at hobj
  rcases hobj with⟨hk',_⟩ | ⟨b',cap',cur,hk',hheap,hcsz,hcm,hll,hone,hel⟩
  ·rw[hk]at hk';cases hk'
  rw[hk]at hk';simp at hk';obtain⟨rfl,rfl⟩:=hk'
  have hown:=ok.own id b cap hlive hk
  obtain⟨cap,off⟩:=cap
  simp only at hcsz hcm hll hel hv
  have hk0:∀ j c,j<l.length->c<t.size->off+j*t.size+c<cur.size:=fun j c hj hc=>by
   have:(j+1)*t.size<=cap*t.size:=Nat.mul_le_mul_right _ (by omega)
   rw[Nat.add_mul,Nat.one_mul]at this
   omega
  let α:=Fin l.length
  have:Inhabited α:=⟨⟨0,by omega⟩⟩
  let enc:α->List Value:=fun i=>(List.range t.size).map fun c=>cur[off+i.1*t.size+c]!
  have hel1:∀ i:α,(enc i).length=t.size:=fun i=>by simp[enc]
  have henc:∀ (i:α) (c:Nat),c<t.size->(enc i)[c]? = cur[off+i.1*t.size+c]?:=fun i c hc=>by
   have hi:=hk0 i.1 c i.2 hc
   simp only[enc,List.getElem?_map,List.getElem?_range hc,Option.map_some]
   rw[getElem!_pos cur _ hi,Array.getElem?_eq_getElem hi]
  have h1:∀ i:α,∀ v∈enc i,v.oneCell'=true:=fun i v hv=>by
   obtain⟨c,hc⟩:=List.getElem?_of_mem hv
   have hcl:c<t.size:=by rw[<-hel1 i];exact(List.getElem?_eq_some_iff.1 hc).1
   rw[henc i c hcl]at hc
   exact hone _ (List.mem_of_getElem? (by rw[Array.getElem?_toList];exact hc))
  have hval:∀ i:α,RepVal w (A4 L κ hs w) true t (.agg (enc i).toArray) l[i.1]:=fun i=>⟨enc i,rfl,hel1 i,h1 i,RepAt.congr t _ _ _ (fun c hc=>by
   simp only[hc,if_true,henc i c hc]) (hel i.1 l[i.1] (List.getElem?_eq_getElem i.2))⟩
  have hflat:∀ (dk:Array α) (j c:Nat),j<dk.size->c<t.size->(H6 enc t.size dk)[j*t.size+c]! = cur[off+(dk[j]!).1*t.size+c]!:=fun dk j c hj hc=>by
   rw[y69 enc t.size dk j c hj hc]
   have hi:=hk0 (dk[j]!).1 c (dk[j]!).2 hc
   rw[List.getElem!_eq_getElem?_getD,henc _ c hc,getElem!_pos cur _ hi,Array.getElem?_eq_getElem hi];rfl
  let d:Array α:=Array.ofFn fun i=>i
  have hds:d.size=l.length:=Array.size_ofFn
  have hd:∀ j (h:j<l.length),d[j]! = (⟨j,h⟩:α):=fun j h=>by
   rw[getElem!_pos d j (by omega)]
   simp[d]
  let cf:α->α->Int:=fun i j=>(f l[i.1] l[j.1]).getD 0
  have hcf:∀ i j:α,f l[i.1] l[j.1]=some (cf i j):=fun i j=>by
   obtain⟨v,hv⟩:=hok.all _ (List.getElem_mem i.2) _ (List.getElem_mem j.2)
   simp only[cf,hv,Option.getD_some]
  have hlt:∀ i j:α,ltC cf i j=true↔ltF f l[i.1] l[j.1]:=fun i j=>by
   unfold ltC ltF
   rw[decide_eq_true_eq,hcf i j]
   constructor
   ·exact fun h=>⟨_,rfl,h⟩
   ·rintro ⟨v,h1,h2⟩;cases h1;exact h2
  have hmem:∀ i:α,l[i.1]∈l:=fun i=>List.getElem_mem i.2
  have hnlt:∀ i j:α,ltC cf i j=false↔¬ ltF f l[i.1] l[j.1]:=fun i j=>by rw[<-hlt,Bool.not_eq_true]
  have hO:SWO (ltC cf):=by
   refine⟨fun x=>(hnlt x x).2 (hok.irr _ (hmem x)),fun x y q h1 h2=>(hlt x q).2 (hok.trans _ (hmem x) _ (hmem y) _ (hmem q) ((hlt x y).1 h1) ((hlt y q).1 h2)),fun x y q h1 h2=>(hnlt x q).2 fun h=>?_⟩
   have n1:=(hnlt x y).1 h1
   have n2:=(hnlt y q).1 h2
   by_cases hyx:ltF f l[y.1] l[x.1]
   ·exact n2 (hok.trans _ (hmem y) _ (hmem x) _ (hmem q) hyx h)
   ·have he:=hok.tri _ (hmem x) _ (hmem y) n1 hyx
    rw[he]at h
    exact n2 h
  have hH:Holds (@_root_.id Value) w b off (H6 enc t.size d):=fun j hj=>by
   rw[z0n,hds]at hj
   have hts:0<t.size:=Nat.pos_of_ne_zero fun e=>by rw[e,Nat.mul_zero]at hj;omega
   have hq:j / t.size<l.length:=Nat.div_lt_of_lt_mul (by rw[Nat.mul_comm];exact hj)
   have hr:j % t.size<t.size:=Nat.mod_lt _ hts
   have he:j=j / t.size*t.size+j % t.size:=by have:=Nat.div_add_mod j t.size;rw[Nat.mul_comm]at this;omega
   have hjc:=hk0 _ _ hq hr
   refine⟨?_,?_⟩
   ·unfold World.cell?
    rw[hheap]
    have:=hflat d (j / t.size) (j % t.size) (by omega) hr
    rw[<-he,hd _ hq]at this
    show cur[off+j]? = some (H6 enc t.size d)[j]!
    have he2:off+j / t.size*t.size+j % t.size=off+j:=by omega
    rw[this,he2,getElem!_pos cur (off+j) (by omega),Array.getElem?_eq_getElem (by omega)]
   ·unfold World.frozen?
    rw[hheap]
    simp
  have hfreeW:∀ (m':Nat) (dk:Array α) (os:Array Obj) (b':Nat),b'≠b->b' < w.heap.size->(J4 (@_root_.id Value) w b off m' (H6 enc t.size dk) os).heap[b']? = w.heap[b']?:=fun m' dk os b' hne hlt'=>by
   obtain⟨q1,q2,q3,q4⟩:=q5h (@_root_.id Value) w b off m' (H6 enc t.size dk) os hheap
   rw[q4]
   show(_++os)[b']? = _
   rw[Array.getElem?_append_left (by omega),q3 b' hne]
  have hsizeW:∀ (m':Nat) (dk:Array α) (os:Array Obj),w.heap.size<=(J4 (@_root_.id Value) w b off m' (H6 enc t.size dk) os).heap.size:=fun m' dk os=>by
   obtain⟨q1,q2,q3,q4⟩:=q5h (@_root_.id Value) w b off m' (H6 enc t.size dk) os hheap
   rw[q4]
   show _<=(_++os).size
   rw[Array.size_append];omega
  have hbelW:∀ (m':Nat) (dk:Array α) (os:Array Obj),Below w0.heap.size w0 (J4 (@_root_.id Value) w b off m' (H6 enc t.size dk) os):=fun m' dk os =>
   ok.below.trans ⟨rfl,rfl,rfl,hsizeW m' dk os,fun k hk=>hfreeW m' dk os k (by omega) (by have:=ok.below.size;omega),Nat.le_add_right _ _⟩
  have hcmp:j1h P cg #[] enc t.size cf b off d.size w:=fun m' os dk hdk x y=>by
   obtain⟨X,Y,hX,hargs,hres⟩:=hf.is _ _ _ (hcf x y)
   have hA:∀ b',A4 L κ hs w b'->(b' < (J4 (@_root_.id Value) w b off m' (H6 enc t.size dk) os).heap.size/\¬ (b' < (J4 (@_root_.id Value) w b off m' (H6 enc t.size dk) os).heap.size/\¬ A4 L κ hs w b'))/\(J4 (@_root_.id Value) w b off m' (H6 enc t.size dk) os).heap[b']? = w.heap[b']?:=fun b' hb'=>by
    have h3:=hsizeW m' dk os
    refine⟨⟨Nat.lt_of_lt_of_le hb'.1 h3,fun h=>h.2 hb'⟩,hfreeW m' dk os b' (fun e=>?_) hb'.1⟩
    subst e
    exact hb'.2.2 id (cap,off) hlive hk
   have hcl:=hsp.ok X Y hX (fun b'=>b' < (J4 (@_root_.id Value) w b off m' (H6 enc t.size dk) os).heap.size/\¬ A4 L κ hs w b') (J4 (@_root_.id Value) w b off m' (H6 enc t.size dk) os) [.agg (enc x).toArray,.agg (enc y).toArray] (hgl.below (hbelW m' dk os)) (fun b' h=>h.1)
    (hargs _ _ _ _ ((hval x).mono hA) ((hval y).mono hA)) 0
   refine((callsIn_wide (n:=0)).1 hcl).mono fun e' w' ⟨v,he,hbel,hrs⟩=>?_
   exact⟨by rw[he,hres _ _ _ _ hrs],j2c hbel⟩
  have hcall:=hS.sort enc hel1 h1 cf hO cg #[] b off cap d w (j3f hsp.fn) hcmp hH hown.2 (by omega)
  rw[hv]at hrun
  rw[hds]at hcall
  refine q0q (fun c hc=>by rw[ho]at hc;cases hc) hrun ((callsIn_wide (n:=m-1)).2 hcall) fun e' w' ⟨he,d',n,os,hp,hsd,hw⟩=>⟨_,he,?_⟩
  have hd's:d'.size=l.length:=by rw[hp.1,hds]
  have hpl:d'.toList.Perm d.toList:=by
   have:=hp.2.2
   have e1:d'.extract 0 l.length=d':=by rw[<-hd's];exact Array.extract_size
   have e2:d.extract 0 l.length=d:=by rw[<-hds];exact Array.extract_size
   rwa [e1,e2]at this
  have hdl:d.toList.map (fun i:α=>l[i.1])=l:=by
   apply List.ext_getElem?
   intro j
   rw[List.getElem?_map,Array.getElem?_toList]
   by_cases hj:j<l.length
   ·rw[Array.getElem?_eq_getElem (by omega),List.getElem?_eq_getElem hj]
    simp[d]
   ·rw[Array.getElem?_eq_none (by omega),List.getElem?_eq_none (by omega)];rfl
  have hzp:(d'.toList.map fun i:α=>l[i.1]).Perm l:=by
   have:=hpl.map (fun i:α=>l[i.1])
   rwa [hdl]at this
  have hzs:Srt f (d'.toList.map fun i:α=>l[i.1]):=by
   unfold Srt
   rw[List.pairwise_iff_getElem]
   intro i j hi hj hij
   rw[List.length_map,Array.length_toList]at hi hj
   have:=hsd i j (Nat.zero_le _) hij (by omega)
   rw[getElem!_pos d' i hi,getElem!_pos d' j hj]at this
   rw[List.getElem_map,List.getElem_map,Array.getElem_toList,Array.getElem_toList]
   exact(hnlt _ _).1 this
  have hzz:(d'.toList.map fun i:α=>l[i.1])=z:=z4z (hok.sub fun x hx=>hzp.mem_iff.1 hx) (hzp.trans hperm.symm) hzs hsrt
  obtain⟨q1,q2,q3,q4⟩:=q5h (@_root_.id Value) w b off n (H6 enc t.size d') os hheap
  have hlike:(hs id).like (.arr e t z):=by
   rw[hid]
   exact⟨rfl,rfl,hzl⟩
  have extW:=R8 (L:=L) (κ:=κ) (h:=hs) hk hlike (.inl (.inl ⟨_,_,_,hheap⟩)) q1 q3
  have hbel2:Below w0.heap.size w0 (putRow (@_root_.id Value) (Sort.ahead w n) b off (H6 enc t.size d')) :=
   ok.below.trans ⟨rfl,rfl,rfl,by omega,fun k hk=>q3 k (by omega),Nat.le_add_right _ _⟩
  have hcut:∀ j,j<(H6 enc t.size d').size->∃ q r,q<l.length/\r<t.size/\j=q*t.size+r:=fun j hj=>by
   rw[z0n,hd's]at hj
   have hts:0<t.size:=Nat.pos_of_ne_zero fun e=>by rw[e,Nat.mul_zero]at hj;omega
   exact⟨j / t.size,j % t.size,Nat.div_lt_of_lt_mul (by rw[Nat.mul_comm];exact hj),Nat.mod_lt _ hts,by have:=Nat.div_add_mod j t.size;rw[Nat.mul_comm]at this;omega⟩
  have hpg:∀ j c,j<l.length->c<t.size->(putCells (@_root_.id Value) off (H6 enc t.size d') cur)[off+(j*t.size+c)]? = cur[off+(d'[j]!).1*t.size+c]?:=fun j c hj hc=>by
   have hi:=hk0 j c hj hc
   have hi2:=hk0 (d'[j]!).1 c (d'[j]!).2 hc
   have hfs:j*t.size+c<(H6 enc t.size d').size:=by
    rw[z0n,hd's]
    have:(j+1)*t.size<=l.length*t.size:=Nat.mul_le_mul_right _ hj
    rw[Nat.add_mul,Nat.one_mul]at this
    omega
   rw[z2n,if_pos ⟨by omega,by omega⟩,Nat.add_sub_cancel_left,Array.getElem?_eq_getElem (by omega),Option.map_some,hflat d' j c (by omega) hc,getElem!_pos cur _ hi2,Array.getElem?_eq_getElem hi2]
   rfl
  have ok2:=U3 ok hk hlike q1 q3 hbel2 (q0h (cs:=(putCells (@_root_.id Value) off (H6 enc t.size d') cur).toList) hk (by rw[Array.toArray_toList];exact q2) (by rw[Array.length_toList,j7f];exact hcsz) hcm (by rw[hzl];exact hll)
   (fun u hu=>by
    obtain⟨j,hj⟩:=List.getElem?_of_mem hu
    rw[Array.getElem?_toList]at hj
    by_cases hjd:off<=j/\j<off+(H6 enc t.size d').size
    ·obtain⟨q,r,hq,hr,hjq⟩:=hcut (j-off) (by omega)
     have hjq2:j=off+(q*t.size+r):=by omega
     rw[hjq2,hpg q r hq hr]at hj
     exact hone u (List.mem_of_getElem? (by rw[Array.getElem?_toList];exact hj))
    ·rw[z2n,if_neg hjd]at hj
     exact hone u (List.mem_of_getElem? (by rw[Array.getElem?_toList];exact hj)))
   (fun j y hy=>by
    have hjl:j<l.length:=by rw[<-hzl];exact(List.getElem?_eq_some_iff.1 hy).1
    have hjd:j<d'.size:=by omega
    have hy2:y=l[(d'[j]!).1]:=by
     rw[<-hzz,List.getElem?_map,Array.getElem?_toList,Array.getElem?_eq_getElem hjd]at hy
     have hfun:(fun i:α=>l[i.1]) d'[j]! = (fun i:α=>l[i.1]) d'[j]:=congrArg (fun i:α=>l[i.1]) (getElem!_pos d' j hjd)
     have hy3:(fun i:α=>l[i.1]) d'[j]=y:=by simpa using hy
     exact(hfun.trans hy3).symm
    subst hy2
    obtain⟨cs2,hcs2,hl2,_,hr2⟩:=hval d'[j]!
    refine RepAt.congr t _ _ _ (fun c hc=>?_) (RepAt.mono extW.free t _ _ (hel (d'[j]!).1 l[(d'[j]!).1] (List.getElem?_eq_getElem (d'[j]!).2)))
    simp only[hc,if_true,List.getElem?_drop,Array.getElem?_toList,hpg j c hjl hc]))
  have hbelG:Below (putRow (@_root_.id Value) (Sort.ahead w n) b off (H6 enc t.size d')).heap.size (putRow (@_root_.id Value) (Sort.ahead w n) b off (H6 enc t.size d')) w':=by
   rw[hw,q4]
   refine⟨rfl,rfl,rfl,by rw[size_grow];omega,fun k hk=>?_,Nat.le_refl _⟩
   show(_++os)[k]? = _
   rw[Array.getElem?_append_left hk]
  exact hK κ _ w' (q25 ok2 hbelG) (hrep _ _ _) (extW.trans (q11 hbelG))
theorem y56 {t:Ty} {sp:Spec} {f:t.den->t.den->Option Int} (h:z6o t sp=some f):CmpIsN sp t f:=by
 unfold z6o at h
 split at h
 ·rename_i t1 t2 g
  cases h
  refine⟨fun x y v hv=>?_⟩
  obtain⟨x',hx,hv⟩:=Option.bind_eq_some_iff.1 hv
  obtain⟨y',hy,hv⟩:=Option.bind_eq_some_iff.1 hv
  obtain⟨e1,hx⟩:=H5 hx
  obtain⟨e2,hy⟩:=H5 hy
  subst e1;subst e2
  subst hx;subst hy
  obtain⟨r,hr,hv⟩:=Option.map_eq_some_iff.1 hv
  obtain⟨n,⟨⟩⟩:=r
  subst hv
  refine⟨(x,y,()),(n,()),hr,fun w A v1 v2 h1 h2=>⟨h1,h2,trivial⟩,fun L w w' u hres=>?_⟩
  obtain⟨bo,vs,hv,hr⟩:=hres
  match vs,hr with
  | [u'],hr =>
   have:=hr.1.2.2
   simp only[RepAt,F4,if_true,Option.some.injEq]at this
   rw[hv,this];rfl
 ·cases h
theorem v39 {R:Type} {C:Ctx} {F:FuncId} {k:Nat} (hS:SortN P F k) (hspec:∀ f sp,C.spec f=some sp->FunOK' P C.glob f sp) (hgl:GlobOK C.glob w0) {o:Oper} {g:Operand} {args:Array Operand} {Ts:Array TypeId} (ho:o.op=.call { callee:=.value g,args:=args,argTypes:=Ts })
  {ρ:Env} {caps:List (Nat×Nat)} (hg:ev ρ g=.one (.fn F caps)) {h:Heap} {K:Eff->Option R} {z:R} (he:z87 C k caps (args.toList.map (ev ρ)) h K=some z) :
  ∃ q,K q=some z/\q.full=none/\∀ ρs hs,(∀ x,x=g\/x∈args.toList->ev ρs x=ev ρ x)->(∀ p∈q.ups,hs p.1=h p.1)->A8 P L w0 o ρs hs (q.heap hs) q.av:=by
 unfold z87 at he
 split at he
 ·rename_i id cg hargs
  obtain⟨s,c,hax,hs',hc'⟩:∃ s c,args=#[s,c]/\ev ρ s=.one (.own id)/\ev ρ c=.one (.fn cg []):=by
   obtain⟨l,hl⟩:∃ l,args.toList=l:=⟨_,rfl⟩
   rw[hl]at hargs
   match l,hargs with
   | [s,c],h=>simp only[List.map_cons,List.map_nil,List.cons.injEq,and_true]at h;exact⟨s,c,Array.toList_inj.1 hl,h⟩
   | [],h=>simp at h
   | [_],h=>simp at h
   | _::_::_::_,h=>simp at h
  subst hax
  split at he
  ·rename_i e t l sp hid hsp
   split at he
   ·rename_i f hf
    obtain⟨h1,he⟩:=q47 he
    obtain⟨h2,he⟩:=q47 he
    obtain⟨zz,hz,he⟩:=Option.bind_eq_some_iff.1 he
    refine⟨_,he,rfl,fun ρs hs ha hup=>?_⟩
    have hid':hs id=.arr e t l:=(hup (id,.arr e t zz) (by simp)).trans hid
    have hlen:l.length<4611686018427387904:=by
     unfold B2 at h2
     rw[Bool.and_eq_true]at h2
     have:=Nat.le_of_ble_eq_true h2.1
     omega
    have hk:=Nat.eq_of_beq_eq_true h1
    subst hk
    exact v4b ho ((ha g (.inl rfl)).trans hg) (hspec cg sp hsp) hgl ((ha s (.inr (by simp))).trans hs') hid' ((ha c (.inr (by simp))).trans hc') hS (y56 hf) hz hlen
   ·cases he
  ·cases he
 ·rename_i cg hargs
  obtain⟨s,c,hax,hs',hc'⟩:∃ s c,args=#[s,c]/\ev ρ s=.one .nils/\ev ρ c=.one (.fn cg []):=by
   obtain⟨l,hl⟩:∃ l,args.toList=l:=⟨_,rfl⟩
   rw[hl]at hargs
   match l,hargs with
   | [s,c],h=>simp only[List.map_cons,List.map_nil,List.cons.injEq,and_true]at h;exact⟨s,c,Array.toList_inj.1 hl,h⟩
   | [],h=>simp at h
   | [_],h=>simp at h
   | _::_::_::_,h=>simp at h
  subst hax
  refine⟨_,he,rfl,fun ρs hs ha hup=>?_⟩
  intro r κ a w henv ok m K' Q hK
  have hev:=O4 henv
  have hgv:=hev g
  rw[(ha g (.inl rfl)).trans hg]at hgv
  obtain⟨cs,hgv,hcl,-⟩:=hgv
  have hcs:cs=[]:=List.eq_nil_of_length_eq_zero hcl
  subst hcs
  have hcv:=hev c
  rw[(ha c (.inr (by simp))).trans hc']at hcv
  obtain⟨cs,hcv,hcl,-⟩:=hcv
  have hcs:cs=[]:=List.eq_nil_of_length_eq_zero hcl
  subst hcs
  have hsv:=hev s
  rw[(ha s (.inr (by simp))).trans hs']at hsv
  have hsv:a.eval s=.slice none 0 0:=hsv
  obtain⟨fn,hf1,hf2,hf3⟩:=hS.fn
  have hrun:=q36 (P:=P) ho hgv hf1 hf2 hf3 w
  have harr:(#[]++#[s,c].map a.eval++([]:List Value).toArray)=#[.slice none 0 0,.func (.func cg) #[] #[]]:=by
   simp[show a.eval c=.func (.func cg) #[] #[]from hcv,hsv]
  rw[harr]at hrun
  have hcall:=(callsIn_wide (n:=m-1)).2 (hS.none none 0 (.func (.func cg) #[] #[]) w)
  refine q0q (fun c hc=>by rw[ho]at hc;cases hc) hrun hcall fun e' w' ⟨he',hw⟩=>⟨_,he',?_⟩
  subst hw
  exact hK κ _ w' ok ⟨[],rfl,rfl,fun j c u hj=>by simp at hj⟩ (Ext.refl L κ hs w')
 ·cases he
end Go.Abs
