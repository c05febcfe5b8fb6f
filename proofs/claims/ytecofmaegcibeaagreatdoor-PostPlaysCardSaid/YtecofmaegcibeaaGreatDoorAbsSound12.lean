/- The engine, part 11 c: slices.SortFunc on an array of the call's own, elements of several cells. -/
import Derived.Test.YtecofmaegcibeaaGreatDoorAbsSound11
namespace Go.Abs
open Go Go.RowKit Go.Sort
variable {P:Program} {L:Nat->Prop} {w0:World}
def I2 {α:Type} [Inhabited α] (enc:α->List Value) (k:Nat) (d:Array α):Array Value:=(Array.range (d.size*k)).map λt=>(enc d[t / k]!)[t % k]!
theorem j22 {a:Type} [Inhabited a] (enc:a->List Value) (k:Nat) (d:Array a):(I2 enc k d).size=d.size*k:=by simp[I2]
theorem v4p {a:Type} [Inhabited a] (enc:a->List Value) (k:Nat) (d:Array a) (j c:Nat) (b:j<d.size) (e:c<k):(I2 enc k d)[j*k+c]! = (enc d[j]!)[c]!:=by
 have f:j*k+c<d.size*k:=by
  have:(j+1)*k<=d.size*k:=aJ k b;grind
 grind[Nat.mul_comm,Nat.mul_add_div,Nat.div_eq_of_lt,Nat.mul_add_mod,Nat.mod_eq_of_lt,I2]
def j6b {α:Type} [Inhabited α] (P:Program) (g:Nat) (cb:Array Value) (enc:α->List Value) (k:Nat) (cf:α->α->Int) (blk off size:Nat) (w:World):Prop :=
 ∀(m:Nat) (os:Array Obj) (dk:Array α),dk.size=size->∀x y:α,
  Calls P g (#[.agg (enc x).toArray,.agg (enc y).toArray]++cb) (L1 id w blk off m (I2 enc k dk) os) λe w'=>e=.returned (.int .i64 (cf x y))/\∃q os',w'=grow ((L1 id w blk off m (I2 enc k dk) os).drewN q) os'
structure SortN (P:Program) (F:FuncId) (k:Nat):Prop where
 fn:∃fn,P.funcs[F]? = some fn/\fn.body.isSome=true/\(fn.name== "runtime.NumGoroutine")=false
 none:∀(p:Option Addr) (cap:Nat) (fv:Value) (w:World),Calls P F #[.slice p 0 cap,fv] w λe w'=>e=.returned (.tuple #[])/\w'=w
 sort:∀{α:Type} [Inhabited α] (enc:α->List Value),(∀x,(enc x).length=k)->(∀x,∀v∈enc x,v.oneCell'=true)->∀(cf:α->α->Int),SWO (ltC cf)->∀(g:Nat) (cb:Array Value) (blk off cap:Nat) (d:Array α) (w:World),
  (∀args w,(callFunc g args).run P w=.ok (.enter g args) w)->j6b P g cb enc k cf blk off d.size w->Holds id w blk off (I2 enc k d)->blk<w.heap.size->d.size<4611686018427387904 ->
  Calls P F #[.slice (some ⟨blk,off,Option.none⟩) d.size cap,.func (.func g) #[] cb] w λe w'=>e=.returned (.tuple #[])/\∃d' n os,PermIn 0 d.size d d'/\SortedIn (ltC cf) 0 d.size d'/\w'=L1 id w blk off n (I2 enc k d') os
structure CmpIsN (sp:Spec) (t:Ty) (f:t.den->t.den->Option Int):Prop where
 is:∀x y v,f x y=some v->∃X Y,sp.f X=some Y/\(∀(w:World) (A:Nat->Prop) (v1 v2:Value),RepVal w A true t v1 x->RepVal w A true t v2 y->W4 w A sp.refs sp.args [v1,v2] X) /\
  ∀(L:Nat->Prop) (w w':World) (u:Value),U4 L w w' sp.res u Y->u=.int .i64 v
theorem k2y {o:Oper} {g s c:Operand} {Ts:Array TypeId} (ho:o.op=.call { callee:=.value g,args:=#[s,c],argTypes:=Ts }) {F:FuncId} {ρs:Env} {hs:Heap} (hg:ev ρs g=.one (.fn F []))
  {cg:FuncId} {sp:Spec} {gl:W5} (hsp:FunOK' P gl cg sp) (hgl:GlobOK gl w0) {id:Nat} {e:TypeId} {t:Ty} {l:List t.den} (hsv:ev ρs s=.one (.own id)) (hid:hs id=.arr e t l) (hc:ev ρs c=.one (.fn cg []))
  (hS:SortN P F t.size) {f:t.den->t.den->Option Int} (hf:CmpIsN sp t f) {z:List t.den} (hz:O6 f l=some z) (hlen:l.length<4611686018427387904) :
  A9 P L w0 o ρs hs (upd hs id (.arr e t z)) (.tup []):=by
 obtain⟨hok,hperm,hsrt⟩:=y5p hz;have hzl:z.length=l.length:=hperm.length_eq;intro r κ a w henv ok m K' Q hK _;have hev:=R5 henv;have hgv:=hev g;rw[hg]at hgv;obtain⟨cs,hgv,hcl,-⟩:=hgv;have hcs:cs=[]:=aO hcl;subst hcs;have hcv:=hev c;rw[hc]at hcv;obtain⟨cs,hcv,hcl,-⟩:=hcv;have hcs:cs=[]:=aO hcl;subst hcs;have hsv':=hev s;rw[hsv]at hsv';have hsv1:=hsv'.1;rw[hid]at hsv1;obtain⟨fn,hf1,hf2,hf3⟩:=hS.fn;have hrun:=q4q (P:=P) ho hgv hf1 hf2 hf3 w;have harr:(#[]++#[s,c].map a.eval++([]:List Value).toArray)=#[a.eval s,.func (.func cg) #[] #[]]:=by
  simp[show a.eval c=.func (.func cg) #[] #[]from hcv]
 rw[harr]at hrun;have hrep:∀(κ':A6) (h':Heap) (w':World),RepAV L κ' h' w' (.tup []) (.tuple #[]):=λκ' h' w'=>⟨[],rfl,rfl,λj c u hj=>by simp at hj⟩;by_cases hl0:l.length=0
 ·have hl:l=[]:=aO hl0;have hz0:z=[]:=aO (by omega);subst hl;subst hz0;obtain⟨p,cap,hv⟩:∃p cap,a.eval s=.slice p 0 cap:=by
   rcases hsv1 with⟨-,-,hv⟩ | ⟨b,cap,-,hv⟩
   ·exact⟨_,_,hv⟩
   ·exact⟨_,_,hv⟩
  rw[hv]at hrun;have hcall:=(callsIn_wide (n:=m-1)).2 (hS.none p cap (.func (.func cg) #[] #[]) w);refine q30 (λc hc=>by rw[ho]at hc;cases hc) hrun hcall λe' w' ⟨he,hw⟩=>⟨_,he,?_⟩;subst hw;rw[q5p hs id _ hid]at hK;exact hK κ _ w' ok (hrep _ _ _) (Ext.refl L κ hs w')
 ·rcases hsv1 with⟨-,hnil,-⟩ | ⟨b,cap,hk,hv⟩
  ·subst hnil;exact absurd rfl hl0
  have hlive:(hs id).live=true:=by rw[hid];rfl
  have hobj:=ok.obj id;rw[hid]at hobj;rcases hobj with⟨hk',_⟩ | ⟨b',cap',cur,hk',hheap,hcsz,hcm,hll,hone,hel⟩
  ·rw[hk]at hk';cases hk'
  rw[hk]at hk';simp at hk';obtain⟨rfl,rfl⟩:=hk';have hown:=ok.own id b cap hlive hk;obtain⟨cap,off⟩:=cap;simp only at hcsz hcm hll hel hv;have hk0:∀j c,j<l.length->c<t.size->off+j*t.size+c<cur.size:=λj c hj hc=>by
   have:(j+1)*t.size<=cap*t.size:=aJ _ (by omega);rw[bH,dL]at this;omega
  let α:=Fin l.length
  have:Inhabited α:=⟨⟨0,by omega⟩⟩
  let enc:α->List Value:=λi=>(List.range t.size).map λc=>cur[off+i.1*t.size+c]!
  have hel1:∀i:α,(enc i).length=t.size:=λi=>by simp[enc]
  have henc:∀(i:α) (c:Nat),c<t.size->(enc i)[c]? = cur[off+i.1*t.size+c]?:=λi c hc=>by
   have hi:=hk0 i.1 c i.2 hc;simp only[enc,bK,fm hc,bu];rw[getElem!_pos cur _ hi,bh hi]
  have h1:∀i:α,∀v∈enc i,v.oneCell'=true:=λi v hv=>by
   obtain⟨c,hc⟩:=bf hv;have hcl:c<t.size:=by rw[<-hel1 i];exact(ag.1 hc).1
   rw[henc i c hcl]at hc;exact hone _ (bk (by rw[aE];exact hc))
  have hval:∀i:α,RepVal w (A4 L κ hs w) true t (.agg (enc i).toArray) l[i.1]:=λi=>⟨enc i,rfl,hel1 i,h1 i,RepAt.congr t _ _ _ (λc hc=>by
   simp only[hc,if_true,henc i c hc]) (hel i.1 l[i.1] (af i.2))⟩
  have hflat:∀(dk:Array α) (j c:Nat),j<dk.size->c<t.size->(I2 enc t.size dk)[j*t.size+c]! = cur[off+(dk[j]!).1*t.size+c]!:=λdk j c hj hc=>by
   rw[v4p enc t.size dk j c hj hc];have hi:=hk0 (dk[j]!).1 c (dk[j]!).2 hc;rw[List.getElem!_eq_getElem?_getD,henc _ c hc,getElem!_pos cur _ hi,bh hi];rfl
  let d:Array α:=Array.ofFn λi=>i
  have hds:d.size=l.length:=Array.size_ofFn;have hd:∀j (h:j<l.length),d[j]! = (⟨j,h⟩:α):=λj h=>by
   rw[getElem!_pos d j (by omega)];simp[d]
  let cf:α->α->Int:=λi j=>(f l[i.1] l[j.1]).getD 0
  have hcf:∀i j:α,f l[i.1] l[j.1]=some (cf i j):=λi j=>by
   obtain⟨v,hv⟩:=hok.all _ (ay i.2) _ (ay j.2);simp only[cf,hv,bm]
  have hlt:∀i j:α,ltC cf i j=true↔ltF f l[i.1] l[j.1]:=λi j=>by
   unfold ltC ltF;rw[decide_eq_true_eq,hcf i j];constructor
   ·exactλh=>⟨_,rfl,h⟩
   ·rintro ⟨v,h1,h2⟩;cases h1;exact h2
  have hmem:∀i:α,l[i.1]∈l:=λi=>ay i.2;have hnlt:∀i j:α,ltC cf i j=false↔¬ltF f l[i.1] l[j.1]:=λi j=>by rw[<-hlt,Bool.not_eq_true]
  have hO:SWO (ltC cf):=by
   refine⟨λx=>(hnlt x x).2 (hok.irr _ (hmem x)),λx y q h1 h2=>(hlt x q).2 (hok.trans _ (hmem x) _ (hmem y) _ (hmem q) ((hlt x y).1 h1) ((hlt y q).1 h2)),λx y q h1 h2=>(hnlt x q).2 λh=>?_⟩;have n1:=(hnlt x y).1 h1;have n2:=(hnlt y q).1 h2;by_cases hyx:ltF f l[y.1] l[x.1]
   ·exact n2 (hok.trans _ (hmem y) _ (hmem x) _ (hmem q) hyx h)
   ·have he:=hok.tri _ (hmem x) _ (hmem y) n1 hyx;rw[he]at h;exact n2 h
  have hH:Holds (@_root_.id Value) w b off (I2 enc t.size d):=λj hj=>by
   rw[j22,hds]at hj;have hts:0<t.size:=dG λe=>by rw[e,fF]at hj;omega
   have hq:j / t.size<l.length:=dv (by rw[bG];exact hj);have hr:j % t.size<t.size:=dH _ hts;have he:j=j / t.size*t.size+j % t.size:=by have:=Nat.div_add_mod j t.size;rw[bG]at this;omega
   have hjc:=hk0 _ _ hq hr;refine⟨?_,?_⟩
   ·unfold World.cell?;rw[hheap];have:=hflat d (j / t.size) (j % t.size) (by omega) hr;rw[<-he,hd _ hq]at this;show cur[off+j]? = some (I2 enc t.size d)[j]!;have he2:off+j / t.size*t.size+j % t.size=off+j:=by omega
    rw[this,he2,getElem!_pos cur (off+j) (by omega),bh (by omega)]
   ·unfold World.frozen?;rw[hheap];simp
  have hfreeW:∀(m':Nat) (dk:Array α) (os:Array Obj) (b':Nat),b'≠b->b' < w.heap.size->(L1 (@_root_.id Value) w b off m' (I2 enc t.size dk) os).heap[b']? = w.heap[b']?:=λm' dk os b' hne hlt'=>by
   obtain⟨q1,q2,q3,q4⟩:=q7i (@_root_.id Value) w b off m' (I2 enc t.size dk) os hheap;rw[q4];show(_++os)[b']? = _;rw[dw (by omega),q3 b' hne]
  have hsizeW:∀(m':Nat) (dk:Array α) (os:Array Obj),w.heap.size<=(L1 (@_root_.id Value) w b off m' (I2 enc t.size dk) os).heap.size:=λm' dk os=>by
   obtain⟨q1,q2,q3,q4⟩:=q7i (@_root_.id Value) w b off m' (I2 enc t.size dk) os hheap;rw[q4];show _<=(_++os).size;rw[Array.size_append];omega
  have hbelW:∀(m':Nat) (dk:Array α) (os:Array Obj),Below w0.heap.size w0 (L1 (@_root_.id Value) w b off m' (I2 enc t.size dk) os):=λm' dk os =>
   ok.below.trans ⟨rfl,rfl,rfl,hsizeW m' dk os,λk hk=>hfreeW m' dk os k (by omega) (by have:=ok.below.size;omega),cy _ _⟩
  have hcmp:j6b P cg #[] enc t.size cf b off d.size w:=λm' os dk hdk x y=>by
   obtain⟨X,Y,hX,hargs,hres⟩:=hf.is _ _ _ (hcf x y);have hA:∀b',A4 L κ hs w b'->(b' < (L1 (@_root_.id Value) w b off m' (I2 enc t.size dk) os).heap.size/\¬(b' < (L1 (@_root_.id Value) w b off m' (I2 enc t.size dk) os).heap.size/\¬A4 L κ hs w b'))/\(L1 (@_root_.id Value) w b off m' (I2 enc t.size dk) os).heap[b']? = w.heap[b']?:=λb' hb'=>by
    have h3:=hsizeW m' dk os;refine⟨⟨bc hb'.1 h3,λh=>h.2 hb'⟩,hfreeW m' dk os b' (λe=>?_) hb'.1⟩;subst e;exact hb'.2.2 id (cap,off) hlive hk
   have hcl:=hsp.ok X Y hX (λb'=>b' < (L1 (@_root_.id Value) w b off m' (I2 enc t.size dk) os).heap.size/\¬A4 L κ hs w b') (L1 (@_root_.id Value) w b off m' (I2 enc t.size dk) os) [.agg (enc x).toArray,.agg (enc y).toArray] (hgl.below (hbelW m' dk os)) (λb' h=>h.1)
    (hargs _ _ _ _ ((hval x).mono hA) ((hval y).mono hA)) 0
   refine((callsIn_wide (n:=0)).1 hcl).mono λe' w' ⟨v,he,hbel,hrs⟩=>?_;exact⟨by rw[he,hres _ _ _ _ hrs],j7j hbel⟩
  have hcall:=hS.sort enc hel1 h1 cf hO cg #[] b off cap d w (j8q hsp.fn) hcmp hH hown.2 (by omega);rw[hv]at hrun;rw[hds]at hcall;refine q30 (λc hc=>by rw[ho]at hc;cases hc) hrun ((callsIn_wide (n:=m-1)).2 hcall) λe' w' ⟨he,d',n,os,hp,hsd,hw⟩=>⟨_,he,?_⟩;have hd's:d'.size=l.length:=by rw[hp.1,hds]
  have hpl:d'.toList.Perm d.toList:=by
   have:=hp.2.2;have e1:d'.extract 0 l.length=d':=by rw[<-hd's];exact fx
   have e2:d.extract 0 l.length=d:=by rw[<-hds];exact fx
   rwa [e1,e2]at this
  have hdl:d.toList.map (λi:α=>l[i.1])=l:=by
   apply ce;intro j;rw[bK,aE];by_cases hj:j<l.length
   ·rw[bh (by omega),af hj];simp[d]
   ·rw[Array.getElem?_eq_none (by omega),bU (by omega)];rfl
  have hzp:(d'.toList.map λi:α=>l[i.1]).Perm l:=by
   have:=hpl.map (λi:α=>l[i.1])
   rwa [hdl]at this
  have hzs:Srt f (d'.toList.map λi:α=>l[i.1]):=by
   unfold Srt;rw[ct];intro i j hi hj hij;rw[bi,bj]at hi hj;have:=hsd i j (cB _) hij (by omega);rw[getElem!_pos d' i hi,getElem!_pos d' j hj]at this;rw[List.getElem_map,List.getElem_map,fc,fc];exact(hnlt _ _).1 this
  have hzz:(d'.toList.map λi:α=>l[i.1])=z:=z8v (hok.sub λx hx=>hzp.mem_iff.1 hx) (hzp.trans hperm.symm) hzs hsrt;obtain⟨q1,q2,q3,q4⟩:=q7i (@_root_.id Value) w b off n (I2 enc t.size d') os hheap;have hlike:(hs id).like (.arr e t z):=by
   rw[hid];exact⟨rfl,rfl,hzl⟩
  have extW:=U9 (L:=L) (κ:=κ) (h:=hs) hk hlike (.inl (.inl ⟨_,_,_,hheap⟩)) q1 q3;have hbel2:Below w0.heap.size w0 (putRow (@_root_.id Value) (Sort.ahead w n) b off (I2 enc t.size d')) :=
   ok.below.trans ⟨rfl,rfl,rfl,by omega,λk hk=>q3 k (by omega),cy _ _⟩
  have hcut:∀j,j<(I2 enc t.size d').size->∃q r,q<l.length/\r<t.size/\j=q*t.size+r:=λj hj=>by
   rw[j22,hd's]at hj;have hts:0<t.size:=dG λe=>by rw[e,fF]at hj;omega
   exact⟨j / t.size,j % t.size,dv (by rw[bG];exact hj),dH _ hts,by have:=Nat.div_add_mod j t.size;rw[bG]at this;omega⟩
  have hpg:∀j c,j<l.length->c<t.size->(putCells (@_root_.id Value) off (I2 enc t.size d') cur)[off+(j*t.size+c)]? = cur[off+(d'[j]!).1*t.size+c]?:=λj c hj hc=>by
   have hi:=hk0 j c hj hc;have hi2:=hk0 (d'[j]!).1 c (d'[j]!).2 hc;have hfs:j*t.size+c<(I2 enc t.size d').size:=by
    rw[j22,hd's];have:(j+1)*t.size<=l.length*t.size:=aJ _ hj;rw[bH,dL]at this;omega
   rw[z6j,if_pos ⟨by omega,by omega⟩,dN,bh (by omega),bu,hflat d' j c (by omega) hc,getElem!_pos cur _ hi2,bh hi2];rfl
  have ok2:=X4 ok hk hlike q1 q3 hbel2 (q2m (cs:=(putCells (@_root_.id Value) off (I2 enc t.size d') cur).toList) hk (by rw[dx];exact q2) (by rw[bj,y3r];exact hcsz) hcm (by rw[hzl];exact hll)
   (λu hu=>by
    obtain⟨j,hj⟩:=bf hu;rw[aE]at hj;by_cases hjd:off<=j/\j<off+(I2 enc t.size d').size
    ·obtain⟨q,r,hq,hr,hjq⟩:=hcut (j-off) (by omega);have hjq2:j=off+(q*t.size+r):=by omega
     rw[hjq2,hpg q r hq hr]at hj;exact hone u (bk (by rw[aE];exact hj))
    ·rw[z6j,if_neg hjd]at hj;exact hone u (bk (by rw[aE];exact hj)))
   (λj y hy=>by
    have hjl:j<l.length:=by rw[<-hzl];exact(ag.1 hy).1
    have hjd:j<d'.size:=by omega
    have hy2:y=l[(d'[j]!).1]:=by
     rw[<-hzz,bK,aE,bh hjd]at hy;have hfun:(λi:α=>l[i.1]) d'[j]! = (λi:α=>l[i.1]) d'[j]:=congrArg (λi:α=>l[i.1]) (getElem!_pos d' j hjd);have hy3:(λi:α=>l[i.1]) d'[j]=y:=by simpa using hy
     exact(hfun.trans hy3).symm
    subst hy2;obtain⟨cs2,hcs2,hl2,_,hr2⟩:=hval d'[j]!;refine RepAt.congr t _ _ _ (λc hc=>?_) (RepAt.mono extW.free t _ _ (hel (d'[j]!).1 l[(d'[j]!).1] (af (d'[j]!).2)));simp only[hc,if_true,aT,aE,hpg j c hjl hc]))
  have hbelG:Below (putRow (@_root_.id Value) (Sort.ahead w n) b off (I2 enc t.size d')).heap.size (putRow (@_root_.id Value) (Sort.ahead w n) b off (I2 enc t.size d')) w':=by
   rw[hw,q4];refine⟨rfl,rfl,rfl,by rw[size_grow];omega,λk hk=>?_,ax _⟩;show(_++os)[k]? = _;rw[dw hk]
  exact hK κ _ w' (q3i ok2 hbelG) (hrep _ _ _) (extW.trans (q28 hbelG))
theorem v3c {t:Ty} {i:Spec} {f:t.den->t.den->Option Int} (h:j0j t i=some f):CmpIsN i t f:=by
 unfold j0j at h;split at h
 ·cases h;refine⟨λx y v a=>?_⟩;obtain⟨q,g,a⟩:=ae.1 a;obtain⟨B,e,a⟩:=ae.1 a;obtain⟨j,g⟩:=H9 g;obtain⟨k,e⟩:=H9 e;subst j;subst k;subst g;subst e;obtain⟨r,b,a⟩:=az.1 a;obtain⟨n,⟨⟩⟩:=r;subst a;refine⟨(x,y,()),(n,()),b,λw A D z m l=>⟨m,l,trivial⟩,λL w p u c=>?_⟩;obtain⟨C,o,a,b⟩:=c
  match o,b with
  | [s],b =>
   have:=b.1.2.2;simp[RepAt,E6,if_true,aN]at this;rw[a,this];rfl
 grind
theorem k27 {R:Type} {C:Ctx} {F:FuncId} {k:Nat} (hS:SortN P F k) (E:∀f Z,C.spec f=some Z->FunOK' P C.glob f Z) (hgl:GlobOK C.glob w0) {o:Oper} {g:Operand} {args:Array Operand} {Ts:Array TypeId} (ho:o.op=.call { callee:=.value g,args:=args,argTypes:=Ts })
  {ρ:Env} {y:List (Nat×Nat)} (hg:ev ρ g=.one (.fn F y)) {h:Heap} {K:Eff->Option R} {z:R} (d:j1p C k y (args.toList.map (ev ρ)) h K=some z) :
  ∃q,K q=some z/\q.full=none/\∀v O,(∀x,x=g\/x∈args.toList->ev v x=ev ρ x)->(∀p∈q.ups,O p.1=h p.1)->A9 P L w0 o v O (q.heap O) q.av:=by
 unfold j1p at d;split at d
 ·rename_i id S b;obtain⟨s,c,H,J,D⟩:∃s c,args=#[s,c]/\ev ρ s=.one (.own id)/\ev ρ c=.one (.fn S []):=by
   obtain⟨l,hl⟩:∃l,args.toList=l:=⟨_,rfl⟩;rw[hl]at b
   match l,b with
   | [s,c],h=>grind
   | [],h=>grind
   | [_],h=>grind
   | _::_::_::_,h=>grind
  subst H;split at d
  ·rename_i e t l Z hid hsp;split at d
   ·rename_i f hf;obtain⟨h1,d⟩:=q4m d;obtain⟨h2,d⟩:=q4m d;obtain⟨zz,hz,d⟩:=ae.1 d;refine⟨_,d,rfl,λv O G W=>?_⟩;have V:O id=.arr e t l:=(W (id,.arr e t zz) (by simp)).trans hid;have T:l.length<4611686018427387904:=by
     unfold A8 at h2;rw[ac]at h2;have:=ao h2.1;omega
    have hk:=ab h1;subst hk;exact k2y ho ((G g (.inl rfl)).trans hg) (E S Z hsp) hgl ((G s (.inr (by simp))).trans J) V ((G c (.inr (by simp))).trans D) hS (v3c hf) hz T
   grind
  grind
 ·rename_i S b;obtain⟨s,c,H,J,D⟩:∃s c,args=#[s,c]/\ev ρ s=.one .nils/\ev ρ c=.one (.fn S []):=by
   obtain⟨l,hl⟩:∃l,args.toList=l:=⟨_,rfl⟩
   match l,b with
   | [s,c],h=>grind
   | [],h=>grind
   | [_],h=>grind
   | _::_::_::_,h=>grind
  subst H;refine⟨_,d,rfl,λv O G W=>?_⟩;intro r κ a w Y ok m K' Q hK _;have B:=R5 Y;have i:=B g;rw[(G g (.inl rfl)).trans hg]at i;obtain⟨cs,i,X,-⟩:=i;have hcs:cs=[]:=aO X;subst hcs;have M:=B c;rw[(G c (.inr (by simp))).trans D]at M;obtain⟨cs,M,X,-⟩:=M;have N:=B s;rw[(G s (.inr (by simp))).trans J]at N;have N:a.eval s=.slice none 0 0:=N;obtain⟨fn,hf1,hf2,hf3⟩:=hS.fn;have A:=q4q (P:=P) ho i hf1 hf2 hf3 w;have U:(#[]++#[s,c].map a.eval++([]:List Value).toArray)=#[.slice none 0 0,.func (.func S) #[] #[]]:=by
   grind
  rw[U]at A;have I:=(callsIn_wide (n:=m-1)).2 (hS.none none 0 (.func (.func S) #[] #[]) w);refine q30 (λc hc=>by grind) A I λe' w' ⟨he',hw⟩=>⟨_,he',?_⟩;subst hw;exact hK κ _ w' ok ⟨[],rfl,rfl,λj c u hj=>by grind⟩ (Ext.refl L κ O w')
 grind
end Go.Abs
