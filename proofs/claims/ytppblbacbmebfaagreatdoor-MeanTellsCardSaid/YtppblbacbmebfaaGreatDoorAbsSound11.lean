/- The engine, part 11 b: slices.SortFunc on an array of the call's own, elements of one cell. -/
import Derived.Test.YtppblbacbmebfaaGreatDoorAbsFun
import Derived.Test.YtppblbacbmebfaaGreatDoorAbsSortP
import Derived.Sort.Statements
import Derived.Sort.Row
import Derived.Sort.Grow
import Derived.Deep.Draws
namespace Go.Abs
open Go Go.RowKit Go.Sort
variable {P:Program} {L:Nat->Prop} {w0:World}
def K4 {α:Type} [Inhabited α] (enc:α->Value) (w:World) (blk off m:Nat) (dk:Array α) (os:Array Obj):World:=grow (putRow enc (Sort.ahead w m) blk off dk) os
def ltC {α:Type} (cf:α->α->Int) (x y:α):Bool:=decide (cf x y<0)
def j27 {α:Type} [Inhabited α] (P:Program) (g:Nat) (cb:Array Value) (enc:α->Value) (cf:α->α->Int) (blk off size:Nat) (w:World):Prop :=
 ∀ (m:Nat) (os:Array Obj) (dk:Array α),dk.size=size->∀ x y:α,
  Calls P g (#[enc x,enc y]++cb) (K4 enc w blk off m dk os) fun e w'=>e=.returned (.int .i64 (cf x y))/\∃ q os',w'=grow ((K4 enc w blk off m dk os).drewN q) os'
structure Sort1 (P:Program) (F:FuncId):Prop where
 fn:∃ fn,P.funcs[F]? = some fn/\fn.body.isSome=true/\(fn.name== "runtime.NumGoroutine")=false
 none:∀ (p:Option Addr) (cap:Nat) (fv:Value) (w:World),Calls P F #[.slice p 0 cap,fv] w fun e w'=>e=.returned (.tuple #[])/\w'=w
 sort:∀ {α:Type} [Inhabited α] (enc:α->Value),(∀ x,(enc x).oneCell'=true)->∀ (cf:α->α->Int),SWO (ltC cf)->∀ (g:Nat) (cb:Array Value) (blk off cap:Nat) (d:Array α) (w:World),
  (∀ args w,(callFunc g args).run P w=.ok (.enter g args) w)->j27 P g cb enc cf blk off d.size w->Holds enc w blk off d->blk<w.heap.size->d.size<4611686018427387904 ->
  Calls P F #[.slice (some ⟨blk,off,Option.none⟩) d.size cap,.func (.func g) #[] cb] w fun e w'=>e=.returned (.tuple #[])/\∃ d' n os,PermIn 0 d.size d d'/\SortedIn (ltC cf) 0 d.size d'/\w'=K4 enc w blk off n d' os
theorem j38 {w w':World} (h:Below w.heap.size w w'):∃ q d,w'=grow (w.drewN q) d:=by
 refine⟨w'.drawn-w.drawn,w'.heap.extract w.heap.size w'.heap.size,?_⟩
 have k:=h.drawn
 have n:=h.size
 have m:w'.heap=w.heap++w'.heap.extract w.heap.size w'.heap.size:=by
  apply Array.ext_getElem?
  intro i
  by_cases f:i<w.heap.size
  ·rw[Array.getElem?_append_left f,h.block i f]
  grind
 cases w' with
 | mk c e b d a =>
  have j:=h.os;have g:=h.tape;have l:=h.output
  grind[grow,World.drewN,World.mk.injEq]
theorem j45 {g:FuncId} (h:∃ a,P.funcs[g]? = some a/\a.body.isSome=true/\(a.name== "runtime.NumGoroutine")=false) (args:Array Value) (w:World):(callFunc g args).run P w=.ok (.enter g args) w:=by
 obtain⟨a,b,d,c⟩:=h
 simp[callFunc,b,Option.isNone_iff_eq_none]
 grind
theorem q3i {R:Type} {b:Bool} {K:Option R} {z:R} (a:cond b K none=some z):b=true/\K=some z:=by
 grind
structure CmpIs (sp:Spec) (t:Ty) (f:t.den->t.den->Option Int):Prop where
 is:∀ x y v,f x y=some v->∃ X Y,sp.f X=some Y/\(∀ (w:World) (A:Nat->Prop) (v1 v2:Value),RepVal w A false t v1 x->RepVal w A false t v2 y->P9 w A sp.args [v1,v2] X) /\
  ∀ (L:Nat->Prop) (w w':World) (u:Value),S9 L w w' sp.res u Y->u=.int .i64 v
theorem z3k {b:Type} [Inhabited b] (enc:b->Value) (a:Nat) (d:Array b) (c:Array Value) (k:Nat):(putCells enc a d c)[k]? = if a<=k/\k<a+d.size then(c[k]?).map (fun _=>enc d[k-a]!)else c[k]?:=by
 grind[putCells]
theorem j7h {a:Type} [Inhabited a] (enc:a->Value) (b:Nat) (d:Array a) (c:Array Value):(putCells enc b d c).size=c.size:=by
 grind[putCells]
theorem q66 {h:Type} [Inhabited h] (enc:h->Value) (w:World) (b c m:Nat) (d:Array h) (os:Array Obj) {f:Array Value} {e:TypeId} {i:Nat×Nat} (k:w.heap[b]? = some (.cells f e i)) :
  (putRow enc (Sort.ahead w m) b c d).heap.size=w.heap.size/\(putRow enc (Sort.ahead w m) b c d).heap[b]? = some (.cells (putCells enc c d f) e i)/\(∀ g,g≠b->(putRow enc (Sort.ahead w m) b c d).heap[g]? = w.heap[g]?) /\
  K4 enc w b c m d os=grow (putRow enc (Sort.ahead w m) b c d) os:=by
 refine⟨by simp_all,?_,fun g j=>?_,rfl⟩
 all_goals grind[putRow,mapBlock,Sort.ahead,onCells]
theorem v65 {o:Oper} {g s c:Operand} {Ts:Array TypeId} (ho:o.op=.call { callee:=.value g,args:=#[s,c],argTypes:=Ts }) {F:FuncId} (hS:Sort1 P F) {ρs:Env} {hs:Heap} (hg:ev ρs g=.one (.fn F []))
  {cg:FuncId} {sp:Spec} {gl:L4} (hsp:FunOK' P gl cg sp) (hgl:GlobOK gl w0) {id:Nat} {e:TypeId} {t:Ty} {l:List t.den} (hsv:ev ρs s=.one (.own id)) (hid:hs id=.arr e t l) (hc:ev ρs c=.one (.fn cg []))
  (ht1:t.size=1) {f:t.den->t.den->Option Int} (hf:CmpIs sp t f) {z:List t.den} (hz:q0v f l=some z) (hlen:l.length<4611686018427387904) :
  A6 P L w0 o ρs hs (upd hs id (.arr e t z)) (.tup []):=by
 obtain⟨U,hperm,hsrt⟩:=j91 hz
 have hzl:z.length=l.length:=hperm.length_eq
 intro r κ a w henv ok m K' Q hK _
 have hev:=N7 henv
 have hgv:=hev g
 rw[hg]at hgv
 obtain⟨cs,hgv,V,-⟩:=hgv
 have hcs:cs=[]:=List.eq_nil_of_length_eq_zero V
 subst hcs
 have hcv:=hev c
 rw[hc]at hcv
 obtain⟨cs,hcv,V,-⟩:=hcv
 have hcs:cs=[]:=List.eq_nil_of_length_eq_zero V
 subst hcs
 have hsv':=hev s
 rw[hsv]at hsv'
 have hsv1:=hsv'.1
 rw[hid]at hsv1
 obtain⟨fn,hf1,hf2,hf3⟩:=hS.fn
 have O:=q2g (P:=P) ho hgv hf1 hf2 hf3 w
 have harr:(#[]++#[s,c].map a.eval++([]:List Value).toArray)=#[a.eval s,.func (.func cg) #[] #[]]:=by
  grind
 rw[harr]at O
 have hrep:∀ (κ':A2) (h':Heap) (w':World),RepAV L κ' h' w' (.tup []) (.tuple #[]):=fun κ' h' w'=>⟨[],rfl,rfl,fun j c u hj=>by grind⟩
 by_cases hl0:l.length=0
 ·have hl:l=[]:=List.eq_nil_of_length_eq_zero hl0
  have hz0:z=[]:=List.eq_nil_of_length_eq_zero (by omega)
  subst hl;subst hz0
  obtain⟨p,E,hv⟩:∃ p E,a.eval s=.slice p 0 E:=by
   grind
  rw[hv]at O
  have K:=(callsIn_wide (n:=m-1)).2 (hS.none p E (.func (.func cg) #[] #[]) w)
  refine q13 (fun c hc=>by grind) O K fun e' w' ⟨he,hw⟩=>⟨_,he,?_⟩
  subst hw
  rw[q48 hs id _ hid]at hK
  exact hK κ _ w' ok (hrep _ _ _) (Ext.refl L κ hs w')
 ·rcases hsv1 with⟨-,hnil,-⟩ | ⟨b,E,hk,hv⟩
  ·grind
  have W:(hs id).live=true:=by rw[hid];rfl
  have hobj:=ok.obj id
  rw[hid]at hobj
  rcases hobj with⟨hk',_⟩ | ⟨I,cap',cur,hk',M,hcsz,hcm,hll,hone,hel⟩
  ·grind
  rw[hk]at hk';simp at hk';obtain⟨rfl,rfl⟩:=hk'
  have hown:=ok.own id b E W hk
  obtain⟨E,B⟩:=E
  simp at hcsz hcm hll hel hv
  have hcsz:B+E<=cur.size:=by grind
  let J:=Fin l.length
  have:Inhabited J:=⟨⟨0,by omega⟩⟩
  let A:J->Value:=fun i=>cur[B+i.1]!
  have henc:∀ i:J,cur[B+i.1]? = some (A i):=fun i=>by
   grind
  have h1:(∀ x,(A x).oneCell'=true):=fun i=>hone _ (List.mem_of_getElem? (by rw[Array.getElem?_toList];exact henc i))
  have hval:∀ i:J,RepVal w (A3 L κ hs w) false t (A i) l[i.1]:=fun i=>⟨ht1,h1 i,RepAt.congr t _ _ _ (fun c hc=>by
   grind[F7]) (hel i.1 l[i.1] (List.getElem?_eq_getElem i.2))⟩
  let d:Array J:=Array.ofFn fun i=>i
  have hds:d.size=l.length:=Array.size_ofFn
  have hd:∀ j (h:j<l.length),d[j]! = (⟨j,h⟩:J):=fun j h=>by
   rw[getElem!_pos d j (by omega)]
   simp[d]
  let cf:J->J->Int:=fun i j=>(f l[i.1] l[j.1]).getD 0
  have hcf:∀ i j:J,f l[i.1] l[j.1]=some (cf i j):=fun i j=>by
   obtain⟨v,hv⟩:=U.all _ (List.getElem_mem i.2) _ (List.getElem_mem j.2)
   grind
  have hlt:∀ i j:J,ltC cf i j=true↔ltF f l[i.1] l[j.1]:=fun i j=>by
   grind[ltC,ltF]
  have C:∀ i:J,l[i.1]∈l:=fun i=>List.getElem_mem i.2
  have T:∀ i j:J,ltC cf i j=false↔¬ ltF f l[i.1] l[j.1]:=fun i j=>by grind
  have hO:SWO (ltC cf):=by
   refine⟨fun x=>(T x x).2 (U.irr _ (C x)),fun x y q h1 h2=>(hlt x q).2 (U.trans _ (C x) _ (C y) _ (C q) ((hlt x y).1 h1) ((hlt y q).1 h2)),fun x y q h1 h2=>(T x q).2 fun h=>?_⟩
   have n1:=(T x y).1 h1
   have n2:=(T y q).1 h2
   by_cases hyx:ltF f l[y.1] l[x.1]
   ·exact n2 (U.trans _ (C y) _ (C x) _ (C q) hyx h)
   ·have he:=U.tri _ (C x) _ (C y) n1 hyx
    grind
  have hH:Holds A w b B d:=fun j hj=>by
   grind[World.cell?,World.frozen?]
  have S:∀ (G:Nat) (H:Array J) (D:Array Obj) (I:Nat),I≠b->I<w.heap.size->(K4 A w b B G H D).heap[I]? = w.heap[I]?:=fun G H D I hne hlt'=>by
   obtain⟨q1,q2,q3,q4⟩:=q66 A w b B G H D M
   rw[q4]
   show(_++D)[I]? = _
   grind
  have R:∀ (G:Nat) (H:Array J) (D:Array Obj),w.heap.size<=(K4 A w b B G H D).heap.size:=fun G H D=>by
   obtain⟨q1,q2,q3,q4⟩:=q66 A w b B G H D M
   simp_all
  have hbelW:∀ (G:Nat) (H:Array J) (D:Array Obj),Below w0.heap.size w0 (K4 A w b B G H D):=fun G H D =>
   ok.below.trans ⟨rfl,rfl,rfl,R G H D,fun k hk=>S G H D k (by omega) (by omega),Nat.le_add_right _ _⟩
  have hcmp:j27 P cg #[] A cf b B d.size w:=fun G D H hdk x y=>by
   obtain⟨X,Y,hX,hargs,hres⟩:=hf.is _ _ _ (hcf x y)
   have hA:∀ I,A3 L κ hs w I->(I<(K4 A w b B G H D).heap.size/\¬ (I<(K4 A w b B G H D).heap.size/\¬ A3 L κ hs w I))/\(K4 A w b B G H D).heap[I]? = w.heap[I]?:=fun I hb'=>by
    have h3:=R G H D
    refine⟨⟨Nat.lt_of_lt_of_le hb'.1 h3,fun h=>h.2 hb'⟩,S G H D I (fun e=>?_) hb'.1⟩
    subst e
    exact hb'.2.2 id (E,B) W hk
   have V:=hsp.ok X Y hX (fun I=>I<(K4 A w b B G H D).heap.size/\¬ A3 L κ hs w I) (K4 A w b B G H D) [A x,A y] (hgl.below (hbelW G H D)) (fun I h=>h.1)
    (hargs _ _ _ _ ((hval x).mono hA) ((hval y).mono hA)) 0
   refine((callsIn_wide (n:=0)).1 V).mono fun e' w' ⟨v,he,hbel,hrs⟩=>?_
   grind[j38]
  have K:=hS.sort A h1 cf hO cg #[] b B E d w (j45 hsp.fn) hcmp hH hown.2 (by omega)
  rw[hv]at O
  rw[hds]at K
  refine q13 (fun c hc=>by grind) O ((callsIn_wide (n:=m-1)).2 K) fun e' w' ⟨he,N,n,D,hp,hsd,hw⟩=>⟨_,he,?_⟩
  have hd's:N.size=l.length:=by rw[hp.1,hds]
  have hpl:N.toList.Perm d.toList:=by
   have:=hp.2.2
   grind[Array.extract_size]
  have hdl:d.toList.map (fun i:J=>l[i.1])=l:=by
   apply List.ext_getElem?
   grind
  have hzp:(N.toList.map fun i:J=>l[i.1]).Perm l:=by
   grind
  have hzs:Srt f (N.toList.map fun i:J=>l[i.1]):=by
   unfold Srt
   rw[List.pairwise_iff_getElem]
   intro i j hi hj hij
   rw[List.length_map,Array.length_toList]at hi hj
   have:=hsd i j (Nat.zero_le _) hij (by omega)
   grind
  have hzz:(N.toList.map fun i:J=>l[i.1])=z:=z4v (U.sub fun x hx=>hzp.mem_iff.1 hx) (hzp.trans hperm.symm) hzs hsrt
  obtain⟨q1,q2,q3,q4⟩:=q66 A w b B n N D M
  have Z:(hs id).like (.arr e t z):=by
   rw[hid]
   exact⟨rfl,rfl,hzl⟩
  have extW:=P3 (L:=L) (κ:=κ) (h:=hs) hk Z (.inl (.inl ⟨_,_,_,M⟩)) q1 q3
  have hbel2:Below w0.heap.size w0 (putRow A (Sort.ahead w n) b B N) :=
   ok.below.trans ⟨rfl,rfl,rfl,by omega,fun k hk=>q3 k (by omega),Nat.le_add_right _ _⟩
  have hpg:∀ j,j<l.length->∀ hj:j<N.size,(putCells A B N cur)[B+j]? = some (A N[j]):=fun j hj hj2=>by
   rw[z3k,if_pos ⟨by omega,by omega⟩,henc ⟨j,hj⟩,Option.map_some,Nat.add_sub_cancel_left,getElem!_pos N j hj2]
  have ok2:=Q4 ok hk Z q1 q3 hbel2 (q0r (cs:=(putCells A B N cur).toList) hk (by omega) (by grind[j7h]) hcm (by omega)
   (fun u hu=>by
    grind[List.getElem?_of_mem,z3k])
   (fun j y hy=>by
    have hjl:j<l.length:=by grind
    have hjd:j<N.size:=by omega
    have hy2:y=l[(N[j]).1]:=by
     grind
    subst hy2
    refine RepAt.congr t _ _ _ (fun c hc=>?_) (RepAt.mono extW.free t _ _ (hval N[j]).2.2)
    have h0:c=0:=by omega
    subst h0
    simp only[F7,ht1,Nat.mul_one,Nat.add_zero,List.getElem?_drop,Array.getElem?_toList,hpg j hjl hjd]
    simp))
  have hbelG:Below (putRow A (Sort.ahead w n) b B N).heap.size (putRow A (Sort.ahead w n) b B N) w':=by
   rw[hw,q4]
   refine⟨rfl,rfl,rfl,by grind,fun k hk=>?_,Nat.le_refl _⟩
   show(_++D)[k]? = _
   grind
  exact hK κ _ w' (q1m ok2 hbelG) (hrep _ _ _) (extW.trans (q0i hbelG))
theorem y47 {t:Ty} {i:Spec} {f:t.den->t.den->Option Int} (h:z6a t i=some f):CmpIs i t f:=by
 unfold z6a at h
 split at h
 ·cases h
  refine⟨fun x y v a=>?_⟩
  obtain⟨q,g,a⟩:=Option.bind_eq_some_iff.1 a
  obtain⟨B,e,a⟩:=Option.bind_eq_some_iff.1 a
  obtain⟨j,g⟩:=H2 g
  obtain⟨k,e⟩:=H2 e
  subst j;subst k
  subst g;subst e
  obtain⟨r,b,a⟩:=Option.map_eq_some_iff.1 a
  obtain⟨n,⟨⟩⟩:=r
  subst a
  refine⟨(x,y,()),(n,()),b,fun w A D z m l=>⟨m,l,trivial⟩,fun L w p u c=>?_⟩
  obtain⟨C,o,a,b⟩:=c
  match o,b with
  | [s],b =>
   have:=b.1.2.2
   simp[RepAt,F7,if_true,Option.some.injEq]at this
   rw[a,this];rfl
 grind
theorem v4s {R:Type} {C:Ctx} {F:FuncId} (T:Sort1 P F) (d:∀ f r,C.spec f=some r->FunOK' P C.glob f r) (D:GlobOK C.glob w0) {o:Oper} {g:Operand} {args:Array Operand} {J:Array TypeId} (M:o.op=.call { callee:=.value g,args:=args,argTypes:=J })
  {ρ:Env} {b:List (Nat×Nat)} (S:ev ρ g=.one (.fn F b)) {h:Heap} {K:Eff->Option R} {z:R} (a:z8a C b (args.toList.map (ev ρ)) h K=some z) :
  ∃ q,K q=some z/\q.full=none/\∀ i n,(∀ x,x=g\/x∈args.toList->ev i x=ev ρ x)->(∀ p∈q.ups,n p.1=h p.1)->A6 P L w0 o i n (q.heap n) q.av:=by
 unfold z8a at a
 split at a
 ·rename_i id H j
  obtain⟨s,c,E,B,A⟩:∃ s c,args=#[s,c]/\ev ρ s=.one (.own id)/\ev ρ c=.one (.fn H []):=by
   obtain⟨l,U⟩:∃ l,args.toList=l:=⟨_,rfl⟩
   match l,j with
   | [s,c],h=>grind
   | [],h=>grind
   | [_],h=>grind
   | _::_::_::_,h=>grind
  subst E
  split at a
  ·rename_i e t l r y w
   split at a
   ·rename_i f O
    obtain⟨I,a⟩:=q3i a
    obtain⟨G,a⟩:=q3i a
    obtain⟨Q,N,a⟩:=Option.bind_eq_some_iff.1 a
    refine⟨_,a,rfl,fun i n v u=>?_⟩
    have k:n id=.arr e t l:=(u (id,.arr e t Q) (by simp)).trans y
    have m:l.length<4611686018427387904:=by
     unfold C2 at G
     rw[Bool.and_eq_true]at G
     have:=Nat.le_of_ble_eq_true G.1
     omega
    exact v65 M T ((v g (.inl rfl)).trans S) (d H r w) D ((v s (.inr (by simp))).trans B) k ((v c (.inr (by simp))).trans A) (Nat.eq_of_beq_eq_true I) (y47 O) N m
   grind
  grind
 grind
end Go.Abs
