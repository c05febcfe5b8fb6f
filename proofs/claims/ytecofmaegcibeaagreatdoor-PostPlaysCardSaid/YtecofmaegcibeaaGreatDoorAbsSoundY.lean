/- The engine: operations on what is owned, all together. -/
import Derived.Test.YtecofmaegcibeaaGreatDoorAbsSoundU
namespace Go.Abs
open Go Go.RowKit
variable {P:Program} {L:Nat->Prop} {w0:World}
variable {o:Oper} {x:Operand}
theorem k2l {f:FuncId} (l:o.op=.makeFunc (.func f) #[x] #[]) {ρs:Env} {id d:Nat} (m:ev ρs x=.one (.ptr id d)) (hs:Heap) :
  A9 P L w0 o ρs hs hs (.one (.bfp f id d)):=by
 refine E7 (λc n=>by grind) λq a w g p=>⟨.func (.func f) #[a.eval x] #[],?_,?_⟩
 ·unfold execOp;simp[l,Instr.makeFunc]
 ·have h:=g x;rw[m]at h;obtain⟨i,b,c,k,j⟩:=h;exact⟨_,rfl,i,b,c,k,j⟩
variable {R:Type} {C:Ctx} {ρ:Env} {h:Heap} {K:Eff->Option R} {z:R}
theorem k2w (A:∀t B,C.TI t=some B->B.OK P t) {T:TypeId} {y:Operand} (J:o.op=.slice T x none (some y) none) {id j:Nat} (Q:ev ρ x=.one (.ptr id j)) (g:j1n C T h id j (ev ρ y) K=some z):∃q,K q=some z/\q.full=none/\∀f D,ev f x=ev ρ x->ev f y=ev ρ y->A9 P L w0 o f D (q.heap D) q.av:=by
 have hd:∀c,o.op≠.defer c:=λc I=>by grind
 unfold j1n at g;split at g
 ·rename_i B W;split at g
  ·rename_i n e F;split at g
   ·rename_i Y l G O;obtain⟨q,g,u⟩:=q23 g;obtain⟨I,g⟩:=B1 g;simp[ac,decide_eq_true_eq]at I;refine⟨_,g,rfl,λf D U X=>E7 hd λκ a w r ok=>?_⟩;have s:=r x;rw[U,Q]at s;obtain⟨M,b,c,V,N⟩:=s;obtain⟨p,rfl⟩:∃p:Nat,q=(p:Int):=⟨q.toNat,by omega⟩;have E:p<=n:=by omega
    have m:∃k,a.eval y=.int k (p:Int):=by
     rcases u with⟨u,_⟩ | ⟨k,u⟩
     ·grind
     ·have u:ev ρ y=.one (.sc (.int k) (p:Int)):=by grind
      have:=r y;rw[X,u]at this;exact⟨k,K1 this⟩
    obtain⟨k,m⟩:=m;obtain⟨Z,-⟩:=(A T B W).arrT n e F;obtain⟨i,zz,S,H,-⟩:=(A e Y G).zero_one (L:=L);refine⟨.slice (some ⟨b,j,none⟩) p n,?_,M,b,c,V,by rfl⟩;unfold execOp;rw[J];simp[N,m,bu,bJ];simp[Instr.sliceAt,run_underlying Z,Instr.sliceBounds,Instr.sliceBound,asIntOf,Instr.sureAddr,q1t S,Addr.add,E]
   grind
  grind
 grind
variable {id':Nat}
theorem k2z (hC:CtxOK P L w0 C) {g:Operand} {Ts:Array TypeId} (ho:o.op=.call { callee:=.value g,args:=#[x],argTypes:=Ts }) {f id D len cap:Nat} (hg:ev ρ g=.one (.fn f [])) (hx:ev ρ x=.one (.csl id D len cap)) (I:j1r C h id' f id D len cap K=some z):∃q,K q=some z/\q.full=none/\∀H s,ev H g=ev ρ g->ev H x=ev ρ x->(∀i∈q.rd,s i=h i)->A9 P L w0 o H s (q.heap s) q.av:=by
 unfold j1r at I;split at I
 ·rename_i e rs G hsp;split at I
  ·rename_i l hid;split at I
   ·rename_i U hvs;obtain⟨hc,I⟩:=B1 I;simp only[ac,aU]at hc;obtain⟨⟨⟨⟨c1,c2⟩,hfl⟩,c4⟩,c5⟩:=hc;have c1:=ab c1;have c2:=ab c2;have hone:=ao c4;have hne:id≠id':=λe0=>by simp_all
    obtain⟨S,I⟩:=B1 I;have S:=ao S;obtain⟨y,hy,I⟩:=ae.1 I;obtain⟨hfr,I⟩:=Q7 I;have hok:=hC.spec f _ hsp;have hR:=q1u (P:=P) (L:=L) ho (f:=f) (pre:=[]) (post:=[]) (ρ:=ρ) (by rw[hg];rfl);refine⟨_,I,rfl,λH s h1 h2 h3=>?_⟩;have E:s id=.cells l:=(h3 id (by simp)).trans hid;have W:s id'=.fresh:=(h3 id' (by simp)).trans hfr;show A9 P L w0 o H s (A3 (J1 id' rs y).2 s) (q2v (J1 id' rs y).1);intro r κ a w henv T m K' Q hK _;have hev:=R5 henv;obtain⟨fn,hf1,hf2,hf3⟩:=hok.fn;obtain⟨vs0,hrun,hvl,hvr⟩:=hR.2 fn hf1 hf2 hf3 H s (λq hq=>by
     grind) κ a w hev
    simp[cN,bP,bB,da,eZ]at hvl hvr
    match vs0,hvl with
    | [v],_ =>
    have V:=hvr 0 _ v rfl rfl;rw[hx]at V;obtain⟨h0,b,c,Y,V⟩:=V;have hob:=T.obj id;rw[E]at hob;obtain⟨b',c',cs,ty,Z,hheap,hcl,hcs⟩:=hob;rw[Y]at Z;simp[aN,bZ]at Z;obtain⟨rfl,rfl⟩:=Z;have N:(s id).gone .dead:=by grind[AObj.gone]
    have okD:=q2b T N;have exD:=q0d (L:=L) (κ:=κ) (w:=w) N;have hfree:A4 L κ (upd s id .dead) w b:=by
     have ho:=T.own id b c (by rw[E];rfl) Y;refine⟨ho.2,λhL=>(T.outer b hL).2 id c (by rw[E];rfl) Y,λj c2 hj hkj=>?_⟩;by_cases e0:j=id
     ·subst e0;rw[A2]at hj;cases hj
     ·rw[A0 _ _ e0]at hj;exact e0 (T.inj j id b c2 c hj (by rw[E];rfl) hkj Y)
    let L':Nat->Prop:=λb=>L b\/∃i c,(upd s id .dead i).live=true/\κ i=some (b,c)
    have hL':∀b,L' b->b<w.heap.size:=λb O=>by
     rcases O with O | ⟨i,c,hl,Y⟩
     ·exact(T.outer b O).1
     ·exact(okD.own i b c hl Y).2
    have hfe:(A4 L κ (upd s id .dead) w)=λb=>b<w.heap.size/\¬L' b:=funext λb=>propext
     ⟨λ⟨a1,a2,a3⟩=>⟨a1,λh=>by grind⟩,
      λ⟨a1,a2⟩=>⟨a1,λh=>a2 (.inl h),λi c hl Y=>a2 (.inr ⟨i,c,hl,Y⟩)⟩⟩
    have M:q0u w (A4 L κ (upd s id .dead) w) [(false,.list e)] [v] (U.take len,()):=by
     refine⟨⟨rfl,by rw[V];rfl,some ⟨b,D,none⟩,len,cap,by rw[V];rfl,?_,S,λ_=>⟨b,D,rfl,hfree,λj u hu=>?_⟩⟩,trivial⟩
     ·grind
     ·obtain⟨g1,g2⟩:=y57 hvs;have hjq:j<len:=by
       grind
      have hu2:U[j]? = some u:=by
       grind
      have hl:=g2 j u hu2;rw[aV (by omega),aT]at hl;have hlt:D+j<cs.length:=by grind
      obtain⟨⟨r1,r2,r3⟩,-⟩:=hcs (D+j) _ cs[D+j] hl (af hlt);refine RepAt.congr e _ _ u (λc0 hc0=>?_) (r3.ext exD);have:c0=0:=by omega
      subst this;rw[if_pos (by omega),c2,dP,cz];grind[E6,World.cell?]
    rw[hfe]at M;have hcall:=hok.ok (U.take len,()) y hy L' w [v] (hC.glob.below T.below) hL' M (m-1);refine q30 hR.1 hrun hcall λe w' ⟨v,hev',n,bo,U,V,k⟩=>⟨v,hev',?_⟩;have k:W6 w' (λ_=>False) w.heap.size bo rs U y:=z7y hfl k;rcases z7z id' rs y hone w' _ _ bo U k with F | ⟨e',t,l,v',d,hnew⟩
    ·have B:=q0p (L:=L) (κ':=κ) (h':=s) (id':=id') (A:=λ_=>False) (λb O=>O.elim) rs U y k (λh=>absurd F h) (λp X=>by grind);refine hK κ v w' ?_ ?_ ?_
     ·rw[F];exact q3i T n
     ·rw[F,V];exact q2w B.1 B.2
     ·rw[F];exact q28 n
    ·rcases hnew with⟨rfl,rfl,hv'⟩ | ⟨b,cap,cur,rfl,hv',hbb,J,hsz,hcm,hll,h1c,S⟩
     ·have okN:=q4y T e' t W;have exN:=q3d (L:=L) (κ:=κ) (w:=w) e' t W;have B:=q0p (L:=L) (κ':=upd κ id' none) (h':=upd s id' (.arr e' t [])) (id':=id') (A:=λ_=>False) (λb O=>O.elim) rs U y k (λ_=>A2 _ _ _) (λp X=>by rw[d]at X;simp at X;subst X;exact A2 _ _ _);refine hK (upd κ id' none) v w' ?_ ?_ ?_
      ·rw[d];exact q3i okN n
      ·rw[d,V];exact q2w B.1 B.2
      ·rw[d];exact exN.trans (q28 n)
     ·have B:=q0p (L:=L) (κ':=upd κ id' (some (b,cap))) (h':=upd s id' (.arr e' t l)) (id':=id') (A:=λ_=>False) (λb O=>O.elim) rs U y k (λ_=>A2 _ _ _) (λp X=>by rw[d]at X;simp at X;subst X;exact A2 _ _ _);have hbl:b<w'.heap.size:=(au.1 J).1;refine hK (upd κ id' (some (b,cap))) v w' ?_ ?_ ?_
      ·rw[d];exact j2d T n _ W hbb hbl (q2m (cs:=cur.toList) (A2 _ _ _) (by simpa using J) (by simpa using hsz) hcm hll h1c (S.mono λb O=>O.elim))
      ·rw[d,V];exact q2w B.1 B.2
      ·rw[d];exact z4f n _ W hbb
   grind
  grind
 grind
theorem q8c {T:TypeId} {K:TInfo->TypeId->TInfo->Option R} (c:q4n C T K=some z):∃a e b,C.TI T=some a/\a.elem=some e/\C.TI e=some b/\K a e b=some z:=by
 grind[q4n]
theorem v3z (hC:CtxOK P L w0 C) (he:j12 C id' o.op (ev ρ) h K=some z) :
  (∃q,K q=some z/\q.full=none/\∀ρs hs,q05 o.op q ρ h ρs hs->A9 P L w0 o ρs hs (q.heap hs) q.av)/\(∀T m k,o.op≠.lookup T m k false)/\∀T m k,o.op≠.mapEntry T m k:=by
 generalize hop:o.op=op at he;have args1:∀{args:Array Operand} {v:AV},args.toList.map (ev ρ)=[v]->∃x,args=#[x]/\ev ρ x=v:=by
  intro args v hargs;obtain⟨l,hl⟩:∃l,args.toList=l:=⟨_,rfl⟩;rw[hl]at hargs
  match l,hargs with
  | [],h=>simp at h
  | [x],h=>simp at h;exact⟨x,aX.1 hl,h⟩
  | _::_::_,h=>simp at h
 have args2:∀{args:Array Operand} {v v':AV},args.toList.map (ev ρ)=[v,v']->∃x y,args=#[x,y]/\ev ρ x=v/\ev ρ y=v':=by
  intro args v v' hargs;obtain⟨l,hl⟩:∃l,args.toList=l:=⟨_,rfl⟩;rw[hl]at hargs
  match l,hargs with
  | [],h=>simp at h
  | [_],h=>simp at h
  | [x,y],h=>simp at h;exact⟨x,y,aX.1 hl,h.1,h.2⟩
  | _::_::_::_,h=>simp at h
 unfold j12 at he;split at he
 ·rename_i T x;refine⟨?_,(λ_ _ _ h=>by cases h),(λ_ _ _ h=>by cases h)⟩;split at he
  ·rename_i ti id p i hT hx;obtain⟨q,hq,hfull,hsem⟩:=k2g (L:=L) (w0:=w0) (hC.ti T ti hT) hop hx he;exact⟨q,hq,hfull,λρs hs ha=>hsem ρs hs (ha.1 x (by simp[Op.operands])) ha.2.1 ha.2.2.1⟩
  ·cases he
 ·rename_i T x y;refine⟨?_,(λ_ _ _ h=>by cases h),(λ_ _ _ h=>by cases h)⟩;split at he
  ·rename_i ti id p i hT hx;split at he
   ·rename_i g off len hy;obtain⟨q,hq,hfull,hsem⟩:=k30 (L:=L) (w0:=w0) (hC.ti T ti hT) hop hx hy he;exact⟨q,hq,hfull,λρs hs ha=>hsem ρs hs (ha.1 x (by simp[Op.operands])) (ha.1 y (by simp[Op.operands])) ha.2.1 ha.2.2.1⟩
   ·obtain⟨q,hq,hfull,hsem⟩:=k31 (L:=L) (w0:=w0) (hC.ti T ti hT) hop hx he;exact⟨q,hq,hfull,λρs hs ha=>hsem ρs hs (ha.1 x (by simp[Op.operands])) (ha.1 y (by simp[Op.operands])) ha.2.1 ha.2.2.1⟩
  ·cases he
 ·rename_i x;refine⟨?_,(λ_ _ _ h=>by cases h),(λ_ _ _ h=>by cases h)⟩;split at he
  ·rename_i id p i hx;split at he
   ·rename_i e k l f hid;exact⟨_,he,rfl,λρs hs ha=>k2s hop ((ha.1 x (by simp[Op.operands])).trans hx) ((ha.2.1 id (by simp[E1])).trans hid)⟩
   ·cases he
  ·cases he
 ·rename_i T x f;refine⟨?_,(λ_ _ _ h=>by cases h),(λ_ _ _ h=>by cases h)⟩;split at he
  ·rename_i ti id p i hT hx;obtain⟨hstr,he⟩:=B1 he;split at he
   ·rename_i fi e k l f0 hf hid;obtain⟨hpos,he⟩:=B1 he;exact⟨_,he,rfl,λρs hs ha=>k28 (hC.ti T ti hT) hstr hop hf (ao hpos) ((ha.1 x (by simp[Op.operands])).trans hx) ((ha.2.1 id (by simp[E1])).trans hid)⟩
   ·cases he
  ·cases he
 ·rename_i T x i;refine⟨?_,(λ_ _ _ h=>by cases h),(λ_ _ _ h=>by cases h)⟩;obtain⟨ti,e,te,hT,hel,hte,he⟩:=q8c he;split at he
  ·rename_i id p kk n hx hi;split at he
   ·rename_i e' k l f hid;obtain⟨m,hm,he⟩:=z9c he;obtain⟨hc,he⟩:=B1 he;simp only[ac]at hc;refine⟨_,he,rfl,λρs hs ha=>?_⟩;exact k2b (hC.ti T ti hT) hel (hC.ti e te hte) hop ((ha.1 x (by simp[Op.operands])).trans hx) ((ha.2.1 id (by simp[E1])).trans hid) ((ha.1 i (by simp[Op.operands])).trans hi) hm (ab hc.1) hc.2
   ·cases he
  ·cases he
 ·rename_i T x y;refine⟨?_,(λ_ _ _ h=>by cases h),(λ_ _ _ h=>by cases h)⟩;split at he
  ·rename_i k n c hdp hx hy;obtain⟨ti,e,te,hT,hel,hte,he⟩:=q8c he;obtain⟨q,hq,hfull,hsem⟩:=k2o (L:=L) (w0:=w0) (hC.ti T ti hT) hel (hC.ti e te hte) hop hx hy he;exact⟨q,hq,hfull,λρs hs ha=>hsem ρs hs (ha.1 x (by simp[Op.operands])) (ha.1 y (by simp[Op.operands])) ha.2.2.1⟩
  ·cases he
 ·rename_i T len parts;refine⟨?_,(λ_ _ _ h=>by cases h),(λ_ _ _ h=>by cases h)⟩;split at he
  ·rename_i k hdp;obtain⟨ti,e,te,hT,hel,hte,he⟩:=q8c he;obtain⟨q,hq,hfull,hsem⟩:=k1v (L:=L) (w0:=w0) (hC.ti T ti hT) hel (hC.ti e te hte) hop he;have hm:∀p∈parts.toList,p.2∈(Op.buildSlice T len parts).operands:=λp hp=>by simp only[Op.operands];simpa using⟨p.1,Array.mem_toList_iff.1 hp⟩
   exact⟨q,hq,hfull,λρs hs ha=>hsem ρs hs (λp hp=>ha.1 p.2 (hm p hp)) ha.2.1 ha.2.2.1⟩
  ·cases he
 ·rename_i T x y;refine⟨?_,(λ_ _ _ h=>by cases h),(λ_ _ _ h=>by cases h)⟩;split at he
  ·rename_i id off hx;obtain⟨q,hq,hfull,hsem⟩:=k2w (L:=L) (w0:=w0) hC.ti hop hx he;exact⟨q,hq,hfull,λρs hs ha=>hsem ρs hs (ha.1 x (by simp[Op.operands])) (ha.1 y (by simp[Op.operands]))⟩
  ·cases he
 ·rename_i g args Ts;refine⟨?_,(λ_ _ _ h=>by cases h),(λ_ _ _ h=>by cases h)⟩;split at he
  ·rename_i f id off len cap hgv hargs;obtain⟨x,hax,hx⟩:=args1 hargs;subst hax;obtain⟨q,hq,hfull,hsem⟩:=k2z hC hop hgv hx he;exact⟨q,hq,hfull,λρs hs ha=>hsem ρs hs (ha.1 g (by simp[Op.operands,Call.operands])) (ha.1 x (by simp[Op.operands,Call.operands])) ha.2.1⟩
  ·cases he
 ·rename_i f first caps;refine⟨?_,(λ_ _ _ h=>by cases h),(λ_ _ _ h=>by cases h)⟩;split at he
  ·rename_i x hfirst hcaps;have hfirst:first=#[x]:=aX.1 hfirst;have hcaps:caps=#[]:=aX.1 hcaps;subst hfirst;subst hcaps;split at he
   ·rename_i id off hx;exact⟨_,he,rfl,λρs hs ha=>k2l hop ((ha.1 x (by simp[Op.operands])).trans hx) hs⟩
   ·cases he
  ·cases he
 ·rename_i args Ts;refine⟨?_,(λ_ _ _ h=>by cases h),(λ_ _ _ h=>by cases h)⟩;split at he
  ·rename_i id p T hargs hTs;obtain⟨x,hax,hx⟩:=args1 hargs;subst hax;have hTs:Ts=#[T]:=aX.1 hTs;subst hTs;obtain⟨ti,e,te,hT,hel,hte,he⟩:=q8c he;split at he
   ·rename_i e' k l f hid;obtain⟨m,hm,he⟩:=z9c he;exact⟨_,he,rfl,λρs hs ha=>k2e (hC.ti T ti hT) hel hop ((ha.1 x (by simp[Op.operands,Call.operands])).trans hx) ((ha.2.1 id (by simp[E1])).trans hid) hm⟩
   ·cases he
  ·cases he
 ·rename_i args Ts;refine⟨?_,(λ_ _ _ h=>by cases h),(λ_ _ _ h=>by cases h)⟩;split at he
  ·rename_i sx id2 T T' hargs hTs;obtain⟨s,x,hax,hs1,hx1⟩:=args2 hargs;subst hax;have hTs:Ts=#[T,T']:=aX.1 hTs;subst hTs;obtain⟨hc,he1⟩:=B1 he;clear he;have hc:=ab hc;subst hc;obtain⟨ti,e,te,hT,hel,hte,he⟩:=q8c he1;obtain⟨q,hq,hfull,hsem⟩:=k1o (L:=L) (w0:=w0) (hC.ti T ti hT) hel (hC.ti e te hte) hop hs1 hx1 he;exact⟨q,hq,hfull,λρs hs ha=>hsem ρs hs (ha.1 s (by simp[Op.operands,Call.operands])) (ha.1 x (by simp[Op.operands,Call.operands])) ha.2.1 ha.2.2.1⟩
  ·cases he
 ·cases he
theorem q5w {id:Nat}:∀(u:List (Nat×AObj)) (h hs:Heap),hs id=h id->A3 u hs id=A3 u h id
 | [],_,_,a=>a
 | p::u,h,hs,a=>q5w u (upd h p.1 p.2) (upd hs p.1 p.2) (by
  grind[A2,A0])
def q5t (L:Nat->Prop) (w0:World) (v:List (Nat×AObj)) (h0:Heap):Prop :=
 ∀hs,(∀p∈v,hs p.1=h0 p.1)->∀κ w,HeapOK L w0 κ hs w->∃κ',HeapOK L w0 κ' (A3 v hs) w/\Ext L κ hs w κ' (A3 v hs) w
theorem v9f {ρs:Env} {hs h':Heap} {v:List (Nat×AObj)} {k:Heap} {av:AV} (g:q5t L w0 v k) (f:∀p∈v,hs p.1=k p.1) (c:A9 P L w0 o ρs (A3 v hs) h' av):A9 P L w0 o ρs hs h' av:=by
 intro r x a w n y m K Q q s;obtain⟨i,z,d⟩:=g hs f x w y;exact c r i a w (λt=>(n t).ext d) z m K Q (λb v h e j u=>q b v h e j (d.trans u)) λT l b h e j=>s T l b h e (d.trans j)
theorem v9g {κ:A6} {w:World} (ok:HeapOK L w0 κ h w) {id g:Nat} {e:TypeId} {k:OT} {l:List k.den} {f:List (List Nat×Nat)} (hid:h id=.tree e k l f) {i0:Nat} {p0:List Nat} (hno:∀q∈f,q.1≠i0::p0) {y0:k.den} {ob:AObj} (hy0:l[i0]? = some y0) (hg0:k.getK y0 p0 some=some ob) (hf:h g=.fresh) :
  ∃κ',HeapOK L w0 κ' (upd (upd h id (.tree e k l ((i0::p0,g)::f))) g ob) w/\Ext L κ h w κ' (upd (upd h id (.tree e k l ((i0::p0,g)::f))) g ob) w:=by
 have hnid:g≠id:=λe0=>by rw[e0,hid]at hf;cases hf
 have hob1:=ok.obj id;rw[hid]at hob1;rcases hob1 with⟨_,hl0,_⟩ | ⟨b1,cap1,cur,r1,r2,r3,r4,r5,r6,r7⟩
 ·rw[hl0]at hy0;cases hy0
 have hkg:upd (upd κ g (κ (kn id (enc (i0::p0))))) (kn id (enc (i0::p0))) none g=κ (kn id (enc (i0::p0))):=by
  rw[A0 _ _ (λe0=>J0 ok (R8 hf) id _ e0.symm),A2]
 have hoff:∀q,q≠i0::p0->q≠[]->upd (upd κ g (κ (kn id (enc (i0::p0))))) (kn id (enc (i0::p0))) none (gh id q)=κ (gh id q):=by
  intro q hq hq0;cases q with
  | nil=>exact absurd rfl hq0
  | cons j q =>
   show upd (upd κ g (κ (kn id (enc (i0::p0))))) (kn id (enc (i0::p0))) none (kn id (enc (j::q)))=_;rw[A0 _ _ (λe0=>hq (q17 (J6 e0).2)),A0 _ _ (J0 ok (R8 hf) id _)];rfl
 obtain⟨g1,g2⟩:=y3a ok (id:=id) (g:=g) (i:=enc (i0::p0)) (obj':=.tree e k l ((i0::p0,g)::f)) (og:=ob) (by rw[hid];simp) (by rw[hid];rfl) hf
  (λe2 k2 l2 f2 h2 q n hn=>by
   rw[hid]at h2;cases h2;cases q with
   | nil=>exactλe0=>J0 ok (id:=id) (by rw[hid];simp) id _ e0.symm
   | cons j q =>
    intro e0;have:=q17 (J6 e0).2;rw[this]at hn;obtain⟨y1,hy1,hn⟩:=ae.1 hn;rw[hy0]at hy1;cases hy1;rw[q4v k hg0]at hn;cases hn)
  (by rw[hid];exact .tree _ _ _ _ _ _ λ_ _ hn=>hn) (λhx=>by
   have hi:=r7 i0 y0 hy0;have hO:=q56 hx (A2 _ _ _) k (p:=p0) (pl:=λq=>κ (gh id (i0::q)))
    (pl':=λq=>upd (upd κ g (κ (kn id (enc (i0::p0))))) (kn id (enc (i0::p0))) none (gh id (i0::q))) hkg (λq hq=>hoff _ (λe0=>hq (aF e0).2) (by simp)) (q2h hno) hg0 hi
   refine⟨.inr ⟨b1,cap1,cur,?_,r2,r3,r4,r5,r6,λj y' hj=>?_⟩,hO.2⟩
   ·rw[A0 _ _ (λe0=>J0 ok (id:=id) (by rw[hid];simp) id _ e0.symm),A0 _ _ (Ne.symm hnid)];exact r1
   ·by_cases hji:i0=j
    ·subst hji;rw[hy0]at hj;cases hj;rw[Q8];exact hO.1
    ·rw[P8 hji];have e1:(λq=>upd (upd κ g (κ (kn id (enc (i0::p0))))) (kn id (enc (i0::p0))) none (gh id (j::q)))=λq=>κ (gh id (j::q)):=funext λq=>hoff _ (λe0=>hji (aF e0).1.symm) (by simp);rw[e1];exact RepO.ext hx k (λ_ _ _ _=>rfl) (r7 j y' hj))
 exact⟨_,g1.1,g1.2⟩
theorem v4r {κ:A6} {w:World} (ok:HeapOK L w0 κ h w) {id c j:Nat} {e e1:TypeId} {t1:Ty} {l:List (List t1.den)} (hid:h id=.tree e (.arr e1 t1) l []) {cs:List SV} (hc:h c=.cells cs) (hj:cs[j]? = some (.ts id [])) :
  ∃κ',HeapOK L w0 κ' (upd (upd h id .dead) c (.cells (cs.set j (.sc (.list (.list t1)) l)))) w/\Ext L κ h w κ' (upd (upd h id .dead) c (.cells (cs.set j (.sc (.list (.list t1)) l)))) w:=by
 have hne:c≠id:=λe0=>by rw[e0,hid]at hc;cases hc
 let κ1:A6:=λq=>open Classical in if ∃n,q=kn id n then none else κ q
 have k1:∀n,κ1 (kn id n)=none:=λn=>if_pos ⟨n,rfl⟩;have k2:∀q,(∀n,q≠kn id n)->κ1 q=κ q:=λq hq=>if_neg λ⟨n,hn⟩=>hq n hn;have ks:∀q x,κ1 q=some x->(∀n,q≠kn id n)/\κ q=some x:=λq x hq=>by
  have:∀n,q≠kn id n:=λn e0=>by rw[e0,k1]at hq;cases hq
  exact⟨this,(k2 q this).symm.trans hq⟩
 have nk:∀q,h q≠.kid->∀n,q≠kn id n:=λq hq n e0=>hq (by rw[e0];exact N4 ok id n);have hlv:∀q,(upd (upd h id .dead) c (.cells (cs.set j (.sc (.list (.list t1)) l))) q).live=true->q≠id/\(h q).live=true:=λq hq=>by
  by_cases e0:q=c
  ·subst e0;exact⟨hne,by rw[hc];rfl⟩
  ·rw[A0 _ _ e0]at hq;by_cases e2:q=id
   ·subst e2;rw[A2]at hq;cases hq
   ·rw[A0 _ _ e2]at hq;exact⟨e2,hq⟩
 have mv:Moves κ h κ1 (upd (upd h id .dead) c (.cells (cs.set j (.sc (.list (.list t1)) l)))) (λq=>q) :=
  ⟨λq b x hq hk=>⟨(hlv q hq).2,x,(ks q _ hk).2⟩,λ_ _ _ _ _ _ _ _ _ _ he=>he⟩
 have hfree0:∀b x,κ id=some (b,x)->A4 L κ1 (upd (upd h id .dead) c (.cells (cs.set j (.sc (.list (.list t1)) l)))) w b:=λb x hk=>by
  have hl:(h id).live=true:=by rw[hid];rfl
  refine⟨(ok.own id b x hl hk).2,λhL=>(ok.outer b hL).2 id x hl hk,λq y hq hkq=>?_⟩;exact(hlv q hq).1 (ok.inj q id b y x (hlv q hq).2 hl (ks q _ hkq).2 hk)
 have hfree1:∀n b x,κ (kn id n)=some (b,x)->A4 L κ1 (upd (upd h id .dead) c (.cells (cs.set j (.sc (.list (.list t1)) l)))) w b:=λn b x hk=>by
  have hl:=q1d ok id n;refine⟨(ok.own _ b x hl hk).2,λhL=>(ok.outer b hL).2 _ x hl hk,λq y hq hkq=>?_⟩;exact(ks q _ hkq).1 n (ok.inj q _ b y x (hlv q hq).2 hl (ks q _ hkq).2 hk)
 refine⟨κ1,q8z ok mv (λq hq=>k2 q (nk q hq.2)) (λq=>?_) (λq e' k' l' f' hq hd p n _ hk=>?_) (λq hq=>?_) (λhx q=>?_)⟩
 ·by_cases e0:q=c
  ·subst e0;rw[A2,hc];exact .cells _ _
  ·rw[A0 _ _ e0];by_cases e2:q=id
   ·subst e2;rw[A2];exact .gone _ (by rw[hid];simp)
   ·rw[A0 _ _ e2];exact .same _
 ·have hqi:q≠id:=λe0=>hd (by rw[e0,A0 _ _ (Ne.symm hne),A2]);cases p with
  | nil=>rw[show gh q []=q from rfl,hq]at hk;cases hk
  | cons a p=>exact k2 _ λn e0=>hqi (J6 e0).1
 ·have:=ok.kids q hq;rw[A0 _ _ (λe0=>by rw[e0,hc]at this;cases this),A0 _ _ (λe0=>by rw[e0,hid]at this;cases this)];exact this
 ·by_cases e0:q=c
  ·subst e0;rw[A2];refine .inl ?_;have hob:=ok.obj q;rw[hc]at hob;obtain⟨b,c',us,ty,r1,r2,r3,r4⟩:=hob;refine⟨b,c',us,ty,(k2 q (nk q (by rw[hc];simp))).trans r1,r2,r3.trans (by simp),λi s u hi hu=>?_⟩;by_cases e3:i=j
   ·subst e3;have hlt:i<cs.length:=(ag.1 hj).1;rw[ca hlt]at hi;cases hi;obtain⟨⟨t1',_⟩,t2⟩:=r4 i _ u hj hu;refine⟨⟨rfl,t2,?_⟩,t2⟩;rw[hid]at t1';rcases t1' with⟨_,a2,a3,a4⟩ | ⟨n,b0,cap,a1,a2,_,a4⟩
    ·subst a3;exact⟨none,0,0,by rw[a4];rfl,rfl,ax _,λhh=>absurd rfl hh⟩
    ·have hob:=ok.obj id;rw[hid]at hob;rcases hob with⟨h0,_⟩ | ⟨b1,cap1,cur,s1,s2,s3,s4,s5,s6,s7⟩
     ·rw[show gh id []=id from rfl,h0]at a2;cases a2
     rw[show gh id []=id from rfl,s1]at a2;obtain⟨rfl,rfl⟩:b1=b0/\cap1=cap:=by simpa using a2
     have hn:l.length=n:=bI a1;refine⟨some ⟨b1,cap1.2,none⟩,n,cap1.1,by rw[a4];rfl,hn.symm,by omega,λ_=>⟨b1,cap1.2,rfl,hfree0 b1 cap1 s1,λi y hy=>?_⟩⟩;obtain⟨v,v1,v2,v3⟩:=s7 i y hy;have hcell:(λc=>if c<(Ty.list t1).size then w.cell? ⟨b1,cap1.2+(i*(Ty.list t1).size+c),none⟩else none) 0=some v:=by
      have:cur[cap1.2+i]? = some v:=v1;simp[Ty.size,World.cell?,s2,this]
     rcases v2 with⟨w1,w2,w3⟩ | ⟨b2,cap2,w1,w2⟩
     ·subst w2;exact⟨none,0,0,by rw[hcell,w3],rfl,ax _,λhh=>absurd rfl hh⟩
     ·rcases v3 with⟨x1,_⟩ | ⟨b3,cap3,cur3,x1,x2,x3,x4,x5,x6,x7⟩
      ·rw[w1]at x1;cases x1
      rw[w1]at x1;cases x1;refine⟨some ⟨b2,cap2.2,none⟩,y.length,cap2.1,by rw[hcell,w2],rfl,x5,λ_=>⟨b2,cap2.2,rfl,hfree1 _ b2 cap2 w1,λi2 y2 hy2=>?_⟩⟩;refine RepAt.congr t1 _ _ y2 (λc0 hc0=>?_) (RepAt.ext hx (x7 i2 y2 hy2));simp[hc0,World.cell?,x2,bT]
   ·rw[cU (Ne.symm e3)]at hi;exact⟨RepSV.ext hx _ _ (r4 i s u hi hu).1,(r4 i s u hi hu).2⟩
  ·rw[A0 _ _ e0];by_cases e2:q=id
   ·subst e2;rw[A2];exact .inl trivial
   ·rw[A0 _ _ e2];by_cases e3:h q=.kid
    ·rw[e3];exact .inl trivial
    ·exact .inr ⟨rfl,k2 q (nk q e3),λn=>k2 _ λm e4=>e2 (J6 e4).1⟩
theorem y01 {u v:List (Nat×AObj)} (g1:q5t L w0 u h) (g2:q5t L w0 v (A3 u h)):q5t L w0 (u++v) h:=λhs hup κ w ok=>by
 obtain⟨κ1,a1,a2⟩:=g1 hs (λp hp=>hup p (aB _ hp)) κ w ok;obtain⟨κ2,b1,b2⟩:=g2 _ (λp hp=>q5w u h hs (hup p (aC _ hp))) κ1 w a1;rw[M4];exact⟨κ2,b1,a2.trans b2⟩
theorem y37 {id n g:Nat} {p:List Nat} {K:List (Nat×AObj)->Option R} (he:z6b h id p n g K=some z):∃u,K u=some z/\q5t L w0 u h:=by
 unfold z6b at he;split at he
 ·rename_i e k l f hid;obtain⟨c,hc,he⟩:=ae.1 he;obtain⟨_,_,he⟩:=ae.1 he;obtain⟨hno,he⟩:=B1 he;obtain⟨i0,p0,y0,ob,rfl,hy0,hg0,he⟩:=q7t he;obtain⟨hf,he⟩:=Q7 he;refine⟨_,he,λhs hup κ w ok=>?_⟩;have hids:hs id=.tree e k l f:=(hup (id,AObj.tree e k l ((i0::p0,g)::f)) (by simp)).trans hid;have hfs:hs g=.fresh:=(hup (g,ob) (by simp)).trans hf;exact v9g ok hids (λq hq e0=>by
   have:=aG.1 hno q hq;rw[e0,z6d]at this;cases this) hy0 hg0 hfs
 ·cases he
theorem q1j {R:Type} {ρ:Operand->AV} {K:List (Nat×AObj)->Heap->Option R} {z:R}:∀(ps:List (Nat×(Nat×Nat))) (u:List (Nat×AObj)) (h:Heap),V7 ρ K ps u h=some z->∃v,K (u++v) (A3 v h)=some z/\q5t L w0 v h
 | [],u,h,he=>⟨[],by rw[bP];exact he,λhs _ κ w ok=>⟨κ,ok,Ext.refl L κ hs w⟩⟩
 | (t,(i,g))::r,u,h,he=>by
  simp only[V7]at he;split at he
  ·obtain⟨u1,he,g1⟩:=y37 (L:=L) (w0:=w0) he;obtain⟨v2,hv2,g2⟩:=q1j r _ _ he;exact⟨u1++v2,by rw[M4,<-aS];exact hv2,y01 g1 g2⟩
  ·rename_i c j _;split at he
   ·rename_i cs hc;split at he
    ·split at he
     ·obtain⟨n,_,he⟩:=ae.1 he;obtain⟨u1,he,g1⟩:=y37 (L:=L) (w0:=w0) he;obtain⟨v2,hv2,g2⟩:=q1j r _ _ he;exact⟨u1++v2,by rw[M4,<-aS];exact hv2,y01 g1 g2⟩
     ·exact q1j r u h he
    ·split at he
     ·rename_i id hj;split at he
      ·rename_i e e1 t1 l f hid;rw[q10]at he;obtain⟨⟨l1,v⟩,hcl,he⟩:=ae.1 he;obtain⟨hvc,he⟩:=B1 he;obtain⟨v2,hv2,g2⟩:=q1j r _ _ he;refine⟨(v++[(id,.tree e (.arr e1 t1) l1 []),(id,.dead),(c,.cells (cs.set (j+i) (.sc (.list (.list t1)) l1)))])++v2,by rw[M4,<-aS];exact hv2,λhs hup κ w ok=>?_⟩;have hids:hs id=.tree e (.arr e1 t1) l f:=(hup (id,.dead) (by simp)).trans hid;have hcs:hs c=.cells cs:=(hup (c,.cells (cs.set (j+i) (.sc (.list (.list t1)) l1))) (by simp)).trans hc;have hne:c≠id:=λe0=>by rw[e0,hids]at hcs;cases hcs
       obtain⟨l1',u',hlu,_,h4,κ1,h5,_⟩:=q62 ok hids (q61 hcl (λp hp=>hup p (by simp[hp])));cases hlu;obtain⟨κ2,a1,a2⟩:=v4r h5.1 (A2 _ _ _) (c:=c) (cs:=cs) (by
        rw[A0 _ _ hne,q4h v hs λq hq e0=>?_]
        ·exact hcs
        ·have:=aG.1 hvc q hq;rw[e0,cT]at this;cases this) hj
       have hheap:upd (upd (upd (A3 v hs) id (.tree e (.arr e1 t1) l1 [])) id .dead) c (.cells (cs.set (j+i) (.sc (.list (.list t1)) l1)))=A3 (v++[(id,.tree e (.arr e1 t1) l1 []),(id,.dead),(c,.cells (cs.set (j+i) (.sc (.list (.list t1)) l1)))]) hs:=by
        rw[M4];rfl
       rw[hheap]at a1 a2;obtain⟨κ3,b1,b2⟩:=g2 _ (λp hp=>q5w _ h hs (hup p (aC _ hp))) κ2 w a1;rw[M4];exact⟨κ3,b1,(h5.2.trans a2).trans b2⟩
      ·cases he
     ·rename_i id hj;split at he
      ·rename_i e t l hid;obtain⟨v2,hv2,g2⟩:=q1j r _ _ he;refine⟨[(id,.ice e t l)]++v2,by rw[M4,<-aS];exact hv2,λhs hup κ w ok=>?_⟩;have hids:hs id=.arr e t l:=(hup (id,.ice e t l) (by simp)).trans hid;obtain⟨a1,a2,-⟩:=V2 [id] ok;have hice:B4 hs [id]=[(id,.ice e t l)]:=by simp[B4,hids]
       rw[hice]at a1 a2;obtain⟨κ2,b1,b2⟩:=g2 _ (λp hp=>q5w [(id,.ice e t l)] h hs (hup p (aC _ hp))) κ w a1;rw[M4];exact⟨κ2,b1,a2.trans b2⟩
      ·exact q1j r u h he
     ·exact q1j r u h he
   ·exact q1j r u h he
  ·exact q1j r u h he
theorem v4b (hC:CtxOK P L w0 C) {lo:Nat->Bool} {ps:List (Nat×(Nat×Nat))} (he:V7 (ev ρ) (λu h1=>q8g C lo id' o.op (ev ρ) h1 λq=>match q.full with
   | none=>K { q with ups:=u++q.ups }
   | some _=>none) ps [] h=some z) :
  ∃q,K q=some z/\q.full=none/\∀ρs hs,q05 o.op q ρ h ρs hs->A9 P L w0 o ρs hs (q.heap hs) q.av:=by
 obtain⟨v,hv,g⟩:=q1j (L:=L) (w0:=w0) ps [] h he;rw[cN]at hv;have main:∃q,(match q.full with
   | none=>K { q with ups:=v++q.ups }
   | some _=>none)=some z/\∀ρs hs,q05 o.op q ρ (A3 v h) ρs hs->A9 P L w0 o ρs hs (q.heap hs) q.av:=by
  unfold q8g at hv;cases hX:isX C id' o.op (ev ρ)with
  | true =>
   rw[hX,cond_true]at hv;obtain⟨⟨q,hq,_,hsem⟩,_,_⟩:=j96 hC hv;exact⟨q,hq,hsem⟩
  | false =>
   rw[hX,cond_false]at hv;obtain⟨q,hq,_,hsem⟩:=j93 hC hv;exact⟨q,hq,hsem⟩
 obtain⟨q,hq,hsem⟩:=main;cases hfull:q.full with
 | some H=>rw[hfull]at hq;cases hq
 | none =>
  rw[hfull]at hq;refine⟨{ q with ups:=v++q.ups },by rw[hfull];exact hq,hfull,λρs hs ha=>?_⟩;have hup:∀p∈v,hs p.1=h p.1:=λp hp=>ha.2.2.1 p (aB _ hp);have hheap:Eff.heap { q with ups:=v++q.ups } hs=q.heap (A3 v hs):=by
   unfold Eff.heap;simp only[hfull];rw[M4]
  rw[hheap];refine v9f g hup (hsem ρs (A3 v hs) ⟨ha.1,λid hid=>q5w v h hs (ha.2.1 id hid),λp hp=>q5w v h hs (ha.2.2.1 p (aC _ hp)),λhne=>absurd hfull hne⟩)
end Go.Abs
