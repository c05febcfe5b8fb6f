/- The engine: operations on what is owned, all together. -/
import Derived.Test.YtppblbacbmebfaaGreatDoorAbsSoundK
namespace Go.Abs
open Go Go.RowKit
variable {P:Program} {L:Nat->Prop} {w0:World}
theorem v5l {o:Oper} {f:FuncId} {x:Operand} (l:o.op=.makeFunc (.func f) #[x] #[]) {ρs:Env} {id d:Nat} (m:ev ρs x=.one (.ptr id d)) (hs:Heap) :
  A6 P L w0 o ρs hs hs (.one (.bfp f id d)):=by
 refine D1 (fun c n=>by grind) fun q a w g p=>⟨.func (.func f) #[a.eval x] #[],?_,?_⟩
 ·unfold execOp
  simp[l,Instr.makeFunc]
 ·have h:=g x
  rw[m]at h
  obtain⟨i,b,c,k,j⟩:=h
  exact⟨_,rfl,i,b,c,k,j⟩
theorem v5x {R:Type} {C:Ctx} (N:∀ t U,C.TI t=some U->U.OK P t) {o:Oper} {T:TypeId} {x y:Operand} (ho:o.op=.slice T x none (some y) none) {ρ:Env} {h:Heap} {id d:Nat} (hx:ev ρ x=.one (.ptr id d)) {K:Eff->Option R} {z:R}
  (r:z86 C T h id d (ev ρ y) K=some z):∃ q,K q=some z/\q.full=none/\∀ s B,ev s x=ev ρ x->ev s y=ev ρ y->(∀ p∈q.ups,B p.1=h p.1)->A6 P L w0 o s B (q.heap B) q.av:=by
 have hd:∀ c,o.op≠.defer c:=fun c hc=>by grind
 unfold z86 at r
 split at r
 ·rename_i U hT
  split at r
  ·rename_i n e Y
   split at r
   ·rename_i te l X hid
    split at r
    ·rename_i vs hvs
     obtain⟨q,r,O⟩:=U9 r
     obtain⟨hc,r⟩:=A8 r
     simp only[Bool.and_eq_true,decide_eq_true_eq]at hc
     obtain⟨⟨⟨⟨c1,V⟩,c3⟩,c4⟩,c5⟩:=hc
     have c1:=Nat.eq_of_beq_eq_true c1
     have V:=Nat.eq_of_beq_eq_true V
     have c3:=Nat.eq_of_beq_eq_true c3
     refine⟨_,r,rfl,fun s B h1 h2 h3=>I4 hd fun κ a w H Q=>?_⟩
     have g:B id=.cells l:=(h3 (id,.dead) (by simp)).trans hid
     have I:=H x
     rw[h1,hx]at I
     obtain⟨h0,b,c,W,hv⟩:=I
     have G:=Q.obj id
     rw[g]at G
     obtain⟨b',c',cs,ty,A,hheap,hcl,hcs⟩:=G
     rw[W]at A
     simp[Option.some.injEq,Prod.mk.injEq]at A
     obtain⟨rfl,rfl⟩:=A
     have m:(B id).gone .dead:=by grind[AObj.gone]
     have okD:=q0j Q m
     have F:=V3 (L:=L) (κ:=κ) (w:=w) m
     obtain⟨v,rfl⟩:∃ v:Nat,q=(v:Int):=⟨q.toNat,by omega⟩
     have M:v<=n:=by omega
     have E:∃ k,a.eval y=.int k (v:Int):=by
      rcases O with⟨O,_⟩ | ⟨k,O⟩
      ·grind
      ·have O:ev ρ y=.one (.sc (.int k) (v:Int)):=by grind
       have:=H y
       rw[h2,O]at this
       exact⟨k,H7 this⟩
     obtain⟨k,E⟩:=E
     obtain⟨u1,-⟩:=(N T U hT).arrT n e Y
     obtain⟨i,zz,hi,hisz,-⟩:=(N e te X).zero_one (L:=L)
     have D:A3 L κ (upd B id .dead) w b:=by
      have ho:=Q.own id b c (by rw[g];rfl) W
      refine⟨ho.2,fun hL=>(Q.outer b hL).2 id c (by rw[g];rfl) W,fun j V S hkj=>?_⟩
      by_cases Z:j=id
      ·subst Z;rw[A1]at S;cases S
      ·rw[A0 _ _ Z]at S
       exact Z (Q.inj j id b V c S (by rw[g];rfl) hkj W)
     refine⟨κ,.slice (some ⟨b,d,none⟩) v n,w,?_,okD,?_,F⟩
     ·unfold execOp
      rw[ho]
      simp[hv,E,Option.map_some,Option.map_none]
      simp[Instr.sliceAt,run_underlying u1,Instr.sliceBounds,Instr.sliceBound,asIntOf,Instr.sureAddr,S6 hi,Addr.add,M]
     ·refine⟨rfl,rfl,some ⟨b,d,none⟩,v,n,rfl,?_,M,fun _=>⟨b,d,rfl,D,fun j u hu=>?_⟩⟩
      ·grind
      ·obtain⟨g1,g2⟩:=q62 hvs
       have hjq:j<v:=by
        grind
       have hu2:vs[j]? = some u:=by
        grind
       have hl:=g2 j u hu2
       rw[List.getElem?_take_of_lt (by omega),List.getElem?_drop]at hl
       have hlt:d+j<cs.length:=by grind
       obtain⟨⟨r1,r2,r3⟩,-⟩:=hcs (d+j) _ cs[d+j] hl (List.getElem?_eq_getElem hlt)
       refine RepAt.congr te.ty _ _ u (fun c0 hc0=>?_) (r3.ext F)
       grind[F7,World.cell?]
    grind
   grind
  grind
 grind
theorem v62 {R:Type} {C:Ctx} (A:∀ t B,C.TI t=some B->B.OK P t) {o:Oper} {T:TypeId} {x y:Operand} (J:o.op=.slice T x none (some y) none) {ρ:Env} {h:Heap} {id j:Nat} (Q:ev ρ x=.one (.ptr id j)) {K:Eff->Option R} {z:R}
  (g:z89 C T h id j (ev ρ y) K=some z):∃ q,K q=some z/\q.full=none/\∀ f D,ev f x=ev ρ x->ev f y=ev ρ y->A6 P L w0 o f D (q.heap D) q.av:=by
 have hd:∀ c,o.op≠.defer c:=fun c I=>by grind
 unfold z89 at g
 split at g
 ·rename_i B W
  split at g
  ·rename_i n e F
   split at g
   ·rename_i Y l G O
    obtain⟨q,g,u⟩:=U9 g
    obtain⟨I,g⟩:=A8 g
    simp[Bool.and_eq_true,decide_eq_true_eq]at I
    refine⟨_,g,rfl,fun f D U X=>D1 hd fun κ a w r ok=>?_⟩
    have s:=r x
    rw[U,Q]at s
    obtain⟨M,b,c,V,N⟩:=s
    obtain⟨p,rfl⟩:∃ p:Nat,q=(p:Int):=⟨q.toNat,by omega⟩
    have E:p<=n:=by omega
    have m:∃ k,a.eval y=.int k (p:Int):=by
     rcases u with⟨u,_⟩ | ⟨k,u⟩
     ·grind
     ·have u:ev ρ y=.one (.sc (.int k) (p:Int)):=by grind
      have:=r y
      rw[X,u]at this
      exact⟨k,H7 this⟩
    obtain⟨k,m⟩:=m
    obtain⟨Z,-⟩:=(A T B W).arrT n e F
    obtain⟨i,zz,S,H,-⟩:=(A e Y G).zero_one (L:=L)
    refine⟨.slice (some ⟨b,j,none⟩) p n,?_,M,b,c,V,by rfl⟩
    unfold execOp
    rw[J]
    simp[N,m,Option.map_some,Option.map_none]
    simp[Instr.sliceAt,run_underlying Z,Instr.sliceBounds,Instr.sliceBound,asIntOf,Instr.sureAddr,S6 S,Addr.add,E]
   grind
  grind
 grind
theorem v69 {R:Type} {C:Ctx} (hC:CtxOK P L w0 C) {o:Oper} {g x:Operand} {Ts:Array TypeId} (ho:o.op=.call { callee:=.value g,args:=#[x],argTypes:=Ts }) {ρ:Env} {h:Heap} {f id D len cap id':Nat} (hg:ev ρ g=.one (.fn f [])) (hx:ev ρ x=.one (.csl id D len cap)) {K:Eff->Option R} {z:R}
  (I:z8d C h id' f id D len cap K=some z):∃ q,K q=some z/\q.full=none/\∀ H s,ev H g=ev ρ g->ev H x=ev ρ x->(∀ i∈q.rd,s i=h i)->A6 P L w0 o H s (q.heap s) q.av:=by
 unfold z8d at I
 split at I
 ·rename_i e rs G hsp
  split at I
  ·rename_i l hid
   split at I
   ·rename_i U hvs
    obtain⟨hc,I⟩:=A8 I
    simp only[Bool.and_eq_true,Bool.not_eq_true']at hc
    obtain⟨⟨⟨⟨c1,c2⟩,hfl⟩,c4⟩,c5⟩:=hc
    have c1:=Nat.eq_of_beq_eq_true c1
    have c2:=Nat.eq_of_beq_eq_true c2
    have hone:=Nat.le_of_ble_eq_true c4
    have hne:id≠id':=fun e0=>by simp_all
    obtain⟨S,I⟩:=A8 I
    have S:=Nat.le_of_ble_eq_true S
    obtain⟨y,hy,I⟩:=Option.bind_eq_some_iff.1 I
    obtain⟨hfr,I⟩:=O2 I
    have hok:=hC.spec f _ hsp
    have hR:=q42 (P:=P) (L:=L) ho (f:=f) (pre:=[]) (post:=[]) (ρ:=ρ) (by rw[hg];rfl)
    refine⟨_,I,rfl,fun H s h1 h2 h3=>?_⟩
    have E:s id=.cells l:=(h3 id (by simp)).trans hid
    have W:s id'=.fresh:=(h3 id' (by simp)).trans hfr
    show A6 P L w0 o H s (A5 (I7 id' rs y).2 s) (q24 (I7 id' rs y).1)
    intro r κ a w henv T m K' Q hK _
    have hev:=N7 henv
    obtain⟨fn,hf1,hf2,hf3⟩:=hok.fn
    obtain⟨vs0,hrun,hvl,hvr⟩:=hR.2 fn hf1 hf2 hf3 H s (fun q hq=>by
     grind) κ a w hev
    simp[List.nil_append,List.append_nil,List.map_cons,List.map_nil,List.length_singleton]at hvl hvr
    match vs0,hvl with
    | [v],_ =>
    have V:=hvr 0 _ v rfl rfl
    rw[hx]at V
    obtain⟨h0,b,c,Y,V⟩:=V
    have hob:=T.obj id
    rw[E]at hob
    obtain⟨b',c',cs,ty,Z,hheap,hcl,hcs⟩:=hob
    rw[Y]at Z
    simp[Option.some.injEq,Prod.mk.injEq]at Z
    obtain⟨rfl,rfl⟩:=Z
    have N:(s id).gone .dead:=by grind[AObj.gone]
    have okD:=q0j T N
    have exD:=V3 (L:=L) (κ:=κ) (w:=w) N
    have hfree:A3 L κ (upd s id .dead) w b:=by
     have ho:=T.own id b c (by rw[E];rfl) Y
     refine⟨ho.2,fun hL=>(T.outer b hL).2 id c (by rw[E];rfl) Y,fun j c2 hj hkj=>?_⟩
     by_cases e0:j=id
     ·subst e0;rw[A1]at hj;cases hj
     ·rw[A0 _ _ e0]at hj
      exact e0 (T.inj j id b c2 c hj (by rw[E];rfl) hkj Y)
    let L':Nat->Prop:=fun b=>L b\/∃ i c,(upd s id .dead i).live=true/\κ i=some (b,c)
    have hL':∀ b,L' b->b<w.heap.size:=fun b O=>by
     rcases O with O | ⟨i,c,hl,Y⟩
     ·exact(T.outer b O).1
     ·exact(okD.own i b c hl Y).2
    have hfe:(A3 L κ (upd s id .dead) w)=fun b=>b<w.heap.size/\¬ L' b:=funext fun b=>propext
     ⟨fun ⟨a1,a2,a3⟩=>⟨a1,fun h=>by grind⟩,
      fun ⟨a1,a2⟩=>⟨a1,fun h=>a2 (.inl h),fun i c hl Y=>a2 (.inr ⟨i,c,hl,Y⟩)⟩⟩
    have M:P9 w (A3 L κ (upd s id .dead) w) [(false,.list e)] [v] (U.take len,()):=by
     refine⟨⟨rfl,by rw[V];rfl,some ⟨b,D,none⟩,len,cap,by rw[V];rfl,?_,S,fun _=>⟨b,D,rfl,hfree,fun j u hu=>?_⟩⟩,trivial⟩
     ·grind
     ·obtain⟨g1,g2⟩:=q62 hvs
      have hjq:j<len:=by
       grind
      have hu2:U[j]? = some u:=by
       grind
      have hl:=g2 j u hu2
      rw[List.getElem?_take_of_lt (by omega),List.getElem?_drop]at hl
      have hlt:D+j<cs.length:=by grind
      obtain⟨⟨r1,r2,r3⟩,-⟩:=hcs (D+j) _ cs[D+j] hl (List.getElem?_eq_getElem hlt)
      refine RepAt.congr e _ _ u (fun c0 hc0=>?_) (r3.ext exD)
      have:c0=0:=by omega
      subst this
      rw[if_pos (by omega),c2,Nat.mul_one,Nat.add_zero]
      grind[F7,World.cell?]
    rw[hfe]at M
    have hcall:=hok.ok (U.take len,()) y hy L' w [v] (hC.glob.below T.below) hL' M (m-1)
    refine q13 hR.1 hrun hcall fun e w' ⟨v,hev',n,bo,U,V,k⟩=>⟨v,hev',?_⟩
    have k:U5 w' (fun _=>False) w.heap.size bo rs U y:=z4f hfl k
    rcases z4g id' rs y hone w' _ _ bo U k with F | ⟨e',t,l,v',d,hnew⟩
    ·have B:=q04 (L:=L) (κ':=κ) (h':=s) (id':=id') (A:=fun _=>False) (fun b O=>O.elim) rs U y k (fun h=>absurd F h) (fun p X=>by grind)
     refine hK κ v w' ?_ ?_ ?_
     ·rw[F];exact q1m T n
     ·rw[F,V];exact q25 B.1 B.2
     ·rw[F];exact q0i n
    ·rcases hnew with⟨rfl,rfl,hv'⟩ | ⟨b,cap,cur,rfl,hv',hbb,J,hsz,hcm,hll,h1c,S⟩
     ·have okN:=q2k T e' t W
      have exN:=q1h (L:=L) (κ:=κ) (w:=w) e' t W
      have B:=q04 (L:=L) (κ':=upd κ id' none) (h':=upd s id' (.arr e' t [])) (id':=id') (A:=fun _=>False) (fun b O=>O.elim) rs U y k (fun _=>A1 _ _ _) (fun p X=>by rw[d]at X;simp at X;subst X;exact A1 _ _ _)
      refine hK (upd κ id' none) v w' ?_ ?_ ?_
      ·rw[d];exact q1m okN n
      ·rw[d,V];exact q25 B.1 B.2
      ·rw[d];exact exN.trans (q0i n)
     ·have B:=q04 (L:=L) (κ':=upd κ id' (some (b,cap))) (h':=upd s id' (.arr e' t l)) (id':=id') (A:=fun _=>False) (fun b O=>O.elim) rs U y k (fun _=>A1 _ _ _) (fun p X=>by rw[d]at X;simp at X;subst X;exact A1 _ _ _)
      have hbl:b<w'.heap.size:=(Array.getElem?_eq_some_iff.1 J).1
      refine hK (upd κ id' (some (b,cap))) v w' ?_ ?_ ?_
      ·rw[d]
       exact z92 T n _ W hbb hbl (q0r (cs:=cur.toList) (A1 _ _ _) (by simpa using J) (by simpa using hsz) hcm hll h1c (S.mono fun b O=>O.elim))
      ·rw[d,V];exact q25 B.1 B.2
      ·rw[d];exact z0x n _ W hbb
   grind
  grind
 grind
theorem j8v {t:Ty} (a:Nat) (y:t.den):∀ (vs:List t.den) (j:Nat),(q37 t a y j vs).length=vs.length/\∀ i,(q37 t a y j vs)[i]? = (vs[i]?).map fun x=>SV.sc t (cond (Nat.beq a (j+i)) y x)
 | [],j=>⟨rfl,fun i=>rfl⟩
 | x::r,j=>by
  obtain⟨b,c⟩:=j8v a y r (j+1)
  refine⟨by simp[q37,b],fun i=>?_⟩
  cases i with
  | zero=>rfl
  | succ i =>
   show(q37 t a y (j+1) r)[i]? = _
   rw[c,List.getElem?_cons_succ,show j+(i+1)=j+1+i from by omega]
theorem v6o {t:Ty} {l:List SV} {vs:List t.den} (h:q05 t l=some vs) {a:Nat} (y:t.den) (o:a+1<=l.length):q37 t a y 0 vs=C9 l a [.sc t y]:=by
 obtain⟨n,m⟩:=q62 h
 obtain⟨p,k⟩:=j8v a y vs 0
 refine List.ext_getElem? fun i=>?_
 rw[k,Nat.zero_add]
 unfold C9
 by_cases f:i<vs.length
 ·rw[List.getElem?_eq_getElem f]
  have b:=m i _ (List.getElem?_eq_getElem f)
  show some (SV.sc t (cond (Nat.beq a i) y vs[i]))=_
  have d:(l.take a).length=a:=by grind
  by_cases e:i=a
  ·simp_all
  ·have g:Nat.beq a i=false:=by
    cases j:Nat.beq a i with
    | false=>rfl
    | true=>exact absurd (Nat.eq_of_beq_eq_true j).symm e
   rw[g,cond_false,<-b]
   by_cases c:i<a
   ·rw[List.append_assoc,List.getElem?_append_left (by omega),List.getElem?_take_of_lt c]
   ·rw[List.getElem?_append_right (by simp;omega),List.length_append,d,List.getElem?_drop]
    congr 1
    simp[List.length_cons,List.length_nil]
    omega
 grind
theorem y5i {R:Type} {b:TInfo} {h:Heap} {id a:Nat} {K:Eff->Option R} {z:R} (c:z7n b h id a K=some z):q6z b h (.one (.ptr id a)) K=some z:=by
 grind[z7n,q6z,q62,Z0]
theorem y57 {R:Type} {C:Ctx} (F:CtxOK P L w0 C) {o:Oper} {id':Nat} {ρ:Env} {h:Heap} {K:Eff->Option R} {z:R} (r:z6z C id' o.op (ev ρ) h K=some z) :
  (∃ q,K q=some z/\q.full=none/\(∀ T m k,o.op=.lookup T m k false->∀ j,q.rd≠[j])/\∀ d u,S7 o.op q ρ h d u->A6 P L w0 o d u (q.heap u) q.av)/\∀ T m k,o.op≠.mapEntry T m k:=by
 generalize s:o.op=op at r
 unfold z6z at r
 split at r
 ·rename_i T x
  refine⟨?_,fun _ _ _ h=>by grind⟩
  split at r
  ·rename_i G id tt i c H B
   obtain⟨q,A,a,b⟩:=v5d (L:=L) (w0:=w0) (F.ti T G H) s B r
   exact⟨q,A,a,(fun _ _ _ h=>by grind),fun d u p=>b d u (p.1 x (by simp[Op.operands])) p.2.1 p.2.2.1⟩
  ·rename_i G id M H B
   obtain⟨q,A,a,b⟩:=j8n (L:=L) (w0:=w0) (F.ti T G H) s (by rw[B];exact y5i r)
   exact⟨q,A,a,(fun _ _ _ h=>by grind),fun d u p=>b d u (p.1 x (by simp[Op.operands])) p.2.1⟩
  grind
 ·rename_i T x y
  refine⟨?_,fun _ _ _ h=>by grind⟩
  split at r
  ·rename_i G id tt i c H B
   obtain⟨q,A,a,b⟩:=v6a (L:=L) (w0:=w0) (F.ti T G H) s B r
   exact⟨q,A,a,(fun _ _ _ h=>by grind),fun d u p=>b d u (p.1 x (by simp[Op.operands])) (p.1 y (by simp[Op.operands])) p.2.1 p.2.2.1⟩
  ·rename_i G id M H B
   unfold j4l at r
   split at r
   ·rename_i l t v O hy
    split at r
    ·rename_i vs y' hvs U
     obtain⟨htt,Y⟩:=H2 U
     subst htt
     change v=y' at Y
     subst Y
     obtain⟨hc,r⟩:=A8 r
     rw[Bool.and_eq_true]at hc
     have hsz:=Nat.eq_of_beq_eq_true hc.1
     have W:=Nat.le_of_ble_eq_true hc.2
     refine⟨_,r,rfl,(fun _ _ _ h=>by grind),fun d u p=>?_⟩
     have:=j8t (L:=L) (w0:=w0) (F.ti T G H) s (vs:=[.sc G.ty v]) ((p.1 x (by simp[Op.operands])).trans B) ((p.2.2.1 (id,.cells (q37 G.ty M v 0 vs)) (by simp)).trans O) (by rw[p.1 y (by simp[Op.operands]),hy];rfl) rfl (by grind) W
     rw[<-v6o hvs v W]at this
     exact this
    grind
   grind
  grind
 ·rename_i T x i
  refine⟨?_,fun _ _ _ h=>by grind⟩
  split at r
  ·rename_i G id H B
   split at r
   ·rename_i e N
    split at r
    ·rename_i te S
     obtain⟨q,A,a,b⟩:=v4z (L:=L) (w0:=w0) (F.ti T G H) N (F.ti e te S) s B r
     exact⟨q,A,a,(fun _ _ _ h=>by grind),fun d u p=>b d u (p.1 x (by simp[Op.operands])) (p.1 i (by simp[Op.operands])) p.2.1⟩
    grind
   grind
  grind
 ·rename_i T m i
  refine⟨?_,fun _ _ _ h=>by grind⟩
  split at r
  ·rename_i id Z
   obtain⟨q,A,a,hrd,b⟩:=v5i (L:=L) (w0:=w0) F.ti s Z r
   exact⟨q,A,a,(fun _ _ _ _=>hrd),fun d u p=>b d u (p.1 m (by simp[Op.operands])) (p.1 i (by simp[Op.operands])) p.2.1 p.2.2.1⟩
  grind
 ·rename_i T m k v
  refine⟨?_,fun _ _ _ h=>by grind⟩
  split at r
  ·rename_i id Z
   obtain⟨q,A,a,b⟩:=j8u (L:=L) (w0:=w0) F.ti (.inl s) Z r
   exact⟨q,A,a,(fun _ _ _ h=>by grind),fun d u p=>b d u (p.1 m (by simp[Op.operands])) (p.1 k (by simp[Op.operands])) (p.1 v (by simp[Op.operands])) p.2.1 p.2.2.1⟩
  grind
 ·rename_i T m k v
  refine⟨?_,fun _ _ _ h=>by grind⟩
  split at r
  ·rename_i id Z
   obtain⟨q,A,a,b⟩:=j8u (L:=L) (w0:=w0) F.ti (.inr s) Z r
   exact⟨q,A,a,(fun _ _ _ h=>by grind),fun d u p=>b d u (p.1 m (by simp[Op.operands])) (p.1 k (by simp[Op.operands])) (p.1 v (by simp[Op.operands])) p.2.1 p.2.2.1⟩
  grind
 ·rename_i T x y
  refine⟨?_,fun _ _ _ h=>by grind⟩
  split at r
  ·rename_i G t n c H hdp B hy
   split at r
   ·rename_i e N
    split at r
    ·rename_i te S
     obtain⟨q,A,a,b⟩:=v5m (L:=L) (w0:=w0) (F.ti T G H) N (F.ti e te S) s B hy r
     exact⟨q,A,a,(fun _ _ _ h=>by grind),fun d u p=>b d u (p.1 x (by simp[Op.operands])) (p.1 y (by simp[Op.operands])) p.2.2.1⟩
    grind
   grind
  grind
 ·rename_i T
  refine⟨?_,fun _ _ _ h=>by grind⟩
  split at r
  ·rename_i t hdp
   obtain⟨q,A,a,b⟩:=v5p (L:=L) (w0:=w0) F.ti s r
   exact⟨q,A,a,(fun _ _ _ h=>by grind),fun d u p=>b d u p.2.2.1⟩
  grind
 ·rename_i op T x T'
  refine⟨?_,fun _ _ _ h=>by grind⟩
  split at r
  ·rename_i B
   obtain⟨q,A,a,b⟩:=j8r (L:=L) (w0:=w0) F.ti s B (.inr ⟨rfl,rfl⟩) r
   exact⟨q,A,a,(fun _ _ _ h=>by grind),fun d u p=>b d u (p.1 x (by simp[Op.operands]))⟩
  ·rename_i g B
   obtain⟨q,A,a,b⟩:=j8r (L:=L) (w0:=w0) F.ti s B (.inl ⟨_,rfl,rfl⟩) r
   exact⟨q,A,a,(fun _ _ _ h=>by grind),fun d u p=>b d u (p.1 x (by simp[Op.operands]))⟩
  grind
 ·rename_i T x y
  refine⟨?_,fun _ _ _ h=>by grind⟩
  split at r
  ·rename_i id M B
   split at r
   ·obtain⟨q,A,a,b⟩:=v62 (L:=L) (w0:=w0) F.ti s B r
    exact⟨q,A,a,(fun _ _ _ h=>by grind),fun d u p=>b d u (p.1 x (by simp[Op.operands])) (p.1 y (by simp[Op.operands]))⟩
   ·obtain⟨q,A,a,b⟩:=v5x (L:=L) (w0:=w0) F.ti s B r
    exact⟨q,A,a,(fun _ _ _ h=>by grind),fun d u p=>b d u (p.1 x (by simp[Op.operands])) (p.1 y (by simp[Op.operands])) p.2.2.1⟩
  grind
 ·rename_i g D Ts
  refine⟨?_,fun _ _ _ h=>by grind⟩
  split at r
  ·rename_i f id M len cap hgv w
   obtain⟨x,Q,B⟩:∃ x,D=#[x]/\ev ρ x=.one (.csl id M len cap):=by
    obtain⟨l,hl⟩:∃ l,D.toList=l:=⟨_,rfl⟩
    rw[hl]at w
    match l,w with
    | [],h=>grind
    | [x],h=>grind
    | _::_::_,h=>grind
   subst Q
   obtain⟨q,A,a,b⟩:=v69 F s hgv B r
   exact⟨q,A,a,(fun _ _ _ h=>by grind),fun d u p=>b d u (p.1 g (by simp[Op.operands,Call.operands])) (p.1 x (by simp[Op.operands,Call.operands])) p.2.1⟩
  grind
 ·rename_i f V caps
  refine⟨?_,fun _ _ _ h=>by grind⟩
  split at r
  ·rename_i x E J
   have E:V=#[x]:=Array.toList_inj.1 E
   have J:caps=#[]:=Array.toList_inj.1 J
   subst E;subst J
   split at r
   ·rename_i id M B
    exact⟨_,r,rfl,(fun _ _ _ h=>by grind),fun d u p=>v5l s ((p.1 x (by simp[Op.operands])).trans B) u⟩
   grind
  grind
 ·rename_i D Ts
  refine⟨?_,fun _ _ _ h=>by grind⟩
  have one:∀ {v:AV},D.toList.map (ev ρ)=[v]->∃ x,D=#[x]/\ev ρ x=v:=by
   intro v w
   obtain⟨l,hl⟩:∃ l,D.toList=l:=⟨_,rfl⟩
   match l,w with
   | [],h=>grind
   | [x],h=>grind
   | _::_::_,h=>grind
  split at r
  ·rename_i id T w I
   obtain⟨x,Q,B⟩:=one w
   subst Q
   have I:Ts=#[T]:=Array.toList_inj.1 I
   subst I
   split at r
   ·rename_i G e' t l f H O
    split at r
    ·rename_i e N
     refine⟨_,r,rfl,(fun _ _ _ h=>by grind),fun d u p=>?_⟩
     exact v5a (F.ti T G H) N s ((p.1 x (by simp[Op.operands,Call.operands])).trans B) ((p.2.1 id (by simp[E9])).trans O)
    grind
   grind
  ·rename_i id T w I
   obtain⟨x,Q,B⟩:=one w
   subst Q
   have I:Ts=#[T]:=Array.toList_inj.1 I
   subst I
   split at r
   ·rename_i G ak tk t l f H O
    split at r
    ·rename_i kv hmp
     refine⟨_,r,rfl,(fun _ _ _ h=>by grind),fun d u p=>?_⟩
     exact v5c (F.ti T G H) hmp s ((p.1 x (by simp[Op.operands,Call.operands])).trans B) ((p.2.1 id (by simp[E9])).trans O)
    grind
   grind
  grind
 grind
theorem z0k {R:Type} {C:Ctx} {T:TypeId} {K:TInfo->TypeId->TInfo->Option R} {z:R} (c:q4r C T K=some z):∃ a e b,C.TI T=some a/\a.elem=some e/\C.TI e=some b/\K a e b=some z:=by
 grind[q4r]
theorem y5h {R:Type} {C:Ctx} (I:CtxOK P L w0 C) {o:Oper} {id':Nat} {ρ:Env} {h:Heap} {K:Eff->Option R} {z:R} (r:z7k C id' o.op (ev ρ) h K=some z) :
  (∃ q,K q=some z/\q.full=none/\∀ g w,S7 o.op q ρ h g w->A6 P L w0 o g w (q.heap w) q.av)/\(∀ T m k,o.op≠.lookup T m k false)/\∀ T m k,o.op≠.mapEntry T m k:=by
 generalize E:o.op=op at r
 have U:∀ {d:Array Operand} {v:AV},d.toList.map (ev ρ)=[v]->∃ x,d=#[x]/\ev ρ x=v:=by
  intro d v b
  obtain⟨l,W⟩:∃ l,d.toList=l:=⟨_,rfl⟩
  rw[W]at b
  match l,b with
  | [],h=>grind
  | [x],h=>grind
  | _::_::_,h=>grind
 have S:∀ {d:Array Operand} {v v':AV},d.toList.map (ev ρ)=[v,v']->∃ x y,d=#[x,y]/\ev ρ x=v/\ev ρ y=v':=by
  intro d v v' b
  obtain⟨l,W⟩:∃ l,d.toList=l:=⟨_,rfl⟩
  rw[W]at b
  match l,b with
  | [],h=>grind
  | [_],h=>grind
  | [x,y],h=>grind
  | _::_::_::_,h=>grind
 unfold z7k at r
 split at r
 ·rename_i T x
  refine⟨?_,(fun _ _ _ h=>by grind),(fun _ _ _ h=>by grind)⟩
  split at r
  ·rename_i H id tt i c G Q
   obtain⟨q,J,a,j⟩:=v5e (L:=L) (w0:=w0) (I.ti T H G) E Q r
   exact⟨q,J,a,fun g w u=>j g w (u.1 x (by simp[Op.operands])) u.2.1 u.2.2.1⟩
  grind
 ·rename_i T x y
  refine⟨?_,(fun _ _ _ h=>by grind),(fun _ _ _ h=>by grind)⟩
  split at r
  ·rename_i H id tt i c G Q
   obtain⟨q,J,a,j⟩:=v6b (L:=L) (w0:=w0) (I.ti T H G) E Q r
   exact⟨q,J,a,fun g w u=>j g w (u.1 x (by simp[Op.operands])) (u.1 y (by simp[Op.operands])) u.2.1 u.2.2.1⟩
  grind
 ·rename_i T x i
  refine⟨?_,(fun _ _ _ h=>by grind),(fun _ _ _ h=>by grind)⟩
  obtain⟨H,e,V,G,D,F,r⟩:=z0k r
  split at r
  ·rename_i id kk n Q hi
   split at r
   ·rename_i e' t c t1 l k f N
    obtain⟨O,r⟩:=A8 r
    simp only[Bool.and_eq_true]at O
    exact⟨_,r,rfl,fun g w u=>v54 (I.ti T H G) D (I.ti e V F) E Q N hi (Nat.eq_of_beq_eq_true O.1) O.2 g w (u.1 x (by simp[Op.operands])) (u.1 i (by simp[Op.operands])) (u.2.1 id (by simp[E9]))⟩
   grind
  grind
 ·rename_i d Z
  refine⟨?_,(fun _ _ _ h=>by grind),(fun _ _ _ h=>by grind)⟩
  split at r
  ·rename_i id T b B
   obtain⟨x,M,Q⟩:=U b
   subst M
   have B:Z=#[T]:=Array.toList_inj.1 B
   subst B
   obtain⟨H,e,V,G,D,F,r⟩:=z0k r
   split at r
   ·rename_i e' t c t1 l k f N
    exact⟨_,r,rfl,fun g w u=>v5b (I.ti T H G) D E ((u.1 x (by simp[Op.operands,Call.operands])).trans Q) ((u.2.1 id (by simp[E9])).trans N)⟩
   grind
  grind
 ·rename_i d Z
  refine⟨?_,(fun _ _ _ h=>by grind),(fun _ _ _ h=>by grind)⟩
  split at r
  ·rename_i id id2 T T' b B
   obtain⟨s,x,M,hs1,hx1⟩:=S b
   subst M
   have B:Z=#[T,T']:=Array.toList_inj.1 B
   subst B
   obtain⟨O,Y⟩:=A8 r
   have O:=Nat.eq_of_beq_eq_true O
   subst O
   obtain⟨H,e,V,G,D,F,r⟩:=z0k Y
   obtain⟨q,J,a,j⟩:=v3u (L:=L) (w0:=w0) (I.ti T H G) D (I.ti e V F) E hs1 hx1 r
   exact⟨q,J,a,fun g w u=>j g w (u.1 s (by simp[Op.operands,Call.operands])) (u.1 x (by simp[Op.operands,Call.operands])) u.2.1 u.2.2.1⟩
  grind
 ·rename_i T len A
  refine⟨?_,(fun _ _ _ h=>by grind),(fun _ _ _ h=>by grind)⟩
  split at r
  ·obtain⟨H,e,V,G,D,F,r⟩:=z0k r
   obtain⟨q,J,a,j⟩:=v4a (L:=L) (w0:=w0) (I.ti T H G) D (I.ti e V F) E r
   have hm:∀ p∈A.toList,p.2∈(Op.buildSlice T len A).operands:=fun p X=>by grind[Op.operands]
   exact⟨q,J,a,fun g w u=>j g w (fun p X=>u.1 p.2 (hm p X)) u.2.2.1 fun l W=>z9s A.toList 0 l [] W (fun p X=>u.1 p.2 (hm p X)) (fun id hm=>by grind)⟩
  grind
 ·rename_i T m i
  refine⟨?_,(fun _ _ _ h=>by grind),(fun _ _ _ h=>by grind)⟩
  obtain⟨q,J,a,j⟩:=v5f (L:=L) (w0:=w0) I.ti E r
  exact⟨q,J,a,fun g w u=>j g w (u.1 m (by simp[Op.operands])) (u.1 i (by simp[Op.operands])) u.2.1⟩
 grind
theorem y5a {R:Type} {C:Ctx} (c:CtxOK P L w0 C) {o:Oper} {id':Nat} {ρ:Env} {h:Heap} {K:Eff->Option R} {z:R} (d:z6y C id' o.op (ev ρ) h K=some z) :
  (∃ q,K q=some z/\q.full=none/\(∀ T m k,o.op=.lookup T m k false->∀ j,q.rd≠[j])/\∀ a b,S7 o.op q ρ h a b->A6 P L w0 o a b (q.heap b) q.av)/\∀ T m k,o.op≠.mapEntry T m k:=by
 grind[z6y,y57,y5h]
theorem q9z {id:Nat}:∀ (u:List (Nat×AObj)) (h hs:Heap),hs id=h id->A5 u hs id=A5 u h id
 | [],_,_,a=>a
 | p::u,h,hs,a=>q9z u (upd h p.1 p.2) (upd hs p.1 p.2) (by
  grind[A1,A0])
def z5a (L:Nat->Prop) (w0:World) (v:List (Nat×AObj)) (h0:Heap):Prop :=
 ∀ hs,(∀ p∈v,hs p.1=h0 p.1)->∀ κ w,HeapOK L w0 κ hs w->∃ κ',HeapOK L w0 κ' (A5 v hs) w/\Ext L κ hs w κ' (A5 v hs) w
theorem y64 {R:Type} {h:Heap} {id:Nat} {K:List (Nat×AObj)->Option R} {z:R} (c:z8t h id K=some z):∃ v,K v=some z/\z5a L w0 v h:=by
 unfold z8t at c
 split at c
 ·rename_i e D t l f g
  split at c
  ·rename_i B u d
   refine⟨_,c,fun i b q w j=>?_⟩
   have a:i id=.arrD e (.arr D t) l f:=(b (id,.ice e (.list t) B) (by simp)).trans g
   obtain⟨x,o,G,H,E⟩:=q6p j a (q6o d fun p F=>b p (by grind))
   obtain⟨m,n⟩:=y61 o.1 (A1 _ _ _)
   rw[q11]at m n
   rw[I9]
   exact⟨_,m,o.2.trans n⟩
  grind
 ·rename_i s y D t l f g
  split at c
  ·rename_i B u d
   refine⟨_,c,fun i b q w j=>?_⟩
   have a:i id=.mapD s y (.arr D t) l f:=(b (id,.mice s false y (.list t) B) (by simp)).trans g
   obtain⟨x,o,G,E⟩:=q4k j a (z08 d fun p F=>b p (by grind))
   obtain⟨m,n⟩:=y62 o.1 (A1 _ _ _)
   rw[q11]at m n
   rw[I9]
   exact⟨_,m,o.2.trans n⟩
  grind
 ·rename_i s y A r k v l f g
  split at c
  ·rename_i B u d
   obtain⟨l2,C,c⟩:=Option.bind_eq_some_iff.1 c
   refine⟨_,c,fun i b q w j=>?_⟩
   have a:i id=.mapD s y (.map A r k v) l f:=(b (id,.mice s false y (.map A r k v) l2) (by simp)).trans g
   obtain⟨x,o,G,E⟩:=q4k j a (z08 d fun p F=>b p (by grind))
   obtain⟨m,n⟩:=y63 o.1 (l2:=l2) (by rw[A1,<-j2o C])
   rw[q11]at m n
   rw[I9]
   exact⟨_,m,o.2.trans n⟩
  grind
 ·exact⟨[],c,fun i _ q w j=>⟨q,j,Ext.refl L q i w⟩⟩
 ·exact⟨[],c,fun i _ q w j=>⟨q,j,Ext.refl L q i w⟩⟩
 grind
theorem j55 {R:Type} {K:List (Nat×AObj)->Heap->Option R} {z:R}:∀ (ids:List Nat) (u:List (Nat×AObj)) (h:Heap),z0z K ids u h=some z->∃ v,K (u++v) (A5 v h)=some z/\z5a L w0 v h
 | [],u,h,e=>⟨[],by rw[List.append_nil];exact e,fun b _ c w f=>⟨c,f,Ext.refl L c b w⟩⟩
 | id::r,u,h,e=>by
  obtain⟨v,m,o⟩:=y64 (L:=L) (w0:=w0) e
  obtain⟨q,l,n⟩:=j55 r (u++v) (A5 v h) m
  refine⟨v++q,by grind[I9],fun b a c w f=>?_⟩
  obtain⟨g,s,k⟩:=o b (fun p d=>a p (List.mem_append_left _ d)) c w f
  obtain⟨i,t,j⟩:=n (A5 v b) (fun p d=>q9z v h b (a p (List.mem_append_right _ d))) g w s
  rw[I9]
  exact⟨i,t,k.trans j⟩
theorem v0u {o:Oper} {ρs:Env} {hs h':Heap} {v:List (Nat×AObj)} {k:Heap} {av:AV} (g:z5a L w0 v k) (f:∀ p∈v,hs p.1=k p.1) (c:A6 P L w0 o ρs (A5 v hs) h' av):A6 P L w0 o ρs hs h' av:=by
 intro r x a w n y m K Q q s
 obtain⟨i,z,d⟩:=g hs f x w y
 exact c r i a w (fun t=>(n t).ext d) z m K Q (fun b v h e j u=>q b v h e j (d.trans u)) fun T l b h e j=>s T l b h e (d.trans j)
theorem y5g {R:Type} {C:Ctx} (t:CtxOK P L w0 C) {o:Oper} {lo:Nat->Bool} {id':Nat} {ρ:Env} {h:Heap} {K:Eff->Option R} {z:R} {ids:List Nat}
  (r:z0z (fun u n=>q70 C lo id' o.op (ev ρ) n fun q=>match q.full with
   | none=>K { q with ups:=u++q.ups }
   | some _=>none) ids [] h=some z) :
  ∃ q,K q=some z/\q.full=none/\∀ a b,S7 o.op q ρ h a b->A6 P L w0 o a b (q.heap b) q.av:=by
 obtain⟨v,w,g⟩:=j55 (L:=L) (w0:=w0) ids [] h r
 have f:∃ q,(match q.full with
   | none=>K { q with ups:=v++q.ups }
   | some _=>none)=some z/\∀ a b,S7 o.op q ρ (A5 v h) a b->A6 P L w0 o a b (q.heap b) q.av:=by
  grind[q70,j4n,j4i]
 obtain⟨q,s,e⟩:=f
 cases c:q.full with
 | some H=>grind
 | none =>
  refine⟨{ q with ups:=v++q.ups },by grind,c,fun a b i=>?_⟩
  have m:∀ p∈v,b p.1=h p.1:=fun p j=>i.2.2.1 p (List.mem_append_left _ j)
  have d:Eff.heap { q with ups:=v++q.ups } b=q.heap (A5 v b):=by
   grind[Eff.heap,I9]
  rw[d]
  refine v0u g m (e a (A5 v b) ⟨i.1,fun id l=>q9z v h b (i.2.1 id l),fun p j=>q9z v h b (i.2.2.1 p (List.mem_append_right _ j)),fun k=>absurd c k⟩)
end Go.Abs
