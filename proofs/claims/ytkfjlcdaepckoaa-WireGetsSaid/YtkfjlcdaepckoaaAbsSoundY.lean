/- The engine: operations on what is owned, all together. -/
import Derived.Test.YtkfjlcdaepckoaaAbsSoundM
namespace Go.Abs
open Go Go.RowKit
variable {P:Program} {L:Nat->Prop} {w0:World}
theorem y2e {o:Oper} {f:FuncId} {x:Operand} (ho:o.op=.makeFunc (.func f) #[x] #[]) {ρs:Env} {id off:Nat} (hx:ev ρs x=.one (.ptr id off)) (hs:Heap) :
  A6 P L w0 o ρs hs hs (.one (.bfp f id off)):=by
 refine C6 (fun c hc=>by rw[ho]at hc;cases hc) fun κ a w hev ok=>⟨.func (.func f) #[a.eval x] #[],?_,?_⟩
 ·unfold execOp
  simp[ho,Instr.makeFunc]
 ·have hr:=hev x
  rw[hx]at hr
  obtain⟨h1,b,c,h2,h3⟩:=hr
  exact⟨_,rfl,h1,b,c,h2,h3⟩
theorem y2q {R:Type} {C:Ctx} (hti:∀ t ti,C.TI t=some ti->ti.OK P t) {o:Oper} {T:TypeId} {x y:Operand} (ho:o.op=.slice T x none (some y) none) {ρ:Env} {h:Heap} {id off:Nat} (hx:ev ρ x=.one (.ptr id off)) {K:Eff->Option R} {z:R}
  (he:z0u C T h id off (ev ρ y) K=some z):∃ q,K q=some z/\q.full=none/\∀ ρs hs,ev ρs x=ev ρ x->ev ρs y=ev ρ y->(∀ p∈q.ups,hs p.1=h p.1)->A6 P L w0 o ρs hs (q.heap hs) q.av:=by
 have hd:∀ c,o.op≠.defer c:=fun c hc=>by rw[ho]at hc;cases hc
 unfold z0u at he
 split at he
 ·rename_i ti hT
  split at he
  ·rename_i n e har
   split at he
   ·rename_i te l hte hid
    split at he
    ·rename_i vs hvs
     obtain⟨q,he,hq⟩:=Q2 he
     obtain⟨hc,he⟩:=A7 he
     simp only[Bool.and_eq_true,decide_eq_true_eq]at hc
     obtain⟨⟨⟨⟨c1,c2⟩,c3⟩,c4⟩,c5⟩:=hc
     have c1:=Nat.eq_of_beq_eq_true c1
     have c2:=Nat.eq_of_beq_eq_true c2
     have c3:=Nat.eq_of_beq_eq_true c3
     refine⟨_,he,rfl,fun ρs hs h1 h2 h3=>I3 hd fun κ a w hev ok=>?_⟩
     have hids:hs id=.cells l:=(h3 (id,.dead) (by simp)).trans hid
     have hxv:=hev x
     rw[h1,hx]at hxv
     obtain⟨h0,b,c,hk,hv⟩:=hxv
     have hob:=ok.obj id
     rw[hids]at hob
     obtain⟨b',c',cs,ty,hk',hheap,hcl,hcs⟩:=hob
     rw[hk]at hk'
     simp only[Option.some.injEq,Prod.mk.injEq]at hk'
     obtain⟨rfl,rfl⟩:=hk'
     have hgone:(hs id).gone .dead:=by rw[hids];simp[AObj.gone]
     have okD:=X1 ok hgone
     have exD:=S2 (L:=L) (κ:=κ) (w:=w) hgone
     obtain⟨qn,rfl⟩:∃ qn:Nat,q=(qn:Int):=⟨q.toNat,by omega⟩
     have hqn:qn<=n:=by omega
     have hyv:∃ k,a.eval y=.int k (qn:Int):=by
      rcases hq with⟨hq,_⟩ | ⟨k,hq⟩
      ·cases hq
      ·have hq:ev ρ y=.one (.sc (.int k) (qn:Int)):=by simpa using hq
       have:=hev y
       rw[h2,hq]at this
       exact⟨k,G2 this⟩
     obtain⟨k,hyv⟩:=hyv
     obtain⟨u1,-⟩:=(hti T ti hT).arrT n e har
     obtain⟨i,zz,hi,hisz,-⟩:=(hti e te hte).zero_one (L:=L)
     have hfree:A4 L κ (upd hs id .dead) w b:=by
      have ho:=ok.own id b c (by rw[hids];rfl) hk
      refine⟨ho.2,fun hL=>(ok.outer b hL).2 id c (by rw[hids];rfl) hk,fun j c2 hj hkj=>?_⟩
      by_cases e0:j=id
      ·subst e0;rw[A1]at hj;cases hj
      ·rw[A0 _ _ e0]at hj
       exact e0 (ok.inj j id b c2 c hj (by rw[hids];rfl) hkj hk)
     refine⟨κ,.slice (some ⟨b,off,none⟩) qn n,w,?_,okD,?_,exD⟩
     ·unfold execOp
      rw[ho]
      simp only[hv,hyv,Option.map_some,Option.map_none]
      simp[Instr.sliceAt,run_underlying u1,Instr.sliceBounds,Instr.sliceBound,asIntOf,Instr.sureAddr,O6 hi,Addr.add,hqn]
     ·refine⟨rfl,rfl,some ⟨b,off,none⟩,qn,n,rfl,?_,hqn,fun _=>⟨b,off,rfl,hfree,fun j u hu=>?_⟩⟩
      ·show qn=((vs.take ((qn:Int).toNat)).length)
       rw[List.length_take,Int.toNat_natCast];omega
      ·obtain⟨g1,g2⟩:=q2p hvs
       have hjq:j<qn:=by
        have:=(List.getElem?_eq_some_iff.1 hu).1
        rw[List.length_take,Int.toNat_natCast]at this;omega
       have hu2:vs[j]? = some u:=by
        rw[<-hu]
        exact(List.getElem?_take_of_lt (by rw[Int.toNat_natCast];exact hjq)).symm
       have hl:=g2 j u hu2
       rw[List.getElem?_take_of_lt (by omega),List.getElem?_drop]at hl
       have hlt:off+j<cs.length:=by rw[hcl];exact(List.getElem?_eq_some_iff.1 hl).1
       obtain⟨⟨r1,r2,r3⟩,-⟩:=hcs (off+j) _ cs[off+j] hl (List.getElem?_eq_getElem hlt)
       refine RepAt.congr te.ty _ _ u (fun c0 hc0=>?_) (r3.ext exD)
       have:c0=0:=by omega
       subst this
       rw[if_pos (by omega),c3,Nat.mul_one,Nat.add_zero]
       simp[E3,World.cell?,hheap,hlt]
    ·cases he
   ·cases he
  ·cases he
 ·cases he
theorem y2t {R:Type} {C:Ctx} (hti:∀ t ti,C.TI t=some ti->ti.OK P t) {o:Oper} {T:TypeId} {x y:Operand} (ho:o.op=.slice T x none (some y) none) {ρ:Env} {h:Heap} {id off:Nat} (hx:ev ρ x=.one (.ptr id off)) {K:Eff->Option R} {z:R}
  (he:z0w C T h id off (ev ρ y) K=some z):∃ q,K q=some z/\q.full=none/\∀ ρs hs,ev ρs x=ev ρ x->ev ρs y=ev ρ y->A6 P L w0 o ρs hs (q.heap hs) q.av:=by
 have hd:∀ c,o.op≠.defer c:=fun c hc=>by rw[ho]at hc;cases hc
 unfold z0w at he
 split at he
 ·rename_i ti hT
  split at he
  ·rename_i n e har
   split at he
   ·rename_i te l hte hid
    obtain⟨q,he,hq⟩:=Q2 he
    obtain⟨hc,he⟩:=A7 he
    simp only[Bool.and_eq_true,decide_eq_true_eq]at hc
    obtain⟨⟨c2,c4⟩,c5⟩:=hc
    have c2:=Nat.eq_of_beq_eq_true c2
    refine⟨_,he,rfl,fun ρs hs h1 h2=>C6 hd fun κ a w hev ok=>?_⟩
    have hxv:=hev x
    rw[h1,hx]at hxv
    obtain⟨h0,b,c,hk,hv⟩:=hxv
    obtain⟨qn,rfl⟩:∃ qn:Nat,q=(qn:Int):=⟨q.toNat,by omega⟩
    have hqn:qn<=n:=by omega
    have hyv:∃ k,a.eval y=.int k (qn:Int):=by
     rcases hq with⟨hq,_⟩ | ⟨k,hq⟩
     ·cases hq
     ·have hq:ev ρ y=.one (.sc (.int k) (qn:Int)):=by simpa using hq
      have:=hev y
      rw[h2,hq]at this
      exact⟨k,G2 this⟩
    obtain⟨k,hyv⟩:=hyv
    obtain⟨u1,-⟩:=(hti T ti hT).arrT n e har
    obtain⟨i,zz,hi,hisz,-⟩:=(hti e te hte).zero_one (L:=L)
    refine⟨.slice (some ⟨b,off,none⟩) qn n,?_,h0,b,c,hk,by rw[Int.toNat_natCast]⟩
    unfold execOp
    rw[ho]
    simp only[hv,hyv,Option.map_some,Option.map_none]
    simp[Instr.sliceAt,run_underlying u1,Instr.sliceBounds,Instr.sliceBound,asIntOf,Instr.sureAddr,O6 hi,Addr.add,hqn]
   ·cases he
  ·cases he
 ·cases he
theorem y2w {R:Type} {C:Ctx} (hC:CtxOK P L w0 C) {o:Oper} {g x:Operand} {Ts:Array TypeId} (ho:o.op=.call { callee:=.value g,args:=#[x],argTypes:=Ts }) {ρ:Env} {h:Heap} {f id off len cap id':Nat} (hg:ev ρ g=.one (.fn f [])) (hx:ev ρ x=.one (.csl id off len cap)) {K:Eff->Option R} {z:R}
  (he:z1a C h id' f id off len cap K=some z):∃ q,K q=some z/\q.full=none/\∀ ρs hs,ev ρs g=ev ρ g->ev ρs x=ev ρ x->(∀ i∈q.rd,hs i=h i)->A6 P L w0 o ρs hs (q.heap hs) q.av:=by
 unfold z1a at he
 split at he
 ·rename_i e rs G hsp
  split at he
  ·rename_i l hid
   split at he
   ·rename_i vs hvs
    obtain⟨hc,he⟩:=A7 he
    simp only[Bool.and_eq_true,Bool.not_eq_true']at hc
    obtain⟨⟨⟨⟨c1,c2⟩,hfl⟩,c4⟩,c5⟩:=hc
    have c1:=Nat.eq_of_beq_eq_true c1
    have c2:=Nat.eq_of_beq_eq_true c2
    have hone:=Nat.le_of_ble_eq_true c4
    have hne:id≠id':=fun e0=>by rw[e0,Nat.beq_refl]at c5;cases c5
    obtain⟨hlc,he⟩:=A7 he
    have hlc:=Nat.le_of_ble_eq_true hlc
    obtain⟨y,hy,he⟩:=Option.bind_eq_some_iff.1 he
    obtain⟨hfr,he⟩:=O4 he
    have hok:=hC.spec f _ hsp
    have hR:=q15 (P:=P) (L:=L) ho (f:=f) (pre:=[]) (post:=[]) (ρ:=ρ) (by rw[hg];rfl)
    refine⟨_,he,rfl,fun ρs hs h1 h2 h3=>?_⟩
    have hids:hs id=.cells l:=(h3 id (by simp)).trans hid
    have hfs:hs id'=.fresh:=(h3 id' (by simp)).trans hfr
    show A6 P L w0 o ρs hs (A5 (H3 id' rs y).2 hs) (Y2 (H3 id' rs y).1)
    intro r κ a w henv ok m K' Q hK _
    have hev:=L4 henv
    obtain⟨fn,hf1,hf2,hf3⟩:=hok.fn
    obtain⟨vs0,hrun,hvl,hvr⟩:=hR.2 fn hf1 hf2 hf3 ρs hs (fun q hq=>by
     rcases hq with rfl | hq
     ·exact h1
     ·simp at hq;subst hq;exact h2) κ a w hev
    simp only[List.nil_append,List.append_nil,List.map_cons,List.map_nil,List.length_singleton]at hvl hvr
    match vs0,hvl with
    | [v],_ =>
    have hv:=hvr 0 _ v rfl rfl
    rw[hx]at hv
    obtain⟨h0,b,c,hk,hv⟩:=hv
    have hob:=ok.obj id
    rw[hids]at hob
    obtain⟨b',c',cs,ty,hk',hheap,hcl,hcs⟩:=hob
    rw[hk]at hk'
    simp only[Option.some.injEq,Prod.mk.injEq]at hk'
    obtain⟨rfl,rfl⟩:=hk'
    have hgone:(hs id).gone .dead:=by rw[hids];simp[AObj.gone]
    have okD:=X1 ok hgone
    have exD:=S2 (L:=L) (κ:=κ) (w:=w) hgone
    have hfree:A4 L κ (upd hs id .dead) w b:=by
     have ho:=ok.own id b c (by rw[hids];rfl) hk
     refine⟨ho.2,fun hL=>(ok.outer b hL).2 id c (by rw[hids];rfl) hk,fun j c2 hj hkj=>?_⟩
     by_cases e0:j=id
     ·subst e0;rw[A1]at hj;cases hj
     ·rw[A0 _ _ e0]at hj
      exact e0 (ok.inj j id b c2 c hj (by rw[hids];rfl) hkj hk)
    let L':Nat->Prop:=fun b=>L b\/∃ i c,(upd hs id .dead i).live=true/\κ i=some (b,c)
    have hL':∀ b,L' b->b<w.heap.size:=fun b hb=>by
     rcases hb with hb | ⟨i,c,hl,hk⟩
     ·exact(ok.outer b hb).1
     ·exact(okD.own i b c hl hk).2
    have hfe:(A4 L κ (upd hs id .dead) w)=fun b=>b<w.heap.size/\¬ L' b:=funext fun b=>propext
     ⟨fun ⟨a1,a2,a3⟩=>⟨a1,fun h=>by rcases h with h | ⟨i,c,hl,hk⟩;exact a2 h;exact a3 i c hl hk⟩,
      fun ⟨a1,a2⟩=>⟨a1,fun h=>a2 (.inl h),fun i c hl hk=>a2 (.inr ⟨i,c,hl,hk⟩)⟩⟩
    have hargs:M4 w (A4 L κ (upd hs id .dead) w) [(false,.list e)] [v] (vs.take len,()):=by
     refine⟨⟨rfl,by rw[hv];rfl,some ⟨b,off,none⟩,len,cap,by rw[hv];rfl,?_,hlc,fun _=>⟨b,off,rfl,hfree,fun j u hu=>?_⟩⟩,trivial⟩
     ·rw[List.length_take];omega
     ·obtain⟨g1,g2⟩:=q2p hvs
      have hjq:j<len:=by
       have:=(List.getElem?_eq_some_iff.1 hu).1
       rw[List.length_take]at this;omega
      have hu2:vs[j]? = some u:=by
       rw[<-hu]
       exact(List.getElem?_take_of_lt hjq).symm
      have hl:=g2 j u hu2
      rw[List.getElem?_take_of_lt (by omega),List.getElem?_drop]at hl
      have hlt:off+j<cs.length:=by rw[hcl];exact(List.getElem?_eq_some_iff.1 hl).1
      obtain⟨⟨r1,r2,r3⟩,-⟩:=hcs (off+j) _ cs[off+j] hl (List.getElem?_eq_getElem hlt)
      refine RepAt.congr e _ _ u (fun c0 hc0=>?_) (r3.ext exD)
      have:c0=0:=by omega
      subst this
      rw[if_pos (by omega),c2,Nat.mul_one,Nat.add_zero]
      simp[E3,World.cell?,hheap,hlt]
    rw[hfe]at hargs
    have hcall:=hok.ok (vs.take len,()) y hy L' w [v] (hC.glob.below ok.below) hL' hargs (m-1)
    refine V7 hR.1 hrun hcall fun e w' ⟨v,hev',hbel,bo,vs,hv,hres⟩=>⟨v,hev',?_⟩
    have hres:Q0 w' (fun _=>False) w.heap.size bo rs vs y:=q7x hfl hres
    rcases q7y id' rs y hone w' _ _ bo vs hres with hnil | ⟨e',t,l,v',hups,hnew⟩
    ·have hrr:=T0 (L:=L) (κ':=κ) (h':=hs) (id':=id') (A:=fun _=>False) (fun b hb=>hb.elim) rs vs y hres (fun h=>absurd hnil h) (fun p hp=>by rw[hnil]at hp;cases hp)
     refine hK κ v w' ?_ ?_ ?_
     ·rw[hnil];exact X0 ok hbel
     ·rw[hnil,hv];exact Y4 hrr.1 hrr.2
     ·rw[hnil];exact T9 hbel
    ·rcases hnew with⟨rfl,rfl,hv'⟩ | ⟨b,cap,cur,rfl,hv',hbb,hcell,hsz,hcm,hll,h1c,hlc⟩
     ·have okN:=q00 ok e' t hfs
      have exN:=W9 (L:=L) (κ:=κ) (w:=w) e' t hfs
      have hrr:=T0 (L:=L) (κ':=upd κ id' none) (h':=upd hs id' (.arr e' t [])) (id':=id') (A:=fun _=>False) (fun b hb=>hb.elim) rs vs y hres (fun _=>A1 _ _ _) (fun p hp=>by rw[hups]at hp;simp at hp;subst hp;exact A1 _ _ _)
      refine hK (upd κ id' none) v w' ?_ ?_ ?_
      ·rw[hups];exact X0 okN hbel
      ·rw[hups,hv];exact Y4 hrr.1 hrr.2
      ·rw[hups];exact exN.trans (T9 hbel)
     ·have hrr:=T0 (L:=L) (κ':=upd κ id' (some (b,cap))) (h':=upd hs id' (.arr e' t l)) (id':=id') (A:=fun _=>False) (fun b hb=>hb.elim) rs vs y hres (fun _=>A1 _ _ _) (fun p hp=>by rw[hups]at hp;simp at hp;subst hp;exact A1 _ _ _)
      have hbl:b<w'.heap.size:=(Array.getElem?_eq_some_iff.1 hcell).1
      refine hK (upd κ id' (some (b,cap))) v w' ?_ ?_ ?_
      ·rw[hups]
       exact z1n ok hbel _ hfs hbb hbl (U9 (cs:=cur.toList) (A1 _ _ _) (by simpa using hcell) (by simpa using hsz) hcm hll h1c (hlc.mono fun b hb=>hb.elim))
      ·rw[hups,hv];exact Y4 hrr.1 hrr.2
      ·rw[hups];exact q6h hbel _ hfs hbb
   ·cases he
  ·cases he
 ·cases he
theorem j0z {t:Ty} (off:Nat) (y:t.den):∀ (vs:List t.den) (j:Nat),(q0e t off y j vs).length=vs.length/\∀ i,(q0e t off y j vs)[i]? = (vs[i]?).map fun x=>SV.sc t (cond (Nat.beq off (j+i)) y x)
 | [],j=>⟨rfl,fun i=>rfl⟩
 | x::r,j=>by
  obtain⟨h1,h2⟩:=j0z off y r (j+1)
  refine⟨by simp[q0e,h1],fun i=>?_⟩
  cases i with
  | zero=>rfl
  | succ i =>
   show(q0e t off y (j+1) r)[i]? = _
   rw[h2,List.getElem?_cons_succ,show j+(i+1)=j+1+i from by omega]
theorem y3e {t:Ty} {l:List SV} {vs:List t.den} (hl:T1 t l=some vs) {off:Nat} (y:t.den) (ho:off+1<=l.length):q0e t off y 0 vs=D2 l off [.sc t y]:=by
 obtain⟨h1,h2⟩:=q2p hl
 obtain⟨g1,g2⟩:=j0z off y vs 0
 refine List.ext_getElem? fun i=>?_
 rw[g2,Nat.zero_add]
 unfold D2
 by_cases hi:i<vs.length
 ·rw[List.getElem?_eq_getElem hi]
  have hli:=h2 i _ (List.getElem?_eq_getElem hi)
  have hil:i<l.length:=by omega
  show some (SV.sc t (cond (Nat.beq off i) y vs[i]))=_
  have htl:(l.take off).length=off:=by rw[List.length_take];omega
  by_cases e:i=off
  ·subst e
   rw[Nat.beq_refl,cond_true,List.append_assoc,List.getElem?_append_right (by omega),htl,Nat.sub_self];rfl
  ·have hb:Nat.beq off i=false:=by
    cases hq:Nat.beq off i with
    | false=>rfl
    | true=>exact absurd (Nat.eq_of_beq_eq_true hq).symm e
   rw[hb,cond_false,<-hli]
   by_cases hlt:i<off
   ·rw[List.append_assoc,List.getElem?_append_left (by omega),List.getElem?_take_of_lt hlt]
   ·rw[List.getElem?_append_right (by rw[List.length_append,htl];simp;omega),List.length_append,htl,List.getElem?_drop]
    congr 1
    simp only[List.length_cons,List.length_nil]
    omega
 ·rw[List.getElem?_eq_none (by omega),Option.map_none,List.getElem?_eq_none (by
   rw[List.length_append,List.length_append,List.length_take,List.length_drop]
   simp only[List.length_cons,List.length_nil]
   omega)]
theorem j67 {R:Type} {ti:TInfo} {h:Heap} {id off:Nat} {K:Eff->Option R} {z:R} (he:z0h ti h id off K=some z):q3n ti h (.one (.ptr id off)) K=some z:=by
 unfold z0h at he
 unfold q3n
 split at he
 ·rename_i l hid
  split at he
  ·rename_i vs hvs
   obtain⟨ha,he⟩:=A7 he
   have ha:ti.agg=false:=by simpa using ha
   obtain⟨x,hx,he⟩:=Option.bind_eq_some_iff.1 he
   obtain⟨h1,h2⟩:=q2p hvs
   simp only[hid]
   unfold U6
   rw[ha]
   simp only[h2 off x hx]
   exact he
  ·cases he
 ·cases he
theorem j62 {R:Type} {C:Ctx} (hC:CtxOK P L w0 C) {o:Oper} {id':Nat} {ρ:Env} {h:Heap} {K:Eff->Option R} {z:R} (he:z04 C id' o.op (ev ρ) h K=some z) :
  (∃ q,K q=some z/\q.full=none/\(∀ T m k,o.op=.lookup T m k false->∀ j,q.rd≠[j])/\∀ ρs hs,R6 o.op q ρ h ρs hs->A6 P L w0 o ρs hs (q.heap hs) q.av)/\∀ T m k,o.op≠.mapEntry T m k:=by
 generalize hop:o.op=op at he
 unfold z04 at he
 split at he
 ·rename_i T x
  refine⟨?_,fun _ _ _ h=>by cases h⟩
  split at he
  ·rename_i ti id tt i c hT hx
   obtain⟨q,hq,hfull,hsem⟩:=y28 (L:=L) (w0:=w0) (hC.ti T ti hT) hop hx he
   exact⟨q,hq,hfull,(fun _ _ _ h=>by cases h),fun ρs hs ha=>hsem ρs hs (ha.1 x (by simp[Op.operands])) ha.2.1 ha.2.2.1⟩
  ·rename_i ti id off hT hx
   obtain⟨q,hq,hfull,hsem⟩:=j0r (L:=L) (w0:=w0) (hC.ti T ti hT) hop (by rw[hx];exact j67 he)
   exact⟨q,hq,hfull,(fun _ _ _ h=>by cases h),fun ρs hs ha=>hsem ρs hs (ha.1 x (by simp[Op.operands])) ha.2.1⟩
  ·cases he
 ·rename_i T x y
  refine⟨?_,fun _ _ _ h=>by cases h⟩
  split at he
  ·rename_i ti id tt i c hT hx
   obtain⟨q,hq,hfull,hsem⟩:=y2x (L:=L) (w0:=w0) (hC.ti T ti hT) hop hx he
   exact⟨q,hq,hfull,(fun _ _ _ h=>by cases h),fun ρs hs ha=>hsem ρs hs (ha.1 x (by simp[Op.operands])) (ha.1 y (by simp[Op.operands])) ha.2.1 ha.2.2.1⟩
  ·rename_i ti id off hT hx
   unfold z6b at he
   split at he
   ·rename_i l t v hid hy
    split at he
    ·rename_i vs y' hvs hcast
     obtain⟨htt,hyy⟩:=G4 hcast
     subst htt
     change v=y' at hyy
     subst hyy
     obtain⟨hc,he⟩:=A7 he
     rw[Bool.and_eq_true]at hc
     have hsz:=Nat.eq_of_beq_eq_true hc.1
     have hle:=Nat.le_of_ble_eq_true hc.2
     refine⟨_,he,rfl,(fun _ _ _ h=>by cases h),fun ρs hs ha=>?_⟩
     have:=j0x (L:=L) (w0:=w0) (hC.ti T ti hT) hop (vs:=[.sc ti.ty v]) ((ha.1 x (by simp[Op.operands])).trans hx) ((ha.2.2.1 (id,.cells (q0e ti.ty off v 0 vs)) (by simp)).trans hid) (by rw[ha.1 y (by simp[Op.operands]),hy];rfl) rfl (by rw[hsz];rfl) hle
     rw[<-y3e hvs v hle]at this
     exact this
    ·cases he
   ·cases he
  ·cases he
 ·rename_i T x i
  refine⟨?_,fun _ _ _ h=>by cases h⟩
  split at he
  ·rename_i ti id hT hx
   split at he
   ·rename_i e hel
    split at he
    ·rename_i te hte
     obtain⟨q,hq,hfull,hsem⟩:=y21 (L:=L) (w0:=w0) (hC.ti T ti hT) hel (hC.ti e te hte) hop hx he
     exact⟨q,hq,hfull,(fun _ _ _ h=>by cases h),fun ρs hs ha=>hsem ρs hs (ha.1 x (by simp[Op.operands])) (ha.1 i (by simp[Op.operands])) ha.2.1⟩
    ·cases he
   ·cases he
  ·cases he
 ·rename_i T m i
  refine⟨?_,fun _ _ _ h=>by cases h⟩
  split at he
  ·rename_i id hm
   obtain⟨q,hq,hfull,hrd,hsem⟩:=y2b (L:=L) (w0:=w0) hC.ti hop hm he
   exact⟨q,hq,hfull,(fun _ _ _ _=>hrd),fun ρs hs ha=>hsem ρs hs (ha.1 m (by simp[Op.operands])) (ha.1 i (by simp[Op.operands])) ha.2.1 ha.2.2.1⟩
  ·cases he
 ·rename_i T m k v
  refine⟨?_,fun _ _ _ h=>by cases h⟩
  split at he
  ·rename_i id hm
   obtain⟨q,hq,hfull,hsem⟩:=j0y (L:=L) (w0:=w0) hC.ti (.inl hop) hm he
   exact⟨q,hq,hfull,(fun _ _ _ h=>by cases h),fun ρs hs ha=>hsem ρs hs (ha.1 m (by simp[Op.operands])) (ha.1 k (by simp[Op.operands])) (ha.1 v (by simp[Op.operands])) ha.2.1 ha.2.2.1⟩
  ·cases he
 ·rename_i T m k v
  refine⟨?_,fun _ _ _ h=>by cases h⟩
  split at he
  ·rename_i id hm
   obtain⟨q,hq,hfull,hsem⟩:=j0y (L:=L) (w0:=w0) hC.ti (.inr hop) hm he
   exact⟨q,hq,hfull,(fun _ _ _ h=>by cases h),fun ρs hs ha=>hsem ρs hs (ha.1 m (by simp[Op.operands])) (ha.1 k (by simp[Op.operands])) (ha.1 v (by simp[Op.operands])) ha.2.1 ha.2.2.1⟩
  ·cases he
 ·rename_i T x y
  refine⟨?_,fun _ _ _ h=>by cases h⟩
  split at he
  ·rename_i ti t n c hT hdp hx hy
   split at he
   ·rename_i e hel
    split at he
    ·rename_i te hte
     obtain⟨q,hq,hfull,hsem⟩:=y2f (L:=L) (w0:=w0) (hC.ti T ti hT) hel (hC.ti e te hte) hop hx hy he
     exact⟨q,hq,hfull,(fun _ _ _ h=>by cases h),fun ρs hs ha=>hsem ρs hs (ha.1 x (by simp[Op.operands])) (ha.1 y (by simp[Op.operands])) ha.2.2.1⟩
    ·cases he
   ·cases he
  ·cases he
 ·rename_i T
  refine⟨?_,fun _ _ _ h=>by cases h⟩
  split at he
  ·rename_i t hdp
   obtain⟨q,hq,hfull,hsem⟩:=y2i (L:=L) (w0:=w0) hC.ti hop he
   exact⟨q,hq,hfull,(fun _ _ _ h=>by cases h),fun ρs hs ha=>hsem ρs hs ha.2.2.1⟩
  ·cases he
 ·rename_i op T x T'
  refine⟨?_,fun _ _ _ h=>by cases h⟩
  split at he
  ·rename_i hx
   obtain⟨q,hq,hfull,hsem⟩:=j0v (L:=L) (w0:=w0) hC.ti hop hx (.inr ⟨rfl,rfl⟩) he
   exact⟨q,hq,hfull,(fun _ _ _ h=>by cases h),fun ρs hs ha=>hsem ρs hs (ha.1 x (by simp[Op.operands]))⟩
  ·rename_i g hx
   obtain⟨q,hq,hfull,hsem⟩:=j0v (L:=L) (w0:=w0) hC.ti hop hx (.inl ⟨_,rfl,rfl⟩) he
   exact⟨q,hq,hfull,(fun _ _ _ h=>by cases h),fun ρs hs ha=>hsem ρs hs (ha.1 x (by simp[Op.operands]))⟩
  ·cases he
 ·rename_i T x y
  refine⟨?_,fun _ _ _ h=>by cases h⟩
  split at he
  ·rename_i id off hx
   split at he
   ·obtain⟨q,hq,hfull,hsem⟩:=y2t (L:=L) (w0:=w0) hC.ti hop hx he
    exact⟨q,hq,hfull,(fun _ _ _ h=>by cases h),fun ρs hs ha=>hsem ρs hs (ha.1 x (by simp[Op.operands])) (ha.1 y (by simp[Op.operands]))⟩
   ·obtain⟨q,hq,hfull,hsem⟩:=y2q (L:=L) (w0:=w0) hC.ti hop hx he
    exact⟨q,hq,hfull,(fun _ _ _ h=>by cases h),fun ρs hs ha=>hsem ρs hs (ha.1 x (by simp[Op.operands])) (ha.1 y (by simp[Op.operands])) ha.2.2.1⟩
  ·cases he
 ·rename_i g args Ts
  refine⟨?_,fun _ _ _ h=>by cases h⟩
  split at he
  ·rename_i f id off len cap hgv hargs
   obtain⟨x,hax,hx⟩:∃ x,args=#[x]/\ev ρ x=.one (.csl id off len cap):=by
    obtain⟨l,hl⟩:∃ l,args.toList=l:=⟨_,rfl⟩
    rw[hl]at hargs
    match l,hargs with
    | [],h=>simp at h
    | [x],h=>simp at h;exact⟨x,Array.toList_inj.1 hl,h⟩
    | _::_::_,h=>simp at h
   subst hax
   obtain⟨q,hq,hfull,hsem⟩:=y2w hC hop hgv hx he
   exact⟨q,hq,hfull,(fun _ _ _ h=>by cases h),fun ρs hs ha=>hsem ρs hs (ha.1 g (by simp[Op.operands,Call.operands])) (ha.1 x (by simp[Op.operands,Call.operands])) ha.2.1⟩
  ·cases he
 ·rename_i f first caps
  refine⟨?_,fun _ _ _ h=>by cases h⟩
  split at he
  ·rename_i x hfirst hcaps
   have hfirst:first=#[x]:=Array.toList_inj.1 hfirst
   have hcaps:caps=#[]:=Array.toList_inj.1 hcaps
   subst hfirst;subst hcaps
   split at he
   ·rename_i id off hx
    exact⟨_,he,rfl,(fun _ _ _ h=>by cases h),fun ρs hs ha=>y2e hop ((ha.1 x (by simp[Op.operands])).trans hx) hs⟩
   ·cases he
  ·cases he
 ·rename_i args Ts
  refine⟨?_,fun _ _ _ h=>by cases h⟩
  have one:∀ {v:AV},args.toList.map (ev ρ)=[v]->∃ x,args=#[x]/\ev ρ x=v:=by
   intro v hargs
   obtain⟨l,hl⟩:∃ l,args.toList=l:=⟨_,rfl⟩
   rw[hl]at hargs
   match l,hargs with
   | [],h=>simp at h
   | [x],h=>simp at h;exact⟨x,Array.toList_inj.1 hl,h⟩
   | _::_::_,h=>simp at h
  split at he
  ·rename_i id T hargs hTs
   obtain⟨x,hax,hx⟩:=one hargs
   subst hax
   have hTs:Ts=#[T]:=Array.toList_inj.1 hTs
   subst hTs
   split at he
   ·rename_i ti e' t l f hT hid
    split at he
    ·rename_i e hel
     refine⟨_,he,rfl,(fun _ _ _ h=>by cases h),fun ρs hs ha=>?_⟩
     exact y24 (hC.ti T ti hT) hel hop ((ha.1 x (by simp[Op.operands,Call.operands])).trans hx) ((ha.2.1 id (by simp[E2])).trans hid)
    ·cases he
   ·cases he
  ·rename_i id T hargs hTs
   obtain⟨x,hax,hx⟩:=one hargs
   subst hax
   have hTs:Ts=#[T]:=Array.toList_inj.1 hTs
   subst hTs
   split at he
   ·rename_i ti ak tk t l f hT hid
    split at he
    ·rename_i kv hmp
     refine⟨_,he,rfl,(fun _ _ _ h=>by cases h),fun ρs hs ha=>?_⟩
     exact y27 (hC.ti T ti hT) hmp hop ((ha.1 x (by simp[Op.operands,Call.operands])).trans hx) ((ha.2.1 id (by simp[E2])).trans hid)
    ·cases he
   ·cases he
  ·cases he
 ·cases he
theorem q5f {id:Nat}:∀ (u:List (Nat×AObj)) (h hs:Heap),hs id=h id->A5 u hs id=A5 u h id
 | [],_,_,hh=>hh
 | p::u,h,hs,hh=>q5f u (upd h p.1 p.2) (upd hs p.1 p.2) (by
  by_cases e:id=p.1
  ·subst e;rw[A1,A1]
  ·rw[A0 _ _ e,A0 _ _ e,hh])
def q90 (L:Nat->Prop) (w0:World) (v:List (Nat×AObj)) (h0:Heap):Prop :=
 ∀ hs,(∀ p∈v,hs p.1=h0 p.1)->∀ κ w,HeapOK L w0 κ hs w->∃ κ',HeapOK L w0 κ' (A5 v hs) w/\Ext L κ hs w κ' (A5 v hs) w
theorem j6p {R:Type} {h:Heap} {id:Nat} {K:List (Nat×AObj)->Option R} {z:R} (he:z1k h id K=some z):∃ v,K v=some z/\q90 L w0 v h:=by
 unfold z1k at he
 split at he
 ·rename_i e e' t l f hid
  split at he
  ·rename_i l1 u hcl
   refine⟨_,he,fun hs hup κ w ok=>?_⟩
   have hids:hs id=.arrD e (.arr e' t) l f:=(hup (id,.ice e (.list t) l1) (by simp)).trans hid
   obtain⟨κ1,h1,h2,h3,h4⟩:=q3d ok hids (q9i hcl fun p hp=>hup p (by simp[hp]))
   obtain⟨f1,f2⟩:=j6m h1.1 (A1 _ _ _)
   rw[q1b]at f1 f2
   rw[J8]
   exact⟨_,f1,h1.2.trans f2⟩
  ·cases he
 ·rename_i ak tk e' t l f hid
  split at he
  ·rename_i l1 u hcl
   refine⟨_,he,fun hs hup κ w ok=>?_⟩
   have hids:hs id=.mapD ak tk (.arr e' t) l f:=(hup (id,.mice ak false tk (.list t) l1) (by simp)).trans hid
   obtain⟨κ1,h1,h2,h4⟩:=q1q ok hids (q5q hcl fun p hp=>hup p (by simp[hp]))
   obtain⟨f1,f2⟩:=j6n h1.1 (A1 _ _ _)
   rw[q1b]at f1 f2
   rw[J8]
   exact⟨_,f1,h1.2.trans f2⟩
  ·cases he
 ·rename_i ak tk ak2 av2 k v l f hid
  split at he
  ·rename_i l1 u hcl
   obtain⟨l2,hl2,he⟩:=Option.bind_eq_some_iff.1 he
   refine⟨_,he,fun hs hup κ w ok=>?_⟩
   have hids:hs id=.mapD ak tk (.map ak2 av2 k v) l f:=(hup (id,.mice ak false tk (.map ak2 av2 k v) l2) (by simp)).trans hid
   obtain⟨κ1,h1,h2,h4⟩:=q1q ok hids (q5q hcl fun p hp=>hup p (by simp[hp]))
   obtain⟨f1,f2⟩:=j6o h1.1 (l2:=l2) (by rw[A1,<-z4g hl2])
   rw[q1b]at f1 f2
   rw[J8]
   exact⟨_,f1,h1.2.trans f2⟩
  ·cases he
 ·exact⟨[],he,fun hs _ κ w ok=>⟨κ,ok,Ext.refl L κ hs w⟩⟩
 ·exact⟨[],he,fun hs _ κ w ok=>⟨κ,ok,Ext.refl L κ hs w⟩⟩
 ·cases he
theorem z6y {R:Type} {K:List (Nat×AObj)->Heap->Option R} {z:R}:∀ (ids:List Nat) (u:List (Nat×AObj)) (h:Heap),q6k K ids u h=some z->∃ v,K (u++v) (A5 v h)=some z/\q90 L w0 v h
 | [],u,h,he=>⟨[],by rw[List.append_nil];exact he,fun hs _ κ w ok=>⟨κ,ok,Ext.refl L κ hs w⟩⟩
 | id::r,u,h,he=>by
  obtain⟨v,hv,g1⟩:=j6p (L:=L) (w0:=w0) he
  obtain⟨v2,hv2,g2⟩:=z6y r (u++v) (A5 v h) hv
  refine⟨v++v2,by rw[J8,<-List.append_assoc];exact hv2,fun hs hup κ w ok=>?_⟩
  obtain⟨κ1,a1,a2⟩:=g1 hs (fun p hp=>hup p (List.mem_append_left _ hp)) κ w ok
  obtain⟨κ2,b1,b2⟩:=g2 (A5 v hs) (fun p hp=>q5f v h hs (hup p (List.mem_append_right _ hp))) κ1 w a1
  rw[J8]
  exact⟨κ2,b1,a2.trans b2⟩
theorem j9f {o:Oper} {ρs:Env} {hs h':Heap} {v:List (Nat×AObj)} {h0:Heap} {av:AV} (g:q90 L w0 v h0) (hup:∀ p∈v,hs p.1=h0 p.1) (hsem:A6 P L w0 o ρs (A5 v hs) h' av):A6 P L w0 o ρs hs h' av:=by
 intro r κ a w he ok m K Q hK hP
 obtain⟨κ1,a1,a2⟩:=g hs hup κ w ok
 exact hsem r κ1 a w (fun t=>(he t).ext a2) a1 m K Q (fun κ' v w' h1 h2 h3=>hK κ' v w' h1 h2 (a2.trans h3)) fun T hT κ' w' h1 h2=>hP T hT κ' w' h1 (a2.trans h2)
theorem j66 {R:Type} {C:Ctx} (hC:CtxOK P L w0 C) {o:Oper} {lo:Nat->Bool} {id':Nat} {ρ:Env} {h:Heap} {K:Eff->Option R} {z:R} {ids:List Nat}
  (he:q6k (fun u h1=>q3o C lo id' o.op (ev ρ) h1 fun q=>match q.full with
   | none=>K { q with ups:=u++q.ups }
   | some _=>none) ids [] h=some z) :
  ∃ q,K q=some z/\q.full=none/\∀ ρs hs,R6 o.op q ρ h ρs hs->A6 P L w0 o ρs hs (q.heap hs) q.av:=by
 obtain⟨v,hv,g⟩:=z6y (L:=L) (w0:=w0) ids [] h he
 rw[List.nil_append]at hv
 have main:∃ q,(match q.full with
   | none=>K { q with ups:=v++q.ups }
   | some _=>none)=some z/\∀ ρs hs,R6 o.op q ρ (A5 v h) ρs hs->A6 P L w0 o ρs hs (q.heap hs) q.av:=by
  unfold q3o at hv
  cases hX:isX C id' o.op (ev ρ)with
  | true =>
   rw[hX,cond_true]at hv
   obtain⟨⟨q,hq,_,hsem⟩,_,_⟩:=z6d hC hv
   exact⟨q,hq,hsem⟩
  | false =>
   rw[hX,cond_false]at hv
   obtain⟨q,hq,_,hsem⟩:=z67 hC hv
   exact⟨q,hq,hsem⟩
 obtain⟨q,hq,hsem⟩:=main
 cases hfull:q.full with
 | some H=>rw[hfull]at hq;cases hq
 | none =>
  rw[hfull]at hq
  refine⟨{ q with ups:=v++q.ups },by rw[hfull];exact hq,hfull,fun ρs hs ha=>?_⟩
  have hup:∀ p∈v,hs p.1=h p.1:=fun p hp=>ha.2.2.1 p (List.mem_append_left _ hp)
  have hheap:Eff.heap { q with ups:=v++q.ups } hs=q.heap (A5 v hs):=by
   unfold Eff.heap
   simp only[hfull]
   rw[J8]
  rw[hheap]
  refine j9f g hup (hsem ρs (A5 v hs) ⟨ha.1,fun id hid=>q5f v h hs (ha.2.1 id hid),fun p hp=>q5f v h hs (ha.2.2.1 p (List.mem_append_right _ hp)),fun hne=>absurd hfull hne⟩)
end Go.Abs
