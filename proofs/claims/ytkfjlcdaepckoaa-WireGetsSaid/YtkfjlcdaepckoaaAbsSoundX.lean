/- The engine, part 12b: what the first part of the operations leaves. -/
import Derived.Test.YtkfjlcdaepckoaaAbsOpSound
import Derived.Lib.AppendZeros
namespace Go.Abs
open Go Go.RowKit
variable {P:Program} {L:Nat->Prop} {w0:World}
theorem y2r {R:Type} {C:Ctx} (hti:∀ t ti,C.TI t=some ti->ti.OK P t) {o:Oper} {T:TypeId} {x:Operand} {lo hi:Option Operand} (ho:o.op=.slice T x lo hi none) {ρ:Env} (hx:ev ρ x=.one .nils) {K:Eff->Option R} {z:R}
  (he:z0v C T (lo.map (ev ρ)) (hi.map (ev ρ)) K=some z):∃ q,K q=some z/\q.full=none/\∀ ρs hs,ev ρs x=ev ρ x->(∀ y,lo=some y\/hi=some y->ev ρs y=ev ρ y)->A6 P L w0 o ρs hs (q.heap hs) q.av:=by
 have hd:∀ c,o.op≠.defer c:=fun c hc=>by rw[ho]at hc;cases hc
 unfold z0v at he
 split at he
 ·rename_i ti hT
  split at he
  ·rename_i e hel
   split at he
   ·rename_i te hte
    obtain⟨p,he,hp⟩:=Q2 he
    obtain⟨q,he,hq⟩:=Q2 he
    obtain⟨hc,he⟩:=A7 he
    simp only[Bool.and_eq_true,decide_eq_true_eq]at hc
    obtain⟨⟨c1,c2⟩,c3⟩:=hc
    have hp0:p=0:=by omega
    have hq0:q=0:=by omega
    subst hp0;subst hq0
    refine⟨_,he,rfl,fun ρs hs h1 h2=>C6 hd fun κ a w hev ok=>?_⟩
    have hxv:=hev x
    rw[h1,hx]at hxv
    have hxv:a.eval x=.slice none 0 0:=hxv
    have bnd:∀ (y:Option Operand),(∀ r,y=some r->ev ρs r=ev ρ r)->((y.map (ev ρ)=none/\(0:Int)=(0:Nat))\/∃ k,y.map (ev ρ)=some (.one (.sc (.int k) 0)))->(y.map a.eval=none/\0=0)\/∃ k,y.map a.eval=some (.int k ((0:Nat):Int)):=by
     intro y hy h
     cases y with
     | none=>exact .inl ⟨rfl,rfl⟩
     | some r =>
      rcases h with⟨h,_⟩ | ⟨k,h⟩
      ·cases h
      ·simp at h
       have:=hev r
       rw[hy r rfl,h]at this
       exact .inr ⟨k,by simp[G2 this]⟩
    have hrun:=q2o (P:=P) (hti T ti hT) hel (hti e te hte) (len:=0) (cap:=0) (a:=0) (b:=0) none w (bnd lo (fun r hr=>h2 r (.inl hr)) hp) (bnd hi (fun r hr=>h2 r (.inr hr)) hq) (Nat.le_refl _) (Nat.le_refl _)
    refine⟨.slice none 0 0,?_,rfl⟩
    unfold execOp
    simp only[ho,hxv,Sem.run_bind,Option.map_none,hrun,Result.andThen_ok,Sem.run_pure]
    rfl
   ·cases he
  ·cases he
 ·cases he
theorem y1m {R:Type} {C:Ctx} (hti:∀ t ti,C.TI t=some ti->ti.OK P t) {o:Oper} {T:TypeId} {x:Operand} {hi:Option Operand} (ho:o.op=.slice T x none hi none) {ρ:Env} {h:Heap} {id id':Nat} (hx:ev ρ x=.one (.own id)) {K:Eff->Option R} {z:R}
  (he:z02 C T h id id' (hi.map (ev ρ)) K=some z):∃ q,K q=some z/\q.full=none/\∀ ρs hs,ev ρs x=ev ρ x->(∀ y,hi=some y->ev ρs y=ev ρ y)->(∀ p∈q.ups,hs p.1=h p.1)->A6 P L w0 o ρs hs (q.heap hs) q.av:=by
 have hd:∀ c,o.op≠.defer c:=fun c hc=>by rw[ho]at hc;cases hc
 unfold z02 at he
 split at he
 ·rename_i ti hT
  split at he
  ·rename_i e hel
   split at he
   ·rename_i te e' t l hte hid
    obtain⟨q,he,hq⟩:=Q2 he
    obtain⟨hc,he⟩:=A7 he
    simp only[Bool.and_eq_true,decide_eq_true_eq]at hc
    obtain⟨⟨c1,c2⟩,c3⟩:=hc
    have c1:=Nat.eq_of_beq_eq_true c1
    obtain⟨hf,he⟩:=O4 he
    refine⟨_,he,rfl,fun ρs hs h1 h2 h3=>I3 hd fun κ a w hev ok=>?_⟩
    have hids:hs id=.arr e' t l:=(h3 (id,.dead) (by simp)).trans hid
    have hfs:hs id'=.fresh:=(h3 (id',.arr e' t (l.take q.toNat)) (by simp)).trans hf
    show ∃ κ' v w',_/\HeapOK L w0 κ' (upd (upd hs id .dead) id' (.arr e' t (l.take q.toNat))) w'/\RepAV L κ' (upd (upd hs id .dead) id' (.arr e' t (l.take q.toNat))) w' (.one (.own id')) v/\Ext L κ hs w κ' (upd (upd hs id .dead) id' (.arr e' t (l.take q.toNat))) w'
    have hxv:=hev x
    rw[h1,hx]at hxv
    have hxv:=hxv.1
    rw[hids]at hxv
    have hob:=ok.obj id
    rw[hids]at hob
    have hlive:(hs id).live=true:=by rw[hids];rfl
    have hne:id'≠id:=fun h=>by rw[h,hids]at hfs;cases hfs
    have hhi:∀ len,len=l.length->(hi.map a.eval=none/\q.toNat=len)\/∃ k,hi.map a.eval=some (.int k (q.toNat:Int)):=by
     intro len hlen
     cases hi with
     | none =>
      rcases hq with⟨_,hq⟩ | ⟨k,hq⟩
      ·exact .inl ⟨rfl,by omega⟩
      ·cases hq
     | some r =>
      rcases hq with⟨hq,_⟩ | ⟨k,hq⟩
      ·cases hq
      ·simp at hq
       have:=hev r
       rw[h2 r rfl,hq]at this
       exact .inr ⟨k,by simp[G2 this,Int.toNat_of_nonneg c2]⟩
    have hlen:(l.take q.toNat).length=q.toNat:=by rw[List.length_take];omega
    rcases hxv with⟨hk,hl,hv⟩ | ⟨b,cap,hk,hv⟩
    ·subst hl
     have hq0:q.toNat=0:=by simp at c3;omega
     have hgone:(hs id).gone .dead:=by rw[hids];simp[AObj.gone]
     have okD:=X1 ok hgone
     have exD:=S2 (L:=L) (κ:=κ) (w:=w) hgone
     have hfD:upd hs id .dead id'=.fresh:=by rw[A0 _ _ hne];exact hfs
     rw[List.take_nil]
     refine⟨_,.slice none 0 0,w,?_,q00 okD e' t hfD,⟨?_,rfl⟩,exD.trans (W9 e' t hfD)⟩
     ·have hrun:=q2o (P:=P) (hti T ti hT) hel (hti e te hte) (len:=0) (cap:=0) (a:=0) (b:=q.toNat) none w (lo:=none) (.inl ⟨rfl,rfl⟩) (hhi 0 rfl) (Nat.zero_le _) (by omega)
      unfold execOp
      simp only[ho,hv,Sem.run_bind,Option.map_none,hrun,Result.andThen_ok,Sem.run_pure]
      simp[hq0]
     ·rw[A1];exact .inl ⟨A1 _ _ _,rfl,rfl⟩
    ·rcases hob with⟨hk',_⟩ | ⟨b',cap',cur,hk',hheap,hcsz,hcm,hll,hone,hel'⟩
     ·rw[hk]at hk';cases hk'
     rw[hk]at hk';simp at hk';obtain⟨rfl,rfl⟩:=hk'
     have hx:=q3t (L:=L) (κ:=κ) (h:=hs) (w:=w) (w':=w) (c':=cap) (obj':=.arr e' t (l.take q.toNat)) hlive (by rw[hids];simp) hk hfs (.inl (.inl ⟨_,_,_,hheap⟩)) rfl (fun _ _=>rfl)
     refine⟨_,.slice (some ⟨b,cap.2,none⟩) q.toNat cap.1,w,?_,q6n ok hlive (by rw[hids];simp) hk hfs (.inl (.inl ⟨_,_,_,hheap⟩)) rfl (fun _ _=>rfl) ok.below (.inr ⟨b,cap,cur,A1 _ _ _,hheap,hcsz,hcm,by rw[hlen];omega,hone,fun i y hy=>?_⟩),⟨?_,rfl⟩,hx⟩
     ·have hrun:=q2o (P:=P) (hti T ti hT) hel (hti e te hte) (len:=l.length) (cap:=cap.1) (a:=0) (b:=q.toNat) (some ⟨b,cap.2,none⟩) w (lo:=none) (.inl ⟨rfl,rfl⟩) (hhi _ rfl) (Nat.zero_le _) (by omega)
      unfold execOp
      simp only[ho,hv,Sem.run_bind,Option.map_none,hrun,Result.andThen_ok,Sem.run_pure]
      by_cases hc0:cap.1=0
      ·simp[hc0]
      ·simp[hc0,P0]
     ·have:l[i]? = some y:=by
       rw[List.getElem?_take]at hy
       split at hy
       ·exact hy
       ·cases hy
      exact RepAt.ext hx (hel' i y this)
     ·rw[A1];exact .inr ⟨b,cap,A1 _ _ _,by rw[hlen]⟩
   ·cases he
  ·cases he
 ·cases he
theorem y1n {R:Type} {C:Ctx} (hti:∀ t ti,C.TI t=some ti->ti.OK P t) {o:Oper} {T:TypeId} {x y:Operand} (ho:o.op=.slice T x (some y) none none) {ρ:Env} {h:Heap} {id id':Nat} (hx:ev ρ x=.one (.own id)) {K:Eff->Option R} {z:R}
  (he:z03 C T h id id' (ev ρ y) K=some z):∃ q,K q=some z/\q.full=none/\∀ ρs hs,ev ρs x=ev ρ x->ev ρs y=ev ρ y->(∀ p∈q.ups,hs p.1=h p.1)->A6 P L w0 o ρs hs (q.heap hs) q.av:=by
 have hd:∀ c,o.op≠.defer c:=fun c hc=>by rw[ho]at hc;cases hc
 unfold z03 at he
 split at he
 ·rename_i ti hT
  split at he
  ·rename_i e hel
   split at he
   ·rename_i te e' t l hte hid
    obtain⟨q,he,hq⟩:=Q2 he
    obtain⟨hc,he⟩:=A7 he
    simp only[Bool.and_eq_true,decide_eq_true_eq]at hc
    obtain⟨⟨c1,c2⟩,c3⟩:=hc
    have c1:=Nat.eq_of_beq_eq_true c1
    obtain⟨hf,he⟩:=O4 he
    refine⟨_,he,rfl,fun ρs hs h1 h2 h3=>I3 hd fun κ a w hev ok=>?_⟩
    have hids:hs id=.arr e' t l:=(h3 (id,.dead) (by simp)).trans hid
    have hfs:hs id'=.fresh:=(h3 (id',.arr e' t (l.drop q.toNat)) (by simp)).trans hf
    show ∃ κ' v w',_/\HeapOK L w0 κ' (upd (upd hs id .dead) id' (.arr e' t (l.drop q.toNat))) w'/\RepAV L κ' (upd (upd hs id .dead) id' (.arr e' t (l.drop q.toNat))) w' (.one (.own id')) v/\Ext L κ hs w κ' (upd (upd hs id .dead) id' (.arr e' t (l.drop q.toNat))) w'
    have hxv:=hev x
    rw[h1,hx]at hxv
    have hxv:=hxv.1
    rw[hids]at hxv
    have hob:=ok.obj id
    rw[hids]at hob
    have hlive:(hs id).live=true:=by rw[hids];rfl
    have hne:id'≠id:=fun h=>by rw[h,hids]at hfs;cases hfs
    have hlo:(some (a.eval y)=none/\q.toNat=0)\/∃ k,some (a.eval y)=some (.int k (q.toNat:Int)):=by
     rcases hq with⟨hq,_⟩ | ⟨k,hq⟩
     ·cases hq
     ·simp at hq
      have:=hev y
      rw[h2,hq]at this
      exact .inr ⟨k,by simp[G2 this,Int.toNat_of_nonneg c2]⟩
    have hlen:(l.drop q.toNat).length=l.length-q.toNat:=List.length_drop
    rcases hxv with⟨hk,hl,hv⟩ | ⟨b,cap,hk,hv⟩
    ·subst hl
     have hq0:q.toNat=0:=by simp at c3;omega
     have hgone:(hs id).gone .dead:=by rw[hids];simp[AObj.gone]
     have okD:=X1 ok hgone
     have exD:=S2 (L:=L) (κ:=κ) (w:=w) hgone
     have hfD:upd hs id .dead id'=.fresh:=by rw[A0 _ _ hne];exact hfs
     rw[List.drop_nil]
     refine⟨_,.slice none 0 0,w,?_,q00 okD e' t hfD,⟨?_,rfl⟩,exD.trans (W9 e' t hfD)⟩
     ·have hrun:=q2o (P:=P) (hti T ti hT) hel (hti e te hte) (len:=0) (cap:=0) (a:=q.toNat) (b:=0) none w (hi:=none) hlo (.inl ⟨rfl,rfl⟩) (by omega) (by omega)
      unfold execOp
      simp only[ho,hv,Sem.run_bind,Option.map_none,Option.map_some,hrun,Result.andThen_ok,Sem.run_pure]
      simp[hq0]
     ·rw[A1];exact .inl ⟨A1 _ _ _,rfl,rfl⟩
    ·rcases hob with⟨hk',_⟩ | ⟨b',cap',cur,hk',hheap,hcsz,hcm,hll,hone,hel'⟩
     ·rw[hk]at hk';cases hk'
     rw[hk]at hk';simp at hk';obtain⟨rfl,rfl⟩:=hk'
     have hrun:=q2o (P:=P) (hti T ti hT) hel (hti e te hte) (len:=l.length) (cap:=cap.1) (a:=q.toNat) (b:=l.length) (some ⟨b,cap.2,none⟩) w (hi:=none) hlo (.inl ⟨rfl,rfl⟩) (by omega) hll
     have hex:(execOp a.eval o).run P w=.ok (.value (.slice (if cap.1=q.toNat then some ⟨b,cap.2,none⟩else(some ⟨b,cap.2,none⟩:Option Addr).map (·.add (q.toNat*te.size))) (l.length-q.toNat) (cap.1-q.toNat))) w:=by
      unfold execOp
      simp only[ho,hv,Sem.run_bind,Option.map_none,Option.map_some,hrun,Result.andThen_ok,Sem.run_pure]
     by_cases hc0:cap.1=q.toNat
     ·have hx:=q3t (L:=L) (κ:=κ) (h:=hs) (w:=w) (w':=w) (c':=(0,cap.2)) (obj':=.arr e' t (l.drop q.toNat)) hlive (by rw[hids];simp) hk hfs (.inl (.inl ⟨_,_,_,hheap⟩)) rfl (fun _ _=>rfl)
      have hl0:(l.drop q.toNat).length=0:=by omega
      refine⟨_,_,w,hex,q6n ok hlive (by rw[hids];simp) hk hfs (.inl (.inl ⟨_,_,_,hheap⟩)) rfl (fun _ _=>rfl) ok.below (.inr ⟨b,(0,cap.2),cur,A1 _ _ _,hheap,by show cap.2+0*t.size<=_;omega,Nat.zero_le _,by omega,hone,fun i y hy=>?_⟩),⟨?_,rfl⟩,hx⟩
      ·have:=(List.getElem?_eq_some_iff.1 hy).1;omega
      ·rw[A1];refine .inr ⟨b,(0,cap.2),A1 _ _ _,?_⟩
       rw[if_pos hc0,hlen];congr 1;omega
     ·have hx:=q3t (L:=L) (κ:=κ) (h:=hs) (w:=w) (w':=w) (c':=(cap.1-q.toNat,cap.2+q.toNat*t.size)) (obj':=.arr e' t (l.drop q.toNat)) hlive (by rw[hids];simp) hk hfs (.inl (.inl ⟨_,_,_,hheap⟩)) rfl (fun _ _=>rfl)
      have hmul:q.toNat*t.size+(cap.1-q.toNat)*t.size=cap.1*t.size:=by rw[<-Nat.add_mul];congr 1;omega
      refine⟨_,_,w,hex,q6n ok hlive (by rw[hids];simp) hk hfs (.inl (.inl ⟨_,_,_,hheap⟩)) rfl (fun _ _=>rfl) ok.below (.inr ⟨b,(cap.1-q.toNat,cap.2+q.toNat*t.size),cur,A1 _ _ _,hheap,by show cap.2+q.toNat*t.size+(cap.1-q.toNat)*t.size<=_;omega,by show cap.1-q.toNat<=_;omega,by show _<=cap.1-q.toNat;omega,hone,fun i y hy=>?_⟩),⟨?_,rfl⟩,hx⟩
      ·rw[List.getElem?_drop]at hy
       refine RepAt.congr t _ _ y (fun c hc=>?_) (RepAt.ext hx (hel' _ y hy))
       simp only[hc,if_true]
       rw[Nat.add_mul];congr 1;omega
      ·rw[A1];refine .inr ⟨b,(cap.1-q.toNat,cap.2+q.toNat*t.size),A1 _ _ _,?_⟩
       rw[if_neg hc0,hlen,c1];simp[P0]
   ·cases he
  ·cases he
 ·cases he
theorem y1e {R:Type} {C:Ctx} (hti:∀ t ti,C.TI t=some ti->ti.OK P t) {o:Oper} {T:TypeId} {x:Operand} (ho:o.op=.call { callee:=.builtin .cap,args:=#[x],argTypes:=#[T] }) {ρ:Env} (hx:ev ρ x=.one .nils) {K:Eff->Option R} {z:R}
  (he:q9w C T K=some z):∃ q,K q=some z/\q.full=none/\∀ ρs hs,ev ρs x=ev ρ x->A6 P L w0 o ρs hs (q.heap hs) q.av:=by
 unfold q9w at he
 split at he
 ·rename_i ti hT
  split at he
  ·rename_i e hel
   refine⟨_,he,rfl,fun ρs hs h1=>C6 (fun c hc=>by rw[ho]at hc;cases hc) fun κ a w hev ok=>⟨.int .i64 0,?_,G7 _ _⟩⟩
   have hxv:=hev x
   rw[h1,hx]at hxv
   have hxv:a.eval x=.slice none 0 0:=hxv
   have hu:=W8 (hti T ti hT) hel
   unfold execOp
   simp[ho,resolve,invoke,builtin,hxv,Builtin.cap_,run_underlying hu,goInt]
  ·cases he
 ·cases he
theorem y11 {R:Type} {C:Ctx} (hti:∀ t ti,C.TI t=some ti->ti.OK P t) {o:Oper} {T T':TypeId} {s x:Operand} (ho:o.op=.call { callee:=.builtin .append,args:=#[s,x],argTypes:=#[T,T'] }) {ρ:Env} {h:Heap} {id':Nat} {n:Int}
  (hs1:ev ρ s=.one .nils) (hx1:ev ρ x=.one (.sc (.int .i64) n)) {K:Eff->Option R} {z:R}
  (he:q9v C T T' n h id' K=some z):∃ q,K q=some z/\q.full=none/\∀ ρs hs,ev ρs s=ev ρ s->ev ρs x=ev ρ x->(∀ p∈q.ups,hs p.1=h p.1)->A6 P L w0 o ρs hs (q.heap hs) q.av:=by
 unfold q9v at he
 split at he
 ·rename_i ti ti' hT hT'
  split at he
  ·rename_i e k hel hag hty
   split at he
   ·rename_i te hte
    split at he
    ·rename_i z0 hz
     obtain⟨hf,he⟩:=O4 he
     obtain⟨hc,he⟩:=A7 he
     simp only[Bool.and_eq_true,decide_eq_true_eq]at hc
     obtain⟨⟨⟨c1,c2⟩,c3⟩,c4⟩:=hc
     have c3:=Nat.le_of_ble_eq_true c3
     have c4:=Nat.eq_of_beq_eq_true c4
     obtain⟨b1,b2⟩:=q4z c2
     refine⟨_,he,rfl,fun ρs hs e1 e2 h3=>I3 (fun c hc=>by rw[ho]at hc;cases hc) fun κ a w hev ok=>?_⟩
     have hfs:hs id'=.fresh:=(h3 (id',.arr e te.ty (List.replicate n.toNat z0)) (by simp)).trans hf
     show ∃ κ' v w',_/\HeapOK L w0 κ' (upd hs id' (.arr e te.ty (List.replicate n.toNat z0))) w'/\RepAV L κ' (upd hs id' (.arr e te.ty (List.replicate n.toNat z0))) w' (.one (.own id')) v/\Ext L κ hs w κ' (upd hs id' (.arr e te.ty (List.replicate n.toNat z0))) w'
     have hsv:=hev s
     rw[e1,hs1]at hsv
     have hsv:a.eval s=.slice none 0 0:=hsv
     have hxv:=hev x
     rw[e2,hx1]at hxv
     have hxv:=G2 hxv
     have hu:=W8 (hti T ti hT) hel
     obtain⟨-,d,hd,-,-,hk,-⟩:=(hti T' ti' hT').base
     have:=hk k hag hty
     subst this
     obtain⟨i,zv,hi,hisz,hiby,hiz,hzs,hzl,hrep,hz1⟩:=(hti e te hte).zero_one (L:=L)
     by_cases hn:n.toNat=0
     ·have hn0:n=0:=by omega
      subst hn0
      refine⟨_,.slice none 0 0,w,q0p ho ?_,q00 ok e te.ty hfs,⟨?_,rfl⟩,W9 e te.ty hfs⟩
      ·rw[hsv,hxv]
       have hw:IntKind.i64.wrap 0=0:=by decide
       simp[Builtin.append_,run_underlying hu,run_underlying hd,sizeOf,typeInfo,hi,asInt,asIntOf,hw,Builtin.lenOf]
      ·rw[A1];exact .inl ⟨A1 _ _ _,rfl,rfl⟩
     ·have hnn:((n.toNat:Nat):Int)=n:=Int.toNat_of_nonneg c1
      have hr:=Lib.run_append_nil_zeros (P:=P) w T T' o.type e i zv .i64 k hu hd hi hiz n.toNat (by omega) (by omega) (by omega) (by rw[hiby];omega)
      rw[hnn]at hr
      have hge:=grownCap_ge w n.toNat 0 e
      have hcm:grownCap w n.toNat 0 e<=maxLen:=grownCap_le_maxLen w n.toNat 0 e (by simp only[maxLen];omega)
      have hzo:=q58 (hti e te hte)
      obtain⟨-,-,hzr⟩:=R3 ok (Ext.refl _ _ _ _) te.ty te.zeros (fun j=>zv.cells[j]?) z0 [] (fun j s hj=>by
       have:=V0 (hrep κ hs w) hj;simpa using this) (fun id hm=>by rw[hzo]at hm;cases hm) ((R2 te.ty te.zeros (fun id hm=>by rw[hzo]at hm;cases hm)).trans hz)
      have hget:∀ j,j<n.toNat*te.size->(Builtin.zeroCells zv.cells n.toNat)[j]? = zv.cells[j % te.size]?:=by
       intro j hj
       have hm:j % zv.cells.size<zv.cells.size:=Nat.mod_lt _ (by rw[hzs];omega)
       simp only[Builtin.zeroCells,Array.getElem?_map,Array.getElem?_range,hzs,hj,if_true,Option.map_some]
       rw[hzs]at hm
       rw[getElem!_pos zv.cells _ (by rw[hzs];exact hm),<-Array.getElem?_eq_getElem (by rw[hzs];exact hm)]
      have hzsz:(Builtin.zeroCells zv.cells n.toNat).size=n.toNat*te.size:=by rw[size_zeroCells,hzs]
      obtain⟨κ',a1,a2,a3⟩:=q96 (q3v ok) hfs (e:=e) (t:=te.ty) (l:=List.replicate n.toNat z0) (cs:=(Builtin.zeroCells zv.cells n.toNat).toList) (rest:=(Builtin.zeroCells zv.cells (grownCap w n.toNat 0 e-n.toNat)).toList) (cap:=grownCap w n.toNat 0 e)
       (by rw[Array.length_toList,hzsz,List.length_replicate,c4]) (by rw[Array.length_toList,size_zeroCells,hzs,c4,List.length_replicate]) (by rw[List.length_replicate];exact hge) hcm (q8w hz1 _) (q8w hz1 _) (fun j y hy=>by
        have hjl:j<n.toNat:=by have:=(List.getElem?_eq_some_iff.1 hy).1;simpa using this
        rw[List.getElem?_replicate,if_pos hjl]at hy
        cases hy
        refine RepAt.congr te.ty _ _ z0 (fun q hq=>?_) (RepAt.ext (S1 κ hs w) hzr)
        simp only[hq,if_true,Array.getElem?_toList]
        have h3:(j+1)*te.ty.size<=n.toNat*te.ty.size:=Nat.mul_le_mul_right _ (by omega)
        rw[Nat.succ_mul]at h3
        have e2:(j*te.ty.size+q) % te.size=q:=by
         rw[<-c4,Nat.add_comm,Nat.add_mul_mod_self_right,Nat.mod_eq_of_lt hq]
        rw[hget _ (by rw[<-c4];omega),e2])
      rw[List.length_replicate]at a2
      have harr:(Builtin.zeroCells zv.cells n.toNat++Builtin.zeroCells zv.cells (grownCap w n.toNat 0 e-n.toNat))=((Builtin.zeroCells zv.cells n.toNat).toList++(Builtin.zeroCells zv.cells (grownCap w n.toNat 0 e-n.toNat)).toList).toArray:=by
       apply Array.toList_inj.1;simp
      rw[harr]at hr
      exact⟨κ',_,_,q0p ho (by rw[hsv,hxv];exact hr),a1,a2,(S1 κ hs w).trans a3⟩
    ·cases he
   ·cases he
  ·cases he
 ·cases he
theorem y1x {R:Type} {C:Ctx} (hti:∀ t ti,C.TI t=some ti->ti.OK P t) {o:Oper} {T:TypeId} {x:Operand} (ho:o.op=.makeInterface T x) {ρ:Env} {K:Eff->Option R} {z:R}
  (he:z0b C T (ev ρ x) K=some z):∃ q,K q=some z/\q.full=none/\∀ ρs hs,ev ρs x=ev ρ x->A6 P L w0 o ρs hs (q.heap hs) q.av:=by
 unfold z0b at he
 split at he
 ·rename_i ti agg cs hT hp
  obtain⟨hstr,he⟩:=A7 he
  refine⟨_,he,rfl,fun ρs hs h1=>C6 (fun c hc=>by rw[ho]at hc;cases hc) fun κ a w hev ok=>?_⟩
  have hxv:=hev x
  rw[h1]at hxv
  obtain⟨us,h2,h3,h4,h5⟩:=z97 hp hxv
  obtain⟨-,d,hd,-,-,-,hfl⟩:=(hti T ti hT).base
  obtain⟨fs,hfs,-⟩:=hfl hstr
  subst hfs
  refine⟨.iface T (a.eval x),?_,us,by rw[h2],h3,h4,h5⟩
  unfold execOp
  simp[ho,Instr.makeInterface,run_underlying hd]
 ·cases he
theorem j0u {R:Type} {C:Ctx} (hif:∀ T,C.ifc T=true->∃ ms,P.underlying T=some (.interface ms)) {o:Oper} {op:BinOp} {T T':TypeId} {x:Operand} (ho:o.op=.binOp op T x (.const .nilIface) T') {ρ:Env} {s:SV} {b:Bool} (hx:ev ρ x=.one s)
  (hs:(∃ t agg cs,s=.ifc t agg cs/\b=false)\/(s=.nif/\b=true)) {K:Eff->Option R} {z:R} (he:q68 C op T b K=some z) :
  ∃ q,K q=some z/\q.full=none/\∀ ρs hs,ev ρs x=ev ρ x->A6 P L w0 o ρs hs (q.heap hs) q.av:=by
 unfold q68 at he
 obtain⟨hc,he⟩:=A7 he
 obtain⟨ms,hu⟩:=hif T hc
 have heq:∀ (a:Act) w (κ:A2) (hs0:Heap),RepSV L κ hs0 w s (a.eval x)->(Op.equal T (a.eval x) .nilIface).run P w=.ok b w:=by
  intro a w κ hs0 hr
  have hv:(∃ t u,a.eval x=.iface t u/\b=false)\/(a.eval x=.nilIface/\b=true):=by
   rcases hs with⟨t,agg,cs,rfl,rfl⟩ | ⟨rfl,rfl⟩
   ·obtain⟨us,h,_⟩:=hr;exact .inl ⟨_,_,h,rfl⟩
   ·exact .inr ⟨hr,rfl⟩
  unfold Op.equal
  rw[show Op.maxDepth=9999+1 from rfl]
  generalize (9999:Nat)=n
  unfold Op.equalIn
  rw[Sem.run_bind,run_underlying hu]
  rcases hv with⟨t,u,h,rfl⟩ | ⟨h,rfl⟩<;>rw[h]<;>rfl
 have hg:∀ (op:BinOp) (v:Value) (w:World),(eqGuard op T x (.const .nilIface) v .nilIface).run P w=.ok () w:=fun op v w=>by
  cases op<;>cases v<;>first | rfl | (cases x<;>rfl)
 split at he
 ·refine⟨_,he,rfl,fun ρs hs h1=>C6 (fun c hc=>by rw[ho]at hc;cases hc) fun κ a w hev ok=>⟨.bool b,?_,M2 b⟩⟩
  have hxv:=hev x
  rw[h1,hx]at hxv
  have h2:=heq a w κ hs hxv
  unfold execOp
  rw[ho]
  have hn:a.eval (.const .nilIface)=.nilIface:=rfl
  simp only[hn,Sem.run_bind,hg,Result.andThen_ok]
  have:((binOp .eql T (a.eval x) .nilIface).run P w)=.ok (.bool b) w:=by
   have hb:binOp .eql T (a.eval x) .nilIface=(do pure (.bool (<-Op.equal T (a.eval x) .nilIface)):Sem Value):=by
    generalize a.eval x=v
    cases v<;>rfl
   rw[hb,Sem.run_bind,h2];rfl
  rw[this];rfl
 ·refine⟨_,he,rfl,fun ρs hs h1=>C6 (fun c hc=>by rw[ho]at hc;cases hc) fun κ a w hev ok=>⟨.bool (!b),?_,M2 (!b)⟩⟩
  have hxv:=hev x
  rw[h1,hx]at hxv
  have h2:=heq a w κ hs hxv
  unfold execOp
  rw[ho]
  have hn:a.eval (.const .nilIface)=.nilIface:=rfl
  simp only[hn,Sem.run_bind,hg,Result.andThen_ok]
  have:((binOp .neq T (a.eval x) .nilIface).run P w)=.ok (.bool (!b)) w:=by
   have hb:binOp .neq T (a.eval x) .nilIface=(do pure (.bool (!(<-Op.equal T (a.eval x) .nilIface))):Sem Value):=by
    generalize a.eval x=v
    cases v<;>rfl
   rw[hb,Sem.run_bind,h2];rfl
  rw[this];rfl
 ·cases he
theorem y0u {o:Oper} {r:Operand} {name:String} {args:Array Operand} {Ts:Array TypeId} (ho:o.op=.call { callee:=.invoke r name,args:=args,argTypes:=Ts }) {T:TypeId} {agg:Bool} {cs:List ((t:Ty)×t.den)} {ρ:Env} (hr:ev ρ r=.one (.ifc T agg cs)) {f:FuncId} (hm:q1h P T name f) :
  q33 P L o f ([q1m agg cs]++args.toList.map (ev ρ)++[]) (fun x=>x=r\/x∈args.toList) ρ:=by
 refine⟨(fun c hc=>by rw[ho]at hc;cases hc),fun fn hf1 hf2 hf3 ρs hs h1 κ a w hev=>?_⟩
 obtain⟨i,m,d,m1,m2,m3,m4,m5,m6⟩:=hm
 have hrv:=hev r
 rw[h1 r (.inl rfl),hr]at hrv
 obtain⟨us,hv,h2,h3,h4⟩:=hrv
 have hmeth:∀ (n:Nat) (v:Value),(method (n+1) T v name).run P w=.ok (f,v) w:=by
  intro n v
  unfold method
  simp only[Sem.run_bind,q50 m1,Result.andThen_ok,m2,m3]
  simp only[follow,Sem.run_bind,Sem.run_pure,Result.andThen_ok,m4]
  unfold receiverAt
  simp only[Sem.run_bind,run_underlying m5,Result.andThen_ok]
  cases d<;>first | rfl | exact absurd rfl (m6 _)
 refine⟨cond agg (.agg us.toArray) (us.headD undef)::args.toList.map a.eval,?_,by simp,fun j av v hj hjv=>?_⟩
 ·unfold execOp
  simp only[ho,resolve,Sem.run_bind,Sem.run_pure,Result.andThen_ok,invoke]
  have hx0:∀ V:Value,(#[V]++args.map a.eval)[0]? = some V:=fun V=>by
   rw[Array.getElem?_append_left (Nat.zero_lt_one)];rfl
  have hx1:∀ V:Value,(#[V]++args.map a.eval).extract 1 (#[V]++args.map a.eval).size=args.map a.eval:=fun V=>by
   apply Array.toList_inj.1;simp[List.take_of_length_le]
  simp only[hx0,hx1,hv,callMethod,Sem.run_bind,run_program,Result.andThen_ok]
  rw[show P.types.size+Made.depth=(P.types.size+99)+1 from rfl,hmeth]
  simp only[Result.andThen_ok]
  have harr:(#[cond agg (.agg us.toArray) (us.headD undef)]++args.map a.eval)=(cond agg (.agg us.toArray) (us.headD undef)::args.toList.map a.eval).toArray:=by
   apply Array.toList_inj.1;simp
  rw[harr]
  simp[callFunc,hf1,Option.isNone_iff_eq_none]
  cases hbb:fn.body with
  | none=>rw[hbb]at hf2;cases hf2
  | some c=>simpa using hf3
 ·rw[List.append_nil,List.singleton_append]at hj
  cases j with
  | zero =>
   simp only[List.getElem?_cons_zero,Option.some.injEq]at hj hjv
   subst hj;subst hjv
   exact q9e h2 h3 h4
  | succ j =>
   simp only[List.getElem?_cons_succ,List.getElem?_map,Option.map_eq_some_iff]at hj hjv
   obtain⟨q,hq,rfl⟩:=hj
   obtain⟨q',hq',rfl⟩:=hjv
   rw[hq]at hq';cases hq'
   rw[<-h1 q (.inr (List.mem_of_getElem? hq))]
   exact hev q
theorem y2n {R:Type} {o:Oper} {x:Operand} (ho:o.op=.panic x) {ρ:Env} {lo:Nat->Bool} {h:Heap} {K:Eff->Option R} {z:R} (he:z0q lo (ev ρ x) h K=some z) :
  ∃ q,K q=some z/\q.full≠none/\(∀ H,q.full=some H->∀ id,lo id=true\/(id<q.lim/\id∉q.ups.map (·.1))->H id=h id)/\∀ ρs hs,ev ρs x=ev ρ x->hs=h->A6 P L w0 o ρs hs (q.heap hs) q.av:=by
 unfold z0q at he
 split at he
 ·rename_i T hx hb
  obtain⟨hlo,he⟩:=A7 he
  have hlo:lo B6=false:=by simpa using hlo
  refine⟨_,he,(by intro h;cases h),fun H hH id hid=>?_,fun ρs hs h1 h2=>?_⟩
  ·cases hH
   rcases hid with hid | hid
   ·exact A0 _ _ (fun e=>by rw[e,hlo]at hid;cases hid)
   ·exact absurd hid.1 (Nat.not_lt_zero _)
  ·subst h2
   intro r κ a w henv ok m K' Q hK hP
   have hv:=L4 henv x
   rw[h1,hx]at hv
   obtain⟨us,hv,hl,-,-⟩:=hv
   have hus:us=[]:=List.eq_nil_of_length_eq_zero hl
   subst hus
   have hv:a.eval x=.iface T (.agg #[]):=hv
   refine⟨fun _ _=>trivial,?_⟩
   rw[Oper.semAt_eq _ _ _ (fun c hc=>by rw[ho]at hc;cases hc)]
   have hrun:(execOp a.eval o).run P w=.halt (.panic (.iface T (.agg #[]))) w:=by
    unfold execOp
    simp only[ho,hv]
    rfl
   rw[hrun]
   have hup:upd (upd hs B6 (I9 T)) B6 .fresh=hs:=by
    funext j
    by_cases hj:j=B6
    ·subst hj;rw[A1];exact hb.symm
    ·rw[A0 _ _ hj,A0 _ _ hj]
   exact hP T rfl κ w (by show HeapOK L w0 κ (upd (upd hs B6 (I9 T)) B6 .fresh) w;rw[hup];exact ok) (by show Ext L κ hs w κ (upd (upd hs B6 (I9 T)) B6 .fresh) w;rw[hup];exact Ext.refl _ _ _ _)
 ·cases he
theorem z6d {R:Type} {C:Ctx} (hC:CtxOK P L w0 C) {o:Oper} {lo:Nat->Bool} {id':Nat} {ρ:Env} {h:Heap} {K:Eff->Option R} {z:R} (he:z1d C lo id' o.op (ev ρ) h K=some z) :
  (∃ q,K q=some z/\(∀ H,q.full=some H->∀ id,lo id=true\/(id<q.lim/\id∉q.ups.map (·.1))->H id=h id)/\∀ ρs hs,R6 o.op q ρ h ρs hs->A6 P L w0 o ρs hs (q.heap hs) q.av)/\(∀ T m k,o.op≠.mapEntry T m k)/\∀ T m k,o.op≠.lookup T m k false:=by
 generalize hop:o.op=op at he
 have nofull:∀ (q:Eff),q.full=none->∀ H,q.full=some H->∀ id,lo id=true\/(id<q.lim/\id∉q.ups.map (·.1))->H id=h id:=fun q hq H hH=>by rw[hq]at hH;cases hH
 unfold z1d at he
 split at he
 ·rename_i T x lo' hi
  refine⟨?_,(fun _ _ _ h=>by cases h),fun _ _ _ h=>by cases h⟩
  have hlo:∀ y,lo'=some y\/hi=some y->y∈(Op.slice T x lo' hi none).operands:=fun y hy=>by
   simp only[Op.operands]
   rcases hy with rfl | rfl<;>simp
  split at he
  ·rename_i hx
   obtain⟨q,hq,hfull,hsem⟩:=y2r (L:=L) (w0:=w0) hC.ti hop hx he
   exact⟨q,hq,nofull q hfull,fun ρs hs ha=>hsem ρs hs (ha.1 x (by simp[Op.operands])) (fun y hy=>ha.1 y (hlo y hy))⟩
  ·rename_i id hx
   split at he
   ·obtain⟨q,hq,hfull,hsem⟩:=y1m (L:=L) (w0:=w0) hC.ti hop hx he
    exact⟨q,hq,nofull q hfull,fun ρs hs ha=>hsem ρs hs (ha.1 x (by simp[Op.operands])) (fun y hy=>ha.1 y (hlo y (.inr hy))) ha.2.2.1⟩
   ·obtain⟨q,hq,hfull,hsem⟩:=y1n (L:=L) (w0:=w0) hC.ti hop hx he
    exact⟨q,hq,nofull q hfull,fun ρs hs ha=>hsem ρs hs (ha.1 x (by simp[Op.operands])) (ha.1 _ (hlo _ (.inl rfl))) ha.2.2.1⟩
   ·cases he
  ·cases he
 ·rename_i args Ts
  refine⟨?_,(fun _ _ _ h=>by cases h),fun _ _ _ h=>by cases h⟩
  split at he
  ·rename_i T hargs hTs
   obtain⟨x,hax,hx⟩:∃ x,args=#[x]/\ev ρ x=.one .nils:=by
    obtain⟨l,hl⟩:∃ l,args.toList=l:=⟨_,rfl⟩
    rw[hl]at hargs
    match l,hargs with
    | [],h=>simp at h
    | [x],h=>simp at h;exact⟨x,Array.toList_inj.1 hl,h⟩
    | _::_::_,h=>simp at h
   subst hax
   have hTs:Ts=#[T]:=Array.toList_inj.1 hTs
   subst hTs
   obtain⟨q,hq,hfull,hsem⟩:=y1e (L:=L) (w0:=w0) hC.ti hop hx he
   exact⟨q,hq,nofull q hfull,fun ρs hs ha=>hsem ρs hs (ha.1 x (by simp[Op.operands,Call.operands]))⟩
  ·cases he
 ·rename_i args Ts
  refine⟨?_,(fun _ _ _ h=>by cases h),fun _ _ _ h=>by cases h⟩
  split at he
  ·rename_i n T T' hargs hTs
   obtain⟨s,x,hax,hs1,hx1⟩:∃ s x,args=#[s,x]/\ev ρ s=.one .nils/\ev ρ x=.one (.sc (.int .i64) n):=by
    obtain⟨l,hl⟩:∃ l,args.toList=l:=⟨_,rfl⟩
    rw[hl]at hargs
    match l,hargs with
    | [s,x],h=>simp only[List.map_cons,List.map_nil,List.cons.injEq,and_true]at h;exact⟨s,x,Array.toList_inj.1 hl,h⟩
    | [],h=>simp at h
    | [_],h=>simp at h
    | _::_::_::_,h=>simp at h
   subst hax
   have hTs:Ts=#[T,T']:=Array.toList_inj.1 hTs
   subst hTs
   obtain⟨q,hq,hfull,hsem⟩:=y11 (L:=L) (w0:=w0) hC.ti hop hs1 hx1 he
   exact⟨q,hq,nofull q hfull,fun ρs hs ha=>hsem ρs hs (ha.1 s (by simp[Op.operands,Call.operands])) (ha.1 x (by simp[Op.operands,Call.operands])) ha.2.2.1⟩
  ·cases he
 ·rename_i T x
  refine⟨?_,(fun _ _ _ h=>by cases h),fun _ _ _ h=>by cases h⟩
  obtain⟨q,hq,hfull,hsem⟩:=y1x (L:=L) (w0:=w0) hC.ti hop he
  exact⟨q,hq,nofull q hfull,fun ρs hs ha=>hsem ρs hs (ha.1 x (by simp[Op.operands]))⟩
 ·rename_i x
  refine⟨?_,(fun _ _ _ h=>by cases h),fun _ _ _ h=>by cases h⟩
  obtain⟨q,hq,hqf,hfull,hsem⟩:=y2n (P:=P) (L:=L) (w0:=w0) hop he
  exact⟨q,hq,hfull,fun ρs hs ha=>hsem ρs hs (ha.1 x (by simp[Op.operands])) (ha.2.2.2 hqf)⟩
 ·rename_i op T x T'
  refine⟨?_,(fun _ _ _ h=>by cases h),fun _ _ _ h=>by cases h⟩
  split at he
  ·rename_i t agg cs hx
   obtain⟨q,hq,hfull,hsem⟩:=j0u (L:=L) (w0:=w0) hC.ifc hop hx (.inl ⟨_,_,_,rfl,rfl⟩) he
   exact⟨q,hq,nofull q hfull,fun ρs hs ha=>hsem ρs hs (ha.1 x (by simp[Op.operands]))⟩
  ·rename_i hx
   obtain⟨q,hq,hfull,hsem⟩:=j0u (L:=L) (w0:=w0) hC.ifc hop hx (.inr ⟨rfl,rfl⟩) he
   exact⟨q,hq,nofull q hfull,fun ρs hs ha=>hsem ρs hs (ha.1 x (by simp[Op.operands]))⟩
  ·cases he
 ·rename_i r name args Ts
  refine⟨?_,(fun _ _ _ h=>by cases h),fun _ _ _ h=>by cases h⟩
  split at he
  ·rename_i T agg cs hr
   unfold z63 at he
   split at he
   ·rename_i f hf
    have hR:=y0u (L:=L) (P:=P) hop hr (hC.meth T name f hf)
    have hmem:∀ x,x=r\/x∈args.toList->x∈(Op.call { callee:=.invoke r name,args:=args,argTypes:=Ts }).operands:=fun x hx=>by
     simp only[Op.operands,Call.operands]
     rcases hx with rfl | hx<;>simp_all
    unfold q1u at he
    split at he
    ·rename_i sp hsp
     obtain⟨q,hq,hfull,hsem⟩:=z3e (L:=L) (w0:=w0) hR (hC.spec f sp (z3l hsp)) hC.glob he
     exact⟨q,hq,nofull q hfull,fun ρs hs ha=>hsem ρs hs (fun x hx=>ha.1 x (hmem x hx)) ha.2.1 ha.2.2.1⟩
    ·obtain⟨hin,he⟩:=A7 he
     cases hpu:C.pur f with
     | true =>
      rw[hpu,cond_true]at he
      obtain⟨q,hq,⟨hlim,hups⟩,⟨H,hH,hlo⟩,hsem⟩:=q2r (M:=_) hC.ic hR hin he
      exact⟨q,hq,fun H' hH' id hid=>by
       rw[hH]at hH';cases hH'
       refine hlo id ?_
       rcases hid with hid | hid
       ·rw[hid];rfl
       ·rw[hlim,hups]at hid
        have:Nat.blt id (C.nb (2*id'))=true:=Nat.ble_eq_true_of_le hid.1
        rw[this,z2i hid.2,Bool.and_self,Bool.or_true],fun ρs hs ha=>hsem ρs hs (fun x hx=>ha.1 x (hmem x hx)) (ha.2.2.2 (by rw[hH];simp))⟩
     | false =>
      rw[hpu,cond_false]at he
      obtain⟨q,hq,⟨hlim,hups⟩,⟨H,hH,hlo⟩,hsem⟩:=q2r (M:=[]) hC.ic hR hin he
      exact⟨q,hq,fun H' hH' id hid=>by
       rw[hH]at hH';cases hH'
       rcases hid with hid | hid
       ·exact hlo id hid
       ·rw[hlim]at hid;exact absurd hid.1 (Nat.not_lt_zero _),fun ρs hs ha=>hsem ρs hs (fun x hx=>ha.1 x (hmem x hx)) (ha.2.2.2 (by rw[hH];simp))⟩
   ·cases he
  ·cases he
 ·cases he
end Go.Abs
