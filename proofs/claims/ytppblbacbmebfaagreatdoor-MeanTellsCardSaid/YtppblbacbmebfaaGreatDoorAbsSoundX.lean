/- The engine, part 12b: what the first part of the operations leaves. -/
import Derived.Test.YtppblbacbmebfaaGreatDoorAbsOpSound
import Derived.Lib.AppendZeros
namespace Go.Abs
open Go Go.RowKit
variable {P:Program} {L:Nat->Prop} {w0:World}
theorem v5y {R:Type} {C:Ctx} (i:∀ t l,C.TI t=some l->l.OK P t) {o:Oper} {T:TypeId} {x:Operand} {lo hi:Option Operand} (U:o.op=.slice T x lo hi none) {ρ:Env} (N:ev ρ x=.one .nils) {K:Eff->Option R} {z:R}
  (d:z87 C T (lo.map (ev ρ)) (hi.map (ev ρ)) K=some z):∃ q,K q=some z/\q.full=none/\∀ f u,ev f x=ev ρ x->(∀ y,lo=some y\/hi=some y->ev f y=ev ρ y)->A6 P L w0 o f u (q.heap u) q.av:=by
 have M:∀ c,o.op≠.defer c:=fun c F=>by grind
 unfold z87 at d
 split at d
 ·rename_i l J
  split at d
  ·rename_i e s
   split at d
   ·rename_i H B
    obtain⟨p,d,G⟩:=U9 d
    obtain⟨q,d,O⟩:=U9 d
    obtain⟨F,d⟩:=A8 d
    simp[Bool.and_eq_true,decide_eq_true_eq]at F
    have A:p=0:=by omega
    have v:q=0:=by omega
    subst A;subst v
    refine⟨_,d,rfl,fun f u I E=>D1 M fun V a w m Q=>?_⟩
    have g:=m x
    rw[I,N]at g
    have g:a.eval x=.slice none 0 0:=g
    have j:∀ (y:Option Operand),(∀ r,y=some r->ev f r=ev ρ r)->((y.map (ev ρ)=none/\(0:Int)=(0:Nat))\/∃ k,y.map (ev ρ)=some (.one (.sc (.int k) 0)))->(y.map a.eval=none/\0=0)\/∃ k,y.map a.eval=some (.int k ((0:Nat):Int)):=by
     intro y S h
     cases y with
     | none=>grind
     | some r =>
      rcases h with⟨h,_⟩ | ⟨k,h⟩
      ·grind
      ·exact .inr ⟨k,by grind[H7]⟩
    have D:=q60 (P:=P) (i T l J) s (i e H B) (len:=0) (cap:=0) (a:=0) (b:=0) none w (j lo (fun r n=>E r (.inl n)) G) (j hi (fun r n=>E r (.inr n)) O) (Nat.le_refl _) (Nat.le_refl _)
    refine⟨.slice none 0 0,?_,rfl⟩
    grind[execOp,Sem.run_bind,Result.andThen_ok,Sem.run_pure]
   grind
  grind
 grind
theorem v4k {R:Type} {C:Ctx} (A:∀ t W,C.TI t=some W->W.OK P t) {o:Oper} {T:TypeId} {x:Operand} {hi:Option Operand} (ho:o.op=.slice T x none hi none) {ρ:Env} {h:Heap} {id id':Nat} (hx:ev ρ x=.one (.own id)) {K:Eff->Option R} {z:R}
  (s:z6w C T h id id' (hi.map (ev ρ)) K=some z):∃ q,K q=some z/\q.full=none/\∀ u g,ev u x=ev ρ x->(∀ y,hi=some y->ev u y=ev ρ y)->(∀ p∈q.ups,g p.1=h p.1)->A6 P L w0 o u g (q.heap g) q.av:=by
 have hd:∀ c,o.op≠.defer c:=fun c Z=>by grind
 unfold z6w at s
 split at s
 ·rename_i W hT
  split at s
  ·rename_i e G
   split at s
   ·rename_i te B t l F hid
    obtain⟨q,s,N⟩:=U9 s
    obtain⟨Z,s⟩:=A8 s
    simp only[Bool.and_eq_true,decide_eq_true_eq]at Z
    obtain⟨⟨c1,c2⟩,c3⟩:=Z
    have c1:=Nat.eq_of_beq_eq_true c1
    obtain⟨hf,s⟩:=O2 s
    refine⟨_,s,rfl,fun u g h1 h2 h3=>I4 hd fun κ a w V Y=>?_⟩
    have f:g id=.arr B t l:=(h3 (id,.dead) (by simp)).trans hid
    have U:g id'=.fresh:=(h3 (id',.arr B t (l.take q.toNat)) (by simp)).trans hf
    show ∃ E v w',_/\HeapOK L w0 E (upd (upd g id .dead) id' (.arr B t (l.take q.toNat))) w'/\RepAV L E (upd (upd g id .dead) id' (.arr B t (l.take q.toNat))) w' (.one (.own id')) v/\Ext L κ g w E (upd (upd g id .dead) id' (.arr B t (l.take q.toNat))) w'
    have n:=V x
    rw[h1,hx]at n
    have n:=n.1
    rw[f]at n
    have S:=Y.obj id
    rw[f]at S
    have j:(g id).live=true:=by rw[f];rfl
    have hne:id'≠id:=fun h=>by grind
    have H:∀ len,len=l.length->(hi.map a.eval=none/\q.toNat=len)\/∃ k,hi.map a.eval=some (.int k (q.toNat:Int)):=by
     intro len M
     cases hi with
     | none =>
      grind
     | some r =>
      rcases N with⟨N,_⟩ | ⟨k,N⟩
      ·grind
      ·simp at N
       have:=V r
       rw[h2 r rfl,N]at this
       exact .inr ⟨k,by grind[H7]⟩
    have M:(l.take q.toNat).length=q.toNat:=by grind
    rcases n with⟨X,hl,hv⟩ | ⟨b,cap,X,hv⟩
    ·subst hl
     have hq0:q.toNat=0:=by grind
     have m:(g id).gone .dead:=by rw[f];simp[AObj.gone]
     have okD:=q0j Y m
     have exD:=V3 (L:=L) (κ:=κ) (w:=w) m
     have J:upd g id .dead id'=.fresh:=by grind[A0]
     rw[List.take_nil]
     refine⟨_,.slice none 0 0,w,?_,q2k okD B t J,⟨?_,rfl⟩,exD.trans (q1h B t J)⟩
     ·have O:=q60 (P:=P) (A T W hT) G (A e te F) (len:=0) (cap:=0) (a:=0) (b:=q.toNat) none w (lo:=none) (.inl ⟨rfl,rfl⟩) (H 0 rfl) (Nat.zero_le _) (by omega)
      grind[execOp,Sem.run_bind,Result.andThen_ok,Sem.run_pure]
     grind[A1]
    ·rcases S with⟨D,_⟩ | ⟨b',cap',cur,D,d,I,hcm,hll,Q,hel'⟩
     ·grind
     rw[X]at D;obtain⟨rfl,rfl⟩:=D
     have hx:=q4x (L:=L) (κ:=κ) (h:=g) (w:=w) (w':=w) (c':=cap) (obj':=.arr B t (l.take q.toNat)) j (by grind) X U (.inl (.inl ⟨_,_,_,d⟩)) rfl (fun _ _=>rfl)
     refine⟨_,.slice (some ⟨b,cap.2,none⟩) q.toNat cap.1,w,?_,q7e Y j (by grind) X U (.inl (.inl ⟨_,_,_,d⟩)) rfl (fun _ _=>rfl) Y.below (.inr ⟨b,cap,cur,A1 _ _ _,d,I,hcm,by omega,Q,fun i y hy=>?_⟩),⟨?_,rfl⟩,hx⟩
     ·have O:=q60 (P:=P) (A T W hT) G (A e te F) (len:=l.length) (cap:=cap.1) (a:=0) (b:=q.toNat) (some ⟨b,cap.2,none⟩) w (lo:=none) (.inl ⟨rfl,rfl⟩) (H _ rfl) (Nat.zero_le _) (by omega)
      grind[execOp,Sem.run_bind,Result.andThen_ok,Sem.run_pure,Q0]
     all_goals grind[RepAt.ext,A1]
   grind
  grind
 grind
theorem v4l {R:Type} {C:Ctx} (N:∀ t S,C.TI t=some S->S.OK P t) {o:Oper} {T:TypeId} {x y:Operand} (ho:o.op=.slice T x (some y) none none) {ρ:Env} {h:Heap} {id id':Nat} (Q:ev ρ x=.one (.own id)) {K:Eff->Option R} {z:R}
  (n:z6x C T h id id' (ev ρ y) K=some z):∃ q,K q=some z/\q.full=none/\∀ u g,ev u x=ev ρ x->ev u y=ev ρ y->(∀ p∈q.ups,g p.1=h p.1)->A6 P L w0 o u g (q.heap g) q.av:=by
 have hd:∀ c,o.op≠.defer c:=fun c X=>by grind
 unfold z6x at n
 split at n
 ·rename_i S hT
  split at n
  ·rename_i e hel
   split at n
   ·rename_i te A t l U hid
    obtain⟨q,n,M⟩:=U9 n
    obtain⟨X,n⟩:=A8 n
    simp only[Bool.and_eq_true,decide_eq_true_eq]at X
    obtain⟨⟨c1,c2⟩,c3⟩:=X
    have c1:=Nat.eq_of_beq_eq_true c1
    obtain⟨hf,n⟩:=O2 n
    refine⟨_,n,rfl,fun u g h1 h2 h3=>I4 hd fun κ a w G ok=>?_⟩
    have j:g id=.arr A t l:=(h3 (id,.dead) (by simp)).trans hid
    have B:g id'=.fresh:=(h3 (id',.arr A t (l.drop q.toNat)) (by simp)).trans hf
    show ∃ E v w',_/\HeapOK L w0 E (upd (upd g id .dead) id' (.arr A t (l.drop q.toNat))) w'/\RepAV L E (upd (upd g id .dead) id' (.arr A t (l.drop q.toNat))) w' (.one (.own id')) v/\Ext L κ g w E (upd (upd g id .dead) id' (.arr A t (l.drop q.toNat))) w'
    have m:=G x
    rw[h1,Q]at m
    have m:=m.1
    rw[j]at m
    have H:=ok.obj id
    rw[j]at H
    have f:(g id).live=true:=by rw[j];rfl
    have hne:id'≠id:=fun h=>by grind
    have Y:(some (a.eval y)=none/\q.toNat=0)\/∃ k,some (a.eval y)=some (.int k (q.toNat:Int)):=by
     rcases M with⟨M,_⟩ | ⟨k,M⟩
     ·grind
     ·simp at M
      have:=G y
      rw[h2,M]at this
      exact .inr ⟨k,by grind[H7]⟩
    have hlen:(l.drop q.toNat).length=l.length-q.toNat:=List.length_drop
    rcases m with⟨F,hl,hv⟩ | ⟨b,cap,F,hv⟩
    ·subst hl
     have hq0:q.toNat=0:=by grind
     have r:(g id).gone .dead:=by rw[j];simp[AObj.gone]
     have Z:=q0j ok r
     have V:=V3 (L:=L) (κ:=κ) (w:=w) r
     have I:upd g id .dead id'=.fresh:=by grind[A0]
     rw[List.drop_nil]
     refine⟨_,.slice none 0 0,w,?_,q2k Z A t I,⟨?_,rfl⟩,V.trans (q1h A t I)⟩
     all_goals grind[q60,execOp,Sem.run_bind,Result.andThen_ok,Sem.run_pure,A1]
    ·rcases H with⟨s,_⟩ | ⟨b',cap',O,s,d,hcsz,hcm,W,D,hel'⟩
     ·grind
     rw[F]at s;simp at s;obtain⟨rfl,rfl⟩:=s
     have hrun:=q60 (P:=P) (N T S hT) hel (N e te U) (len:=l.length) (cap:=cap.1) (a:=q.toNat) (b:=l.length) (some ⟨b,cap.2,none⟩) w (hi:=none) Y (.inl ⟨rfl,rfl⟩) (by omega) W
     have J:(execOp a.eval o).run P w=.ok (.value (.slice (if cap.1=q.toNat then some ⟨b,cap.2,none⟩else(some ⟨b,cap.2,none⟩:Option Addr).map (·.add (q.toNat*te.size))) (l.length-q.toNat) (cap.1-q.toNat))) w:=by
      grind[execOp,Sem.run_bind,Result.andThen_ok,Sem.run_pure]
     by_cases hc0:cap.1=q.toNat
     ·have Q:=q4x (L:=L) (κ:=κ) (h:=g) (w:=w) (w':=w) (c':=(0,cap.2)) (obj':=.arr A t (l.drop q.toNat)) f (by grind) F B (.inl (.inl ⟨_,_,_,d⟩)) rfl (fun _ _=>rfl)
      refine⟨_,_,w,J,q7e ok f (by grind) F B (.inl (.inl ⟨_,_,_,d⟩)) rfl (fun _ _=>rfl) ok.below (.inr ⟨b,(0,cap.2),O,A1 _ _ _,d,by omega,Nat.zero_le _,by omega,D,fun i y hy=>?_⟩),⟨?_,rfl⟩,Q⟩
      all_goals grind[A1]
     ·have Q:=q4x (L:=L) (κ:=κ) (h:=g) (w:=w) (w':=w) (c':=(cap.1-q.toNat,cap.2+q.toNat*t.size)) (obj':=.arr A t (l.drop q.toNat)) f (by grind) F B (.inl (.inl ⟨_,_,_,d⟩)) rfl (fun _ _=>rfl)
      have hmul:q.toNat*t.size+(cap.1-q.toNat)*t.size=cap.1*t.size:=by rw[<-Nat.add_mul];grind
      refine⟨_,_,w,J,q7e ok f (by grind) F B (.inl (.inl ⟨_,_,_,d⟩)) rfl (fun _ _=>rfl) ok.below (.inr ⟨b,(cap.1-q.toNat,cap.2+q.toNat*t.size),O,A1 _ _ _,d,by grind,by omega,by omega,D,fun i y hy=>?_⟩),⟨?_,rfl⟩,Q⟩
      all_goals grind[RepAt.ext,A1,Q0]
   grind
  grind
 grind
theorem v4c {R:Type} {C:Ctx} (k:∀ t f,C.TI t=some f->f.OK P t) {o:Oper} {T:TypeId} {x:Operand} (m:o.op=.call { callee:=.builtin .cap,args:=#[x],argTypes:=#[T] }) {ρ:Env} (l:ev ρ x=.one .nils) {K:Eff->Option R} {z:R}
  (g:z6q C T K=some z):∃ q,K q=some z/\q.full=none/\∀ d j,ev d x=ev ρ x->A6 P L w0 o d j (q.heap j) q.av:=by
 unfold z6q at g
 split at g
 ·rename_i f r
  split at g
  ·rename_i e i
   refine⟨_,g,rfl,fun d j n=>D1 (fun c s=>by grind) fun u a w h v=>⟨.int .i64 0,?_,H6 _ _⟩⟩
   have b:=h x
   rw[n,l]at b
   have b:a.eval x=.slice none 0 0:=b
   have p:=q1d (k T f r) i
   unfold execOp
   simp[m,resolve,invoke,builtin,b,Builtin.cap_,run_underlying p,goInt]
  grind
 grind
theorem v3v {R:Type} {C:Ctx} (D:∀ t O,C.TI t=some O->O.OK P t) {o:Oper} {T N:TypeId} {s x:Operand} (ho:o.op=.call { callee:=.builtin .append,args:=#[s,x],argTypes:=#[T,N] }) {ρ:Env} {h:Heap} {id':Nat} {n:Int}
  (hs1:ev ρ s=.one .nils) (hx1:ev ρ x=.one (.sc (.int .i64) n)) {K:Eff->Option R} {z:R}
  (r:z6o C T N n h id' K=some z):∃ q,K q=some z/\q.full=none/\∀ A f,ev A s=ev ρ s->ev A x=ev ρ x->(∀ p∈q.ups,f p.1=h p.1)->A6 P L w0 o A f (q.heap f) q.av:=by
 unfold z6o at r
 split at r
 ·rename_i O ti' hT S
  split at r
  ·rename_i e k V hag X
   split at r
   ·rename_i b J
    split at r
    ·rename_i E hz
     obtain⟨hf,r⟩:=O2 r
     obtain⟨U,r⟩:=A8 r
     simp only[Bool.and_eq_true,decide_eq_true_eq]at U
     obtain⟨⟨⟨c1,c2⟩,c3⟩,c4⟩:=U
     have c3:=Nat.le_of_ble_eq_true c3
     have c4:=Nat.eq_of_beq_eq_true c4
     obtain⟨b1,b2⟩:=q5y c2
     refine⟨_,r,rfl,fun A f e1 e2 h3=>I4 (fun c U=>by grind) fun M a w I ok=>?_⟩
     have F:f id'=.fresh:=(h3 (id',.arr e b.ty (List.replicate n.toNat E)) (by simp)).trans hf
     show ∃ m v w',_/\HeapOK L w0 m (upd f id' (.arr e b.ty (List.replicate n.toNat E))) w'/\RepAV L m (upd f id' (.arr e b.ty (List.replicate n.toNat E))) w' (.one (.own id')) v/\Ext L M f w m (upd f id' (.arr e b.ty (List.replicate n.toNat E))) w'
     have u:=I s
     rw[e1,hs1]at u
     have u:a.eval s=.slice none 0 0:=u
     have B:=I x
     rw[e2,hx1]at B
     have B:=H7 B
     have hu:=q1d (D T O hT) V
     obtain⟨-,d,hd,-,-,hk,-⟩:=(D N ti' S).base
     have:=hk k hag X
     subst this
     obtain⟨i,g,hi,hisz,hiby,Z,hzs,hzl,H,G⟩:=(D e b J).zero_one (L:=L)
     by_cases hn:n.toNat=0
     ·have Q:n=0:=by omega
      subst Q
      refine⟨_,.slice none 0 0,w,q1f ho ?_,q2k ok e b.ty F,⟨?_,rfl⟩,q1h e b.ty F⟩
      ·rw[u,B]
       have hw:IntKind.i64.wrap 0=0:=by rfl
       simp[Builtin.append_,run_underlying hu,run_underlying hd,sizeOf,typeInfo,hi,asInt,asIntOf,hw,Builtin.lenOf]
      grind[A1]
     ·have W:((n.toNat:Nat):Int)=n:=Int.toNat_of_nonneg c1
      have hr:=Lib.run_append_nil_zeros (P:=P) w T N o.type e i g .i64 k hu hd hi Z n.toNat (by omega) (by omega) (by omega) (by grind)
      rw[W]at hr
      have hge:=grownCap_ge w n.toNat 0 e
      have hcm:grownCap w n.toNat 0 e<=maxLen:=grownCap_le_maxLen w n.toNat 0 e (by grind[maxLen])
      have hzo:=q9o (D e b J)
      obtain⟨-,-,Y⟩:=U2 ok (Ext.refl _ _ _ _) b.ty b.zeros (fun j=>g.cells[j]?) E [] (fun j s hj=>by
       have:=W3 (H M f w) hj;grind) (fun id hm=>by grind) ((U1 b.ty b.zeros (fun id hm=>by grind)).trans hz)
      have hget:∀ j,j<n.toNat*b.size->(Builtin.zeroCells g.cells n.toNat)[j]? = g.cells[j % b.size]?:=by
       grind[Nat.mod_lt,Builtin.zeroCells]
      have hzsz:(Builtin.zeroCells g.cells n.toNat).size=n.toNat*b.size:=by grind[size_zeroCells]
      obtain⟨m,a1,a2,a3⟩:=z5h (q55 ok) F (e:=e) (t:=b.ty) (l:=List.replicate n.toNat E) (cs:=(Builtin.zeroCells g.cells n.toNat).toList) (rest:=(Builtin.zeroCells g.cells (grownCap w n.toNat 0 e-n.toNat)).toList) (cap:=grownCap w n.toNat 0 e)
       (by grind) (by grind[size_zeroCells]) (by grind) hcm (q9n G _) (q9n G _) (fun j y hy=>by
        have hjl:j<n.toNat:=by grind
        rw[List.getElem?_replicate,if_pos hjl]at hy
        cases hy
        refine RepAt.congr b.ty _ _ E (fun q hq=>?_) (RepAt.ext (V2 M f w) Y)
        have h3:(j+1)*b.ty.size<=n.toNat*b.ty.size:=Nat.mul_le_mul_right _ (by omega)
        grind[Nat.add_mul_mod_self_right,Nat.mod_eq_of_lt])
      have harr:(Builtin.zeroCells g.cells n.toNat++Builtin.zeroCells g.cells (grownCap w n.toNat 0 e-n.toNat))=((Builtin.zeroCells g.cells n.toNat).toList++(Builtin.zeroCells g.cells (grownCap w n.toNat 0 e-n.toNat)).toList).toArray:=by
       grind
      exact⟨m,_,_,q1f ho (by simp_all),a1,a2,(V2 M f w).trans a3⟩
    grind
   grind
  grind
 grind
theorem v4v {R:Type} {C:Ctx} (n:∀ t h,C.TI t=some h->h.OK P t) {o:Oper} {T:TypeId} {x:Operand} (r:o.op=.makeInterface T x) {ρ:Env} {K:Eff->Option R} {z:R}
  (g:z7f C T (ev ρ x) K=some z):∃ q,K q=some z/\q.full=none/\∀ b j,ev b x=ev ρ x->A6 P L w0 o b j (q.heap j) q.av:=by
 unfold z7f at g
 split at g
 ·rename_i h E M B p
  obtain⟨e,g⟩:=A8 g
  refine⟨_,g,rfl,fun b j y=>D1 (fun c F=>by grind) fun J a w m I=>?_⟩
  have f:=m x
  rw[y]at f
  obtain⟨D,H,s,u,A⟩:=j79 p f
  obtain⟨-,d,v,-,-,-,l⟩:=(n T h B).base
  obtain⟨G,i,-⟩:=l e
  subst i
  refine⟨.iface T (a.eval x),?_,D,by grind,s,u,A⟩
  unfold execOp
  simp[r,Instr.makeInterface,run_underlying v]
 grind
theorem j8q {R:Type} {C:Ctx} (m:∀ T,C.ifc T=true->∃ y,P.underlying T=some (.interface y)) {o:Oper} {op:BinOp} {T F:TypeId} {x:Operand} (N:o.op=.binOp op T x (.const .nilIface) F) {ρ:Env} {s:SV} {b:Bool} (B:ev ρ x=.one s)
  (hs:(∃ t j A,s=.ifc t j A/\b=false)\/(s=.nif/\b=true)) {K:Eff->Option R} {z:R} (i:z0p C op T b K=some z) :
  ∃ q,K q=some z/\q.full=none/\∀ e hs,ev e x=ev ρ x->A6 P L w0 o e hs (q.heap hs) q.av:=by
 unfold z0p at i
 obtain⟨r,i⟩:=A8 i
 obtain⟨y,I⟩:=m T r
 have k:∀ (a:Act) w (g:A2) (l:Heap),RepSV L g l w s (a.eval x)->(Op.equal T (a.eval x) .nilIface).run P w=.ok b w:=by
  intro a w g l E
  have H:(∃ t u,a.eval x=.iface t u/\b=false)\/(a.eval x=.nilIface/\b=true):=by
   rcases hs with⟨t,j,A,rfl,rfl⟩ | ⟨rfl,rfl⟩
   ·obtain⟨O,h,_⟩:=E;grind
   ·exact .inr ⟨E,rfl⟩
  unfold Op.equal
  rw[show Op.maxDepth=9999+1 from rfl]
  generalize (9999:Nat)=n
  unfold Op.equalIn
  rw[Sem.run_bind,run_underlying I]
  rcases H with⟨t,u,h,rfl⟩ | ⟨h,rfl⟩<;>rw[h]<;>rfl
 have G:∀ (op:BinOp) (v:Value) (w:World),(eqGuard op T x (.const .nilIface) v .nilIface).run P w=.ok () w:=fun op v w=>by
  cases op<;>cases v<;>first | rfl | (cases x<;>rfl)
 split at i
 ·refine⟨_,i,rfl,fun e hs p=>D1 (fun c r=>by grind) fun g a w f ok=>⟨.bool b,?_,P6 b⟩⟩
  have d:=f x
  rw[p,B]at d
  have M:=k a w g hs d
  unfold execOp
  rw[N]
  have D:a.eval (.const .nilIface)=.nilIface:=rfl
  simp[D,Sem.run_bind,G,Result.andThen_ok]
  have:((binOp .eql T (a.eval x) .nilIface).run P w)=.ok (.bool b) w:=by
   have J:binOp .eql T (a.eval x) .nilIface=(do pure (.bool (<-Op.equal T (a.eval x) .nilIface)):Sem Value):=by
    generalize a.eval x=v
    cases v<;>rfl
   simp_all
  simp_all
 ·refine⟨_,i,rfl,fun e hs p=>D1 (fun c r=>by grind) fun g a w f ok=>⟨.bool (!b),?_,P6 (!b)⟩⟩
  have d:=f x
  rw[p,B]at d
  have M:=k a w g hs d
  unfold execOp
  have D:a.eval (.const .nilIface)=.nilIface:=rfl
  have:((binOp .neq T (a.eval x) .nilIface).run P w)=.ok (.bool (!b)) w:=by
   have J:binOp .neq T (a.eval x) .nilIface=(do pure (.bool (!(<-Op.equal T (a.eval x) .nilIface))):Sem Value):=by
    generalize a.eval x=v
    cases v<;>rfl
   simp_all
  simp_all
 grind
theorem v3p {o:Oper} {r:Operand} {b:String} {args:Array Operand} {J:Array TypeId} (K:o.op=.call { callee:=.invoke r b,args:=args,argTypes:=J }) {T:TypeId} {agg:Bool} {cs:List ((t:Ty)×t.den)} {ρ:Env} (z:ev ρ r=.one (.ifc T agg cs)) {f:FuncId} (F:q0a P T b f) :
  q6e P L o f ([q4h agg cs]++args.toList.map (ev ρ)++[]) (fun x=>x=r\/x∈args.toList) ρ:=by
 refine⟨(fun c Y=>by grind),fun O l N M H Z A κ a w s=>?_⟩
 obtain⟨i,m,d,D,I,C,y,E,R⟩:=F
 have h:=s r
 rw[A r (.inl rfl),z]at h
 obtain⟨g,G,h2,X,U⟩:=h
 have e:∀ (n:Nat) (v:Value),(method (n+1) T v b).run P w=.ok (f,v) w:=by
  intro n v
  unfold method
  simp only[Sem.run_bind,q61 D,Result.andThen_ok,I,C]
  simp[follow,Sem.run_bind,Sem.run_pure,Result.andThen_ok,y]
  unfold receiverAt
  simp[Sem.run_bind,run_underlying E,Result.andThen_ok]
  rfl
 refine⟨cond agg (.agg g.toArray) (g.headD undef)::args.toList.map a.eval,?_,by simp,fun j W v S B=>?_⟩
 ·unfold execOp
  simp only[K,resolve,Sem.run_bind,Sem.run_pure,Result.andThen_ok,invoke]
  have p:∀ V:Value,(#[V]++args.map a.eval)[0]? = some V:=fun V=>by
   grind
  have q:∀ V:Value,(#[V]++args.map a.eval).extract 1 (#[V]++args.map a.eval).size=args.map a.eval:=fun V=>by
   simp_all
  simp only[p,q,G,callMethod,Sem.run_bind,run_program,Result.andThen_ok]
  rw[show P.types.size+Made.depth=(P.types.size+99)+1 from rfl,e]
  simp only[Result.andThen_ok]
  have k:(#[cond agg (.agg g.toArray) (g.headD undef)]++args.map a.eval)=(cond agg (.agg g.toArray) (g.headD undef)::args.toList.map a.eval).toArray:=by
   simp_all
  rw[k]
  simp[callFunc,l,Option.isNone_iff_eq_none]
  cases Q:O.body with
  | none=>grind
  | some c=>grind
 grind[z5u]
theorem v5u {R:Type} {o:Oper} {x:Operand} (t:o.op=.panic x) {ρ:Env} {lo:Nat->Bool} {h:Heap} {K:Eff->Option R} {z:R} (g:z7x lo (ev ρ x) h K=some z) :
  ∃ q,K q=some z/\q.full≠none/\(∀ H,q.full=some H->∀ id,lo id=true\/(id<q.lim/\id∉q.ups.map (·.1))->H id=h id)/\∀ d b,ev d x=ev ρ x->b=h->A6 P L w0 o d b (q.heap b) q.av:=by
 unfold z7x at g
 split at g
 ·rename_i T u D
  obtain⟨A,g⟩:=A8 g
  refine⟨_,g,(by grind),fun H n id v=>?_,fun d b p C=>?_⟩
  ·cases n
   grind[A0]
  ·subst C
   intro r i a w f I m F Q E y
   have j:=N7 f x
   rw[p,u]at j
   obtain⟨s,j,B,-,-⟩:=j
   have k:s=[]:=List.eq_nil_of_length_eq_zero B
   subst k
   refine⟨fun _ _=>trivial,?_⟩
   rw[Oper.semAt_eq _ _ _ (fun c G=>by grind)]
   have e:(execOp a.eval o).run P w=.halt (.panic (.iface T (.agg #[]))) w:=by
    unfold execOp
    simp[t,j]
    rfl
   rw[e]
   have l:upd (upd b C0 (K5 T)) C0 .fresh=b:=by
    grind[A1,A0]
   exact y T rfl i w (by show HeapOK L w0 i (upd (upd b C0 (K5 T)) C0 .fresh) w;grind) (by show Ext L i b w i (upd (upd b C0 (K5 T)) C0 .fresh) w;grind[Ext.refl])
 grind
theorem j4n {R:Type} {C:Ctx} (A:CtxOK P L w0 C) {o:Oper} {lo:Nat->Bool} {id':Nat} {ρ:Env} {h:Heap} {K:Eff->Option R} {z:R} (g:z8h C lo id' o.op (ev ρ) h K=some z) :
  (∃ q,K q=some z/\(∀ H,q.full=some H->∀ id,lo id=true\/(id<q.lim/\id∉q.ups.map (·.1))->H id=h id)/\∀ c i,S7 o.op q ρ h c i->A6 P L w0 o c i (q.heap i) q.av)/\(∀ T m k,o.op≠.mapEntry T m k)/\∀ T m k,o.op≠.lookup T m k false:=by
 generalize u:o.op=op at g
 have d:∀ (q:Eff),q.full=none->∀ H,q.full=some H->∀ id,lo id=true\/(id<q.lim/\id∉q.ups.map (·.1))->H id=h id:=fun q j H hH=>by grind
 unfold z8h at g
 split at g
 ·rename_i T x O hi
  refine⟨?_,(fun _ _ _ h=>by grind),fun _ _ _ h=>by grind⟩
  have D:∀ y,O=some y\/hi=some y->y∈(Op.slice T x O hi none).operands:=fun y S=>by
   grind[Op.operands]
  split at g
  ·rename_i v
   obtain⟨q,j,a,b⟩:=v5y (L:=L) (w0:=w0) A.ti u v g
   exact⟨q,j,d q a,fun c i e=>b c i (e.1 x (by simp[Op.operands])) (fun y S=>e.1 y (D y S))⟩
  ·rename_i id v
   split at g
   ·obtain⟨q,j,a,b⟩:=v4k (L:=L) (w0:=w0) A.ti u v g
    exact⟨q,j,d q a,fun c i e=>b c i (e.1 x (by simp[Op.operands])) (fun y S=>e.1 y (D y (.inr S))) e.2.2.1⟩
   ·obtain⟨q,j,a,b⟩:=v4l (L:=L) (w0:=w0) A.ti u v g
    exact⟨q,j,d q a,fun c i e=>b c i (e.1 x (by simp[Op.operands])) (e.1 _ (D _ (.inl rfl))) e.2.2.1⟩
   grind
  grind
 ·rename_i args G
  refine⟨?_,(fun _ _ _ h=>by grind),fun _ _ _ h=>by grind⟩
  split at g
  ·rename_i T p w
   obtain⟨x,F,v⟩:∃ x,args=#[x]/\ev ρ x=.one .nils:=by
    obtain⟨l,hl⟩:∃ l,args.toList=l:=⟨_,rfl⟩
    rw[hl]at p
    match l,p with
    | [],h=>grind
    | [x],h=>grind
    | _::_::_,h=>grind
   subst F
   have w:G=#[T]:=Array.toList_inj.1 w
   subst w
   obtain⟨q,j,a,b⟩:=v4c (L:=L) (w0:=w0) A.ti u v g
   exact⟨q,j,d q a,fun c i e=>b c i (e.1 x (by simp[Op.operands,Call.operands]))⟩
  grind
 ·rename_i args G
  refine⟨?_,(fun _ _ _ h=>by grind),fun _ _ _ h=>by grind⟩
  split at g
  ·rename_i n T T' p w
   obtain⟨s,x,F,W,X⟩:∃ s x,args=#[s,x]/\ev ρ s=.one .nils/\ev ρ x=.one (.sc (.int .i64) n):=by
    obtain⟨l,hl⟩:∃ l,args.toList=l:=⟨_,rfl⟩
    rw[hl]at p
    match l,p with
    | [s,x],h=>grind
    | [],h=>grind
    | [_],h=>grind
    | _::_::_::_,h=>grind
   subst F
   have w:G=#[T,T']:=Array.toList_inj.1 w
   subst w
   obtain⟨q,j,a,b⟩:=v3v (L:=L) (w0:=w0) A.ti u W X g
   exact⟨q,j,d q a,fun c i e=>b c i (e.1 s (by simp[Op.operands,Call.operands])) (e.1 x (by simp[Op.operands,Call.operands])) e.2.2.1⟩
  grind
 ·rename_i T x
  refine⟨?_,(fun _ _ _ h=>by grind),fun _ _ _ h=>by grind⟩
  obtain⟨q,j,a,b⟩:=v4v (L:=L) (w0:=w0) A.ti u g
  exact⟨q,j,d q a,fun c i e=>b c i (e.1 x (by simp[Op.operands]))⟩
 ·rename_i x
  refine⟨?_,(fun _ _ _ h=>by grind),fun _ _ _ h=>by grind⟩
  obtain⟨q,j,Z,a,b⟩:=v5u (P:=P) (L:=L) (w0:=w0) u g
  exact⟨q,j,a,fun c i e=>b c i (e.1 x (by simp[Op.operands])) (e.2.2.2 Z)⟩
 ·rename_i op T x T'
  refine⟨?_,(fun _ _ _ h=>by grind),fun _ _ _ h=>by grind⟩
  split at g
  ·rename_i t Y cs v
   obtain⟨q,j,a,b⟩:=j8q (L:=L) (w0:=w0) A.ifc u v (.inl ⟨_,_,_,rfl,rfl⟩) g
   exact⟨q,j,d q a,fun c i e=>b c i (e.1 x (by simp[Op.operands]))⟩
  ·rename_i v
   obtain⟨q,j,a,b⟩:=j8q (L:=L) (w0:=w0) A.ifc u v (.inr ⟨rfl,rfl⟩) g
   exact⟨q,j,d q a,fun c i e=>b c i (e.1 x (by simp[Op.operands]))⟩
  grind
 ·rename_i r E args G
  refine⟨?_,(fun _ _ _ h=>by grind),fun _ _ _ h=>by grind⟩
  split at g
  ·rename_i T Y cs hr
   unfold j4f at g
   split at g
   ·rename_i f hf
    have V:=v3p (L:=L) (P:=P) u hr (A.meth T E f hf)
    have B:∀ x,x=r\/x∈args.toList->x∈(Op.call { callee:=.invoke r E,args:=args,argTypes:=G }).operands:=fun x v=>by
     grind[Op.operands,Call.operands]
    unfold q4s at g
    split at g
    ·rename_i sp hsp
     obtain⟨q,j,a,b⟩:=j18 (L:=L) (w0:=w0) V (A.spec f sp (j1g hsp)) A.glob g
     exact⟨q,j,d q a,fun c i e=>b c i (fun x v=>e.1 x (B x v)) e.2.1 e.2.2.1⟩
    ·obtain⟨I,g⟩:=A8 g
     cases Q:C.pur f with
     | true =>
      rw[Q,cond_true]at g
      obtain⟨q,j,⟨J,N⟩,⟨H,hH,D⟩,b⟩:=q63 (M:=_) A.ic V I g
      exact⟨q,j,fun H' U id hid=>by
       grind[Nat.blt,Nat.ble_eq_true_of_le,j0a],fun c i e=>b c i (fun x v=>e.1 x (B x v)) (e.2.2.2 (by grind))⟩
     | false =>
      rw[Q,cond_false]at g
      obtain⟨q,j,⟨J,N⟩,⟨H,hH,D⟩,b⟩:=q63 (M:=[]) A.ic V I g
      exact⟨q,j,fun H' U id hid=>by
       grind,fun c i e=>b c i (fun x v=>e.1 x (B x v)) (e.2.2.2 (by grind))⟩
   grind
  grind
 grind
end Go.Abs
