/- The engine, part 12b: what the first part of the operations leaves. -/
import Derived.Test.YtecofmaegcibeaaGreatDoorAbsOpSound
import Derived.Lib.AppendZeros
namespace Go.Abs
open Go Go.RowKit
variable {P:Program} {L:Nat->Prop} {w0:World}
variable {R:Type} {C:Ctx} {o:Oper} {ρ:Env} {h:Heap} {id':Nat} {K:Eff->Option R} {z:R}
theorem k1z (A:∀t W,C.TI t=some W->W.OK P t) {T:TypeId} {x:Operand} {hi:Option Operand} (ho:o.op=.slice T x none hi none) {id:Nat} (hx:ev ρ x=.one (.own id)) (s:j10 C T h id id' (hi.map (ev ρ)) K=some z):∃q,K q=some z/\q.full=none/\∀u g,ev u x=ev ρ x->(∀y,hi=some y->ev u y=ev ρ y)->(∀p∈q.ups,g p.1=h p.1)->A9 P L w0 o u g (q.heap g) q.av:=by
 have hd:∀c,o.op≠.defer c:=λc Z=>by grind
 unfold j10 at s;split at s
 ·rename_i W hT;split at s
  ·rename_i e G;split at s
   ·rename_i te B t l F hid;obtain⟨q,s,N⟩:=q23 s;obtain⟨Z,s⟩:=B1 s;simp only[ac,decide_eq_true_eq]at Z;obtain⟨⟨c1,c2⟩,c3⟩:=Z;have c1:=ab c1;obtain⟨hf,s⟩:=Q7 s;refine⟨_,s,rfl,λu g h1 h2 h3=>M7 hd λκ a w V Y=>?_⟩;have f:g id=.arr B t l:=(h3 (id,.dead) (by simp)).trans hid;have U:g id'=.fresh:=(h3 (id',.arr B t (l.take q.toNat)) (by simp)).trans hf;show ∃E v w',_/\HeapOK L w0 E (upd (upd g id .dead) id' (.arr B t (l.take q.toNat))) w'/\RepAV L E (upd (upd g id .dead) id' (.arr B t (l.take q.toNat))) w' (.one (.own id')) v/\Ext L κ g w E (upd (upd g id .dead) id' (.arr B t (l.take q.toNat))) w';have n:=V x;rw[h1,hx]at n;have n:=n.1;rw[f]at n;have S:=Y.obj id;rw[f]at S;have j:(g id).live=true:=by rw[f];rfl
    have hne:id'≠id:=λh=>by grind
    have H:∀len,len=l.length->(hi.map a.eval=none/\q.toNat=len)\/∃k,hi.map a.eval=some (.int k (q.toNat:Int)):=by
     intro len M;cases hi with
     | none =>
      grind
     | some r =>
      rcases N with⟨N,_⟩ | ⟨k,N⟩
      ·grind
      ·simp at N;have:=V r;rw[h2 r rfl,N]at this;exact .inr ⟨k,by grind[K1]⟩
    have M:(l.take q.toNat).length=q.toNat:=by grind
    rcases n with⟨X,hl,hv⟩ | ⟨b,cap,X,hv⟩
    ·subst hl;have hq0:q.toNat=0:=by grind
     have m:(g id).gone .dead:=by rw[f];simp[AObj.gone]
     have okD:=q2b Y m;have exD:=q0d (L:=L) (κ:=κ) (w:=w) m;have J:upd g id .dead id'=.fresh:=by grind[A0]
     rw[List.take_nil];refine⟨_,.slice none 0 0,w,?_,q4y okD B t J,⟨?_,rfl⟩,exD.trans (q3d B t J)⟩
     ·have O:=z1k (P:=P) (A T W hT) G (A e te F) (len:=0) (cap:=0) (a:=0) (b:=q.toNat) none w (lo:=none) (.inl ⟨rfl,rfl⟩) (H 0 rfl) (cB _) (by omega);grind[execOp,Sem.run_bind,Result.andThen_ok,Sem.run_pure]
     grind[A2]
    ·rcases S with⟨D,_⟩ | ⟨b',cap',cur,D,d,I,hcm,hll,Q,hel'⟩
     ·grind
     rw[X]at D;obtain⟨rfl,rfl⟩:=D;have hx:=q4r (L:=L) (κ:=κ) (h:=g) (w:=w) (w':=w) (c':=cap) (obj':=.arr B t (l.take q.toNat)) j (by grind) X U (.inl (.inl ⟨_,_,_,d⟩)) rfl (λ_ _=>rfl);refine⟨_,.slice (some ⟨b,cap.2,none⟩) q.toNat cap.1,w,?_,q6e Y j (by grind) X U (.inl (.inl ⟨_,_,_,d⟩)) rfl (λ_ _=>rfl) Y.below (.inr ⟨b,cap,cur,A2 _ _ _,d,I,hcm,by omega,Q,λi y hy=>?_⟩),⟨?_,rfl⟩,hx⟩
     ·have O:=z1k (P:=P) (A T W hT) G (A e te F) (len:=l.length) (cap:=cap.1) (a:=0) (b:=q.toNat) (some ⟨b,cap.2,none⟩) w (lo:=none) (.inl ⟨rfl,rfl⟩) (H _ rfl) (cB _) (by omega);grind[execOp,Sem.run_bind,Result.andThen_ok,Sem.run_pure,U5]
     all_goals grind[RepAt.ext,A2]
   grind
  grind
 grind
theorem k20 (N:∀t S,C.TI t=some S->S.OK P t) {T:TypeId} {x y:Operand} (ho:o.op=.slice T x (some y) none none) {id:Nat} (Q:ev ρ x=.one (.own id)) (n:j11 C T h id id' (ev ρ y) K=some z):∃q,K q=some z/\q.full=none/\∀u g,ev u x=ev ρ x->ev u y=ev ρ y->(∀p∈q.ups,g p.1=h p.1)->A9 P L w0 o u g (q.heap g) q.av:=by
 have hd:∀c,o.op≠.defer c:=λc X=>by grind
 unfold j11 at n;split at n
 ·rename_i S hT;split at n
  ·rename_i e hel;split at n
   ·rename_i te A t l U hid;obtain⟨q,n,M⟩:=q23 n;obtain⟨X,n⟩:=B1 n;simp only[ac,decide_eq_true_eq]at X;obtain⟨⟨c1,c2⟩,c3⟩:=X;have c1:=ab c1;obtain⟨hf,n⟩:=Q7 n;refine⟨_,n,rfl,λu g h1 h2 h3=>M7 hd λκ a w G ok=>?_⟩;have j:g id=.arr A t l:=(h3 (id,.dead) (by simp)).trans hid;have B:g id'=.fresh:=(h3 (id',.arr A t (l.drop q.toNat)) (by simp)).trans hf;show ∃E v w',_/\HeapOK L w0 E (upd (upd g id .dead) id' (.arr A t (l.drop q.toNat))) w'/\RepAV L E (upd (upd g id .dead) id' (.arr A t (l.drop q.toNat))) w' (.one (.own id')) v/\Ext L κ g w E (upd (upd g id .dead) id' (.arr A t (l.drop q.toNat))) w';have m:=G x;rw[h1,Q]at m;have m:=m.1;rw[j]at m;have H:=ok.obj id;rw[j]at H;have f:(g id).live=true:=by rw[j];rfl
    have hne:id'≠id:=λh=>by grind
    have Y:(some (a.eval y)=none/\q.toNat=0)\/∃k,some (a.eval y)=some (.int k (q.toNat:Int)):=by
     rcases M with⟨M,_⟩ | ⟨k,M⟩
     ·grind
     ·simp at M;have:=G y;rw[h2,M]at this;exact .inr ⟨k,by grind[K1]⟩
    have hlen:(l.drop q.toNat).length=l.length-q.toNat:=bR;rcases m with⟨F,hl,hv⟩ | ⟨b,cap,F,hv⟩
    ·subst hl;have hq0:q.toNat=0:=by grind
     have r:(g id).gone .dead:=by rw[j];simp[AObj.gone]
     have Z:=q2b ok r;have V:=q0d (L:=L) (κ:=κ) (w:=w) r;have I:upd g id .dead id'=.fresh:=by grind[A0]
     rw[List.drop_nil];refine⟨_,.slice none 0 0,w,?_,q4y Z A t I,⟨?_,rfl⟩,V.trans (q3d A t I)⟩
     all_goals grind[z1k,execOp,Sem.run_bind,Result.andThen_ok,Sem.run_pure,A2]
    ·rcases H with⟨s,_⟩ | ⟨b',cap',O,s,d,hcsz,hcm,W,D,hel'⟩
     ·grind
     rw[F]at s;simp at s;obtain⟨rfl,rfl⟩:=s;have hrun:=z1k (P:=P) (N T S hT) hel (N e te U) (len:=l.length) (cap:=cap.1) (a:=q.toNat) (b:=l.length) (some ⟨b,cap.2,none⟩) w (hi:=none) Y (.inl ⟨rfl,rfl⟩) (by omega) W;have J:(execOp a.eval o).run P w=.ok (.value (.slice (if cap.1=q.toNat then some ⟨b,cap.2,none⟩else(some ⟨b,cap.2,none⟩:Option Addr).map (·.add (q.toNat*te.size))) (l.length-q.toNat) (cap.1-q.toNat))) w:=by
      grind[execOp,Sem.run_bind,Result.andThen_ok,Sem.run_pure]
     by_cases hc0:cap.1=q.toNat
     ·have Q:=q4r (L:=L) (κ:=κ) (h:=g) (w:=w) (w':=w) (c':=(0,cap.2)) (obj':=.arr A t (l.drop q.toNat)) f (by grind) F B (.inl (.inl ⟨_,_,_,d⟩)) rfl (λ_ _=>rfl);refine⟨_,_,w,J,q6e ok f (by grind) F B (.inl (.inl ⟨_,_,_,d⟩)) rfl (λ_ _=>rfl) ok.below (.inr ⟨b,(0,cap.2),O,A2 _ _ _,d,by omega,cB _,by omega,D,λi y hy=>?_⟩),⟨?_,rfl⟩,Q⟩
      all_goals grind[A2]
     ·have Q:=q4r (L:=L) (κ:=κ) (h:=g) (w:=w) (w':=w) (c':=(cap.1-q.toNat,cap.2+q.toNat*t.size)) (obj':=.arr A t (l.drop q.toNat)) f (by grind) F B (.inl (.inl ⟨_,_,_,d⟩)) rfl (λ_ _=>rfl);have hmul:q.toNat*t.size+(cap.1-q.toNat)*t.size=cap.1*t.size:=by rw[<-bH];grind
      refine⟨_,_,w,J,q6e ok f (by grind) F B (.inl (.inl ⟨_,_,_,d⟩)) rfl (λ_ _=>rfl) ok.below (.inr ⟨b,(cap.1-q.toNat,cap.2+q.toNat*t.size),O,A2 _ _ _,d,by grind,by omega,by omega,D,λi y hy=>?_⟩),⟨?_,rfl⟩,Q⟩
      all_goals grind[RepAt.ext,A2,U5]
   grind
  grind
 grind
theorem j96 (hC:CtxOK P L w0 C) {lo:Nat->Bool} (he:j1v C lo id' o.op (ev ρ) h K=some z) :
  (∃q,K q=some z/\(∀H,q.full=some H->∀id,lo id=true\/(id<q.lim/\id∉q.ups.map (·.1))->H id=h id)/\∀ρs hs,q05 o.op q ρ h ρs hs->A9 P L w0 o ρs hs (q.heap hs) q.av)/\(∀T m k,o.op≠.mapEntry T m k)/\∀T m k,o.op≠.lookup T m k false:=by
 generalize hop:o.op=op at he;have nofull:∀(q:Eff),q.full=none->∀H,q.full=some H->∀id,lo id=true\/(id<q.lim/\id∉q.ups.map (·.1))->H id=h id:=λq hq H hH=>by rw[hq]at hH;cases hH
 unfold j1v at he;split at he
 ·rename_i T x lo' hi;refine⟨?_,(λ_ _ _ h=>by cases h),λ_ _ _ h=>by cases h⟩;have hlo:∀y,lo'=some y\/hi=some y->y∈(Op.slice T x lo' hi none).operands:=λy hy=>by
   simp only[Op.operands];rcases hy with rfl | rfl<;>simp
  split at he
  ·rename_i id hx;split at he
   ·obtain⟨q,hq,hfull,hsem⟩:=k1z (L:=L) (w0:=w0) hC.ti hop hx he;exact⟨q,hq,nofull q hfull,λρs hs ha=>hsem ρs hs (ha.1 x (by simp[Op.operands])) (λy hy=>ha.1 y (hlo y (.inr hy))) ha.2.2.1⟩
   ·obtain⟨q,hq,hfull,hsem⟩:=k20 (L:=L) (w0:=w0) hC.ti hop hx he;exact⟨q,hq,nofull q hfull,λρs hs ha=>hsem ρs hs (ha.1 x (by simp[Op.operands])) (ha.1 _ (hlo _ (.inl rfl))) ha.2.2.1⟩
   ·cases he
  ·cases he
 ·cases he
end Go.Abs
