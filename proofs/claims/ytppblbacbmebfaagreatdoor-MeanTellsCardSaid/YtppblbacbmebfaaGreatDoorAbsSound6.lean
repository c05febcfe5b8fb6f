/- The engine, part 9: addresses of elements, slices of slices, literals, make. -/
import Derived.Test.YtppblbacbmebfaaGreatDoorAbsSound5
import Derived.Great.FillDense
namespace Go.Abs
open Go Go.RowKit
variable {P:Program} {L:Nat->Prop} {w0:World}
theorem q1d {b:TInfo} {T e:TypeId} (a:b.OK P T) (c:b.elem=some e):P.underlying T=some (.slice e):=by
 obtain⟨-,d,g,-,f,-⟩:=a.base
 grind
theorem j14 {l j:TInfo} {T e:TypeId} (f:l.OK P T) (g:l.elem=some e) (h:j.OK P e) {k:IntKind} {n:Int} {len cap:Nat} (d:inB n len=true) (b o:Nat) (w:World) :
  (Instr.indexAt T (.slice (some ⟨b,o,none⟩) len cap) (.int k n)).run P w=.ok (.pointer (some ⟨b,o+n.toNat*j.size,none⟩)) w:=by
 obtain⟨i,z,q,c,-⟩:=h.zero_one (L:=fun _=>False)
 unfold inB at d
 rw[Bool.and_eq_true]at d
 have m:=of_decide_eq_true d.1
 have r:=of_decide_eq_true d.2
 have s:0<=n/\n<(len:Int):=⟨m,r⟩
 have p:=q1d f g
 simp[Instr.indexAt,asIntOf,run_underlying p,s,S6 q,c,Q0]
theorem z1q {n:Int} {len:Nat} (h:inB n len=true):n.toNat<len:=by
 grind[inB]
theorem v4w {R:Type} {o:Oper} {T e:TypeId} {x i:Operand} {ti B:TInfo} (hti:ti.OK P T) (Q:ti.elem=some e) (hte:B.OK P e) (ho:o.op=.indexAddr T x i) {ρ:Env} {h:Heap} {K:Eff->Option R} {z:R}
  (M:z7g B.size h (ev ρ x) (ev ρ i) K=some z):∃ f,K f=some z/\f.full=none/\∀ g s,ev g x=ev ρ x->ev g i=ev ρ i->(∀ id∈f.rd,s id=h id)->A6 P L w0 o g s (f.heap s) f.av:=by
 have hd:∀ c,o.op≠.defer c:=fun c hc=>by grind
 have ex:∀ (a:Act) (w:World) (k:IntKind) (n:Int) (b C m d:Nat),a.eval x=.slice (some ⟨b,C,none⟩) m d->a.eval i=.int k n->inB n m=true ->
   (execOp a.eval o).run P w=.ok (.value (.pointer (some ⟨b,C+n.toNat*B.size,none⟩))) w:=by
  grind[execOp,Sem.run_bind,j14,Result.andThen_ok,Sem.run_pure]
 unfold z7g at M
 split at M
 ·rename_i k n hi
  split at M
  ·rename_i id U
   have key:∀ (H:TypeId) (t:Ty) (l:List t.den),(h id=.arr H t l\/h id=.ice H t l)->cond (Nat.beq t.size B.size&&inB n l.length) (K (E9 (.one (.eptr id t n.toNat 0)) [id])) none=some z ->
     ∃ f,K f=some z/\f.full=none/\∀ g s,ev g x=ev ρ x->ev g i=ev ρ i->(∀ id∈f.rd,s id=h id)->A6 P L w0 o g s (f.heap s) f.av:=by
    intro H t l j O
    cases A:(Nat.beq t.size B.size&&inB n l.length)with
    | false=>grind
    | true =>
     rw[A]at O
     rw[Bool.and_eq_true]at A
     obtain⟨v,u⟩:=A
     have v:=Nat.eq_of_beq_eq_true v
     refine⟨_,O,rfl,fun g s V N Y=>D1 hd fun I a w q ok=>?_⟩
     have p:=q x
     rw[V,U]at p
     have r:=q i
     rw[N,hi]at r
     have E:=Y id (by simp[E9])
     have X:=p.1
     have J:(s id).Held:=by rw[E];rcases j with j | j<;>rw[j]<;>simp
     have D:(I id=none/\l=[]/\a.eval x=.slice none 0 0)\/∃ b d,I id=some (b,d)/\a.eval x=.slice (some ⟨b,d.2,none⟩) l.length d.1:=by
      grind
     rcases D with⟨_,hl,_⟩ | ⟨b,d,Z,D⟩
     ·subst hl;have:=z1q u;grind
     ·exact⟨_,ex a w k n b d.2 _ d.1 D (H7 r) u,J,b,d,Z,by grind⟩
   grind
  ·rename_i id F m U
   have key:∀ (H:TypeId) (t:Ty) (l:List t.den),(h id=.arr H t l\/h id=.ice H t l)->cond (Nat.beq t.size B.size&&inB n m) (K (E9 (.one (.eptr id t (F+n.toNat) 0)) [id])) none=some z ->
     ∃ f,K f=some z/\f.full=none/\∀ g s,ev g x=ev ρ x->ev g i=ev ρ i->(∀ id∈f.rd,s id=h id)->A6 P L w0 o g s (f.heap s) f.av:=by
    intro H t l j O
    cases A:(Nat.beq t.size B.size&&inB n m)with
    | false=>grind
    | true =>
     rw[A]at O
     rw[Bool.and_eq_true]at A
     obtain⟨v,u⟩:=A
     have v:=Nat.eq_of_beq_eq_true v
     refine⟨_,O,rfl,fun g s V N Y=>D1 hd fun I a w q ok=>?_⟩
     have p:=q x
     rw[V,U]at p
     have r:=q i
     rw[N,hi]at r
     have E:=Y id (by simp[E9])
     have X:=p.1
     have J:(s id).Held:=by rw[E];rcases j with j | j<;>rw[j]<;>simp
     have D:F+m<=l.length/\((I id=none/\a.eval x=.slice none 0 0)\/∃ b d C,I id=some (b,d)/\a.eval x=.slice (some ⟨b,C,none⟩) m (d.1-F)/\(m≠0->C=d.2+F*t.size)):=by
      grind
     have hlt:=z1q u
     obtain⟨hle,D⟩:=D
     have S:RepArr L I s w id H t l:=by
      have:=ok.obj id
      rcases j with j | j<;>rw[E,j]at this
      ·exact this
      ·exact this.1
     rcases D with⟨Z,D⟩ | ⟨b,d,C,Z,D,ho'⟩
     ·rcases S with⟨_,hl⟩ | ⟨b',cap',cur,hk',_⟩
      all_goals grind
     ·exact⟨_,ex a w k n b C _ _ D (H7 r) u,J,b,d,Z,by grind⟩
   grind
  ·rename_i t l U
   cases A:(Nat.beq t.size B.size&&Nat.ble 1 B.size)with
   | false=>grind
   | true =>
    rw[A]at M
    rw[Bool.and_eq_true]at A
    have v:=Nat.eq_of_beq_eq_true A.1
    have hpos:=Nat.le_of_ble_eq_true A.2
    cases hn:A7 l n with
    | none=>grind
    | some y =>
     rw[hn]at M
     simp[cond_true,Option.bind_some]at M
     refine⟨_,M,rfl,fun g s V N Y=>D1 hd fun I a w q ok=>?_⟩
     have p:=q x
     rw[V,U]at p
     have r:=q i
     rw[N,hi]at r
     obtain⟨_,_,sa,m,d,W,hlen,hcap,Q⟩:=p
     simp[F7]at W
     unfold A7 at hn
     cases h0:decide (0<=n)with
     | false=>grind
     | true =>
      obtain⟨b,C,hsa,hfr,hel2⟩:=Q (by grind)
      subst hsa
      have u:inB n m=true:=by
       grind[inB]
      refine⟨_,ex a w k n b C _ _ W (H7 r) u,b,C+n.toNat*B.size,by simp,hfr,?_⟩
      grind
  grind
 grind
theorem U9 {R:Type} {x:Option AV} {d:Nat} {K:Int->Option R} {z:R} (h:K6 x d K=some z) :
  ∃ n:Int,K n=some z/\((x=none/\n=d)\/∃ k,x=some (.one (.sc (.int k) n))):=by
 unfold K6 at h
 grind
theorem q60 {r q:TInfo} {T e:TypeId} (n:r.OK P T) (l:r.elem=some e) (o:q.OK P e) {len cap a b:Nat} (j:Option Addr) (w:World) {lo hi:Option Value}
  (m:(lo=none/\a=0)\/∃ k,lo=some (.int k (a:Int))) (g:(hi=none/\b=len)\/∃ k,hi=some (.int k (b:Int))) (p:a<=b) (h:b<=cap) :
  (Instr.sliceAt T (.slice j len cap) lo hi none).run P w=.ok (.slice (if cap=a then j else j.map (·.add (a*q.size))) (b-a) (cap-a)) w:=by
 obtain⟨i,z,f,d,-⟩:=o.zero_one (L:=fun _=>False)
 have s:=q1d n l
 rcases m with⟨rfl,rfl⟩ | ⟨k,rfl⟩<;>rcases g with⟨rfl,rfl⟩ | ⟨t,rfl⟩ <;>
  simp[Instr.sliceAt,Instr.slice,run_underlying s,Instr.sliceBounds,Instr.sliceBound,asIntOf,S6 f,d,p,h] <;>
  (omega)
theorem v5w {R:Type} {o:Oper} {T e:TypeId} {x:Operand} {lo hi:Option Operand} {ti Q:TInfo} (hti:ti.OK P T) (hel:ti.elem=some e) (hte:Q.OK P e) (ho:o.op=.slice T x lo hi none) {ρ:Env} {h:Heap} {K:Eff->Option R} {z:R}
  (N:z81 Q.size h (ev ρ x) (lo.map (ev ρ)) (hi.map (ev ρ)) K=some z):∃ f,K f=some z/\f.full=none/\∀ j r,ev j x=ev ρ x->(∀ y,lo=some y\/hi=some y->ev j y=ev ρ y)->(∀ id∈f.rd,r id=h id)->A6 P L w0 o j r (f.heap r) f.av:=by
 have hd:∀ c,o.op≠.defer c:=fun c G=>by grind
 have bnd:∀ (j:Env) (u:A2) (r:Heap) (a:Act) (w:World),(∀ x,RepAV L u r w (ev j x) (a.eval x))->∀ (y:Option Operand) (d:Nat) (n:Int),(∀ q,y=some q->ev j q=ev ρ q)->0<=n ->
   ((y.map (ev ρ)=none/\n=d)\/∃ k,y.map (ev ρ)=some (.one (.sc (.int k) n)))->(y.map a.eval=none/\n.toNat=d)\/∃ k,y.map a.eval=some (.int k (n.toNat:Int)):=by
  intro j u r a w m y d n X h0 M
  cases y with
  | none =>
   grind
  | some q =>
   rcases M with⟨M,_⟩ | ⟨k,M⟩
   ·grind
   ·simp at M
    have hqv:=m q
    rw[X q rfl,M]at hqv
    exact .inr ⟨k,by grind[H7]⟩
 have ex:∀ (j:Env) (u:A2) (r:Heap) (a:Act) (w:World) (p q:Int) (sa:Option Addr) (s g:Nat),(∀ x,RepAV L u r w (ev j x) (a.eval x))->(∀ y,lo=some y\/hi=some y->ev j y=ev ρ y)->a.eval x=.slice sa s g->0<=p->p<=q->q<=g ->
   ((lo.map (ev ρ)=none/\p=(0:Nat))\/∃ k,lo.map (ev ρ)=some (.one (.sc (.int k) p)))->((hi.map (ev ρ)=none/\q=s)\/∃ k,hi.map (ev ρ)=some (.one (.sc (.int k) q))) ->
   (execOp a.eval o).run P w=.ok (.value (.slice (if g=p.toNat then sa else sa.map (·.add (p.toNat*Q.size))) (q.toNat-p.toNat) (g-p.toNat))) w:=by
  intro j u r a w p q sa s g m hag hx h0 hpq hqc hlo hhi
  have h1:=bnd j u r a w m lo 0 p (fun y M=>hag y (.inl M)) h0 hlo
  have h2:=bnd j u r a w m hi s q (fun y M=>hag y (.inr M)) (by omega) hhi
  grind[q60,execOp,Sem.run_bind,Result.andThen_ok,Sem.run_pure]
 unfold z81 at N
 split at N
 ·rename_i id hx
  have key:∀ (e':TypeId) (t:Ty) (l:List t.den),(h id=.arr e' t l\/h id=.ice e' t l)->cond (Nat.beq t.size Q.size) (K6 (lo.map (ev ρ)) 0 fun a=>K6 (hi.map (ev ρ)) l.length fun b =>
    cond (decide (0<=a)&&decide (a<=b)&&decide (b<=l.length)) (K (E9 (.one (.sub id a.toNat (b.toNat-a.toNat))) [id])) none) none=some z ->
    ∃ f,K f=some z/\f.full=none/\∀ j r,ev j x=ev ρ x->(∀ y,lo=some y\/hi=some y->ev j y=ev ρ y)->(∀ id∈f.rd,r id=h id)->A6 P L w0 o j r (f.heap r) f.av:=by
   intro e' t l A H
   cases Z:Nat.beq t.size Q.size with
   | false=>grind
   | true =>
    rw[Z,cond_true]at H
    have hsz:=Nat.eq_of_beq_eq_true Z
    obtain⟨p,H,hp⟩:=U9 H
    obtain⟨q,H,X⟩:=U9 H
    cases G:(decide (0<=p)&&decide (p<=q)&&decide (q<=l.length))with
    | false=>grind
    | true =>
     rw[G]at H
     simp[Bool.and_eq_true,decide_eq_true_eq]at G
     obtain⟨⟨c1,c2⟩,c3⟩:=G
     refine⟨_,H,rfl,fun j r h1 h2 hh=>D1 hd fun u a w m ok=>?_⟩
     have F:=m x
     rw[h1,hx]at F
     have Y:=hh id (by simp[E9])
     have V:=F.1
     have O:(u id=none/\l=[]/\a.eval x=.slice none 0 0)\/∃ b g,u id=some (b,g)/\a.eval x=.slice (some ⟨b,g.2,none⟩) l.length g.1:=by
      rcases A with A | A<;>rw[Y,A]at V<;>exact V
     have J:RepArr L u r w id e' t l:=by
      have:=ok.obj id
      rcases A with A | A<;>rw[Y,A]at this
      ·exact this
      ·exact this.1
     have C:∀ v:Value,v.oneCell'=true->(p.toNat+(q.toNat-p.toNat)<=l.length/\((u id=none/\v=.slice none 0 0)\/∃ b g I,u id=some (b,g)/\v=.slice (some ⟨b,I,none⟩) (q.toNat-p.toNat) (g.1-p.toNat)/\(q.toNat-p.toNat≠0->I=g.2+p.toNat*t.size))) ->
       RepAV L u r w (.one (.sub id p.toNat (q.toNat-p.toNat))) v:=by
      intro v hv1 hv2
      refine⟨?_,hv1⟩
      grind
     rcases O with⟨S,hl,O⟩ | ⟨b,g,S,O⟩
     ·subst hl
      have hp0:p.toNat=0:=by grind
      have hq0:q.toNat=0:=by grind
      refine⟨_,ex j u r a w p q none 0 0 m h2 O c1 c2 (by omega) hp X,?_⟩
      rw[hp0,hq0]at C ⊢
      exact C _ rfl ⟨by simp,.inl ⟨S,rfl⟩⟩
     ·rcases J with⟨B,_⟩ | ⟨b',cap',cur,B,_,_,_,hll,_⟩
      ·grind
      ·rw[S]at B;simp at B;obtain⟨rfl,rfl⟩:=B
       refine⟨_,ex j u r a w p q _ _ g.1 m h2 O c1 c2 (by omega) hp X,?_⟩
       by_cases W:g.1=p.toNat
       ·rw[if_pos W]
        exact C _ rfl ⟨by omega,.inr ⟨b,g,g.2,S,rfl,fun U=>by omega⟩⟩
       ·rw[if_neg W]
        exact C _ rfl ⟨by omega,.inr ⟨b,g,g.2+p.toNat*Q.size,S,by simp[Q0],fun _=>by grind⟩⟩
  grind
 ·rename_i id D s hx
  have key:∀ (e':TypeId) (t:Ty) (l:List t.den),(h id=.arr e' t l\/h id=.ice e' t l)->cond (Nat.beq t.size Q.size) (K6 (lo.map (ev ρ)) 0 fun a=>K6 (hi.map (ev ρ)) s fun b =>
    cond (decide (0<=a)&&decide (a<=b)&&decide (b<=s)) (K (E9 (.one (.sub id (D+a.toNat) (b.toNat-a.toNat))) [id])) none) none=some z ->
    ∃ f,K f=some z/\f.full=none/\∀ j r,ev j x=ev ρ x->(∀ y,lo=some y\/hi=some y->ev j y=ev ρ y)->(∀ id∈f.rd,r id=h id)->A6 P L w0 o j r (f.heap r) f.av:=by
   intro e' t l A H
   cases Z:Nat.beq t.size Q.size with
   | false=>grind
   | true =>
    rw[Z,cond_true]at H
    have hsz:=Nat.eq_of_beq_eq_true Z
    obtain⟨p,H,hp⟩:=U9 H
    obtain⟨q,H,X⟩:=U9 H
    cases G:(decide (0<=p)&&decide (p<=q)&&decide (q<=s))with
    | false=>grind
    | true =>
     rw[G]at H
     simp[Bool.and_eq_true,decide_eq_true_eq]at G
     obtain⟨⟨c1,c2⟩,c3⟩:=G
     refine⟨_,H,rfl,fun j r h1 h2 hh=>D1 hd fun u a w m ok=>?_⟩
     have F:=m x
     rw[h1,hx]at F
     have Y:=hh id (by simp[E9])
     have V:=F.1
     have O:D+s<=l.length/\((u id=none/\a.eval x=.slice none 0 0)\/∃ b g I,u id=some (b,g)/\a.eval x=.slice (some ⟨b,I,none⟩) s (g.1-D)/\(s≠0->I=g.2+D*t.size)):=by
      grind
     have J:RepArr L u r w id e' t l:=by
      have:=ok.obj id
      rcases A with A | A<;>rw[Y,A]at this
      ·exact this
      ·exact this.1
     obtain⟨hle,O⟩:=O
     have C:∀ v:Value,v.oneCell'=true->((u id=none/\v=.slice none 0 0)\/∃ b g I,u id=some (b,g)/\v=.slice (some ⟨b,I,none⟩) (q.toNat-p.toNat) (g.1-(D+p.toNat))/\(q.toNat-p.toNat≠0->I=g.2+(D+p.toNat)*t.size)) ->
       RepAV L u r w (.one (.sub id (D+p.toNat) (q.toNat-p.toNat))) v:=by
      intro v hv1 hv2
      refine⟨?_,hv1⟩
      grind
     rcases O with⟨S,O⟩ | ⟨b,g,I,S,O,ho'⟩
     ·rcases J with⟨_,hl⟩ | ⟨b',cap',cur,B,_⟩
      ·subst hl
       have hl0:s=0:=by grind
       subst hl0
       have hp0:p.toNat=0:=by omega
       have hq0:q.toNat=0:=by omega
       refine⟨_,ex j u r a w p q none 0 0 m h2 O c1 c2 (by omega) hp X,?_⟩
       rw[hp0,hq0]at C ⊢
       exact C _ rfl (.inl ⟨S,rfl⟩)
      grind
     ·rcases J with⟨B,_⟩ | ⟨b',cap',cur,B,_,_,_,hll,_⟩
      ·grind
      ·rw[S]at B;simp at B;obtain⟨rfl,rfl⟩:=B
       refine⟨_,ex j u r a w p q _ _ (g.1-D) m h2 O c1 c2 (by omega) hp X,?_⟩
       by_cases W:g.1-D=p.toNat
       ·rw[if_pos W]
        exact C _ rfl (.inr ⟨b,g,I,S,by grind,fun U=>by omega⟩)
       ·rw[if_neg W]
        by_cases hl0:s=0
        ·exact C _ rfl (.inr ⟨b,g,I+p.toNat*Q.size,S,by rw[Nat.sub_sub];simp[Q0],fun U=>by omega⟩)
        ·exact C _ rfl (.inr ⟨b,g,I+p.toNat*Q.size,S,by rw[Nat.sub_sub];simp[Q0],fun _=>by rw[ho' hl0,<-hsz,Nat.add_mul,Nat.add_assoc]⟩)
  grind
 ·rename_i t l hx
  cases Z:Nat.beq t.size Q.size with
  | false=>rw[Z]at N;cases N
  | true =>
   rw[Z,cond_true]at N
   have hsz:=Nat.eq_of_beq_eq_true Z
   obtain⟨p,N,hp⟩:=U9 N
   obtain⟨q,N,X⟩:=U9 N
   cases G:(decide (0<=p)&&decide (p<=q)&&decide (q<=l.length))with
   | false=>rw[G]at N;cases N
   | true =>
    rw[G]at N
    simp[Bool.and_eq_true,decide_eq_true_eq]at G
    obtain⟨⟨c1,c2⟩,c3⟩:=G
    refine⟨_,N,rfl,fun j r h1 h2 hh=>D1 hd fun u a w m ok=>?_⟩
    have F:=m x
    rw[h1,hx]at F
    obtain⟨_,_,sa,s,g,hg0,hlen,hcap,hel'⟩:=F
    simp[F7]at hg0
    have hll:((l.drop p.toNat).take (q.toNat-p.toNat)).length=q.toNat-p.toNat:=by simp;omega
    refine⟨_,ex j u r a w p q sa s g m h2 hg0 c1 c2 (by omega) hp (by rw[hlen];exact X),rfl,rfl,_,_,_,rfl,hll.symm,by omega,fun U=>?_⟩
    have hne':l≠[]:=by intro h;apply U;rw[h];simp
    have hqp:q.toNat-p.toNat≠0:=by intro h;apply U;rw[h];simp
    obtain⟨b,I,hsa,hfr,hel2⟩:=hel' hne'
    refine⟨b,I+p.toNat*Q.size,?_,hfr,fun i y M=>?_⟩
    ·rw[hsa,if_neg (by omega)];simp[Q0]
    ·have hi:i<q.toNat-p.toNat:=by have:=(List.getElem?_eq_some_iff.1 M).1;omega
     rw[List.getElem?_take_of_lt hi,List.getElem?_drop]at M
     refine RepAt.congr t _ _ y (fun c G=>?_) (hel2 _ y M)
     simp[G,if_true]
     rw[<-hsz,Nat.add_mul]
     congr 2;omega
 grind
end Go.Abs
