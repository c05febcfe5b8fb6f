/- The engine, part 9: addresses of elements, slices of slices, literals, make. -/
import Derived.Test.YtecofmaegcibeaaGreatDoorAbsSound5
import Derived.Great.FillDense
namespace Go.Abs
open Go Go.RowKit
variable {P:Program} {L:Nat->Prop} {w0:World}
variable {T:TypeId} {e:TypeId}
theorem q38 {b:TInfo} (a:b.OK P T) (c:b.elem=some e):P.underlying T=some (.slice e):=by
 obtain⟨-,d,g,-,f,-⟩:=a.base;grind
variable {len:Nat}
theorem y4y {l j:TInfo} (f:l.OK P T) (g:l.elem=some e) (h:j.OK P e) {k:IntKind} {n:Int} {cap:Nat} (d:inB n len=true) (b o:Nat) (w:World) :
  (Instr.indexAt T (.slice (some ⟨b,o,none⟩) len cap) (.int k n)).run P w=.ok (.pointer (some ⟨b,o+n.toNat*j.size,none⟩)) w:=by
 obtain⟨i,z,q,c,-⟩:=h.zero_one (L:=λ_=>False);unfold inB at d;rw[ac]at d;have m:=of_decide_eq_true d.1;have r:=of_decide_eq_true d.2;have s:0<=n/\n<(len:Int):=⟨m,r⟩;have p:=q38 f g;simp[Instr.indexAt,asIntOf,run_underlying p,s,q1t q,c,U5]
theorem j2i {n:Int} (h:inB n len=true):n.toNat<len:=by
 grind[inB]
variable {R:Type} {z:R}
theorem k2a {o:Oper} {x i:Operand} {ti te:TInfo} (hti:ti.OK P T) (hel:ti.elem=some e) (hte:te.OK P e) (ho:o.op=.indexAddr T x i) {ρ:Env} {h:Heap} {K:Eff->Option R} (he:j18 te.size h (ev ρ x) (ev ρ i) K=some z):∃f,K f=some z/\f.full=none/\∀ρs hs,ev ρs x=ev ρ x->ev ρs i=ev ρ i->(∀id∈f.rd,hs id=h id)->A9 P L w0 o ρs hs (f.heap hs) f.av:=by
 have hd:∀c,o.op≠.defer c:=λc hc=>by rw[ho]at hc;cases hc
 have ex:∀(a:Act) (w:World) (k:IntKind) (n:Int) (b o' len cap:Nat),a.eval x=.slice (some ⟨b,o',none⟩) len cap->a.eval i=.int k n->inB n len=true ->
   (execOp a.eval o).run P w=.ok (.value (.pointer (some ⟨b,o'+n.toNat*te.size,none⟩))) w:=by
  intro a w k n b o' len cap h1 h2 h3;unfold execOp;simp only[ho,h1,h2,Sem.run_bind,y4y hti hel hte h3,Result.andThen_ok,Sem.run_pure]
 unfold j18 at he;split at he
 ·rename_i k n hi;split at he
  ·rename_i id hx;have key:∀(e':TypeId) (t:Ty) (l:List t.den),(h id=.arr e' t l\/h id=.ice e' t l)->cond (Nat.beq t.size te.size&&inB n l.length) (K (E1 (.one (.eptr id t n.toNat 0)) [id])) none=some z ->
     ∃f,K f=some z/\f.full=none/\∀ρs hs,ev ρs x=ev ρ x->ev ρs i=ev ρ i->(∀id∈f.rd,hs id=h id)->A9 P L w0 o ρs hs (f.heap hs) f.av:=by
    intro e' t l hid hb;cases hg:(Nat.beq t.size te.size&&inB n l.length)with
    | false=>rw[hg]at hb;cases hb
    | true =>
     rw[hg]at hb;rw[ac]at hg;obtain⟨hsz,hin⟩:=hg;have hsz:=ab hsz;refine⟨_,hb,rfl,λρs hs h1 h2 hh=>E7 hd λκ a w hev ok=>?_⟩;have hxv:=hev x;rw[h1,hx]at hxv;have hiv:=hev i;rw[h2,hi]at hiv;have hh':=hh id (by simp[E1]);have hxv':=hxv.1;have hne:(hs id).Held:=by rw[hh'];rcases hid with hid | hid<;>rw[hid]<;>simp
     have hv:(κ id=none/\l=[]/\a.eval x=.slice none 0 0)\/∃b cap,κ id=some (b,cap)/\a.eval x=.slice (some ⟨b,cap.2,none⟩) l.length cap.1:=by
      rcases hid with hid | hid<;>rw[hh',hid]at hxv'<;>exact hxv'
     rcases hv with⟨_,hl,_⟩ | ⟨b,cap,hk,hv⟩
     ·subst hl;have:=j2i hin;simp at this
     ·exact⟨_,ex a w k n b cap.2 _ cap.1 hv (K1 hiv) hin,hne,b,cap,hk,by rw[hsz];simp⟩
   split at he
   ·rename_i e' t l hid;exact key e' t l (.inl hid) he
   ·rename_i e' t l hid;exact key e' t l (.inr hid) he
   ·cases he
  ·rename_i id off len hx;have key:∀(e':TypeId) (t:Ty) (l:List t.den),(h id=.arr e' t l\/h id=.ice e' t l)->cond (Nat.beq t.size te.size&&inB n len) (K (E1 (.one (.eptr id t (off+n.toNat) 0)) [id])) none=some z ->
     ∃f,K f=some z/\f.full=none/\∀ρs hs,ev ρs x=ev ρ x->ev ρs i=ev ρ i->(∀id∈f.rd,hs id=h id)->A9 P L w0 o ρs hs (f.heap hs) f.av:=by
    intro e' t l hid hb;cases hg:(Nat.beq t.size te.size&&inB n len)with
    | false=>rw[hg]at hb;cases hb
    | true =>
     rw[hg]at hb;rw[ac]at hg;obtain⟨hsz,hin⟩:=hg;have hsz:=ab hsz;refine⟨_,hb,rfl,λρs hs h1 h2 hh=>E7 hd λκ a w hev ok=>?_⟩;have hxv:=hev x;rw[h1,hx]at hxv;have hiv:=hev i;rw[h2,hi]at hiv;have hh':=hh id (by simp[E1]);have hxv':=hxv.1;have hne:(hs id).Held:=by rw[hh'];rcases hid with hid | hid<;>rw[hid]<;>simp
     have hv:off+len<=l.length/\((κ id=none/\a.eval x=.slice none 0 0)\/∃b cap o',κ id=some (b,cap)/\a.eval x=.slice (some ⟨b,o',none⟩) len (cap.1-off)/\(o'=cap.2+off*t.size\/cap.1<=off/\o'<=cap.2+cap.1*t.size)):=by
      rcases hid with hid | hid<;>rw[hh',hid]at hxv'<;>exact hxv'
     have hlt:=j2i hin;obtain⟨hle,hv⟩:=hv;have hrep:RepArr L κ hs w id e' t l:=by
      have:=ok.obj id;rcases hid with hid | hid<;>rw[hh',hid]at this
      ·exact this
      ·exact this.1
     rcases hv with⟨hk,hv⟩ | ⟨b,cap,o',hk,hv,ho'⟩
     ·rcases hrep with⟨_,hl⟩ | ⟨b',cap',cur,hk',_⟩
      ·subst hl;simp at hle;omega
      ·rw[hk]at hk';cases hk'
     ·have ho':=ho'.resolve_right λhc=>by
       rcases hrep with⟨q,_⟩ | ⟨_,_,_,q,_,_,_,hle2,_⟩
       ·rw[hk]at q;cases q
       ·rw[hk]at q;cases q;omega
      exact⟨_,ex a w k n b o' _ _ hv (K1 hiv) hin,hne,b,cap,hk,by rw[ho',<-hsz,bH];simp[bT]⟩
   split at he
   ·rename_i e' t l hid;exact key e' t l (.inl hid) he
   ·rename_i e' t l hid;exact key e' t l (.inr hid) he
   ·cases he
  ·rename_i t l hx;cases hg:(Nat.beq t.size te.size&&Nat.ble 1 te.size)with
   | false=>rw[hg]at he;cases he
   | true =>
    rw[hg]at he;rw[ac]at hg;have hsz:=ab hg.1;have hpos:=ao hg.2;cases hn:A5 l n with
    | none=>rw[hn]at he;cases he
    | some y =>
     rw[hn]at he;simp only[cond_true,aa]at he;refine⟨_,he,rfl,λρs hs h1 h2 hh=>E7 hd λκ a w hev ok=>?_⟩;have hxv:=hev x;rw[h1,hx]at hxv;have hiv:=hev i;rw[h2,hi]at hiv;obtain⟨_,_,sa,len,cap,hg0,hlen,hcap,hel⟩:=hxv;simp[E6]at hg0;unfold A5 at hn;cases h0:decide (0<=n)with
     | false=>rw[h0]at hn;cases hn
     | true =>
      rw[h0]at hn;simp only[cond_true]at hn;have hlt:=(ag.1 hn).1;obtain⟨b,o',hsa,hfr,hel2⟩:=hel (by intro h;rw[h]at hlt;simp at hlt);subst hsa;have hin:inB n len=true:=by
       unfold inB;rw[h0];have:=of_decide_eq_true h0;simp;omega
      refine⟨_,ex a w k n b o' _ _ hg0 (K1 hiv) hin,b,o'+n.toNat*te.size,by simp,⟨hfr.1,hfr.2.2⟩,?_⟩;have:=hel2 _ y hn;refine RepAt.congr t _ _ y (λc hc=>?_) this;simp only[hc,if_true];rw[hsz,bT]
  ·cases he
 ·cases he
theorem q23 {x:Option AV} {d:Nat} {K:Int->Option R} (h:N0 x d K=some z) :
  ∃n:Int,K n=some z/\((x=none/\n=d)\/∃k,x=some (.one (.sc (.int k) n))):=by
 unfold N0 at h;grind
theorem z1k {r q:TInfo} (n:r.OK P T) (l:r.elem=some e) (o:q.OK P e) {cap a b:Nat} (j:Option Addr) (w:World) {lo hi:Option Value} (m:(lo=none/\a=0)\/∃k,lo=some (.int k (a:Int))) (g:(hi=none/\b=len)\/∃k,hi=some (.int k (b:Int))) (p:a<=b) (h:b<=cap) :
  (Instr.sliceAt T (.slice j len cap) lo hi none).run P w=.ok (.slice (if cap=a then j else j.map (·.add (a*q.size))) (b-a) (cap-a)) w:=by
 obtain⟨i,z,f,d,-⟩:=o.zero_one (L:=λ_=>False);have s:=q38 n l;rcases m with⟨rfl,rfl⟩ | ⟨k,rfl⟩<;>rcases g with⟨rfl,rfl⟩ | ⟨t,rfl⟩ <;>
  simp[Instr.sliceAt,Instr.slice,run_underlying s,Instr.sliceBounds,Instr.sliceBound,asIntOf,q1t f,d,p,h] <;>
  (omega)
theorem k2u {o:Oper} {x:Operand} {lo hi:Option Operand} {ti te:TInfo} (hti:ti.OK P T) (hel:ti.elem=some e) (hte:te.OK P e) (ho:o.op=.slice T x lo hi none) {ρ:Env} {h:Heap} {K:Eff->Option R} (he:j1m te.size h (ev ρ x) (lo.map (ev ρ)) (hi.map (ev ρ)) K=some z):∃f,K f=some z/\f.full=none/\∀ρs hs,ev ρs x=ev ρ x->(∀y,lo=some y\/hi=some y->ev ρs y=ev ρ y)->(∀id∈f.rd,hs id=h id)->A9 P L w0 o ρs hs (f.heap hs) f.av:=by
 have hd:∀c,o.op≠.defer c:=λc hc=>by rw[ho]at hc;cases hc
 have bnd:∀(ρs:Env) (κ:A6) (hs:Heap) (a:Act) (w:World),(∀x,RepAV L κ hs w (ev ρs x) (a.eval x))->∀(y:Option Operand) (d:Nat) (n:Int),(∀q,y=some q->ev ρs q=ev ρ q)->0<=n ->
   ((y.map (ev ρ)=none/\n=d)\/∃k,y.map (ev ρ)=some (.one (.sc (.int k) n)))->(y.map a.eval=none/\n.toNat=d)\/∃k,y.map a.eval=some (.int k (n.toNat:Int)):=by
  intro ρs κ hs a w hev y d n hq h0 hy;cases y with
  | none =>
   rcases hy with⟨_,hy⟩ | ⟨k,hy⟩
   ·exact .inl ⟨rfl,by omega⟩
   ·cases hy
  | some q =>
   rcases hy with⟨hy,_⟩ | ⟨k,hy⟩
   ·cases hy
   ·simp at hy;have hqv:=hev q;rw[hq q rfl,hy]at hqv;exact .inr ⟨k,by simp[K1 hqv,Int.toNat_of_nonneg h0]⟩
 have ex:∀(ρs:Env) (κ:A6) (hs:Heap) (a:Act) (w:World) (p q:Int) (sa:Option Addr) (len cap:Nat),(∀x,RepAV L κ hs w (ev ρs x) (a.eval x))->(∀y,lo=some y\/hi=some y->ev ρs y=ev ρ y)->a.eval x=.slice sa len cap->0<=p->p<=q->q<=cap ->
   ((lo.map (ev ρ)=none/\p=(0:Nat))\/∃k,lo.map (ev ρ)=some (.one (.sc (.int k) p)))->((hi.map (ev ρ)=none/\q=len)\/∃k,hi.map (ev ρ)=some (.one (.sc (.int k) q))) ->
   (execOp a.eval o).run P w=.ok (.value (.slice (if cap=p.toNat then sa else sa.map (·.add (p.toNat*te.size))) (q.toNat-p.toNat) (cap-p.toNat))) w:=by
  intro ρs κ hs a w p q sa len cap hev hag hx h0 hpq hqc hlo hhi;have h1:=bnd ρs κ hs a w hev lo 0 p (λy hy=>hag y (.inl hy)) h0 hlo;have h2:=bnd ρs κ hs a w hev hi len q (λy hy=>hag y (.inr hy)) (by omega) hhi;have h3:p.toNat<=q.toNat:=by omega
  have h4:q.toNat<=cap:=by omega
  have hrun:=z1k (P:=P) hti hel hte sa w h1 h2 h3 h4;unfold execOp;simp only[ho,hx,Sem.run_bind,bJ,hrun,Result.andThen_ok,Sem.run_pure]
 unfold j1m at he;split at he
 ·rename_i id hx;have key:∀(e':TypeId) (t:Ty) (l:List t.den),(h id=.arr e' t l\/h id=.ice e' t l)->cond (Nat.beq t.size te.size) (N0 (lo.map (ev ρ)) 0 λa=>N0 (hi.map (ev ρ)) l.length λb =>
    cond (decide (0<=a)&&decide (a<=b)&&decide (b<=l.length)) (K (E1 (.one (.sub id a.toNat (b.toNat-a.toNat))) [id])) none) none=some z ->
    ∃f,K f=some z/\f.full=none/\∀ρs hs,ev ρs x=ev ρ x->(∀y,lo=some y\/hi=some y->ev ρs y=ev ρ y)->(∀id∈f.rd,hs id=h id)->A9 P L w0 o ρs hs (f.heap hs) f.av:=by
   intro e' t l hid hb;cases hg:Nat.beq t.size te.size with
   | false=>rw[hg]at hb;cases hb
   | true =>
    rw[hg,cond_true]at hb;have hsz:=ab hg;obtain⟨p,hb,hp⟩:=q23 hb;obtain⟨q,hb,hq⟩:=q23 hb;cases hc:(decide (0<=p)&&decide (p<=q)&&decide (q<=l.length))with
    | false=>rw[hc]at hb;cases hb
    | true =>
     rw[hc]at hb;simp only[ac,decide_eq_true_eq]at hc;obtain⟨⟨c1,c2⟩,c3⟩:=hc;refine⟨_,hb,rfl,λρs hs h1 h2 hh=>E7 hd λκ a w hev ok=>?_⟩;have hxv:=hev x;rw[h1,hx]at hxv;have hh':=hh id (by simp[E1]);have hxv':=hxv.1;have hv:(κ id=none/\l=[]/\a.eval x=.slice none 0 0)\/∃b cap,κ id=some (b,cap)/\a.eval x=.slice (some ⟨b,cap.2,none⟩) l.length cap.1:=by
      rcases hid with hid | hid<;>rw[hh',hid]at hxv'<;>exact hxv'
     have hrep:RepArr L κ hs w id e' t l:=by
      have:=ok.obj id;rcases hid with hid | hid<;>rw[hh',hid]at this
      ·exact this
      ·exact this.1
     have fin:∀v:Value,v.oneCell'=true->(p.toNat+(q.toNat-p.toNat)<=l.length/\((κ id=none/\v=.slice none 0 0)\/∃b cap o',κ id=some (b,cap)/\v=.slice (some ⟨b,o',none⟩) (q.toNat-p.toNat) (cap.1-p.toNat)/\(o'=cap.2+p.toNat*t.size\/cap.1<=p.toNat/\o'<=cap.2+cap.1*t.size))) ->
       RepAV L κ hs w (.one (.sub id p.toNat (q.toNat-p.toNat))) v:=by
      intro v hv1 hv2;refine⟨?_,hv1⟩;rcases hid with hid | hid<;>rw[hh',hid]<;>exact hv2
     rcases hv with⟨hk,hl,hv⟩ | ⟨b,cap,hk,hv⟩
     ·subst hl;have hp0:p.toNat=0:=by simp at c3;omega
      have hq0:q.toNat=0:=by simp at c3;omega
      refine⟨_,ex ρs κ hs a w p q none 0 0 hev h2 hv c1 c2 (by simpa using c3) hp hq,?_⟩;rw[hp0,hq0]at fin ⊢;exact fin _ rfl ⟨by simp,.inl ⟨hk,rfl⟩⟩
     ·rcases hrep with⟨hk',_⟩ | ⟨b',cap',cur,hk',_,_,_,hll,_⟩
      ·rw[hk]at hk';cases hk'
      ·rw[hk]at hk';simp at hk';obtain⟨rfl,rfl⟩:=hk';refine⟨_,ex ρs κ hs a w p q _ _ cap.1 hev h2 hv c1 c2 (by omega) hp hq,?_⟩;by_cases hcp:cap.1=p.toNat
       ·rw[if_pos hcp];exact fin _ rfl ⟨by omega,.inr ⟨b,cap,cap.2,hk,rfl,.inr ⟨by omega,cy _ _⟩⟩⟩
       ·rw[if_neg hcp];exact fin _ rfl ⟨by omega,.inr ⟨b,cap,cap.2+p.toNat*te.size,hk,by simp[U5],.inl (by rw[hsz])⟩⟩
  split at he
  ·rename_i e' t l hid;exact key e' t l (.inl hid) he
  ·rename_i e' t l hid;exact key e' t l (.inr hid) he
  ·cases he
 ·rename_i id off len hx;have key:∀(e':TypeId) (t:Ty) (l:List t.den),(h id=.arr e' t l\/h id=.ice e' t l)->cond (Nat.beq t.size te.size) (N0 (lo.map (ev ρ)) 0 λa=>N0 (hi.map (ev ρ)) len λb =>
    cond (decide (0<=a)&&decide (a<=b)&&decide (b<=len)) (K (E1 (.one (.sub id (off+a.toNat) (b.toNat-a.toNat))) [id])) none) none=some z ->
    ∃f,K f=some z/\f.full=none/\∀ρs hs,ev ρs x=ev ρ x->(∀y,lo=some y\/hi=some y->ev ρs y=ev ρ y)->(∀id∈f.rd,hs id=h id)->A9 P L w0 o ρs hs (f.heap hs) f.av:=by
   intro e' t l hid hb;cases hg:Nat.beq t.size te.size with
   | false=>rw[hg]at hb;cases hb
   | true =>
    rw[hg,cond_true]at hb;have hsz:=ab hg;obtain⟨p,hb,hp⟩:=q23 hb;obtain⟨q,hb,hq⟩:=q23 hb;cases hc:(decide (0<=p)&&decide (p<=q)&&decide (q<=len))with
    | false=>rw[hc]at hb;cases hb
    | true =>
     rw[hc]at hb;simp only[ac,decide_eq_true_eq]at hc;obtain⟨⟨c1,c2⟩,c3⟩:=hc;refine⟨_,hb,rfl,λρs hs h1 h2 hh=>E7 hd λκ a w hev ok=>?_⟩;have hxv:=hev x;rw[h1,hx]at hxv;have hh':=hh id (by simp[E1]);have hxv':=hxv.1;have hv:off+len<=l.length/\((κ id=none/\a.eval x=.slice none 0 0)\/∃b cap o',κ id=some (b,cap)/\a.eval x=.slice (some ⟨b,o',none⟩) len (cap.1-off)/\(o'=cap.2+off*t.size\/cap.1<=off/\o'<=cap.2+cap.1*t.size)):=by
      rcases hid with hid | hid<;>rw[hh',hid]at hxv'<;>exact hxv'
     have hrep:RepArr L κ hs w id e' t l:=by
      have:=ok.obj id;rcases hid with hid | hid<;>rw[hh',hid]at this
      ·exact this
      ·exact this.1
     obtain⟨hle,hv⟩:=hv;have fin:∀v:Value,v.oneCell'=true->((κ id=none/\v=.slice none 0 0)\/∃b cap o',κ id=some (b,cap)/\v=.slice (some ⟨b,o',none⟩) (q.toNat-p.toNat) (cap.1-(off+p.toNat))/\(o'=cap.2+(off+p.toNat)*t.size\/cap.1<=off+p.toNat/\o'<=cap.2+cap.1*t.size)) ->
       RepAV L κ hs w (.one (.sub id (off+p.toNat) (q.toNat-p.toNat))) v:=by
      intro v hv1 hv2;refine⟨?_,hv1⟩;rcases hid with hid | hid<;>rw[hh',hid]<;>exact⟨by omega,hv2⟩
     rcases hv with⟨hk,hv⟩ | ⟨b,cap,o',hk,hv,ho'⟩
     ·rcases hrep with⟨_,hl⟩ | ⟨b',cap',cur,hk',_⟩
      ·subst hl;have hl0:len=0:=by simp at hle;omega
       subst hl0;have hp0:p.toNat=0:=by omega
       have hq0:q.toNat=0:=by omega
       refine⟨_,ex ρs κ hs a w p q none 0 0 hev h2 hv c1 c2 (by omega) hp hq,?_⟩;rw[hp0,hq0]at fin ⊢;exact fin _ rfl (.inl ⟨hk,rfl⟩)
      ·rw[hk]at hk';cases hk'
     ·rcases hrep with⟨hk',_⟩ | ⟨b',cap',cur,hk',_,_,_,hll,_⟩
      ·rw[hk]at hk';cases hk'
      ·rw[hk]at hk';simp at hk';obtain⟨rfl,rfl⟩:=hk';refine⟨_,ex ρs κ hs a w p q _ _ (cap.1-off) hev h2 hv c1 c2 (by omega) hp hq,?_⟩;by_cases hcp:cap.1-off=p.toNat
       ·rw[if_pos hcp];exact fin _ rfl (.inr ⟨b,cap,o',hk,by rw[Nat.sub_sub],.inr ⟨by omega,ho'.elim (λe=>e▸Nat.add_le_add_left (aJ _ (by omega)) _) And.right⟩⟩)
       ·rw[if_neg hcp];exact fin _ rfl (.inr ⟨b,cap,o'+p.toNat*te.size,hk,by rw[Nat.sub_sub];simp[U5],.inl (by rw[ho'.resolve_right (by omega),<-hsz,bH,bT])⟩)
  split at he
  ·rename_i e' t l hid;exact key e' t l (.inl hid) he
  ·rename_i e' t l hid;exact key e' t l (.inr hid) he
  ·cases he
 ·rename_i t l hx;cases hg:Nat.beq t.size te.size with
  | false=>rw[hg]at he;cases he
  | true =>
   rw[hg,cond_true]at he;have hsz:=ab hg;obtain⟨p,he,hp⟩:=q23 he;obtain⟨q,he,hq⟩:=q23 he;cases hc:(decide (0<=p)&&decide (p<=q)&&decide (q<=l.length))with
   | false=>rw[hc]at he;cases he
   | true =>
    rw[hc]at he;simp only[ac,decide_eq_true_eq]at hc;obtain⟨⟨c1,c2⟩,c3⟩:=hc;refine⟨_,he,rfl,λρs hs h1 h2 hh=>E7 hd λκ a w hev ok=>?_⟩;have hxv:=hev x;rw[h1,hx]at hxv;obtain⟨_,_,sa,len,cap,hg0,hlen,hcap,hel'⟩:=hxv;simp[E6]at hg0;have hll:((l.drop p.toNat).take (q.toNat-p.toNat)).length=q.toNat-p.toNat:=by simp;omega
    refine⟨_,ex ρs κ hs a w p q sa len cap hev h2 hg0 c1 c2 (by omega) hp (by rw[hlen];exact hq),rfl,rfl,_,_,_,rfl,hll.symm,by omega,λhne=>?_⟩;have hne':l≠[]:=by intro h;apply hne;rw[h];simp
    have hqp:q.toNat-p.toNat≠0:=by intro h;apply hne;rw[h];simp
    obtain⟨b,o',hsa,hfr,hel2⟩:=hel' hne';refine⟨b,o'+p.toNat*te.size,?_,hfr,λi y hy=>?_⟩
    ·rw[hsa,if_neg (by omega)];simp[U5]
    ·have hi:i<q.toNat-p.toNat:=by have:=(ag.1 hy).1;omega
     rw[aV hi,aT]at hy;refine RepAt.congr t _ _ y (λc hc=>?_) (hel2 _ y hy);simp only[hc,if_true];rw[<-hsz,bH];congr 2;omega
 ·cases he
end Go.Abs
