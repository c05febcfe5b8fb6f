/- The engine, part 9: addresses of elements, slices of slices, literals, make. -/
import Derived.Test.YtkfjlcdaepckoaaAbsSound5
import Derived.Great.FillDense
namespace Go.Abs
open Go Go.RowKit
variable {P:Program} {L:Nat->Prop} {w0:World}
theorem W8 {ti:TInfo} {T e:TypeId} (hti:ti.OK P T) (hel:ti.elem=some e):P.underlying T=some (.slice e):=by
 obtain⟨-,d,hd,-,hde,-⟩:=hti.base
 rcases hde with hde | ⟨e',he',hde⟩
 ·rw[hel]at hde;cases hde
 ·rw[hel]at he';cases he';rw[hd,hde]
theorem j0e {ti te:TInfo} {T e:TypeId} (hti:ti.OK P T) (hel:ti.elem=some e) (hte:te.OK P e) {k:IntKind} {n:Int} {len cap:Nat} (hb:inB n len=true) (b o:Nat) (w:World) :
  (Instr.indexAt T (.slice (some ⟨b,o,none⟩) len cap) (.int k n)).run P w=.ok (.pointer (some ⟨b,o+n.toNat*te.size,none⟩)) w:=by
 obtain⟨i,z,hi,hisz,-⟩:=hte.zero_one (L:=fun _=>False)
 unfold inB at hb
 rw[Bool.and_eq_true]at hb
 have h0:=of_decide_eq_true hb.1
 have h1:=of_decide_eq_true hb.2
 have hc:0<=n/\n<(len:Int):=⟨h0,h1⟩
 have hu:=W8 hti hel
 simp[Instr.indexAt,asIntOf,run_underlying hu,hc,O6 hi,hisz,P0]
theorem z1s {n:Int} {len:Nat} (h:inB n len=true):n.toNat<len:=by
 unfold inB at h
 rw[Bool.and_eq_true]at h
 have h0:=of_decide_eq_true h.1
 have h1:=of_decide_eq_true h.2
 omega
theorem y1y {R:Type} {o:Oper} {T e:TypeId} {x i:Operand} {ti te:TInfo} (hti:ti.OK P T) (hel:ti.elem=some e) (hte:te.OK P e) (ho:o.op=.indexAddr T x i) {ρ:Env} {h:Heap} {K:Eff->Option R} {z:R}
  (he:z0c te.size h (ev ρ x) (ev ρ i) K=some z):∃ f,K f=some z/\f.full=none/\∀ ρs hs,ev ρs x=ev ρ x->ev ρs i=ev ρ i->(∀ id∈f.rd,hs id=h id)->A6 P L w0 o ρs hs (f.heap hs) f.av:=by
 have hd:∀ c,o.op≠.defer c:=fun c hc=>by rw[ho]at hc;cases hc
 have ex:∀ (a:Act) (w:World) (k:IntKind) (n:Int) (b o' len cap:Nat),a.eval x=.slice (some ⟨b,o',none⟩) len cap->a.eval i=.int k n->inB n len=true ->
   (execOp a.eval o).run P w=.ok (.value (.pointer (some ⟨b,o'+n.toNat*te.size,none⟩))) w:=by
  intro a w k n b o' len cap h1 h2 h3
  unfold execOp
  simp only[ho,h1,h2,Sem.run_bind,j0e hti hel hte h3,Result.andThen_ok,Sem.run_pure]
 unfold z0c at he
 split at he
 ·rename_i k n hi
  split at he
  ·rename_i id hx
   have key:∀ (e':TypeId) (t:Ty) (l:List t.den),(h id=.arr e' t l\/h id=.ice e' t l)->cond (Nat.beq t.size te.size&&inB n l.length) (K (E2 (.one (.eptr id t n.toNat 0)) [id])) none=some z ->
     ∃ f,K f=some z/\f.full=none/\∀ ρs hs,ev ρs x=ev ρ x->ev ρs i=ev ρ i->(∀ id∈f.rd,hs id=h id)->A6 P L w0 o ρs hs (f.heap hs) f.av:=by
    intro e' t l hid hb
    cases hg:(Nat.beq t.size te.size&&inB n l.length)with
    | false=>rw[hg]at hb;cases hb
    | true =>
     rw[hg]at hb
     rw[Bool.and_eq_true]at hg
     obtain⟨hsz,hin⟩:=hg
     have hsz:=Nat.eq_of_beq_eq_true hsz
     refine⟨_,hb,rfl,fun ρs hs h1 h2 hh=>C6 hd fun κ a w hev ok=>?_⟩
     have hxv:=hev x
     rw[h1,hx]at hxv
     have hiv:=hev i
     rw[h2,hi]at hiv
     have hh':=hh id (by simp[E2])
     have hxv':=hxv.1
     have hne:(hs id).Held:=by rw[hh'];rcases hid with hid | hid<;>rw[hid]<;>simp
     have hv:(κ id=none/\l=[]/\a.eval x=.slice none 0 0)\/∃ b cap,κ id=some (b,cap)/\a.eval x=.slice (some ⟨b,cap.2,none⟩) l.length cap.1:=by
      rcases hid with hid | hid<;>rw[hh',hid]at hxv'<;>exact hxv'
     rcases hv with⟨_,hl,_⟩ | ⟨b,cap,hk,hv⟩
     ·subst hl;have:=z1s hin;simp at this
     ·exact⟨_,ex a w k n b cap.2 _ cap.1 hv (G2 hiv) hin,hne,b,cap,hk,by rw[hsz];simp⟩
   split at he
   ·rename_i e' t l hid;exact key e' t l (.inl hid) he
   ·rename_i e' t l hid;exact key e' t l (.inr hid) he
   ·cases he
  ·rename_i id off len hx
   have key:∀ (e':TypeId) (t:Ty) (l:List t.den),(h id=.arr e' t l\/h id=.ice e' t l)->cond (Nat.beq t.size te.size&&inB n len) (K (E2 (.one (.eptr id t (off+n.toNat) 0)) [id])) none=some z ->
     ∃ f,K f=some z/\f.full=none/\∀ ρs hs,ev ρs x=ev ρ x->ev ρs i=ev ρ i->(∀ id∈f.rd,hs id=h id)->A6 P L w0 o ρs hs (f.heap hs) f.av:=by
    intro e' t l hid hb
    cases hg:(Nat.beq t.size te.size&&inB n len)with
    | false=>rw[hg]at hb;cases hb
    | true =>
     rw[hg]at hb
     rw[Bool.and_eq_true]at hg
     obtain⟨hsz,hin⟩:=hg
     have hsz:=Nat.eq_of_beq_eq_true hsz
     refine⟨_,hb,rfl,fun ρs hs h1 h2 hh=>C6 hd fun κ a w hev ok=>?_⟩
     have hxv:=hev x
     rw[h1,hx]at hxv
     have hiv:=hev i
     rw[h2,hi]at hiv
     have hh':=hh id (by simp[E2])
     have hxv':=hxv.1
     have hne:(hs id).Held:=by rw[hh'];rcases hid with hid | hid<;>rw[hid]<;>simp
     have hv:off+len<=l.length/\((κ id=none/\a.eval x=.slice none 0 0)\/∃ b cap o',κ id=some (b,cap)/\a.eval x=.slice (some ⟨b,o',none⟩) len (cap.1-off)/\(len≠0->o'=cap.2+off*t.size)):=by
      rcases hid with hid | hid<;>rw[hh',hid]at hxv'<;>exact hxv'
     have hlt:=z1s hin
     obtain⟨hle,hv⟩:=hv
     have hrep:RepArr L κ hs w id e' t l:=by
      have:=ok.obj id
      rcases hid with hid | hid<;>rw[hh',hid]at this
      ·exact this
      ·exact this.1
     rcases hv with⟨hk,hv⟩ | ⟨b,cap,o',hk,hv,ho'⟩
     ·rcases hrep with⟨_,hl⟩ | ⟨b',cap',cur,hk',_⟩
      ·subst hl;simp at hle;omega
      ·rw[hk]at hk';cases hk'
     ·exact⟨_,ex a w k n b o' _ _ hv (G2 hiv) hin,hne,b,cap,hk,by rw[ho' (by omega),<-hsz,Nat.add_mul];simp[Nat.add_assoc]⟩
   split at he
   ·rename_i e' t l hid;exact key e' t l (.inl hid) he
   ·rename_i e' t l hid;exact key e' t l (.inr hid) he
   ·cases he
  ·rename_i t l hx
   cases hg:(Nat.beq t.size te.size&&Nat.ble 1 te.size)with
   | false=>rw[hg]at he;cases he
   | true =>
    rw[hg]at he
    rw[Bool.and_eq_true]at hg
    have hsz:=Nat.eq_of_beq_eq_true hg.1
    have hpos:=Nat.le_of_ble_eq_true hg.2
    cases hn:A9 l n with
    | none=>rw[hn]at he;cases he
    | some y =>
     rw[hn]at he
     simp only[cond_true,Option.bind_some]at he
     refine⟨_,he,rfl,fun ρs hs h1 h2 hh=>C6 hd fun κ a w hev ok=>?_⟩
     have hxv:=hev x
     rw[h1,hx]at hxv
     have hiv:=hev i
     rw[h2,hi]at hiv
     obtain⟨_,_,sa,len,cap,hg0,hlen,hcap,hel⟩:=hxv
     simp[E3]at hg0
     unfold A9 at hn
     cases h0:decide (0<=n)with
     | false=>rw[h0]at hn;cases hn
     | true =>
      rw[h0]at hn
      simp only[cond_true]at hn
      have hlt:=(List.getElem?_eq_some_iff.1 hn).1
      obtain⟨b,o',hsa,hfr,hel2⟩:=hel (by intro h;rw[h]at hlt;simp at hlt)
      subst hsa
      have hin:inB n len=true:=by
       unfold inB;rw[h0];have:=of_decide_eq_true h0;simp;omega
      refine⟨_,ex a w k n b o' _ _ hg0 (G2 hiv) hin,b,o'+n.toNat*te.size,by simp,hfr,?_⟩
      have:=hel2 _ y hn
      refine RepAt.congr t _ _ y (fun c hc=>?_) this
      simp only[hc,if_true]
      rw[hsz,Nat.add_assoc]
  ·cases he
 ·cases he
theorem Q2 {R:Type} {x:Option AV} {d:Nat} {K:Int->Option R} {z:R} (h:J0 x d K=some z) :
  ∃ n:Int,K n=some z/\((x=none/\n=d)\/∃ k,x=some (.one (.sc (.int k) n))):=by
 unfold J0 at h
 split at h
 ·exact⟨d,h,.inl ⟨rfl,rfl⟩⟩
 ·rename_i k n;exact⟨n,h,.inr ⟨k,rfl⟩⟩
 ·cases h
theorem q2o {ti te:TInfo} {T e:TypeId} (hti:ti.OK P T) (hel:ti.elem=some e) (hte:te.OK P e) {len cap a b:Nat} (sa:Option Addr) (w:World) {lo hi:Option Value}
  (hlo:(lo=none/\a=0)\/∃ k,lo=some (.int k (a:Int))) (hhi:(hi=none/\b=len)\/∃ k,hi=some (.int k (b:Int))) (hab:a<=b) (hbc:b<=cap) :
  (Instr.sliceAt T (.slice sa len cap) lo hi none).run P w=.ok (.slice (if cap=a then sa else sa.map (·.add (a*te.size))) (b-a) (cap-a)) w:=by
 obtain⟨i,z,hi',hisz,-⟩:=hte.zero_one (L:=fun _=>False)
 have hu:=W8 hti hel
 rcases hlo with⟨rfl,rfl⟩ | ⟨k,rfl⟩<;>rcases hhi with⟨rfl,rfl⟩ | ⟨k',rfl⟩ <;>
  simp[Instr.sliceAt,Instr.slice,run_underlying hu,Instr.sliceBounds,Instr.sliceBound,asIntOf,O6 hi',hisz,hab,hbc] <;>
  (intro h;exfalso;omega)
theorem y2p {R:Type} {o:Oper} {T e:TypeId} {x:Operand} {lo hi:Option Operand} {ti te:TInfo} (hti:ti.OK P T) (hel:ti.elem=some e) (hte:te.OK P e) (ho:o.op=.slice T x lo hi none) {ρ:Env} {h:Heap} {K:Eff->Option R} {z:R}
  (he:z0t te.size h (ev ρ x) (lo.map (ev ρ)) (hi.map (ev ρ)) K=some z):∃ f,K f=some z/\f.full=none/\∀ ρs hs,ev ρs x=ev ρ x->(∀ y,lo=some y\/hi=some y->ev ρs y=ev ρ y)->(∀ id∈f.rd,hs id=h id)->A6 P L w0 o ρs hs (f.heap hs) f.av:=by
 have hd:∀ c,o.op≠.defer c:=fun c hc=>by rw[ho]at hc;cases hc
 have bnd:∀ (ρs:Env) (κ:A2) (hs:Heap) (a:Act) (w:World),(∀ x,RepAV L κ hs w (ev ρs x) (a.eval x))->∀ (y:Option Operand) (d:Nat) (n:Int),(∀ q,y=some q->ev ρs q=ev ρ q)->0<=n ->
   ((y.map (ev ρ)=none/\n=d)\/∃ k,y.map (ev ρ)=some (.one (.sc (.int k) n)))->(y.map a.eval=none/\n.toNat=d)\/∃ k,y.map a.eval=some (.int k (n.toNat:Int)):=by
  intro ρs κ hs a w hev y d n hq h0 hy
  cases y with
  | none =>
   rcases hy with⟨_,hy⟩ | ⟨k,hy⟩
   ·exact .inl ⟨rfl,by omega⟩
   ·cases hy
  | some q =>
   rcases hy with⟨hy,_⟩ | ⟨k,hy⟩
   ·cases hy
   ·simp at hy
    have hqv:=hev q
    rw[hq q rfl,hy]at hqv
    exact .inr ⟨k,by simp[G2 hqv,Int.toNat_of_nonneg h0]⟩
 have ex:∀ (ρs:Env) (κ:A2) (hs:Heap) (a:Act) (w:World) (p q:Int) (sa:Option Addr) (len cap:Nat),(∀ x,RepAV L κ hs w (ev ρs x) (a.eval x))->(∀ y,lo=some y\/hi=some y->ev ρs y=ev ρ y)->a.eval x=.slice sa len cap->0<=p->p<=q->q<=cap ->
   ((lo.map (ev ρ)=none/\p=(0:Nat))\/∃ k,lo.map (ev ρ)=some (.one (.sc (.int k) p)))->((hi.map (ev ρ)=none/\q=len)\/∃ k,hi.map (ev ρ)=some (.one (.sc (.int k) q))) ->
   (execOp a.eval o).run P w=.ok (.value (.slice (if cap=p.toNat then sa else sa.map (·.add (p.toNat*te.size))) (q.toNat-p.toNat) (cap-p.toNat))) w:=by
  intro ρs κ hs a w p q sa len cap hev hag hx h0 hpq hqc hlo hhi
  have h1:=bnd ρs κ hs a w hev lo 0 p (fun y hy=>hag y (.inl hy)) h0 hlo
  have h2:=bnd ρs κ hs a w hev hi len q (fun y hy=>hag y (.inr hy)) (by omega) hhi
  have h3:p.toNat<=q.toNat:=by omega
  have h4:q.toNat<=cap:=by omega
  have hrun:=q2o (P:=P) hti hel hte sa w h1 h2 h3 h4
  unfold execOp
  simp only[ho,hx,Sem.run_bind,Option.map_none,hrun,Result.andThen_ok,Sem.run_pure]
 unfold z0t at he
 split at he
 ·rename_i id hx
  have key:∀ (e':TypeId) (t:Ty) (l:List t.den),(h id=.arr e' t l\/h id=.ice e' t l)->cond (Nat.beq t.size te.size) (J0 (lo.map (ev ρ)) 0 fun a=>J0 (hi.map (ev ρ)) l.length fun b =>
    cond (decide (0<=a)&&decide (a<=b)&&decide (b<=l.length)) (K (E2 (.one (.sub id a.toNat (b.toNat-a.toNat))) [id])) none) none=some z ->
    ∃ f,K f=some z/\f.full=none/\∀ ρs hs,ev ρs x=ev ρ x->(∀ y,lo=some y\/hi=some y->ev ρs y=ev ρ y)->(∀ id∈f.rd,hs id=h id)->A6 P L w0 o ρs hs (f.heap hs) f.av:=by
   intro e' t l hid hb
   cases hg:Nat.beq t.size te.size with
   | false=>rw[hg]at hb;cases hb
   | true =>
    rw[hg,cond_true]at hb
    have hsz:=Nat.eq_of_beq_eq_true hg
    obtain⟨p,hb,hp⟩:=Q2 hb
    obtain⟨q,hb,hq⟩:=Q2 hb
    cases hc:(decide (0<=p)&&decide (p<=q)&&decide (q<=l.length))with
    | false=>rw[hc]at hb;cases hb
    | true =>
     rw[hc]at hb
     simp only[Bool.and_eq_true,decide_eq_true_eq]at hc
     obtain⟨⟨c1,c2⟩,c3⟩:=hc
     refine⟨_,hb,rfl,fun ρs hs h1 h2 hh=>C6 hd fun κ a w hev ok=>?_⟩
     have hxv:=hev x
     rw[h1,hx]at hxv
     have hh':=hh id (by simp[E2])
     have hxv':=hxv.1
     have hv:(κ id=none/\l=[]/\a.eval x=.slice none 0 0)\/∃ b cap,κ id=some (b,cap)/\a.eval x=.slice (some ⟨b,cap.2,none⟩) l.length cap.1:=by
      rcases hid with hid | hid<;>rw[hh',hid]at hxv'<;>exact hxv'
     have hrep:RepArr L κ hs w id e' t l:=by
      have:=ok.obj id
      rcases hid with hid | hid<;>rw[hh',hid]at this
      ·exact this
      ·exact this.1
     have fin:∀ v:Value,v.oneCell'=true->(p.toNat+(q.toNat-p.toNat)<=l.length/\((κ id=none/\v=.slice none 0 0)\/∃ b cap o',κ id=some (b,cap)/\v=.slice (some ⟨b,o',none⟩) (q.toNat-p.toNat) (cap.1-p.toNat)/\(q.toNat-p.toNat≠0->o'=cap.2+p.toNat*t.size))) ->
       RepAV L κ hs w (.one (.sub id p.toNat (q.toNat-p.toNat))) v:=by
      intro v hv1 hv2
      refine⟨?_,hv1⟩
      rcases hid with hid | hid<;>rw[hh',hid]<;>exact hv2
     rcases hv with⟨hk,hl,hv⟩ | ⟨b,cap,hk,hv⟩
     ·subst hl
      have hp0:p.toNat=0:=by simp at c3;omega
      have hq0:q.toNat=0:=by simp at c3;omega
      refine⟨_,ex ρs κ hs a w p q none 0 0 hev h2 hv c1 c2 (by simpa using c3) hp hq,?_⟩
      rw[hp0,hq0]at fin ⊢
      exact fin _ rfl ⟨by simp,.inl ⟨hk,rfl⟩⟩
     ·rcases hrep with⟨hk',_⟩ | ⟨b',cap',cur,hk',_,_,_,hll,_⟩
      ·rw[hk]at hk';cases hk'
      ·rw[hk]at hk';simp at hk';obtain⟨rfl,rfl⟩:=hk'
       refine⟨_,ex ρs κ hs a w p q _ _ cap.1 hev h2 hv c1 c2 (by omega) hp hq,?_⟩
       by_cases hcp:cap.1=p.toNat
       ·rw[if_pos hcp]
        exact fin _ rfl ⟨by omega,.inr ⟨b,cap,cap.2,hk,rfl,fun hne=>by omega⟩⟩
       ·rw[if_neg hcp]
        exact fin _ rfl ⟨by omega,.inr ⟨b,cap,cap.2+p.toNat*te.size,hk,by simp[P0],fun _=>by rw[hsz]⟩⟩
  split at he
  ·rename_i e' t l hid;exact key e' t l (.inl hid) he
  ·rename_i e' t l hid;exact key e' t l (.inr hid) he
  ·cases he
 ·rename_i id off len hx
  have key:∀ (e':TypeId) (t:Ty) (l:List t.den),(h id=.arr e' t l\/h id=.ice e' t l)->cond (Nat.beq t.size te.size) (J0 (lo.map (ev ρ)) 0 fun a=>J0 (hi.map (ev ρ)) len fun b =>
    cond (decide (0<=a)&&decide (a<=b)&&decide (b<=len)) (K (E2 (.one (.sub id (off+a.toNat) (b.toNat-a.toNat))) [id])) none) none=some z ->
    ∃ f,K f=some z/\f.full=none/\∀ ρs hs,ev ρs x=ev ρ x->(∀ y,lo=some y\/hi=some y->ev ρs y=ev ρ y)->(∀ id∈f.rd,hs id=h id)->A6 P L w0 o ρs hs (f.heap hs) f.av:=by
   intro e' t l hid hb
   cases hg:Nat.beq t.size te.size with
   | false=>rw[hg]at hb;cases hb
   | true =>
    rw[hg,cond_true]at hb
    have hsz:=Nat.eq_of_beq_eq_true hg
    obtain⟨p,hb,hp⟩:=Q2 hb
    obtain⟨q,hb,hq⟩:=Q2 hb
    cases hc:(decide (0<=p)&&decide (p<=q)&&decide (q<=len))with
    | false=>rw[hc]at hb;cases hb
    | true =>
     rw[hc]at hb
     simp only[Bool.and_eq_true,decide_eq_true_eq]at hc
     obtain⟨⟨c1,c2⟩,c3⟩:=hc
     refine⟨_,hb,rfl,fun ρs hs h1 h2 hh=>C6 hd fun κ a w hev ok=>?_⟩
     have hxv:=hev x
     rw[h1,hx]at hxv
     have hh':=hh id (by simp[E2])
     have hxv':=hxv.1
     have hv:off+len<=l.length/\((κ id=none/\a.eval x=.slice none 0 0)\/∃ b cap o',κ id=some (b,cap)/\a.eval x=.slice (some ⟨b,o',none⟩) len (cap.1-off)/\(len≠0->o'=cap.2+off*t.size)):=by
      rcases hid with hid | hid<;>rw[hh',hid]at hxv'<;>exact hxv'
     have hrep:RepArr L κ hs w id e' t l:=by
      have:=ok.obj id
      rcases hid with hid | hid<;>rw[hh',hid]at this
      ·exact this
      ·exact this.1
     obtain⟨hle,hv⟩:=hv
     have fin:∀ v:Value,v.oneCell'=true->((κ id=none/\v=.slice none 0 0)\/∃ b cap o',κ id=some (b,cap)/\v=.slice (some ⟨b,o',none⟩) (q.toNat-p.toNat) (cap.1-(off+p.toNat))/\(q.toNat-p.toNat≠0->o'=cap.2+(off+p.toNat)*t.size)) ->
       RepAV L κ hs w (.one (.sub id (off+p.toNat) (q.toNat-p.toNat))) v:=by
      intro v hv1 hv2
      refine⟨?_,hv1⟩
      rcases hid with hid | hid<;>rw[hh',hid]<;>exact⟨by omega,hv2⟩
     rcases hv with⟨hk,hv⟩ | ⟨b,cap,o',hk,hv,ho'⟩
     ·rcases hrep with⟨_,hl⟩ | ⟨b',cap',cur,hk',_⟩
      ·subst hl
       have hl0:len=0:=by simp at hle;omega
       subst hl0
       have hp0:p.toNat=0:=by omega
       have hq0:q.toNat=0:=by omega
       refine⟨_,ex ρs κ hs a w p q none 0 0 hev h2 hv c1 c2 (by omega) hp hq,?_⟩
       rw[hp0,hq0]at fin ⊢
       exact fin _ rfl (.inl ⟨hk,rfl⟩)
      ·rw[hk]at hk';cases hk'
     ·rcases hrep with⟨hk',_⟩ | ⟨b',cap',cur,hk',_,_,_,hll,_⟩
      ·rw[hk]at hk';cases hk'
      ·rw[hk]at hk';simp at hk';obtain⟨rfl,rfl⟩:=hk'
       refine⟨_,ex ρs κ hs a w p q _ _ (cap.1-off) hev h2 hv c1 c2 (by omega) hp hq,?_⟩
       by_cases hcp:cap.1-off=p.toNat
       ·rw[if_pos hcp]
        exact fin _ rfl (.inr ⟨b,cap,o',hk,by rw[Nat.sub_sub],fun hne=>by omega⟩)
       ·rw[if_neg hcp]
        by_cases hl0:len=0
        ·exact fin _ rfl (.inr ⟨b,cap,o'+p.toNat*te.size,hk,by rw[Nat.sub_sub];simp[P0],fun hne=>by omega⟩)
        ·exact fin _ rfl (.inr ⟨b,cap,o'+p.toNat*te.size,hk,by rw[Nat.sub_sub];simp[P0],fun _=>by rw[ho' hl0,<-hsz,Nat.add_mul,Nat.add_assoc]⟩)
  split at he
  ·rename_i e' t l hid;exact key e' t l (.inl hid) he
  ·rename_i e' t l hid;exact key e' t l (.inr hid) he
  ·cases he
 ·rename_i t l hx
  cases hg:Nat.beq t.size te.size with
  | false=>rw[hg]at he;cases he
  | true =>
   rw[hg,cond_true]at he
   have hsz:=Nat.eq_of_beq_eq_true hg
   obtain⟨p,he,hp⟩:=Q2 he
   obtain⟨q,he,hq⟩:=Q2 he
   cases hc:(decide (0<=p)&&decide (p<=q)&&decide (q<=l.length))with
   | false=>rw[hc]at he;cases he
   | true =>
    rw[hc]at he
    simp only[Bool.and_eq_true,decide_eq_true_eq]at hc
    obtain⟨⟨c1,c2⟩,c3⟩:=hc
    refine⟨_,he,rfl,fun ρs hs h1 h2 hh=>C6 hd fun κ a w hev ok=>?_⟩
    have hxv:=hev x
    rw[h1,hx]at hxv
    obtain⟨_,_,sa,len,cap,hg0,hlen,hcap,hel'⟩:=hxv
    simp[E3]at hg0
    have hll:((l.drop p.toNat).take (q.toNat-p.toNat)).length=q.toNat-p.toNat:=by simp;omega
    refine⟨_,ex ρs κ hs a w p q sa len cap hev h2 hg0 c1 c2 (by omega) hp (by rw[hlen];exact hq),rfl,rfl,_,_,_,rfl,hll.symm,by omega,fun hne=>?_⟩
    have hne':l≠[]:=by intro h;apply hne;rw[h];simp
    have hqp:q.toNat-p.toNat≠0:=by intro h;apply hne;rw[h];simp
    obtain⟨b,o',hsa,hfr,hel2⟩:=hel' hne'
    refine⟨b,o'+p.toNat*te.size,?_,hfr,fun i y hy=>?_⟩
    ·rw[hsa,if_neg (by omega)];simp[P0]
    ·have hi:i<q.toNat-p.toNat:=by have:=(List.getElem?_eq_some_iff.1 hy).1;omega
     rw[List.getElem?_take_of_lt hi,List.getElem?_drop]at hy
     refine RepAt.congr t _ _ y (fun c hc=>?_) (hel2 _ y hy)
     simp only[hc,if_true]
     rw[<-hsz,Nat.add_mul]
     congr 2;omega
 ·cases he
end Go.Abs
