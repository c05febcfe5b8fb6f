/- The engine, part 18b: code with ranges over maps. In what order a map hands out its entries is the machine's choice: what stands here holds for every order. -/
import Derived.Test.YtecofmaegcibeaaGreatDoorAbsCode2
import Derived.Maps.RangeRun
namespace Go.Abs
open Go Go.RowKit
open Go.ChangeMaps (setBlock)
variable {P:Program} {L:Nat->Prop} {w0:World}
section
variable {E σ β γ:Type}
def q5s (f:List E->E->σ->Option (σ⊕β)) (g:σ->Option (σ⊕β)) (k:β->Option γ):Nat->List E->σ->γ->Prop
 | _,[],y,c=>∃b,g y=some (.inr b)/\k b=some c
 | 0,_::_,_,_=>False
 | n+1,e::l,y,c=>∀p r,(e::l).Perm (p::r)->(∃b,f r p y=some (.inr b)/\k b=some c)\/∃y',f r p y=some (.inl y')/\q5s f g k n r y' c
def z9k (f:List E->E->σ->Option (σ⊕β)) (g:σ->Option (σ⊕β)) (k:β->Option γ) (l:List E) (y:σ) (c:γ):Prop:=q5s f g k l.length l y c
theorem j6v {f:List E->E->σ->Option (σ⊕β)} {g:σ->Option (σ⊕β)} {k:β->Option γ}:∀(n:Nat) {l:List E} {y:σ} {c c':γ},q5s f g k n l y c->q5s f g k n l y c'->c=c'
 | n,[],y,c,c',h,j=>by
  have h:∃b,g y=some (.inr b)/\k b=some c:=by cases n<;>exact h
  have j:∃b,g y=some (.inr b)/\k b=some c':=by cases n<;>exact j
  grind
 | 0,_::_,_,_,_,h,_=>h.elim
 | n+1,e::l,y,c,c',h,j=>by
  rcases h e l (cq _)with⟨b,d,o⟩ | ⟨s,d,o⟩<;>rcases j e l (cq _)with⟨t,a,m⟩ | ⟨r,a,m⟩
  ·rw[d]at a;cases a;rw[o]at m;cases m;rfl
  ·rw[d]at a;cases a
  ·rw[d]at a;cases a
  ·rw[d]at a;cases a;exact j6v n o m
open Classical in
noncomputable def q5v (f:List E->E->σ->Option (σ⊕β)) (g:σ->Option (σ⊕β)) (k:β->Option γ) (l:List E) (y:σ):Option γ :=
 if h:∃c,z9k f g k l y c then some h.choose else none
theorem v1p {f:List E->E->σ->Option (σ⊕β)} {g:σ->Option (σ⊕β)} {k:β->Option γ} {l:List E} {y:σ} {c:γ} (h:q5v f g k l y=some c):z9k f g k l y c:=by
 unfold q5v at h;split at h
 all_goals grind
theorem v1q {f:List E->E->σ->Option (σ⊕β)} {g:σ->Option (σ⊕β)} {k:β->Option γ} {l:List E} {y:σ} {c:γ} (h:z9k f g k l y c):q5v f g k l y=some c:=by
 unfold q5v;split
 ·rename_i d;exact congrArg some (j6v _ d.choose_spec h)
 grind
end
inductive AnnU where
 | det (a:Ann)
 | seq (a b:AnnU)
 | br (a b:AnnU)
 | blk (a:AnnU)
 | mloop (mt mo sr stat:List Nat) (head:List LI) (exits:q1z) (body:AnnU)
 | join (mt mo sr stat:List Nat) (exits:q1z) (a:AnnU)
def q98 (g:AnnU->(R:Type)->St->(XK->St->Option R)->Option R) (an:AnnU) (R:Type) (st:St) (K:XK->St->Option R):Option R :=
 match an with
 | .join mt mo sr stat exits p=>cond (q7c st mt mo sr stat)
  ((g p (O9 exits) (T6 st mt (mo++sr++stat)) λx st'=>S5 st' mt mo sr stat x exits λo=>o).bind λo=>q43 st mt mo sr K exits o) none
 | p=>g p R st K
def St.obj (st:St) (id:Nat) (o:AObj):St:={ st with h:=upd st.h id o }
def St.tmp (st:St) (d:Nat) (v:AV):St:={ st with ρ:=upd st.ρ d v }
def j3h:List Oper->Option (Nat×Nat×List Oper)
 | o::rest=>match o.op,o.dst,o.guard with
  | .next (.tmp t) false,some d,none=>some (t,d,rest)
  | _,_,_=>none
 | []=>none
def q9n (ak av:Bool) (tk tv:Ty) (p:tk.den×tv.den):AV:=.tup [(false,[.sc .bool true]),(ak,q2y ak tk p.1),(av,q2y av tv p.2)]
noncomputable def Q5 (C:Ctx) (ib:Nat):Code->AnnU->(R:Type)->St->(XK->St->Option R)->Option R
 | .seq a b,an,R,st,K=>q98 (λan R st K=>match an with
  | .seq p q=>Q5 C ib a p R st λx st'=>match x with
   | .nrm=>Q5 C ib b q R st' K
   | x=>K x st'
  | .det d=>J9 C ib (.seq a b) d R st K
  | _=>none) an R st K
 | .cond c a b,an,R,st,K=>q98 (λan R st K=>match an with
  | .br p q=>(match ev st.ρ c with
   | .one (.sc .bool t)=>cond t (Q5 C ib a p R st K) (Q5 C ib b q R st K)
   | _=>none)
  | .det d=>J9 C ib (.cond c a b) d R st K
  | _=>none) an R st K
 | .block id a,an,R,st,K=>q98 (λan R st K=>match an with
  | .blk p=>Q5 C ib a p R st λx st'=>match x with
   | .ex j=>cond (Nat.beq j id) (K .nrm st') (K (.ex j) st')
   | x=>K x st'
  | .det d=>J9 C ib (.block id a) d R st K
  | _=>none) an R st K
 | .loop (.seq (.region i ops false) a),an,R,st,K=>(match an with
  | .mloop mt mo sr stat head exits p=>(match j3h ops.toList with
   | some (t,d,rest)=>(match st.ρ t with
    | .one (.ptr it 0)=>(match st.h it with
     | .iter ak av tk tv l none=>cond (q7c st mt mo sr stat&&E2 mt d&&!E2 mt t&&Nat.blt d st.n&&!E2 mo it&&!E2 sr it&&!E2 stat it&&!st.lo it)
      (N3 st mt mo sr stat head λy0 =>
       q5v (λr e y=>R7 C ib ops none rest (T6 (((C7 st mt mo sr head y).obj it (.iter ak av tk tv r (some e))).tmp d (q9n ak av tk tv e)) mt (mo++stat)) [] none λs _ pj =>
         cond pj.isNone (Q5 C ib a p (D7 head⊕O9 exits) s λx st'=>match x with
          | .nrm=>N3 (st'.obj it (.iter ak av tk tv l none)) mt mo sr stat head λy'=>some (.inl y')
          | x=>S5 (st'.obj it (.iter ak av tk tv l none)) mt mo sr stat x exits .inr) none)
        (λy=>R7 C ib ops none rest (T6 (((C7 st mt mo sr head y).obj it (.iter ak av tk tv [] none)).tmp d (.tup [(false,[.sc .bool false])])) mt (mo++stat)) [] none λs _ pj =>
         cond pj.isNone (Q5 C ib a p (D7 head⊕O9 exits) s λx st'=>match x with
          | .nrm=>N3 (st'.obj it (.iter ak av tk tv l none)) mt mo sr stat head λy'=>some (.inl y')
          | x=>S5 (st'.obj it (.iter ak av tk tv l none)) mt mo sr stat x exits .inr) none) (λo=>q43 st mt mo sr (λx s=>K x (s.obj it .dead)) exits o) l y0) none
     | _=>none)
    | _=>none)
   | none=>none)
  | .det d=>J9 C ib (.loop (.seq (.region i ops false) a)) d R st K
  | _=>none)
 | .scope a,an,R,st,K=>Q5 C ib a an R st K
 | c,an,R,st,K=>(match an with
  | .det d=>J9 C ib c d R st K
  | _=>none)
variable {w:World} {b:Nat}
theorem k02 {o a:Obj} (h:w.heap[b]? = some a):(w.putObj b o).putObj b a=w:=by
 have c:(w.heap.setIfInBounds b o).setIfInBounds b a=w.heap:=by
  grind
 show { w with heap:=(w.heap.setIfInBounds b o).setIfInBounds b a }=w;rw[c]
theorem k03 {o:Obj} (h:w.heap[b]? = some o):w.putObj b o=w:=by
 have a:w.heap.setIfInBounds b o=w.heap:=by
  grind
 show { w with heap:=w.heap.setIfInBounds b o }=w;rw[a]
variable {κ:A6} {av:Bool} {m:Option Nat} {seen:Array Nat}
theorem v5z {h:Heap} (t:HeapOK L w0 κ h w) {j:Nat} {c:Nat×Nat} {r:Bool} {e g:Ty} {l:List (e.den×g.den)} {E:Option (e.den×g.den)} (p:h j=.iter r av e g l E) (q:κ j=some (b,c)) {d:List (e.den×g.den)} {f:Option (e.den×g.den)} {a:Nat} {n:Nat} (D:IterRep w (A4 L κ h w) r av e g d f m a seen n) :
  HeapOK L w0 κ (upd h j (.iter r av e g d f)) (w.putObj b (.mapIter m a seen n))/\Ext L κ h w κ (upd h j (.iter r av e g d f)) (w.putObj b (.mapIter m a seen n)):=by
 have y:=t.obj j;rw[p]at y;obtain⟨s,K,I,G,H,J,B,C,-⟩:=y;rw[q]at B;cases B;have v:b<w.heap.size:=(au.1 C).1;have x:(h j).like (.iter r av e g d f):=by rw[p];exact⟨rfl,rfl,rfl,rfl⟩
 have i:∀s,s≠b->(w.putObj b (.mapIter m a seen n)).heap[s]? = w.heap[s]?:=λs u=>World.putObj_heap_other u;have o:(w.putObj b (.mapIter m a seen n)).heap.size=w.heap.size:=by simp
 have z:=U9 (L:=L) (κ:=κ) (h:=h) q x (.inl (.inr (.inr ⟨_,_,_,_,C⟩))) o i;have A:=t.own j b c (AObj.like_live x).1 q;exact⟨X4 t q x o i (t.below.trans ⟨rfl,rfl,rfl,by simp,λk F=>World.putObj_heap_other (by omega),ax _⟩) ⟨b,c,m,a,seen,n,q,World.putObj_heap_same v,D.mono z.free⟩,z⟩
variable {d:Nat} {st:St}
theorem z8d {B:Bd} {r:Option Nat} {a:Act} (f:Sim P L w0 B r κ st a w) {o:Nat} {c:Nat×Nat} {n:Bool} {g i:Ty} {l:List (g.den×i.den)} {z:Option (g.den×i.den)} (p:st.h o=.iter n av g i l z) (u:κ o=some (b,c)) {e:List (g.den×i.den)} {j:Option (g.den×i.den)} {q:Nat} (y:IterRep w (A4 L κ st.h w) n av g i e j m d seen q) :
  Sim P L w0 B r κ (st.obj o (.iter n av g i e j)) a (w.putObj b (.mapIter m d seen q))/\Ext L κ st.h w κ (st.obj o (.iter n av g i e j)).h (w.putObj b (.mapIter m d seen q)):=by
 obtain⟨A,k⟩:=v5z f.heap p u y;exact⟨⟨f.size,λt=>RepAV.ext k (f.env t),A,f.defs.keep k.size k.defs,λl v=>by
  obtain⟨s,x⟩:=f.rnd l v;exact k.loops l s x⟩,k⟩
theorem IterRep.drop {A:Nat->Prop} {i:Bool} {e d:Ty} {c:List (e.den×d.den)} {f:Option (e.den×d.den)} {a:Nat} {j:Nat} (h:IterRep w A i av e d c f m a seen j):IterRep w A i av e d c none m a seen j where
 map:=by
  rcases h.map with⟨l,n,k⟩ | ⟨b,r,g,l,n,k,t,o,u,q,p,s⟩
  all_goals grind
def UK (P:Program) (L:Nat->Prop) (w0:World) {R:Type} (c:Code) (st:St) (K:XK->St->Option R) (z:R):Prop :=
 ∀(B:Bd) (r:Option Nat) (m:Nat) κ a w (Q:Exit->Act->World->Prop),Sim P L w0 B r κ st a w ->
  (∀x st',K x st'=some z->∀κ' a' w',Sim P L w0 B r κ' st' a' w'->Ext L κ st.h w κ' st'.h w'->Locks st st' a a'->Q x.exit a' w')->c.wpIn (Fr r) m P Q a w
def UOK (P:Program) (L:Nat->Prop) (w0:World) (c:Code) (g:AnnU->(R:Type)->St->(XK->St->Option R)->Option R):Prop :=
 ∀(an:AnnU) (R:Type) (st:St) (K:XK->St->Option R) (z:R),g an R st K=some z->UK P L w0 c st K z
variable {C:Ctx}
theorem G0 (k:CtxOK P L w0 C) (b:P.follows .mixedOrders=true) {ib:Nat} {c:Code} {d:Ann} {R:Type} {K:XK->St->Option R} {z:R} (p:J9 C ib c d R st K=some z):UK P L w0 c st K z:=by
 obtain⟨x,g,n,-,q⟩:=R6 k b ib c d R st K z p
 exactλB r m i a w Q f t=>q B r m i a w Q f λh j o s e l=>t x g n h j o s e l
theorem j2u {c:Code} {g:AnnU->(R:Type)->St->(XK->St->Option R)->Option R} (hg:UOK P L w0 c g):UOK P L w0 c (q98 g):=by
 intro an R st K z he;unfold q98 at he;split at he
 ·rename_i mt mo sr stat exits p;obtain⟨hroom,he⟩:=B1 he;have room:=z87 hroom;obtain⟨o,ho,hres⟩:=ae.1 he;intro B r m κ a w Q sim hQ;refine hg p _ _ _ o ho B r m κ a w Q (z1p sim _ _) λx st' hk κ' a' w' sim' ext' lk=>?_;obtain⟨l,f,hx,hr⟩:=q9v exits _ o hk;obtain⟨y,hy,hlo2,-,-,hend⟩:=q69 (P:=P) (L:=L) (w0:=w0) hx room;obtain⟨κ2,s2,e2,l2⟩:=hend sim sim' ext' (λt ht=>q9h lk ht) (λid hb h1 h2 h3=>q9g lk hb (by simp[h1,h2,h3])) lk.n;exact hQ x (C7 st mt mo sr l y) (by rw[<-hr R st K y];cases hy;exact hres) κ2 a' w' s2 e2 l2
 ·exact hg _ _ _ _ _ he
theorem j97 {S:Type} {st':St} {mt mo sr stat:List Nat} {lf:List LI} {Kf:D7 lf->Option S} {zz:S} {it:Nat} {ak:Bool} {tk tv:Ty} {l:List (tk.den×tv.den)} {le:List (tk.den×tv.den)} {cu:Option (tk.den×tv.den)} (he:N3 (st'.obj it (.iter ak av tk tv l none)) mt mo sr stat lf Kf=some zz) (room:Room st mt mo sr stat) (hst:st.h it=.iter ak av tk tv l none) (hst':st'.h it=.iter ak av tk tv le cu) (hmo:it∉mo) (hsr:it∉sr) (hstat:it∉stat) :
  ∃y,Kf y=some zz/\∀{B:Bd} {r:Option Nat} {κ κ':A6} {a a':Act} {w w':World},Sim P L w0 B r κ st a w->Sim P L w0 B r κ' st' a' w'->Ext L κ st.h w κ' st'.h w' ->
   (∀t,t∉mt->a'.tmps.getD t undef=a.tmps.getD t undef)->(∀id,id≠D1->id∉mo->id∉sr->id∉stat->id≠it->st'.h id=st.h id)->st'.n=st.n ->
   ∃κ2,Sim P L w0 B r κ2 ((C7 st mt mo sr lf y).obj it (.iter ak av tk tv le cu)) a' w'/\Ext L κ st.h w κ2 ((C7 st mt mo sr lf y).obj it (.iter ak av tk tv le cu)).h w' /\
    (∀t,st.lt t=true->(C7 st mt mo sr lf y).ρ t=st.ρ t/\a'.tmps.getD t undef=a.tmps.getD t undef)/\∀id,st.lo id=true->(C7 st mt mo sr lf y).h id=st.h id:=by
 obtain⟨y,hy,-,hs⟩:=j99 (P:=P) (L:=L) (w0:=w0) (st0:=st) he;obtain⟨f1,f2⟩:=z4d (st0:=st) he y;refine⟨y,hy,λ{B r κ κ' a a' w w'} sim sim' ext htm hoo hn=>?_⟩;have ho:=sim.heap.obj it;rw[hst]at ho;obtain⟨b,c,m0,s0,n0,c00,hk0,hw0,hit0⟩:=ho;have ho':=sim'.heap.obj it;rw[hst']at ho';obtain⟨b1,c1,m1,s1,n1,c01,hk1,hw1,hit1⟩:=ho';have hkk:κ' it=some (b,c):=(ext.place it (by rw[hst];simp)).trans hk0;rw[hk1]at hkk;cases hkk;obtain⟨simA,extA⟩:=z8d sim' hst' hk1 (hit0.mono ext.free);obtain⟨κ2,s2,e2,free2⟩:=hs B r κ a w κ' a' _ sim simA (ext.trans extA) htm (λid h1 h2 h3=>by
  by_cases hid:id=it
  ·subst hid;show upd st'.h id _ id=_;rw[A2,hst]
  ·show upd st'.h it _ id=_;rw[A0 _ _ hid];by_cases hb:id=D1
   ·subst hb;have h:=j98 he;rw[room.bad];exact(A0 (i:=it) st'.h (.iter ak av tk tv l none) hid).symm.trans h
   ·exact hoo id hb h1 h2 h3 hid) (λid hid=>(room.mo id hid).1) hn
 have hfr:(C7 st mt mo sr lf y).h it=.iter ak av tk tv l none:=(f2 it hmo hsr hstat).trans hst;have hk2:κ2 it=some (b,c):=(e2.place it (by rw[hst];simp)).trans hk0;obtain⟨simB,extB⟩:=z8d s2 hfr hk2 (hit1.mono λb hb=>⟨free2 b (extA.free b hb).1,(extA.free b hb).2⟩);have hw:(w'.putObj b (.mapIter m0 s0 n0 c00)).putObj b (.mapIter m1 s1 n1 c01)=w':=k02 hw1;rw[hw]at simB extB;refine⟨κ2,simB,e2.trans extB,λt ht=>?_,λid hid=>f2 id (λh=>by have:=(room.mo id h).2;rw[hid]at this;cases this) (λh=>by have:=room.sr id h;rw[hid]at this;cases this) (λh=>by have:=room.stat id h;rw[hid]at this;cases this)⟩;have hnt:t∉mt:=λh=>by have:=room.mt t h;rw[ht]at this;cases this
 exact⟨f1 t hnt,htm t hnt⟩
theorem v7r {l:List Oper} {t:Nat} {rest:List Oper} (h:j3h l=some (t,d,rest)):∃o,l=o::rest/\o.op=.next (.tmp t) false/\o.dst=some d/\o.guard=none:=by
 unfold j3h at h;split at h
 ·rename_i o r;split at h
  ·rename_i t' d' h1 h2 h3;cases h;exact⟨o,rfl,h1,h2,h3⟩
  ·cases h
 ·cases h
theorem y5n {B:Bd} {r:Option Nat} {a:Act} (sim:Sim P L w0 B r κ st a w) {av:AV} {v:Value} (hr:RepAV L κ st.h w av v) (hd:d<st.n):Sim P L w0 B r κ (st.tmp d av) (a.put (some d) v) w :=
 ⟨(y3u _ _ _).trans sim.size,j8r sim.env (Ext.refl _ _ _ _) (d:=some d) hr (λt ht=>by cases ht;rw[sim.size];exact hd),sim.heap,by rw[y3t];exact sim.defs,sim.rnd⟩
theorem v7m (hC:CtxOK P L w0 C) {ib i:Nat} {ops:Array Oper} {a:Code} {p:AnnU} (hb:∀(R:Type) (st:St) (K:XK->St->Option R) (z:R),Q5 C ib a p R st K=some z->UK P L w0 a st K z) {mt mo sr stat:List Nat} {head:List LI} {exits:q1z} {R:Type} {st:St} {K:XK->St->Option R} {z:R} (he:Q5 C ib (.loop (.seq (.region i ops false) a)) (.mloop mt mo sr stat head exits p) R st K=some z) :
  UK P L w0 (.loop (.seq (.region i ops false) a)) st K z:=by
 unfold Q5 at he
 dsimp only at he
 split at he
 case h_2=>cases he
 rename_i t d rest hnx;obtain⟨o0,hops,hop,hdst,hgd⟩:=v7r hnx;split at he
 case h_2=>cases he
 rename_i it hρ;split at he
 case h_2=>cases he
 rename_i ak av tk tv l hst;obtain⟨hc,he⟩:=B1 he;simp only[ac,aU]at hc;obtain⟨⟨⟨⟨⟨⟨⟨hroom,hdm⟩,htm⟩,hdn⟩,hmo⟩,hsr⟩,hstat⟩,hlo⟩:=hc;have room:=z87 hroom;have hdm:=memb_iff.1 hdm;have nm:∀{l:List Nat} {x:Nat},E2 l x=false->x∉l:=λh hm=>by rw[memb_iff.2 hm]at h;cases h
 have htm:=nm htm;have hmo:=nm hmo;have hsr:=nm hsr;have hstat:=nm hstat;have hdn:d<st.n:=ao hdn;have hib:it≠D1:=λe=>by rw[e,room.bad]at hst;cases hst
 obtain⟨y0,hy0,-,-,-,h0⟩:=q69 (P:=P) (L:=L) (w0:=w0) he room;have frame:∀y,(∀t,t∉mt->(C7 st mt mo sr head y).ρ t=st.ρ t)/\∀id,id∉mo->id∉sr->id∉stat->(C7 st mt mo sr head y).h id=st.h id:=z4d (st0:=st) he;have hall:=v1p hy0;intro B r m κ a0 w Q sim hQ;have body:∀(S:St) (zz:D7 head⊕O9 exits) (le:List (tk.den×tv.den)) (cu:Option (tk.den×tv.den)),S.h it=.iter ak av tk tv le cu->S.n=st.n->(∀id,id∉mo->id∉sr->id∉stat->id≠it->S.h id=st.h id) ->
   (R7 C ib ops none rest (T6 S mt (mo++stat)) [] none λs _ pj=>cond pj.isNone (Q5 C ib a p (D7 head⊕O9 exits) s λx st'=>match x with
    | .nrm=>N3 (st'.obj it (.iter ak av tk tv l none)) mt mo sr stat head λy'=>some (.inl y')
    | x=>S5 (st'.obj it (.iter ak av tk tv l none)) mt mo sr stat x exits .inr) none)=some zz ->
   ∀(n:Nat),(∀y',zz=.inl y'->∀κ2 a2 w2,Sim P L w0 B r κ2 ((C7 st mt mo sr head y').obj it (.iter ak av tk tv le cu)) a2 w2->Ext L κ st.h w κ2 ((C7 st mt mo sr head y').obj it (.iter ak av tk tv le cu)).h w2->(∀t,t∉mt->a2.tmps.getD t undef=a0.tmps.getD t undef) ->
    Code.roundsIn (Fr r) m P (.seq (.region i ops false) a) Q n a2 w2)->(∀o',zz=.inr o'->q43 st mt mo sr (λx s=>K x (s.obj it .dead)) exits o'=some z) ->
   ∀κ1 a1 w1,Sim P L w0 B r κ1 S a1 w1->Ext L κ st.h w κ1 S.h w1->(∀t,t∉mt->a1.tmps.getD t undef=a0.tmps.getD t undef) ->
    wpOpsIn (Fr r) m P ops (Exit.then (a.wpIn (Fr r) m P (Exit.then (Code.roundsIn (Fr r) m P (.seq (.region i ops false) a) Q n) Q)) (Exit.then (Code.roundsIn (Fr r) m P (.seq (.region i ops false) a) Q n) Q)) (List.range' 1 rest.length) a1 w1:=by
  intro S zz le cu hS hSn hSo hev n hin hout κ1 a1 w1 s1 e1 t1;obtain⟨qs,sA,pj,hst,hpi,hkA⟩:=z4b hC rest _ [] _ zz hev;obtain⟨hpj,hkA⟩:=B1 hkA;obtain rfl:pj=none:=by simpa using hpj
  refine j4d (r:=r) (m:=m) (κ0:=κ1) (a0:=a1) (v0:=w1) (all:=qs) (λ⟨p,hp,T,hT⟩=>absurd hT (hpi p hp T)) (λp hp T H hT=>absurd hT (hpi p hp T)) rest 1 _ qs sA hst (λp hp=>hp) (λj o' hj=>by
   rw[<-aE,hops,show 1+j=j+1 from by omega,bz];exact hj) κ1 a1 w1 (z1p s1 _ _) (Ext.refl _ _ _ _) (Locks.refl _ _) λκ2 a2 w2 s2 e2 lk2=>?_
  refine hb _ sA _ zz hkA B r m κ2 a2 w2 _ s2 λx st' hK κ3 a3 w3 s3 e3 lk3=>?_;have lk:=lk2.trans lk3;have hit':st'.h it=.iter ak av tk tv le cu:=(q9g lk hib (by simp[hmo,hstat])).trans hS;have g2:∀id,id≠D1->id∉mo->id∉sr->id∉stat->id≠it->st'.h id=st.h id:=λid hb h1 h2 h3 h4=>(q9g lk hb (by simp[h1,h3])).trans (hSo id h1 h2 h3 h4);have g1:∀t,t∉mt->a3.tmps.getD t undef=a0.tmps.getD t undef:=λt ht=>(q9h lk ht).trans (t1 t ht);have hn:st'.n=st.n:=lk.n.trans hSn;have ext3:Ext L κ st.h w κ3 st'.h w3:=e1.trans (e2.trans e3);have fin:x≠.nrm->S5 (st'.obj it (.iter ak av tk tv l none)) mt mo sr stat x exits (Sum.inr (α:=D7 head))=some zz->Exit.then (Code.roundsIn (Fr r) m P (.seq (.region i ops false) a) Q n) Q x.exit a3 w3:=λhx1 hk=>by
   obtain⟨lx,f,hx,hr⟩:=q9v exits _ zz hk;obtain⟨y2,hy2,hback⟩:=j97 (P:=P) (L:=L) (w0:=w0) hx room ‹st.h it=_› hit' hmo hsr hstat;have hoo:=hout (f y2) (by cases hy2;rfl);obtain⟨κ4,s4,e4,f4,f5⟩:=hback sim s3 ext3 g1 g2 hn;have hg:(((C7 st mt mo sr lx y2).obj it (.iter ak av tk tv le cu)).h it).gone .dead:=by
    have hu:((C7 st mt mo sr lx y2).obj it (.iter ak av tk tv le cu)).h it=.iter ak av tk tv le cu:=A2 _ _ _;rw[hu];simp[AObj.gone]
   have e5:=q0d (L:=L) (κ:=κ4) (w:=w3) hg;have huu:upd ((C7 st mt mo sr lx y2).obj it (.iter ak av tk tv le cu)).h it .dead=((C7 st mt mo sr lx y2).obj it .dead).h:=by
    funext j;show upd (upd (C7 st mt mo sr lx y2).h it _) it .dead j=upd (C7 st mt mo sr lx y2).h it .dead j;by_cases hj:j=it
    ·subst hj;rw[A2,A2]
    ·rw[A0 _ _ hj,A0 _ _ hj,A0 _ _ hj]
   have ok5:=q2b s4.heap hg;rw[huu]at e5 ok5;have hq:=hQ x ((C7 st mt mo sr lx y2).obj it .dead) (by rw[<-hr R st (λx s=>K x (s.obj it .dead)) y2];exact hoo) κ4 a3 w3
    ⟨s4.size,λt=>RepAV.ext e5 (s4.env t),ok5,s4.defs.keep e5.size e5.defs,λl hl=>by
     obtain⟨l',h4⟩:=s4.rnd l hl;exact e5.loops l l' h4⟩ (e4.trans e5) ⟨rfl,rfl,rfl,f4,λid hid=>by
     have hne:id≠it:=λe=>by rw[e,hlo]at hid;cases hid
     show upd (C7 st mt mo sr lx y2).h it .dead id=_;rw[A0 _ _ hne];exact f5 id hid⟩
   cases x with
   | nrm=>exact absurd rfl hx1
   | ex j=>exact hq
   | ret=>exact hq
   | pan T=>exact hq
  cases x with
  | nrm =>
   obtain⟨y2,hy2,hback⟩:=j97 (P:=P) (L:=L) (w0:=w0) (Kf:=λy'=>some (Sum.inl (β:=O9 exits) y')) hK room ‹st.h it=_› hit' hmo hsr hstat;obtain⟨κ4,s4,e4,-,-⟩:=hback sim s3 ext3 g1 g2 hn;exact hin y2 (by cases hy2;rfl) κ4 a3 w3 s4 e4 g1
  | ex j=>exact fin (by simp) hK
  | ret=>exact fin (by simp) hK
  | pan T=>exact fin (by simp) hK
 have hrange:List.range ops.size=0::List.range' 1 rest.length:=by
  rw[<-bj,hops,cD,ai,cY]
 have ho0:ops[0]? = some o0:=by rw[<-aE,hops];rfl
 have objobj:∀(s:St) (o1 o2:AObj),(s.obj it o1).obj it o2=s.obj it o2:=λs o1 o2=>by
  unfold St.obj;congr 1;funext j;show upd (upd s.h it o1) it o2 j=upd s.h it o2 j;by_cases hj:j=it
  ·subst hj;rw[A2,A2]
  ·rw[A0 _ _ hj,A0 _ _ hj,A0 _ _ hj]
 have step:∀(n:Nat) (a1:Act) (w1 w2:World) (v:Value),(Instr.next (a1.eval (.tmp t)) false o0.type).run P w1=.ok v w2 ->
   wpOpsIn (Fr r) m P ops (Exit.then (a.wpIn (Fr r) m P (Exit.then (Code.roundsIn (Fr r) m P (.seq (.region i ops false) a) Q n) Q)) (Exit.then (Code.roundsIn (Fr r) m P (.seq (.region i ops false) a) Q n) Q)) (List.range' 1 rest.length) (a1.put (some d) v) w2 ->
   Code.roundsIn (Fr r) m P (.seq (.region i ops false) a) Q (n+1) a1 w1:=by
  intro n a1 w1 w2 v hrun hk;rw[roundsIn_succ];refine wpIn_seq (wpIn_region ?_);rw[hrange,wpOpsIn_cons];unfold wpOpIn;rw[ho0];have hw:Region.wanted o0 (yielded ops a1.tmps)=true:=by unfold Region.wanted;rw[hgd]
  simp only[hw,if_true];refine j67 (λc hc=>by rw[hop]at hc;cases hc) (v:=v) (w':=w2) ?_ ?_
  ·unfold execOp;rw[hop];simp only[Sem.run_bind,hrun,Result.andThen_ok,Sem.run_pure]
  ·rw[hdst];exact hk
 have ptr:∀{κ1:A6} {y:D7 head} {o1:AObj} {a1:Act} {w1:World},Sim P L w0 B r κ1 ((C7 st mt mo sr head y).obj it o1) a1 w1->∃b c,κ1 it=some (b,c)/\a1.eval (.tmp t)=.pointer (some ⟨b,0,none⟩):=by
  intro κ1 y o1 a1 w1 s1;have h1:=s1.env t;have h2:((C7 st mt mo sr head y).obj it o1).ρ t=.one (.ptr it 0):=((frame y).1 t htm).trans hρ;rw[h2]at h1;obtain⟨_,b,c,h3,h4⟩:=h1;exact⟨b,c,h3,h4⟩
 have tput:∀{a1:Act} {v:Value},(∀t,t∉mt->a1.tmps.getD t undef=a0.tmps.getD t undef)->∀t,t∉mt->(a1.put (some d) v).tmps.getD t undef=a0.tmps.getD t undef:=by
  intro a1 v h t ht;have hne:d≠t:=λe=>ht (e▸hdm);rw[<-h t ht];simp[Act.put,aA,bE hne]
 have rest_obj:∀(y:D7 head) (o1:AObj) (d':Nat) (v1:AV),∀id,id∉mo->id∉sr->id∉stat->id≠it->(((C7 st mt mo sr head y).obj it o1).tmp d' v1).h id=st.h id:=λy o1 d' v1 id h1 h2 h3 h4=>by
  show upd (C7 st mt mo sr head y).h it o1 id=_;rw[A0 _ _ h4];exact(frame y).2 id h1 h2 h3
 have main:∀(n:Nat) (left:List (tk.den×tv.den)) (cur:Option (tk.den×tv.den)) (y:D7 head),left.length=n->q5s (λr e y=>R7 C ib ops none rest (T6 (((C7 st mt mo sr head y).obj it (.iter ak av tk tv r (some e))).tmp d (q9n ak av tk tv e)) mt (mo++stat)) [] none λs _ pj =>
     cond pj.isNone (Q5 C ib a p (D7 head⊕O9 exits) s λx st'=>match x with
      | .nrm=>N3 (st'.obj it (.iter ak av tk tv l none)) mt mo sr stat head λy'=>some (.inl y')
      | x=>S5 (st'.obj it (.iter ak av tk tv l none)) mt mo sr stat x exits .inr) none)
    (λy=>R7 C ib ops none rest (T6 (((C7 st mt mo sr head y).obj it (.iter ak av tk tv [] none)).tmp d (.tup [(false,[.sc .bool false])])) mt (mo++stat)) [] none λs _ pj =>
     cond pj.isNone (Q5 C ib a p (D7 head⊕O9 exits) s λx st'=>match x with
      | .nrm=>N3 (st'.obj it (.iter ak av tk tv l none)) mt mo sr stat head λy'=>some (.inl y')
      | x=>S5 (st'.obj it (.iter ak av tk tv l none)) mt mo sr stat x exits .inr) none) (λo=>q43 st mt mo sr (λx s=>K x (s.obj it .dead)) exits o) n left y z ->
   ∀κ1 a1 w1,Sim P L w0 B r κ1 ((C7 st mt mo sr head y).obj it (.iter ak av tk tv left cur)) a1 w1->Ext L κ st.h w κ1 ((C7 st mt mo sr head y).obj it (.iter ak av tk tv left cur)).h w1->(∀t,t∉mt->a1.tmps.getD t undef=a0.tmps.getD t undef) ->
    Code.roundsIn (Fr r) m P (.seq (.region i ops false) a) Q (n+1) a1 w1:=by
  intro n
  induction n with
  | zero =>
   intro left cur y hlen hA κ1 a1 w1 s1 e1 t1;have hl0:left=[]:=aO hlen;subst hl0;obtain⟨b,c,hk1,hp1⟩:=ptr s1;have hito:((C7 st mt mo sr head y).obj it (.iter ak av tk tv [] cur)).h it=.iter ak av tk tv [] cur:=A2 _ _ _;rcases j3i (P:=P) s1.heap o0.type hito hk1 with⟨-,hrun⟩ | ⟨q,rest',_,_,_,_,_,_,_,hperm,_⟩
   rotate_left
   ·exact absurd hperm.length_eq (by simp)
   rw[<-hp1]at hrun;refine step 0 a1 w1 w1 _ hrun ?_;have hob:=s1.heap.obj it;rw[hito]at hob;obtain⟨b',c',m1,si1,se1,c1,g1,g2,g3⟩:=hob;rw[hk1]at g1;cases g1;obtain⟨s2,e2⟩:=z8d s1 hito hk1 g3.drop;rw[k03 g2,objobj]at s2 e2;have s3:=y5n s2 (d:=d) (av:=.tup [(false,[.sc .bool false])]) (v:=.tuple #[.bool false]) ⟨[.bool false],rfl,rfl,λj cc uu hj hu=>by
    match j,hj,hu with
    | 0,hj,hu=>cases hj;cases hu;exact⟨rfl,rfl,rfl⟩
    | n+1,hj,_=>simp at hj⟩ hdn
   obtain⟨o,hA,hko⟩:=hA;exact body (((C7 st mt mo sr head y).obj it (.iter ak av tk tv [] none)).tmp d (.tup [(false,[.sc .bool false])])) (.inr o) [] none (A2 _ _ _) rfl (rest_obj y _ _ _) hA 0 (λy' h=>by cases h) (λo' h=>by cases h;exact hko) κ1 _ w1 s3 (e1.trans e2) (tput t1)
  | succ n ih =>
   intro left cur y hlen hA κ1 a1 w1 s1 e1 t1;obtain⟨b,c,hk1,hp1⟩:=ptr s1;have hito:((C7 st mt mo sr head y).obj it (.iter ak av tk tv left cur)).h it=.iter ak av tk tv left cur:=A2 _ _ _;rcases j3i (P:=P) s1.heap o0.type hito hk1 with⟨hnil,-⟩ | ⟨q,rest',w2,m1,si1,se1,c1,key,val,hperm,hw2,hrun,hir,hkey,hval⟩
   ·rw[hnil]at hlen;cases hlen
   rw[<-hp1]at hrun;refine step (n+1) a1 w1 _ _ hrun ?_;have s2:Sim P L w0 B r κ1 ((C7 st mt mo sr head y).obj it (.iter ak av tk tv left cur)) a1 w2/\Ext L κ1 ((C7 st mt mo sr head y).obj it (.iter ak av tk tv left cur)).h w1 κ1 ((C7 st mt mo sr head y).obj it (.iter ak av tk tv left cur)).h w2:=by
    rcases hw2 with rfl | rfl
    ·exact⟨s1,Ext.refl _ _ _ _⟩
    ·exact⟨⟨s1.size,λt=>(s1.env t).ext (T2 κ1 _ w1),q3j s1.heap,s1.defs,s1.rnd⟩,T2 κ1 _ w1⟩
   obtain⟨s2,e2⟩:=s2;obtain⟨s3,e3⟩:=z8d s2 hito hk1 (hir.mono e2.free);rw[objobj]at s3 e3;have e23:=e2.trans e3;have s4:=y5n s3 (d:=d) (av:=q9n ak av tk tv q) (v:=.tuple #[.bool true,key,val]) ⟨[.bool true,key,val],rfl,rfl,λj cc uu hj hu=>by
    match j,hj,hu with
    | 0,hj,hu=>cases hj;cases hu;exact⟨rfl,rfl,rfl⟩
    | 1,hj,hu=>cases hj;cases hu;exact j63 (hkey.mono e23.free)
    | 2,hj,hu=>cases hj;cases hu;exact j63 (hval.mono e23.free)
    | n+3,hj,_=>simp at hj⟩ hdn
   have hlen':rest'.length=n:=by
    have:=hperm.length_eq;simp only[ai]at this;omega
   obtain⟨e0,l0,rfl⟩:∃e0 l0,left=e0::l0:=by
    cases left with
    | nil=>cases hlen
    | cons e0 l0=>exact⟨e0,l0,rfl⟩
   rcases hA q rest' hperm with⟨o,h1,hko⟩ | ⟨y',h1,h2⟩
   ·exact body (((C7 st mt mo sr head y).obj it (.iter ak av tk tv rest' (some q))).tmp d (q9n ak av tk tv q)) (.inr o) rest' (some q) (A2 _ _ _) rfl (rest_obj y _ _ _) h1 (n+1) (λy' h=>by cases h) (λo' h=>by cases h;exact hko) κ1 _ _ s4 (e1.trans e23) (tput t1)
   ·exact body (((C7 st mt mo sr head y).obj it (.iter ak av tk tv rest' (some q))).tmp d (q9n ak av tk tv q)) (.inl y') rest' (some q) (A2 _ _ _) rfl (rest_obj y _ _ _) h1 (n+1) (λy'' h κ2 a2 w2 s5 e5 t5=>by cases h;exact ih rest' (some q) y' hlen' h2 κ2 a2 w2 s5 e5 t5) (λo' h=>by cases h) κ1 _ _ s4 (e1.trans e23) (tput t1)
 obtain⟨κ0,s0,e0,-⟩:=h0 sim sim (Ext.refl _ _ _ _) (λ_ _=>rfl) (λ_ _ _ _ _=>rfl) rfl;refine wpIn_loop_rounds (l.length+1) ?_;have hsame:(C7 st mt mo sr head y0).obj it (.iter ak av tk tv l none)=C7 st mt mo sr head y0:=by
  unfold St.obj;rw[y8i _ _ _ (((frame y0).2 it hmo hsr hstat).trans ‹st.h it=_›)]
 exact main l.length l none y0 rfl hall κ0 a0 w (by rw[hsame];exact s0) (by rw[hsame];exact e0) λ_ _=>rfl
theorem q3a {C:Ctx} (hC:CtxOK P L w0 C) (hmix:P.follows .mixedOrders=true) (ib:Nat):(c:Code)->UOK P L w0 c (Q5 C ib c)
 | .seq x y=>j2u λan R st K z he=>by
  split at he
  ·rename_i p q;intro B r m κ a w Q sim hQ;refine wpIn_seq (q3a hC hmix ib x p R st _ z he B r m κ a w _ sim λx1 st1 hk κ' a' w' s e l=>?_);cases x1 with
   | nrm=>exact q3a hC hmix ib y q R st1 K z hk B r m κ' a' w' Q s λx2 st2 hk2 κ2 a2 w2 s2 e2 l2=>hQ x2 st2 hk2 κ2 a2 w2 s2 (e.trans e2) (l.trans l2)
   | ex j=>exact hQ _ st1 hk κ' a' w' s e l
   | ret=>exact hQ _ st1 hk κ' a' w' s e l
   | pan T=>exact hQ _ st1 hk κ' a' w' s e l
  ·exact G0 hC hmix he
  ·cases he
 | .cond c x y=>j2u λan R st K z he=>by
  split at he
  ·rename_i p q;split at he
   ·rename_i t ht;intro B r m κ a w Q sim hQ;have hv:a.eval c=.bool t:=by
     have hv:=R5 sim.env c;rw[ht]at hv;exact q1p hv
    cases t with
    | true =>
     rw[cond_true]at he;exact wpIn_cond_true hv (q3a hC hmix ib x p R st K z he B r m κ a w Q sim hQ)
    | false =>
     rw[cond_false]at he;exact wpIn_cond_false hv (q3a hC hmix ib y q R st K z he B r m κ a w Q sim hQ)
   ·cases he
  ·exact G0 hC hmix he
  ·cases he
 | .block id x=>j2u λan R st K z he=>by
  split at he
  ·rename_i p;intro B r m κ a w Q sim hQ;refine wpIn_block (q3a hC hmix ib x p R st _ z he B r m κ a w _ sim λx1 st1 hk κ' a' w' s e l=>?_);cases x1 with
   | nrm=>exact hQ .nrm st1 hk κ' a' w' s e l
   | ret=>exact hQ .ret st1 hk κ' a' w' s e l
   | pan T=>exact hQ (.pan T) st1 hk κ' a' w' s e l
   | ex j =>
    have hk:cond (Nat.beq j id) (K .nrm st1) (K (.ex j) st1)=some z:=hk;by_cases hj:j=id
    ·subst hj;rw[cT,cond_true]at hk;show(if j=j then Q .normal a' w' else Q (.exit j) a' w')
     rw[if_pos rfl];exact hQ .nrm st1 hk κ' a' w' s e l
    ·have hb:Nat.beq j id=false:=by
      cases hq:Nat.beq j id with
      | true=>exact absurd (ab hq) hj
      | false=>rfl
     rw[hb,cond_false]at hk;show(if j=id then Q .normal a' w' else Q (.exit j) a' w')
     rw[if_neg hj];exact hQ (.ex j) st1 hk κ' a' w' s e l
  ·exact G0 hC hmix he
  ·cases he
 | .loop (.seq (.region i ops false) x)=>λan R st K z he=>by
  cases an with
  | mloop mt mo sr stat head exits p=>exact v7m hC (λR st K z h=>q3a hC hmix ib x p R st K z h) he
  | det d=>exact G0 (ib:=ib) (d:=d) hC hmix he
  | _=>exact nomatch he
 | .scope x=>λan R st K z he=>by
  intro B r m κ a w Q sim hQ;refine y8s (q3a hC hmix ib x an R st K z he B r m κ a w _ sim λx1 st1 hk κ' a' w' s e l=>?_);have hq:=hQ x1 st1 hk κ' a' w' s e l;cases x1<;>exact hq
 | .skip=>λan R st K z he=>by
  cases an with
  | det d=>exact G0 (ib:=ib) (d:=d) hC hmix he
  | _=>exact nomatch he
 | .label _=>λan R st K z he=>by
  cases an with
  | det d=>exact G0 (ib:=ib) (d:=d) hC hmix he
  | _=>exact nomatch he
 | .exit _=>λan R st K z he=>by
  cases an with
  | det d=>exact G0 (ib:=ib) (d:=d) hC hmix he
  | _=>exact nomatch he
 | .ret=>λan R st K z he=>by
  cases an with
  | det d=>exact G0 (ib:=ib) (d:=d) hC hmix he
  | _=>exact nomatch he
 | .region ..=>λan R st K z he=>by
  cases an with
  | det d=>exact G0 (ib:=ib) (d:=d) hC hmix he
  | _=>exact nomatch he
 | .rangeFunc ..=>λan R st K z he=>by
  cases an with
  | det d=>exact G0 (ib:=ib) (d:=d) hC hmix he
  | _=>exact nomatch he
 | .goto _=>λan R st K z he=>by
  cases an with
  | det d=>exact G0 (ib:=ib) (d:=d) hC hmix he
  | _=>exact nomatch he
 | .refuse _=>λan R st K z he=>by
  cases an with
  | det d=>exact G0 (ib:=ib) (d:=d) hC hmix he
  | _=>exact nomatch he
 | .loop (.skip)=>λan R st K z he=>by
  cases an with
  | det d=>exact G0 (ib:=ib) (d:=d) hC hmix he
  | _=>exact nomatch he
 | .loop (.label _)=>λan R st K z he=>by
  cases an with
  | det d=>exact G0 (ib:=ib) (d:=d) hC hmix he
  | _=>exact nomatch he
 | .loop (.exit _)=>λan R st K z he=>by
  cases an with
  | det d=>exact G0 (ib:=ib) (d:=d) hC hmix he
  | _=>exact nomatch he
 | .loop (.ret)=>λan R st K z he=>by
  cases an with
  | det d=>exact G0 (ib:=ib) (d:=d) hC hmix he
  | _=>exact nomatch he
 | .loop (.region ..)=>λan R st K z he=>by
  cases an with
  | det d=>exact G0 (ib:=ib) (d:=d) hC hmix he
  | _=>exact nomatch he
 | .loop (.cond ..)=>λan R st K z he=>by
  cases an with
  | det d=>exact G0 (ib:=ib) (d:=d) hC hmix he
  | _=>exact nomatch he
 | .loop (.block ..)=>λan R st K z he=>by
  cases an with
  | det d=>exact G0 (ib:=ib) (d:=d) hC hmix he
  | _=>exact nomatch he
 | .loop (.loop _)=>λan R st K z he=>by
  cases an with
  | det d=>exact G0 (ib:=ib) (d:=d) hC hmix he
  | _=>exact nomatch he
 | .loop (.rangeFunc ..)=>λan R st K z he=>by
  cases an with
  | det d=>exact G0 (ib:=ib) (d:=d) hC hmix he
  | _=>exact nomatch he
 | .loop (.scope _)=>λan R st K z he=>by
  cases an with
  | det d=>exact G0 (ib:=ib) (d:=d) hC hmix he
  | _=>exact nomatch he
 | .loop (.goto _)=>λan R st K z he=>by
  cases an with
  | det d=>exact G0 (ib:=ib) (d:=d) hC hmix he
  | _=>exact nomatch he
 | .loop (.refuse _)=>λan R st K z he=>by
  cases an with
  | det d=>exact G0 (ib:=ib) (d:=d) hC hmix he
  | _=>exact nomatch he
 | .loop (.seq (.skip) _)=>λan R st K z he=>by
  cases an with
  | det d=>exact G0 (ib:=ib) (d:=d) hC hmix he
  | _=>exact nomatch he
 | .loop (.seq (.label _) _)=>λan R st K z he=>by
  cases an with
  | det d=>exact G0 (ib:=ib) (d:=d) hC hmix he
  | _=>exact nomatch he
 | .loop (.seq (.exit _) _)=>λan R st K z he=>by
  cases an with
  | det d=>exact G0 (ib:=ib) (d:=d) hC hmix he
  | _=>exact nomatch he
 | .loop (.seq (.ret) _)=>λan R st K z he=>by
  cases an with
  | det d=>exact G0 (ib:=ib) (d:=d) hC hmix he
  | _=>exact nomatch he
 | .loop (.seq (.cond ..) _)=>λan R st K z he=>by
  cases an with
  | det d=>exact G0 (ib:=ib) (d:=d) hC hmix he
  | _=>exact nomatch he
 | .loop (.seq (.block ..) _)=>λan R st K z he=>by
  cases an with
  | det d=>exact G0 (ib:=ib) (d:=d) hC hmix he
  | _=>exact nomatch he
 | .loop (.seq (.loop _) _)=>λan R st K z he=>by
  cases an with
  | det d=>exact G0 (ib:=ib) (d:=d) hC hmix he
  | _=>exact nomatch he
 | .loop (.seq (.rangeFunc ..) _)=>λan R st K z he=>by
  cases an with
  | det d=>exact G0 (ib:=ib) (d:=d) hC hmix he
  | _=>exact nomatch he
 | .loop (.seq (.scope _) _)=>λan R st K z he=>by
  cases an with
  | det d=>exact G0 (ib:=ib) (d:=d) hC hmix he
  | _=>exact nomatch he
 | .loop (.seq (.goto _) _)=>λan R st K z he=>by
  cases an with
  | det d=>exact G0 (ib:=ib) (d:=d) hC hmix he
  | _=>exact nomatch he
 | .loop (.seq (.refuse _) _)=>λan R st K z he=>by
  cases an with
  | det d=>exact G0 (ib:=ib) (d:=d) hC hmix he
  | _=>exact nomatch he
 | .loop (.seq (.seq ..) _)=>λan R st K z he=>by
  cases an with
  | det d=>exact G0 (ib:=ib) (d:=d) hC hmix he
  | _=>exact nomatch he
 | .loop (.seq (.region _ _ true) _)=>λan R st K z he=>by
  cases an with
  | det d=>exact G0 (ib:=ib) (d:=d) hC hmix he
  | _=>exact nomatch he
end Go.Abs
