/- The engine, part 18b: code with ranges over maps. In what order a map hands out its entries is the machine's choice: what stands here holds for every order. -/
import Derived.Test.YtppblbacbmebfaaGreatDoorAbsCode2
import Derived.Maps.RangeRun
namespace Go.Abs
open Go Go.RowKit
open Go.ChangeMaps (setBlock)
variable {P:Program} {L:Nat->Prop} {w0:World}
section
variable {E σ β γ:Type}
def q4a (f:List E->E->σ->Option (σ⊕β)) (g:σ->Option (σ⊕β)) (k:β->Option γ):Nat->List E->σ->γ->Prop
 | _,[],y,c=>∃ b,g y=some (.inr b)/\k b=some c
 | 0,_::_,_,_=>False
 | n+1,e::l,y,c=>∀ p r,(e::l).Perm (p::r)->(∃ b,f r p y=some (.inr b)/\k b=some c)\/∃ y',f r p y=some (.inl y')/\q4a f g k n r y' c
def z57 (f:List E->E->σ->Option (σ⊕β)) (g:σ->Option (σ⊕β)) (k:β->Option γ) (l:List E) (y:σ) (c:γ):Prop:=q4a f g k l.length l y c
theorem j2m {f:List E->E->σ->Option (σ⊕β)} {g:σ->Option (σ⊕β)} {k:β->Option γ}:∀ (n:Nat) {l:List E} {y:σ} {c c':γ},q4a f g k n l y c->q4a f g k n l y c'->c=c'
 | n,[],y,c,c',h,j=>by
  have h:∃ b,g y=some (.inr b)/\k b=some c:=by cases n<;>exact h
  have j:∃ b,g y=some (.inr b)/\k b=some c':=by cases n<;>exact j
  grind
 | 0,_::_,_,_,_,h,_=>h.elim
 | n+1,e::l,y,c,c',h,j=>by
  rcases h e l (List.Perm.refl _)with⟨b,d,o⟩ | ⟨s,d,o⟩<;>rcases j e l (List.Perm.refl _)with⟨t,a,m⟩ | ⟨r,a,m⟩
  ·rw[d]at a;cases a
   rw[o]at m;cases m;rfl
  ·rw[d]at a;cases a
  ·rw[d]at a;cases a
  ·rw[d]at a;cases a
   exact j2m n o m
open Classical in
noncomputable def q4e (f:List E->E->σ->Option (σ⊕β)) (g:σ->Option (σ⊕β)) (k:β->Option γ) (l:List E) (y:σ):Option γ :=
 if h:∃ c,z57 f g k l y c then some h.choose else none
theorem y30 {f:List E->E->σ->Option (σ⊕β)} {g:σ->Option (σ⊕β)} {k:β->Option γ} {l:List E} {y:σ} {c:γ} (h:q4e f g k l y=some c):z57 f g k l y c:=by
 unfold q4e at h
 split at h
 all_goals grind
theorem y32 {f:List E->E->σ->Option (σ⊕β)} {g:σ->Option (σ⊕β)} {k:β->Option γ} {l:List E} {y:σ} {c:γ} (h:z57 f g k l y c):q4e f g k l y=some c:=by
 unfold q4e
 split
 ·rename_i d
  exact congrArg some (j2m _ d.choose_spec h)
 grind
end
inductive AnnU where
 | det (a:Ann)
 | seq (a b:AnnU)
 | br (a b:AnnU)
 | blk (a:AnnU)
 | mloop (mt mo sr stat:List Nat) (head:List LI) (exits:q15) (body:AnnU)
 | join (mt mo sr stat:List Nat) (exits:q15) (a:AnnU)
def q7l (g:AnnU->(R:Type)->St->(XK->St->Option R)->Option R) (an:AnnU) (R:Type) (st:St) (K:XK->St->Option R):Option R :=
 match an with
 | .join mt mo sr stat exits p=>cond (q5x st mt mo sr stat)
  ((g p (N4 exits) (S1 st mt (mo++sr++stat)) fun x st'=>Q9 st' mt mo sr stat x exits fun o=>o).bind fun o=>q35 st mt mo sr K exits o) none
 | p=>g p R st K
def St.obj (st:St) (id:Nat) (o:AObj):St:={ st with h:=upd st.h id o }
def St.tmp (st:St) (d:Nat) (v:AV):St:={ st with ρ:=upd st.ρ d v }
def j06:List Oper->Option (Nat×Nat×List Oper)
 | o::rest=>match o.op,o.dst,o.guard with
  | .next (.tmp t) false,some d,none=>some (t,d,rest)
  | _,_,_=>none
 | []=>none
def q86 (ak av:Bool) (tk tv:Ty) (p:tk.den×tv.den):AV:=.tup [(false,[.sc .bool true]),(ak,q28 ak tk p.1),(av,q28 av tv p.2)]
noncomputable def P2 (C:Ctx) (ib:Nat):Code->AnnU->(R:Type)->St->(XK->St->Option R)->Option R
 | .seq a b,an,R,st,K=>q7l (fun an R st K=>match an with
  | .seq p q=>P2 C ib a p R st fun x st'=>match x with
   | .nrm=>P2 C ib b q R st' K
   | x=>K x st'
  | .det d=>J1 C ib (.seq a b) d R st K
  | _=>none) an R st K
 | .cond c a b,an,R,st,K=>q7l (fun an R st K=>match an with
  | .br p q=>(match ev st.ρ c with
   | .one (.sc .bool t)=>cond t (P2 C ib a p R st K) (P2 C ib b q R st K)
   | _=>none)
  | .det d=>J1 C ib (.cond c a b) d R st K
  | _=>none) an R st K
 | .block id a,an,R,st,K=>q7l (fun an R st K=>match an with
  | .blk p=>P2 C ib a p R st fun x st'=>match x with
   | .ex j=>cond (Nat.beq j id) (K .nrm st') (K (.ex j) st')
   | x=>K x st'
  | .det d=>J1 C ib (.block id a) d R st K
  | _=>none) an R st K
 | .loop (.seq (.region i ops false) a),an,R,st,K=>(match an with
  | .mloop mt mo sr stat head exits p=>(match j06 ops.toList with
   | some (t,d,rest)=>(match st.ρ t with
    | .one (.ptr it 0)=>(match st.h it with
     | .iter ak av tk tv l none=>cond (q5x st mt mo sr stat&&E4 mt d&&!E4 mt t&&Nat.blt d st.n&&!E4 mo it&&!E4 sr it&&!E4 stat it&&!st.lo it)
      (M3 st mt mo sr stat head fun y0 =>
       q4e (fun r e y=>Q1 C ib ops none rest (S1 (((C1 st mt mo sr head y).obj it (.iter ak av tk tv r (some e))).tmp d (q86 ak av tk tv e)) mt (mo++stat)) [] none fun s _ pj =>
         cond pj.isNone (P2 C ib a p (D5 head⊕N4 exits) s fun x st'=>match x with
          | .nrm=>M3 (st'.obj it (.iter ak av tk tv l none)) mt mo sr stat head fun y'=>some (.inl y')
          | x=>Q9 (st'.obj it (.iter ak av tk tv l none)) mt mo sr stat x exits .inr) none)
        (fun y=>Q1 C ib ops none rest (S1 (((C1 st mt mo sr head y).obj it (.iter ak av tk tv [] none)).tmp d (.tup [(false,[.sc .bool false])])) mt (mo++stat)) [] none fun s _ pj =>
         cond pj.isNone (P2 C ib a p (D5 head⊕N4 exits) s fun x st'=>match x with
          | .nrm=>M3 (st'.obj it (.iter ak av tk tv l none)) mt mo sr stat head fun y'=>some (.inl y')
          | x=>Q9 (st'.obj it (.iter ak av tk tv l none)) mt mo sr stat x exits .inr) none) (fun o=>q35 st mt mo sr (fun x s=>K x (s.obj it .dead)) exits o) l y0) none
     | _=>none)
    | _=>none)
   | none=>none)
  | .det d=>J1 C ib (.loop (.seq (.region i ops false) a)) d R st K
  | _=>none)
 | .scope a,an,R,st,K=>P2 C ib a an R st K
 | c,an,R,st,K=>(match an with
  | .det d=>J1 C ib c d R st K
  | _=>none)
theorem v1q {w:World} {b:Nat} {o a:Obj} (h:w.heap[b]? = some a):(w.putObj b o).putObj b a=w:=by
 have c:(w.heap.setIfInBounds b o).setIfInBounds b a=w.heap:=by
  grind
 show { w with heap:=(w.heap.setIfInBounds b o).setIfInBounds b a }=w
 rw[c]
theorem v1r {w:World} {b:Nat} {o:Obj} (h:w.heap[b]? = some o):w.putObj b o=w:=by
 have a:w.heap.setIfInBounds b o=w.heap:=by
  grind
 show { w with heap:=w.heap.setIfInBounds b o }=w
 rw[a]
theorem y7g {κ:A2} {h:Heap} {w:World} (t:HeapOK L w0 κ h w) {j b:Nat} {c:Nat×Nat} {r av:Bool} {e g:Ty} {l:List (e.den×g.den)} {E:Option (e.den×g.den)} (p:h j=.iter r av e g l E) (q:κ j=some (b,c))
  {d:List (e.den×g.den)} {f:Option (e.den×g.den)} {m:Option Nat} {a:Nat} {seen:Array Nat} {n:Nat} (D:IterRep w (A3 L κ h w) r av e g d f m a seen n) :
  HeapOK L w0 κ (upd h j (.iter r av e g d f)) (w.putObj b (.mapIter m a seen n))/\Ext L κ h w κ (upd h j (.iter r av e g d f)) (w.putObj b (.mapIter m a seen n)):=by
 have y:=t.obj j
 rw[p]at y
 obtain⟨s,K,I,G,H,J,B,C,-⟩:=y
 rw[q]at B;cases B
 have v:b<w.heap.size:=(Array.getElem?_eq_some_iff.1 C).1
 have x:(h j).like (.iter r av e g d f):=by rw[p];exact⟨rfl,rfl,rfl,rfl⟩
 have i:∀ s,s≠b->(w.putObj b (.mapIter m a seen n)).heap[s]? = w.heap[s]?:=fun s u=>World.putObj_heap_other u
 have o:(w.putObj b (.mapIter m a seen n)).heap.size=w.heap.size:=by simp
 have z:=P3 (L:=L) (κ:=κ) (h:=h) q x (.inl (.inr (.inr ⟨_,_,_,_,C⟩))) o i
 have A:=t.own j b c (AObj.like_live x).1 q
 exact⟨Q4 t q x o i (t.below.trans ⟨rfl,rfl,rfl,by simp,fun k F=>World.putObj_heap_other (by omega),Nat.le_refl _⟩) ⟨b,c,m,a,seen,n,q,World.putObj_heap_same v,D.mono z.free⟩,z⟩
theorem z4r {B:Bd} {r:Option Nat} {κ:A2} {st:St} {a:Act} {w:World} (f:Sim P L w0 B r κ st a w) {o b:Nat} {c:Nat×Nat} {n av:Bool} {g i:Ty} {l:List (g.den×i.den)} {z:Option (g.den×i.den)} (p:st.h o=.iter n av g i l z) (u:κ o=some (b,c))
  {e:List (g.den×i.den)} {j:Option (g.den×i.den)} {m:Option Nat} {d:Nat} {seen:Array Nat} {q:Nat} (y:IterRep w (A3 L κ st.h w) n av g i e j m d seen q) :
  Sim P L w0 B r κ (st.obj o (.iter n av g i e j)) a (w.putObj b (.mapIter m d seen q))/\Ext L κ st.h w κ (st.obj o (.iter n av g i e j)).h (w.putObj b (.mapIter m d seen q)):=by
 obtain⟨A,k⟩:=y7g f.heap p u y
 exact⟨⟨f.size,fun t=>RepAV.ext k (f.env t),A,f.defs.keep k.size k.defs,fun l v=>by
  obtain⟨s,x⟩:=f.rnd l v
  exact k.loops l s x⟩,k⟩
theorem IterRep.drop {w:World} {A:Nat->Prop} {i av:Bool} {e d:Ty} {c:List (e.den×d.den)} {f:Option (e.den×d.den)} {m:Option Nat} {a:Nat} {seen:Array Nat} {j:Nat}
  (h:IterRep w A i av e d c f m a seen j):IterRep w A i av e d c none m a seen j where
 map:=by
  rcases h.map with⟨l,n,k⟩ | ⟨b,r,g,l,n,k,t,o,u,q,p,s⟩
  all_goals grind
def UK (P:Program) (L:Nat->Prop) (w0:World) {R:Type} (c:Code) (st:St) (K:XK->St->Option R) (z:R):Prop :=
 ∀ (B:Bd) (r:Option Nat) (m:Nat) κ a w (Q:Exit->Act->World->Prop),Sim P L w0 B r κ st a w ->
  (∀ x st',K x st'=some z->∀ κ' a' w',Sim P L w0 B r κ' st' a' w'->Ext L κ st.h w κ' st'.h w'->Locks st st' a a'->Q x.exit a' w')->c.wpIn (Fr r) m P Q a w
def UOK (P:Program) (L:Nat->Prop) (w0:World) (c:Code) (g:AnnU->(R:Type)->St->(XK->St->Option R)->Option R):Prop :=
 ∀ (an:AnnU) (R:Type) (st:St) (K:XK->St->Option R) (z:R),g an R st K=some z->UK P L w0 c st K z
theorem G6 {C:Ctx} (k:CtxOK P L w0 C) (b:P.follows .mixedOrders=true) {ib:Nat} {c:Code} {d:Ann} {R:Type} {st:St} {K:XK->St->Option R} {z:R} (p:J1 C ib c d R st K=some z):UK P L w0 c st K z:=by
 obtain⟨x,g,n,-,q⟩:=P1 k b ib c d R st K z p
 exact fun B r m i a w Q f t=>q B r m i a w Q f fun h j o s e l=>t x g n h j o s e l
theorem z9p {c:Code} {g:AnnU->(R:Type)->St->(XK->St->Option R)->Option R} (hg:UOK P L w0 c g):UOK P L w0 c (q7l g):=by
 intro an R st K z he
 unfold q7l at he
 split at he
 ·rename_i mt mo sr stat exits p
  obtain⟨hroom,he⟩:=A8 he
  have room:=z4k hroom
  obtain⟨o,ho,hres⟩:=Option.bind_eq_some_iff.1 he
  intro B r m κ a w Q sim hQ
  refine hg p _ _ _ o ho B r m κ a w Q (q9d sim _ _) fun x st' hk κ' a' w' sim' ext' lk=>?_
  obtain⟨l,f,hx,hr⟩:=q8k exits _ o hk
  obtain⟨y,hy,hlo2,-,-,hend⟩:=q4v (P:=P) (L:=L) (w0:=w0) hx room
  obtain⟨κ2,s2,e2,l2⟩:=hend sim sim' ext' (fun t ht=>q7w lk ht) (fun id hb h1 h2 h3=>q7v lk hb (by simp[h1,h2,h3])) lk.n
  exact hQ x (C1 st mt mo sr l y) (by rw[<-hr R st K y];cases hy;exact hres) κ2 a' w' s2 e2 l2
 ·exact hg _ _ _ _ _ he
theorem j4o {S:Type} {st st':St} {mt mo sr stat:List Nat} {lf:List LI} {Kf:D5 lf->Option S} {zz:S} {it:Nat} {ak av:Bool} {tk tv:Ty} {l:List (tk.den×tv.den)} {le:List (tk.den×tv.den)} {cu:Option (tk.den×tv.den)}
  (he:M3 (st'.obj it (.iter ak av tk tv l none)) mt mo sr stat lf Kf=some zz) (room:Room st mt mo sr stat) (hst:st.h it=.iter ak av tk tv l none) (hst':st'.h it=.iter ak av tk tv le cu) (hmo:it∉mo) (hsr:it∉sr) (hstat:it∉stat) :
  ∃ y,Kf y=some zz/\∀ {B:Bd} {r:Option Nat} {κ κ':A2} {a a':Act} {w w':World},Sim P L w0 B r κ st a w->Sim P L w0 B r κ' st' a' w'->Ext L κ st.h w κ' st'.h w' ->
   (∀ t,t∉mt->a'.tmps.getD t undef=a.tmps.getD t undef)->(∀ id,id≠C0->id∉mo->id∉sr->id∉stat->id≠it->st'.h id=st.h id)->st'.n=st.n ->
   ∃ κ2,Sim P L w0 B r κ2 ((C1 st mt mo sr lf y).obj it (.iter ak av tk tv le cu)) a' w'/\Ext L κ st.h w κ2 ((C1 st mt mo sr lf y).obj it (.iter ak av tk tv le cu)).h w' /\
    (∀ t,st.lt t=true->(C1 st mt mo sr lf y).ρ t=st.ρ t/\a'.tmps.getD t undef=a.tmps.getD t undef)/\∀ id,st.lo id=true->(C1 st mt mo sr lf y).h id=st.h id:=by
 obtain⟨y,hy,-,hs⟩:=j4q (P:=P) (L:=L) (w0:=w0) (st0:=st) he
 obtain⟨f1,f2⟩:=z0v (st0:=st) he y
 refine⟨y,hy,fun {B r κ κ' a a' w w'} sim sim' ext htm hoo hn=>?_⟩
 have ho:=sim.heap.obj it
 rw[hst]at ho
 obtain⟨b,c,m0,s0,n0,c00,hk0,hw0,hit0⟩:=ho
 have ho':=sim'.heap.obj it
 rw[hst']at ho'
 obtain⟨b1,c1,m1,s1,n1,c01,hk1,hw1,hit1⟩:=ho'
 have hkk:κ' it=some (b,c):=(ext.place it (by rw[hst];simp)).trans hk0
 rw[hk1]at hkk;cases hkk
 obtain⟨simA,extA⟩:=z4r sim' hst' hk1 (hit0.mono ext.free)
 obtain⟨κ2,s2,e2,free2⟩:=hs B r κ a w κ' a' _ sim simA (ext.trans extA) htm (fun id h1 h2 h3=>by
  by_cases hid:id=it
  ·subst hid
   show upd st'.h id _ id=_
   rw[A1,hst]
  ·show upd st'.h it _ id=_
   rw[A0 _ _ hid]
   by_cases hb:id=C0
   ·subst hb
    have h:=j4p he
    rw[room.bad]
    exact(A0 (i:=it) st'.h (.iter ak av tk tv l none) hid).symm.trans h
   ·exact hoo id hb h1 h2 h3 hid) (fun id hid=>(room.mo id hid).1) hn
 have hfr:(C1 st mt mo sr lf y).h it=.iter ak av tk tv l none:=(f2 it hmo hsr hstat).trans hst
 have hk2:κ2 it=some (b,c):=(e2.place it (by rw[hst];simp)).trans hk0
 obtain⟨simB,extB⟩:=z4r s2 hfr hk2 (hit1.mono fun b hb=>⟨free2 b (extA.free b hb).1,(extA.free b hb).2⟩)
 have hw:(w'.putObj b (.mapIter m0 s0 n0 c00)).putObj b (.mapIter m1 s1 n1 c01)=w':=v1q hw1
 rw[hw]at simB extB
 refine⟨κ2,simB,e2.trans extB,fun t ht=>?_,fun id hid=>f2 id (fun h=>by have:=(room.mo id h).2;rw[hid]at this;cases this) (fun h=>by have:=room.sr id h;rw[hid]at this;cases this) (fun h=>by have:=room.stat id h;rw[hid]at this;cases this)⟩
 have hnt:t∉mt:=fun h=>by have:=room.mt t h;rw[ht]at this;cases this
 exact⟨f1 t hnt,htm t hnt⟩
theorem y99 {l:List Oper} {t d:Nat} {rest:List Oper} (h:j06 l=some (t,d,rest)):∃ o,l=o::rest/\o.op=.next (.tmp t) false/\o.dst=some d/\o.guard=none:=by
 unfold j06 at h
 split at h
 ·rename_i o r
  split at h
  ·rename_i t' d' h1 h2 h3
   cases h
   exact⟨o,rfl,h1,h2,h3⟩
  ·cases h
 ·cases h
theorem j90 {B:Bd} {r:Option Nat} {κ:A2} {st:St} {a:Act} {w:World} (sim:Sim P L w0 B r κ st a w) {d:Nat} {av:AV} {v:Value} (hr:RepAV L κ st.h w av v) (hd:d<st.n):Sim P L w0 B r κ (st.tmp d av) (a.put (some d) v) w :=
 ⟨(j7j _ _ _).trans sim.size,j46 sim.env (Ext.refl _ _ _ _) (d:=some d) hr (fun t ht=>by cases ht;rw[sim.size];exact hd),sim.heap,by rw[j7i];exact sim.defs,sim.rnd⟩
theorem y96 {C:Ctx} (hC:CtxOK P L w0 C) {ib i:Nat} {ops:Array Oper} {a:Code} {p:AnnU} (hb:∀ (R:Type) (st:St) (K:XK->St->Option R) (z:R),P2 C ib a p R st K=some z->UK P L w0 a st K z)
  {mt mo sr stat:List Nat} {head:List LI} {exits:q15} {R:Type} {st:St} {K:XK->St->Option R} {z:R} (he:P2 C ib (.loop (.seq (.region i ops false) a)) (.mloop mt mo sr stat head exits p) R st K=some z) :
  UK P L w0 (.loop (.seq (.region i ops false) a)) st K z:=by
 unfold P2 at he
 dsimp only at he
 split at he
 case h_2=>cases he
 rename_i t d rest hnx
 obtain⟨o0,hops,hop,hdst,hgd⟩:=y99 hnx
 split at he
 case h_2=>cases he
 rename_i it hρ
 split at he
 case h_2=>cases he
 rename_i ak av tk tv l hst
 obtain⟨hc,he⟩:=A8 he
 simp only[Bool.and_eq_true,Bool.not_eq_true']at hc
 obtain⟨⟨⟨⟨⟨⟨⟨hroom,hdm⟩,htm⟩,hdn⟩,hmo⟩,hsr⟩,hstat⟩,hlo⟩:=hc
 have room:=z4k hroom
 have hdm:=memb_iff.1 hdm
 have nm:∀ {l:List Nat} {x:Nat},E4 l x=false->x∉l:=fun h hm=>by rw[memb_iff.2 hm]at h;cases h
 have htm:=nm htm
 have hmo:=nm hmo
 have hsr:=nm hsr
 have hstat:=nm hstat
 have hdn:d<st.n:=Nat.le_of_ble_eq_true hdn
 have hib:it≠C0:=fun e=>by rw[e,room.bad]at hst;cases hst
 obtain⟨y0,hy0,-,-,-,h0⟩:=q4v (P:=P) (L:=L) (w0:=w0) he room
 have frame:∀ y,(∀ t,t∉mt->(C1 st mt mo sr head y).ρ t=st.ρ t)/\∀ id,id∉mo->id∉sr->id∉stat->(C1 st mt mo sr head y).h id=st.h id:=z0v (st0:=st) he
 have hall:=y30 hy0
 intro B r m κ a0 w Q sim hQ
 have body:∀ (S:St) (zz:D5 head⊕N4 exits) (le:List (tk.den×tv.den)) (cu:Option (tk.den×tv.den)),S.h it=.iter ak av tk tv le cu->S.n=st.n->(∀ id,id∉mo->id∉sr->id∉stat->id≠it->S.h id=st.h id) ->
   (Q1 C ib ops none rest (S1 S mt (mo++stat)) [] none fun s _ pj=>cond pj.isNone (P2 C ib a p (D5 head⊕N4 exits) s fun x st'=>match x with
    | .nrm=>M3 (st'.obj it (.iter ak av tk tv l none)) mt mo sr stat head fun y'=>some (.inl y')
    | x=>Q9 (st'.obj it (.iter ak av tk tv l none)) mt mo sr stat x exits .inr) none)=some zz ->
   ∀ (n:Nat),(∀ y',zz=.inl y'->∀ κ2 a2 w2,Sim P L w0 B r κ2 ((C1 st mt mo sr head y').obj it (.iter ak av tk tv le cu)) a2 w2->Ext L κ st.h w κ2 ((C1 st mt mo sr head y').obj it (.iter ak av tk tv le cu)).h w2->(∀ t,t∉mt->a2.tmps.getD t undef=a0.tmps.getD t undef) ->
    Code.roundsIn (Fr r) m P (.seq (.region i ops false) a) Q n a2 w2)->(∀ o',zz=.inr o'->q35 st mt mo sr (fun x s=>K x (s.obj it .dead)) exits o'=some z) ->
   ∀ κ1 a1 w1,Sim P L w0 B r κ1 S a1 w1->Ext L κ st.h w κ1 S.h w1->(∀ t,t∉mt->a1.tmps.getD t undef=a0.tmps.getD t undef) ->
    wpOpsIn (Fr r) m P ops (Exit.then (a.wpIn (Fr r) m P (Exit.then (Code.roundsIn (Fr r) m P (.seq (.region i ops false) a) Q n) Q)) (Exit.then (Code.roundsIn (Fr r) m P (.seq (.region i ops false) a) Q n) Q)) (List.range' 1 rest.length) a1 w1:=by
  intro S zz le cu hS hSn hSo hev n hin hout κ1 a1 w1 s1 e1 t1
  obtain⟨qs,sA,pj,hst,hpi,hkA⟩:=z0s hC rest _ [] _ zz hev
  obtain⟨hpj,hkA⟩:=A8 hkA
  obtain rfl:pj=none:=by simpa using hpj
  refine j0y (r:=r) (m:=m) (κ0:=κ1) (a0:=a1) (v0:=w1) (all:=qs) (fun ⟨p,hp,T,hT⟩=>absurd hT (hpi p hp T)) (fun p hp T H hT=>absurd hT (hpi p hp T)) rest 1 _ qs sA hst (fun p hp=>hp) (fun j o' hj=>by
   rw[<-Array.getElem?_toList,hops,show 1+j=j+1 from by omega,List.getElem?_cons_succ];exact hj) κ1 a1 w1 (q9d s1 _ _) (Ext.refl _ _ _ _) (Locks.refl _ _) fun κ2 a2 w2 s2 e2 lk2=>?_
  refine hb _ sA _ zz hkA B r m κ2 a2 w2 _ s2 fun x st' hK κ3 a3 w3 s3 e3 lk3=>?_
  have lk:=lk2.trans lk3
  have hit':st'.h it=.iter ak av tk tv le cu:=(q7v lk hib (by simp[hmo,hstat])).trans hS
  have g2:∀ id,id≠C0->id∉mo->id∉sr->id∉stat->id≠it->st'.h id=st.h id:=fun id hb h1 h2 h3 h4=>(q7v lk hb (by simp[h1,h3])).trans (hSo id h1 h2 h3 h4)
  have g1:∀ t,t∉mt->a3.tmps.getD t undef=a0.tmps.getD t undef:=fun t ht=>(q7w lk ht).trans (t1 t ht)
  have hn:st'.n=st.n:=lk.n.trans hSn
  have ext3:Ext L κ st.h w κ3 st'.h w3:=e1.trans (e2.trans e3)
  have fin:x≠.nrm->Q9 (st'.obj it (.iter ak av tk tv l none)) mt mo sr stat x exits (Sum.inr (α:=D5 head))=some zz->Exit.then (Code.roundsIn (Fr r) m P (.seq (.region i ops false) a) Q n) Q x.exit a3 w3:=fun hx1 hk=>by
   obtain⟨lx,f,hx,hr⟩:=q8k exits _ zz hk
   obtain⟨y2,hy2,hback⟩:=j4o (P:=P) (L:=L) (w0:=w0) hx room ‹st.h it=_› hit' hmo hsr hstat
   have hoo:=hout (f y2) (by cases hy2;rfl)
   obtain⟨κ4,s4,e4,f4,f5⟩:=hback sim s3 ext3 g1 g2 hn
   have hg:(((C1 st mt mo sr lx y2).obj it (.iter ak av tk tv le cu)).h it).gone .dead:=by
    have hu:((C1 st mt mo sr lx y2).obj it (.iter ak av tk tv le cu)).h it=.iter ak av tk tv le cu:=A1 _ _ _
    rw[hu];simp[AObj.gone]
   have e5:=V3 (L:=L) (κ:=κ4) (w:=w3) hg
   have huu:upd ((C1 st mt mo sr lx y2).obj it (.iter ak av tk tv le cu)).h it .dead=((C1 st mt mo sr lx y2).obj it .dead).h:=by
    funext j
    show upd (upd (C1 st mt mo sr lx y2).h it _) it .dead j=upd (C1 st mt mo sr lx y2).h it .dead j
    by_cases hj:j=it
    ·subst hj;rw[A1,A1]
    ·rw[A0 _ _ hj,A0 _ _ hj,A0 _ _ hj]
   have ok5:=q0j s4.heap hg
   rw[huu]at e5 ok5
   have hq:=hQ x ((C1 st mt mo sr lx y2).obj it .dead) (by rw[<-hr R st (fun x s=>K x (s.obj it .dead)) y2];exact hoo) κ4 a3 w3
    ⟨s4.size,fun t=>RepAV.ext e5 (s4.env t),ok5,s4.defs.keep e5.size e5.defs,fun l hl=>by
     obtain⟨l',h4⟩:=s4.rnd l hl
     exact e5.loops l l' h4⟩ (e4.trans e5) ⟨rfl,rfl,rfl,f4,fun id hid=>by
     have hne:id≠it:=fun e=>by rw[e,hlo]at hid;cases hid
     show upd (C1 st mt mo sr lx y2).h it .dead id=_
     rw[A0 _ _ hne];exact f5 id hid⟩
   cases x with
   | nrm=>exact absurd rfl hx1
   | ex j=>exact hq
   | ret=>exact hq
   | pan T=>exact hq
  cases x with
  | nrm =>
   obtain⟨y2,hy2,hback⟩:=j4o (P:=P) (L:=L) (w0:=w0) (Kf:=fun y'=>some (Sum.inl (β:=N4 exits) y')) hK room ‹st.h it=_› hit' hmo hsr hstat
   obtain⟨κ4,s4,e4,-,-⟩:=hback sim s3 ext3 g1 g2 hn
   exact hin y2 (by cases hy2;rfl) κ4 a3 w3 s4 e4 g1
  | ex j=>exact fin (by simp) hK
  | ret=>exact fin (by simp) hK
  | pan T=>exact fin (by simp) hK
 have hrange:List.range ops.size=0::List.range' 1 rest.length:=by
  rw[<-Array.length_toList,hops,List.range_eq_range',List.length_cons,List.range'_succ]
 have ho0:ops[0]? = some o0:=by rw[<-Array.getElem?_toList,hops];rfl
 have objobj:∀ (s:St) (o1 o2:AObj),(s.obj it o1).obj it o2=s.obj it o2:=fun s o1 o2=>by
  unfold St.obj
  congr 1
  funext j
  show upd (upd s.h it o1) it o2 j=upd s.h it o2 j
  by_cases hj:j=it
  ·subst hj;rw[A1,A1]
  ·rw[A0 _ _ hj,A0 _ _ hj,A0 _ _ hj]
 have step:∀ (n:Nat) (a1:Act) (w1 w2:World) (v:Value),(Instr.next (a1.eval (.tmp t)) false o0.type).run P w1=.ok v w2 ->
   wpOpsIn (Fr r) m P ops (Exit.then (a.wpIn (Fr r) m P (Exit.then (Code.roundsIn (Fr r) m P (.seq (.region i ops false) a) Q n) Q)) (Exit.then (Code.roundsIn (Fr r) m P (.seq (.region i ops false) a) Q n) Q)) (List.range' 1 rest.length) (a1.put (some d) v) w2 ->
   Code.roundsIn (Fr r) m P (.seq (.region i ops false) a) Q (n+1) a1 w1:=by
  intro n a1 w1 w2 v hrun hk
  rw[roundsIn_succ]
  refine wpIn_seq (wpIn_region ?_)
  rw[hrange,wpOpsIn_cons]
  unfold wpOpIn
  rw[ho0]
  have hw:Region.wanted o0 (yielded ops a1.tmps)=true:=by unfold Region.wanted;rw[hgd]
  simp only[hw,if_true]
  refine j22 (fun c hc=>by rw[hop]at hc;cases hc) (v:=v) (w':=w2) ?_ ?_
  ·unfold execOp;rw[hop];simp only[Sem.run_bind,hrun,Result.andThen_ok,Sem.run_pure]
  ·rw[hdst];exact hk
 have ptr:∀ {κ1:A2} {y:D5 head} {o1:AObj} {a1:Act} {w1:World},Sim P L w0 B r κ1 ((C1 st mt mo sr head y).obj it o1) a1 w1->∃ b c,κ1 it=some (b,c)/\a1.eval (.tmp t)=.pointer (some ⟨b,0,none⟩):=by
  intro κ1 y o1 a1 w1 s1
  have h1:=s1.env t
  have h2:((C1 st mt mo sr head y).obj it o1).ρ t=.one (.ptr it 0):=((frame y).1 t htm).trans hρ
  rw[h2]at h1
  obtain⟨_,b,c,h3,h4⟩:=h1
  exact⟨b,c,h3,h4⟩
 have tput:∀ {a1:Act} {v:Value},(∀ t,t∉mt->a1.tmps.getD t undef=a0.tmps.getD t undef)->∀ t,t∉mt->(a1.put (some d) v).tmps.getD t undef=a0.tmps.getD t undef:=by
  intro a1 v h t ht
  have hne:d≠t:=fun e=>ht (e▸hdm)
  rw[<-h t ht]
  simp[Act.put,Array.getD_eq_getD_getElem?,Array.getElem?_setIfInBounds_ne hne]
 have rest_obj:∀ (y:D5 head) (o1:AObj) (d':Nat) (v1:AV),∀ id,id∉mo->id∉sr->id∉stat->id≠it->(((C1 st mt mo sr head y).obj it o1).tmp d' v1).h id=st.h id:=fun y o1 d' v1 id h1 h2 h3 h4=>by
  show upd (C1 st mt mo sr head y).h it o1 id=_
  rw[A0 _ _ h4];exact(frame y).2 id h1 h2 h3
 have main:∀ (n:Nat) (left:List (tk.den×tv.den)) (cur:Option (tk.den×tv.den)) (y:D5 head),left.length=n->q4a (fun r e y=>Q1 C ib ops none rest (S1 (((C1 st mt mo sr head y).obj it (.iter ak av tk tv r (some e))).tmp d (q86 ak av tk tv e)) mt (mo++stat)) [] none fun s _ pj =>
     cond pj.isNone (P2 C ib a p (D5 head⊕N4 exits) s fun x st'=>match x with
      | .nrm=>M3 (st'.obj it (.iter ak av tk tv l none)) mt mo sr stat head fun y'=>some (.inl y')
      | x=>Q9 (st'.obj it (.iter ak av tk tv l none)) mt mo sr stat x exits .inr) none)
    (fun y=>Q1 C ib ops none rest (S1 (((C1 st mt mo sr head y).obj it (.iter ak av tk tv [] none)).tmp d (.tup [(false,[.sc .bool false])])) mt (mo++stat)) [] none fun s _ pj =>
     cond pj.isNone (P2 C ib a p (D5 head⊕N4 exits) s fun x st'=>match x with
      | .nrm=>M3 (st'.obj it (.iter ak av tk tv l none)) mt mo sr stat head fun y'=>some (.inl y')
      | x=>Q9 (st'.obj it (.iter ak av tk tv l none)) mt mo sr stat x exits .inr) none) (fun o=>q35 st mt mo sr (fun x s=>K x (s.obj it .dead)) exits o) n left y z ->
   ∀ κ1 a1 w1,Sim P L w0 B r κ1 ((C1 st mt mo sr head y).obj it (.iter ak av tk tv left cur)) a1 w1->Ext L κ st.h w κ1 ((C1 st mt mo sr head y).obj it (.iter ak av tk tv left cur)).h w1->(∀ t,t∉mt->a1.tmps.getD t undef=a0.tmps.getD t undef) ->
    Code.roundsIn (Fr r) m P (.seq (.region i ops false) a) Q (n+1) a1 w1:=by
  intro n
  induction n with
  | zero =>
   intro left cur y hlen hA κ1 a1 w1 s1 e1 t1
   have hl0:left=[]:=List.eq_nil_of_length_eq_zero hlen
   subst hl0
   obtain⟨b,c,hk1,hp1⟩:=ptr s1
   have hito:((C1 st mt mo sr head y).obj it (.iter ak av tk tv [] cur)).h it=.iter ak av tk tv [] cur:=A1 _ _ _
   rcases j07 (P:=P) s1.heap o0.type hito hk1 with⟨-,hrun⟩ | ⟨q,rest',_,_,_,_,_,_,_,hperm,_⟩
   rotate_left
   ·exact absurd hperm.length_eq (by simp)
   rw[<-hp1]at hrun
   refine step 0 a1 w1 w1 _ hrun ?_
   have hob:=s1.heap.obj it
   rw[hito]at hob
   obtain⟨b',c',m1,si1,se1,c1,g1,g2,g3⟩:=hob
   rw[hk1]at g1;cases g1
   obtain⟨s2,e2⟩:=z4r s1 hito hk1 g3.drop
   rw[v1r g2,objobj]at s2 e2
   have s3:=j90 s2 (d:=d) (av:=.tup [(false,[.sc .bool false])]) (v:=.tuple #[.bool false]) ⟨[.bool false],rfl,rfl,fun j cc uu hj hu=>by
    match j,hj,hu with
    | 0,hj,hu=>cases hj;cases hu;exact⟨rfl,rfl,rfl⟩
    | n+1,hj,_=>simp at hj⟩ hdn
   obtain⟨o,hA,hko⟩:=hA
   exact body (((C1 st mt mo sr head y).obj it (.iter ak av tk tv [] none)).tmp d (.tup [(false,[.sc .bool false])])) (.inr o) [] none (A1 _ _ _) rfl (rest_obj y _ _ _) hA 0 (fun y' h=>by cases h) (fun o' h=>by cases h;exact hko) κ1 _ w1 s3 (e1.trans e2) (tput t1)
  | succ n ih =>
   intro left cur y hlen hA κ1 a1 w1 s1 e1 t1
   obtain⟨b,c,hk1,hp1⟩:=ptr s1
   have hito:((C1 st mt mo sr head y).obj it (.iter ak av tk tv left cur)).h it=.iter ak av tk tv left cur:=A1 _ _ _
   rcases j07 (P:=P) s1.heap o0.type hito hk1 with⟨hnil,-⟩ | ⟨q,rest',w2,m1,si1,se1,c1,key,val,hperm,hw2,hrun,hir,hkey,hval⟩
   ·rw[hnil]at hlen;cases hlen
   rw[<-hp1]at hrun
   refine step (n+1) a1 w1 _ _ hrun ?_
   have s2:Sim P L w0 B r κ1 ((C1 st mt mo sr head y).obj it (.iter ak av tk tv left cur)) a1 w2/\Ext L κ1 ((C1 st mt mo sr head y).obj it (.iter ak av tk tv left cur)).h w1 κ1 ((C1 st mt mo sr head y).obj it (.iter ak av tk tv left cur)).h w2:=by
    rcases hw2 with rfl | rfl
    ·exact⟨s1,Ext.refl _ _ _ _⟩
    ·exact⟨⟨s1.size,fun t=>(s1.env t).ext (V2 κ1 _ w1),q55 s1.heap,s1.defs,s1.rnd⟩,V2 κ1 _ w1⟩
   obtain⟨s2,e2⟩:=s2
   obtain⟨s3,e3⟩:=z4r s2 hito hk1 (hir.mono e2.free)
   rw[objobj]at s3 e3
   have e23:=e2.trans e3
   have s4:=j90 s3 (d:=d) (av:=q86 ak av tk tv q) (v:=.tuple #[.bool true,key,val]) ⟨[.bool true,key,val],rfl,rfl,fun j cc uu hj hu=>by
    match j,hj,hu with
    | 0,hj,hu=>cases hj;cases hu;exact⟨rfl,rfl,rfl⟩
    | 1,hj,hu=>cases hj;cases hu;exact j1y (hkey.mono e23.free)
    | 2,hj,hu=>cases hj;cases hu;exact j1y (hval.mono e23.free)
    | n+3,hj,_=>simp at hj⟩ hdn
   have hlen':rest'.length=n:=by
    have:=hperm.length_eq
    simp only[List.length_cons]at this
    omega
   obtain⟨e0,l0,rfl⟩:∃ e0 l0,left=e0::l0:=by
    cases left with
    | nil=>cases hlen
    | cons e0 l0=>exact⟨e0,l0,rfl⟩
   rcases hA q rest' hperm with⟨o,h1,hko⟩ | ⟨y',h1,h2⟩
   ·exact body (((C1 st mt mo sr head y).obj it (.iter ak av tk tv rest' (some q))).tmp d (q86 ak av tk tv q)) (.inr o) rest' (some q) (A1 _ _ _) rfl (rest_obj y _ _ _) h1 (n+1) (fun y' h=>by cases h) (fun o' h=>by cases h;exact hko) κ1 _ _ s4 (e1.trans e23) (tput t1)
   ·exact body (((C1 st mt mo sr head y).obj it (.iter ak av tk tv rest' (some q))).tmp d (q86 ak av tk tv q)) (.inl y') rest' (some q) (A1 _ _ _) rfl (rest_obj y _ _ _) h1 (n+1) (fun y'' h κ2 a2 w2 s5 e5 t5=>by cases h;exact ih rest' (some q) y' hlen' h2 κ2 a2 w2 s5 e5 t5) (fun o' h=>by cases h) κ1 _ _ s4 (e1.trans e23) (tput t1)
 obtain⟨κ0,s0,e0,-⟩:=h0 sim sim (Ext.refl _ _ _ _) (fun _ _=>rfl) (fun _ _ _ _ _=>rfl) rfl
 refine wpIn_loop_rounds (l.length+1) ?_
 have hsame:(C1 st mt mo sr head y0).obj it (.iter ak av tk tv l none)=C1 st mt mo sr head y0:=by
  unfold St.obj
  rw[j1w _ _ _ (((frame y0).2 it hmo hsr hstat).trans ‹st.h it=_›)]
 exact main l.length l none y0 rfl hall κ0 a0 w (by rw[hsame];exact s0) (by rw[hsame];exact e0) fun _ _=>rfl
theorem q2f {C:Ctx} (hC:CtxOK P L w0 C) (hmix:P.follows .mixedOrders=true) (ib:Nat):(c:Code)->UOK P L w0 c (P2 C ib c)
 | .seq x y=>z9p fun an R st K z he=>by
  split at he
  ·rename_i p q
   intro B r m κ a w Q sim hQ
   refine wpIn_seq (q2f hC hmix ib x p R st _ z he B r m κ a w _ sim fun x1 st1 hk κ' a' w' s e l=>?_)
   cases x1 with
   | nrm=>exact q2f hC hmix ib y q R st1 K z hk B r m κ' a' w' Q s fun x2 st2 hk2 κ2 a2 w2 s2 e2 l2=>hQ x2 st2 hk2 κ2 a2 w2 s2 (e.trans e2) (l.trans l2)
   | ex j=>exact hQ _ st1 hk κ' a' w' s e l
   | ret=>exact hQ _ st1 hk κ' a' w' s e l
   | pan T=>exact hQ _ st1 hk κ' a' w' s e l
  ·exact G6 hC hmix he
  ·cases he
 | .cond c x y=>z9p fun an R st K z he=>by
  split at he
  ·rename_i p q
   split at he
   ·rename_i t ht
    intro B r m κ a w Q sim hQ
    have hv:a.eval c=.bool t:=by
     have hv:=N7 sim.env c
     rw[ht]at hv
     exact q0s hv
    cases t with
    | true =>
     rw[cond_true]at he
     exact wpIn_cond_true hv (q2f hC hmix ib x p R st K z he B r m κ a w Q sim hQ)
    | false =>
     rw[cond_false]at he
     exact wpIn_cond_false hv (q2f hC hmix ib y q R st K z he B r m κ a w Q sim hQ)
   ·cases he
  ·exact G6 hC hmix he
  ·cases he
 | .block id x=>z9p fun an R st K z he=>by
  split at he
  ·rename_i p
   intro B r m κ a w Q sim hQ
   refine wpIn_block (q2f hC hmix ib x p R st _ z he B r m κ a w _ sim fun x1 st1 hk κ' a' w' s e l=>?_)
   cases x1 with
   | nrm=>exact hQ .nrm st1 hk κ' a' w' s e l
   | ret=>exact hQ .ret st1 hk κ' a' w' s e l
   | pan T=>exact hQ (.pan T) st1 hk κ' a' w' s e l
   | ex j =>
    have hk:cond (Nat.beq j id) (K .nrm st1) (K (.ex j) st1)=some z:=hk
    by_cases hj:j=id
    ·subst hj
     rw[Nat.beq_refl,cond_true]at hk
     show(if j=j then Q .normal a' w' else Q (.exit j) a' w')
     rw[if_pos rfl]
     exact hQ .nrm st1 hk κ' a' w' s e l
    ·have hb:Nat.beq j id=false:=by
      cases hq:Nat.beq j id with
      | true=>exact absurd (Nat.eq_of_beq_eq_true hq) hj
      | false=>rfl
     rw[hb,cond_false]at hk
     show(if j=id then Q .normal a' w' else Q (.exit j) a' w')
     rw[if_neg hj]
     exact hQ (.ex j) st1 hk κ' a' w' s e l
  ·exact G6 hC hmix he
  ·cases he
 | .loop (.seq (.region i ops false) x)=>fun an R st K z he=>by
  cases an with
  | mloop mt mo sr stat head exits p=>exact y96 hC (fun R st K z h=>q2f hC hmix ib x p R st K z h) he
  | det d=>exact G6 (ib:=ib) (d:=d) hC hmix he
  | _=>exact nomatch he
 | .scope x=>fun an R st K z he=>by
  intro B r m κ a w Q sim hQ
  refine y0z (q2f hC hmix ib x an R st K z he B r m κ a w _ sim fun x1 st1 hk κ' a' w' s e l=>?_)
  have hq:=hQ x1 st1 hk κ' a' w' s e l
  cases x1<;>exact hq
 | .skip=>fun an R st K z he=>by
  cases an with
  | det d=>exact G6 (ib:=ib) (d:=d) hC hmix he
  | _=>exact nomatch he
 | .label _=>fun an R st K z he=>by
  cases an with
  | det d=>exact G6 (ib:=ib) (d:=d) hC hmix he
  | _=>exact nomatch he
 | .exit _=>fun an R st K z he=>by
  cases an with
  | det d=>exact G6 (ib:=ib) (d:=d) hC hmix he
  | _=>exact nomatch he
 | .ret=>fun an R st K z he=>by
  cases an with
  | det d=>exact G6 (ib:=ib) (d:=d) hC hmix he
  | _=>exact nomatch he
 | .region ..=>fun an R st K z he=>by
  cases an with
  | det d=>exact G6 (ib:=ib) (d:=d) hC hmix he
  | _=>exact nomatch he
 | .rangeFunc ..=>fun an R st K z he=>by
  cases an with
  | det d=>exact G6 (ib:=ib) (d:=d) hC hmix he
  | _=>exact nomatch he
 | .goto _=>fun an R st K z he=>by
  cases an with
  | det d=>exact G6 (ib:=ib) (d:=d) hC hmix he
  | _=>exact nomatch he
 | .refuse _=>fun an R st K z he=>by
  cases an with
  | det d=>exact G6 (ib:=ib) (d:=d) hC hmix he
  | _=>exact nomatch he
 | .loop (.skip)=>fun an R st K z he=>by
  cases an with
  | det d=>exact G6 (ib:=ib) (d:=d) hC hmix he
  | _=>exact nomatch he
 | .loop (.label _)=>fun an R st K z he=>by
  cases an with
  | det d=>exact G6 (ib:=ib) (d:=d) hC hmix he
  | _=>exact nomatch he
 | .loop (.exit _)=>fun an R st K z he=>by
  cases an with
  | det d=>exact G6 (ib:=ib) (d:=d) hC hmix he
  | _=>exact nomatch he
 | .loop (.ret)=>fun an R st K z he=>by
  cases an with
  | det d=>exact G6 (ib:=ib) (d:=d) hC hmix he
  | _=>exact nomatch he
 | .loop (.region ..)=>fun an R st K z he=>by
  cases an with
  | det d=>exact G6 (ib:=ib) (d:=d) hC hmix he
  | _=>exact nomatch he
 | .loop (.cond ..)=>fun an R st K z he=>by
  cases an with
  | det d=>exact G6 (ib:=ib) (d:=d) hC hmix he
  | _=>exact nomatch he
 | .loop (.block ..)=>fun an R st K z he=>by
  cases an with
  | det d=>exact G6 (ib:=ib) (d:=d) hC hmix he
  | _=>exact nomatch he
 | .loop (.loop _)=>fun an R st K z he=>by
  cases an with
  | det d=>exact G6 (ib:=ib) (d:=d) hC hmix he
  | _=>exact nomatch he
 | .loop (.rangeFunc ..)=>fun an R st K z he=>by
  cases an with
  | det d=>exact G6 (ib:=ib) (d:=d) hC hmix he
  | _=>exact nomatch he
 | .loop (.scope _)=>fun an R st K z he=>by
  cases an with
  | det d=>exact G6 (ib:=ib) (d:=d) hC hmix he
  | _=>exact nomatch he
 | .loop (.goto _)=>fun an R st K z he=>by
  cases an with
  | det d=>exact G6 (ib:=ib) (d:=d) hC hmix he
  | _=>exact nomatch he
 | .loop (.refuse _)=>fun an R st K z he=>by
  cases an with
  | det d=>exact G6 (ib:=ib) (d:=d) hC hmix he
  | _=>exact nomatch he
 | .loop (.seq (.skip) _)=>fun an R st K z he=>by
  cases an with
  | det d=>exact G6 (ib:=ib) (d:=d) hC hmix he
  | _=>exact nomatch he
 | .loop (.seq (.label _) _)=>fun an R st K z he=>by
  cases an with
  | det d=>exact G6 (ib:=ib) (d:=d) hC hmix he
  | _=>exact nomatch he
 | .loop (.seq (.exit _) _)=>fun an R st K z he=>by
  cases an with
  | det d=>exact G6 (ib:=ib) (d:=d) hC hmix he
  | _=>exact nomatch he
 | .loop (.seq (.ret) _)=>fun an R st K z he=>by
  cases an with
  | det d=>exact G6 (ib:=ib) (d:=d) hC hmix he
  | _=>exact nomatch he
 | .loop (.seq (.cond ..) _)=>fun an R st K z he=>by
  cases an with
  | det d=>exact G6 (ib:=ib) (d:=d) hC hmix he
  | _=>exact nomatch he
 | .loop (.seq (.block ..) _)=>fun an R st K z he=>by
  cases an with
  | det d=>exact G6 (ib:=ib) (d:=d) hC hmix he
  | _=>exact nomatch he
 | .loop (.seq (.loop _) _)=>fun an R st K z he=>by
  cases an with
  | det d=>exact G6 (ib:=ib) (d:=d) hC hmix he
  | _=>exact nomatch he
 | .loop (.seq (.rangeFunc ..) _)=>fun an R st K z he=>by
  cases an with
  | det d=>exact G6 (ib:=ib) (d:=d) hC hmix he
  | _=>exact nomatch he
 | .loop (.seq (.scope _) _)=>fun an R st K z he=>by
  cases an with
  | det d=>exact G6 (ib:=ib) (d:=d) hC hmix he
  | _=>exact nomatch he
 | .loop (.seq (.goto _) _)=>fun an R st K z he=>by
  cases an with
  | det d=>exact G6 (ib:=ib) (d:=d) hC hmix he
  | _=>exact nomatch he
 | .loop (.seq (.refuse _) _)=>fun an R st K z he=>by
  cases an with
  | det d=>exact G6 (ib:=ib) (d:=d) hC hmix he
  | _=>exact nomatch he
 | .loop (.seq (.seq ..) _)=>fun an R st K z he=>by
  cases an with
  | det d=>exact G6 (ib:=ib) (d:=d) hC hmix he
  | _=>exact nomatch he
 | .loop (.seq (.region _ _ true) _)=>fun an R st K z he=>by
  cases an with
  | det d=>exact G6 (ib:=ib) (d:=d) hC hmix he
  | _=>exact nomatch he
end Go.Abs
