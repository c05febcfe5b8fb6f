/- The engine, part 11c: operations on maps. -/
import Derived.Test.YtecofmaegcibeaaGreatDoorAbsSound9
namespace Go.Abs
open Go Go.RowKit
variable {P:Program} {L:Nat->Prop} {w0:World}
variable {w:World} {w':World} {A:Nat->Prop} {v:Value}
theorem RepVal.uniq {A':Nat->Prop} {b:Bool} {a:Ty} (c:a.flat=true) {x y:a.den} (h:RepVal w A b a v x) (h':RepVal w' A' b a v y):x=y:=by
 cases b with
 | true =>
  obtain⟨i,f,-,-,g⟩:=h;obtain⟨d,e,-,-,j⟩:=h';grind[q6b]
 | false=>exact(q6b a c _ _ x y h.2.2 h'.2.2).2 λ_ _=>rfl
variable {av:Bool}
open Classical in
theorem MapRep.find {K:TypeId} {ak:Bool} {tk tv:Ty} (hK:KeyTy P K ak tk) {w1:World} {A':Nat->Prop} {l:List (tk.den×tv.den)} {es:Array MapEntry} {clock:Nat} (hr:MapRep w A ak av tk tv l es clock) {k:tk.den} (hv:RepVal w' A' ak tk v k) :
  ∃p:List (tk.den×tv.den),p.Perm l/\p.length=es.toList.length/\(∀(i:Nat) (x:MapEntry) (q:tk.den×tv.den),es.toList[i]? = some x->p[i]? = some q->RepVal w A ak tk x.key q.1/\RepVal w A av tv x.val q.2) /\
   ((∃i x q,es.toList[i]? = some x/\p[i]? = some q/\q.1=k/\(Instr.findKey K v es.toList).run P w1=.ok (some (i,x.val)) w1/\D2 tk l k=some q.2) \/
    ((∀q∈p,q.1≠k)/\(Instr.findKey K v es.toList).run P w1=.ok none w1/\D2 tk l k=none)):=by
 obtain⟨p,hp,hlen,hent⟩:=hr.ents;refine⟨p,hp,hlen,hent,?_⟩
 let b:MapEntry->Bool:=λe=>if ∃y,RepVal w A ak tk e.key y/\tk.eqb k y=true then true else false
 have hb:∀(i:Nat) (x:MapEntry) (q:tk.den×tv.den),es.toList[i]? = some x->p[i]? = some q->b x=tk.eqb k q.1:=λi x q h1 h2=>by
  have h3:=(hent i x q h1 h2).1;cases hq:tk.eqb k q.1 with
  | true=>exact if_pos ⟨q.1,h3,hq⟩
  | false =>
   refine if_neg ?_;rintro ⟨y,h4,h5⟩;rw[RepVal.uniq hr.flat h4 h3,hq]at h5;cases h5
 have hrun:=hK.find w1 w' A' v k b es.toList hv (λe he=>by
  obtain⟨i,hi⟩:=bf he;have hlt:i<p.length:=by rw[hlen];exact(ag.1 hi).1
  have hk':tk.flat=true:=hr.flat;have h3:=(hent i e p[i] hi (af hlt)).1;refine⟨p[i].1,?_,hb i e p[i] hi (af hlt)⟩;exact RepVal.flatMono hk' h3)
 cases hfi:es.toList.findIdx? b with
 | none =>
  refine .inr ⟨λq hq e=>?_,by rw[hrun,hfi];rfl,(y1r hr.flat).2 λq hq e=>?_⟩
  ·obtain⟨i,hi⟩:=bf hq;have hlt:i<es.toList.length:=by rw[<-hlen];exact(ag.1 hi).1
   have h1:=eB.1 hfi _ (ay hlt);rw[hb i _ q (af hlt) hi,e,tk.eqb_self hr.flat]at h1;cases h1
  ·obtain⟨i,hi⟩:=bf (hp.mem_iff.2 hq);have hlt:i<es.toList.length:=by rw[<-hlen];exact(ag.1 hi).1
   have h1:=eB.1 hfi _ (ay hlt);rw[hb i _ q (af hlt) hi,e,tk.eqb_self hr.flat]at h1;cases h1
 | some i =>
  obtain⟨hlt,hbi,_⟩:=List.findIdx?_eq_some_iff_getElem.1 hfi;have hlt':i<p.length:=by rw[hlen];exact hlt
  have hbq:=hb i _ p[i] (af hlt) (af hlt');rw[hbi]at hbq;have hk:=(tk.eqb_iff hr.flat _ _).1 hbq.symm;refine .inl ⟨i,es.toList[i],p[i],af hlt,af hlt',hk.symm,?_,?_⟩
  ·rw[hrun,hfi,aa,af hlt];rfl
  ·refine(q3l hr.flat hr.rise).2 (hp.mem_iff.1 ?_);rw[hk];exact ay hlt'
variable {b:Nat} {κ:A6} {h:Heap} {r:Nat}
theorem q6u (g:HeapOK L w0 κ h w) {id:Nat} {c:Nat×Nat} (i:κ id=some (b,c)) {q es':Array MapEntry} {cl':Nat} (n:w.heap[b]? = some (.map q r)) {obj':AObj} (f:(h id).like obj') (p:Ext L κ h w κ (upd h id obj') (w.putObj b (.map es' cl'))->RepObj L κ (upd h id obj') (w.putObj b (.map es' cl')) id obj') :
  HeapOK L w0 κ (upd h id obj') (w.putObj b (.map es' cl'))/\Ext L κ h w κ (upd h id obj') (w.putObj b (.map es' cl')):=by
 have a:∀e,e≠b->(w.putObj b (.map es' cl')).heap[e]? = w.heap[e]?:=λe j=>World.putObj_heap_other j;have d:(w.putObj b (.map es' cl')).heap.size=w.heap.size:=by simp
 have m:=U9 (L:=L) (κ:=κ) (h:=h) (obj':=obj') i f (.inl (.inr (.inl ⟨_,_,n⟩))) d a;have l:=g.own id b c (AObj.like_live f).1 i;exact⟨X4 g i f d a (g.below.trans ⟨rfl,rfl,rfl,by simp,λk o=>World.putObj_heap_other (by omega),ax _⟩) (p m),m⟩
theorem q0f {a:Array MapEntry} (c:w.heap[r]? = some (.map a b)):(getObj r).run P w=.ok (.map a b) w:=by grind[getObj,Sem.run]
theorem q5d {a:Array MapEntry} (o:Obj) (c:w.heap[r]? = some (.map a b)):(setObj r o).run P w=.ok () (w.putObj r o):=by grind[setObj,Sem.run,World.putObj]
theorem RepVal.cells {a:Bool} {t:Ty} {y:t.den} (d:RepVal w (A4 L κ h w) a t v y):RepAV L κ h w (y8m a t y) v/\RepComp L κ h w (a,q2y a t y) v:=by
 cases a with
 | true =>
  obtain⟨e,f,m,g,l⟩:=d;have:RepCells L κ h w (H1 t y) e:=⟨by grind[q16],λi s c j k=>by
   grind[q26]⟩
  exact⟨⟨e,f,this⟩,e,f,this⟩
 | false=>exact⟨d,d⟩
variable {T:TypeId}
theorem z9j {d:TInfo} (a:d.OK P T):G4 d.zeros=[]:=by
 obtain⟨⟨i,z,-,-,-,-,k,f,h⟩,-⟩:=a.base;apply List.flatMap_eq_nil_iff.2;intro s e;obtain⟨j,g⟩:=bf e;have b:j<z.cells.size:=by grind
 have:=h j s _ g (bh b);cases s<;>first | rfl | exact this.elim
variable {e:Ty}
theorem j68 (ok:HeapOK L w0 κ h w) {V:TypeId} {a:TInfo} (f:a.OK P V) (p:q5q a av e=true) {hs:Heap} {z:e.den} (x:F0 hs e a.zeros=some (z,[])) :
  ∃v,(zeroValue V).run P w=.ok v w/\RepVal w (A4 L κ h w) av e v z:=by
 simp only[q5q,ac,decide_eq_true_eq,beq_iff_eq]at p;obtain⟨⟨D,C⟩,g⟩:=p;have g:=ab g;obtain⟨i,d,q,t,-,k,n,B,l,b⟩:=f.zero_one (L:=L);have u:=f.zeroT i d q k;have y:=z9j f;have m:F0 h e a.zeros=some (z,[]):=(q0s e a.zeros (λid A=>by grind)).trans x;obtain⟨H,G,E⟩:=q1x ok (Ext.refl L κ h w) e a.zeros (λc=>d.cells.toList[c]?) z [] (λj s F=>q1o (l κ h w) F) (λid A=>by grind) m;refine⟨d,by unfold zeroValue;simp[j4k q,k],?_⟩;cases av with
 | true =>
  cases d with
  | agg r=>exact⟨r.toList,by simp,by have:r.size=a.size:=n;grind,b,E⟩
  | _=>grind[z3a]
 | false =>
  have I:d.cells=#[d]:=by cases d<;>first | rfl | grind[z3a]
  have o:a.size=1:=by grind
  refine⟨g.trans o,b d (by grind),?_⟩;grind[RepAt.congr,E6]
variable {R:Type} {C:Ctx} {z:R}
theorem j3b (c:∀t d,C.TI t=some d->d.OK P t) {h:Bool} {i g:Ty} {K:TInfo->Option R} (b:q3m C T h av i g K=some z) :
  ∃k v a,P.underlying T=some (.map k v)/\KeyTy P k h i/\a.OK P v/\q5q a av g=true/\K a=some z:=by
 unfold q3m at b;split at b
 ·rename_i d m;split at b
  ·rename_i k v n;split at b
   ·rename_i e a l j;obtain⟨f,b⟩:=Q4 b;rw[ac]at f;exact⟨k,v,a,(c T d m).mapT k v n,j2w (c k e l) f.1,c v a j,f.2,b⟩
   grind
  grind
 grind
variable {a:Act} {ρ:Env} {m:Operand}
theorem q9k (d:∀x,RepAV L κ h w (ev ρ x) (a.eval x)) (p:HeapOK L w0 κ h w) {id:Nat} (r:ev ρ m=.one (.mp id)) {o:Bool} {f:Ty} {l:List (e.den×f.den)} (i:h id=.mapo o av e f l) :
  ∃b c j g,κ id=some (b,c)/\a.eval m=.map (some b)/\w.heap[b]? = some (.map j g)/\MapRep w (A4 L κ h w) o av e f l j g:=by
 have k:=d m;rw[r]at k;obtain⟨_,b,c,u,y⟩:=k;have n:=p.obj id;rw[i]at n;obtain⟨v,z,j,g,q,t,s⟩:=n;grind
variable {ids:List Nat}
theorem z9y (g:∀x,RepAV L κ h w (ev ρ x) (a.eval x)) (f:HeapOK L w0 κ h w) {d:List (Bool×Ty)} {xs:List Operand} {e:F9 d} (j:G6 h d (xs.map (ev ρ))=some (e,ids)) :
  q0u w (A4 L κ (A3 (B4 h ids) h) w) d (xs.map a.eval) e:=by
 obtain⟨k,c,b⟩:=V2 ids f;exact q5x f c d (xs.map (ev ρ)) (xs.map a.eval) e ids (by simp) (λi l v m n=>by
  grind) j b
variable {i:Operand}
theorem q9b (d:∀x,RepAV L κ h w (ev ρ x) (a.eval x)) (f:HeapOK L w0 κ h w) {c:Bool} {b:Ty} (g:b.flat=true) {k:F9 [(c,b)]} (e:G6 h [(c,b)] [ev ρ i]=some (k,ids)) :
 RepVal w (A4 L κ h w) c b (a.eval i) k.1:=(z9y d f (xs:=[i]) e).1.flatMono g
variable {o:Oper} {id':Nat} {K:Eff->Option R}
theorem k2n (m:∀t s,C.TI t=some s->s.OK P t) {r:Option Operand} (G:o.op=.makeMap T r) (e:j1d C T h id' (r.map (ev ρ)) K=some z) :
  ∃q,K q=some z/\q.full=none/\∀j f,(∀p∈q.ups,f p.1=h p.1)->A9 P L w0 o j f (q.heap f) q.av:=by
 unfold j1d at e;split at e
 ·have E:r=none:=by simp_all
  subst E;split at e
  ·rename_i k v M;split at e
   ·rename_i b d A J;obtain⟨n,e⟩:=Q4 e;rw[ac]at n;have H:=j2w (m k b A) n.1;unfold I3 at e;split at e
    ·rename_i D;refine⟨_,e,rfl,λj f F=>?_⟩;have g:f id'=.fresh:=(F (id',.mapo b.agg d.agg b.ty d.ty []) (by simp)).trans D;refine M7 (λc n=>by grind) λκ a w y B=>?_;have u:=X0 (L:=L) (κ:=κ) (h:=f) (w:=w) (.map #[] 0) (AObj.mapo b.agg d.agg b.ty d.ty []) 0 g;refine⟨_,.map (some w.heap.size),w.alloc (.map #[] 0),?_,q1c B _ _ 0 g ⟨w.heap.size,0,#[],0,A2 _ _ _,heap_alloc_new w _,?_⟩,⟨by show(upd f id' _ id').Held;rw[A2];simp,_,_,A2 _ _ _,rfl⟩,u⟩
     ·unfold execOp;simp[G,Instr.makeMap]
     ·exact⟨H.flat,List.Pairwise.nil,by simp,λx u=>by grind,[],cq _,rfl,λi x q I=>by grind⟩
    grind
   grind
  grind
 grind
theorem k2h (hti:∀t ti,C.TI t=some ti->ti.OK P t) {d:Bool} (ho:o.op=.lookup T m i d) (E:q67 C T (ev ρ m) (ev ρ i) d h K=some z) :
  ∃q,K q=some z/\q.full=none/\∀s A,ev s m=ev ρ m->ev s i=ev ρ i->(∀id∈q.rd,A id=h id)->A9 P L w0 o s A (q.heap A) q.av:=by
 unfold q67 at E;split at E
 ·rename_i id hm;split at E
  ·rename_i ak av tk Y l V;obtain⟨KT,VT,tiv,hT,hK,Z,O,E⟩:=j3b hti E;split at E
   ·rename_i k ids z0 hk hz;refine⟨_,E,rfl,λs A e1 e2 N=>?_⟩;have G:A id=h id:=N id (by simp);refine E7 (λc hc=>by grind) λU a w H ok=>?_;show ∃v,_/\RepAV L U A w _ v;obtain⟨b,c,es,cl,hkb,J,hb,hr⟩:=q9k H ok (e1.trans hm) (G.trans V);have F:=q9b H ok hr.flat (i:=i) (by rw[e2];exact q09 _ _ _ _ hk (λj r=>N j (aj _ r)));obtain⟨zv,W,hzv⟩:=j68 ok Z O hz;obtain⟨p,hp,hlen,I,D⟩:=hr.find (w1:=w) hK F;have B:=hK.chk es.isEmpty w w _ _ _ F;have fin:∀(u:Value) (y:Y.den) (b:Bool),(∃S,(Instr.findKey KT (a.eval i) es.toList).run P w=.ok S w/\((∃j,S=some (j,u)/\b=true)\/(S=none/\u=zv/\b=false)))->RepVal w (A4 L U A w) av Y u y ->
      ∃v,(execOp a.eval o).run P w=.ok (.value v) w/\RepAV L U A w (q6o d av Y y b) v:=by
     rintro u y b' ⟨S,Q,hu⟩ M;have e:=M.cells;have X:(Instr.lookup T (a.eval m) (a.eval i) d).run P w=.ok (if d then .tuple #[u,.bool b']else u) w:=by
      unfold Instr.lookup;rcases hu with⟨j,rfl,rfl⟩ | ⟨rfl,rfl,rfl⟩
      ·simp[run_underlying hT,J,q0f hb,B,Q]
      ·simp[run_underlying hT,J,q0f hb,B,Q,W]
     refine⟨if d then .tuple #[u,.bool b']else u,by unfold execOp;simp_all,?_⟩
     cases d with
     | false=>exact e.1
     | true =>
      refine⟨[u,.bool b'],rfl,rfl,λj cc uu r g=>?_⟩
      match j,r,g with
      | 0,r,g=>cases r;cases g;exact e.2
      | 1,r,g=>cases r;cases g;exact⟨rfl,rfl,rfl⟩
      | n+2,r,_=>simp at r
    rcases D with⟨j,x,q,h1,h2,h3,h4,h5⟩ | ⟨h1,h2,h3⟩
    ·rw[h5,bm,fA];exact fin x.val q.2 true ⟨_,h4,.inl ⟨j,rfl,rfl⟩⟩ (I j x q h1 h2).2
    simp_all
   grind
  grind
 grind
def z2z (TI:TypeId->Option TInfo) (T:TypeId) (tv:Ty) (z:tv.den):Prop :=
 ∃ti k v tiv,TI T=some ti/\ti.mp=some (k,v)/\TI v=some tiv/\G4 tiv.zeros=[]/\∃h,F0 h tv tiv.zeros=some (z,[])
theorem k54 {TI:TypeId->Option TInfo} {a:Ty} {z b:a.den} (h:z2z TI T a z) (h':z2z TI T a b):z=b:=by
 obtain⟨w,k,v,e,g,r,m,q,i,u⟩:=h;obtain⟨d,j,l,c,s,t,n,o,f,p⟩:=h';grind[q0s]
def q5u (TI:TypeId->Option TInfo) (T:TypeId) (o o':AObj):Prop :=
 ∃ak av tk tv l k g z,o=.mapo ak av tk tv l/\o'=.mapp ak av tk tv (F4 tk l k z) k g/\z2z TI T tv z
theorem v7d {a:Type} {t:Ty} (b:t.flat=true) (l:List (t.den×a)) (k j:t.den) (z:a):(D2 t (F4 t l k z) j).getD z=(D2 t l j).getD z:=by
 unfold F4;by_cases h:j=k
 all_goals grind[q9i,q6t]
theorem y1v (b:∀t d,C.TI t=some d->d.OK P t) {l:Bool} {n:Ty} {K:TInfo->Option R} (c:q3m C T l av n e K=some z) :
  ∃k v a,P.underlying T=some (.map k v)/\KeyTy P k l n/\a.OK P v/\q5q a av e=true/\K a=some z/\∀h y,F0 h e a.zeros=some (y,[])->z2z C.TI T e y:=by
 unfold q3m at c;split at c
 ·rename_i d j;split at c
  ·rename_i k v m;split at c
   ·rename_i f a o g;obtain⟨i,c⟩:=Q4 c;rw[ac]at i;exact⟨k,v,a,(b T d j).mapT k v m,j2w (b k f o) i.1,b v a g,i.2,c,λh y p=>⟨d,k,v,a,j,m,g,z9j (b v a g),h,p⟩⟩
   grind
  grind
 grind
variable {g:Nat}
theorem v7f (e:∀x,RepAV L κ h w (ev ρ x) (a.eval x)) (r:HeapOK L w0 κ h w) {id:Nat} (t:ev ρ m=.one (.mp id)) {q:Bool} {d f:Ty} {l:List (d.den×f.den)} {k:d.den} (j:h id=.mapp q av d f l k g) :
  ∃b c n i,κ id=some (b,c)/\a.eval m=.map (some b)/\w.heap[b]? = some (.map n i)/\MapRep w (A4 L κ h w) q av d f l n i:=by
 have o:=e m;rw[t]at o;obtain⟨_,b,c,y,A⟩:=o;have p:=r.obj id;rw[j]at p;obtain⟨z,B,n,i,s,v,u,-⟩:=p;grind
theorem y1l (ho:o.op=.lookup T m i false) {ρs:Env} {hs:Heap} {Q:Bool} {n:Ty} {l:List (n.den×e.den)} {O X:TypeId} {s:TInfo} (Z:P.underlying T=some (.map O X)) (R:KeyTy P O Q n) (H:s.OK P X) (t:q5q s av e=true) {Y:e.den} (hz:F0 h e s.zeros=some (Y,[])) {k:n.den} (J:∀f (a:Act) w,(∀x,RepAV L f hs w (ev ρs x) (a.eval x))->HeapOK L w0 f hs w->∃b z K,a.eval m=.map (some b)/\w.heap[b]? = some (.map z K)/\MapRep w (A4 L f hs w) Q av n e l z K/\RepVal w (A4 L f hs w) Q n (a.eval i) k) :
  A9 P L w0 o ρs hs hs (q6o false av e ((D2 n l k).getD Y) (D2 n l k).isSome):=by
 refine E7 (λc hc=>by grind) λf a w I ok=>?_;obtain⟨b,z,K,E,U,hr,B⟩:=J f a w I ok;obtain⟨zv,G,hzv⟩:=j68 ok H t hz;obtain⟨p,hp,V,C,r⟩:=hr.find (w1:=w) R B;have g:=R.chk z.isEmpty w w _ _ _ B;have N:∀(u:Value) (y:e.den) (b:Bool),(∃F,(Instr.findKey O (a.eval i) z.toList).run P w=.ok F w/\((∃j,F=some (j,u)/\b=true)\/(F=none/\u=zv/\b=false)))->RepVal w (A4 L f hs w) av e u y ->
   ∃v,(execOp a.eval o).run P w=.ok (.value v) w/\RepAV L f hs w (q6o false av e y b) v:=by
  rintro u y b' ⟨F,A,hu⟩ D;have M:(Instr.lookup T (a.eval m) (a.eval i) false).run P w=.ok u w:=by
   unfold Instr.lookup;rcases hu with⟨j,rfl,rfl⟩ | ⟨rfl,rfl,rfl⟩
   ·simp[run_underlying Z,E,q0f U,g,A]
   ·simp[run_underlying Z,E,q0f U,g,A,G]
  exact⟨u,by grind[execOp,Sem.run_bind,Result.andThen_ok,Sem.run_pure],D.cells.1⟩
 rcases r with⟨j,x,q,S,W,h3,h4,h5⟩ | ⟨S,W,h3⟩
 ·rw[h5,bm,fA];exact N x.val q.2 true ⟨_,h4,.inl ⟨j,rfl,rfl⟩⟩ (C j x q S W).2
 simp_all
theorem k2i (G:∀t X,C.TI t=some X->X.OK P t) (W:o.op=.lookup T m i false) (r:q67 C T (ev ρ m) (ev ρ i) false h K=some z) :
  ∃q,K q=some z/\q.full=none/\(∀d e,ev d m=ev ρ m->ev d i=ev ρ i->(∀id∈q.rd,e id=h id)->A9 P L w0 o d e (q.heap e) q.av) /\
   ∀id,q.rd=[id]->h id≠.fresh/\∀d e,ev d m=ev ρ m->ev d i=ev ρ i->q5u C.TI T (h id) (e id)->A9 P L w0 o d e (q.heap e) q.av:=by
 unfold q67 at r;split at r
 ·rename_i id hm;split at r
  ·rename_i ak S s V l A;obtain⟨KT,VT,tiv,hT,H,x,n,r,M⟩:=y1v G r;split at r
   ·rename_i k ids D hk I;refine⟨_,r,rfl,λd e F Q u=>?_,λid2 v=>?_⟩
    ·have B:e id=h id:=u id (by simp);refine y1l W hT H x n I λκ a w f E=>?_;obtain⟨b,c,U,Y,N,y,Z,J⟩:=q9k f E (F.trans hm) (B.trans A);exact⟨b,U,Y,y,Z,J,q9b f E J.flat (i:=i) (by rw[Q];exact q09 _ _ _ _ hk (λj hj=>u j (aj _ hj)))⟩
    ·obtain⟨rfl,rfl⟩:=v;refine⟨by grind,λd e F Q p=>?_⟩;obtain⟨ak',av',tk',tv',l',O,g,z',s1,s2,s3⟩:=p;rw[A]at s1;cases s1;have hzz:=k54 (M _ _ I) s3;have hf:s.flat=true:=H.flat;rw[show q6o false S V ((D2 s l k.1).getD D) (D2 s l k.1).isSome=q6o false S V ((D2 s (F4 s l O D) k.1).getD D) (D2 s (F4 s l O D) k.1).isSome from by
      rw[v7d hf];rfl]
     refine y1l W hT H x n I λκ a w f E=>?_;obtain⟨b,c,U,Y,N,y,Z,J⟩:=v7f f E (F.trans hm) s2;grind[q9b,q09]
   grind
  grind
 grind
theorem y8k {id:Nat} {o:AObj}:A3 (B4 h ids++[(id,o)]) h=upd (A3 (B4 h ids) h) id o:=by
 rw[M4];rfl
variable {c:Ty}
theorem MapRep.setAt {g:Bool} {a:Ty} {l:List (c.den×a.den)} {b:Array MapEntry} {n:Nat} (d:MapRep w A g av c a l b n) {p:List (c.den×a.den)} (s:p.Perm l) (h:p.length=b.toList.length) (m:∀(i:Nat) (x:MapEntry) (q:c.den×a.den),b.toList[i]? = some x->p[i]? = some q->RepVal w A g c x.key q.1/\RepVal w A av a x.val q.2) {i:Nat} {x:MapEntry} {q:c.den×a.den} (h1:b.toList[i]? = some x) (u:p[i]? = some q) {kv vv:Value} {y:a.den} (C:RepVal w A g c kv q.1) (B:RepVal w A av a vv y) {f:MapEntry->MapEntry} (t:f x={ x with key:=kv,val:=vv }):MapRep w A g av c a (C9 c l q.1 y) (b.modify i f) n:=by
 have o:(b.modify i f).toList=b.toList.set i { x with key:=kv,val:=vv }:=by
  rw[fq];apply ce;grind
 refine⟨d.flat,q9j d.flat d.rise,?_,λz e=>?_,p.set i (q.1,y),y5l d.flat s d.rise u y,by grind,λj z r e v=>?_⟩
 ·rw[o,List.map_set];have:(b.toList.map (·.born)).set i x.born=b.toList.map (·.born):=by
   apply ce;grind
  rw[this];exact d.apart
 ·rw[o]at e;rcases ez e with e | e
  ·exact d.early z e
  ·rw[e];exact d.early x (bk h1)
 grind
theorem MapRep.pushAt {m:Bool} {d:Ty} {l:List (c.den×d.den)} {h:Array MapEntry} {n:Nat} (f:MapRep w A m av c d l h n) {p:List (c.den×d.den)} (u:p.Perm l) (t:p.length=h.toList.length) (s:∀(i:Nat) (x:MapEntry) (q:c.den×d.den),h.toList[i]? = some x->p[i]? = some q->RepVal w A m c x.key q.1/\RepVal w A av d x.val q.2) {k:c.den} (o:∀q∈p,q.1≠k) {kv vv:Value} {y:d.den} (E:RepVal w A m c kv k) (F:RepVal w A av d vv y):MapRep w A m av c d (C9 c l k y) (h.push { key:=kv,val:=vv,born:=n }) (n+1):=by
 refine⟨f.flat,q9j f.flat f.rise,?_,λz g=>?_,p++[(k,y)],k01 f.flat u f.rise o y,by grind,λj z r g C=>?_⟩
 ·rw[Array.toList_push,bC,List.nodup_append];refine⟨f.apart,by simp,λa D b v e=>?_⟩;simp at v;obtain⟨x,B,rfl⟩:=aW.1 D;have:=f.early x B;omega
 ·rw[Array.toList_push]at g;rcases aQ.1 g with g | g
  ·have:=f.early z g;omega
  grind
 grind
theorem MapRep.eraseAt {e:Bool} {a:Ty} {l:List (a.den×c.den)} {b:Array MapEntry} (d:MapRep w A e av a c l b g) {p:List (a.den×c.den)} (n:p.Perm l) (k:p.length=b.toList.length) (h:∀(i:Nat) (x:MapEntry) (q:a.den×c.den),b.toList[i]? = some x->p[i]? = some q->RepVal w A e a x.key q.1/\RepVal w A av c x.val q.2) {i:Nat} {x:MapEntry} {q:a.den×c.den} (_:b.toList[i]? = some x) (s:p[i]? = some q) :
  MapRep w A e av a c (H2 a l q.1) (b.eraseIdxIfInBounds i) g:=by
 have m:(b.eraseIdxIfInBounds i).toList=b.toList.eraseIdx i:=by
  simp_all
 refine⟨d.flat,z5n d.rise,?_,λz f=>?_,p.eraseIdx i,j0u d.flat n d.rise s,by grind,λj z r f o=>?_⟩
 ·rw[m];exact d.apart.sublist ((List.eraseIdx_sublist _ _).map _)
 ·rw[m]at f;exact d.early z (eG f)
 grind
theorem y5g (hti:∀t ti,C.TI t=some ti->ti.OK P t) {v:Operand} (ho:o.op=.mapUpdate T m i v\/o.op=.insert T m i v) (F:z3z C T (ev ρ m) (ev ρ i) (ev ρ v) h K=some z) :
  ∃q,K q=some z/\q.full=none/\∀n s,ev n m=ev ρ m->ev n i=ev ρ i->ev n v=ev ρ v->(∀id∈q.rd,s id=h id)->A9 P L w0 o n s (q.heap s) q.av:=by
 unfold z3z at F;split at F
 ·rename_i id hm;split at F
  ·rename_i ak Z G tv l hid;obtain⟨KT,VT,tiv,hT,hK,htv,hvok,F⟩:=j3b hti F;split at F
   ·rename_i x k hx;obtain⟨X,F⟩:=Q4 F;have X:id∉k:=λhm=>by have:=aG.1 X id hm;simp_all
    refine⟨_,F,rfl,λn s e1 e2 e3 hrd=>?_⟩;have M:s id=.mapo ak Z G tv l:=(hrd id (by simp)).trans hid;have hx':G6 s [(ak,G),(Z,tv)] ([i,v].map (ev n))=some (x,k):=by
     grind[q09]
    show A9 P L w0 o n s (A3 (B4 h k++[(id,.mapo ak Z G tv (C9 G l x.1 x.2.1))]) s) (.one .unk);rw[<-q6f k (λj hj=>hrd j (aj _ hj)),y8k];refine q55 (λc hc=>by grind) λκ a w hev ok=>?_;obtain⟨U,J,freeI⟩:=V2 k ok;have d:=z9y hev ok hx';have B:A3 (B4 s k) s id=.mapo ak Z G tv l:=(q0g X).trans M;obtain⟨b,c,es,E,H,hmv,N,-⟩:=q9k hev ok (e1.trans hm) M;have hr:MapRep w (A4 L κ (A3 (B4 s k) s) w) ak Z G tv l es E:=by
     have:=U.obj id;rw[B]at this;obtain⟨b',c',es',cl',hk',hb',hr'⟩:=this;grind
    obtain⟨p,hp,I,Q,W⟩:=hr.find (w1:=w) hK d.1;have S:=hK.chk false w w _ _ _ d.1;have O:∀o',(Instr.mapUpdate T (a.eval m) (a.eval i) (a.eval v)).run P w=.ok () (w.putObj b o')->(execOp a.eval o).run P w=.ok .skip (w.putObj b o'):=λo' r=>by
     grind[execOp,Sem.run_bind,Result.andThen_ok,Sem.run_pure]
    have D:∀l',(A3 (B4 s k) s id).like (.mapo ak Z G tv l'):=λl'=>by rw[B];trivial
    rcases W with⟨j,y,q,h1,h2,h3,h4,h5⟩ | ⟨h1,h2,h3⟩
    ·have r:(Instr.mapUpdate T (a.eval m) (a.eval i) (a.eval v)).run P w=.ok () (w.putObj b (.map (es.modify j λe=>{ e with key:=a.eval i,val:=a.eval v }) E)):=by
      unfold Instr.mapUpdate;have Y:Instr.sameBits 10000 y.key (a.eval i)=true:=hK.same w _ _ _ x.1 (by grind) d.1;have hgj:es[j]? = some y:=by grind
      simp[run_underlying hT,hmv,q0f N,S,h4,Instr.keyThatStays,hgj,Y,q5d _ N]
     obtain⟨V,u⟩:=q6u U H N (cl':=E) (D (C9 G l x.1 x.2.1)) (es':=es.modify j λe=>{ e with key:=a.eval i,val:=a.eval v }) λhx=>by
      refine⟨b,c,_,E,H,World.putObj_heap_same (au.1 N).1,?_⟩;have:=hr.setAt hp I Q h1 h2 (kv:=a.eval i) (vv:=a.eval v) (y:=x.2.1) (by rw[h3];exact d.1) d.2.1 (f:=λe=>{ e with key:=a.eval i,val:=a.eval v }) rfl;rw[h3]at this;exact this.mono hx.free
     exact⟨κ,_,O _ r,V,J.trans u⟩
    ·have r:(Instr.mapUpdate T (a.eval m) (a.eval i) (a.eval v)).run P w=.ok () (w.putObj b (.map (es.push { key:=a.eval i,val:=a.eval v,born:=E }) (E+1))):=by
      unfold Instr.mapUpdate;simp[run_underlying hT,hmv,q0f N,S,h2,q5d _ N]
     obtain⟨V,u⟩:=q6u U H N (cl':=E+1) (D (C9 G l x.1 x.2.1)) (es':=es.push { key:=a.eval i,val:=a.eval v,born:=E }) λhx =>
      ⟨b,c,_,E+1,H,World.putObj_heap_same (au.1 N).1,(hr.pushAt hp I Q h1 d.1 d.2.1).mono hx.free⟩
     exact⟨κ,_,O _ r,V,J.trans u⟩
   grind
  grind
 grind
theorem j9c {b:TypeId} (c:o.op=.call { callee:=.builtin .delete,args:=#[m,i],argTypes:=#[T,b] }) (h:(Builtin.delete_ #[T,b] o.type #[a.eval m,a.eval i]).run P w=.ok v w'):(execOp a.eval o).run P w=.ok (.value v) w':=by
 unfold execOp;simp[c,resolve,invoke,builtin,h]
theorem j9b (b:o.op=.call { callee:=.builtin .clear,args:=#[m],argTypes:=#[T] }) (h:(Builtin.clear_ #[T] o.type #[a.eval m]).run P w=.ok v w'):(execOp a.eval o).run P w=.ok (.value v) w':=by
 unfold execOp;simp[b,resolve,invoke,builtin,h]
theorem k21 (hti:∀t ti,C.TI t=some ti->ti.OK P t) {T':TypeId} (ho:o.op=.call { callee:=.builtin .delete,args:=#[m,i],argTypes:=#[T,T'] }) (G:j14 C T (ev ρ m) (ev ρ i) h K=some z) :
  ∃q,K q=some z/\q.full=none/\∀n M,ev n m=ev ρ m->ev n i=ev ρ i->(∀id∈q.rd,M id=h id)->A9 P L w0 o n M (q.heap M) q.av:=by
 unfold j14 at G;split at G
 ·rename_i id hm;split at G
  ·rename_i ak av J tv l hid;obtain⟨KT,VT,tiv,hT,hK,htv,hvok,G⟩:=j3b hti G;split at G
   ·rename_i k ids I;refine⟨_,G,rfl,λn M e1 e2 O=>?_⟩;have B:M id=.mapo ak av J tv l:=(O id (by simp)).trans hid;refine M7 (λc hc=>by grind) λX a w U W=>?_;obtain⟨b,c,Z,V,r,N,s,v⟩:=q9k U W (e1.trans hm) B;have Q:=q9b U W v.flat (i:=i) (by rw[e2];exact q09 _ _ _ _ I (λj hj=>O j (aj _ hj)));obtain⟨p,hp,A,g,F⟩:=v.find (w1:=w) hK Q;have D:=hK.chk Z.isEmpty w w _ _ _ Q;have d:∀l',(M id).like (.mapo ak av J tv l'):=λl'=>by rw[B];trivial
    have E:∀h' w',RepAV L X h' w' (.tup []) (.tuple #[]):=λh' w'=>⟨[],rfl,rfl,λj c u hj=>by grind⟩;rcases F with⟨j,y,q,Y,h2,h3,h4,h5⟩ | ⟨Y,h2,h3⟩
    ·obtain⟨H,f⟩:=q6u W r s (cl':=V) (d (H2 J l k.1)) (es':=Z.eraseIdxIfInBounds j) λI=>by
      refine⟨b,c,_,V,r,World.putObj_heap_same (au.1 s).1,?_⟩;have:=v.eraseAt hp A g Y h2;rw[h3]at this;exact this.mono I.free
     refine⟨X,.tuple #[],_,j9c ho ?_,H,E _ _,f⟩;unfold Builtin.delete_;simp[run_underlying hT,N,q0f s,D,h4,q5d _ s]
    ·have hno:H2 J l k.1=l:=cH.2 λq hq=>by
      rw[J.eqb_false v.flat (λe=>Y q (hp.mem_iff.2 hq) e.symm)];rfl
     obtain⟨H,f⟩:=q6u W r s (cl':=V) (d (H2 J l k.1)) (es':=Z) λI =>
      ⟨b,c,_,V,r,World.putObj_heap_same (au.1 s).1,{ flat:=v.flat,rise:=z5n v.rise,apart:=v.apart,early:=v.early,ents:=⟨p,by grind,A,λi x q a b=>⟨(g i x q a b).1.mono I.free,(g i x q a b).2.mono I.free⟩⟩ }⟩
     refine⟨X,.tuple #[],_,j9c ho ?_,H,E _ _,f⟩;unfold Builtin.delete_;simp[run_underlying hT,N,q0f s,D,h2,q5d _ s]
   grind
  grind
 grind
theorem j9d (c:Option (Nat×(Nat×Nat))) (hf:h g=.fresh):Ext L κ h w (upd κ g c) (upd h g .dead) w where
 place j hj:=A0 _ _ (λe=>hj.1 (e▸hf))
 kid j hd:=by rw[A0 _ _ (λe=>by rw[e,hf]at hd;cases hd)];exact hd
 tree j e k l f hl:=by rw[A0 _ _ (λe=>by rw[e,hf]at hl;cases hl)];exact .inl ⟨l,f,hl,λp n h=>⟨h,λhk=>A0 _ _ (λe=>by rw[e,hf]at hk;cases hk)⟩⟩
 dead j hd:=by rw[A0 _ _ (λe=>by rw[e,hf]at hd;cases hd)];exact hd
 cells j l hl:=by rw[A0 _ _ (λe=>by rw[e,hf]at hl;cases hl)];exact .inl ⟨l,hl⟩
 arr j e t l hl:=by rw[A0 _ _ (λe=>by rw[e,hf]at hl;cases hl)];exact .inl ⟨l,rfl,.inl hl⟩
 ice j e t l hl:=by rw[A0 _ _ (λe=>by rw[e,hf]at hl;cases hl)];exact .inl hl
 lrec j i s hl:=by rw[A0 _ _ (λe=>by rw[e,hf]at hl;cases hl)];exact .inl ⟨s,hl⟩
 maps j hl:=by rw[A0 _ _ (λe=>by rw[e,hf]at hl;cases hl)];exact .inl hl
 iter j _ _ _ _ l c hl:=by rw[A0 _ _ (λe=>by rw[e,hf]at hl;cases hl)];exact .inl ⟨l,c,hl⟩
 size:=ax _
 loops _ r hr:=⟨r,hr⟩
 defs _ hr:=hr
 still b hb:=by
  obtain⟨h1,h3⟩:=hb;refine⟨⟨h1,λj c' hj hk=>?_⟩,rfl⟩;by_cases hji:j=g
  ·subst hji;rw[A2]at hj;cases hj
  ·rw[A0 _ _ hji]at hj hk;exact h3 j c' hj hk
theorem v5j (d:HeapOK L w0 κ h w) (c:Option (Nat×(Nat×Nat))) (p:h g=.fresh):HeapOK L w0 (upd κ g c) (upd h g .dead) w where
 obj j:=by
  by_cases k:j=g
  ·subst k;rw[A2];trivial
  ·rw[A0 h _ k];exact RepObj.ext (j9d c p) (A0 _ _ k) (λ_ _ _=>rfl) (λn=>A0 _ _ (J0 d (R8 p) j n)) (λ_ _ _ _=>rfl) (d.obj j)
 inj i j b o s a l f r:=by
  have m:∀i,(upd h g .dead i).live=true->i≠g:=λi a e=>by subst e;rw[A2]at a;cases a
  rw[A0 _ _ (m i a)]at f a;rw[A0 _ _ (m j l)]at r l;exact d.inj i j b o s a l f r
 own i b o a f:=by
  have m:i≠g:=λe=>by subst e;rw[A2]at a;cases a
  rw[A0 _ _ m]at f a;exact d.own i b o a f
 below:=d.below
 outer b q:=⟨(d.outer b q).1,λi o a f=>by
  have m:i≠g:=λe=>by subst e;rw[A2]at a;cases a
  rw[A0 _ _ m]at f a;exact(d.outer b q).2 i o a f⟩
 kids j l:=by rw[A0 _ _ (λe=>by rw[<-e,d.kids j l]at p;grind)];exact d.kids j l
theorem y5c (hti:∀t ti,C.TI t=some ti->ti.OK P t) (ho:o.op=.mapEntry T m i) (J:q8f C T (ev ρ m) (ev ρ i) h id' K=some z) :
  ∃q,K q=some z/\q.full=none/\(∀E s,ev E m=ev ρ m->ev E i=ev ρ i->(∀id∈q.rd,s id=h id)->(∀p∈q.ups,s p.1=h p.1)->A9 P L w0 o E s (q.heap s) q.av)/\∀id∈q.ups.map (·.1),h id=.fresh\/q5u C.TI T (h id) (q.heap h id):=by
 unfold q8f at J;split at J
 ·rename_i id hm;split at J
  ·rename_i H B d D l hid;obtain⟨KT,VT,tiv,hT,hK,htv,hvok,J,hzt⟩:=y1v hti J;split at J
   ·rename_i k ids G hk hz;unfold I3 at J;split at J
    ·rename_i hf;refine⟨_,J,rfl,λE s e1 e2 hrd hup=>?_,λid2 hid2=>?_⟩
     rotate_left
     ·simp[bB,da,al,List.not_mem_nil,or_false]at hid2;by_cases Q:id2=id
      ·subst Q;exact .inr ⟨H,B,d,D,l,k.1,id',G,hid,A2 _ _ _,hzt _ _ hz⟩
      grind
     have U:s id=.mapo H B d D l:=(hrd id (by simp)).trans hid;have hfs:s id'=.fresh:=(hup (id',.dead) (by simp)).trans hf;have hne:id≠id':=λe=>by grind
     show A9 P L w0 o E s (upd (upd s id' .dead) id (.mapp H B d D (F4 d l k.1 G) k.1 id')) _;refine M7 (λc hc=>by grind) λκ a w hev ok=>?_;obtain⟨b,c,es,cl,hkb,hmv,hb,hr⟩:=q9k hev ok (e1.trans hm) U;have A:=q9b hev ok hr.flat (i:=i) (by rw[e2];exact q09 _ _ _ _ hk (λj I=>hrd j (aj _ I)));obtain⟨zv,hzr,hzv⟩:=j68 ok htv hvok hz;obtain⟨p,hp,S,r,X⟩:=hr.find (w1:=w) hK A;have W:=hK.chk false w w _ _ _ A;have fin:∀(n:Nat) (u:Value) (y:D.den) (es':Array MapEntry) (cl':Nat),F4 d l k.1 G=C9 d l k.1 y->(D2 d l k.1).getD G=y->RepVal w (A4 L κ s w) B D u y->MapRep w (A4 L κ s w) H B d D (C9 d l k.1 y) es' cl' ->
       (∃x∈es'.toList,x.born=n/\RepVal w (A4 L κ s w) H d x.key k.1)->(Instr.mapEntry T (a.eval m) (a.eval i)).run P w=.ok (.tuple #[u,.int .i64 n]) (w.putObj b (.map es' cl')) ->
       ∃Y v w',(execOp a.eval o).run P w=.ok (.value v) w'/\HeapOK L w0 Y (upd (upd s id' .dead) id (.mapp H B d D (F4 d l k.1 G) k.1 id')) w' /\
        RepAV L Y (upd (upd s id' .dead) id (.mapp H B d D (F4 d l k.1 G) k.1 id')) w' (.tup [(B,q2y B D ((D2 d l k.1).getD G)),(false,[.stmp id'])]) v/\Ext L κ s w Y (upd (upd s id' .dead) id (.mapp H B d D (F4 d l k.1 G) k.1 id')) w':=by
      intro n u y es' cl' hme hge hu hmr hx hrun;rw[hge];have okG:=v5j ok (some (n,0)) hfs;have V:=j9d (L:=L) (κ:=κ) (w:=w) (some (n,0)) hfs;have N:upd κ id' (some (n,0)) id=some (b,c):=by grind[A0]
      obtain⟨ok2,ext2⟩:=q6u okG N hb (cl':=cl') (obj':=.mapp H B d D (F4 d l k.1 G) k.1 id') (by rw[A0 _ _ hne,U];trivial) (es':=es') λhxx=>by
       have hX:=V.trans hxx;obtain⟨x,x1,x2,x3⟩:=hx;have hmr':MapRep w (A4 L κ s w) H B d D (F4 d l k.1 G) es' cl':=by grind
       exact⟨b,c,es',cl',N,World.putObj_heap_same (au.1 hb).1,hmr'.mono hX.free,by rw[A0 _ _ (Ne.symm hne),A2];simp,n,0,A2 _ _ _,x,x1,x2,x3.mono hX.free⟩
      have hX:=V.trans ext2;refine⟨_,.tuple #[u,.int .i64 n],_,by grind[execOp,Sem.run_bind,Result.andThen_ok,Sem.run_pure],ok2,⟨[u,.int .i64 n],rfl,rfl,λj cc uu I F=>?_⟩,hX⟩
      match j,I,F with
      | 0,I,F=>cases I;cases F;exact(hu.cells.2).ext hX
      | 1,I,F=>cases I;cases F;exact⟨by rw[A0 _ _ (Ne.symm hne),A2];simp,n,0,A2 _ _ _,rfl⟩
      | n+2,I,_=>simp at I
     rcases X with⟨j,x,q,O,Q,h3,h4,h5⟩ | ⟨O,Q,h3⟩
     ·have hgj:es[j]? = some x:=by simpa using O
      have Z:Instr.sameBits 10000 x.key (a.eval i)=true:=hK.same w _ _ _ k.1 (by rw[<-h3];exact(r j x q O Q).1) A;have M:=hr.setAt hp S r O Q (kv:=a.eval i) (vv:=x.val) (y:=q.2) (by rw[h3];exact A) (r j x q O Q).2 (f:=λe=>{ e with key:=a.eval i }) rfl;rw[h3]at M;refine fin x.born x.val q.2 _ cl (by unfold F4;rw[h5];rfl) (by rw[h5];rfl) (r j x q O Q).2 M ⟨{ x with key:=a.eval i },?_,rfl,A⟩ ?_
      ·refine bk (i:=j) ?_;rw[fq,List.getElem?_modify,O];simp
      ·unfold Instr.mapEntry;simp[run_underlying hT,hmv,q0f hb,W,h4,Instr.keyThatStays,hgj,Z,q5d _ hb,goInt]
     ·refine fin cl zv G _ (cl+1) (by unfold F4;rw[h3];rfl) (by rw[h3];rfl) hzv (hr.pushAt hp S r O A hzv) ⟨{ key:=a.eval i,val:=zv,born:=cl },by simp,rfl,A⟩ ?_;unfold Instr.mapEntry;simp[run_underlying hT,hmv,q0f hb,W,Q,hzr,q5d _ hb,goInt]
    grind
   grind
  grind
 grind
theorem k23 {s v:Operand} (ho:o.op=.entryStore T m s v) (he:j15 (ev ρ m) (ev ρ s) (ev ρ v) h K=some z) :
  ∃q,K q=some z/\q.full=none/\∀d u,ev d m=ev ρ m->ev d s=ev ρ s->ev d v=ev ρ v->(∀id∈q.rd,u id=h id)->A9 P L w0 o d u (q.heap u) q.av:=by
 unfold j15 at he;split at he
 ·rename_i id g hm hsm;split at he
  ·rename_i ak av O Z l k g' hid;split at he
   ·rename_i x r hx;obtain⟨Q,he2⟩:=Q4 he;rw[ac]at Q;obtain⟨Q,H⟩:=Q;have H:id∉r:=λhm=>by have:=aG.1 H id hm;simp_all
    have Q:=ab Q;subst Q;refine⟨_,he2,rfl,λd u e1 e2 e3 V=>?_⟩;have Y:u id=.mapp ak av O Z l k g:=(V id (by simp)).trans hid;have hx':G6 u [(av,Z)] ([v].map (ev d))=some (x,r):=by
     grind[q09]
    show A9 P L w0 o d u (A3 (B4 h r++[(id,.mapo ak av O Z (C9 O l k x.1))]) u) (.one .unk);rw[<-q6f r (λj hj=>V j (aj _ hj)),y8k];refine q55 (λc hc=>by grind) λκ a w I ok=>?_;obtain⟨okI,U,freeI⟩:=V2 r ok;have G:=z9y I ok hx';have t:A3 (B4 u r) u id=.mapp ak av O Z l k g:=(q0g H).trans Y;have B:=I m;rw[e1,hm]at B;obtain⟨_,b,c,M,B⟩:=B;have A:=I s;rw[e2,hsm]at A;obtain⟨_,n,cg,hkg,A⟩:=A;have hob:=okI.obj id;rw[t]at hob;obtain⟨b',c',N,cl,S,hb,hr,-,n',cg',E,y,hy,hyb,hyk⟩:=hob;rw[M]at S;cases S;rw[hkg]at E;cases E;obtain⟨p,hp,W,D⟩:=hr.ents;obtain⟨j,hj⟩:=bf hy;have hlt:j<N.toList.length:=(ag.1 hj).1;have C:j<p.length:=by omega
    have F:N.findIdx? (λe=>(e.born:Int)==(n:Int))=some j:=by
     have hlt':j<N.size:=by omega
     have hg0:N[j]=y:=by grind
     rw[Array.findIdx?_eq_some_iff_getElem];refine⟨hlt',by grind,λi hi=>?_⟩;have hnd:=ct.1 hr.apart i j (by grind) (by grind) hi;grind
    have hq1:p[j].1=k:=RepVal.uniq hr.flat (D j y p[j] hj (af C)).1 hyk;have hrun:(Instr.entryStore T (a.eval m) (a.eval s) (a.eval v)).run P w=.ok () (w.putObj b (.map (N.modify j λe=>{ e with val:=a.eval v }) cl)):=by
     unfold Instr.entryStore;rw[B,A];simp[Sem.run_bind,q0f hb,Result.andThen_ok,asInt,asIntOf,Sem.run_pure,F,q5d _ hb]
    obtain⟨ok2,X⟩:=q6u okI M hb (cl':=cl) (obj':=.mapo ak av O Z (C9 O l k x.1)) (by rw[t];trivial) (es':=N.modify j λe=>{ e with val:=a.eval v }) λhxx=>by
     refine⟨b,c,_,cl,M,World.putObj_heap_same (au.1 hb).1,?_⟩;have:=hr.setAt hp W D hj (af C) (kv:=y.key) (vv:=a.eval v) (y:=x.1) (by grind) G.1 (f:=λe=>{ e with val:=a.eval v }) rfl;rw[hq1]at this;exact this.mono hxx.free
    exact⟨κ,_,by grind[execOp,Sem.run_bind,Result.andThen_ok,Sem.run_pure],ok2,U.trans X⟩
   grind
  grind
 grind
theorem k22 (c:∀t d,C.TI t=some d->d.OK P t) (f:o.op=.mapEntry T m i) (e:q8f C T (ev ρ m) (ev ρ i) h id' K=some z) :
  ∃q,K q=some z/\q.full=none/\∀a b,ev a m=ev ρ m->ev a i=ev ρ i->(∀id∈q.rd,b id=h id)->(∀p∈q.ups,b p.1=h p.1)->A9 P L w0 o a b (q.heap b) q.av:=by
 obtain⟨q,g,k,j,-⟩:=y5c (P:=P) (L:=L) (w0:=w0) c f e;grind
end Go.Abs
