/- The engine, part 11c: operations on maps. -/
import Derived.Test.YtppblbacbmebfaaGreatDoorAbsSound9
namespace Go.Abs
open Go Go.RowKit
variable {P:Program} {L:Nat->Prop} {w0:World}
theorem RepVal.uniq {w w':World} {A A':Nat->Prop} {b:Bool} {a:Ty} (c:a.flat=true) {v:Value} {x y:a.den} (h:RepVal w A b a v x) (h':RepVal w' A' b a v y):x=y:=by
 cases b with
 | true =>
  obtain⟨i,f,-,-,g⟩:=h
  obtain⟨d,e,-,-,j⟩:=h'
  grind[q51]
 | false=>exact(q51 a c _ _ x y h.2.2 h'.2.2).2 fun _ _=>rfl
open Classical in
theorem MapRep.find {K:TypeId} {ak av:Bool} {tk tv:Ty} (hK:KeyTy P K ak tk) {w w1 w':World} {A A':Nat->Prop} {l:List (tk.den×tv.den)} {es:Array MapEntry} {clock:Nat} (hr:MapRep w A ak av tk tv l es clock) {v:Value} {k:tk.den} (hv:RepVal w' A' ak tk v k) :
  ∃ p:List (tk.den×tv.den),p.Perm l/\p.length=es.toList.length/\(∀ (i:Nat) (x:MapEntry) (q:tk.den×tv.den),es.toList[i]? = some x->p[i]? = some q->RepVal w A ak tk x.key q.1/\RepVal w A av tv x.val q.2) /\
   ((∃ i x q,es.toList[i]? = some x/\p[i]? = some q/\q.1=k/\(Instr.findKey K v es.toList).run P w1=.ok (some (i,x.val)) w1/\A9 tk l k=some q.2) \/
    ((∀ q∈p,q.1≠k)/\(Instr.findKey K v es.toList).run P w1=.ok none w1/\A9 tk l k=none)):=by
 obtain⟨p,hp,hlen,hent⟩:=hr.ents
 refine⟨p,hp,hlen,hent,?_⟩
 let b:MapEntry->Bool:=fun e=>if ∃ y,RepVal w A ak tk e.key y/\tk.eqb k y=true then true else false
 have hb:∀ (i:Nat) (x:MapEntry) (q:tk.den×tv.den),es.toList[i]? = some x->p[i]? = some q->b x=tk.eqb k q.1:=fun i x q h1 h2=>by
  have h3:=(hent i x q h1 h2).1
  cases hq:tk.eqb k q.1 with
  | true=>exact if_pos ⟨q.1,h3,hq⟩
  | false =>
   refine if_neg ?_
   rintro ⟨y,h4,h5⟩
   rw[RepVal.uniq hr.flat h4 h3,hq]at h5;cases h5
 have hrun:=hK.find w1 w' A' v k b es.toList hv (fun e he=>by
  obtain⟨i,hi⟩:=List.getElem?_of_mem he
  have hlt:i<p.length:=by rw[hlen];exact(List.getElem?_eq_some_iff.1 hi).1
  have hk':tk.flat=true:=hr.flat
  have h3:=(hent i e p[i] hi (List.getElem?_eq_getElem hlt)).1
  refine⟨p[i].1,?_,hb i e p[i] hi (List.getElem?_eq_getElem hlt)⟩
  exact RepVal.flatMono hk' h3)
 cases hfi:es.toList.findIdx? b with
 | none =>
  refine .inr ⟨fun q hq e=>?_,by rw[hrun,hfi];rfl,(q2m hr.flat).2 fun q hq e=>?_⟩
  ·obtain⟨i,hi⟩:=List.getElem?_of_mem hq
   have hlt:i<es.toList.length:=by rw[<-hlen];exact(List.getElem?_eq_some_iff.1 hi).1
   have h1:=List.findIdx?_eq_none_iff.1 hfi _ (List.getElem_mem hlt)
   rw[hb i _ q (List.getElem?_eq_getElem hlt) hi,e,tk.eqb_self hr.flat]at h1;cases h1
  ·obtain⟨i,hi⟩:=List.getElem?_of_mem (hp.mem_iff.2 hq)
   have hlt:i<es.toList.length:=by rw[<-hlen];exact(List.getElem?_eq_some_iff.1 hi).1
   have h1:=List.findIdx?_eq_none_iff.1 hfi _ (List.getElem_mem hlt)
   rw[hb i _ q (List.getElem?_eq_getElem hlt) hi,e,tk.eqb_self hr.flat]at h1;cases h1
 | some i =>
  obtain⟨hlt,hbi,_⟩:=List.findIdx?_eq_some_iff_getElem.1 hfi
  have hlt':i<p.length:=by rw[hlen];exact hlt
  have hbq:=hb i _ p[i] (List.getElem?_eq_getElem hlt) (List.getElem?_eq_getElem hlt')
  rw[hbi]at hbq
  have hk:=(tk.eqb_iff hr.flat _ _).1 hbq.symm
  refine .inl ⟨i,es.toList[i],p[i],List.getElem?_eq_getElem hlt,List.getElem?_eq_getElem hlt',hk.symm,?_,?_⟩
  ·rw[hrun,hfi,Option.bind_some,List.getElem?_eq_getElem hlt];rfl
  ·refine(W0 hr.flat hr.rise).2 (hp.mem_iff.1 ?_)
   rw[hk];exact List.getElem_mem hlt'
theorem q2q {κ:A2} {h:Heap} {w:World} (g:HeapOK L w0 κ h w) {id b:Nat} {c:Nat×Nat} (i:κ id=some (b,c)) {q es':Array MapEntry} {r cl':Nat} (n:w.heap[b]? = some (.map q r)) {obj':AObj} (f:(h id).like obj')
  (p:Ext L κ h w κ (upd h id obj') (w.putObj b (.map es' cl'))->RepObj L κ (upd h id obj') (w.putObj b (.map es' cl')) id obj') :
  HeapOK L w0 κ (upd h id obj') (w.putObj b (.map es' cl'))/\Ext L κ h w κ (upd h id obj') (w.putObj b (.map es' cl')):=by
 have a:∀ e,e≠b->(w.putObj b (.map es' cl')).heap[e]? = w.heap[e]?:=fun e j=>World.putObj_heap_other j
 have d:(w.putObj b (.map es' cl')).heap.size=w.heap.size:=by simp
 have m:=P3 (L:=L) (κ:=κ) (h:=h) (obj':=obj') i f (.inl (.inr (.inl ⟨_,_,n⟩))) d a
 have l:=g.own id b c (AObj.like_live f).1 i
 exact⟨Q4 g i f d a (g.below.trans ⟨rfl,rfl,rfl,by simp,fun k o=>World.putObj_heap_other (by omega),Nat.le_refl _⟩) (p m),m⟩
theorem K7 {w:World} {r:Nat} {a:Array MapEntry} {b:Nat} (c:w.heap[r]? = some (.map a b)):(getObj r).run P w=.ok (.map a b) w:=by grind[getObj,Sem.run]
theorem q0u {w:World} {r:Nat} {a:Array MapEntry} {b:Nat} (o:Obj) (c:w.heap[r]? = some (.map a b)):(setObj r o).run P w=.ok () (w.putObj r o):=by grind[setObj,Sem.run,World.putObj]
theorem RepVal.cells {κ:A2} {h:Heap} {w:World} {a:Bool} {t:Ty} {v:Value} {y:t.den} (d:RepVal w (A3 L κ h w) a t v y):RepAV L κ h w (y0t a t y) v/\RepComp L κ h w (a,q28 a t y) v:=by
 cases a with
 | true =>
  obtain⟨e,f,m,g,l⟩:=d
  have:RepCells L κ h w (F6 t y) e:=⟨by grind[R2],fun i s c j k=>by
   grind[T2]⟩
  exact⟨⟨e,f,this⟩,e,f,this⟩
 | false=>exact⟨d,d⟩
theorem q9o {d:TInfo} {T:TypeId} (a:d.OK P T):F9 d.zeros=[]:=by
 obtain⟨⟨i,z,-,-,-,-,k,f,h⟩,-⟩:=a.base
 apply List.flatMap_eq_nil_iff.2
 intro s e
 obtain⟨j,g⟩:=List.getElem?_of_mem e
 have b:j<z.cells.size:=by grind
 have:=h j s _ g (Array.getElem?_eq_getElem b)
 cases s<;>first | rfl | exact this.elim
theorem j23 {κ:A2} {h:Heap} {w:World} (ok:HeapOK L w0 κ h w) {V:TypeId} {a:TInfo} (f:a.OK P V) {av:Bool} {e:Ty} (p:q3c a av e=true) {hs:Heap} {z:e.den} (x:D2 hs e a.zeros=some (z,[])) :
  ∃ v,(zeroValue V).run P w=.ok v w/\RepVal w (A3 L κ h w) av e v z:=by
 simp only[q3c,Bool.and_eq_true,decide_eq_true_eq,beq_iff_eq]at p
 obtain⟨⟨D,C⟩,g⟩:=p
 have g:=Nat.eq_of_beq_eq_true g
 obtain⟨i,d,q,t,-,k,n,B,l,b⟩:=f.zero_one (L:=L)
 have u:=f.zeroT i d q k
 have y:=q9o f
 have m:D2 h e a.zeros=some (z,[]):=(U1 e a.zeros (fun id A=>by grind)).trans x
 obtain⟨H,G,E⟩:=U2 ok (Ext.refl L κ h w) e a.zeros (fun c=>d.cells.toList[c]?) z [] (fun j s F=>W3 (l κ h w) F) (fun id A=>by grind) m
 refine⟨d,by unfold zeroValue;simp[q61 q,k],?_⟩
 cases av with
 | true =>
  cases d with
  | agg r=>exact⟨r.toList,by simp,by have:r.size=a.size:=n;grind,b,E⟩
  | _=>grind[q4d]
 | false =>
  have I:d.cells=#[d]:=by cases d<;>first | rfl | grind[q4d]
  have o:a.size=1:=by grind
  refine⟨g.trans o,b d (by grind),?_⟩
  grind[RepAt.congr,F7]
theorem z2f {R:Type} {C:Ctx} (c:∀ t d,C.TI t=some d->d.OK P t) {T:TypeId} {h av:Bool} {i g:Ty} {K:TInfo->Option R} {z:R} (b:q1q C T h av i g K=some z) :
  ∃ k v a,P.underlying T=some (.map k v)/\KeyTy P k h i/\a.OK P v/\q3c a av g=true/\K a=some z:=by
 unfold q1q at b
 split at b
 ·rename_i d m
  split at b
  ·rename_i k v n
   split at b
   ·rename_i e a l j
    obtain⟨f,b⟩:=P0 b
    rw[Bool.and_eq_true]at f
    exact⟨k,v,a,(c T d m).mapT k v n,q7n (c k e l) f.1,c v a j,f.2,b⟩
   grind
  grind
 grind
theorem q2p {κ:A2} {h:Heap} {w:World} {ρ:Env} {a:Act} (d:∀ x,RepAV L κ h w (ev ρ x) (a.eval x)) (p:HeapOK L w0 κ h w) {m:Operand} {id:Nat} (r:ev ρ m=.one (.mp id)) {o av:Bool} {e f:Ty} {l:List (e.den×f.den)} (i:h id=.mapo o av e f l) :
  ∃ b c j g,κ id=some (b,c)/\a.eval m=.map (some b)/\w.heap[b]? = some (.map j g)/\MapRep w (A3 L κ h w) o av e f l j g:=by
 have k:=d m
 rw[r]at k
 obtain⟨_,b,c,u,y⟩:=k
 have n:=p.obj id
 rw[i]at n
 obtain⟨v,z,j,g,q,t,s⟩:=n
 grind
theorem z5k {κ:A2} {h:Heap} {w:World} {ρ:Env} {a:Act} (g:∀ x,RepAV L κ h w (ev ρ x) (a.eval x)) (f:HeapOK L w0 κ h w) {d:List (Bool×Ty)} {xs:List Operand} {e:I8 d} {ids:List Nat} (j:F5 h d (xs.map (ev ρ))=some (e,ids)) :
  P9 w (A3 L κ (A5 (B3 h ids) h) w) d (xs.map a.eval) e:=by
 obtain⟨k,c,b⟩:=R8 ids f
 exact q2b f c d (xs.map (ev ρ)) (xs.map a.eval) e ids (by simp) (fun i l v m n=>by
  grind) j b
theorem q1n {κ:A2} {h:Heap} {w:World} {ρ:Env} {a:Act} (d:∀ x,RepAV L κ h w (ev ρ x) (a.eval x)) (f:HeapOK L w0 κ h w) {c:Bool} {b:Ty} (g:b.flat=true) {i:Operand} {k:I8 [(c,b)]} {ids:List Nat} (e:F5 h [(c,b)] [ev ρ i]=some (k,ids)) :
 RepVal w (A3 L κ h w) c b (a.eval i) k.1:=(z5k d f (xs:=[i]) e).1.flatMono g
theorem v5o {R:Type} {C:Ctx} (m:∀ t s,C.TI t=some s->s.OK P t) {o:Oper} {T:TypeId} {r:Option Operand} (G:o.op=.makeMap T r) {ρ:Env} {h:Heap} {id':Nat} {K:Eff->Option R} {z:R} (e:z7r C T h id' (r.map (ev ρ)) K=some z) :
  ∃ q,K q=some z/\q.full=none/\∀ j f,(∀ p∈q.ups,f p.1=h p.1)->A6 P L w0 o j f (q.heap f) q.av:=by
 unfold z7r at e
 split at e
 ·have E:r=none:=by simp_all
  subst E
  split at e
  ·rename_i k v M
   split at e
   ·rename_i b d A J
    obtain⟨n,e⟩:=P0 e
    rw[Bool.and_eq_true]at n
    have H:=q7n (m k b A) n.1
    unfold H5 at e
    split at e
    ·rename_i D
     refine⟨_,e,rfl,fun j f F=>?_⟩
     have g:f id'=.fresh:=(F (id',.mapo b.agg d.agg b.ty d.ty []) (by simp)).trans D
     refine I4 (fun c n=>by grind) fun κ a w y B=>?_
     have u:=R3 (L:=L) (κ:=κ) (h:=f) (w:=w) (.map #[] 0) (AObj.mapo b.agg d.agg b.ty d.ty []) 0 g
     refine⟨_,.map (some w.heap.size),w.alloc (.map #[] 0),?_,V4 B _ _ 0 g ⟨w.heap.size,0,#[],0,A1 _ _ _,heap_alloc_new w _,?_⟩,⟨by show(upd f id' _ id').Held;rw[A1];simp,_,_,A1 _ _ _,rfl⟩,u⟩
     ·unfold execOp
      simp[G,Instr.makeMap]
     ·exact⟨H.flat,List.Pairwise.nil,by simp,fun x u=>by grind,[],List.Perm.refl _,rfl,fun i x q I=>by grind⟩
    grind
   grind
  grind
 grind
theorem v5g {R:Type} {C:Ctx} (hti:∀ t ti,C.TI t=some ti->ti.OK P t) {o:Oper} {T:TypeId} {m i:Operand} {d:Bool} (ho:o.op=.lookup T m i d) {ρ:Env} {h:Heap} {K:Eff->Option R} {z:R} (E:q4t C T (ev ρ m) (ev ρ i) d h K=some z) :
  ∃ q,K q=some z/\q.full=none/\∀ s A,ev s m=ev ρ m->ev s i=ev ρ i->(∀ id∈q.rd,A id=h id)->A6 P L w0 o s A (q.heap A) q.av:=by
 unfold q4t at E
 split at E
 ·rename_i id hm
  split at E
  ·rename_i ak av tk Y l V
   obtain⟨KT,VT,tiv,hT,hK,Z,O,E⟩:=z2f hti E
   split at E
   ·rename_i k ids z0 hk hz
    refine⟨_,E,rfl,fun s A e1 e2 N=>?_⟩
    have G:A id=h id:=N id (by simp)
    refine D1 (fun c hc=>by grind) fun U a w H ok=>?_
    show ∃ v,_/\RepAV L U A w _ v
    obtain⟨b,c,es,cl,hkb,J,hb,hr⟩:=q2p H ok (e1.trans hm) (G.trans V)
    have F:=q1n H ok hr.flat (i:=i) (by rw[e2];exact T0 _ _ _ _ hk (fun j r=>N j (List.mem_cons_of_mem _ r)))
    obtain⟨zv,W,hzv⟩:=j23 ok Z O hz
    obtain⟨p,hp,hlen,I,D⟩:=hr.find (w1:=w) hK F
    have B:=hK.chk es.isEmpty w w _ _ _ F
    have fin:∀ (u:Value) (y:Y.den) (b:Bool),(∃ S,(Instr.findKey KT (a.eval i) es.toList).run P w=.ok S w/\((∃ j,S=some (j,u)/\b=true)\/(S=none/\u=zv/\b=false)))->RepVal w (A3 L U A w) av Y u y ->
      ∃ v,(execOp a.eval o).run P w=.ok (.value v) w/\RepAV L U A w (q5e d av Y y b) v:=by
     rintro u y b' ⟨S,Q,hu⟩ M
     have e:=M.cells
     have X:(Instr.lookup T (a.eval m) (a.eval i) d).run P w=.ok (if d then .tuple #[u,.bool b']else u) w:=by
      unfold Instr.lookup
      rcases hu with⟨j,rfl,rfl⟩ | ⟨rfl,rfl,rfl⟩
      ·simp[run_underlying hT,J,K7 hb,B,Q]
      ·simp[run_underlying hT,J,K7 hb,B,Q,W]
     refine⟨if d then .tuple #[u,.bool b']else u,by unfold execOp;simp_all,?_⟩
     cases d with
     | false=>exact e.1
     | true =>
      refine⟨[u,.bool b'],rfl,rfl,fun j cc uu r g=>?_⟩
      match j,r,g with
      | 0,r,g=>cases r;cases g;exact e.2
      | 1,r,g=>cases r;cases g;exact⟨rfl,rfl,rfl⟩
      | n+2,r,_=>simp at r
    rcases D with⟨j,x,q,h1,h2,h3,h4,h5⟩ | ⟨h1,h2,h3⟩
    ·rw[h5,Option.getD_some,Option.isSome_some]
     exact fin x.val q.2 true ⟨_,h4,.inl ⟨j,rfl,rfl⟩⟩ (I j x q h1 h2).2
    simp_all
   grind
  grind
 grind
theorem v5f {R:Type} {C:Ctx} (hti:∀ t ti,C.TI t=some ti->ti.OK P t) {o:Oper} {T:TypeId} {m i:Operand} (ho:o.op=.lookup T m i true) {ρ:Env} {h:Heap} {K:Eff->Option R} {z:R} (he:z7o C T (ev ρ m) (ev ρ i) h K=some z) :
  ∃ q,K q=some z/\q.full=none/\∀ ρs hs,ev ρs m=ev ρ m->ev ρs i=ev ρ i->(∀ id∈q.rd,hs id=h id)->A6 P L w0 o ρs hs (q.heap hs) q.av:=by
 unfold z7o at he
 split at he
 ·rename_i id hm
  split at he
  ·rename_i ak tk ma mb mc md l hid
   obtain⟨KT,VT,tiv,hT,hK,htv,hvok,he⟩:=z2f hti he
   split at he
   ·rename_i k ids hk hz
    have main:∀ (s:SV) (bo:Bool),(∀ (κ:A2) (hs:Heap) (a:Act) w (ρs:Env),(∀ x,RepAV L κ hs w (ev ρs x) (a.eval x))->HeapOK L w0 κ hs w->hs id=h id->(∀ j∈ids,hs j=h j)->ev ρs m=ev ρ m->ev ρs i=ev ρ i ->
      ∃ u:Value,(Instr.lookup T (a.eval m) (a.eval i) true).run P w=.ok (.tuple #[u,.bool bo]) w/\RepSV L κ hs w s u) ->
      ∀ ρs hs,ev ρs m=ev ρ m->ev ρs i=ev ρ i->(∀ j∈id::ids,hs j=h j)->A6 P L w0 o ρs hs hs (.tup [(false,[s]),(false,[.sc .bool bo])]):=fun s bo hrun ρs hs e1 e2 hrd=>by
     refine D1 (fun c hc=>by rw[ho]at hc;cases hc) fun κ a w hev ok=>?_
     obtain⟨u,h1,h2⟩:=hrun κ hs a w ρs hev ok (hrd id (by simp)) (fun j hj=>hrd j (List.mem_cons_of_mem _ hj)) e1 e2
     refine⟨.tuple #[u,.bool bo],by unfold execOp;rw[ho];simp only[Sem.run_bind,h1,Result.andThen_ok,Sem.run_pure],[u,.bool bo],rfl,rfl,fun j cc uu hj hu'=>?_⟩
     match j,hj,hu' with
     | 0,hj,hu'=>cases hj;cases hu';exact h2
     | 1,hj,hu'=>cases hj;cases hu';exact⟨rfl,rfl,rfl⟩
     | n+2,hj,_=>simp at hj
    have pre:∀ (κ:A2) (hs:Heap) (a:Act) w (ρs:Env),(∀ x,RepAV L κ hs w (ev ρs x) (a.eval x))->HeapOK L w0 κ hs w->hs id=h id->(∀ j∈ids,hs j=h j)->ev ρs m=ev ρ m->ev ρs i=ev ρ i ->
      ∃ b es cl,a.eval m=.map (some b)/\w.heap[b]? = some (.map es cl)/\MapRep w (A3 L κ hs w) ak false tk (.map ma mb mc md) l es cl/\RepVal w (A3 L κ hs w) ak tk (a.eval i) k.1:=fun κ hs a w ρs hev ok hi hj e1 e2=>by
     obtain⟨b,c,es,cl,hkb,hmv,hb,hr⟩:=q2p hev ok (e1.trans hm) (hi.trans hid)
     exact⟨b,es,cl,hmv,hb,hr,q1n hev ok hr.flat (i:=i) (by rw[e2];exact T0 _ _ _ _ hk hj)⟩
    cases hg:A9 tk l k.1 with
    | some y =>
     rw[hg]at he
     refine⟨_,he,rfl,main (.sc (.map ma mb mc md) y) true fun κ hs a w ρs hev ok hi hj e1 e2=>?_⟩
     obtain⟨b,es,cl,hmv,hb,hr,hkv⟩:=pre κ hs a w ρs hev ok hi hj e1 e2
     obtain⟨p,hp,hlen,hent,hcase⟩:=hr.find (w1:=w) hK hkv
     have hchk:=hK.chk es.isEmpty w w _ _ _ hkv
     rcases hcase with⟨j,x,q,h1,h2,h3,h4,h5⟩ | ⟨h1,h2,h3⟩
     ·rw[hg]at h5
      cases h5
      have hv:=(hent j x q h1 h2).2
      refine⟨x.val,?_,hv.1,hv.2.1,hv.2.2⟩
      unfold Instr.lookup
      simp[run_underlying hT,hmv,K7 hb,hchk,h4]
     ·rw[hg]at h3;cases h3
    | none =>
     rw[hg]at he
     refine⟨_,he,rfl,main .mpn false fun κ hs a w ρs hev ok hi hj e1 e2=>?_⟩
     obtain⟨b,es,cl,hmv,hb,hr,hkv⟩:=pre κ hs a w ρs hev ok hi hj e1 e2
     obtain⟨p,hp,hlen,hent,hcase⟩:=hr.find (w1:=w) hK hkv
     have hchk:=hK.chk es.isEmpty w w _ _ _ hkv
     rcases hcase with⟨j,x,q,h1,h2,h3,h4,h5⟩ | ⟨h1,h2,h3⟩
     ·rw[hg]at h5;cases h5
     ·obtain⟨i0,zv,hi0,hisz,-,hiz,hzs,hzl,hrep,hone⟩:=htv.zero_one (L:=L)
      have hagg:=htv.zeroT i0 zv hi0 hiz
      simp only[q3c,Bool.and_eq_true,beq_iff_eq]at hvok
      rw[hvok.1.2]at hagg
      have hc:zv.cells=#[zv]:=by cases zv<;>first | rfl | simp[q4d]at hagg
      have hzr:(zeroValue VT).run P w=.ok zv w:=by unfold zeroValue;simp[q61 hi0,hiz]
      refine⟨zv,?_,?_⟩
      ·unfold Instr.lookup
       simp[run_underlying hT,hmv,K7 hb,hchk,h2,hzr]
      ·have:=(hrep κ hs w).2 0 .mpn zv (by rw[hz];rfl) (by rw[hc];rfl)
       exact this.1
   ·cases he
  ·cases he
 ·cases he
def q9w (TI:TypeId->Option TInfo) (T:TypeId) (tv:Ty) (z:tv.den):Prop :=
 ∃ ti k v tiv,TI T=some ti/\ti.mp=some (k,v)/\TI v=some tiv/\F9 tiv.zeros=[]/\∃ h,D2 h tv tiv.zeros=some (z,[])
theorem v7q {TI:TypeId->Option TInfo} {T:TypeId} {a:Ty} {z b:a.den} (h:q9w TI T a z) (h':q9w TI T a b):z=b:=by
 obtain⟨w,k,v,e,g,r,m,q,i,u⟩:=h
 obtain⟨d,j,l,c,s,t,n,o,f,p⟩:=h'
 grind[U1]
def q4c (TI:TypeId->Option TInfo) (T:TypeId) (o o':AObj):Prop :=
 ∃ ak av tk tv l k g z,o=.mapo ak av tk tv l/\o'=.mapp ak av tk tv (D0 tk l k z) k g/\q9w TI T tv z
theorem y8j {a:Type} {t:Ty} (b:t.flat=true) (l:List (t.den×a)) (k j:t.den) (z:a):(A9 t (D0 t l k z) j).getD z=(A9 t l j).getD z:=by
 unfold D0
 by_cases h:j=k
 all_goals grind[q2o,q2n]
theorem j6k {R:Type} {C:Ctx} (b:∀ t d,C.TI t=some d->d.OK P t) {T:TypeId} {l av:Bool} {n e:Ty} {K:TInfo->Option R} {z:R} (c:q1q C T l av n e K=some z) :
  ∃ k v a,P.underlying T=some (.map k v)/\KeyTy P k l n/\a.OK P v/\q3c a av e=true/\K a=some z/\∀ h y,D2 h e a.zeros=some (y,[])->q9w C.TI T e y:=by
 unfold q1q at c
 split at c
 ·rename_i d j
  split at c
  ·rename_i k v m
   split at c
   ·rename_i f a o g
    obtain⟨i,c⟩:=P0 c
    rw[Bool.and_eq_true]at i
    exact⟨k,v,a,(b T d j).mapT k v m,q7n (b k f o) i.1,b v a g,i.2,c,fun h y p=>⟨d,k,v,a,j,m,g,q9o (b v a g),h,p⟩⟩
   grind
  grind
 grind
theorem y8n {κ:A2} {h:Heap} {w:World} {ρ:Env} {a:Act} (e:∀ x,RepAV L κ h w (ev ρ x) (a.eval x)) (r:HeapOK L w0 κ h w) {m:Operand} {id:Nat} (t:ev ρ m=.one (.mp id)) {q av:Bool} {d f:Ty} {l:List (d.den×f.den)} {k:d.den} {g:Nat} (j:h id=.mapp q av d f l k g) :
  ∃ b c n i,κ id=some (b,c)/\a.eval m=.map (some b)/\w.heap[b]? = some (.map n i)/\MapRep w (A3 L κ h w) q av d f l n i:=by
 have o:=e m
 rw[t]at o
 obtain⟨_,b,c,y,A⟩:=o
 have p:=r.obj id
 rw[j]at p
 obtain⟨z,B,n,i,s,v,u,-⟩:=p
 grind
theorem j6a {o:Oper} {T:TypeId} {m i:Operand} (ho:o.op=.lookup T m i false) {ρs:Env} {hs:Heap} {Q av:Bool} {n e:Ty} {l:List (n.den×e.den)} {O X:TypeId} {s:TInfo} (Z:P.underlying T=some (.map O X)) (R:KeyTy P O Q n) (H:s.OK P X) (t:q3c s av e=true)
  {h:Heap} {Y:e.den} (hz:D2 h e s.zeros=some (Y,[])) {k:n.den}
  (J:∀ f (a:Act) w,(∀ x,RepAV L f hs w (ev ρs x) (a.eval x))->HeapOK L w0 f hs w->∃ b z K,a.eval m=.map (some b)/\w.heap[b]? = some (.map z K)/\MapRep w (A3 L f hs w) Q av n e l z K/\RepVal w (A3 L f hs w) Q n (a.eval i) k) :
  A6 P L w0 o ρs hs hs (q5e false av e ((A9 n l k).getD Y) (A9 n l k).isSome):=by
 refine D1 (fun c hc=>by grind) fun f a w I ok=>?_
 obtain⟨b,z,K,E,U,hr,B⟩:=J f a w I ok
 obtain⟨zv,G,hzv⟩:=j23 ok H t hz
 obtain⟨p,hp,V,C,r⟩:=hr.find (w1:=w) R B
 have g:=R.chk z.isEmpty w w _ _ _ B
 have N:∀ (u:Value) (y:e.den) (b:Bool),(∃ F,(Instr.findKey O (a.eval i) z.toList).run P w=.ok F w/\((∃ j,F=some (j,u)/\b=true)\/(F=none/\u=zv/\b=false)))->RepVal w (A3 L f hs w) av e u y ->
   ∃ v,(execOp a.eval o).run P w=.ok (.value v) w/\RepAV L f hs w (q5e false av e y b) v:=by
  rintro u y b' ⟨F,A,hu⟩ D
  have M:(Instr.lookup T (a.eval m) (a.eval i) false).run P w=.ok u w:=by
   unfold Instr.lookup
   rcases hu with⟨j,rfl,rfl⟩ | ⟨rfl,rfl,rfl⟩
   ·simp[run_underlying Z,E,K7 U,g,A]
   ·simp[run_underlying Z,E,K7 U,g,A,G]
  exact⟨u,by grind[execOp,Sem.run_bind,Result.andThen_ok,Sem.run_pure],D.cells.1⟩
 rcases r with⟨j,x,q,S,W,h3,h4,h5⟩ | ⟨S,W,h3⟩
 ·rw[h5,Option.getD_some,Option.isSome_some]
  exact N x.val q.2 true ⟨_,h4,.inl ⟨j,rfl,rfl⟩⟩ (C j x q S W).2
 simp_all
theorem v5h {R:Type} {C:Ctx} (G:∀ t X,C.TI t=some X->X.OK P t) {o:Oper} {T:TypeId} {m i:Operand} (W:o.op=.lookup T m i false) {ρ:Env} {h:Heap} {K:Eff->Option R} {z:R} (r:q4t C T (ev ρ m) (ev ρ i) false h K=some z) :
  ∃ q,K q=some z/\q.full=none/\(∀ d e,ev d m=ev ρ m->ev d i=ev ρ i->(∀ id∈q.rd,e id=h id)->A6 P L w0 o d e (q.heap e) q.av) /\
   ∀ id,q.rd=[id]->h id≠.fresh/\∀ d e,ev d m=ev ρ m->ev d i=ev ρ i->q4c C.TI T (h id) (e id)->A6 P L w0 o d e (q.heap e) q.av:=by
 unfold q4t at r
 split at r
 ·rename_i id hm
  split at r
  ·rename_i ak S s V l A
   obtain⟨KT,VT,tiv,hT,H,x,n,r,M⟩:=j6k G r
   split at r
   ·rename_i k ids D hk I
    refine⟨_,r,rfl,fun d e F Q u=>?_,fun id2 v=>?_⟩
    ·have B:e id=h id:=u id (by simp)
     refine j6a W hT H x n I fun κ a w f E=>?_
     obtain⟨b,c,U,Y,N,y,Z,J⟩:=q2p f E (F.trans hm) (B.trans A)
     exact⟨b,U,Y,y,Z,J,q1n f E J.flat (i:=i) (by rw[Q];exact T0 _ _ _ _ hk (fun j hj=>u j (List.mem_cons_of_mem _ hj)))⟩
    ·obtain⟨rfl,rfl⟩:=v
     refine⟨by grind,fun d e F Q p=>?_⟩
     obtain⟨ak',av',tk',tv',l',O,g,z',s1,s2,s3⟩:=p
     rw[A]at s1
     cases s1
     have hzz:=v7q (M _ _ I) s3
     have hf:s.flat=true:=H.flat
     rw[show q5e false S V ((A9 s l k.1).getD D) (A9 s l k.1).isSome=q5e false S V ((A9 s (D0 s l O D) k.1).getD D) (A9 s (D0 s l O D) k.1).isSome from by
      rw[y8j hf];rfl]
     refine j6a W hT H x n I fun κ a w f E=>?_
     obtain⟨b,c,U,Y,N,y,Z,J⟩:=y8n f E (F.trans hm) s2
     grind[q1n,T0]
   grind
  grind
 grind
theorem y0s {h:Heap} {ids:List Nat} {id:Nat} {o:AObj}:A5 (B3 h ids++[(id,o)]) h=upd (A5 (B3 h ids) h) id o:=by
 rw[I9];rfl
theorem MapRep.setAt {w:World} {A:Nat->Prop} {g av:Bool} {c a:Ty} {l:List (c.den×a.den)} {b:Array MapEntry} {n:Nat} (d:MapRep w A g av c a l b n) {p:List (c.den×a.den)} (s:p.Perm l) (h:p.length=b.toList.length)
  (m:∀ (i:Nat) (x:MapEntry) (q:c.den×a.den),b.toList[i]? = some x->p[i]? = some q->RepVal w A g c x.key q.1/\RepVal w A av a x.val q.2) {i:Nat} {x:MapEntry} {q:c.den×a.den} (h1:b.toList[i]? = some x) (u:p[i]? = some q)
  {kv vv:Value} {y:a.den} (C:RepVal w A g c kv q.1) (B:RepVal w A av a vv y) {f:MapEntry->MapEntry} (t:f x={ x with key:=kv,val:=vv }):MapRep w A g av c a (B0 c l q.1 y) (b.modify i f) n:=by
 have o:(b.modify i f).toList=b.toList.set i { x with key:=kv,val:=vv }:=by
  rw[Array.toList_modify]
  apply List.ext_getElem?
  grind
 refine⟨d.flat,q0l d.flat d.rise,?_,fun z e=>?_,p.set i (q.1,y),j1a d.flat s d.rise u y,by grind,fun j z r e v=>?_⟩
 ·rw[o,List.map_set]
  have:(b.toList.map (·.born)).set i x.born=b.toList.map (·.born):=by
   apply List.ext_getElem?
   grind
  rw[this];exact d.apart
 ·rw[o]at e
  rcases List.mem_or_eq_of_mem_set e with e | e
  ·exact d.early z e
  ·rw[e];exact d.early x (List.mem_of_getElem? h1)
 grind
theorem MapRep.pushAt {w:World} {A:Nat->Prop} {m av:Bool} {c d:Ty} {l:List (c.den×d.den)} {h:Array MapEntry} {n:Nat} (f:MapRep w A m av c d l h n) {p:List (c.den×d.den)} (u:p.Perm l) (t:p.length=h.toList.length)
  (s:∀ (i:Nat) (x:MapEntry) (q:c.den×d.den),h.toList[i]? = some x->p[i]? = some q->RepVal w A m c x.key q.1/\RepVal w A av d x.val q.2) {k:c.den} (o:∀ q∈p,q.1≠k)
  {kv vv:Value} {y:d.den} (E:RepVal w A m c kv k) (F:RepVal w A av d vv y):MapRep w A m av c d (B0 c l k y) (h.push { key:=kv,val:=vv,born:=n }) (n+1):=by
 refine⟨f.flat,q0l f.flat f.rise,?_,fun z g=>?_,p++[(k,y)],j7g f.flat u f.rise o y,by grind,fun j z r g C=>?_⟩
 ·rw[Array.toList_push,List.map_append,List.nodup_append]
  refine⟨f.apart,by simp,fun a D b v e=>?_⟩
  simp at v
  obtain⟨x,B,rfl⟩:=List.mem_map.1 D
  have:=f.early x B
  omega
 ·rw[Array.toList_push]at g
  rcases List.mem_append.1 g with g | g
  ·have:=f.early z g;omega
  grind
 grind
theorem MapRep.eraseAt {w:World} {A:Nat->Prop} {e av:Bool} {a c:Ty} {l:List (a.den×c.den)} {b:Array MapEntry} {g:Nat} (d:MapRep w A e av a c l b g) {p:List (a.den×c.den)} (n:p.Perm l) (k:p.length=b.toList.length)
  (h:∀ (i:Nat) (x:MapEntry) (q:a.den×c.den),b.toList[i]? = some x->p[i]? = some q->RepVal w A e a x.key q.1/\RepVal w A av c x.val q.2) {i:Nat} {x:MapEntry} {q:a.den×c.den} (h1:b.toList[i]? = some x) (s:p[i]? = some q) :
  MapRep w A e av a c (G5 a l q.1) (b.eraseIdxIfInBounds i) g:=by
 have m:(b.eraseIdxIfInBounds i).toList=b.toList.eraseIdx i:=by
  simp_all
 refine⟨d.flat,z2c d.rise,?_,fun z f=>?_,p.eraseIdx i,y56 d.flat n d.rise s,by grind,fun j z r f o=>?_⟩
 ·rw[m]
  exact d.apart.sublist ((List.eraseIdx_sublist _ _).map _)
 ·rw[m]at f
  exact d.early z (List.mem_of_mem_eraseIdx f)
 grind
theorem j8o {R:Type} {C:Ctx} (hti:∀ t ti,C.TI t=some ti->ti.OK P t) {o:Oper} {T:TypeId} {m i v:Operand} (ho:o.op=.mapUpdate T m i v\/o.op=.insert T m i v) {ρ:Env} {h:Heap} {K:Eff->Option R} {z:R} (F:z0n C T (ev ρ m) (ev ρ i) (ev ρ v) h K=some z) :
  ∃ q,K q=some z/\q.full=none/\∀ n s,ev n m=ev ρ m->ev n i=ev ρ i->ev n v=ev ρ v->(∀ id∈q.rd,s id=h id)->A6 P L w0 o n s (q.heap s) q.av:=by
 unfold z0n at F
 split at F
 ·rename_i id hm
  split at F
  ·rename_i ak Z G tv l hid
   obtain⟨KT,VT,tiv,hT,hK,htv,hvok,F⟩:=z2f hti F
   split at F
   ·rename_i x k hx
    obtain⟨X,F⟩:=P0 F
    have X:id∉k:=fun hm=>by have:=List.all_eq_true.1 X id hm;simp_all
    refine⟨_,F,rfl,fun n s e1 e2 e3 hrd=>?_⟩
    have M:s id=.mapo ak Z G tv l:=(hrd id (by simp)).trans hid
    have hx':F5 s [(ak,G),(Z,tv)] ([i,v].map (ev n))=some (x,k):=by
     grind[T0]
    show A6 P L w0 o n s (A5 (B3 h k++[(id,.mapo ak Z G tv (B0 G l x.1 x.2.1))]) s) (.one .unk)
    rw[<-q57 k (fun j hj=>hrd j (List.mem_cons_of_mem _ hj)),y0s]
    refine q0n (fun c hc=>by grind) fun κ a w hev ok=>?_
    obtain⟨U,J,freeI⟩:=R8 k ok
    have d:=z5k hev ok hx'
    have B:A5 (B3 s k) s id=.mapo ak Z G tv l:=(V5 X).trans M
    obtain⟨b,c,es,E,H,hmv,N,-⟩:=q2p hev ok (e1.trans hm) M
    have hr:MapRep w (A3 L κ (A5 (B3 s k) s) w) ak Z G tv l es E:=by
     have:=U.obj id
     rw[B]at this
     obtain⟨b',c',es',cl',hk',hb',hr'⟩:=this
     grind
    obtain⟨p,hp,I,Q,W⟩:=hr.find (w1:=w) hK d.1
    have S:=hK.chk false w w _ _ _ d.1
    have O:∀ o',(Instr.mapUpdate T (a.eval m) (a.eval i) (a.eval v)).run P w=.ok () (w.putObj b o')->(execOp a.eval o).run P w=.ok .skip (w.putObj b o'):=fun o' r=>by
     grind[execOp,Sem.run_bind,Result.andThen_ok,Sem.run_pure]
    have D:∀ l',(A5 (B3 s k) s id).like (.mapo ak Z G tv l'):=fun l'=>by rw[B];trivial
    rcases W with⟨j,y,q,h1,h2,h3,h4,h5⟩ | ⟨h1,h2,h3⟩
    ·have r:(Instr.mapUpdate T (a.eval m) (a.eval i) (a.eval v)).run P w=.ok () (w.putObj b (.map (es.modify j fun e=>{ e with key:=a.eval i,val:=a.eval v }) E)):=by
      unfold Instr.mapUpdate
      have Y:Instr.sameBits 10000 y.key (a.eval i)=true:=hK.same w _ _ _ x.1 (by grind) d.1
      have hgj:es[j]? = some y:=by grind
      simp[run_underlying hT,hmv,K7 N,S,h4,Instr.keyThatStays,hgj,Y,q0u _ N]
     obtain⟨V,u⟩:=q2q U H N (cl':=E) (D (B0 G l x.1 x.2.1)) (es':=es.modify j fun e=>{ e with key:=a.eval i,val:=a.eval v }) fun hx=>by
      refine⟨b,c,_,E,H,World.putObj_heap_same (Array.getElem?_eq_some_iff.1 N).1,?_⟩
      have:=hr.setAt hp I Q h1 h2 (kv:=a.eval i) (vv:=a.eval v) (y:=x.2.1) (by rw[h3];exact d.1) d.2.1 (f:=fun e=>{ e with key:=a.eval i,val:=a.eval v }) rfl
      rw[h3]at this
      exact this.mono hx.free
     exact⟨κ,_,O _ r,V,J.trans u⟩
    ·have r:(Instr.mapUpdate T (a.eval m) (a.eval i) (a.eval v)).run P w=.ok () (w.putObj b (.map (es.push { key:=a.eval i,val:=a.eval v,born:=E }) (E+1))):=by
      unfold Instr.mapUpdate
      simp[run_underlying hT,hmv,K7 N,S,h2,q0u _ N]
     obtain⟨V,u⟩:=q2q U H N (cl':=E+1) (D (B0 G l x.1 x.2.1)) (es':=es.push { key:=a.eval i,val:=a.eval v,born:=E }) fun hx =>
      ⟨b,c,_,E+1,H,World.putObj_heap_same (Array.getElem?_eq_some_iff.1 N).1,(hr.pushAt hp I Q h1 d.1 d.2.1).mono hx.free⟩
     exact⟨κ,_,O _ r,V,J.trans u⟩
   grind
  grind
 grind
theorem j4s {a:Act} {o:Oper} {m i:Operand} {T b:TypeId} (c:o.op=.call { callee:=.builtin .delete,args:=#[m,i],argTypes:=#[T,b] }) {w w':World} {v:Value}
  (h:(Builtin.delete_ #[T,b] o.type #[a.eval m,a.eval i]).run P w=.ok v w'):(execOp a.eval o).run P w=.ok (.value v) w':=by
 unfold execOp
 simp[c,resolve,invoke,builtin,h]
theorem z8j {a:Act} {o:Oper} {m:Operand} {T:TypeId} (b:o.op=.call { callee:=.builtin .clear,args:=#[m],argTypes:=#[T] }) {w w':World} {v:Value}
  (h:(Builtin.clear_ #[T] o.type #[a.eval m]).run P w=.ok v w'):(execOp a.eval o).run P w=.ok (.value v) w':=by
 unfold execOp
 simp[b,resolve,invoke,builtin,h]
theorem v4m {R:Type} {C:Ctx} (hti:∀ t ti,C.TI t=some ti->ti.OK P t) {o:Oper} {T T':TypeId} {m i:Operand} (ho:o.op=.call { callee:=.builtin .delete,args:=#[m,i],argTypes:=#[T,T'] }) {ρ:Env} {h:Heap} {K:Eff->Option R} {z:R} (G:z79 C T (ev ρ m) (ev ρ i) h K=some z) :
  ∃ q,K q=some z/\q.full=none/\∀ n M,ev n m=ev ρ m->ev n i=ev ρ i->(∀ id∈q.rd,M id=h id)->A6 P L w0 o n M (q.heap M) q.av:=by
 unfold z79 at G
 split at G
 ·rename_i id hm
  split at G
  ·rename_i ak av J tv l hid
   obtain⟨KT,VT,tiv,hT,hK,htv,hvok,G⟩:=z2f hti G
   split at G
   ·rename_i k ids I
    refine⟨_,G,rfl,fun n M e1 e2 O=>?_⟩
    have B:M id=.mapo ak av J tv l:=(O id (by simp)).trans hid
    refine I4 (fun c hc=>by grind) fun X a w U W=>?_
    obtain⟨b,c,Z,V,r,N,s,v⟩:=q2p U W (e1.trans hm) B
    have Q:=q1n U W v.flat (i:=i) (by rw[e2];exact T0 _ _ _ _ I (fun j hj=>O j (List.mem_cons_of_mem _ hj)))
    obtain⟨p,hp,A,g,F⟩:=v.find (w1:=w) hK Q
    have D:=hK.chk Z.isEmpty w w _ _ _ Q
    have d:∀ l',(M id).like (.mapo ak av J tv l'):=fun l'=>by rw[B];trivial
    have E:∀ h' w',RepAV L X h' w' (.tup []) (.tuple #[]):=fun h' w'=>⟨[],rfl,rfl,fun j c u hj=>by grind⟩
    rcases F with⟨j,y,q,Y,h2,h3,h4,h5⟩ | ⟨Y,h2,h3⟩
    ·obtain⟨H,f⟩:=q2q W r s (cl':=V) (d (G5 J l k.1)) (es':=Z.eraseIdxIfInBounds j) fun I=>by
      refine⟨b,c,_,V,r,World.putObj_heap_same (Array.getElem?_eq_some_iff.1 s).1,?_⟩
      have:=v.eraseAt hp A g Y h2
      rw[h3]at this
      exact this.mono I.free
     refine⟨X,.tuple #[],_,j4s ho ?_,H,E _ _,f⟩
     unfold Builtin.delete_
     simp[run_underlying hT,N,K7 s,D,h4,q0u _ s]
    ·have hno:G5 J l k.1=l:=List.filter_eq_self.2 fun q hq=>by
      rw[J.eqb_false v.flat (fun e=>Y q (hp.mem_iff.2 hq) e.symm)];rfl
     obtain⟨H,f⟩:=q2q W r s (cl':=V) (d (G5 J l k.1)) (es':=Z) fun I =>
      ⟨b,c,_,V,r,World.putObj_heap_same (Array.getElem?_eq_some_iff.1 s).1,{ flat:=v.flat,rise:=z2c v.rise,apart:=v.apart,early:=v.early,ents:=⟨p,by grind,A,fun i x q a b=>⟨(g i x q a b).1.mono I.free,(g i x q a b).2.mono I.free⟩⟩ }⟩
     refine⟨X,.tuple #[],_,j4s ho ?_,H,E _ _,f⟩
     unfold Builtin.delete_
     simp[run_underlying hT,N,K7 s,D,h2,q0u _ s]
   grind
  grind
 grind
theorem v4e {R:Type} {C:Ctx} (I:∀ t r,C.TI t=some r->r.OK P t) {o:Oper} {T:TypeId} {m:Operand} (Q:o.op=.call { callee:=.builtin .clear,args:=#[m],argTypes:=#[T] }) {ρ:Env} {h:Heap} {K:Eff->Option R} {z:R} (s:z6r C T (ev ρ m) h K=some z) :
  ∃ q,K q=some z/\q.full=none/\∀ e k,ev e m=ev ρ m->(∀ p∈q.ups,k p.1=h p.1)->A6 P L w0 o e k (q.heap k) q.av:=by
 unfold z6r at s
 split at s
 ·rename_i r id V X
  split at s
  ·rename_i M G A D E l y F
   refine⟨_,s,rfl,fun e k Z B=>?_⟩
   have d:k id=.mapo G A D E l:=(B (id,.mapo G A D E []) (by simp)).trans F
   refine I4 (fun c hc=>by grind) fun W a w v N=>?_
   obtain⟨b,c,es,O,g,H,n,Y⟩:=q2p v N (Z.trans X) d
   have S:=(I T r V).mapT M.1 M.2 y
   obtain⟨J,f⟩:=q2q N g n (cl':=O) (obj':=.mapo G A D E []) (by rw[d];trivial) (es':=#[]) fun U =>
    ⟨b,c,_,O,g,World.putObj_heap_same (Array.getElem?_eq_some_iff.1 n).1,Y.flat,List.Pairwise.nil,by simp,fun x U=>by grind,[],List.Perm.refl _,rfl,fun i x q hi=>by grind⟩
   refine⟨W,.tuple #[],_,z8j Q ?_,J,⟨[],rfl,rfl,fun j c u hj=>by grind⟩,f⟩
   unfold Builtin.clear_
   simp[run_underlying S,H,K7 n,q0u _ n]
  grind
 grind
theorem z0w {a:Act} {o:Oper} {m:Operand} {T:TypeId} (b:o.op=.call { callee:=.builtin .len,args:=#[m],argTypes:=#[T] }) {w:World} {v:Value}
  (h:(Builtin.len_ #[T] o.type #[a.eval m]).run P w=.ok v w):(execOp a.eval o).run P w=.ok (.value v) w:=by
 unfold execOp
 simp[b,resolve,invoke,builtin,h]
theorem v5q {R:Type} {C:Ctx} (x:∀ t u,C.TI t=some u->u.OK P t) {o:Oper} {T:TypeId} {m:Operand} (X:o.op=.call { callee:=.builtin .len,args:=#[m],argTypes:=#[T] }) {ρ:Env} {h:Heap} {K:Eff->Option R} {z:R} (v:z7t C T (ev ρ m) h K=some z) :
  ∃ q,K q=some z/\q.full=none/\∀ j r,ev j m=ev ρ m->(∀ id∈q.rd,r id=h id)->A6 P L w0 o j r (q.heap r) q.av:=by
 unfold z7t at v
 split at v
 ·rename_i u id W Q
  split at v
  ·rename_i s U N V S l g y
   refine⟨_,v,rfl,fun j r E n=>?_⟩
   have i:r id=.mapo U N V S l:=(n id (by simp[E9])).trans y
   refine D1 (fun c Z=>by grind) fun κ a w k O=>⟨.int .i64 l.length,?_,H6 _ _⟩
   obtain⟨b,c,H,cl,I,d,D,F⟩:=q2p k O (E.trans Q) i
   have B:=(x T u W).mapT s.1 s.2 g
   obtain⟨p,A,e,-⟩:=F.ents
   have f:H.size=l.length:=by rw[<-A.length_eq,e];simp
   refine z0w X ?_
   unfold Builtin.len_
   simp[run_underlying B,d,K7 D,f,goInt]
  ·rename_i s U N V S l g y
   refine⟨_,v,rfl,fun j r E n=>?_⟩
   have i:r id=.mice U N V S l:=(n id (by simp[E9])).trans y
   refine D1 (fun c Z=>by grind) fun κ a w k O=>⟨.int .i64 l.length,?_,H6 _ _⟩
   have d:=k m
   rw[E,Q]at d
   obtain⟨_,b,c,I,d⟩:=d
   have G:=O.obj id
   rw[i]at G
   obtain⟨b2,c2,H,cl,M,-,D,F⟩:=G
   rw[I]at M;cases M
   have B:=(x T u W).mapT s.1 s.2 g
   obtain⟨p,A,e,-⟩:=F.ents
   have f:H.size=l.length:=by rw[<-A.length_eq,e];simp
   refine z0w X ?_
   unfold Builtin.len_
   simp[run_underlying B,d,K7 D,f,goInt]
  grind
 ·rename_i u U N V S l W Q
  split at v
  ·rename_i s g
   refine⟨_,v,rfl,fun j r E n=>?_⟩
   refine D1 (fun c Z=>by grind) fun κ a w k O=>⟨.int .i64 l.length,?_,H6 _ _⟩
   have d:=k m
   rw[E,Q]at d
   have B:=(x T u W).mapT s.1 s.2 g
   obtain⟨_,_,J⟩:=d
   refine z0w X ?_
   unfold Builtin.len_
   obtain⟨b,H,cl,Y,-,D,F⟩:=J
   ·have Y:a.eval m=.map (some b):=by grind[F7]
    obtain⟨p,A,e,-⟩:=F.ents
    have f:H.size=l.length:=by rw[<-A.length_eq,e];simp
    simp[run_underlying B,Y,K7 D,f,goInt]
  grind
 grind
theorem j4u {κ:A2} {h:Heap} {w:World} {g:Nat} (c:Option (Nat×(Nat×Nat))) (hf:h g=.fresh):Ext L κ h w (upd κ g c) (upd h g .dead) w where
 place j hj:=A0 _ _ (fun e=>hj.1 (e▸hf))
 kid j hd:=by rw[A0 _ _ (fun e=>by rw[e,hf]at hd;cases hd)];exact hd
 arrD j e t l f hl:=by rw[A0 _ _ (fun e=>by rw[e,hf]at hl;cases hl)];exact .inl ⟨l,f,rfl,hl⟩
 arrK j _ _ _ _ l k f hl:=by rw[A0 _ _ (fun e=>by rw[e,hf]at hl;cases hl)];exact .inl ⟨l,rfl,.inl ⟨k,f,hl⟩⟩
 dead j hd:=by rw[A0 _ _ (fun e=>by rw[e,hf]at hd;cases hd)];exact hd
 cells j l hl:=by rw[A0 _ _ (fun e=>by rw[e,hf]at hl;cases hl)];exact .inl ⟨l,hl⟩
 arr j e t l hl:=by rw[A0 _ _ (fun e=>by rw[e,hf]at hl;cases hl)];exact .inl ⟨l,rfl,.inl hl⟩
 ice j e t l hl:=by rw[A0 _ _ (fun e=>by rw[e,hf]at hl;cases hl)];exact .inl hl
 lrec j i s hl:=by rw[A0 _ _ (fun e=>by rw[e,hf]at hl;cases hl)];exact .inl ⟨s,hl⟩
 maps j hl:=by rw[A0 _ _ (fun e=>by rw[e,hf]at hl;cases hl)];exact .inl hl
 iter j _ _ _ _ l c hl:=by rw[A0 _ _ (fun e=>by rw[e,hf]at hl;cases hl)];exact .inl ⟨l,c,hl⟩
 size:=Nat.le_refl _
 loops _ r hr:=⟨r,hr⟩
 defs _ hr:=hr
 still b hb:=by
  obtain⟨h1,h3⟩:=hb
  refine⟨⟨h1,fun j c' hj hk=>?_⟩,rfl⟩
  by_cases hji:j=g
  ·subst hji;rw[A1]at hj;cases hj
  ·rw[A0 _ _ hji]at hj hk;exact h3 j c' hj hk
theorem y6u {κ:A2} {h:Heap} {w:World} (d:HeapOK L w0 κ h w) {g:Nat} (c:Option (Nat×(Nat×Nat))) (p:h g=.fresh):HeapOK L w0 (upd κ g c) (upd h g .dead) w where
 obj j:=by
  by_cases k:j=g
  ·subst k;rw[A1];trivial
  ·rw[A0 h _ k]
   exact RepObj.ext (j4u c p) (A0 _ _ k) (fun _ _ _=>rfl) (fun n=>A0 _ _ (I3 d (N8 p) j n)) (fun _ _ _ _=>rfl) (d.obj j)
 inj i j b o s a l f r:=by
  have m:∀ i,(upd h g .dead i).live=true->i≠g:=fun i a e=>by subst e;rw[A1]at a;cases a
  rw[A0 _ _ (m i a)]at f a;rw[A0 _ _ (m j l)]at r l
  exact d.inj i j b o s a l f r
 own i b o a f:=by
  have m:i≠g:=fun e=>by subst e;rw[A1]at a;cases a
  rw[A0 _ _ m]at f a;exact d.own i b o a f
 below:=d.below
 outer b q:=⟨(d.outer b q).1,fun i o a f=>by
  have m:i≠g:=fun e=>by subst e;rw[A1]at a;cases a
  rw[A0 _ _ m]at f a;exact(d.outer b q).2 i o a f⟩
 kids j l:=by rw[A0 _ _ (fun e=>by rw[<-e,d.kids j l]at p;grind)];exact d.kids j l
theorem j8j {R:Type} {C:Ctx} (hti:∀ t ti,C.TI t=some ti->ti.OK P t) {o:Oper} {T:TypeId} {m i:Operand} (ho:o.op=.mapEntry T m i) {ρ:Env} {h:Heap} {id':Nat} {K:Eff->Option R} {z:R} (J:q6x C T (ev ρ m) (ev ρ i) h id' K=some z) :
  ∃ q,K q=some z/\q.full=none/\(∀ E s,ev E m=ev ρ m->ev E i=ev ρ i->(∀ id∈q.rd,s id=h id)->(∀ p∈q.ups,s p.1=h p.1)->A6 P L w0 o E s (q.heap s) q.av)/\∀ id∈q.ups.map (·.1),h id=.fresh\/q4c C.TI T (h id) (q.heap h id):=by
 unfold q6x at J
 split at J
 ·rename_i id hm
  split at J
  ·rename_i H B d D l hid
   obtain⟨KT,VT,tiv,hT,hK,htv,hvok,J,hzt⟩:=j6k hti J
   split at J
   ·rename_i k ids G hk hz
    unfold H5 at J
    split at J
    ·rename_i hf
     refine⟨_,J,rfl,fun E s e1 e2 hrd hup=>?_,fun id2 hid2=>?_⟩
     rotate_left
     ·simp[List.map_cons,List.map_nil,List.mem_cons,List.not_mem_nil,or_false]at hid2
      by_cases Q:id2=id
      ·subst Q
       exact .inr ⟨H,B,d,D,l,k.1,id',G,hid,A1 _ _ _,hzt _ _ hz⟩
      grind
     have U:s id=.mapo H B d D l:=(hrd id (by simp)).trans hid
     have hfs:s id'=.fresh:=(hup (id',.dead) (by simp)).trans hf
     have hne:id≠id':=fun e=>by grind
     show A6 P L w0 o E s (upd (upd s id' .dead) id (.mapp H B d D (D0 d l k.1 G) k.1 id')) _
     refine I4 (fun c hc=>by grind) fun κ a w hev ok=>?_
     obtain⟨b,c,es,cl,hkb,hmv,hb,hr⟩:=q2p hev ok (e1.trans hm) U
     have A:=q1n hev ok hr.flat (i:=i) (by rw[e2];exact T0 _ _ _ _ hk (fun j I=>hrd j (List.mem_cons_of_mem _ I)))
     obtain⟨zv,hzr,hzv⟩:=j23 ok htv hvok hz
     obtain⟨p,hp,S,r,X⟩:=hr.find (w1:=w) hK A
     have W:=hK.chk false w w _ _ _ A
     have fin:∀ (n:Nat) (u:Value) (y:D.den) (es':Array MapEntry) (cl':Nat),D0 d l k.1 G=B0 d l k.1 y->(A9 d l k.1).getD G=y->RepVal w (A3 L κ s w) B D u y->MapRep w (A3 L κ s w) H B d D (B0 d l k.1 y) es' cl' ->
       (∃ x∈es'.toList,x.born=n/\RepVal w (A3 L κ s w) H d x.key k.1)->(Instr.mapEntry T (a.eval m) (a.eval i)).run P w=.ok (.tuple #[u,.int .i64 n]) (w.putObj b (.map es' cl')) ->
       ∃ Y v w',(execOp a.eval o).run P w=.ok (.value v) w'/\HeapOK L w0 Y (upd (upd s id' .dead) id (.mapp H B d D (D0 d l k.1 G) k.1 id')) w' /\
        RepAV L Y (upd (upd s id' .dead) id (.mapp H B d D (D0 d l k.1 G) k.1 id')) w' (.tup [(B,q28 B D ((A9 d l k.1).getD G)),(false,[.stmp id'])]) v/\Ext L κ s w Y (upd (upd s id' .dead) id (.mapp H B d D (D0 d l k.1 G) k.1 id')) w':=by
      intro n u y es' cl' hme hge hu hmr hx hrun
      rw[hge]
      have okG:=y6u ok (some (n,0)) hfs
      have V:=j4u (L:=L) (κ:=κ) (w:=w) (some (n,0)) hfs
      have N:upd κ id' (some (n,0)) id=some (b,c):=by grind[A0]
      obtain⟨ok2,ext2⟩:=q2q okG N hb (cl':=cl') (obj':=.mapp H B d D (D0 d l k.1 G) k.1 id') (by rw[A0 _ _ hne,U];trivial) (es':=es') fun hxx=>by
       have hX:=V.trans hxx
       obtain⟨x,x1,x2,x3⟩:=hx
       have hmr':MapRep w (A3 L κ s w) H B d D (D0 d l k.1 G) es' cl':=by grind
       exact⟨b,c,es',cl',N,World.putObj_heap_same (Array.getElem?_eq_some_iff.1 hb).1,hmr'.mono hX.free,by rw[A0 _ _ (Ne.symm hne),A1];simp,n,0,A1 _ _ _,x,x1,x2,x3.mono hX.free⟩
      have hX:=V.trans ext2
      refine⟨_,.tuple #[u,.int .i64 n],_,by grind[execOp,Sem.run_bind,Result.andThen_ok,Sem.run_pure],ok2,⟨[u,.int .i64 n],rfl,rfl,fun j cc uu I F=>?_⟩,hX⟩
      match j,I,F with
      | 0,I,F=>cases I;cases F;exact(hu.cells.2).ext hX
      | 1,I,F=>cases I;cases F;exact⟨by rw[A0 _ _ (Ne.symm hne),A1];simp,n,0,A1 _ _ _,rfl⟩
      | n+2,I,_=>simp at I
     rcases X with⟨j,x,q,O,Q,h3,h4,h5⟩ | ⟨O,Q,h3⟩
     ·have hgj:es[j]? = some x:=by simpa using O
      have Z:Instr.sameBits 10000 x.key (a.eval i)=true:=hK.same w _ _ _ k.1 (by rw[<-h3];exact(r j x q O Q).1) A
      have M:=hr.setAt hp S r O Q (kv:=a.eval i) (vv:=x.val) (y:=q.2) (by rw[h3];exact A) (r j x q O Q).2 (f:=fun e=>{ e with key:=a.eval i }) rfl
      rw[h3]at M
      refine fin x.born x.val q.2 _ cl (by unfold D0;rw[h5];rfl) (by rw[h5];rfl) (r j x q O Q).2 M ⟨{ x with key:=a.eval i },?_,rfl,A⟩ ?_
      ·refine List.mem_of_getElem? (i:=j) ?_
       rw[Array.toList_modify,List.getElem?_modify,O];simp
      ·unfold Instr.mapEntry
       simp[run_underlying hT,hmv,K7 hb,W,h4,Instr.keyThatStays,hgj,Z,q0u _ hb,goInt]
     ·refine fin cl zv G _ (cl+1) (by unfold D0;rw[h3];rfl) (by rw[h3];rfl) hzv (hr.pushAt hp S r O A hzv) ⟨{ key:=a.eval i,val:=zv,born:=cl },by simp,rfl,A⟩ ?_
      unfold Instr.mapEntry
      simp[run_underlying hT,hmv,K7 hb,W,Q,hzr,q0u _ hb,goInt]
    grind
   grind
  grind
 grind
theorem v4o {R:Type} {o:Oper} {T:TypeId} {m s v:Operand} (ho:o.op=.entryStore T m s v) {ρ:Env} {h:Heap} {K:Eff->Option R} {z:R} (he:z7a (ev ρ m) (ev ρ s) (ev ρ v) h K=some z) :
  ∃ q,K q=some z/\q.full=none/\∀ d u,ev d m=ev ρ m->ev d s=ev ρ s->ev d v=ev ρ v->(∀ id∈q.rd,u id=h id)->A6 P L w0 o d u (q.heap u) q.av:=by
 unfold z7a at he
 split at he
 ·rename_i id g hm hsm
  split at he
  ·rename_i ak av O Z l k g' hid
   split at he
   ·rename_i x r hx
    obtain⟨Q,he2⟩:=P0 he
    rw[Bool.and_eq_true]at Q
    obtain⟨Q,H⟩:=Q
    have H:id∉r:=fun hm=>by have:=List.all_eq_true.1 H id hm;simp_all
    have Q:=Nat.eq_of_beq_eq_true Q
    subst Q
    refine⟨_,he2,rfl,fun d u e1 e2 e3 V=>?_⟩
    have Y:u id=.mapp ak av O Z l k g:=(V id (by simp)).trans hid
    have hx':F5 u [(av,Z)] ([v].map (ev d))=some (x,r):=by
     grind[T0]
    show A6 P L w0 o d u (A5 (B3 h r++[(id,.mapo ak av O Z (B0 O l k x.1))]) u) (.one .unk)
    rw[<-q57 r (fun j hj=>V j (List.mem_cons_of_mem _ hj)),y0s]
    refine q0n (fun c hc=>by grind) fun κ a w I ok=>?_
    obtain⟨okI,U,freeI⟩:=R8 r ok
    have G:=z5k I ok hx'
    have t:A5 (B3 u r) u id=.mapp ak av O Z l k g:=(V5 H).trans Y
    have B:=I m
    rw[e1,hm]at B
    obtain⟨_,b,c,M,B⟩:=B
    have A:=I s
    rw[e2,hsm]at A
    obtain⟨_,n,cg,hkg,A⟩:=A
    have hob:=okI.obj id
    rw[t]at hob
    obtain⟨b',c',N,cl,S,hb,hr,-,n',cg',E,y,hy,hyb,hyk⟩:=hob
    rw[M]at S;cases S
    rw[hkg]at E;cases E
    obtain⟨p,hp,W,D⟩:=hr.ents
    obtain⟨j,hj⟩:=List.getElem?_of_mem hy
    have hlt:j<N.toList.length:=(List.getElem?_eq_some_iff.1 hj).1
    have C:j<p.length:=by omega
    have F:N.findIdx? (fun e=>(e.born:Int)==(n:Int))=some j:=by
     have hlt':j<N.size:=by omega
     have hg0:N[j]=y:=by grind
     rw[Array.findIdx?_eq_some_iff_getElem]
     refine⟨hlt',by grind,fun i hi=>?_⟩
     have hnd:=List.pairwise_iff_getElem.1 hr.apart i j (by grind) (by grind) hi
     grind
    have hq1:p[j].1=k:=RepVal.uniq hr.flat (D j y p[j] hj (List.getElem?_eq_getElem C)).1 hyk
    have hrun:(Instr.entryStore T (a.eval m) (a.eval s) (a.eval v)).run P w=.ok () (w.putObj b (.map (N.modify j fun e=>{ e with val:=a.eval v }) cl)):=by
     unfold Instr.entryStore
     rw[B,A]
     simp[Sem.run_bind,K7 hb,Result.andThen_ok,asInt,asIntOf,Sem.run_pure,F,q0u _ hb]
    obtain⟨ok2,X⟩:=q2q okI M hb (cl':=cl) (obj':=.mapo ak av O Z (B0 O l k x.1)) (by rw[t];trivial) (es':=N.modify j fun e=>{ e with val:=a.eval v }) fun hxx=>by
     refine⟨b,c,_,cl,M,World.putObj_heap_same (Array.getElem?_eq_some_iff.1 hb).1,?_⟩
     have:=hr.setAt hp W D hj (List.getElem?_eq_getElem C) (kv:=y.key) (vv:=a.eval v) (y:=x.1) (by grind) G.1 (f:=fun e=>{ e with val:=a.eval v }) rfl
     rw[hq1]at this
     exact this.mono hxx.free
    exact⟨κ,_,by grind[execOp,Sem.run_bind,Result.andThen_ok,Sem.run_pure],ok2,U.trans X⟩
   grind
  grind
 grind
theorem v4n {R:Type} {C:Ctx} (c:∀ t d,C.TI t=some d->d.OK P t) {o:Oper} {T:TypeId} {m i:Operand} (f:o.op=.mapEntry T m i) {ρ:Env} {h:Heap} {id':Nat} {K:Eff->Option R} {z:R} (e:q6x C T (ev ρ m) (ev ρ i) h id' K=some z) :
  ∃ q,K q=some z/\q.full=none/\∀ a b,ev a m=ev ρ m->ev a i=ev ρ i->(∀ id∈q.rd,b id=h id)->(∀ p∈q.ups,b p.1=h p.1)->A6 P L w0 o a b (q.heap b) q.av:=by
 obtain⟨q,g,k,j,-⟩:=j8j (P:=P) (L:=L) (w0:=w0) c f e
 grind
end Go.Abs
