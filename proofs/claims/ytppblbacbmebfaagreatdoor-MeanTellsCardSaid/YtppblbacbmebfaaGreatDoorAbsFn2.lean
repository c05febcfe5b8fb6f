/- The engine, part 20: a function keeps the contract that the evaluator finds. -/
import Derived.Test.YtppblbacbmebfaaGreatDoorAbsFn
namespace Go.Abs
open Go Go.RowKit
variable {P:Program} {L:Nat->Prop} {w0:World}
theorem j7v {w:World} {A A':Nat->Prop} (e:∀ b,A b->A' b) {a:Bool} {t:Ty} {v:Value} {x:t.den} (h:RepVal w A a t v x):RepVal w A' a t v x:=by
 have c:∀ b,A b->A' b/\w.heap[b]? = w.heap[b]?:=fun b g=>⟨e b g,rfl⟩
 cases a with
 | false=>exact⟨h.1,h.2.1,RepAt.mono c t _ _ h.2.2⟩
 | true=>obtain⟨j,f,i,k,d⟩:=h;exact⟨j,f,i,k,RepAt.mono c t _ _ d⟩
def v1a (h:Heap):Option Nat->Prop
 | none=>True
 | some id=>∃ e t l,h id=.arr e t l
theorem j7w {w:World} {A:Nat->Prop} {a:Nat} {f b:Option (Nat×(Nat×Nat))}:∀ {rs:List RTy} {vs:List Value} {y:J2 rs},S5 rs=0->U5 w A a f rs vs y->U5 w A a b rs vs y
 | [],[],_,_,h=>h
 | [],_::_,_,_,h=>h
 | .val _ _::_,[],_,_,h=>h
 | .own _ _::_,[],_,_,h=>h
 | .val c t::r,v::vs,y,d,h=>⟨h.1,j7w (by grind[S5]) h.2⟩
 | .own e t::r,v::vs,y,d,h=>by grind[S5,RTy.isOwn]
theorem q99 {R:Type} {h:Heap}:∀ (rs:List RTy) (E:List AV) (K:J2 rs->List Nat->Option Nat->Option R) (z:R),O4 h rs E K=some z ->
  ∃ y j o,K y j o=some z/\v1a h o/\∀ f w (a:List Value),a.length=E.length->(∀ (i:Nat) (p:AV) (v:Value),E[i]? = some p->a[i]? = some v->RepAV L f h w p v)->HeapOK L w0 f h w ->
   ∀ q,Ext L f h w f q w->(∀ id∈j,q2a (h id)->∀ b c,f id=some (b,c)->A3 L f q w b)->(∀ id,o=some id->q id=h id) ->
   ∀ (A:Nat->Prop),(∀ b,A3 L f q w b->A b)->(∀ id e t l,o=some id->h id=.arr e t l->∀ b,A3 L f h w b->A b)->U5 w A w0.heap.size (o.bind f) rs a y
 | [],[],K,z,g=>⟨(),[],none,g,trivial,fun f w a hl _ _ _ _ _ _ _ _ _=>by
  cases a with
  | nil=>trivial
  | cons v W=>grind⟩
 | [],_::_,K,z,g=>by grind[O4]
 | .val _ _::_,[],K,z,g=>by grind[O4]
 | .own _ _::_,[],K,z,g=>by grind[O4]
 | .val agg t::r,v::W,K,z,g=>by
  simp[O4]at g
  split at g
  ·rename_i y0 O h0
   obtain⟨ys,j,o,N,q,X⟩:=q99 r W _ z g
   refine⟨_,_,o,N,q,fun f w a hl C B T x d Z A F n=>?_⟩
   cases a with
   | nil=>grind
   | cons u S =>
    have ha:=q2b B x [(agg,t)] [v] [u] y0 O rfl (fun i p H J Q=>by
     cases i with
     | zero=>simp at J Q;subst J;subst Q;exact C 0 _ _ rfl rfl
     | succ i=>grind) h0 (fun id hm=>d id (List.mem_append_left _ hm))
    exact⟨j7v F ha.1,X f w S (by grind) (fun i p H J Q=>C (i+1) p H (by grind) (by grind)) B T x (fun id hm=>d id (List.mem_append_right _ hm)) Z A F n⟩
  grind
 | .own e t::r,v::W,K,z,g=>by
  cases v with
  | agg l=>grind[O4]
  | tup l=>grind[O4]
  | one s =>
   cases s with
   | nils =>
    simp[O4]at g
    obtain⟨ys,j,o,N,q,X⟩:=q99 r W _ z g
    cases o with
    | some id=>grind
    | none =>
     refine⟨_,j,none,N,trivial,fun f w a hl C B T x d Z A F n=>?_⟩
     cases a with
     | nil=>grind
     | cons u S =>
      have G:u=.slice none 0 0:=C 0 _ u rfl rfl
      exact⟨.inl ⟨rfl,rfl,G⟩,X f w S (by grind) (fun i p H J Q=>C (i+1) p H (by grind) (by grind)) B T x d Z A F n⟩
   | own id =>
    simp[O4]at g
    split at g
    ·rename_i e' t' l k
     split at g
     ·rename_i l' hl'
      obtain⟨m,he2⟩:=A8 g
      rw[Bool.and_eq_true]at m
      have hoc:=Nat.eq_of_beq_eq_true m.2
      have m:=Nat.eq_of_beq_eq_true m.1
      obtain⟨htt,V⟩:=H2 hl'
      cases htt
      change l=l' at V
      subst V;subst m
      obtain⟨ys,j,o,N,q,X⟩:=q99 r W _ z he2
      cases o with
      | some id=>grind
      | none =>
       refine⟨_,j,some id,N,⟨_,_,_,k⟩,fun f w a hl C B T x d Z A F n=>?_⟩
       cases a with
       | nil=>grind
       | cons u S =>
        have D:=X f w S (by grind) (fun i p H J Q=>C (i+1) p H (by grind) (by grind)) B T x d (fun _ h=>by grind) A F (fun _ _ _ _ h=>by grind)
        refine⟨?_,j7w hoc D⟩
        have G:RepSV L f h w (.own id) u:=C 0 _ u rfl rfl
        have G:=G.1
        rw[k]at G
        have U:=B.obj id
        rw[k]at U
        rcases G with⟨I,a2,a3⟩ | ⟨b,Y,I,a2⟩
        ·exact .inl ⟨I,a2,a3⟩
        ·rcases U with⟨M,_⟩ | ⟨b',cap',cur,M,b2,b3,b4,b5,b6,b7⟩
         ·rw[I]at M;cases M
         ·rw[I]at M;cases M
          refine .inr ⟨b,Y,cur,I,a2,(B.own id b Y (by rw[k];rfl) I).1,b2,b3,b4,b5,b6,fun i y hy=>?_⟩
          have:=RepAt.mono (A':=A) (w':=w) (fun b hb=>⟨n id _ _ _ rfl k b hb,rfl⟩) _ _ y (b7 i y hy)
          simpa[Nat.add_assoc]using this
     grind
    grind
   | _=>simp[O4]at g
theorem z4h {fn:Func} {a:Act} {w:World} {b:List Value} (h:(fn.results.toList.mapM (q41 a)).run P w=.ok b w):(results fn a.tmps).run P w=.ok (q3b b) w:=by
 have d:results fn a.tmps=(fn.results.mapM (q41 a) >>= fun c=>pure (if h:c.size=1 then c[0]else .tuple c)):=by
  rfl
 rw[d,Array.mapM_eq_mapM_toList]
 simp[h]
 match b with
 | []=>rfl
 | [v]=>rfl
 | _::_::_=>rfl
theorem RepAt.cellsEq {w w':World} {A A':Nat->Prop} (c:∀ b,A b->A' b) (d:∀ a:Addr,w'.cell? a=w.cell? a) (f:∀ (b:Nat) n m,w.heap[b]? = some (Obj.map n m)->w'.heap[b]? = some (Obj.map n m)):∀ (t:Ty) (get:Nat->Option Value) (x:t.den),RepAt w A t get x->RepAt w' A' t get x
 | .int _,_,_,h=>h
 | .bool,_,_,h=>h
 | .nil,_,_,_=>trivial
 | .cons a b,get,x,h=>⟨RepAt.cellsEq c d f a get x.1 h.1,RepAt.cellsEq c d f b _ x.2 h.2⟩
 | .list e,get,x,h=>by
  obtain⟨E,B,q,l,H,j,M⟩:=h
  refine⟨E,B,q,l,H,j,fun s=>?_⟩
  obtain⟨b,o,I,p,z⟩:=M s
  refine⟨b,o,I,c b p,fun i y F=>?_⟩
  have:=RepAt.cellsEq c d f e _ y (z i y F)
  simp[d]
  exact this
 | .map N O k v,get,x,h=>by
  obtain⟨b,n,m,G,D,J,K⟩:=h
  exact⟨b,n,m,G,c b D,f _ _ _ J,K.imp (fun y u r=>r.imp fun g l=>RepAt.cellsEq c d f k g y l) (fun y u r=>r.imp fun g l=>RepAt.cellsEq c d f v g y l)⟩
structure SameCells (L:Nat->Prop) (κ:A2) (h:Heap) (w w':World):Prop where
 cell:∀ a:Addr,w'.cell? a=w.cell? a
 size:w'.heap.size=w.heap.size
 maps:∀ (b:Nat) es cl,w.heap[b]? = some (Obj.map es cl)->w'.heap[b]? = some (Obj.map es cl)
theorem SameCells.at {κ:A2} {h:Heap} {w w':World} (x:SameCells L κ h w w') {t:Ty} {get:Nat->Option Value} {v:t.den} (c:RepAt w (A3 L κ h w) t get v):RepAt w' (A3 L κ h w') t get v :=
 RepAt.cellsEq (fun b a=>⟨by rw[x.size];exact a.1,a.2⟩) x.cell x.maps t get v c
theorem SameCells.val {κ:A2} {h:Heap} {w w':World} (x:SameCells L κ h w w') {a:Bool} {t:Ty} {v:Value} {y:t.den} (b:RepVal w (A3 L κ h w) a t v y):RepVal w' (A3 L κ h w') a t v y:=by
 cases a with
 | true=>obtain⟨f,d,g,e,c⟩:=b;exact⟨f,d,g,e,x.at c⟩
 | false=>exact⟨b.1,b.2.1,x.at b.2.2⟩
theorem SameCells.map {κ:A2} {h:Heap} {w w':World} (x:SameCells L κ h w w') {g av:Bool} {f e:Ty} {l:List (f.den×e.den)} {k:Array MapEntry} {c:Nat}
  (d:MapRep w (A3 L κ h w) g av f e l k c):MapRep w' (A3 L κ h w') g av f e l k c where
 flat:=d.flat
 rise:=d.rise
 apart:=d.apart
 early:=d.early
 ents:=by
  obtain⟨p,m,n,j⟩:=d.ents
  exact⟨p,m,n,fun i y q a b=>⟨x.val (j i y q a b).1,x.val (j i y q a b).2⟩⟩
theorem SameCells.sv {κ:A2} {h:Heap} {w w':World} (x:SameCells L κ h w w'):∀ (s:SV) (v:Value),RepSV L κ h w s v->RepSV L κ h w' s v
 | .unk,_,_=>trivial
 | .sc _ _,_,⟨e,d,f⟩=>⟨e,d,x.at f⟩
 | .nils,_,a=>a
 | .nilp,_,a=>a
 | .udf,_,a=>a
 | .ne _ _,_,⟨e,d,f⟩=>⟨e,x.at d,f⟩
 | .nx,_,a=>a
 | .gl _,_,a=>a
 | .cstr _,_,a=>a
 | .gp _ _,_,⟨b,o,e,d,f⟩=>⟨b,o,e,⟨by rw[x.size];exact d.1,d.2⟩,by rw[x.cell];omega⟩
 | .own _,_,a=>a
 | .sub _ _ _,_,a=>a
 | .ptr _ _,_,a=>a
 | .eptr _ _ _ _,_,a=>a
 | .ro t y c,v,⟨b,o,e,d,f⟩=>by
  refine⟨b,o,e,⟨by rw[x.size];exact d.1,d.2⟩,?_⟩
  have:=x.at f
  simp[x.cell]
  omega
 | .fn _ _,_,a=>a
 | .yld _,_,a=>a
 | .mp _,_,a=>a
 | .mpn,_,a=>a
 | .stmp _,_,a=>a
 | .csl _ _ _ _,_,a=>a
 | .nif,_,a=>a
 | .nilf,_,a=>a
 | .pan _,_,a=>a.elim
 | .ifc _ _ _,_,⟨l,e,d,f,k⟩=>⟨l,e,d,f,fun i p u g j=>⟨(k i p u g j).1,(k i p u g j).2.1,x.at (k i p u g j).2.2⟩⟩
 | .bfp _ _ _,_,a=>a
 | .bfn _ _ _,_,⟨l,e,d,f,k⟩=>⟨l,e,d,f,fun i p u g j=>⟨(k i p u g j).1,(k i p u g j).2.1,x.at (k i p u g j).2.2⟩⟩
theorem SameCells.cells {κ:A2} {h:Heap} {w w':World} (x:SameCells L κ h w w') {l:List SV} {cs:List Value} (a:RepCells L κ h w l cs):RepCells L κ h w' l cs :=
 ⟨a.1,fun i s c b d=>⟨x.sv s c (a.2 i s c b d).1,(a.2 i s c b d).2⟩⟩
theorem SameCells.comp {κ:A2} {h:Heap} {w w':World} (x:SameCells L κ h w w'):∀ {c:Bool×List SV} {v:Value},RepComp L κ h w c v->RepComp L κ h w' c v
 | (true,_),_,⟨e,d,b⟩=>⟨e,d,x.cells b⟩
 | (false,[s]),v,a=>x.sv s v a
 | (false,[]),_,a=>a.elim
 | (false,_::_::_),_,a=>a.elim
theorem SameCells.av {κ:A2} {h:Heap} {w w':World} (x:SameCells L κ h w w'):∀ {v:AV} {u:Value},RepAV L κ h w v u->RepAV L κ h w' v u
 | .one s,u,k=>x.sv s u k
 | .agg _,_,⟨f,d,e⟩=>⟨f,d,x.cells e⟩
 | .tup _,_,⟨g,d,e,j⟩=>⟨g,d,e,fun i c u a b=>x.comp (j i c u a b)⟩
theorem j8d {κ:A2} {h:Heap} {w:World} {b:Nat} (c:w.heap[b]? = some (.deferred (some []))):SameCells L κ h w (w.putObj b (.deferred none)) where
 cell a:=by
  grind[World.cell?,World.putObj_heap_same,World.putObj_heap_other]
 size:=by simp
 maps d g e f:=by grind[World.putObj_heap_other]
theorem z5n {κ:A2} {h:Heap} {w w':World} (x:SameCells L κ h w w') {id:Nat} {e:TypeId} {t:Ty} {l:List t.den} (hh:∀ (b:Nat) (c:Array Value) (j:TypeId) (f:Nat×Nat),w.heap[b]? = some (Obj.cells c j f)->w'.heap[b]? = some (Obj.cells c j f))
  (p:RepArr L κ h w id e t l):RepArr L κ h w' id e t l:=by
 rcases p with⟨a,b⟩ | ⟨b,g,d,m,r,o,u,k,q,s⟩
 ·exact .inl ⟨a,b⟩
 ·exact .inr ⟨b,g,d,m,hh _ _ _ _ r,o,u,k,q,fun i y n=>x.at (s i y n)⟩
theorem y7j {κ:A2} {h:Heap} {w w':World} (x:SameCells L κ h w w') {n:Nat} (hh:∀ (b:Nat) (c:Array Value) (e:TypeId) (f:Nat×Nat),w.heap[b]? = some (Obj.cells c e f)->w'.heap[b]? = some (Obj.cells c e f)) :
  ∀ {t:KTy} {v:Value} {y:t.den},RepKid L κ h w n t v y->RepKid L κ h w' n t v y
 | .arr _ _,_,_,⟨d,a⟩=>⟨d,z5n x hh a⟩
 | .map _ _ _ _,_,none,j=>j
 | .map _ _ _ _,_,some _,⟨b,c,p,m,d,a,g,i⟩=>⟨b,c,p,m,d,a,x.maps _ _ _ g,x.map i⟩
 | .ptr _,_,none,j=>j
 | .ptr _,_,some _,⟨b,c,k,e,d,a,g,i,o,l⟩=>⟨b,c,k,e,d,a,hh _ _ _ _ g,i,o,x.at l⟩
theorem j0p {κ:A2} {h:Heap} {w w':World} (x:SameCells L κ h w w') {n:Nat} {o:Option Nat} (hh:∀ (b:Nat) (c:Array Value) (d:TypeId) (f:Nat×Nat),w.heap[b]? = some (Obj.cells c d f)->w'.heap[b]? = some (Obj.cells c d f))
  {t:KTy} {v:Value} {y:t.den} (a:RepPart L κ h w n o t v y):RepPart L κ h w' n o t v y:=by
 cases o with
 | none=>exact y7j x hh a
 | some g=>exact⟨x.sv _ _ a.1,a.2⟩
theorem y6x {κ:A2} {h:Heap} {w:World} (G:HeapOK L w0 κ h w) {b:Nat} (hb:w.heap[b]? = some (.deferred (some []))) (h0:w0.heap.size<=b):HeapOK L w0 κ h (w.putObj b (.deferred none)):=by
 have x:=j8d (L:=L) (κ:=κ) (h:=h) hb
 have A:∀ (d:Nat) (c:Array Value) (S:TypeId) (f:Nat×Nat),w.heap[d]? = some (Obj.cells c S f)->(w.putObj b (.deferred none)).heap[d]? = some (Obj.cells c S f):=fun d c S f hc=>by
  grind[World.putObj_heap_other]
 refine⟨fun id=>?_,G.inj,fun i d c hi R=>by rw[x.size];exact G.own i d c hi R,G.below.trans ⟨rfl,rfl,rfl,by simp,fun k R=>World.putObj_heap_other (by omega),Nat.le_refl _⟩,fun b hL=>⟨by rw[x.size];exact(G.outer b hL).1,(G.outer b hL).2⟩,G.kids⟩
 have j:=G.obj id
 cases C:h id with
 | fresh=>trivial
 | dead=>trivial
 | kid=>trivial
 | arrD e t l f =>
  rw[C]at j
  rcases j with a | ⟨d,J,H,u,v,o,D,I,K,N⟩
  ·exact .inl a
  ·refine .inr ⟨d,J,H,u,A _ _ _ _ v,o,D,I,K,fun i y hy=>?_⟩
   grind[j0p]
 | arrK e t c t1 l k f =>
  rw[C]at j
  rcases j with a | ⟨d,J,H,u,v,o,D,I,K,N,Q,V,h10⟩
  ·exact .inl a
  ·refine .inr ⟨d,J,H,u,A _ _ _ _ v,o,D,I,K,N,Q,fun i y hy=>x.at (V i y hy),fun i y hy=>?_⟩
   grind[j0p]
 | mapD U T t l f =>
  rw[C]at j
  obtain⟨d,B,E,F,u,v,o⟩:=j
  obtain⟨p,Z,X,O⟩:=o.ents
  exact⟨d,B,E,F,u,x.maps _ _ _ v,o.flat,o.rise,o.apart,o.early,p,Z,X,fun i z q hz M=>⟨x.val (O i z q hz M).1,(O i z q hz M).2.1,j0p x A (O i z q hz M).2.2⟩⟩
 | cells l =>
  rw[C]at j
  obtain⟨d,B,cs,S,u,v,o⟩:=j
  exact⟨d,B,cs,S,u,A _ _ _ _ v,x.cells o⟩
 | arr e t l=>rw[C]at j;exact z5n x A j
 | ice e t l=>rw[C]at j;exact⟨z5n x A j.1,fun d c R=>⟨by rw[x.size];exact(j.2 d c R).1,(j.2 d c R).2⟩⟩
 | lrec i s =>
  rw[C]at j
  obtain⟨d,B,r,u,v,o,D,I,K,N,Q,V⟩:=j
  exact⟨d,B,r,u,by grind[World.putObj_heap_other],o,D,I,K,N,Q,fun t=>x.av (V t)⟩
 | mapo U W T Y l =>
  rw[C]at j
  obtain⟨d,B,E,F,u,v,o⟩:=j
  exact⟨d,B,E,F,u,by grind[World.putObj_heap_other],x.map o⟩
 | mapp U W T Y l k g =>
  rw[C]at j
  obtain⟨d,B,E,F,u,v,o,D,n,c2,I,y,K,N,Q⟩:=j
  exact⟨d,B,E,F,u,by grind[World.putObj_heap_other],x.map o,D,n,c2,I,y,K,N,x.val Q⟩
 | mice U W T Y l =>
  rw[C]at j
  obtain⟨d,B,E,F,u,v,o,D⟩:=j
  exact⟨d,B,E,F,u,⟨by rw[x.size];grind,v.2⟩,x.maps _ _ _ o,x.map D⟩
 | iter U W T Y l cu =>
  rw[C]at j
  obtain⟨d,B,m,si,se,c0,u,v,o⟩:=j
  refine⟨d,B,m,si,se,c0,u,by grind[World.putObj_heap_other],⟨?_⟩⟩
  rcases o.map with g | ⟨b4,E,F,g1,g2,g3,g4,g5,g6,g7,⟨p,Z,X,O⟩,g9⟩
  ·grind
  ·refine .inr ⟨b4,E,F,g1,⟨by rw[x.size];grind,g2.2⟩,x.maps _ _ _ g3,g4,g5,g6,g7,⟨p,Z,X,fun i y q a b=>⟨x.val (O i y q a b).1,x.val (O i y q a b).2⟩⟩,fun q C=>?_⟩
   obtain⟨e0,y,y1,y2,y3,y4⟩:=g9 q C
   exact⟨e0,y,y1,y2,x.val y3,x.val y4⟩
theorem X6 {fn:Func} {tmps:Array Value} {m:Nat} {R:Ending->World->Prop} {κ:A2} {h:Heap} {B:Bd} (q:w0.heap.size<=B.n) {u:FrameMode} (x:u≠.run:=by cases h):∀ (e:List Deferred) (w:World),MarksOK B e w->HeapOK L w0 κ h w ->
  ∃ a,HeapOK L w0 κ h a/\(∀ av v,RepAV L κ h w av v->RepAV L κ h a av v)/\a.heap.size=w.heap.size/\(∀ b,b<B.n->a.heap[b]? = w.heap[b]?) /\
   (LeavesInM (Fr none) m P fn tmps R B.tl u a->LeavesInM (Fr none) m P fn tmps R e u w):=by
 intro e w ⟨F,n,t,D,l⟩ o
 induction n generalizing e w with
 | nil=>grind
 | cons b n s =>
  subst D
  obtain⟨A,f⟩:=List.nodup_cons.1 t
  obtain⟨j,i⟩:=l b List.mem_cons_self
  have g:=y6x o i (Nat.le_trans q j)
  obtain⟨a,C,r,E,y,p⟩:=s _ (w.putObj b (.deferred none)) (by simp_all) f rfl (fun k c=>⟨(l k (List.mem_cons_of_mem _ c)).1,by
   grind[World.putObj_heap_other]⟩) g
  refine⟨a,C,fun av v z=>r av v ((j8d i).av z),by simp_all,fun k c=>(y k c).trans (World.putObj_heap_other (by omega)),fun d=>?_⟩
  exact⟨x,.inl ⟨b,_,rfl,run_takeDeferred i,p d⟩⟩
theorem z7e {C:Ctx} {w:World} (S:CtxOK P L w C) (I:P.follows .mixedOrders=true) {f:FuncId} {fn:Func} (hf:P.funcs[f]? = some fn) {an:Ann} {rs:List RTy} {st0:St} {y:J2 rs} (K:q6y C fn an rs st0=some y)
  {κ0:A2} {j:List Value} (V:Sim P L w ⟨w.heap.size,[]⟩ none κ0 st0 { tmps:=j.toArray++Array.replicate (fn.ntmps-j.toArray.size) undef,defers:=[] } w) (m:Nat) :
  CallsIn (Fr none) m P f j.toArray w fun e a=>∃ v,e=.returned v/\Below w.heap.size w a/\S9 L w a rs v y:=by
 unfold q6y at K
 split at K
 ·grind
 ·rename_i c hc
  obtain⟨k,g,hk,-,U⟩:=P1 S I 0 c an _ _ _ y K
  have fin:∀ {d:A2} {s:Act} {J:World},Sim P L w ⟨w.heap.size,[]⟩ none d g s J->∀ F:XK,(F=.nrm\/F=.ret)->(q03 C g fn.results.toList fun z=>O4 g.h rs z fun y p o=>cond (match o with
   | some id=>!E4 p id
   | none=>true) (some y) none)=some y->bodyPostM (Fr none) m P fn (fun e a=>∃ v,e=.returned v/\Below w.heap.size w a/\S9 L w a rs v y) F.exit s J:=by
   intro d s J A F hk' he
   obtain⟨z,h1,X⟩:=q5v (P:=P) (L:=L) (w0:=w) (fun t Y h=>S.ti t Y h) fn.results.toList _ y he
   obtain⟨a,q,N,szE,-,D⟩:=X6 (P:=P) (fn:=fn) (tmps:=s.tmps) (m:=m) (u:=.returning) (R:=fun e a=>∃ v,e=.returned v/\Below w.heap.size w a/\S9 L w a rs v y) (B:=⟨w.heap.size,[]⟩) (Nat.le_refl _) (by grind) s.defers J A.defs A.heap
   obtain⟨n,g1,g2,g3,g4⟩:=X d s a (fun t=>N _ _ (A.env t)) q
   obtain⟨y',p,o,Q,r2,Z⟩:=q99 (L:=L) (w0:=w) rs z _ y h1
   obtain⟨hno,Q⟩:=A8 Q
   cases Q
   obtain⟨i1,i2,i3⟩:=R8 (w0:=w) p q
   have r:∀ id,o=some id->A5 (B3 g.h p) g.h id=g.h id:=fun id ho=>by
    grind[V5,memb_iff]
   have W:∀ (M:Heap),(∀ id,o=some id->M id=g.h id)->∀ b,A3 L d M a b->(b<a.heap.size/\¬ L b/\∀ c,o.bind d≠some (b,c)):=fun M hq b G=>⟨G.1,G.2.1,fun c O=>by
    cases o with
    | none=>grind
    | some id =>
     obtain⟨e,t,l,H⟩:=r2
     exact G.2.2 id c (by rw[hq id rfl,H];rfl) O⟩
   have E:=Z d a n g2 g4 q _ i2 i3 r (fun b=>b<a.heap.size/\¬ L b/\∀ c,o.bind d≠some (b,c)) (W _ r) (fun id e t l ho H b G=>W g.h (fun _ _=>rfl) b G)
   have x:LeavesInM (Fr none) m P fn s.tmps (fun e a=>∃ v,e=.returned v/\Below w.heap.size w a/\S9 L w a rs v y) s.defers .returning J :=
    D ⟨_,z4h g1,_,rfl,q.below,o.bind d,n,rfl,E⟩
   cases F with
   | nrm=>exact x
   | ret=>exact x
   | ex i=>grind
   | pan T=>grind
  refine callsIn_of_wp_marks hf hc trivial ?_
  cases k with
  | nrm=>grind
  | ret=>grind
  | ex i=>grind
  | pan T=>grind
theorem E1 {C:Ctx} (l:∀ L h,GlobOK C.glob h->CtxOK P L h C) (c:P.follows .mixedOrders=true) {f:FuncId} {fn:Func} (j:P.funcs[f]? = some fn) (b:(fn.name== "runtime.NumGoroutine")=false) {an:Ann} {e:List (Bool×Ty)} {rs:List RTy}
  {g:I8 e->Option (J2 rs)} (q:fn.body.isSome=true) (k:∀ x,y5d C fn an e rs x=g x):FunOK' P C.glob f { args:=e,res:=rs,f:=g }:=by
 refine⟨fun x y d L w i n p a m=>?_,fn,j,q,b⟩
 simp at d a ⊢
 rw[<-k x]at d
 obtain⟨o,d⟩:=A8 d
 exact z7e (l L w n) c j d (j2t p a (Nat.le_of_ble_eq_true o)) m
theorem y5j {C:Ctx} (O:∀ L M,GlobOK C.glob M->CtxOK P L M C) (j:P.follows .mixedOrders=true) {f:FuncId} {fn:Func} (F:P.funcs[f]? = some fn) (k:(fn.name== "runtime.NumGoroutine")=false) {an:Ann} {e:Ty} {rs:List RTy}
  {g:I8 [(false,.list e)]->Option (J2 rs)} (z:fn.body.isSome=true) (hn:1<=fn.ntmps) (h1:q6y C fn an rs (z2u (.one .nx) fn.ntmps)=g ([],())) (Z:∀ l,q6y C fn an rs (z2u (.one (.ne e l)) fn.ntmps)=g (l,())) :
  FunOK' P C.glob f { args:=[(false,.list e)],res:=rs,f:=g }:=by
 refine⟨fun x y p L w n I S a m=>?_,fn,F,z,k⟩
 simp at p a ⊢
 obtain⟨l,u⟩:=x
 match n,a with
 | [v],a =>
  obtain⟨⟨_,Q,W⟩,-⟩:=a
  obtain⟨G,c,d,B,r,q,R⟩:=W
  have B:v=.slice G c d:=by grind[F7]
  have s:∀ A:AV,RepAV L (fun _=>none) E7 w A v->Sim P L w ⟨w.heap.size,[]⟩ none (fun _=>none) (z2u A fn.ntmps) { tmps:=[v].toArray++Array.replicate (fn.ntmps - [v].toArray.size) undef,defers:=[] } w:=fun A E=>by
   refine⟨by grind[z2u],fun t=>?_,j6u S,MarksOK.nil (Nat.le_refl _),fun l N=>by grind⟩
   show RepAV L _ _ _ (upd (fun _=>AV.one .unk) 0 A t) _
   by_cases J:t=0
   ·subst J
    have Y:([v].toArray++Array.replicate (fn.ntmps - [v].toArray.size) undef).getD 0 undef=v:=by simp[Array.getD_eq_getD_getElem?,Array.getElem?_append]
    rw[Y];exact E
   ·rw[A0 _ _ J];trivial
  cases G with
  | none =>
   have N:l=[]:=by
    grind
   subst N
   have V:c=0:=by omega
   subst V
   rw[<-h1]at p
   exact z7e (O L w I) j F p (s _ ⟨d,B⟩) m
  | some K =>
   rw[<-Z]at p
   refine z7e (O L w I) j F p (s _ ⟨Q,⟨some K,c,d,by omega,r,q,fun D=>?_⟩,K,c,d,B⟩) m
   obtain⟨b,o,T,H,X⟩:=R D
   exact⟨b,o,T,⟨H.1,H.2,fun _ _ _ h=>by grind⟩,fun i y U=>RepAt.mono (fun b z=>⟨⟨z.1,z.2,fun _ _ _ h=>by grind⟩,rfl⟩) e _ y (X i y U)⟩
theorem j65 {κ:A2} {h:Heap} {w:World}:∀ (args:List AV) (b:List Value) (i:Nat),b.length=args.length->(∀ (j:Nat) (a:AV) (v:Value),args[j]? = some a->b[j]? = some v->RepAV L κ h w a v) ->
  (∀ (j:Nat) (v:Value),b[j]? = some v->RepAV L κ h w (q0k i args (i+j)) v)/\∀ t,t<i\/i+args.length<=t->q0k i args t=.one .unk
 | [],[],i,_,_=>⟨fun j v d=>by grind,fun _ _=>rfl⟩
 | [],_::_,_,c,_=>by grind
 | _::_,[],_,c,_=>by grind
 | a::r,v::f,i,c,e=>by
  obtain⟨g,k⟩:=j65 r f (i+1) (by grind) (fun j a v l m=>e (j+1) a v (by grind) (by grind))
  refine⟨fun j u d=>?_,fun t n=>?_⟩
  ·simp[q0k]
   cases j with
   | zero =>
    grind[A1]
   | succ j =>
    grind[A0]
  ·simp[q0k]
   grind[A0]
theorem z1y {κ:A2} {h:Heap} {w:World} {lo:Nat->Bool} {args:List AV} {b:List Value} {n:Nat} (c:b.length=args.length) (g:∀ (j:Nat) (a:AV) (v:Value),args[j]? = some a->b[j]? = some v->RepAV L κ h w a v) (d:HeapOK L w0 κ h w) (i:args.length<=n) :
  Sim P L w0 ⟨w.heap.size,[]⟩ none κ { ρ:=q0k 0 args,h,lt:=fun _=>false,lo,n } { tmps:=b.toArray++Array.replicate (n-b.toArray.size) undef,defers:=[] } w:=by
 obtain⟨m,f⟩:=j65 (L:=L) (κ:=κ) (h:=h) (w:=w) args b 0 c g
 refine⟨by grind,fun t=>?_,d,MarksOK.nil (Nat.le_refl _),fun l c=>by grind⟩
 by_cases e:t<b.length
 ·have k:(b.toArray++Array.replicate (n-b.toArray.size) undef).getD t undef=b[t]:=by
   simp[Array.getD_eq_getD_getElem?,Array.getElem?_append,e]
  grind
 ·show RepAV L _ _ _ (q0k 0 args t) _
  rw[f t (by omega)]
  trivial
theorem j7x {κ:A2} {h:Heap} {w:World} {d:List AV} {b:List Value} (o:b.length=d.length) (k:d.all z2q=true) (j:∀ (i:Nat) (g:AV) (v:Value),d[i]? = some g->b[i]? = some v->RepAV L κ h w g v) :
  RepAV L κ h w (q1z d) (q3b b):=by
 have e:q1z d=.tup (d.map q4n)->q3b b=.tuple b.toArray->RepAV L κ h w (q1z d) (q3b b):=fun p t=>by
  rw[p,t]
  refine⟨b,rfl,by grind,fun i c u m q=>?_⟩
  rw[List.getElem?_map]at m
  cases f:d[i]? with
  | none=>grind
  | some g =>
   rw[f]at m
   cases m
   have n:=j i g u f q
   have r:=List.all_eq_true.1 k g (List.mem_of_getElem? f)
   cases g with
   | one s=>exact n
   | agg l=>exact n
   | tup l=>cases r
 match d,b,o,j,e with
 | [a],[v],_,j,_=>exact j 0 a v rfl rfl
 | [],[],_,_,e=>exact e rfl rfl
 | _::_::_,_::_::_,_,_,e=>exact e rfl rfl
theorem j81 {κ:A2} {h:Heap} {w:World}:∀ (ps:List Tmp) (args:List AV) (b:List Value) (ρ:Env) (tmps:Array Value),args.length=ps.length->b.length=ps.length->(∀ t∈ps,t<tmps.size) ->
  (∀ (i:Nat) (a:AV) (v:Value),args[i]? = some a->b[i]? = some v->RepAV L κ h w a v)->(∀ t,RepAV L κ h w (ρ t) (tmps.getD t undef)) ->
  ((ps.zip b).foldl (fun tmps (t,a)=>tmps.setIfInBounds t a) tmps).size=tmps.size/\∀ t,RepAV L κ h w (z4l ps args ρ t) (((ps.zip b).foldl (fun tmps (t,a)=>tmps.setIfInBounds t a) tmps).getD t undef)
 | [],_,_,_,_,_,_,_,_,j=>⟨rfl,by simpa[z4l]using j⟩
 | _::_,[],_,_,_,e,_,_,_,_=>by grind
 | _::_,_::_,[],_,_,_,e,_,_,_=>by grind
 | p::ps,a::args,v::b,ρ,tmps,e,n,g,d,k=>by
  obtain⟨o,f⟩:=j81 ps args b (upd ρ p a) (tmps.setIfInBounds p v) (by grind) (by grind) (fun t c=>by grind)
   (fun i a v m l=>d (i+1) a v (by grind) (by grind)) (fun t=>by
    by_cases c:t=p
    ·subst c
     rw[A1]
     simp[Array.getD_eq_getD_getElem?,Array.getElem?_setIfInBounds_self_of_lt (g t List.mem_cons_self),Option.getD_some]
     exact d 0 a v rfl rfl
    ·rw[A0 _ _ c]
     simp[Array.getD_eq_getD_getElem?,Array.getElem?_setIfInBounds_ne (Ne.symm c)]
     simp_all)
  exact⟨by simp_all,f⟩
theorem j7n {κ:A2} {h:Heap} {w:World} (n:HeapOK L w0 κ h w) {id:Nat} {i:RI} {s:RS} (k:h id=.lrec i s) (s':RS) :
  ∃ b c,κ id=some (b,c)/\∃ r:Loop,w.heap[b]? = some (.loop r)/\r.state=s.state/\r.pending=s.pend/\∀ a:Loop,a.state=s'.state->a.pending=s'.pend->a.params=r.params->a.assign=r.assign->a.body=r.body->a.tmps=r.tmps ->
   HeapOK L w0 κ (upd h id (.lrec i s')) (w.putObj b (.loop a))/\Ext L κ h w κ (upd h id (.lrec i s')) (w.putObj b (.loop a)):=by
 have u:=n.obj id
 rw[k]at u
 obtain⟨b,c,r,m,o,F,A,C,x,D,J,I⟩:=u
 refine⟨b,c,m,r,o,F,A,fun a G B E z y H=>?_⟩
 have f:(w.putObj b (.loop a)).heap.size=w.heap.size:=by simp
 have p:b<w.heap.size:=(Array.getElem?_eq_some_iff.1 o).1
 have j:(w.putObj b (.loop a)).heap[b]? = some (.loop a):=World.putObj_heap_same p
 have d:∀ l,l≠b->(w.putObj b (.loop a)).heap[l]? = w.heap[l]?:=fun l q=>World.putObj_heap_other q
 have g:(h id).like (.lrec i s'):=by rw[k];rfl
 have e:=P3 (L:=L) (κ:=κ) (h:=h) m g (.inr ⟨r,_,o,j⟩) f d
 have v:=n.own id b c (by rw[k];rfl) m
 exact⟨Q4 n m g f d (n.below.trans ⟨rfl,rfl,rfl,by simp,fun l q=>d l (by omega),Nat.le_refl _⟩)
  ⟨b,c,a,m,j,G,B,E.trans C,z.trans x,y.trans D,by grind,fun t=>by grind[RepAV.ext]⟩,e⟩
def y1b (P:Program) (L:Nat->Prop) (w0:World) (f:FuncId) (g:List AV->Heap->(Nat->Bool)->Nat->(R:Type)->(AV->Heap->Option R)->Option R):Prop :=
 ∀ args h lo ib (R:Type) (K:AV->Heap->Option R) (z:R),g args h lo ib R K=some z->∃ av h',K av h'=some z/\(∀ id,lo id=true->h' id=h id) /\
  ∀ κ w (vals:List Value),vals.length=args.length->(∀ (i:Nat) (a:AV) (v:Value),args[i]? = some a->vals[i]? = some v->RepAV L κ h w a v)->HeapOK L w0 κ h w ->
   ∀ m,CallsIn (Fr none) m P f vals.toArray w (EndOK L w0 κ h w h' av)
def q9b:List Addr->List Value->World->World
 | a::as,v::vs,w=>q9b as vs (w.setCell a v)
 | _,_,w=>w
structure DefF (P:Program) (di:DefI):Prop where
 fn:∃ fn,P.funcs[di.g]? = some fn/\fn.body.isSome=true/\(fn.name== "runtime.NumGoroutine")=false
 ret:∀ (as:List Addr) (w:World) (m:Nat),as.length=di.vs.length->CallsDIn (Fr none) m P di.g (as.map fun a=>Value.pointer (some a)).toArray .returning w fun e u w'=>(∃ v,e=.returned v)/\u=.returning/\w'=w
 pan:∀ (as:List Addr) (w:World) (m:Nat) (us:List Value),as.length=di.vs.length->di.vs.mapM q2d=some us->(∀ a∈as,a.spot=none/\∃ c ty,w.heap[a.block]? = some (.cells c ty (0,0))/\a.off<c.size) ->
  CallsDIn (Fr none) m P di.g (as.map fun a=>Value.pointer (some a)).toArray (.panicking [pv di.X]) w fun e u w'=>(∃ v,e=.returned v)/\u=.panicking [{ pv di.X with recovered:=true }]/\∃ o,w'=q9b as us (w.alloc o)
theorem y4m {s:SV} {v:Value} (h:q2d s=some v) {κ:A2} {h':Heap} {w:World}:RepSV L κ h' w s v/\v.oneCell'=true:=by
 unfold q2d at h
 split at h
 ·cases h;exact⟨rfl,rfl⟩
 ·cases h;exact⟨H6 _ _,rfl⟩
 ·cases h;exact⟨P6 _,rfl⟩
 grind
theorem v6g {w:World} {b a:Nat} {c:Array Value} {ty:TypeId} {d:Nat×Nat} {v:Value} (h:w.heap[b]? = some (.cells c ty d)):w.setCell ⟨b,a,none⟩ v=w.setRow b (c.setIfInBounds a v):=by
 unfold World.setCell
 congr 1
 apply Array.ext_getElem?
 grind[setRow_heap,setRow_other]
theorem v6u {κ:A2} {h:Heap} {w:World} (u:HeapOK L w0 κ h w) {id b a:Nat} {c:Nat×Nat} {l:List SV} {s:SV} {v:Value} (k:h id=.cells l) (o:κ id=some (b,c)) (C:a<l.length) (I:q2d s=some v) :
  HeapOK L w0 κ (upd h id (.cells (l.set a s))) (w.setCell ⟨b,a,none⟩ v)/\Ext L κ h w κ (upd h id (.cells (l.set a s))) (w.setCell ⟨b,a,none⟩ v):=by
 have t:=u.obj id
 rw[k]at t
 obtain⟨m,D,B,G,n,f,p⟩:=t
 rw[o]at n;obtain⟨rfl,rfl⟩:=n
 rw[v6g f]
 have j:(h id).live=true:=by rw[k];rfl
 have r:=u.own id b c j o
 have d:(h id).like (.cells (l.set a s)):=by rw[k];trivial
 have e:(w.setRow b (B.toArray.setIfInBounds a v)).heap.size=w.heap.size:=by simp
 have g:∀ m,m≠b->(w.setRow b (B.toArray.setIfInBounds a v)).heap[m]? = w.heap[m]?:=fun m A=>setRow_other w b m _ A
 have q:=P3 (L:=L) (κ:=κ) (h:=h) o d (.inl (.inl ⟨_,_,_,f⟩)) e g
 refine⟨Q4 u o d e g (X0 _ u.below r.1) ⟨b,c,B.set a v,G,o,by grind[setRow_heap],?_⟩,q⟩
 refine⟨by simp[p.1],fun i F D z y=>?_⟩
 rw[List.getElem?_set]at z y
 by_cases x:a=i
 ·grind[y4m]
 ·rw[if_neg x]at z y
  obtain⟨E,H⟩:=p.2 i F D z y
  exact⟨E.ext q,H⟩
theorem y0g {lo:Nat->Bool} {κ:A2}:∀ (e:List (Nat×Nat)) (vs:List SV) (j:List Addr) (m:List Value) (h k:Heap) (w:World),L9 lo e vs h=some k->HeapOK L w0 κ h w->vs.mapM q2d=some m->j.length=e.length ->
  (∀ (i:Nat) (p:Nat×Nat) (a:Addr),e[i]? = some p->j[i]? = some a->∃ b c,κ p.1=some (b,c)/\a=⟨b,p.2,none⟩)->HeapOK L w0 κ k (q9b j m w)/\Ext L κ h w κ k (q9b j m w)
 | [],[],[],m,h,k,w,d,D,g,q,t=>by
  simp[L9,Option.some.injEq]at d
  subst d
  exact⟨D,Ext.refl _ _ _ _⟩
 | (id,n)::r,s::vs,a::j,m,h,k,w,d,D,g,q,t=>by
  simp[L9]at d
  split at d
  ·rename_i l v y E
   obtain⟨f,d⟩:=A8 d
   rw[Bool.and_eq_true]at f
   have f:n<l.length:=Nat.le_of_ble_eq_true f.1
   rw[List.mapM_cons,E]at g
   cases u:vs.mapM q2d with
   | none=>rw[u]at g;cases g
   | some o =>
    rw[u]at g
    have B:m=v::o:=by simpa using g.symm
    subst B
    obtain⟨b,c,G,F⟩:=t 0 (id,n) a rfl rfl
    subst F
    obtain⟨z,I⟩:=v6u D y G f E
    obtain⟨A,H⟩:=y0g r vs j o _ k _ d z u (by simpa using q) fun i p a C x=>t (i+1) p a C x
    exact⟨A,I.trans H⟩
  ·cases d
 | [],_::_,_,_,_,_,_,d,_,_,_,_=>by grind[L9]
 | _::_,[],_,_,_,_,_,d,_,_,_,_=>by grind[L9]
 | [],[],_::_,_,_,_,_,_,_,_,q,_=>by grind
 | _::_,_::_,[],_,_,_,_,_,_,_,q,_=>by grind
theorem j87 {g:FuncId} {fn:Func} (a:P.funcs[g]? = some fn) (b:fn.body.isSome=true) (c:(fn.name== "runtime.NumGoroutine")=false) (cap:Array Value) (w:World) :
  (invoke (.fn (.func g) cap) #[]).run P w=.ok (.enter g cap) w:=by
 simp[invoke,callFunc,a,Option.isNone_iff_eq_none]
 grind
theorem y0c {lo:Nat->Bool}:∀ (b:List (Nat×Nat)) (vs:List SV) (h j:Heap),L9 lo b vs h=some j->∀ p∈b,∃ l,h p.1=.cells l/\p.2<l.length
 | [],_,_,_,_,p,g=>by grind
 | (id,e)::r,[],_,_,c,_,_=>by grind[L9]
 | (id,e)::r,s::vs,h,j,c,p,g=>by
  simp[L9]at c
  split at c
  ·rename_i l v f n
   obtain⟨a,c⟩:=A8 c
   rw[Bool.and_eq_true]at a
   have a:e<l.length:=Nat.le_of_ble_eq_true a.1
   rcases List.mem_cons.1 g with rfl | g
   ·exact⟨l,f,a⟩
   ·obtain⟨m,i,k⟩:=y0c r vs _ j c p g
    by_cases d:p.1=id
    ·rw[d,A1]at i
     cases i
     exact⟨l,by rw[d];exact f,by simpa using k⟩
    ·rw[A0 _ _ d]at i
     exact⟨m,i,k⟩
  ·cases c
theorem y0d {lo:Nat->Bool}:∀ (a:List (Nat×Nat)) (vs:List SV) (h c:Heap),L9 lo a vs h=some c->a.length=vs.length/\∃ d,vs.mapM q2d=some d
 | [],[],_,_,_=>⟨rfl,[],rfl⟩
 | [],_::_,_,_,b=>by grind[L9]
 | _::_,[],_,_,b=>by grind[L9]
 | (id,i)::r,s::vs,h,c,b=>by
  simp[L9]at b
  split at b
  ·rename_i l v e j
   obtain⟨_,b⟩:=A8 b
   obtain⟨g,d,f⟩:=y0d r vs _ c b
   exact⟨by simp[g],v::d,by rw[List.mapM_cons,j,f];rfl⟩
  ·cases b
theorem y0e {lo:Nat->Bool}:∀ (b:List (Nat×Nat)) (vs:List SV) (h c:Heap),L9 lo b vs h=some c->∀ id,lo id=true->c id=h id
 | [],[],_,_,a,_,_=>by grind[L9]
 | [],_::_,_,_,a,_,_=>by grind[L9]
 | _::_,[],_,_,a,_,_=>by grind[L9]
 | (id,f)::r,s::vs,h,c,a,j,d=>by
  simp[L9]at a
  split at a
  ·obtain⟨g,a⟩:=A8 a
   rw[y0e r vs _ c a j d,A0 _ _ (fun e=>by grind)]
  grind
theorem EndOK.mk_ret {κ:A2} {h:Heap} {w:World} {h':Heap} {av:AV} {v:Value} {κ':A2} {w':World} (h1:HeapOK L w0 κ' h' w') (a:RepAV L κ' h' w' av v) (b:Ext L κ h w κ' h' w'):EndOK L w0 κ h w h' av (.returned v) w':=.inl ⟨v,κ',rfl,h1,a,b⟩
theorem q1i {κ κ':A2} {h h':Heap} {w w1 w':World} (a:Ext L κ h w κ' h' w1) (c:w'.heap.size=w1.heap.size) (d:∀ b,b<w.heap.size->w'.heap[b]? = w1.heap[b]?):Ext L κ h w κ' h' w' :=
 ⟨a.place,a.kid,a.dead,a.cells,a.arr,a.arrD,a.arrK,a.ice,a.lrec,a.maps,a.iter,fun b f=>by
  obtain⟨g,i⟩:=a.still b f
  exact⟨⟨by rw[c];exact g.1,g.2⟩,(d b f.1).trans i⟩,by rw[c];exact a.size,fun b r e=>by
  obtain⟨k,j⟩:=a.loops b r e
  grind,fun b e=>(d b (Array.getElem?_eq_some_iff.1 e).1).trans (a.defs b e)⟩
theorem q6v {R:Type} {C:Ctx} (k:∀ t m,C.TI t=some m->m.OK P t) {fn:Func} {st:St} {K:AV->Heap->Option R} {z:R} (o:q1e C fn st K=some z) :
  ∃ l,K l st.h=some z/\∀ (c:A2) (h:Heap) (w:World) (d:A2) (a:Act) (b:World),(∀ t,RepAV L d st.h b (st.ρ t) (a.tmps.getD t undef))->HeapOK L w0 d st.h b->Ext L c h w d st.h b ->
   ∃ v,(results fn a.tmps).run P b=.ok v b/\EndOK L w0 c h w st.h l (.returned v) b:=by
 obtain⟨s,g,r⟩:=q5v (P:=P) (L:=L) (w0:=w0) k fn.results.toList _ z o
 obtain⟨f,g⟩:=A8 g
 refine⟨_,g,fun c h w d a b e ok j=>?_⟩
 obtain⟨i,q,p,u,n⟩:=r d a b e ok
 exact⟨_,z4h q,.mk_ret ok (j7x p f n) j⟩
theorem j44 {R:Type} {lo:Nat->Bool} {X:TypeId} {h':Heap} {K:AV->Heap->Option R} {z:R} (e:q3k lo X h' K=some z) :
  K (.one (.pan X)) (upd h' C0 (K5 X))=some z/\lo C0=false/\∀ (a:A2) (d:Heap) (w:World) (c:A2) (b:World),HeapOK L w0 c h' b->Ext L a d w c h' b ->
   EndOK L w0 a d w (upd h' C0 (K5 X)) (.one (.pan X)) (.panicked [pv X]) b:=by
 unfold q3k at e
 split at e
 ·obtain⟨i,h⟩:=A8 e
  have f:upd (upd h' C0 (K5 X)) C0 .fresh=h':=by
   grind[A1,A0]
  exact⟨h,by grind,fun a d w c b j g=>.inr ⟨X,c,rfl,rfl,by grind,by grind⟩⟩
 grind
theorem y4q {a:Code} {ops:Array Oper} {c b:Oper} {d:Nat} (h:z6i a=some (ops,c,b,d)):∃ i args e,a=.region i ops false/\ops.toList=[c,b]/\c.dst=some d/\b.op=.defer { callee:=.value (.tmp d),args:=args,argTypes:=e }/\args=#[]/\b.guard=none/\b.dst=none:=by
 unfold z6i at h
 grind[Nat.eq_of_beq_eq_true]
theorem y5b {R:Type} {C:Ctx} (hC:CtxOK P L w0 C) (hmix:P.follows .mixedOrders=true) {ib:Nat} {fn:Func} {di:DefI} (hdi:DefF P di) {K:AV->Heap->Option R} {z:R}:∀ (c:Code) (an:Ann) (st:St),z0m C ib fn di K c an st=some z ->
  ∃ av h',K av h'=some z/\(∀ id,st.lo id=true->h' id=st.h id)/\∀ (g:A2) (h0:Heap) (w:World),w0.heap.size<=w.heap.size->∀ (m:Nat) (Q:A2) (a:Act) (Z:World),Sim P L w0 ⟨w.heap.size,[]⟩ none Q st a Z->Ext L g h0 w Q st.h Z ->
   c.wpIn (Fr none) m P (bodyPostM (Fr none) m P fn (EndOK L w0 g h0 w h' av)) a Z:=by
 intro c
 induction c with
 | seq a b iha ihb =>
  intro an st he
  cases an with
  | seq p q =>
   simp[z0m]at he
   split at he
   ·rename_i ops mk df d hd
    obtain⟨i,args,Ts,rfl,hops,hmk,hdf,rfl,hgd,hdst⟩:=y4q hd
    obtain⟨qs,st1,pj,hst,hpi,hk⟩:=z0s hC [mk] st [] _ z he
    obtain⟨hpj,hk1⟩:=A8 hk
    clear hk
    obtain rfl:pj=none:=by simp_all
    split at hk1
    rotate_left
    ·grind
    rename_i f A hfc
    obtain⟨hcf,hk⟩:=A8 hk1
    rw[Bool.and_eq_true]at hcf
    have hf:=Nat.eq_of_beq_eq_true hcf.1
    subst hf
    obtain⟨x,k,hk2,sl2,hrun⟩:=P1 hC hmix ib b q R _ _ z hk
    cases hst with
    | @cons _ _ _ want qq qs' _ O htail =>
    cases htail
    have hlo1:∀ id,st.lo id=true->(st.after mk qq).h id=st.h id:=fun id E=>z94 O.ups (fun H hH id E=>O.full H hH id (.inl E)) id E
    have hsz:ops.size=2:=by grind[Array.length_toList]
    have h0:ops[0]? = some mk:=by rw[<-Array.getElem?_toList,hops];rfl
    have h1:ops[1]? = some df:=by rw[<-Array.getElem?_toList,hops];rfl
    have core:∀ (g:A2) (r:Heap) (w:World),w0.heap.size<=w.heap.size->∀ (m:Nat) (Q:A2) (a:Act) (Z:World),Sim P L w0 ⟨w.heap.size,[]⟩ none Q st a Z->Ext L g r w Q st.h Z->∀ (Rr:Ending->World->Prop),
      (∀ (n:A2) (I:Act) (D:World) (F:List Addr) (ds:List Deferred),(∀ t,RepAV L n k.h D (k.ρ t) (I.tmps.getD t undef))->HeapOK L w0 n k.h D->Ext L g r w n k.h D->MarksOK ⟨w.heap.size,[]⟩ ds D ->
       F.length=A.length->(∀ (i:Nat) (p:Nat×Nat) (a:Addr),A[i]? = some p->F[i]? = some a->∃ b c,n p.1=some (b,c)/\a=⟨b,p.2,none⟩) ->
       match x with
       | .ex _=>True
       | .pan Y=>LeavesInM (Fr none) m P fn I.tmps Rr ({ target:=.fn (.func di.g) (F.map fun a=>Value.pointer (some a)).toArray,args:=#[] }::ds) (.panicking [pv Y]) D
       | _=>LeavesInM (Fr none) m P fn I.tmps Rr ({ target:=.fn (.func di.g) (F.map fun a=>Value.pointer (some a)).toArray,args:=#[] }::ds) .returning D) ->
      (Code.seq (.region i ops false) b).wpIn (Fr none) m P (bodyPostM (Fr none) m P fn Rr) a Z:=by
     intro g r w S m Q a Z G ext Rr hend
     refine wpIn_seq (wpIn_region ?_)
     rw[hsz,show List.range 2=[0,1]from rfl,wpOpsIn_cons]
     refine j1k h0 O rfl rfl rfl (fun S=>O.run S _ _ (j2l _ _ _ _)) (fun _ _=>rfl) (fun H hH id E=>O.full H hH id (.inl E)) G (fun κ1 a1 wD sim1 e1 l1=>?_) fun S T hT=>absurd hT (hpi _ List.mem_cons_self T)
     have hv:=sim1.env d
     rw[hfc]at hv
     obtain⟨cs,hv1,hv2,hv3⟩:=hv
     have hcs:∃ F:List Addr,F.length=A.length/\cs=F.map (fun a=>Value.pointer (some a))/\∀ (i:Nat) (p:Nat×Nat) (a:Addr),A[i]? = some p->F[i]? = some a->((st.after mk qq).h p.1).Held/\∃ b c,κ1 p.1=some (b,c)/\a=⟨b,p.2,none⟩:=by
      refine⟨cs.map (fun v=>match v with | .pointer (some a)=>a | _=>default),by grind,?_,fun i p a hp ha=>?_⟩
      ·apply List.ext_getElem?
       intro i
       by_cases hi:i<A.length
       ·obtain⟨-,b',c',-,hc⟩:=hv3 i _ (List.getElem?_eq_getElem hi)
        grind
       grind
      grind
     obtain⟨F,ha1,rfl,ha3⟩:=hcs
     rw[wpOpsIn_cons]
     unfold wpOpIn
     rw[h1]
     have hwant:Region.wanted df (yielded ops a1.tmps)=true:=by grind[Region.wanted]
     simp[hwant,if_true]
     refine⟨fun _ _=>trivial,?_⟩
     have hrunD:(df.semAt (Fr none).round a1.eval).run P wD=.ok (.defer { target:=.fn (.func di.g) (F.map fun a=>Value.pointer (some a)).toArray,args:=#[] }) wD:=by
      show(execOp a1.eval df).run P wD=_
      unfold execOp
      have he:a1.eval (.tmp d)=.func (.func di.g) #[] (F.map fun a=>Value.pointer (some a)).toArray:=hv1
      simp[hdf,resolve,Deferred.ofValue,he]
     rw[hrunD,Oper.uponIn_defer,hdst]
     show b.wpIn (Fr none) m P (bodyPostM (Fr none) m P fn Rr) ({ a1 with defers:=_::a1.defers }:Act) wD
     refine hrun ⟨wD.heap.size,{ target:=.fn (.func di.g) (F.map fun a=>Value.pointer (some a)).toArray,args:=#[] }::a1.defers⟩ none m κ1 _ wD _ ⟨sim1.size,sim1.env,sim1.heap,MarksOK.nil (Nat.le_refl _),fun l hl=>by grind⟩ fun n I wA sim2 e2 l2=>?_
     have hsz0:w.heap.size<=wD.heap.size:=(ext.trans e1).size
     have lv:∀ u:FrameMode,u≠.run->∃ D,HeapOK L w0 n k.h D/\(∀ t,RepAV L n k.h D (k.ρ t) (I.tmps.getD t undef))/\Ext L g r w n k.h D/\MarksOK ⟨w.heap.size,[]⟩ a1.defers D /\
       (LeavesInM (Fr none) m P fn I.tmps Rr ({ target:=.fn (.func di.g) (F.map fun a=>Value.pointer (some a)).toArray,args:=#[] }::a1.defers) u D->LeavesInM (Fr none) m P fn I.tmps Rr I.defers u wA):=fun u hu=>by
      obtain⟨D,okE,avE,W,U,y⟩:=X6 (P:=P) (fn:=fn) (tmps:=I.tmps) (m:=m) (u:=u) (R:=Rr) (B:=⟨wD.heap.size,{ target:=.fn (.func di.g) (F.map fun a=>Value.pointer (some a)).toArray,args:=#[] }::a1.defers⟩) (Nat.le_trans S hsz0) hu I.defers wA sim2.defs sim2.heap
      refine⟨D,okE,fun t=>avE _ _ (sim2.env t),q1i ((ext.trans e1).trans e2) W (fun b hb=>U b (Nat.lt_of_lt_of_le hb hsz0)),sim1.defs.keep (by rw[W];exact e2.size) (fun b hb=>(U b (Array.getElem?_eq_some_iff.1 hb).1).trans (e2.defs b hb)),y⟩
     have J:∀ (i:Nat) (p:Nat×Nat) (a:Addr),A[i]? = some p->F[i]? = some a->∃ b c,n p.1=some (b,c)/\a=⟨b,p.2,none⟩:=fun i p a hp ha=>by
      obtain⟨g1,b,c,V,g3⟩:=ha3 i p a hp ha
      exact⟨b,c,(e2.place p.1 g1).trans V,g3⟩
     cases x with
     | nrm =>
      obtain⟨D,g1,V,g3,g4,g5⟩:=lv .returning (by grind)
      exact g5 (hend n I D F a1.defers V g1 g3 g4 ha1 J)
     | ret =>
      obtain⟨D,g1,V,g3,g4,g5⟩:=lv .returning (by grind)
      exact g5 (hend n I D F a1.defers V g1 g3 g4 ha1 J)
     | pan Y =>
      obtain⟨D,g1,V,g3,g4,g5⟩:=lv (.panicking [pv Y]) (by grind)
      exact g5 (hend n I D F a1.defers V g1 g3 g4 ha1 J)
     | ex j=>cases hk2
    have hlo2:∀ id,st.lo id=true->k.h id=st.h id:=fun id E=>(sl2.obj id E).trans (hlo1 id E)
    have retd:∀ {av:AV},(∀ (g:A2) (h0:Heap) (w:World) (Q:A2) (a:Act) (w':World),(∀ t,RepAV L Q k.h w' (k.ρ t) (a.tmps.getD t undef))->HeapOK L w0 Q k.h w'->Ext L g h0 w Q k.h w' ->
       ∃ v,(results fn a.tmps).run P w'=.ok v w'/\EndOK L w0 g h0 w k.h av (.returned v) w')->A.length=di.vs.length ->
      ∀ (g:A2) (r:Heap) (w:World),w0.heap.size<=w.heap.size->∀ (m:Nat) (n:A2) (I:Act) (D:World) (F:List Addr) (ds:List Deferred),(∀ t,RepAV L n k.h D (k.ρ t) (I.tmps.getD t undef))->HeapOK L w0 n k.h D->Ext L g r w n k.h D->MarksOK ⟨w.heap.size,[]⟩ ds D->F.length=A.length ->
      LeavesInM (Fr none) m P fn I.tmps (EndOK L w0 g r w k.h av) ({ target:=.fn (.func di.g) (F.map fun a=>Value.pointer (some a)).toArray,args:=#[] }::ds) .returning D:=fun {av} V hlen g r w S m n I D F ds M ok N hm hal=>by
     obtain⟨fn',f1,f2,f3⟩:=hdi.fn
     refine⟨(by intro h;cases h),.inr ⟨fun h=>by simp[Fr]at h,_,_,di.g,(F.map fun a=>Value.pointer (some a)).toArray,rfl,?_,fun _ _=>trivial,CallsDIn.mono (hdi.ret F D (m-1) (by rw[hal,hlen])) fun e u' w' ⟨⟨v,hv⟩,hu,hw'⟩=>?_⟩⟩
     ·exact j87 f1 f2 f3 _ D
     subst hv;subst hu;subst hw'
     obtain⟨wD,okE,avE,W,U,y⟩:=X6 (P:=P) (fn:=fn) (tmps:=I.tmps) (m:=m) (u:=.returning) (R:=EndOK L w0 g r w k.h av) (B:=⟨w.heap.size,[]⟩) S (by intro h;cases h) ds w' hm ok
     exact y (V g r w n I wD (fun t=>avE _ _ (M t)) okE (q1i N W U))
    have hclen:=Nat.eq_of_beq_eq_true hcf.2
    cases x with
    | ex j=>cases hk2
    | nrm =>
     obtain⟨av,g1,V⟩:=q6v (P:=P) (L:=L) (w0:=w0) hC.ti (show q1e C fn k K=some z from hk2)
     exact⟨av,_,g1,hlo2,fun g r w S m Q a Z G ext=>core g r w S m Q a Z G ext _ fun n I D F ds M ok N hm hal J=>retd V hclen g r w S m n I D F ds M ok N hm hal⟩
    | ret =>
     obtain⟨av,g1,V⟩:=q6v (P:=P) (L:=L) (w0:=w0) hC.ti (show q1e C fn k K=some z from hk2)
     exact⟨av,_,g1,hlo2,fun g r w S m Q a Z G ext=>core g r w S m Q a Z G ext _ fun n I D F ds M ok N hm hal J=>retd V hclen g r w S m n I D F ds M ok N hm hal⟩
    | pan Y =>
     have hk3:cond (Nat.beq Y di.X) (match L9 k.lo A di.vs k.h with
      | some h=>q1e C fn { k with h:=h } K
      | none=>none) none=some z:=hk2
     obtain⟨hY,hk4⟩:=A8 hk3
     clear hk3
     have hY:=Nat.eq_of_beq_eq_true hY
     subst hY
     split at hk4
     rotate_left
     ·cases hk4
     rename_i h2 hst2
     obtain⟨av,g1,V⟩:=q6v (P:=P) (L:=L) (w0:=w0) hC.ti hk4
     obtain⟨-,us,hus⟩:=y0d _ _ _ _ hst2
     refine⟨av,h2,g1,fun id E=>(y0e _ _ _ _ hst2 id (by rw[sl2.lo];exact E)).trans (hlo2 id E),fun g r w S m Q a Z G ext=>core g r w S m Q a Z G ext _ fun n I D F ds M ok N hm hal J=>?_⟩
     obtain⟨fn',f1,f2,f3⟩:=hdi.fn
     refine⟨(by intro h;cases h),.inr ⟨fun h=>by simp[Fr]at h,_,_,di.g,(F.map fun a=>Value.pointer (some a)).toArray,rfl,j87 f1 f2 f3 _ D,fun _ _=>trivial,CallsDIn.mono (hdi.pan F D (m-1) us (by rw[hal,hclen]) hus fun a ha=>?_) fun e u' w' ⟨⟨v,hv⟩,hu,o,hw'⟩=>?_⟩⟩
     ·obtain⟨i,hi⟩:=List.getElem?_of_mem ha
      have hil:i<A.length:=by rw[<-hal];exact(List.getElem?_eq_some_iff.1 hi).1
      obtain⟨b',c',k1,k2⟩:=J i _ a (List.getElem?_eq_getElem hil) hi
      obtain⟨l,l1,l2⟩:=y0c _ _ _ _ hst2 _ (List.getElem_mem hil)
      have hob:=ok.obj (A[i]).1
      rw[l1]at hob
      obtain⟨b2,c2,cs,ty,k3,k4,k5⟩:=hob
      rw[k1]at k3
      cases k3
      subst k2
      exact⟨rfl,_,ty,k4,by rw[List.size_toArray,k5.1];exact l2⟩
     ·subst hv;subst hu;subst hw'
      obtain⟨ok3,e3⟩:=y0g A di.vs F us _ _ _ hst2 (j5j ok o) hus hal J
      have e4:Ext L n k.h D n h2 (q9b F us (D.alloc o)):=(z8l o).trans e3
      obtain⟨wD,okE,avE,W,U,y⟩:=X6 (P:=P) (fn:=fn) (tmps:=I.tmps) (m:=m) (u:=.returning) (R:=EndOK L w0 g r w h2 av) (B:=⟨w.heap.size,[]⟩) S (by intro h;cases h) ds _ (hm.keep e4.size e4.defs) ok3
      exact y (V g r w n I wD (fun t=>avE _ _ ((M t).ext e4)) okE (q1i (N.trans e4) W U))
   ·obtain⟨x,st1,hk,sl,hrun⟩:=P1 hC hmix ib a p R st _ z he
    cases x with
    | nrm =>
     obtain⟨av,h',g1,V,g3⟩:=ihb q st1 hk
     refine⟨av,h',g1,fun id E=>(V id (by rw[sl.lo];exact E)).trans (sl.obj id E),fun g h0 w S m Q a1 Z G ext=>wpIn_seq (hrun _ none m Q a1 Z _ G fun κ' a' w' s e l=>?_)⟩
     exact g3 g h0 w S m κ' a' w' s (ext.trans e)
    | ret =>
     obtain⟨av,g1,V⟩:=q6v (P:=P) (L:=L) (w0:=w0) hC.ti hk
     refine⟨av,_,g1,sl.obj,fun g h0 w S m Q a1 Z G ext=>wpIn_seq (hrun _ none m Q a1 Z _ G fun κ' a' w' s e l=>?_)⟩
     obtain⟨w2,okE,avE,W,U,y⟩:=X6 (P:=P) (fn:=fn) (tmps:=a'.tmps) (m:=m) (u:=.returning) (R:=EndOK L w0 g h0 w st1.h av) (B:=⟨w.heap.size,[]⟩) S (by intro h;cases h) a'.defers w' s.defs s.heap
     exact y (V g h0 w κ' a' w2 (fun t=>avE _ _ (s.env t)) okE (q1i (ext.trans e) W U))
    | pan X =>
     obtain⟨g1,hlb,V⟩:=j44 (L:=L) (w0:=w0) hk
     refine⟨_,_,g1,fun id E=>?_,fun g h0 w S m Q a1 Z G ext=>wpIn_seq (hrun _ none m Q a1 Z _ G fun κ' a' w' s e l=>?_)⟩
     ·rw[A0 _ _ (fun h=>by rw[h,hlb]at E;cases E)];exact sl.obj id E
     obtain⟨w2,okE,avE,W,U,y⟩:=X6 (P:=P) (fn:=fn) (tmps:=a'.tmps) (m:=m) (u:=.panicking [pv X]) (R:=EndOK L w0 g h0 w (upd st1.h C0 (K5 X)) (.one (.pan X))) (B:=⟨w.heap.size,[]⟩) S (by intro h;cases h) a'.defers w' s.defs s.heap
     exact y (V g h0 w κ' w2 okE (q1i (ext.trans e) W U))
    | ex i=>cases hk
  | _=>cases he
 | _=>intro an st he;cases he
theorem j3e {T:Tables} (hti:∀ t ti,T.TI t=some ti->ti.OK P t) (hsp:∀ f s,T.sp f=some s->FunOK' P T.gl f s) (hsr:∀ f,T.srt f=true->Sort1 P f) (hsn:∀ f k,T.srn f=some k->q0b P T.gl f k) (hif:∀ t,T.ifc t=true->∃ ms,P.underlying t=some (.interface ms)) (hme:∀ t n f,T.meth t n=some f->q0a P t n f)
  (hov:∀ f g,T.ov f=some g->∀ (L:Nat->Prop) (w0:World),GlobOK T.gl w0->y1b P L w0 f g) (hdf:∀ f di,T.dfr f=some di->DefF P di)
  (S:∀ f,T.inl f=true->∃ fn,P.funcs[f]? = some fn/\fn.body.isSome=true/\(fn.name== "runtime.NumGoroutine")=false)
  (hbd:∀ f I fn an,T.bd f I=some (fn,an)->P.funcs[f]? = some fn/\fn.body.isSome=true/\(fn.name== "runtime.NumGoroutine")=false) (C:P.follows .mixedOrders=true) :
  ∀ (n:Nat) (L:Nat->Prop) (w0:World),GlobOK T.gl w0->ICallOK P L w0 (J7 T n).ic T.inl/\z5e P L w0 (J7 T n).yc:=by
 intro n
 induction n with
 | zero=>exact fun L w0 _=>⟨⟨(fun f p h lo I R K z _ q=>by cases q),S⟩,fun id p h lo R K z q=>by cases q⟩
 | succ n ih =>
  refine fun L w0 hG=>⟨⟨fun f p h lo I R K z hi q=>?_,S⟩,fun id p h lo R K z q=>?_⟩
  ·have hC:CtxOK P L w0 (T.ctx (J7 T n).ic (J7 T n).yc):=⟨hti,hsp,hG,(ih L w0 hG).1,(ih L w0 hG).2,hsr,hsn,hif,hme⟩
   simp[J7]at q
   split at q
   ·rename_i g hg
    obtain⟨av,h',g1,g2,g3⟩:=hov f g hg L w0 hG p h lo I R K z q
    grind
   ·split at q
    ·grind
    rename_i fn an hbf
    split at q
    ·grind
    ·rename_i c hc
     obtain⟨hn,q⟩:=A8 q
     have hn:=Nat.le_of_ble_eq_true hn
     split at q
     ·rename_i di hdi
      obtain⟨av,h',g1,g2,g3⟩:=y5b hC C (hdf f di hdi) c an _ q
      refine⟨av,h',g1,g2,fun κ w d M hr ok m=>?_⟩
      refine callsIn_of_wp_marks (hbd f I fn an hbf).1 hc trivial ?_
      exact g3 κ h w ok.below.size m κ _ w (z1y M hr ok hn) (Ext.refl _ _ _ _)
     obtain⟨k,st',hk,sl,O⟩:=P1 hC C I c an _ _ _ z q
     have main:∀ k':XK,k=k'->(k'=.nrm\/k'=.ret)->q1e (T.ctx (J7 T n).ic (J7 T n).yc) fn st' K=some z ->
       ∃ av h',K av h'=some z/\(∀ id,lo id=true->h' id=h id)/\∀ κ w (d:List Value),d.length=p.length->(∀ (i:Nat) (a:AV) (v:Value),p[i]? = some a->d[i]? = some v->RepAV L κ h w a v)->HeapOK L w0 κ h w ->
        ∀ m,CallsIn (Fr none) m P f d.toArray w (EndOK L w0 κ h w h' av):=by
      intro k' hkk hk' hres
      obtain⟨av,g1,g2⟩:=q6v (P:=P) (L:=L) (w0:=w0) hC.ti hres
      refine⟨_,_,g1,fun id F=>sl.obj id F,fun κ w d M hr ok m=>?_⟩
      refine callsIn_of_wp_marks (hbd f I fn an hbf).1 hc trivial ?_
      refine O ⟨w.heap.size,[]⟩ none m κ _ w _ (z1y M hr ok hn) fun y a' w1 D W lk=>?_
      obtain⟨J,E,avE,Y,loE,A⟩:=X6 (P:=P) (fn:=fn) (tmps:=a'.tmps) (m:=m) (u:=.returning) (R:=EndOK L w0 κ h w st'.h av) (B:=⟨w.heap.size,[]⟩) ok.below.size (by grind) a'.defers w1 D.defs D.heap
      have U:=A (g2 κ h w y a' J (fun t=>avE _ _ (D.env t)) E (q1i W Y loE))
      subst hkk
      cases k with
      | nrm=>exact U
      | ret=>exact U
      | ex i=>grind
      | pan T=>grind
     cases k with
     | nrm=>grind
     | ret=>grind
     | ex i=>grind
     | pan X =>
      obtain⟨g1,hlb,g2⟩:=j44 (L:=L) (w0:=w0) hk
      refine⟨_,_,g1,fun id F=>?_,fun κ w d M hr ok m=>?_⟩
      ·rw[A0 _ _ (fun h=>by grind)];exact sl.obj id F
      ·refine callsIn_of_wp_marks (hbd f I fn an hbf).1 hc trivial ?_
       refine O ⟨w.heap.size,[]⟩ none m κ _ w _ (z1y M hr ok hn) fun y a' w1 D W lk=>?_
       obtain⟨J,E,avE,Y,loE,A⟩:=X6 (P:=P) (fn:=fn) (tmps:=a'.tmps) (m:=m) (u:=.panicking [pv X]) (R:=EndOK L w0 κ h w (upd st'.h C0 (K5 X)) (.one (.pan X))) (B:=⟨w.heap.size,[]⟩) ok.below.size (by grind) a'.defers w1 D.defs D.heap
       exact A (g2 κ h w y J E (q1i W Y loE))
  ·have hC:CtxOK P L w0 (T.ctx (J7 T n).ic (J7 T n).yc):=⟨hti,hsp,hG,(ih L w0 hG).1,(ih L w0 hG).2,hsr,hsn,hif,hme⟩
   simp[J7]at q
   split at q
   ·rename_i i an1 an2 F hrd
    obtain⟨hc,q⟩:=A8 q
    simp only[Bool.and_eq_true,List.all_eq_true,Bool.not_eq_true']at hc
    obtain⟨⟨hal,hps⟩,hlo⟩:=hc
    have hal:=Nat.eq_of_beq_eq_true hal
    obtain⟨k,V,hk,sl1,hrun1⟩:=P1 hC C _ i.assign an1 _ _ _ z q
    split at hk
    ·rename_i i1 hs1
     obtain⟨G,Z,H,sl2,hrun2⟩:=P1 hC C _ i.body an2 _ _ _ z hk
     split at H
     ·rename_i i2 hs2
      obtain⟨hpl2,H⟩:=A8 H
      refine⟨_,_,H,fun j hj=>?_,fun κ w d b c hvl hr ok hkb=>?_⟩
      ·have hne:j≠id:=fun e=>by grind
       rw[A0 _ _ hne,sl2.obj j (by show V.lo j=true;rw[sl1.lo];omega)]
       show upd V.h id _ j=h j
       rw[A0 _ _ hne]
       exact sl1.obj j hj
      ·have ho:=ok.obj id
       rw[F]at ho
       obtain⟨b',c',rc,p1,p2,p3,p4,p5,p6,p7,p8,p9⟩:=ho
       rw[hkb]at p1;cases p1
       refine⟨rc,p2,by grind,fun m=>roundIn_of_wpIn trivial ?_⟩
       rw[p6,p7]
       have hz:(rc.params.zip d.toArray).foldl (fun tmps (t,a)=>tmps.setIfInBounds t a) rc.tmps=(i.ps.zip d).foldl (fun tmps (t,a)=>tmps.setIfInBounds t a) rc.tmps:=by
        grind
       rw[hz]
       obtain⟨z1,z2⟩:=j81 (L:=L) (κ:=κ) (h:=h) (w:=w) i.ps p d i.ρ rc.tmps hal (by omega) (fun t ht=>by simp_all) hr p9
       refine hrun1 ⟨w.heap.size,[]⟩ (some b) m κ _ w _ ⟨z1.trans p8,z2,ok,MarksOK.nil (Nat.le_refl _),fun l M=>by grind⟩ fun κ1 a1 w1 r N _=>?_
       obtain⟨b1,c1,q1,r1,q2,q3,q3',q4⟩:=j7n r.heap hs1 .busy
       have hb1:b1=b:=by
        have:=(N.place id (by simp_all)).trans hkb
        grind
       subst hb1
       refine⟨_,run_beginRound q2 q3,?_⟩
       obtain⟨okB,x⟩:=q4 { r1 with state:=.busy } rfl q3' rfl rfl rfl rfl
       refine hrun2 ⟨w.heap.size,[]⟩ (some b1) m κ1 a1 _ _ ⟨r.size,fun t=>RepAV.ext x (r.env t),okB,r.defs.keep x.size x.defs,fun l M=>by
        obtain⟨l',h4⟩:=r.rnd l M
        exact x.loops l l' h4⟩ fun κ2 a2 w2 sim2 Q _=>?_
       obtain⟨b2,c2,t1,r2,t2,t3,-,t4⟩:=j7n sim2.heap hs2 (q0t G).2
       have hb2:b2=b1:=by
        have:=(Q.place id (by show(upd V.h id _ id).Held;rw[A1];simp)).trans q1
        grind
       subst hb2
       have fin:∀ o:Option Code,(if o.isNone then LoopState.ready else .done)=(q0t G).2.state->o=(q0t G).2.pend->o.isNone=(q0t G).1->∃ v J,(Instr.endRound b2 o).run P w2=.ok v J /\
         ∃ v' y,Ending.returned v=.returned v'/\HeapOK L w0 y (upd Z.h id (.lrec i2 (q0t G).2)) J/\RepAV L y (upd Z.h id (.lrec i2 (q0t G).2)) J (H8 (q0t G).1) v'/\Ext L κ h w y (upd Z.h id (.lrec i2 (q0t G).2)) J:=by
        intro o hj1 hj2 hj3
        refine⟨_,_,run_endRound o t2,_,κ2,rfl,?_⟩
        obtain⟨E,extE⟩:=t4 { r2 with state:=if o.isNone then .ready else .done,pending:=o } hj1 hj2 rfl rfl rfl rfl
        exact⟨E,⟨rfl,rfl,by rw[hj3];rfl⟩,N.trans (x.trans (Q.trans extE))⟩
       cases G with
       | nrm=>exact fin none rfl rfl rfl
       | ret=>exact fin (some .ret) rfl rfl rfl
       | ex j=>exact fin (some (.exit j)) rfl rfl rfl
       | pan T=>cases hpl2
     grind
    grind
   grind
end Go.Abs
