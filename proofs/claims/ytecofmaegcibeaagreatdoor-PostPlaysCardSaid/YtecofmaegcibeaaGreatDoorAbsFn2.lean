/- The engine, part 20: a function keeps the contract that the evaluator finds. -/
import Derived.Test.YtecofmaegcibeaaGreatDoorAbsFn
namespace Go.Abs
open Go Go.RowKit
variable {P:Program} {L:Nat->Prop} {w0:World}
variable {w:World} {A:Nat->Prop} {t:Ty} {v:Value}
theorem y4g {A':Nat->Prop} (e:∀b,A b->A' b) {a:Bool} {x:t.den} (h:RepVal w A a t v x):RepVal w A' a t v x:=by
 have c:∀b,A b->A' b/\w.heap[b]? = w.heap[b]?:=λb g=>⟨e b g,rfl⟩;cases a with
 | false=>exact⟨h.1,h.2.1,RepAt.mono c t _ _ h.2.2⟩
 | true=>obtain⟨j,f,i,k,d⟩:=h;exact⟨j,f,i,k,RepAt.mono c t _ _ d⟩
def v9j (h:Heap):Option Nat->Prop
 | none=>True
 | some id=>∃e t l,h id=.arr e t l
theorem y4k {w:World} {A:Nat->Prop} {a:Nat} {f b:Option (Nat×(Nat×Nat))}:∀{rs:List RTy} {vs:List Value} {y:J2 rs},T9 rs=0->W6 w A a f rs vs y->W6 w A a b rs vs y
 | [],[],_,_,h=>h
 | [],_::_,_,_,h=>h
 | .val _ _::_,[],_,_,h=>h
 | .own _ _::_,[],_,_,h=>h
 | .val c t::r,v::vs,y,d,h=>⟨h.1,y4k (by grind[T9]) h.2⟩
 | .own e t::r,v::vs,y,d,h=>by grind[T9,RTy.isOwn]
theorem z1j {R:Type} {h:Heap}:∀(rs:List RTy) (E:List AV) (K:J2 rs->List Nat->Option Nat->Option R) (z:R),Q1 h rs E K=some z ->
  ∃y j o,K y j o=some z/\v9j h o/\∀f w (a:List Value),a.length=E.length->(∀(i:Nat) (p:AV) (v:Value),E[i]? = some p->a[i]? = some v->RepAV L f h w p v)->HeapOK L w0 f h w ->
   ∀q,Ext L f h w f q w->(∀id∈j,q4f (h id)->∀b c,f id=some (b,c)->A4 L f q w b)->(∀id,o=some id->q id=h id) ->
   ∀(A:Nat->Prop),(∀b,A4 L f q w b->A b)->(∀id e t l,o=some id->h id=.arr e t l->∀b,A4 L f h w b->A b)->W6 w A w0.heap.size (o.bind f) rs a y
 | [],[],K,z,g=>⟨(),[],none,g,trivial,λf w a hl _ _ _ _ _ _ _ _ _=>by
  cases a with
  | nil=>trivial
  | cons v W=>grind⟩
 | [],_::_,K,z,g=>by grind[Q1]
 | .val _ _::_,[],K,z,g=>by grind[Q1]
 | .own _ _::_,[],K,z,g=>by grind[Q1]
 | .val agg t::r,v::W,K,z,g=>by
  simp[Q1]at g;split at g
  ·rename_i y0 O h0;obtain⟨ys,j,o,N,q,X⟩:=z1j r W _ z g;refine⟨_,_,o,N,q,λf w a hl C B T x d Z A F n=>?_⟩;cases a with
   | nil=>grind
   | cons u S =>
    have ha:=q5x B x [(agg,t)] [v] [u] y0 O rfl (λi p H J Q=>by
     cases i with
     | zero=>simp at J Q;subst J;subst Q;exact C 0 _ _ rfl rfl
     | succ i=>grind) h0 (λid hm=>d id (aB _ hm))
    exact⟨y4g F ha.1,X f w S (by grind) (λi p H J Q=>C (i+1) p H (by grind) (by grind)) B T x (λid hm=>d id (aC _ hm)) Z A F n⟩
  grind
 | .own e t::r,v::W,K,z,g=>by
  cases v with
  | agg l=>grind[Q1]
  | tup l=>grind[Q1]
  | one s =>
   cases s with
   | nils =>
    simp[Q1]at g;obtain⟨ys,j,o,N,q,X⟩:=z1j r W _ z g;cases o with
    | some id=>grind
    | none =>
     refine⟨_,j,none,N,trivial,λf w a hl C B T x d Z A F n=>?_⟩;cases a with
     | nil=>grind
     | cons u S =>
      have G:u=.slice none 0 0:=C 0 _ u rfl rfl;exact⟨.inl ⟨rfl,rfl,G⟩,X f w S (by grind) (λi p H J Q=>C (i+1) p H (by grind) (by grind)) B T x d Z A F n⟩
   | own id =>
    simp[Q1]at g;split at g
    ·rename_i e' t' l k;split at g
     ·rename_i l' hl';obtain⟨m,he2⟩:=B1 g;rw[ac]at m;have hoc:=ab m.2;have m:=ab m.1;obtain⟨htt,V⟩:=H9 hl';cases htt;change l=l' at V;subst V;subst m;obtain⟨ys,j,o,N,q,X⟩:=z1j r W _ z he2;cases o with
      | some id=>grind
      | none =>
       refine⟨_,j,some id,N,⟨_,_,_,k⟩,λf w a hl C B T x d Z A F n=>?_⟩;cases a with
       | nil=>grind
       | cons u S =>
        have D:=X f w S (by grind) (λi p H J Q=>C (i+1) p H (by grind) (by grind)) B T x d (λ_ h=>by grind) A F (λ_ _ _ _ h=>by grind);refine⟨?_,y4k hoc D⟩;have G:RepSV L f h w (.own id) u:=C 0 _ u rfl rfl;have G:=G.1;rw[k]at G;have U:=B.obj id;rw[k]at U;rcases G with⟨I,a2,a3⟩ | ⟨b,Y,I,a2⟩
        ·exact .inl ⟨I,a2,a3⟩
        ·rcases U with⟨M,_⟩ | ⟨b',cap',cur,M,b2,b3,b4,b5,b6,b7⟩
         ·rw[I]at M;cases M
         ·rw[I]at M;cases M;refine .inr ⟨b,Y,cur,I,a2,(B.own id b Y (by rw[k];rfl) I).1,b2,b3,b4,b5,b6,λi y hy=>?_⟩;have:=RepAt.mono (A':=A) (w':=w) (λb hb=>⟨n id _ _ _ rfl k b hb,rfl⟩) _ _ y (b7 i y hy);simpa[bT]using this
     grind
    grind
   | _=>simp[Q1]at g
variable {fn:Func}
theorem j4h {a:Act} {b:List Value} (h:(fn.results.toList.mapM (q5b a)).run P w=.ok b w):(results fn a.tmps).run P w=.ok (q4d b) w:=by
 have d:results fn a.tmps=(fn.results.mapM (q5b a) >>= λc=>pure (if h:c.size=1 then c[0]else .tuple c)):=by
  rfl
 rw[d,Array.mapM_eq_mapM_toList];simp[h]
 match b with
 | []=>rfl
 | [v]=>rfl
 | _::_::_=>rfl
theorem RepAt.cellsEq {w w':World} {A A':Nat->Prop} (c:∀b,A b->A' b) (d:∀a:Addr,w'.cell? a=w.cell? a) (f:∀(b:Nat) n m,w.heap[b]? = some (Obj.map n m)->w'.heap[b]? = some (Obj.map n m)):∀(t:Ty) (get:Nat->Option Value) (x:t.den),RepAt w A t get x->RepAt w' A' t get x
 | .int _,_,_,h=>h
 | .bool,_,_,h=>h
 | .nil,_,_,_=>trivial
 | .cons a b,get,x,h=>⟨RepAt.cellsEq c d f a get x.1 h.1,RepAt.cellsEq c d f b _ x.2 h.2⟩
 | .list e,get,x,h=>by
  obtain⟨E,B,q,l,H,j,M⟩:=h;refine⟨E,B,q,l,H,j,λs=>?_⟩;obtain⟨b,o,I,p,z⟩:=M s;refine⟨b,o,I,c b p,λi y F=>?_⟩;have:=RepAt.cellsEq c d f e _ y (z i y F);simp[d];exact this
 | .map N O k v,get,x,h=>by
  obtain⟨b,n,m,G,D,J,K⟩:=h;exact⟨b,n,m,G,c b D,f _ _ _ J,K.imp (λy u r=>r.imp λg l=>RepAt.cellsEq c d f k g y l) (λy u r=>r.imp λg l=>RepAt.cellsEq c d f v g y l)⟩
structure SameCells (L:Nat->Prop) (κ:A6) (h:Heap) (w w':World):Prop where
 cell:∀a:Addr,w'.cell? a=w.cell? a
 size:w'.heap.size=w.heap.size
 maps:∀(b:Nat) es cl,w.heap[b]? = some (Obj.map es cl)->w'.heap[b]? = some (Obj.map es cl)
variable {h:Heap} {w':World} {κ:A6}
theorem SameCells.at (x:SameCells L κ h w w') {get:Nat->Option Value} {v:t.den} (c:RepAt w (A4 L κ h w) t get v):RepAt w' (A4 L κ h w') t get v :=
 RepAt.cellsEq (λb a=>⟨by rw[x.size];exact a.1,a.2⟩) x.cell x.maps t get v c
theorem SameCells.val (x:SameCells L κ h w w') {a:Bool} {y:t.den} (b:RepVal w (A4 L κ h w) a t v y):RepVal w' (A4 L κ h w') a t v y:=by
 cases a with
 | true=>obtain⟨f,d,g,e,c⟩:=b;exact⟨f,d,g,e,x.at c⟩
 | false=>exact⟨b.1,b.2.1,x.at b.2.2⟩
theorem SameCells.map (x:SameCells L κ h w w') {g av:Bool} {f e:Ty} {l:List (f.den×e.den)} {k:Array MapEntry} {c:Nat} (d:MapRep w (A4 L κ h w) g av f e l k c):MapRep w' (A4 L κ h w') g av f e l k c where
 flat:=d.flat
 rise:=d.rise
 apart:=d.apart
 early:=d.early
 ents:=by
  obtain⟨p,m,n,j⟩:=d.ents;exact⟨p,m,n,λi y q a b=>⟨x.val (j i y q a b).1,x.val (j i y q a b).2⟩⟩
theorem SameCells.sv (x:SameCells L κ h w w'):∀(s:SV) (v:Value),RepSV L κ h w s v->RepSV L κ h w' s v
 | .unk,_,_=>trivial
 | .sc _ _,_,⟨h1,h2,h3⟩=>⟨h1,h2,x.at h3⟩
 | .nils,_,hr=>hr
 | .nilp,_,hr=>hr
 | .udf,_,hr=>hr
 | .ne _ _,_,⟨h1,h2,h3⟩=>⟨h1,x.at h2,h3⟩
 | .nx,_,hr=>hr
 | .gl _,_,hr=>hr
 | .cstr _,_,hr=>hr
 | .gp _ _,_,⟨b,o,h1,h2,h3⟩=>⟨b,o,h1,⟨by rw[x.size];exact h2.1,h2.2⟩,by rw[x.cell];exact h3⟩
 | .own _,_,hr=>hr
 | .sub _ _ _,_,hr=>hr
 | .ptr _ _,_,hr=>hr
 | .eptr _ _ _ _,_,hr=>hr
 | .ro t y c,v,⟨b,o,h1,h2,h3⟩=>by
  refine⟨b,o,h1,⟨by rw[x.size];exact h2.1,h2.2⟩,?_⟩;have:=x.at h3;simp only[x.cell];exact this
 | .fn _ _,_,hr=>hr
 | .yld _,_,hr=>hr
 | .mp _,_,hr=>hr
 | .mpn,_,hr=>hr
 | .stmp _,_,hr=>hr
 | .csl _ _ _ _,_,hr=>hr
 | .ts _ _,_,hr=>hr
 | .tp _ _ _,_,hr=>hr
 | .nif,_,hr=>hr
 | .nilf,_,hr=>hr
 | .pan _,_,hr=>hr.elim
 | .ifc _ _ _,_,⟨us,h1,h2,h3,h4⟩=>⟨us,h1,h2,h3,λi p u hp hu=>⟨(h4 i p u hp hu).1,(h4 i p u hp hu).2.1,x.at (h4 i p u hp hu).2.2⟩⟩
 | .bfp _ _ _,_,hr=>hr
 | .bfn _ _ _,_,⟨us,h1,h2,h3,h4⟩=>⟨us,h1,h2,h3,λi p u hp hu=>⟨(h4 i p u hp hu).1,(h4 i p u hp hu).2.1,x.at (h4 i p u hp hu).2.2⟩⟩
theorem SameCells.cells (x:SameCells L κ h w w') {l:List SV} {cs:List Value} (a:RepCells L κ h w l cs):RepCells L κ h w' l cs :=
 ⟨a.1,λi s c b d=>⟨x.sv s c (a.2 i s c b d).1,(a.2 i s c b d).2⟩⟩
theorem SameCells.comp (x:SameCells L κ h w w'):∀{c:Bool×List SV} {v:Value},RepComp L κ h w c v->RepComp L κ h w' c v
 | (true,_),_,⟨e,d,b⟩=>⟨e,d,x.cells b⟩
 | (false,[s]),v,a=>x.sv s v a
 | (false,[]),_,a=>a.elim
 | (false,_::_::_),_,a=>a.elim
theorem SameCells.av (x:SameCells L κ h w w'):∀{v:AV} {u:Value},RepAV L κ h w v u->RepAV L κ h w' v u
 | .one s,u,k=>x.sv s u k
 | .agg _,_,⟨f,d,e⟩=>⟨f,d,x.cells e⟩
 | .tup _,_,⟨g,d,e,j⟩=>⟨g,d,e,λi c u a b=>x.comp (j i c u a b)⟩
variable {b:Nat}
theorem y54 (c:w.heap[b]? = some (.deferred (some []))):SameCells L κ h w (w.putObj b (.deferred none)) where
 cell a:=by
  grind[World.cell?,World.putObj_heap_same,World.putObj_heap_other]
 size:=by simp
 maps d g e f:=by grind[World.putObj_heap_other]
theorem j02 (x:SameCells L κ h w w') {q:Option (Nat×(Nat×Nat))} {e:TypeId} {l:List t.den} (hh:∀(b:Nat) (c:Array Value) (ty:TypeId) (f:Nat×Nat),w.heap[b]? = some (Obj.cells c ty f)->w'.heap[b]? = some (Obj.cells c ty f)) (hr:RepArrP L κ h w q e t l):RepArrP L κ h w' q e t l:=by
 rcases hr with⟨a,b⟩ | ⟨b,cap,cur,h1,h2,h3,h4,h5,h6,h7⟩
 ·exact .inl ⟨a,b⟩
 ·exact .inr ⟨b,cap,cur,h1,hh _ _ _ _ h2,h3,h4,h5,h6,λi y hy=>x.at (h7 i y hy)⟩
theorem q7u {κ:A6} {h:Heap} {w w':World} (x:SameCells L κ h w w') (hh:∀(b:Nat) (c:Array Value) (ty:TypeId) (f:Nat×Nat),w.heap[b]? = some (Obj.cells c ty f)->w'.heap[b]? = some (Obj.cells c ty f)) :
  ∀(t:OT) {pl:List Nat->Option (Nat×(Nat×Nat))} {o:List (List Nat×Nat)} {get:Nat->Option Value} {y:t.den},RepO L κ h w t pl o get y->RepO L κ h w' t pl o get y
 | .arr e t,pl,o,get,y,⟨v,b1,b2⟩=>by
  refine⟨v,b1,?_⟩;cases ho:O3 o with
  | none=>rw[ho]at b2;exact⟨b2.1,j02 x hh b2.2⟩
  | some g=>rw[ho]at b2;exact⟨x.sv _ _ b2.1,b2.2⟩
 | .map ak av k u,pl,o,get,y,⟨v,b1,b2⟩=>by
  refine⟨v,b1,?_⟩;cases ho:O3 o with
  | none =>
   rw[ho]at b2;obtain⟨b,c,es,cl,q1,q2,q3,q4⟩:=b2;exact⟨b,c,es,cl,q1,q2,x.maps _ _ _ q3,x.map q4⟩
  | some g=>rw[ho]at b2;exact x.sv _ _ b2
 | .opt k,pl,o,get,y,hb=>by
  cases y with
  | none=>exact hb
  | some y=>exact q7u x hh k (show RepO L κ h w k pl o get y from hb)
 | .arrs e k,pl,o,get,y,⟨v,b,cap,cur,b1,b2,b3,b4,b5,b6,b7,b8,b9⟩ =>
  ⟨v,b,cap,cur,b1,b2,b3,hh _ _ _ _ b4,b5,b6,b7,b8,λi z hz=>q7u x hh k (b9 i z hz)⟩
 | .ptr c,pl,o,get,y,⟨v,b,cap,cs,ty,b1,b2,b3,b4,b5,b6,b7,b8⟩ =>
  ⟨v,b,cap,cs,ty,b1,b2,b3,b4,hh _ _ _ _ b5,b6,b7,q7u x hh c b8⟩
 | .nil,_,_,_,_,_=>trivial
 | .cons a b,pl,o,get,y,⟨b1,b2⟩=>⟨q7u x hh a b1,q7u x hh b b2⟩
theorem v5l (ok:HeapOK L w0 κ h w) (hb:w.heap[b]? = some (.deferred (some []))) (h0:w0.heap.size<=b):HeapOK L w0 κ h (w.putObj b (.deferred none)):=by
 have x:=y54 (L:=L) (κ:=κ) (h:=h) hb;have hcl:∀(b':Nat) (c:Array Value) (ty:TypeId) (f:Nat×Nat),w.heap[b']? = some (Obj.cells c ty f)->(w.putObj b (.deferred none)).heap[b']? = some (Obj.cells c ty f):=λb' c ty f hc=>by
  rw[World.putObj_heap_other (λe=>by rw[e,hb]at hc;cases hc)];exact hc
 refine⟨λid=>?_,ok.inj,λi b' c hi hk=>by rw[x.size];exact ok.own i b' c hi hk,ok.below.trans ⟨rfl,rfl,rfl,by simp,λk hk=>World.putObj_heap_other (by omega),ax _⟩,λb hL=>⟨by rw[x.size];exact(ok.outer b hL).1,(ok.outer b hL).2⟩,ok.kids⟩;have ho:=ok.obj id;cases hq:h id with
 | fresh=>trivial
 | dead=>trivial
 | kid=>trivial
 | tree e k l f =>
  rw[hq]at ho;rcases ho with a | ⟨b',cap,cur,h1,h2,h3,h4,h5,h6,h7⟩
  ·exact .inl a
  ·exact .inr ⟨b',cap,cur,h1,hcl _ _ _ _ h2,h3,h4,h5,h6,λi y hy=>q7u x hcl k (h7 i y hy)⟩
 | cells l =>
  rw[hq]at ho;obtain⟨b',c',cs,ty,h1,h2,h3⟩:=ho;exact⟨b',c',cs,ty,h1,hcl _ _ _ _ h2,x.cells h3⟩
 | arr e t l=>rw[hq]at ho;exact j02 x hcl ho
 | ice e t l=>rw[hq]at ho;exact⟨j02 x hcl ho.1,λb' c hk=>⟨by rw[x.size];exact(ho.2 b' c hk).1,(ho.2 b' c hk).2⟩⟩
 | lrec i s =>
  rw[hq]at ho;obtain⟨b',c',r,h1,h2,h3,h4,h5,h6,h7,h8,h9⟩:=ho;exact⟨b',c',r,h1,by rw[World.putObj_heap_other (λe=>by rw[e,hb]at h2;cases h2)];exact h2,h3,h4,h5,h6,h7,h8,λt=>x.av (h9 t)⟩
 | mapo ak av tk tv l =>
  rw[hq]at ho;obtain⟨b',c',es,cl,h1,h2,h3⟩:=ho;exact⟨b',c',es,cl,h1,by rw[World.putObj_heap_other (λe=>by rw[e,hb]at h2;cases h2)];exact h2,x.map h3⟩
 | mapp ak av tk tv l k g =>
  rw[hq]at ho;obtain⟨b',c',es,cl,h1,h2,h3,h4,n,c2,h5,y,h6,h7,h8⟩:=ho;exact⟨b',c',es,cl,h1,by rw[World.putObj_heap_other (λe=>by rw[e,hb]at h2;cases h2)];exact h2,x.map h3,h4,n,c2,h5,y,h6,h7,x.val h8⟩
 | mice ak av tk tv l =>
  rw[hq]at ho;obtain⟨b',c',es,cl,h1,h2,h3,h4⟩:=ho;exact⟨b',c',es,cl,h1,⟨by rw[x.size];exact h2.1,h2.2⟩,x.maps _ _ _ h3,x.map h4⟩
 | iter ak av tk tv l cu =>
  rw[hq]at ho;obtain⟨b',c',m,si,se,c0,h1,h2,h3⟩:=ho;refine⟨b',c',m,si,se,c0,h1,by rw[World.putObj_heap_other (λe=>by rw[e,hb]at h2;cases h2)];exact h2,⟨?_⟩⟩;rcases h3.map with g | ⟨b4,es,cl,g1,g2,g3,g4,g5,g6,g7,⟨p,p1,p2,p3⟩,g9⟩
  ·exact .inl g
  ·refine .inr ⟨b4,es,cl,g1,⟨by rw[x.size];exact g2.1,g2.2⟩,x.maps _ _ _ g3,g4,g5,g6,g7,⟨p,p1,p2,λi y q a b=>⟨x.val (p3 i y q a b).1,x.val (p3 i y q a b).2⟩⟩,λq hq=>?_⟩;obtain⟨e0,y,y1,y2,y3,y4⟩:=g9 q hq;exact⟨e0,y,y1,y2,x.val y3,x.val y4⟩
theorem q2c {tmps:Array Value} {m:Nat} {R:Ending->World->Prop} {B:Bd} (q:w0.heap.size<=B.n) {u:FrameMode} (x:u≠.run:=by cases h):∀(e:List Deferred) (w:World),MarksOK B e w->HeapOK L w0 κ h w ->
  ∃a,HeapOK L w0 κ h a/\(∀av v,RepAV L κ h w av v->RepAV L κ h a av v)/\a.heap.size=w.heap.size/\(∀b,b<B.n->a.heap[b]? = w.heap[b]?) /\
   (LeavesInM (Fr none) m P fn tmps R B.tl u a->LeavesInM (Fr none) m P fn tmps R e u w):=by
 intro e w ⟨F,n,t,D,l⟩ o
 induction n generalizing e w with
 | nil=>grind
 | cons b n s =>
  subst D;obtain⟨A,f⟩:=cM.1 t;obtain⟨j,i⟩:=l b ar;have g:=v5l o i (bw q j);obtain⟨a,C,r,E,y,p⟩:=s _ (w.putObj b (.deferred none)) (by simp_all) f rfl (λk c=>⟨(l k (aj _ c)).1,by
   grind[World.putObj_heap_other]⟩) g
  refine⟨a,C,λav v z=>r av v ((y54 i).av z),by simp_all,λk c=>(y k c).trans (World.putObj_heap_other (by omega)),λd=>?_⟩;exact⟨x,.inl ⟨b,_,rfl,run_takeDeferred i,p d⟩⟩
variable {f:FuncId} {C:Ctx} {an:Ann} {rs:List RTy}
theorem z3y (S:CtxOK P L w C) (I:P.follows .mixedOrders=true) (hf:P.funcs[f]? = some fn) {st0:St} {y:J2 rs} (K:q66 C fn an rs st0=some y) {κ0:A6} {j:List Value} (V:Sim P L w ⟨w.heap.size,[]⟩ none κ0 st0 { tmps:=j.toArray++Array.replicate (fn.ntmps-j.toArray.size) undef,defers:=[] } w) (m:Nat) :
  CallsIn (Fr none) m P f j.toArray w λe a=>∃v,e=.returned v/\Below w.heap.size w a/\U4 L w a rs v y:=by
 unfold q66 at K;split at K
 ·grind
 ·rename_i c hc;obtain⟨k,g,hk,-,U⟩:=R6 S I 0 c an _ _ _ y K;have fin:∀{d:A6} {s:Act} {J:World},Sim P L w ⟨w.heap.size,[]⟩ none d g s J->∀F:XK,(F=.nrm\/F=.ret)->(q2n C g fn.results.toList λz=>Q1 g.h rs z λy p o=>cond (match o with
   | some id=>!E2 p id
   | none=>true) (some y) none)=some y->bodyPostM (Fr none) m P fn (λe a=>∃v,e=.returned v/\Below w.heap.size w a/\U4 L w a rs v y) F.exit s J:=by
   intro d s J A F hk' he;obtain⟨z,h1,X⟩:=z1i (P:=P) (L:=L) (w0:=w) (λt Y h=>S.ti t Y h) fn.results.toList _ y he;obtain⟨a,q,N,szE,-,D⟩:=q2c (P:=P) (fn:=fn) (tmps:=s.tmps) (m:=m) (u:=.returning) (R:=λe a=>∃v,e=.returned v/\Below w.heap.size w a/\U4 L w a rs v y) (B:=⟨w.heap.size,[]⟩) (ax _) (by grind) s.defers J A.defs A.heap;obtain⟨n,g1,g2,g3,g4⟩:=X d s a (λt=>N _ _ (A.env t)) q;obtain⟨y',p,o,Q,r2,Z⟩:=z1j (L:=L) (w0:=w) rs z _ y h1;obtain⟨hno,Q⟩:=B1 Q;cases Q;obtain⟨i1,i2,i3⟩:=V2 (w0:=w) p q;have r:∀id,o=some id->A3 (B4 g.h p) g.h id=g.h id:=λid ho=>by
    grind[q0g,memb_iff]
   have W:∀(M:Heap),(∀id,o=some id->M id=g.h id)->∀b,A4 L d M a b->(b<a.heap.size/\¬L b/\∀c,o.bind d≠some (b,c)):=λM hq b G=>⟨G.1,G.2.1,λc O=>by
    cases o with
    | none=>grind
    | some id =>
     obtain⟨e,t,l,H⟩:=r2;exact G.2.2 id c (by rw[hq id rfl,H];rfl) O⟩
   have E:=Z d a n g2 g4 q _ i2 i3 r (λb=>b<a.heap.size/\¬L b/\∀c,o.bind d≠some (b,c)) (W _ r) (λid e t l ho H b G=>W g.h (λ_ _=>rfl) b G);have x:LeavesInM (Fr none) m P fn s.tmps (λe a=>∃v,e=.returned v/\Below w.heap.size w a/\U4 L w a rs v y) s.defers .returning J :=
    D ⟨_,j4h g1,_,rfl,q.below,o.bind d,n,rfl,E⟩
   cases F with
   | nrm=>exact x
   | ret=>exact x
   | ex i=>grind
   | pan T=>grind
  refine callsIn_of_wp_marks hf hc trivial ?_;cases k with
  | nrm=>grind
  | ret=>grind
  | ex i=>grind
  | pan T=>grind
theorem C5 (l:∀L h,GlobOK C.glob h->CtxOK P L h C) (c:P.follows .mixedOrders=true) (j:P.funcs[f]? = some fn) (b:(fn.name== "runtime.NumGoroutine")=false) {e:List (Bool×Ty)} {g:F9 e->Option (J2 rs)} (q:fn.body.isSome=true) (k:∀x,v43 C fn an e rs x=g x):FunOK' P C.glob f { args:=e,res:=rs,f:=g }:=by
 refine⟨λx y d L w i n p a m=>?_,fn,j,q,b⟩;simp at d a ⊢;rw[<-k x]at d;obtain⟨o,d⟩:=B1 d;exact z3y (l L w n) c j d (j75 p a (ao o)) m
theorem j8y (hC:∀L w0,GlobOK C.glob w0->CtxOK P L w0 C) (hmix:P.follows .mixedOrders=true) (hf:P.funcs[f]? = some fn) (hname:(fn.name== "runtime.NumGoroutine")=false) {rf:List Bool} {as:List (Bool×Ty)} {g:F9 as->Option (J2 rs)} (hb:fn.body.isSome=true) (hg:∀x,j8x C fn an rf as rs x=g x):FunOK' P C.glob f { args:=as,res:=rs,f:=g,refs:=rf }:=by
 refine⟨λx y hy L w vals hG hL hargs m=>?_,fn,hf,hb,hname⟩;simp only at hy hargs ⊢;rw[<-hg x]at hy;unfold j8x at hy;obtain⟨hn,hy⟩:=B1 hy;exact z3y (hC L w hG) hmix hf hy (j76 hL hargs (ao hn)) m
theorem j1g (O:∀L M,GlobOK C.glob M->CtxOK P L M C) (j:P.follows .mixedOrders=true) (F:P.funcs[f]? = some fn) (k:(fn.name== "runtime.NumGoroutine")=false) {e:Ty} {g:F9 [(false,.list e)]->Option (J2 rs)} (z:fn.body.isSome=true) (hn:1<=fn.ntmps) (h1:q66 C fn an rs (z6a (.one .nx) fn.ntmps)=g ([],())) (Z:∀l,q66 C fn an rs (z6a (.one (.ne e l)) fn.ntmps)=g (l,())) :
  FunOK' P C.glob f { args:=[(false,.list e)],res:=rs,f:=g }:=by
 refine⟨λx y p L w n I S a m=>?_,fn,F,z,k⟩;simp at p a ⊢;obtain⟨l,u⟩:=x
 match n,a with
 | [v],a =>
  obtain⟨⟨_,Q,W⟩,-⟩:=a;obtain⟨G,c,d,B,r,q,R⟩:=W;have B:v=.slice G c d:=by grind[E6]
  have s:∀A:AV,RepAV L (λ_=>none) q1g w A v->Sim P L w ⟨w.heap.size,[]⟩ none (λ_=>none) (z6a A fn.ntmps) { tmps:=[v].toArray++Array.replicate (fn.ntmps - [v].toArray.size) undef,defers:=[] } w:=λA E=>by
   refine⟨by grind[z6a],λt=>?_,y2e S,MarksOK.nil (ax _),λl N=>by grind⟩;show RepAV L _ _ _ (upd (λ_=>AV.one .unk) 0 A t) _;by_cases J:t=0
   ·subst J;have Y:([v].toArray++Array.replicate (fn.ntmps - [v].toArray.size) undef).getD 0 undef=v:=by simp[aA,dZ]
    rw[Y];exact E
   ·rw[A0 _ _ J];trivial
  cases G with
  | none =>
   have N:l=[]:=by
    grind
   subst N;have V:c=0:=by omega
   subst V;rw[<-h1]at p;exact z3y (O L w I) j F p (s _ ⟨d,B⟩) m
  | some K =>
   rw[<-Z]at p;refine z3y (O L w I) j F p (s _ ⟨Q,⟨some K,c,d,by omega,r,q,λD=>?_⟩,K,c,d,B⟩) m;obtain⟨b,o,T,H,X⟩:=R D;exact⟨b,o,T,⟨H.1,H.2,λ_ _ _ h=>by grind⟩,λi y U=>RepAt.mono (λb z=>⟨⟨z.1,z.2,λ_ _ _ h=>by grind⟩,rfl⟩) e _ y (X i y U)⟩
theorem y1h {κ:A6} {h:Heap} {w:World}:∀(args:List AV) (b:List Value) (i:Nat),b.length=args.length->(∀(j:Nat) (a:AV) (v:Value),args[j]? = some a->b[j]? = some v->RepAV L κ h w a v) ->
  (∀(j:Nat) (v:Value),b[j]? = some v->RepAV L κ h w (q2e i args (i+j)) v)/\∀t,t<i\/i+args.length<=t->q2e i args t=.one .unk
 | [],[],i,_,_=>⟨λj v d=>by grind,λ_ _=>rfl⟩
 | [],_::_,_,c,_=>by grind
 | _::_,[],_,c,_=>by grind
 | a::r,v::f,i,c,e=>by
  obtain⟨g,k⟩:=y1h r f (i+1) (by grind) (λj a v l m=>e (j+1) a v (by grind) (by grind));refine⟨λj u d=>?_,λt n=>?_⟩
  ·simp[q2e];cases j with
   | zero =>
    grind[A2]
   | succ j =>
    grind[A0]
  ·simp[q2e];grind[A0]
theorem j37 {lo:Nat->Bool} {args:List AV} {b:List Value} {n:Nat} (c:b.length=args.length) (g:∀(j:Nat) (a:AV) (v:Value),args[j]? = some a->b[j]? = some v->RepAV L κ h w a v) (d:HeapOK L w0 κ h w) (i:args.length<=n) :
  Sim P L w0 ⟨w.heap.size,[]⟩ none κ { ρ:=q2e 0 args,h,lt:=λ_=>false,lo,n } { tmps:=b.toArray++Array.replicate (n-b.toArray.size) undef,defers:=[] } w:=by
 obtain⟨m,f⟩:=y1h (L:=L) (κ:=κ) (h:=h) (w:=w) args b 0 c g;refine⟨by grind,λt=>?_,d,MarksOK.nil (ax _),λl c=>by grind⟩;by_cases e:t<b.length
 ·have k:(b.toArray++Array.replicate (n-b.toArray.size) undef).getD t undef=b[t]:=by
   simp[aA,dZ,e]
  grind
 ·show RepAV L _ _ _ (q2e 0 args t) _;rw[f t (by omega)];trivial
theorem k10 {d:List AV} {b:List Value} (o:b.length=d.length) (k:d.all y2h=true) (j:∀(i:Nat) (g:AV) (v:Value),d[i]? = some g->b[i]? = some v->RepAV L κ h w g v) :
  RepAV L κ h w (z84 d) (q4d b):=by
 have e:z84 d=.tup (d.map j8d)->q4d b=.tuple b.toArray->RepAV L κ h w (z84 d) (q4d b):=λp t=>by
  rw[p,t];refine⟨b,rfl,by grind,λi c u m q=>?_⟩;rw[bK]at m;cases f:d[i]? with
  | none=>grind
  | some g =>
   rw[f]at m;cases m;have n:=j i g u f q;have r:=aG.1 k g (bk f);cases g with
   | one s=>exact n
   | agg l=>exact n
   | tup l=>cases r
 match d,b,o,j,e with
 | [a],[v],_,j,_=>exact j 0 a v rfl rfl
 | [],[],_,_,e=>exact e rfl rfl
 | _::_::_,_::_::_,_,_,e=>exact e rfl rfl
theorem y4q {κ:A6} {h:Heap} {w:World}:∀(ps:List Tmp) (args:List AV) (b:List Value) (ρ:Env) (tmps:Array Value),args.length=ps.length->b.length=ps.length->(∀t∈ps,t<tmps.size) ->
  (∀(i:Nat) (a:AV) (v:Value),args[i]? = some a->b[i]? = some v->RepAV L κ h w a v)->(∀t,RepAV L κ h w (ρ t) (tmps.getD t undef)) ->
  ((ps.zip b).foldl (λtmps (t,a)=>tmps.setIfInBounds t a) tmps).size=tmps.size/\∀t,RepAV L κ h w (z88 ps args ρ t) (((ps.zip b).foldl (λtmps (t,a)=>tmps.setIfInBounds t a) tmps).getD t undef)
 | [],_,_,_,_,_,_,_,_,j=>⟨rfl,by simpa[z88]using j⟩
 | _::_,[],_,_,_,e,_,_,_,_=>by grind
 | _::_,_::_,[],_,_,_,e,_,_,_=>by grind
 | p::ps,a::args,v::b,ρ,tmps,e,n,g,d,k=>by
  obtain⟨o,f⟩:=y4q ps args b (upd ρ p a) (tmps.setIfInBounds p v) (by grind) (by grind) (λt c=>by grind)
   (λi a v m l=>d (i+1) a v (by grind) (by grind)) (λt=>by
    by_cases c:t=p
    ·subst c;rw[A2];simp[aA,bV (g t ar),bm];exact d 0 a v rfl rfl
    ·rw[A0 _ _ c];simp[aA,bE (Ne.symm c)];simp_all)
  exact⟨by simp_all,f⟩
theorem y40 (n:HeapOK L w0 κ h w) {id:Nat} {i:RI} {s:RS} (k:h id=.lrec i s) (s':RS) :
  ∃b c,κ id=some (b,c)/\∃r:Loop,w.heap[b]? = some (.loop r)/\r.state=s.state/\r.pending=s.pend/\∀a:Loop,a.state=s'.state->a.pending=s'.pend->a.params=r.params->a.assign=r.assign->a.body=r.body->a.tmps=r.tmps ->
   HeapOK L w0 κ (upd h id (.lrec i s')) (w.putObj b (.loop a))/\Ext L κ h w κ (upd h id (.lrec i s')) (w.putObj b (.loop a)):=by
 have u:=n.obj id;rw[k]at u;obtain⟨b,c,r,m,o,F,A,C,x,D,J,I⟩:=u;refine⟨b,c,m,r,o,F,A,λa G B E z y H=>?_⟩;have f:(w.putObj b (.loop a)).heap.size=w.heap.size:=by simp
 have p:b<w.heap.size:=(au.1 o).1;have j:(w.putObj b (.loop a)).heap[b]? = some (.loop a):=World.putObj_heap_same p;have d:∀l,l≠b->(w.putObj b (.loop a)).heap[l]? = w.heap[l]?:=λl q=>World.putObj_heap_other q;have g:(h id).like (.lrec i s'):=by rw[k];rfl
 have e:=U9 (L:=L) (κ:=κ) (h:=h) m g (.inr ⟨r,_,o,j⟩) f d;have v:=n.own id b c (by rw[k];rfl) m;exact⟨X4 n m g f d (n.below.trans ⟨rfl,rfl,rfl,by simp,λl q=>d l (by omega),ax _⟩)
  ⟨b,c,a,m,j,G,B,E.trans C,z.trans x,y.trans D,by grind,λt=>by grind[RepAV.ext]⟩,e⟩
def y8y (P:Program) (L:Nat->Prop) (w0:World) (f:FuncId) (g:List AV->Heap->(Nat->Bool)->Nat->(R:Type)->(AV->Heap->Option R)->Option R):Prop :=
 ∀args h lo ib (R:Type) (K:AV->Heap->Option R) (z:R),g args h lo ib R K=some z->∃av h',K av h'=some z/\(∀id,lo id=true->h' id=h id) /\
  ∀κ w (vals:List Value),vals.length=args.length->(∀(i:Nat) (a:AV) (v:Value),args[i]? = some a->vals[i]? = some v->RepAV L κ h w a v)->HeapOK L w0 κ h w ->
   ∀m,CallsIn (Fr none) m P f vals.toArray w (EndOK L w0 κ h w h' av)
def z1m:List Addr->List Value->World->World
 | a::as,v::vs,w=>z1m as vs (w.setCell a v)
 | _,_,w=>w
structure DefF (P:Program) (di:DefI):Prop where
 fn:∃fn,P.funcs[di.g]? = some fn/\fn.body.isSome=true/\(fn.name== "runtime.NumGoroutine")=false
 ret:∀(as:List Addr) (w:World) (m:Nat),as.length=di.vs.length->CallsDIn (Fr none) m P di.g (as.map λa=>Value.pointer (some a)).toArray .returning w λe u w'=>(∃v,e=.returned v)/\u=.returning/\w'=w
 pan:∀(as:List Addr) (w:World) (m:Nat) (us:List Value),as.length=di.vs.length->di.vs.mapM q37=some us->(∀a∈as,a.spot=none/\∃c ty,w.heap[a.block]? = some (.cells c ty (0,0))/\a.off<c.size) ->
  CallsDIn (Fr none) m P di.g (as.map λa=>Value.pointer (some a)).toArray (.panicking [pv di.X]) w λe u w'=>(∃v,e=.returned v)/\u=.panicking [{ pv di.X with recovered:=true }]/\∃o,w'=z1m as us (w.alloc o)
variable {h':Heap}
theorem v3k {s:SV} (h:q37 s=some v):RepSV L κ h' w s v/\v.oneCell'=true:=by
 unfold q37 at h;split at h
 ·cases h;exact⟨rfl,rfl⟩
 ·cases h;exact⟨M2 _ _,rfl⟩
 ·cases h;exact⟨Z0 _,rfl⟩
 grind
variable {a:Nat}
theorem k37 {c:Array Value} {ty:TypeId} {d:Nat×Nat} (h:w.heap[b]? = some (.cells c ty d)):w.setCell ⟨b,a,none⟩ v=w.setRow b (c.setIfInBounds a v):=by
 unfold World.setCell;congr 1;apply dJ;grind[setRow_heap,setRow_other]
theorem k3z (u:HeapOK L w0 κ h w) {id:Nat} {c:Nat×Nat} {l:List SV} {s:SV} (k:h id=.cells l) (o:κ id=some (b,c)) (C:a<l.length) (I:q37 s=some v) :
  HeapOK L w0 κ (upd h id (.cells (l.set a s))) (w.setCell ⟨b,a,none⟩ v)/\Ext L κ h w κ (upd h id (.cells (l.set a s))) (w.setCell ⟨b,a,none⟩ v):=by
 have t:=u.obj id;rw[k]at t;obtain⟨m,D,B,G,n,f,p⟩:=t;rw[o]at n;obtain⟨rfl,rfl⟩:=n;rw[k37 f];have j:(h id).live=true:=by rw[k];rfl
 have r:=u.own id b c j o;have d:(h id).like (.cells (l.set a s)):=by rw[k];trivial
 have e:(w.setRow b (B.toArray.setIfInBounds a v)).heap.size=w.heap.size:=by simp
 have g:∀m,m≠b->(w.setRow b (B.toArray.setIfInBounds a v)).heap[m]? = w.heap[m]?:=λm A=>setRow_other w b m _ A;have q:=U9 (L:=L) (κ:=κ) (h:=h) o d (.inl (.inl ⟨_,_,_,f⟩)) e g;refine⟨X4 u o d e g (q0y _ u.below r.1) ⟨b,c,B.set a v,G,o,by grind[setRow_heap],?_⟩,q⟩;refine⟨by simp[p.1],λi F D z y=>?_⟩;rw[List.getElem?_set]at z y;by_cases x:a=i
 ·grind[v3k]
 ·rw[if_neg x]at z y;obtain⟨E,H⟩:=p.2 i F D z y;exact⟨E.ext q,H⟩
theorem y7p {lo:Nat->Bool} {κ:A6}:∀(e:List (Nat×Nat)) (vs:List SV) (j:List Addr) (m:List Value) (h k:Heap) (w:World),M9 lo e vs h=some k->HeapOK L w0 κ h w->vs.mapM q37=some m->j.length=e.length ->
  (∀(i:Nat) (p:Nat×Nat) (a:Addr),e[i]? = some p->j[i]? = some a->∃b c,κ p.1=some (b,c)/\a=⟨b,p.2,none⟩)->HeapOK L w0 κ k (z1m j m w)/\Ext L κ h w κ k (z1m j m w)
 | [],[],[],m,h,k,w,d,D,g,q,t=>by
  simp[M9,aN]at d;subst d;exact⟨D,Ext.refl _ _ _ _⟩
 | (id,n)::r,s::vs,a::j,m,h,k,w,d,D,g,q,t=>by
  simp[M9]at d;split at d
  ·rename_i l v y E;obtain⟨f,d⟩:=B1 d;rw[ac]at f;have f:n<l.length:=ao f.1;rw[fe,E]at g;cases u:vs.mapM q37 with
   | none=>rw[u]at g;cases g
   | some o =>
    rw[u]at g;have B:m=v::o:=by simpa using g.symm
    subst B;obtain⟨b,c,G,F⟩:=t 0 (id,n) a rfl rfl;subst F;obtain⟨z,I⟩:=k3z D y G f E;obtain⟨A,H⟩:=y7p r vs j o _ k _ d z u (by simpa using q) λi p a C x=>t (i+1) p a C x;exact⟨A,I.trans H⟩
  ·cases d
 | [],_::_,_,_,_,_,_,d,_,_,_,_=>by grind[M9]
 | _::_,[],_,_,_,_,_,d,_,_,_,_=>by grind[M9]
 | [],[],_::_,_,_,_,_,_,_,_,q,_=>by grind
 | _::_,_::_,[],_,_,_,_,_,_,_,q,_=>by grind
theorem y4z {g:FuncId} (a:P.funcs[g]? = some fn) (b:fn.body.isSome=true) (c:(fn.name== "runtime.NumGoroutine")=false) (cap:Array Value) (w:World) :
  (invoke (.fn (.func g) cap) #[]).run P w=.ok (.enter g cap) w:=by
 simp[invoke,callFunc,a,dA];grind
theorem y7m {lo:Nat->Bool}:∀(b:List (Nat×Nat)) (vs:List SV) (h j:Heap),M9 lo b vs h=some j->∀p∈b,∃l,h p.1=.cells l/\p.2<l.length
 | [],_,_,_,_,p,g=>by grind
 | (id,e)::r,[],_,_,c,_,_=>by grind[M9]
 | (id,e)::r,s::vs,h,j,c,p,g=>by
  simp[M9]at c;split at c
  ·rename_i l v f n;obtain⟨a,c⟩:=B1 c;rw[ac]at a;have a:e<l.length:=ao a.1;rcases al.1 g with rfl | g
   ·exact⟨l,f,a⟩
   ·obtain⟨m,i,k⟩:=y7m r vs _ j c p g;by_cases d:p.1=id
    ·rw[d,A2]at i;cases i;exact⟨l,by rw[d];exact f,by simpa using k⟩
    ·rw[A0 _ _ d]at i;exact⟨m,i,k⟩
  ·cases c
theorem y7n {lo:Nat->Bool}:∀(a:List (Nat×Nat)) (vs:List SV) (h c:Heap),M9 lo a vs h=some c->a.length=vs.length/\∃d,vs.mapM q37=some d
 | [],[],_,_,_=>⟨rfl,[],rfl⟩
 | [],_::_,_,_,b=>by grind[M9]
 | _::_,[],_,_,b=>by grind[M9]
 | (id,i)::r,s::vs,h,c,b=>by
  simp[M9]at b;split at b
  ·rename_i l v e j;obtain⟨_,b⟩:=B1 b;obtain⟨g,d,f⟩:=y7n r vs _ c b;exact⟨by simp[g],v::d,by rw[fe,j,f];rfl⟩
  ·cases b
theorem y7o {lo:Nat->Bool}:∀(b:List (Nat×Nat)) (vs:List SV) (h c:Heap),M9 lo b vs h=some c->∀id,lo id=true->c id=h id
 | [],[],_,_,a,_,_=>by grind[M9]
 | [],_::_,_,_,a,_,_=>by grind[M9]
 | _::_,[],_,_,a,_,_=>by grind[M9]
 | (id,f)::r,s::vs,h,c,a,j,d=>by
  simp[M9]at a;split at a
  ·obtain⟨g,a⟩:=B1 a;rw[y7o r vs _ c a j d,A0 _ _ (λe=>by grind)]
  grind
theorem EndOK.mk_ret {av:AV} {κ':A6} (h1:HeapOK L w0 κ' h' w') (a:RepAV L κ' h' w' av v) (b:Ext L κ h w κ' h' w'):EndOK L w0 κ h w h' av (.returned v) w':=.inl ⟨v,κ',rfl,h1,a,b⟩
theorem q4s {κ':A6} {w1:World} (ext:Ext L κ h w κ' h' w1) (szE:w'.heap.size=w1.heap.size) (loE:∀b,b<w.heap.size->w'.heap[b]? = w1.heap[b]?):Ext L κ h w κ' h' w' :=
 ⟨ext.place,ext.kid,ext.dead,ext.cells,ext.arr,ext.tree,ext.ice,ext.lrec,ext.maps,ext.iter,λb hb=>by
  obtain⟨f1,f2⟩:=ext.still b hb;exact⟨⟨by rw[szE];exact f1.1,f1.2⟩,(loE b hb.1).trans f2⟩,by rw[szE];exact ext.size,λb r hr=>by
  obtain⟨r',hr'⟩:=ext.loops b r hr;exact⟨r',(loE b (au.1 hr).1).trans hr'⟩,λb hr=>(loE b (au.1 hr).1).trans (ext.defs b hr)⟩
variable {R:Type} {K:AV->Heap->Option R} {z:R}
theorem q8d (k:∀t m,C.TI t=some m->m.OK P t) {st:St} (o:q27 C fn st K=some z) :
  ∃l,K l st.h=some z/\∀(c:A6) (h:Heap) (w:World) (d:A6) (a:Act) (b:World),(∀t,RepAV L d st.h b (st.ρ t) (a.tmps.getD t undef))->HeapOK L w0 d st.h b->Ext L c h w d st.h b ->
   ∃v,(results fn a.tmps).run P b=.ok v b/\EndOK L w0 c h w st.h l (.returned v) b:=by
 obtain⟨s,g,r⟩:=z1i (P:=P) (L:=L) (w0:=w0) k fn.results.toList _ z o;obtain⟨f,g⟩:=B1 g;refine⟨_,g,λc h w d a b e ok j=>?_⟩;obtain⟨i,q,p,u,n⟩:=r d a b e ok;exact⟨_,j4h q,.mk_ret ok (k10 p f n) j⟩
variable {lo:Nat->Bool}
theorem j8p {X:TypeId} (e:z3w lo X h' K=some z) :
  K (.one (.pan X)) (upd h' D1 (N8 X))=some z/\lo D1=false/\∀(a:A6) (d:Heap) (w:World) (c:A6) (b:World),HeapOK L w0 c h' b->Ext L a d w c h' b ->
   EndOK L w0 a d w (upd h' D1 (N8 X)) (.one (.pan X)) (.panicked [pv X]) b:=by
 unfold z3w at e;split at e
 ·obtain⟨i,h⟩:=B1 e;have f:upd (upd h' D1 (N8 X)) D1 .fresh=h':=by
   grind[A2,A0]
  exact⟨h,by grind,λa d w c b j g=>.inr ⟨X,c,rfl,rfl,by grind,by grind⟩⟩
 grind
theorem v3m {a:Code} {ops:Array Oper} {c b:Oper} {d:Nat} (h:j0o a=some (ops,c,b,d)):∃i args e,a=.region i ops false/\ops.toList=[c,b]/\c.dst=some d/\b.op=.defer { callee:=.value (.tmp d),args:=args,argTypes:=e }/\args=#[]/\b.guard=none/\b.dst=none:=by
 unfold j0o at h;grind[Nat.eq_of_beq_eq_true]
theorem v41 (hC:CtxOK P L w0 C) (hmix:P.follows .mixedOrders=true) {ib:Nat} {di:DefI} (hdi:DefF P di):∀(c:Code) (an:Ann) (st:St),z3x C ib fn di K c an st=some z ->
  ∃av h',K av h'=some z/\(∀id,st.lo id=true->h' id=st.h id)/\∀(g:A6) (h0:Heap) (w:World),w0.heap.size<=w.heap.size->∀(m:Nat) (Q:A6) (a:Act) (Z:World),Sim P L w0 ⟨w.heap.size,[]⟩ none Q st a Z->Ext L g h0 w Q st.h Z ->
   c.wpIn (Fr none) m P (bodyPostM (Fr none) m P fn (EndOK L w0 g h0 w h' av)) a Z:=by
 intro c
 induction c with
 | seq a b iha ihb =>
  intro an st he;cases an with
  | seq p q =>
   simp[z3x]at he;split at he
   ·rename_i ops mk df d hd;obtain⟨i,args,Ts,rfl,hops,hmk,hdf,rfl,hgd,hdst⟩:=v3m hd;obtain⟨qs,st1,pj,hst,hpi,hk⟩:=z4b hC [mk] st [] _ z he;obtain⟨hpj,hk1⟩:=B1 hk;clear hk;obtain rfl:pj=none:=by simp_all
    split at hk1
    rotate_left
    ·grind
    rename_i f A hfc;obtain⟨hcf,hk⟩:=B1 hk1;rw[ac]at hcf;have hf:=ab hcf.1;subst hf;obtain⟨x,k,hk2,sl2,hrun⟩:=R6 hC hmix ib b q R _ _ z hk;cases hst with
    | @cons _ _ _ want qq qs' _ O htail =>
    cases htail;have hlo1:∀id,st.lo id=true->(st.after mk qq).h id=st.h id:=λid E=>j2e O.ups (λH hH id E=>O.full H hH id (.inl E)) id E;have hsz:ops.size=2:=by grind[Array.length_toList]
    have h0:ops[0]? = some mk:=by rw[<-aE,hops];rfl
    have h1:ops[1]? = some df:=by rw[<-aE,hops];rfl
    have core:∀(g:A6) (r:Heap) (w:World),w0.heap.size<=w.heap.size->∀(m:Nat) (Q:A6) (a:Act) (Z:World),Sim P L w0 ⟨w.heap.size,[]⟩ none Q st a Z->Ext L g r w Q st.h Z->∀(Rr:Ending->World->Prop),
      (∀(n:A6) (I:Act) (D:World) (F:List Addr) (ds:List Deferred),(∀t,RepAV L n k.h D (k.ρ t) (I.tmps.getD t undef))->HeapOK L w0 n k.h D->Ext L g r w n k.h D->MarksOK ⟨w.heap.size,[]⟩ ds D ->
       F.length=A.length->(∀(i:Nat) (p:Nat×Nat) (a:Addr),A[i]? = some p->F[i]? = some a->∃b c,n p.1=some (b,c)/\a=⟨b,p.2,none⟩) ->
       match x with
       | .ex _=>True
       | .pan Y=>LeavesInM (Fr none) m P fn I.tmps Rr ({ target:=.fn (.func di.g) (F.map λa=>Value.pointer (some a)).toArray,args:=#[] }::ds) (.panicking [pv Y]) D
       | _=>LeavesInM (Fr none) m P fn I.tmps Rr ({ target:=.fn (.func di.g) (F.map λa=>Value.pointer (some a)).toArray,args:=#[] }::ds) .returning D) ->
      (Code.seq (.region i ops false) b).wpIn (Fr none) m P (bodyPostM (Fr none) m P fn Rr) a Z:=by
     intro g r w S m Q a Z G ext Rr hend;refine wpIn_seq (wpIn_region ?_);rw[hsz,show List.range 2=[0,1]from rfl,wpOpsIn_cons];refine j5f h0 O rfl rfl rfl (λS=>O.run S _ _ (j6r _ _ _ _)) (λ_ _=>rfl) (λH hH id E=>O.full H hH id (.inl E)) G (λκ1 a1 wD sim1 e1 l1=>?_) λS T hT=>absurd hT (hpi _ ar T);have hv:=sim1.env d;rw[hfc]at hv;obtain⟨cs,hv1,hv2,hv3⟩:=hv;have hcs:∃F:List Addr,F.length=A.length/\cs=F.map (λa=>Value.pointer (some a))/\∀(i:Nat) (p:Nat×Nat) (a:Addr),A[i]? = some p->F[i]? = some a->((st.after mk qq).h p.1).Held/\∃b c,κ1 p.1=some (b,c)/\a=⟨b,p.2,none⟩:=by
      refine⟨cs.map (λv=>match v with | .pointer (some a)=>a | _=>default),by grind,?_,λi p a hp ha=>?_⟩
      ·apply ce;intro i;by_cases hi:i<A.length
       ·obtain⟨-,b',c',-,hc⟩:=hv3 i _ (af hi);grind
       grind
      grind
     obtain⟨F,ha1,rfl,ha3⟩:=hcs;rw[wpOpsIn_cons];unfold wpOpIn;rw[h1];have hwant:Region.wanted df (yielded ops a1.tmps)=true:=by grind[Region.wanted]
     simp[hwant,if_true];refine⟨λ_ _=>trivial,?_⟩;have hrunD:(df.semAt (Fr none).round a1.eval).run P wD=.ok (.defer { target:=.fn (.func di.g) (F.map λa=>Value.pointer (some a)).toArray,args:=#[] }) wD:=by
      show(execOp a1.eval df).run P wD=_;unfold execOp;have he:a1.eval (.tmp d)=.func (.func di.g) #[] (F.map λa=>Value.pointer (some a)).toArray:=hv1;simp[hdf,resolve,Deferred.ofValue,he]
     rw[hrunD,Oper.uponIn_defer,hdst];show b.wpIn (Fr none) m P (bodyPostM (Fr none) m P fn Rr) ({ a1 with defers:=_::a1.defers }:Act) wD;refine hrun ⟨wD.heap.size,{ target:=.fn (.func di.g) (F.map λa=>Value.pointer (some a)).toArray,args:=#[] }::a1.defers⟩ none m κ1 _ wD _ ⟨sim1.size,sim1.env,sim1.heap,MarksOK.nil (ax _),λl hl=>by grind⟩ λn I wA sim2 e2 l2=>?_;have hsz0:w.heap.size<=wD.heap.size:=(ext.trans e1).size;have lv:∀u:FrameMode,u≠.run->∃D,HeapOK L w0 n k.h D/\(∀t,RepAV L n k.h D (k.ρ t) (I.tmps.getD t undef))/\Ext L g r w n k.h D/\MarksOK ⟨w.heap.size,[]⟩ a1.defers D /\
       (LeavesInM (Fr none) m P fn I.tmps Rr ({ target:=.fn (.func di.g) (F.map λa=>Value.pointer (some a)).toArray,args:=#[] }::a1.defers) u D->LeavesInM (Fr none) m P fn I.tmps Rr I.defers u wA):=λu hu=>by
      obtain⟨D,okE,avE,W,U,y⟩:=q2c (P:=P) (fn:=fn) (tmps:=I.tmps) (m:=m) (u:=u) (R:=Rr) (B:=⟨wD.heap.size,{ target:=.fn (.func di.g) (F.map λa=>Value.pointer (some a)).toArray,args:=#[] }::a1.defers⟩) (bw S hsz0) hu I.defers wA sim2.defs sim2.heap;refine⟨D,okE,λt=>avE _ _ (sim2.env t),q4s ((ext.trans e1).trans e2) W (λb hb=>U b (bc hb hsz0)),sim1.defs.keep (by rw[W];exact e2.size) (λb hb=>(U b (au.1 hb).1).trans (e2.defs b hb)),y⟩
     have J:∀(i:Nat) (p:Nat×Nat) (a:Addr),A[i]? = some p->F[i]? = some a->∃b c,n p.1=some (b,c)/\a=⟨b,p.2,none⟩:=λi p a hp ha=>by
      obtain⟨g1,b,c,V,g3⟩:=ha3 i p a hp ha;exact⟨b,c,(e2.place p.1 g1).trans V,g3⟩
     cases x with
     | nrm =>
      obtain⟨D,g1,V,g3,g4,g5⟩:=lv .returning (by grind);exact g5 (hend n I D F a1.defers V g1 g3 g4 ha1 J)
     | ret =>
      obtain⟨D,g1,V,g3,g4,g5⟩:=lv .returning (by grind);exact g5 (hend n I D F a1.defers V g1 g3 g4 ha1 J)
     | pan Y =>
      obtain⟨D,g1,V,g3,g4,g5⟩:=lv (.panicking [pv Y]) (by grind);exact g5 (hend n I D F a1.defers V g1 g3 g4 ha1 J)
     | ex j=>cases hk2
    have hlo2:∀id,st.lo id=true->k.h id=st.h id:=λid E=>(sl2.obj id E).trans (hlo1 id E);have retd:∀{av:AV},(∀(g:A6) (h0:Heap) (w:World) (Q:A6) (a:Act) (w':World),(∀t,RepAV L Q k.h w' (k.ρ t) (a.tmps.getD t undef))->HeapOK L w0 Q k.h w'->Ext L g h0 w Q k.h w' ->
       ∃v,(results fn a.tmps).run P w'=.ok v w'/\EndOK L w0 g h0 w k.h av (.returned v) w')->A.length=di.vs.length ->
      ∀(g:A6) (r:Heap) (w:World),w0.heap.size<=w.heap.size->∀(m:Nat) (n:A6) (I:Act) (D:World) (F:List Addr) (ds:List Deferred),(∀t,RepAV L n k.h D (k.ρ t) (I.tmps.getD t undef))->HeapOK L w0 n k.h D->Ext L g r w n k.h D->MarksOK ⟨w.heap.size,[]⟩ ds D->F.length=A.length ->
      LeavesInM (Fr none) m P fn I.tmps (EndOK L w0 g r w k.h av) ({ target:=.fn (.func di.g) (F.map λa=>Value.pointer (some a)).toArray,args:=#[] }::ds) .returning D:=λ{av} V hlen g r w S m n I D F ds M ok N hm hal=>by
     obtain⟨fn',f1,f2,f3⟩:=hdi.fn;refine⟨(by intro h;cases h),.inr ⟨λh=>by simp[Fr]at h,_,_,di.g,(F.map λa=>Value.pointer (some a)).toArray,rfl,?_,λ_ _=>trivial,CallsDIn.mono (hdi.ret F D (m-1) (by rw[hal,hlen])) λe u' w' ⟨⟨v,hv⟩,hu,hw'⟩=>?_⟩⟩
     ·exact y4z f1 f2 f3 _ D
     subst hv;subst hu;subst hw';obtain⟨wD,okE,avE,W,U,y⟩:=q2c (P:=P) (fn:=fn) (tmps:=I.tmps) (m:=m) (u:=.returning) (R:=EndOK L w0 g r w k.h av) (B:=⟨w.heap.size,[]⟩) S (by intro h;cases h) ds w' hm ok;exact y (V g r w n I wD (λt=>avE _ _ (M t)) okE (q4s N W U))
    have hclen:=ab hcf.2;cases x with
    | ex j=>cases hk2
    | nrm =>
     obtain⟨av,g1,V⟩:=q8d (P:=P) (L:=L) (w0:=w0) hC.ti (show q27 C fn k K=some z from hk2);exact⟨av,_,g1,hlo2,λg r w S m Q a Z G ext=>core g r w S m Q a Z G ext _ λn I D F ds M ok N hm hal J=>retd V hclen g r w S m n I D F ds M ok N hm hal⟩
    | ret =>
     obtain⟨av,g1,V⟩:=q8d (P:=P) (L:=L) (w0:=w0) hC.ti (show q27 C fn k K=some z from hk2);exact⟨av,_,g1,hlo2,λg r w S m Q a Z G ext=>core g r w S m Q a Z G ext _ λn I D F ds M ok N hm hal J=>retd V hclen g r w S m n I D F ds M ok N hm hal⟩
    | pan Y =>
     have hk3:cond (Nat.beq Y di.X) (match M9 k.lo A di.vs k.h with
      | some h=>q27 C fn { k with h:=h } K
      | none=>none) none=some z:=hk2
     obtain⟨hY,hk4⟩:=B1 hk3;clear hk3;have hY:=ab hY;subst hY;split at hk4
     rotate_left
     ·cases hk4
     rename_i h2 hst2;obtain⟨av,g1,V⟩:=q8d (P:=P) (L:=L) (w0:=w0) hC.ti hk4;obtain⟨-,us,hus⟩:=y7n _ _ _ _ hst2;refine⟨av,h2,g1,λid E=>(y7o _ _ _ _ hst2 id (by rw[sl2.lo];exact E)).trans (hlo2 id E),λg r w S m Q a Z G ext=>core g r w S m Q a Z G ext _ λn I D F ds M ok N hm hal J=>?_⟩;obtain⟨fn',f1,f2,f3⟩:=hdi.fn;refine⟨(by intro h;cases h),.inr ⟨λh=>by simp[Fr]at h,_,_,di.g,(F.map λa=>Value.pointer (some a)).toArray,rfl,y4z f1 f2 f3 _ D,λ_ _=>trivial,CallsDIn.mono (hdi.pan F D (m-1) us (by rw[hal,hclen]) hus λa ha=>?_) λe u' w' ⟨⟨v,hv⟩,hu,o,hw'⟩=>?_⟩⟩
     ·obtain⟨i,hi⟩:=bf ha;have hil:i<A.length:=by rw[<-hal];exact(ag.1 hi).1
      obtain⟨b',c',k1,k2⟩:=J i _ a (af hil) hi;obtain⟨l,l1,l2⟩:=y7m _ _ _ _ hst2 _ (ay hil);have hob:=ok.obj (A[i]).1;rw[l1]at hob;obtain⟨b2,c2,cs,ty,k3,k4,k5⟩:=hob;rw[k1]at k3;cases k3;subst k2;exact⟨rfl,_,ty,k4,by rw[dm,k5.1];exact l2⟩
     ·subst hv;subst hu;subst hw';obtain⟨ok3,e3⟩:=y7p A di.vs F us _ _ _ hst2 (y0a ok o) hus hal J;have e4:Ext L n k.h D n h2 (z1m F us (D.alloc o)):=(j1x o).trans e3;obtain⟨wD,okE,avE,W,U,y⟩:=q2c (P:=P) (fn:=fn) (tmps:=I.tmps) (m:=m) (u:=.returning) (R:=EndOK L w0 g r w h2 av) (B:=⟨w.heap.size,[]⟩) S (by intro h;cases h) ds _ (hm.keep e4.size e4.defs) ok3;exact y (V g r w n I wD (λt=>avE _ _ ((M t).ext e4)) okE (q4s (N.trans e4) W U))
   ·obtain⟨x,st1,hk,sl,hrun⟩:=R6 hC hmix ib a p R st _ z he;cases x with
    | nrm =>
     obtain⟨av,h',g1,V,g3⟩:=ihb q st1 hk;refine⟨av,h',g1,λid E=>(V id (by rw[sl.lo];exact E)).trans (sl.obj id E),λg h0 w S m Q a1 Z G ext=>wpIn_seq (hrun _ none m Q a1 Z _ G λκ' a' w' s e l=>?_)⟩;exact g3 g h0 w S m κ' a' w' s (ext.trans e)
    | ret =>
     obtain⟨av,g1,V⟩:=q8d (P:=P) (L:=L) (w0:=w0) hC.ti hk;refine⟨av,_,g1,sl.obj,λg h0 w S m Q a1 Z G ext=>wpIn_seq (hrun _ none m Q a1 Z _ G λκ' a' w' s e l=>?_)⟩;obtain⟨w2,okE,avE,W,U,y⟩:=q2c (P:=P) (fn:=fn) (tmps:=a'.tmps) (m:=m) (u:=.returning) (R:=EndOK L w0 g h0 w st1.h av) (B:=⟨w.heap.size,[]⟩) S (by intro h;cases h) a'.defers w' s.defs s.heap;exact y (V g h0 w κ' a' w2 (λt=>avE _ _ (s.env t)) okE (q4s (ext.trans e) W U))
    | pan X =>
     obtain⟨g1,hlb,V⟩:=j8p (L:=L) (w0:=w0) hk;refine⟨_,_,g1,λid E=>?_,λg h0 w S m Q a1 Z G ext=>wpIn_seq (hrun _ none m Q a1 Z _ G λκ' a' w' s e l=>?_)⟩
     ·rw[A0 _ _ (λh=>by rw[h,hlb]at E;cases E)];exact sl.obj id E
     obtain⟨w2,okE,avE,W,U,y⟩:=q2c (P:=P) (fn:=fn) (tmps:=a'.tmps) (m:=m) (u:=.panicking [pv X]) (R:=EndOK L w0 g h0 w (upd st1.h D1 (N8 X)) (.one (.pan X))) (B:=⟨w.heap.size,[]⟩) S (by intro h;cases h) a'.defers w' s.defs s.heap;exact y (V g h0 w κ' w2 okE (q4s (ext.trans e) W U))
    | ex i=>cases hk
  | _=>cases he
 | _=>intro an st he;cases he
theorem v2f {T:Tables} (hti:∀t ti,T.TI t=some ti->ti.OK P t) (hsp:∀f s,T.sp f=some s->FunOK' P T.gl f s) (hsr:∀f,T.srt f=true->Sort1 P f) (hsn:∀f k,T.srn f=some k->q20 P T.gl f k) (hif:∀t,T.ifc t=true->∃ms,P.underlying t=some (.interface ms)) (hme:∀t n f,T.meth t n=some f->z2t P t n f) (hov:∀f g,T.ov f=some g->∀(L:Nat->Prop) (w0:World),GlobOK T.gl w0->y8y P L w0 f g) (hdf:∀f di,T.dfr f=some di->DefF P di) (S:∀f,T.inl f=true->∃fn,P.funcs[f]? = some fn/\fn.body.isSome=true/\(fn.name== "runtime.NumGoroutine")=false) (hbd:∀f I fn an,T.bd f I=some (fn,an)->P.funcs[f]? = some fn/\fn.body.isSome=true/\(fn.name== "runtime.NumGoroutine")=false) (C:P.follows .mixedOrders=true) :
  ∀(n:Nat) (L:Nat->Prop) (w0:World),GlobOK T.gl w0->ICallOK P L w0 (L3 T n).ic T.inl/\z9r P L w0 (L3 T n).yc:=by
 intro n
 induction n with
 | zero=>exactλL w0 _=>⟨⟨(λf p h lo I R K z _ q=>by cases q),S⟩,λid p h lo R K z q=>by cases q⟩
 | succ n ih =>
  refineλL w0 hG=>⟨⟨λf p h lo I R K z hi q=>?_,S⟩,λid p h lo R K z q=>?_⟩
  ·have hC:CtxOK P L w0 (T.ctx (L3 T n).ic (L3 T n).yc):=⟨hti,hsp,hG,(ih L w0 hG).1,(ih L w0 hG).2,hsr,hsn,hif,hme⟩;simp[L3]at q;split at q
   ·rename_i g hg;obtain⟨av,h',g1,g2,g3⟩:=hov f g hg L w0 hG p h lo I R K z q;grind
   ·split at q
    ·grind
    rename_i fn an hbf;split at q
    ·grind
    ·rename_i c hc;obtain⟨hn,q⟩:=B1 q;have hn:=ao hn;split at q
     ·rename_i di hdi;obtain⟨av,h',g1,g2,g3⟩:=v41 hC C (hdf f di hdi) c an _ q;refine⟨av,h',g1,g2,λκ w d M hr ok m=>?_⟩;refine callsIn_of_wp_marks (hbd f I fn an hbf).1 hc trivial ?_;exact g3 κ h w ok.below.size m κ _ w (j37 M hr ok hn) (Ext.refl _ _ _ _)
     obtain⟨k,st',hk,sl,O⟩:=R6 hC C I c an _ _ _ z q;have main:∀k':XK,k=k'->(k'=.nrm\/k'=.ret)->q27 (T.ctx (L3 T n).ic (L3 T n).yc) fn st' K=some z ->
       ∃av h',K av h'=some z/\(∀id,lo id=true->h' id=h id)/\∀κ w (d:List Value),d.length=p.length->(∀(i:Nat) (a:AV) (v:Value),p[i]? = some a->d[i]? = some v->RepAV L κ h w a v)->HeapOK L w0 κ h w ->
        ∀m,CallsIn (Fr none) m P f d.toArray w (EndOK L w0 κ h w h' av):=by
      intro k' hkk hk' hres;obtain⟨av,g1,g2⟩:=q8d (P:=P) (L:=L) (w0:=w0) hC.ti hres;refine⟨_,_,g1,λid F=>sl.obj id F,λκ w d M hr ok m=>?_⟩;refine callsIn_of_wp_marks (hbd f I fn an hbf).1 hc trivial ?_;refine O ⟨w.heap.size,[]⟩ none m κ _ w _ (j37 M hr ok hn) λy a' w1 D W lk=>?_;obtain⟨J,E,avE,Y,loE,A⟩:=q2c (P:=P) (fn:=fn) (tmps:=a'.tmps) (m:=m) (u:=.returning) (R:=EndOK L w0 κ h w st'.h av) (B:=⟨w.heap.size,[]⟩) ok.below.size (by grind) a'.defers w1 D.defs D.heap;have U:=A (g2 κ h w y a' J (λt=>avE _ _ (D.env t)) E (q4s W Y loE));subst hkk;cases k with
      | nrm=>exact U
      | ret=>exact U
      | ex i=>grind
      | pan T=>grind
     cases k with
     | nrm=>grind
     | ret=>grind
     | ex i=>grind
     | pan X =>
      obtain⟨g1,hlb,g2⟩:=j8p (L:=L) (w0:=w0) hk;refine⟨_,_,g1,λid F=>?_,λκ w d M hr ok m=>?_⟩
      ·rw[A0 _ _ (λh=>by grind)];exact sl.obj id F
      ·refine callsIn_of_wp_marks (hbd f I fn an hbf).1 hc trivial ?_;refine O ⟨w.heap.size,[]⟩ none m κ _ w _ (j37 M hr ok hn) λy a' w1 D W lk=>?_;obtain⟨J,E,avE,Y,loE,A⟩:=q2c (P:=P) (fn:=fn) (tmps:=a'.tmps) (m:=m) (u:=.panicking [pv X]) (R:=EndOK L w0 κ h w (upd st'.h D1 (N8 X)) (.one (.pan X))) (B:=⟨w.heap.size,[]⟩) ok.below.size (by grind) a'.defers w1 D.defs D.heap;exact A (g2 κ h w y J E (q4s W Y loE))
  ·have hC:CtxOK P L w0 (T.ctx (L3 T n).ic (L3 T n).yc):=⟨hti,hsp,hG,(ih L w0 hG).1,(ih L w0 hG).2,hsr,hsn,hif,hme⟩;simp[L3]at q;split at q
   ·rename_i i an1 an2 F hrd;obtain⟨hc,q⟩:=B1 q;simp only[ac,aG,aU]at hc;obtain⟨⟨hal,hps⟩,hlo⟩:=hc;have hal:=ab hal;obtain⟨k,V,hk,sl1,hrun1⟩:=R6 hC C _ i.assign an1 _ _ _ z q;split at hk
    ·rename_i i1 hs1;obtain⟨G,Z,H,sl2,hrun2⟩:=R6 hC C _ i.body an2 _ _ _ z hk;split at H
     ·rename_i i2 hs2;obtain⟨hpl2,H⟩:=B1 H;refine⟨_,_,H,λj hj=>?_,λκ w d b c hvl hr ok hkb=>?_⟩
      ·have hne:j≠id:=λe=>by grind
       rw[A0 _ _ hne,sl2.obj j (by show V.lo j=true;rw[sl1.lo];omega)];show upd V.h id _ j=h j;rw[A0 _ _ hne];exact sl1.obj j hj
      ·have ho:=ok.obj id;rw[F]at ho;obtain⟨b',c',rc,p1,p2,p3,p4,p5,p6,p7,p8,p9⟩:=ho;rw[hkb]at p1;cases p1;refine⟨rc,p2,by grind,λm=>roundIn_of_wpIn trivial ?_⟩;rw[p6,p7];have hz:(rc.params.zip d.toArray).foldl (λtmps (t,a)=>tmps.setIfInBounds t a) rc.tmps=(i.ps.zip d).foldl (λtmps (t,a)=>tmps.setIfInBounds t a) rc.tmps:=by
        grind
       rw[hz];obtain⟨z1,z2⟩:=y4q (L:=L) (κ:=κ) (h:=h) (w:=w) i.ps p d i.ρ rc.tmps hal (by omega) (λt ht=>by simp_all) hr p9;refine hrun1 ⟨w.heap.size,[]⟩ (some b) m κ _ w _ ⟨z1.trans p8,z2,ok,MarksOK.nil (ax _),λl M=>by grind⟩ λκ1 a1 w1 r N _=>?_;obtain⟨b1,c1,q1,r1,q2,q3,q3',q4⟩:=y40 r.heap hs1 .busy;have hb1:b1=b:=by
        have:=(N.place id (by simp_all)).trans hkb;grind
       subst hb1;refine⟨_,run_beginRound q2 q3,?_⟩;obtain⟨okB,x⟩:=q4 { r1 with state:=.busy } rfl q3' rfl rfl rfl rfl;refine hrun2 ⟨w.heap.size,[]⟩ (some b1) m κ1 a1 _ _ ⟨r.size,λt=>RepAV.ext x (r.env t),okB,r.defs.keep x.size x.defs,λl M=>by
        obtain⟨l',h4⟩:=r.rnd l M;exact x.loops l l' h4⟩ λκ2 a2 w2 sim2 Q _=>?_
       obtain⟨b2,c2,t1,r2,t2,t3,-,t4⟩:=y40 sim2.heap hs2 (q1s G).2;have hb2:b2=b1:=by
        have:=(Q.place id (by show(upd V.h id _ id).Held;rw[A2];simp)).trans q1;grind
       subst hb2;have fin:∀o:Option Code,(if o.isNone then LoopState.ready else .done)=(q1s G).2.state->o=(q1s G).2.pend->o.isNone=(q1s G).1->∃v J,(Instr.endRound b2 o).run P w2=.ok v J /\
         ∃v' y,Ending.returned v=.returned v'/\HeapOK L w0 y (upd Z.h id (.lrec i2 (q1s G).2)) J/\RepAV L y (upd Z.h id (.lrec i2 (q1s G).2)) J (J4 (q1s G).1) v'/\Ext L κ h w y (upd Z.h id (.lrec i2 (q1s G).2)) J:=by
        intro o hj1 hj2 hj3;refine⟨_,_,run_endRound o t2,_,κ2,rfl,?_⟩;obtain⟨E,extE⟩:=t4 { r2 with state:=if o.isNone then .ready else .done,pending:=o } hj1 hj2 rfl rfl rfl rfl
        exact⟨E,⟨rfl,rfl,by rw[hj3];rfl⟩,N.trans (x.trans (Q.trans extE))⟩
       cases G with
       | nrm=>exact fin none rfl rfl rfl
       | ret=>exact fin (some .ret) rfl rfl rfl
       | ex j=>exact fin (some (.exit j)) rfl rfl rfl
       | pan T=>cases hpl2
     grind
    grind
   grind
end Go.Abs
