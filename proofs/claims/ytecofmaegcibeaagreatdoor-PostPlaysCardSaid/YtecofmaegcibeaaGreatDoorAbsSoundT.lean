/- The engine: trees of what is owned. -/
import Derived.Test.YtecofmaegcibeaaGreatDoorAbsSoundX
namespace Go.Abs
open Go Go.RowKit
variable {P:Program} {L:Nat->Prop} {w0:World}
inductive Turn:AObj->AObj->Prop
 | same (o:AObj):Turn o o
 | gone (o:AObj) (h:o.Held):Turn o .dead
 | tree (e:TypeId) (k:OT) (l l':List k.den) (f f':List (List Nat×Nat)) (h:∀p n,inL k l p=some n->inL k l' p=some n):Turn (.tree e k l f) (.tree e k l' f')
 | new (o:AObj):Turn .fresh o
 | cells (l l':List SV):Turn (.cells l) (.cells l')
variable {κ:A6} {κ1:A6} {h:Heap} {h1:Heap} {w:World}
theorem v4j (u:∀id,(h id).Held->κ1 id=κ id) (d:∀id,Turn (h id) (h1 id)) (v:∀id e k l f,h id=.tree e k l f->h1 id≠.dead->∀p n,inL k l p=some n->h (gh id p)=.kid->κ1 (gh id p)=κ (gh id p)) (hs:∀b,q08 κ h w b->q08 κ1 h1 w b):Ext L κ h w κ1 h1 w where
 place:=u
 kid id c:=by
  have:=d id;rw[c]at this;generalize h1 id=o at this ⊢;cases this with
  | same=>rfl
  | gone _ g=>simp_all
 dead id c:=by
  have:=d id;rw[c]at this;generalize h1 id=o at this ⊢;cases this<;>rfl
 cells id l c:=by
  have:=d id;rw[c]at this;generalize h1 id=o at this ⊢;cases this with
  | same=>grind
  | gone _ g=>grind
  | cells _ y=>grind
 arr id e t l c:=by
  have:=d id;rw[c]at this;generalize h1 id=o at this ⊢;cases this with
  | same=>grind
  | gone _ g=>grind
 tree id e k l f c:=by
  have:=d id;have j:=v id e k l f c;rw[c]at this;generalize h1 id=o at this j ⊢;cases this with
  | same=>grind
  | gone _ g=>grind
  | tree _ _ _ y _ F C=>grind
 ice id e t l c:=by
  have:=d id;rw[c]at this;generalize h1 id=o at this ⊢;cases this with
  | same=>grind
  | gone _ g=>grind
 lrec id i s c:=by
  have:=d id;rw[c]at this;generalize h1 id=o at this ⊢;cases this with
  | same=>grind
  | gone _ g=>grind
 maps id c:=by
  have:=d id;generalize h id=E at this c;generalize h1 id=o at this ⊢;cases this with
  | same=>grind
  | gone _ g=>grind
  | _=>cases c
 iter id D G A B q z c:=by
  have:=d id;rw[c]at this;generalize h1 id=o at this ⊢;cases this with
  | same=>grind
  | gone _ g=>grind
 still b x:=⟨hs b x,rfl⟩
 size:=ax _
 loops _ r m:=⟨r,m⟩
 defs _ m:=m
structure Moves (κ:A6) (h:Heap) (κ1:A6) (h1:Heap) (φ:Nat->Nat):Prop where
 live:∀j b c,(h1 j).live=true->κ1 j=some (b,c)->(h (φ j)).live=true/\∃c',κ (φ j)=some (b,c')
 inj:∀i j b c b' c',(h1 i).live=true->(h1 j).live=true->κ1 i=some (b,c)->κ1 j=some (b',c')->φ i=φ j->i=j
theorem Moves.still {d:Nat->Nat} (m:Moves κ h κ1 h1 d):∀b,q08 κ h w b->q08 κ1 h1 w b:=λb a=>⟨a.1,λj c e i=>by
 obtain⟨g,f,k⟩:=m.live j b c e i;exact a.2 _ f g k⟩
theorem Moves.free {c:Nat->Nat} (m:Moves κ h κ1 h1 c):∀b,A4 L κ h w b->A4 L κ1 h1 w b:=λb a =>
 ⟨a.1,a.2.1,(m.still b ⟨a.1,a.2.2⟩).2⟩
theorem q8z (a:HeapOK L w0 κ h w) {D:Nat->Nat} (m:Moves κ h κ1 h1 D) (B:∀id,(h id).Held->κ1 id=κ id) (E:∀id,Turn (h id) (h1 id)) (G:∀id e k l f,h id=.tree e k l f->h1 id≠.dead->∀p n,inL k l p=some n->h (gh id p)=.kid->κ1 (gh id p)=κ (gh id p)) (q:∀id,q53<=id->h1 id=.kid) (r:Ext L κ h w κ1 h1 w->∀j,RepObj L κ1 h1 w j (h1 j)\/(h1 j=h j/\κ1 j=κ j/\∀n,κ1 (kn j n)=κ (kn j n))):HeapOK L w0 κ1 h1 w/\Ext L κ h w κ1 h1 w:=by
 have x:Ext L κ h w κ1 h1 w:=v4j B E G m.still;refine⟨⟨λj=>?_,λi j b c y d A s u=>?_,λi b c d v=>?_,a.below,λb z=>⟨(a.outer b z).1,λi c d v=>?_⟩,q⟩,x⟩
 ·rcases r x j with M | ⟨H,K,C⟩
  ·omega
  ·rw[H];exact RepObj.ext x K (λ_ _ _=>rfl) C (λ_ _ _ _=>rfl) (a.obj j)
 ·obtain⟨g,t,o⟩:=m.live i b c d s;obtain⟨F,J,I⟩:=m.live j b y A u;exact m.inj i j b c b y d A s u (a.inj _ _ b t J g F o I)
 ·obtain⟨g,t,o⟩:=m.live i b c d v;exact a.own _ b t g o
 ·obtain⟨g,t,o⟩:=m.live i b c d v;exact(a.outer b z).2 _ t g o
variable {j:Nat}
theorem y00 {id i:Nat} (o:∀e k l f,h id=.tree e k l f->∀p n,inL k l p=some n->gh id p≠kn id i) {e:TypeId} {k:OT} {l:List k.den} {f:List (List Nat×Nat)} (g:h j=.tree e k l f) {p:List Nat} {n:Nat} (m:inL k l p=some n) (d:∀i,kn id i≠j):gh j p≠kn id i:=by
 by_cases c:j=id
 ·grind
 ·cases p with
  | nil=>exactλb=>d i b.symm
  | cons a p=>exactλb=>c (J6 b).1
variable {i:Nat} {g:Nat}
theorem v3b (d:HeapOK L w0 κ h w) {id:Nat} (r:(h id).Held) (y:(h id).live=true) (G:(h g).live=true) (o:(h g).Held) (t:g≠id) (u:∀e k l f,h id=.tree e k l f->∀p n,inL k l p=some n->gh id p≠kn id i) {obj':AObj} (C:Turn (h id) obj') (H:Ext L κ h w (upd κ (kn id i) (κ g)) (upd (upd h g .dead) id obj') w->RepObj L (upd κ (kn id i) (κ g)) (upd (upd h g .dead) id obj') w id obj') :
  (HeapOK L w0 (upd κ (kn id i) (κ g)) (upd (upd h g .dead) id obj') w/\Ext L κ h w (upd κ (kn id i) (κ g)) (upd (upd h g .dead) id obj') w)/\∀b,A4 L κ h w b->A4 L (upd κ (kn id i) (κ g)) (upd (upd h g .dead) id obj') w b:=by
 have s:∀j,(h j).Held->j≠kn id i:=λj a e=>a.2 (by grind[N4]);have z:∀j,(upd (upd h g .dead) id obj' j).live=true->j≠g/\(j=kn id i\/(h j).live=true):=λj a=>by
  refine⟨λe=>?_,?_⟩
  ·subst e;rw[A0 _ _ t,A2]at a;cases a
  grind[A0]
 have m:Moves κ h (upd κ (kn id i) (κ g)) (upd (upd h g .dead) id obj') (λj=>if j=kn id i then g else j):=by
  refine⟨λj b c a D=>?_,λj I b c E J a x _ _ F=>?_⟩
  all_goals grind[A2,A0]
 refine⟨q8z d m (λj a=>A0 _ _ (s j a)) (λj=>?_) (λj e k l f a _ p n v _=>A0 _ _ (y00 u a v λi=>J0 d (by grind) id i)) (λj a=>?_) (λB j=>?_),m.free⟩
 ·by_cases e:j=id
  ·grind[A2]
  ·rw[A0 _ _ e];by_cases q:j=g
   ·subst q;rw[A2];exact .gone _ o
   ·rw[A0 _ _ q];exact .same _
 ·rw[A0 _ _ (λe=>r.2 (by rw[<-e];exact d.kids j a)),A0 _ _ (λe=>o.2 (by rw[<-e];exact d.kids j a))];exact d.kids j a
 ·by_cases e:j=id
  ·grind[A2]
  ·rw[A0 _ _ e];by_cases q:j=g
   ·subst q;rw[A2];exact .inl trivial
   ·rw[A0 _ _ q];by_cases A:j=kn id i
    ·rw[A,N4 d];exact .inl trivial
    grind[A0,J6]
theorem y3a (d:HeapOK L w0 κ h w) {id:Nat} (q:(h id).Held) (v:(h id).live=true) (r:h g=.fresh) (z:∀e k l f,h id=.tree e k l f->∀p n,inL k l p=some n->gh id p≠kn id i) {obj' og:AObj} (E:Turn (h id) obj') (I:Ext L κ h w (upd (upd κ g (κ (kn id i))) (kn id i) none) (upd (upd h id obj') g og) w->RepObj L (upd (upd κ g (κ (kn id i))) (kn id i) none) (upd (upd h id obj') g og) w id obj'/\RepObj L (upd (upd κ g (κ (kn id i))) (kn id i) none) (upd (upd h id obj') g og) w g og) :
  (HeapOK L w0 (upd (upd κ g (κ (kn id i))) (kn id i) none) (upd (upd h id obj') g og) w/\Ext L κ h w (upd (upd κ g (κ (kn id i))) (kn id i) none) (upd (upd h id obj') g og) w)/\∀b,A4 L κ h w b->A4 L (upd (upd κ g (κ (kn id i))) (kn id i) none) (upd (upd h id obj') g og) w b:=by
 have s:∀j,h j≠.kid->j≠kn id i:=λj a e=>a (by grind[N4]);have m:Moves κ h (upd (upd κ g (κ (kn id i))) (kn id i) none) (upd (upd h id obj') g og) (λj=>if j=g then kn id i else j):=by
  refine⟨λj b c a t=>?_,λj J b c G D a y t u H=>?_⟩
  all_goals grind[A0,A2,q1d]
 refine⟨q8z d m (λj a=>?_) (λj=>?_) (λj e k l f a _ p n A t=>by rw[A0 _ _ (y00 z a A λi=>J0 d (by grind) id i),A0 _ _ (λF=>by grind)]) (λj a=>?_) (λC j=>?_),m.free⟩
 ·rw[A0 _ _ (s j a.2),A0 _ _ (λe=>a.1 (by grind))]
 ·by_cases e:j=g
  ·subst e;rw[A2,r];exact .new _
  ·rw[A0 _ _ e];by_cases o:j=id
   ·grind[A2]
   ·rw[A0 _ _ o];exact .same _
 ·rw[A0 _ _ (λe=>by rw[<-e,d.kids j a]at r;grind),A0 _ _ (λe=>q.2 (by rw[<-e];exact d.kids j a))];exact d.kids j a
 ·by_cases e:j=g
  ·grind[A2]
  ·rw[A0 _ _ e];by_cases o:j=id
   ·grind[A2]
   ·rw[A0 _ _ o];by_cases x:j=kn id i
    ·rw[x,N4 d];exact .inl trivial
    ·refine .inr ⟨rfl,by grind[A0],λn=>?_⟩;rw[A0 _ _ (λB=>o (J6 B).1),A0 _ _ (J0 d (R8 r) j n)]
theorem z2o {α:Type} (f:Nat->α) (i:Nat) (a b:α):upd (upd f i a) i b=upd f i b:=by
 funext j;by_cases e:j=i
 ·subst e;rw[A2,A2]
 ·rw[A0 _ _ e,A0 _ _ e,A0 _ _ e]
theorem y8j {α:Type} (f:Nat->α) (h:i≠j) (a b:α):upd (upd f i a) j b=upd (upd f j b) i a:=by
 funext k;by_cases e:k=i
 ·subst e;rw[A0 _ _ h,A2,A2]
 ·by_cases e2:k=j
  ·subst e2;rw[A2,A0 _ _ e,A2]
  ·rw[A0 _ _ e2,A0 _ _ e,A0 _ _ e,A0 _ _ e2]
variable {e:TypeId}
theorem RepArrP.free (p:∀b,A4 L κ h w b->A4 L κ1 h1 w b) {q:Option (Nat×(Nat×Nat))} {t:Ty} {l:List t.den} (n:RepArrP L κ h w q e t l):RepArrP L κ1 h1 w q e t l:=by
 rcases n with⟨a,b⟩ | ⟨b,c,d,j,f,s,g,r,o,k⟩
 ·exact .inl ⟨a,b⟩
 ·exact .inr ⟨b,c,d,j,f,s,g,r,o,λi y m=>RepAt.mono (λb u=>⟨p b u,rfl⟩) t _ y (k i y m)⟩
theorem RepO.free {κ κ1:A6} {h h1:Heap} {w:World} (g:∀b,A4 L κ h w b->A4 L κ1 h1 w b):∀(t:OT) {d:List Nat->Option (Nat×(Nat×Nat))} {get:Nat->Option Value} {y:t.den},
  RepO L κ h w t d [] get y->RepO L κ1 h1 w t d [] get y
 | .arr e t,d,get,y,⟨v,h1,f⟩=>⟨v,h1,f.1,f.2.free g⟩
 | .map M K k u,d,get,y,⟨v,h1,b,c,I,F,J,H,G,A⟩=>⟨v,h1,b,c,I,F,J,H,G,A.mono λb x=>⟨g b x,rfl⟩⟩
 | .opt k,d,get,y,E=>by
  cases y with
  | none=>rfl
  | some y=>exact RepO.free g k (show RepO L κ h w k d [] get y from E)
 | .arrs e k,d,get,y,⟨v,b,j,o,h1,f,p,l,m,n,r,q,s⟩ =>
  ⟨v,b,j,o,h1,f,p,l,m,n,r,q,λi z D=>RepO.free g k (s i z D)⟩
 | .ptr c,d,get,y,⟨v,b,j,B,C,h1,f,p,l,m,n,r,q⟩=>⟨v,b,j,B,C,h1,f,p,l,m,n,r,RepO.free g c q⟩
 | .nil,_,_,_,_=>trivial
 | .cons a b,d,get,y,⟨h1,f⟩=>⟨RepO.free g a h1,RepO.free g b f⟩
theorem Q8 (i:Nat) (p:List Nat) (g:Nat) (o:List (List Nat×Nat)):M1 ((i::p,g)::o) i=(p,g)::M1 o i:=by simp[M1]
theorem P8 (h:i≠j) (p:List Nat) (g:Nat) (o:List (List Nat×Nat)):M1 ((i::p,g)::o) j=M1 o j:=by grind[M1]
variable {p:List Nat}
theorem q2h {i:Nat} {o:List (List Nat×Nat)} (h:∀q∈o,q.1≠i::p):∀q∈M1 o i,q.1≠p:=by
 intro q b e;obtain⟨⟨a,g⟩,c,d⟩:=eu.1 b;grind
theorem q51:∀{o:List (List Nat×Nat)},(∀q∈o,q.1≠[])->O3 o=none
 | [],_=>rfl
 | ([],g)::r,h=>absurd rfl (h ([],g) (by simp))
 | (_::_,g)::r,h=>q51 (o:=r) λq a=>h q (by grind)
theorem q56 {κ κ1:A6} {h h1:Heap} {w:World} (A:Ext L κ h w κ1 h1 w) {g:Nat} {V:AObj} (s:h1 g=V):∀(t:OT) {p:List Nat} {pl pl':List Nat->Option (Nat×(Nat×Nat))} (_:κ1 g=pl p) (_:∀q,q≠p->pl' q=pl q) {o:List (List Nat×Nat)} (_:∀q∈o,q.1≠p) {get:Nat->Option Value} {x:t.den},
  t.getK x p some=some V->RepO L κ h w t pl o get x->RepO L κ1 h1 w t pl' ((p,g)::o) get x/\RepObj L κ1 h1 w g V
 | .arr e t,[],pl,pl',m,f,o,l,get,x,d,n=>by
  obtain⟨v,D,r⟩:=n;rw[q51 l]at r;obtain⟨r,J⟩:=r;cases d;refine⟨⟨v,D,?_⟩,?_⟩
  ·refine⟨⟨?_,?_⟩,by simp_all⟩
   ·grind
   ·rcases r with⟨_,_,rfl⟩ | ⟨_,_,_,rfl⟩<;>rfl
  ·show RepArrP L κ1 h1 w (κ1 g) e t x;rw[m];exact J.free λb Q=>(A.free b Q).1
 | .map ak av k u,[],pl,pl',m,f,o,l,get,x,d,n=>by
  obtain⟨v,D,r⟩:=n;rw[q51 l]at r;obtain⟨b,c,es,Z,F,I,r3,r4⟩:=r;cases d;refine⟨⟨v,D,?_⟩,b,c,es,Z,m.trans F,r3,r4.mono λb Q=>⟨(A.free b Q).1,rfl⟩⟩;exact⟨by simp_all,b,c,m.trans F,I⟩
 | .opt k,[],pl,pl',m,f,o,l,get,x,d,n=>by
  cases x with
  | none=>cases d
  | some y=>exact q56 A s k m f (p:=[]) l (by
   cases k<;>exact d) (show RepO L κ h w k pl o get y from n)
 | .arrs e k,i::p,pl,pl',m,f,o,l,get,x,d,n=>by
  obtain⟨v,b,E,K,D,r,J,S,M,O,U,R,W⟩:=n;obtain⟨y,X,d⟩:=ae.1 d;obtain⟨C,B⟩:=q56 A s k (pl:=λq=>pl (i::q)) (pl':=λq=>pl' (i::q)) m (λq G=>f _ (λe=>G (aF e).2)) (q2h l) d (W i y X);refine⟨⟨v,b,E,K,D,(f [] (by simp)).trans r,J,S,M,O,U,R,λj z T=>?_⟩,B⟩;by_cases N:i=j
  ·subst N;rw[X]at T;cases T;rw[Q8];exact C
  ·rw[P8 N];have H:(λq=>pl' (j::q))=λq=>pl (j::q):=funext λq=>f _ (λe=>N (aF e).1.symm);rw[H];exact RepO.ext A k (λ_ _ _ _=>rfl) (W j z T)
 | .ptr c,i::p,pl,pl',m,f,o,l,get,x,d,n=>by
  obtain⟨v,b,E,Y,ty,D,r,J,S,M,O,U,R⟩:=n;obtain⟨C,B⟩:=q56 A s c m f l d R;exact⟨⟨v,b,E,Y,ty,D,(f [] (by simp)).trans r,J,S,M,O,U,C⟩,B⟩
 | .cons a b,0::p,pl,pl',m,f,o,l,get,x,d,n=>by
  obtain⟨F,I⟩:=n;obtain⟨C,B⟩:=q56 A s a (pl:=λq=>pl (0::q)) (pl':=λq=>pl' (0::q)) m (λq G=>f _ (λe=>G (aF e).2)) (q2h l) d F;refine⟨⟨by exact C,?_⟩,B⟩;have H:(λq=>pl' (1::q))=λq=>pl (1::q):=funext λq=>f _ (λe=>by cases(aF e).1);rw[H,P8 (by omega)];exact RepO.ext A b (λ_ _ _ _=>rfl) I
 | .cons a b,1::i::p,pl,pl',m,f,o,l,get,x,d,n=>by
  obtain⟨F,I⟩:=n;obtain⟨C,B⟩:=q56 A s b (pl:=λq=>pl (1::q)) (pl':=λq=>pl' (1::q)) m (λq G=>f _ (λe=>G (aF e).2)) (q2h l) d I;refine⟨⟨?_,by exact C⟩,B⟩;have H:(λq=>pl' (0::q))=λq=>pl (0::q):=funext λq=>f _ (λe=>by cases(aF e).1);rw[H,P8 (by omega)];exact RepO.ext A a (λ_ _ _ _=>rfl) F
 | .arrs _ _,[],_,_,_,_,_,_,_,_,d,_=>by cases d
 | .ptr _,[],_,_,_,_,_,_,_,_,d,_=>by cases d
 | .nil,[],_,_,_,_,_,_,_,_,d,_=>by cases d
 | .cons _ _,[],_,_,_,_,_,_,_,_,d,_=>by cases d
 | .cons _ _,[1],_,_,_,_,_,_,_,_,d,_=>by cases d
 | .cons _ _,(_+2)::_,_,_,_,_,_,_,_,_,d,_=>by cases d
 | .arr _ _,_::_,_,_,_,_,_,_,_,_,d,_=>by cases d
 | .map _ _ _ _,_::_,_,_,_,_,_,_,_,_,d,_=>by cases d
 | .opt _,_::_,_,_,_,_,_,_,_,_,d,_=>by cases d
 | .nil,_::_,_,_,_,_,_,_,_,_,d,_=>by cases d
theorem y3b {R:Type}:∀(t:OT) (x:t.den) (K:AObj->Option R),t.outK x K=(t.outK x some).bind K
 | .arr _ _,_,_=>rfl
 | .map _ _ _ _,_,_=>rfl
 | .opt k,x,K=>by
  cases x with
  | none=>rfl
  | some y=>exact y3b k y K
 | .arrs _ _,_,_=>rfl
 | .ptr _,_,_=>rfl
 | .nil,_,_=>rfl
 | .cons _ _,_,_=>rfl
variable {R:Type}
theorem j9x (t:OT) (x:t.den) (K:AObj->Option R):t.getK x [] K=t.outK x K:=by cases t<;>rfl
theorem q7h (t:OT) (x:t.den) (o:AObj) (K:t.den->Option R):t.setK x [] o K=(t.back o).bind K:=by cases t<;>rfl
theorem q8m {R:Type}:∀(t:OT) (x:t.den) (p:List Nat) (K:AObj->Option R),t.getK x p K=(t.getK x p some).bind K
 | t,x,[],K=>by grind[j9x,y3b]
 | .arrs _ k,l,i::p,K=>by
  show(l[i]?).bind (λy=>k.getK y p K)=((l[i]?).bind λy=>k.getK y p some).bind K;cases l[i]? with
  | none=>rfl
  | some y=>exact q8m k y p K
 | .ptr c,x,i::p,K=>q8m c x (i::p) K
 | .cons a b,x,0::p,K=>q8m a x.1 p K
 | .cons a b,x,1::i::p,K=>q8m b x.2 (i::p) K
 | .cons _ _,_,[1],_=>rfl
 | .cons _ _,_,(_+2)::_,_=>rfl
 | .arr _ _,_,_::_,_=>rfl
 | .map _ _ _ _,_,_::_,_=>rfl
 | .opt _,_,_::_,_=>rfl
 | .nil,_,_::_,_=>rfl
theorem N6 {R:Type}:∀(t:OT) (x:t.den) (p:List Nat) (o:AObj) (K:t.den->Option R),t.setK x p o K=(t.setK x p o some).bind K
 | t,x,[],o,K=>by grind[q7h]
 | .arrs _ k,l,i::p,o,K=>by
  show(l[i]?).bind (λy=>k.setK y p o λd=>K (l.set i d))=((l[i]?).bind λy=>k.setK y p o λd=>some (l.set i d)).bind K;cases l[i]? with
  | none=>rfl
  | some y =>
   show k.setK y p o (λd=>K (l.set i d))=(k.setK y p o λd=>some (l.set i d)).bind K;rw[N6 k y p o,N6 k y p o (K:=λd=>some (l.set i d)),eE];rfl
 | .ptr c,x,i::p,o,K=>N6 c x (i::p) o K
 | .cons a b,x,0::p,o,K=>by
  show a.setK x.1 p o (λy=>K (y,x.2))=(a.setK x.1 p o λy=>some (y,x.2)).bind K;rw[N6 a x.1 p o,N6 a x.1 p o (K:=λy=>some (y,x.2)),eE];rfl
 | .cons a b,x,1::i::p,o,K=>by
  show b.setK x.2 (i::p) o (λy=>K (x.1,y))=(b.setK x.2 (i::p) o λy=>some (x.1,y)).bind K;rw[N6 b x.2 (i::p) o,N6 b x.2 (i::p) o (K:=λy=>some (x.1,y)),eE];rfl
 | .cons _ _,_,[1],_,_=>rfl
 | .cons _ _,_,(_+2)::_,_,_=>rfl
 | .arr _ _,_,_::_,_,_=>rfl
 | .map _ _ _ _,_,_::_,_,_=>rfl
 | .opt _,_,_::_,_,_=>rfl
 | .nil,_,_::_,_,_=>rfl
theorem z1n:∀(t:OT) {x h:t.den} {p:List Nat} {o:AObj},t.setK x p o some=some h->∀q n,inT t x q=some n->inT t h q=some n/\q≠p
 | .arrs e k,l,B,i::p,o,d,q,n,f=>by
  obtain⟨y,A,d⟩:=ae.1 d;rw[N6 k]at d;obtain⟨s,g,d⟩:=ae.1 d;cases d;cases q with
  | nil=>exact⟨by simpa[inT]using f,by simp⟩
  | cons j q =>
   obtain⟨z,u,f⟩:=ae.1 f;by_cases v:i=j
   ·subst v;rw[A]at u;cases u;obtain⟨m,r⟩:=z1n k g q n f;have w:=(ag.1 A).1;exact⟨ae.2 ⟨s,by rw[ca w],m⟩,λe=>r (aF e).2⟩
   ·exact⟨ae.2 ⟨z,by rw[cU v];exact u,f⟩,λe=>v (aF e).1.symm⟩
 | .ptr c,x,h,i::p,o,d,q,n,f=>by
  cases q with
  | nil=>exact⟨f,by simp⟩
  | cons j q=>exact z1n c (show c.setK x (i::p) o some=some h from d) (j::q) n f
 | .cons a b,x,h,0::p,o,d,q,n,f=>by
  have d:a.setK x.1 p o (λy=>some (y,x.2))=some h:=d;rw[N6 a]at d;obtain⟨s,g,d⟩:=ae.1 d;cases d
  match q,f with
  | 0::q,f =>
   obtain⟨m,r⟩:=z1n a g q n f;exact⟨m,λe=>r (aF e).2⟩
  | 1::j::q,f=>exact⟨f,λe=>by cases(aF e).1⟩
  | [],f=>cases f
  | [1],f=>cases f
  | (_+2)::_,f=>cases f
 | .cons a b,x,h,1::i::p,o,d,q,n,f=>by
  have d:b.setK x.2 (i::p) o (λy=>some (x.1,y))=some h:=d;rw[N6 b]at d;obtain⟨s,g,d⟩:=ae.1 d;cases d
  match q,f with
  | 0::q,f=>exact⟨f,λe=>by cases(aF e).1⟩
  | 1::j::q,f =>
   obtain⟨m,r⟩:=z1n b g (j::q) n f;exact⟨m,λe=>r (aF e).2⟩
  | [],f=>cases f
  | [1],f=>cases f
  | (_+2)::_,f=>cases f
 | .arr _ _,_,_,[],_,_,_,_,f=>by cases f
 | .map _ _ _ _,_,_,[],_,_,_,_,f=>by cases f
 | .opt _,_,_,[],_,_,_,_,f=>by cases f
 | .arrs _ _,_,_,[],_,d,_,_,_=>by cases d
 | .ptr _,_,_,[],_,d,_,_,_=>by cases d
 | .nil,_,_,[],_,d,_,_,_=>by cases d
 | .cons _ _,_,_,[],_,d,_,_,_=>by cases d
 | .cons _ _,_,_,[1],_,d,_,_,_=>by cases d
 | .cons _ _,_,_,(_+2)::_,_,d,_,_,_=>by cases d
 | .arr _ _,_,_,_::_,_,d,_,_,_=>by cases d
 | .map _ _ _ _,_,_,_::_,_,d,_,_,_=>by cases d
 | .opt _,_,_,_::_,_,d,_,_,_=>by cases d
 | .nil,_,_,_::_,_,d,_,_,_=>by cases d
theorem q4v:∀(t:OT) {x:t.den} {p:List Nat} {o:AObj},t.getK x p some=some o->inT t x p=none
 | .arrs e k,l,i::p,o,d=>by
  obtain⟨y,f,d⟩:=ae.1 d;show(l[i]?).bind (λy=>inT k y p)=none;rw[f];exact q4v k d
 | .ptr c,x,i::p,o,d=>q4v c (show c.getK x (i::p) some=some o from d)
 | .cons a b,x,0::p,o,d=>q4v a (show a.getK x.1 p some=some o from d)
 | .cons a b,x,1::i::p,o,d=>q4v b (show b.getK x.2 (i::p) some=some o from d)
 | .arr _ _,_,[],_,_=>rfl
 | .map _ _ _ _,_,[],_,_=>rfl
 | .opt _,_,[],_,_=>rfl
 | .arrs _ _,_,[],_,d=>by cases d
 | .ptr _,_,[],_,d=>by cases d
 | .nil,_,[],_,d=>by rfl
 | .cons _ _,_,[],_,d=>by rfl
 | .cons _ _,_,[1],_,d=>by rfl
 | .cons _ _,_,(_+2)::_,_,d=>by rfl
 | .arr _ _,_,_::_,_,d=>by rfl
 | .map _ _ _ _,_,_::_,_,d=>by rfl
 | .opt _,_,_::_,_,d=>by rfl
 | .nil,_,_::_,_,d=>by rfl
theorem q4l {κ κ1:A6} {h h1:Heap} {w:World} (G:Ext L κ h w κ1 h1 w) {g:Nat} (A:RepObj L κ h w g (h g)):∀(t:OT) {p:List Nat} {pl pl':List Nat->Option (Nat×(Nat×Nat))} (_:K6 (h g)=true\/pl' p=κ g) (_:∀q,q≠p->pl' q=pl q) {o:List (List Nat×Nat)} (_:∀q∈o,q.1≠p) {get:Nat->Option Value} {x C:t.den},
  t.setK x p (h g) some=some C->RepO L κ h w t pl ((p,g)::o) get x->RepO L κ1 h1 w t pl' o get C
 | .arr e t,[],pl,pl',s,m,o,n,get,x,C,f,B=>by
  obtain⟨v,K,H,J⟩:=B;rw[q7h,ae]at f;obtain⟨y,r,f⟩:=f;cases f;unfold OT.back at r;cases D:h g with
  | arr e' t' X =>
   rw[D]at r A s;simp at r;obtain⟨hc,I⟩:=B1 r;have hc:=ab hc;subst hc;obtain⟨ht,N⟩:=H9 I;cases ht;have N:X=C:=N;subst N;have s:pl' []=κ g:=s.resolve_left (by simp[K6]);have H:=H.1;rw[D]at H;simp at H;refine⟨v,K,?_⟩;rw[q51 n];refine⟨?_,?_⟩
   ·grind
   ·rw[s];exact RepArrP.free (λb Y=>(G.free b Y).1) A
  | _=>grind
 | .map ak av k u,[],pl,pl',s,m,o,n,get,x,C,f,B=>by
  obtain⟨v,K,H,b,c,J,T⟩:=B;rw[q7h,ae]at f;obtain⟨y,r,f⟩:=f;cases f;unfold OT.back at r;cases D:h g with
  | mapo ak' av' k' v' X =>
   rw[D]at r A s;simp at r;obtain⟨ht,N⟩:=H9 r;cases ht;have N:X=C:=N;subst N;have s:pl' []=κ g:=s.resolve_left (by simp[K6]);obtain⟨b',c',es,cl,O,Q,r3⟩:=A;rw[J]at O;cases O;refine⟨v,K,?_⟩;rw[q51 n];exact⟨b,c,es,cl,s.trans J,T,Q,r3.mono λb Y=>⟨(G.free b Y).1,rfl⟩⟩
  | _=>grind
 | .opt k,[],pl,pl',s,m,o,n,get,x,C,f,B=>by
  rw[q7h,ae]at f;obtain⟨y,r,f⟩:=f;cases f;cases x with
  | none=>exact absurd (show O3 ((([]:List Nat),g)::o)=none from B) (by simp[O3])
  | some x =>
   by_cases F:K6 (h g)=true
   ·cases D:h g with
    | ice e t l=>rw[D]at r;cases r;exact q51 n
    | mice a b c d l=>rw[D]at r;cases r;exact q51 n
    | _=>rw[D]at F;cases F
   ·have r:(k.back (h g)).map some=some C:=by
     unfold OT.back at r;cases D:h g with
     | ice e t l=>rw[D]at F;exact absurd rfl F
     | mice a b c d l=>rw[D]at F;exact absurd rfl F
     | _=>rw[D]at r;exact r
    obtain⟨y2,I,rfl⟩:=az.1 r;exact q4l G A k s m (p:=[]) n (by rw[q7h,I];rfl) (show RepO L κ h w k pl (([],g)::o) get x from B)
 | .arrs e k,i::p,pl,pl',s,m,o,n,get,x,C,f,B=>by
  obtain⟨v,b,M,cur,K,H,J,T,Z,a6,a7,a8,a9⟩:=B;obtain⟨y,r,f⟩:=ae.1 f;rw[N6 k]at f;obtain⟨y',E,f⟩:=ae.1 f;cases f;have hi:=a9 i y r;rw[Q8]at hi;have V:=q4l G A k (pl:=λq=>pl (i::q)) (pl':=λq=>pl' (i::q)) s (λq U=>m _ (λe=>U (aF e).2)) (q2h n) E hi;have hlt:=(ag.1 r).1;refine⟨v,b,M,cur,K,(m [] (by simp)).trans H,by rw[dc];exact J,T,Z,a6,by rw[dc];exact a7,a8,λj z F=>?_⟩;by_cases W:i=j
  ·subst W;rw[ca hlt]at F;cases F;exact V
  ·rw[cU W]at F;have:=a9 j z F;rw[P8 W]at this;have R:(λq=>pl' (j::q))=λq=>pl (j::q):=funext λq=>m _ (λe=>W (aF e).1.symm);rw[R];exact RepO.ext G k (λ_ _ _ _=>rfl) this
 | .ptr c,i::p,pl,pl',s,m,o,n,get,x,C,f,B=>by
  obtain⟨v,b,M,cs,ty,K,H,J,T,Z,a6,a7,a8⟩:=B;exact⟨v,b,M,cs,ty,K,(m [] (by simp)).trans H,J,T,Z,a6,a7,q4l G A c s m n f a8⟩
 | .cons a b,0::p,pl,pl',s,m,o,n,get,x,C,f,B=>by
  obtain⟨O,Q⟩:=B;have f:a.setK x.1 p (h g) (λy=>some (y,x.2))=some C:=f;rw[N6 a]at f;obtain⟨y',E,f⟩:=ae.1 f;cases f;rw[Q8]at O;rw[P8 (by omega)]at Q;have V:=q4l G A a (pl:=λq=>pl (0::q)) (pl':=λq=>pl' (0::q)) s (λq U=>m _ (λe=>U (aF e).2)) (q2h n) E O;refine⟨V,?_⟩;have R:(λq=>pl' (1::q))=λq=>pl (1::q):=funext λq=>m _ (λe=>by cases(aF e).1);rw[R];exact RepO.ext G b (λ_ _ _ _=>rfl) Q
 | .cons a b,1::i::p,pl,pl',s,m,o,n,get,x,C,f,B=>by
  obtain⟨O,Q⟩:=B;have f:b.setK x.2 (i::p) (h g) (λy=>some (x.1,y))=some C:=f;rw[N6 b]at f;obtain⟨y',E,f⟩:=ae.1 f;cases f;have V:=q4l G A b (pl:=λq=>pl (1::q)) (pl':=λq=>pl' (1::q)) s (λq U=>m _ (λe=>U (aF e).2)) (q2h n) E Q;refine⟨?_,V⟩;have R:(λq=>pl' (0::q))=λq=>pl (0::q):=funext λq=>m _ (λe=>by cases(aF e).1);rw[R];exact RepO.ext G a (λ_ _ _ _=>rfl) O
 | .arrs _ _,[],_,_,_,_,_,_,_,_,_,f,_=>by cases f
 | .ptr _,[],_,_,_,_,_,_,_,_,_,f,_=>by cases f
 | .nil,[],_,_,_,_,_,_,_,_,_,f,_=>by cases f
 | .cons _ _,[],_,_,_,_,_,_,_,_,_,f,_=>by cases f
 | .cons _ _,[1],_,_,_,_,_,_,_,_,_,f,_=>by cases f
 | .cons _ _,(_+2)::_,_,_,_,_,_,_,_,_,_,f,_=>by cases f
 | .arr _ _,_::_,_,_,_,_,_,_,_,_,_,f,_=>by cases f
 | .map _ _ _ _,_::_,_,_,_,_,_,_,_,_,_,f,_=>by cases f
 | .opt _,_::_,_,_,_,_,_,_,_,_,_,f,_=>by cases f
 | .nil,_::_,_,_,_,_,_,_,_,_,_,f,_=>by cases f
theorem j7c:∀(t:OT) {o:AObj} {y:t.den},t.back o=some y->(∃e t l,o=.arr e t l)\/(∃a b c d l,o=.mapo a b c d l)\/K6 o=true
 | .arr _ _,o,y,h=>by cases o<;>first | cases h;done | grind
 | .map _ _ _ _,o,y,h=>by cases o<;>first | cases h;done | grind
 | .opt k,o,y,h=>by
  cases g:o with
  | ice e t l=>exact .inr (.inr rfl)
  | mice a b c d l=>exact .inr (.inr rfl)
  | _ =>
   subst g;obtain⟨i,f,_⟩:=az.1 (show(k.back _).map some=some y from h);exact j7c k f
 | .arrs _ _,o,y,h=>by cases o<;>cases h
 | .ptr _,o,y,h=>by cases o<;>cases h
 | .nil,o,y,h=>by cases o<;>cases h
 | .cons _ _,o,y,h=>by cases o<;>cases h
theorem q44:∀(t:OT) {x g:t.den} {p:List Nat} {o:AObj},t.setK x p o some=some g->(∃e t l,o=.arr e t l)\/(∃a b c d l,o=.mapo a b c d l)\/K6 o=true
 | t,x,g,[],o,h=>by
  grind[q7h,j7c]
 | .arrs _ k,l,g,i::p,o,h=>by
  obtain⟨y,m,h⟩:=ae.1 h;rw[N6 k]at h;obtain⟨j,f,_⟩:=ae.1 h;exact q44 k f
 | .ptr c,x,g,i::p,o,h=>q44 c (show c.setK x (i::p) o some=some g from h)
 | .cons a b,x,g,0::p,o,h=>by
  have h:a.setK x.1 p o (λy=>some (y,x.2))=some g:=h;rw[N6 a]at h;obtain⟨j,f,_⟩:=ae.1 h;exact q44 a f
 | .cons a b,x,g,1::i::p,o,h=>by
  have h:b.setK x.2 (i::p) o (λy=>some (x.1,y))=some g:=h;rw[N6 b]at h;obtain⟨j,f,_⟩:=ae.1 h;exact q44 b f
 | .cons _ _,_,_,[1],_,h=>by cases h
 | .cons _ _,_,_,(_+2)::_,_,h=>by cases h
 | .arr _ _,_,_,_::_,_,h=>by cases h
 | .map _ _ _ _,_,_,_::_,_,h=>by cases h
 | .opt _,_,_,_::_,_,h=>by cases h
 | .nil,_,_,_::_,_,h=>by cases h
variable {k:OT} {l:List k.den} {z:R}
theorem z9d {o:AObj} {K:List k.den->Option R} (c:W2 k l p o K=some z) :
  ∃i b y a,p=i::b/\l[i]? = some y/\k.setK y b o some=some a/\K (l.set i a)=some z:=by
 unfold W2 at c;grind[Option.bind_eq_some_iff,N6]
theorem v5r {f:List Nat} {y b:k.den} {o:AObj} (m:l[i]? = some y) (hs:k.setK y f o some=some b):∀q n,inL k l q=some n->inL k (l.set i b) q=some n/\q≠i::f:=by
 intro q n a;cases q with
 | nil=>grind[inL]
 | cons j q =>
  obtain⟨z,d,a⟩:=ae.1 a;by_cases c:i=j
  ·subst c;rw[m]at d;cases d;obtain⟨h,g⟩:=z1n k hs q n a;exact⟨ae.2 ⟨b,by grind,h⟩,λe=>g (aF e).2⟩
  ·exact⟨ae.2 ⟨z,by grind,a⟩,λe=>c (aF e).1.symm⟩
variable {f:List (List Nat×Nat)} {l1:List k.den}
theorem k4m (ok:HeapOK L w0 κ h w) {id:Nat} {f1:List (List Nat×Nat)} (hid:h id=.tree e k l f) (hin:∀p n,inL k l p=some n->inL k l1 p=some n) (hr:Ext L κ h w κ (upd h id (.tree e k l1 f1)) w->RepObj L κ (upd h id (.tree e k l1 f1)) w id (.tree e k l1 f1)) :
  (HeapOK L w0 κ (upd h id (.tree e k l1 f1)) w/\Ext L κ h w κ (upd h id (.tree e k l1 f1)) w)/\∀b,A4 L κ h w b->A4 L κ (upd h id (.tree e k l1 f1)) w b:=by
 have hlv:∀j,(upd h id (.tree e k l1 f1) j).live=true->(h j).live=true:=λj hj=>by
  by_cases e0:j=id
  ·subst e0;rw[hid];rfl
  ·rw[A0 _ _ e0]at hj;exact hj
 have m:Moves κ h κ (upd h id (.tree e k l1 f1)) (λj=>j):=⟨λj b c hj hk=>⟨hlv j hj,c,hk⟩,λ_ _ _ _ _ _ _ _ _ _ he=>he⟩;refine⟨q8z ok m (λ_ _=>rfl) (λj=>?_) (λ_ _ _ _ _ _ _ _ _ _ _=>rfl) (λj hj=>?_) (λhx j=>?_),m.free⟩
 ·by_cases e0:j=id
  ·subst e0;rw[A2,hid];exact .tree e k l l1 f f1 hin
  ·rw[A0 _ _ e0];exact .same _
 ·rw[A0 _ _ (λe0=>by rw[<-e0,ok.kids j hj]at hid;cases hid)];exact ok.kids j hj
 ·by_cases e0:j=id
  ·subst e0;rw[A2];exact .inl (hr hx)
  ·exact .inr ⟨A0 _ _ e0,rfl,λ_=>rfl⟩
theorem v33 (A:HeapOK L w0 κ h w) {id:Nat} {p:List Nat} {r:List (List Nat×Nat)} (o:h id=.tree e k l ((p,g)::r)) (Z:W2 k l p (h g) some=some l1) (G:∀q∈r,q.1≠p) :
  (∀p n,inL k l p=some n->inL k l1 p=some n)/\(g≠id/\(h g).Held) /\
   ∃v,(HeapOK L w0 v (upd (upd h g (cond (K6 (h g)) (h g) .dead)) id (.tree e k l1 r)) w/\Ext L κ h w v (upd (upd h g (cond (K6 (h g)) (h g) .dead)) id (.tree e k l1 r)) w)/\∀b,A4 L κ h w b->A4 L v (upd (upd h g (cond (K6 (h g)) (h g) .dead)) id (.tree e k l1 r)) w b:=by
 obtain⟨i,W,y,y',rfl,K,J,X⟩:=z9d Z;cases X;have u:=v5r K J;have F:=(ag.1 K).1;have H:=A.obj id;rw[o]at H;rcases H with⟨_,_,h3⟩ | ⟨b,I,B,r1,R,U,S,r5,V,T⟩
 ·grind
 have m:(∃e t l,h g=.arr e t l)\/(∃a b c d l,h g=.mapo a b c d l)\/K6 (h g)=true:=q44 k J;have C:(h g).Held:=by rcases m with⟨_,_,_,f⟩ | ⟨_,_,_,_,_,f⟩ | f<;>first | (rw[f];simp_all) | (cases Y:h g<;>rw[Y]at f<;>first | cases f;done | simp)
 have E:g≠id:=λf=>by
  subst f;rcases m with⟨_,_,_,f⟩ | ⟨_,_,_,_,_,f⟩ | f<;>rw[o]at f<;>cases f
 refine⟨λp n z=>(u p n z).1,⟨E,C⟩,?_⟩;by_cases hz:K6 (h g)=true
 ·have he:upd h g (cond (K6 (h g)) (h g) .dead)=h:=by grind[q5p]
  rw[he];refine⟨κ,k4m A o (λp n z=>(u p n z).1) λN=>.inr ⟨b,I,B,r1,R,U,S,by grind,V,λj x D=>?_⟩⟩;by_cases f:i=j
  ·subst f;rw[ca F]at D;cases D;have:=T i y K;rw[Q8]at this;exact q4l N (A.obj g) k (.inl hz) (λ_ _=>rfl) (q2h G) J this
  grind[P8,RepO.ext]
 ·have Q:K6 (h g)=false:=by grind
  rw[Q,cond_false];have O:(h g).live=true:=by
   rcases m with⟨_,_,_,f⟩ | ⟨_,_,_,_,_,f⟩ | f
   ·rw[f];rfl
   ·rw[f];rfl
   grind
  obtain⟨h1,M⟩:=v3b (i:=enc (i::W)) A (id:=id) (g:=g) (obj':=.tree e k (l.set i y') r) (by simp_all) (by rw[o];rfl) O C E
   (λe2 k2 l2 f2 M p n z=>by
    rw[o]at M;cases M;cases p with
    | nil=>exactλf=>J0 A (id:=id) (by grind) id _ f.symm
    | cons j q=>exactλf=>(u _ n z).2 (q17 (J6 f).2))
   (by rw[o];exact .tree _ _ _ _ _ _ λp n z=>(u p n z).1) (λN=>by
   refine .inr ⟨b,I,B,?_,R,U,S,by grind,V,λj x D=>?_⟩
   ·rw[A0 _ _ (λf=>J0 A (by grind) id _ f.symm)];omega
   ·by_cases f:i=j
    ·subst f;rw[ca F]at D;cases D;have:=T i y K;rw[Q8]at this;exact q4l N (A.obj g) k (pl:=λp=>κ (gh id (i::p))) (pl':=λp=>upd κ (kn id (enc (i::W))) (κ g) (gh id (i::p))) (.inr (A2 _ _ _)) (λq hq=>A0 _ _ λf=>hq (aF (q17 (J6 f).2)).2) (q2h G) J this
    grind[P8,gh,A0,List.cons.inj,q17,J6,RepO.ext])
  grind
theorem q9u:∀{p q:List Nat},E5 p q=true->p=q
 | [],[],_=>rfl
 | [],_::_,h=>by cases h
 | _::_,[],h=>by cases h
 | i::p,j::q,h=>by
  simp only[E5,ac]at h;rw[ab h.1,q9u h.2]
theorem z6d:∀p:List Nat,E5 p p=true
 | []=>rfl
 | i::p=>by simp only[E5,ac];exact⟨cT i,z6d p⟩
theorem q4c {o:AObj} {K:List k.den->Option R}:W2 k l p o K=(W2 k l p o some).bind K:=by
 cases p with
 | nil=>rfl
 | cons i p =>
  show(l[i]?).bind _=((l[i]?).bind _).bind K;cases l[i]? with
  | none=>rfl
  | some y =>
   show k.setK y p o _=(k.setK y p o _).bind K;rw[N6,N6 (K:=λa=>some (l.set i a))];grind
theorem q10 {R:Type} (h:Heap) (k:OT):∀(f:List (List Nat×Nat)) (l:List k.den) (K:List k.den->List (Nat×AObj)->Option R),L4 h k l f K=(L4 h k l f λa b=>some (a,b)).bind λr=>K r.1 r.2
 | [],l,K=>rfl
 | (p,g)::r,l,K=>by
  simp[L4];rw[q4c,q4c (K:=λc=>cond _ _ _)];cases W2 k l p (h g) some with
  | none=>rfl
  | some c =>
   simp[aa];cases(r.all λq=>!E5 q.1 p&&!Nat.beq q.2 g)with
   | false=>rfl
   | true =>
    rw[cond_true,cond_true,q10 h k r c (λd u=>some (d,_)),q10 h k r c];cases L4 h k c r λa b=>some (a,b)<;>rfl
theorem z3m {r:List (List Nat×Nat)} {x:List k.den×List (Nat×AObj)} (he:(L4 h k l ((p,g)::r) λa b=>some (a,b))=some x) :
  ∃l1 l2 u,W2 k l p (h g) some=some l1/\(∀q∈r,q.1≠p/\q.2≠g)/\(L4 h k l1 r λa b=>some (a,b))=some (l2,u)/\x=(l2,(g,cond (K6 (h g)) (h g) .dead)::u):=by
 simp only[L4]at he;rw[q4c]at he;obtain⟨l1,h1,he⟩:=ae.1 he;obtain⟨hc,he⟩:=B1 he;rw[q10]at he;obtain⟨⟨l2,u⟩,h2,he⟩:=ae.1 he;cases he;refine⟨l1,l2,u,h1,λq hq=>?_,h2,rfl⟩;have:=aG.1 hc q hq;simp only[ac,aU]at this;exact⟨λe=>(by rw[e,z6d]at this;cases this.1),λe=>(by rw[e,cT]at this;cases this.2)⟩
theorem q61 {h hs:Heap} {k:OT}:∀{f:List (List Nat×Nat)} {l:List k.den} {r:List k.den×List (Nat×AObj)},(L4 h k l f λa b=>some (a,b))=some r->(∀p∈r.2,hs p.1=h p.1)->(L4 hs k l f λa b=>some (a,b))=some r
 | [],l,r,hc,_=>hc
 | (p,g)::f,l,r,hc,hu=>by
  obtain⟨l1,l2,u,h1,h2,h3,rfl⟩:=z3m hc;have hg:hs g=h g:=hu (g,cond (K6 (h g)) (h g) .dead) (by simp);simp only[L4];rw[hg,q4c,h1];simp only[aa];have hall:(f.all λq=>!E5 q.1 p&&!Nat.beq q.2 g)=true:=aG.2 λq hq=>by
   simp only[ac,aU];refine⟨?_,?_⟩
   ·cases hb:E5 q.1 p with
    | false=>rfl
    | true=>exact absurd (q9u hb) (h2 q hq).1
   ·cases hb:Nat.beq q.2 g with
    | false=>rfl
    | true=>exact absurd (ab hb) (h2 q hq).2
  rw[hall,cond_true,q10,q61 h3 λp hp=>hu p (by simp[hp])];rfl
theorem j7z {h:Heap} {k:OT}:∀{f:List (List Nat×Nat)} {l:List k.den} {r:List k.den×List (Nat×AObj)},(L4 h k l f λa b=>some (a,b))=some r->∀q∈r.2,(∃e t l,h q.1=.arr e t l)\/(∃a b c d l,h q.1=.mapo a b c d l)\/K6 (h q.1)=true
 | [],l,r,hc,q,hq=>by cases hc;cases hq
 | (p,g)::f,l,r,hc,q,hq=>by
  obtain⟨l1,l2,u,h1,h2,h3,rfl⟩:=z3m hc;rcases al.1 hq with rfl | hq
  ·obtain⟨_,_,_,_,_,_,hs,_⟩:=z9d h1;exact q44 k hs
  ·exact j7z h3 q hq
theorem j74 {id:Nat} {y z:AObj}:∀(u:List (Nat×AObj)) (h:Heap),(∀q∈u,q.1≠id)->upd (A3 u (upd h id y)) id z=upd (A3 u h) id z
 | [],h,_=>z2o _ _ _ _
 | q::u,h,hu=>by
  show upd (A3 u (upd (upd h id y) q.1 q.2)) id z=upd (A3 u (upd h q.1 q.2)) id z;rw[y8j h (Ne.symm (hu q (by simp))) y q.2];exact j74 u _ λq hq=>hu q (by simp[hq])
theorem q4h {id:Nat}:∀(u:List (Nat×AObj)) (h:Heap),(∀p∈u,p.1≠id)->A3 u h id=h id
 | [],_,_=>rfl
 | p::u,h,hu=>by
  show A3 u (upd h p.1 p.2) id=_;rw[q4h u _ (λq hq=>hu q (aj _ hq)),A0 _ _ (λe=>hu p ar e.symm)]
theorem j80 {w:World} {id:Nat} {e:TypeId} {k:OT}:∀{f:List (List Nat×Nat)} {κ:A6} {h:Heap} (_:HeapOK L w0 κ h w) {l:List k.den} (_:h id=.tree e k l f) {r:List k.den×List (Nat×AObj)},(L4 h k l f λa b=>some (a,b))=some r ->
  (∀p n,inL k l p=some n->inL k r.1 p=some n)/\(∀q∈r.2,q.1≠id/\(h q.1).Held) /\
   ∃κ1,(HeapOK L w0 κ1 (upd (A3 r.2 h) id (.tree e k r.1 [])) w/\Ext L κ h w κ1 (upd (A3 r.2 h) id (.tree e k r.1 [])) w)/\∀b,A4 L κ h w b->A4 L κ1 (upd (A3 r.2 h) id (.tree e k r.1 [])) w b
 | [],κ,h,ok,l,hid,r,hc=>by
  cases hc;refine⟨λ_ _ hn=>hn,(λq hq=>by cases hq),κ,?_⟩;have he:upd (A3 [] h) id (.tree e k l [])=h:=q5p h id _ hid;rw[he];exact⟨⟨ok,Ext.refl L κ h w⟩,λb hb=>hb⟩
 | (p,g)::f,κ,h,ok,l,hid,r,hc=>by
  have hids:=j7z hc;obtain⟨l1,l2,u,h1,h2,h3,rfl⟩:=z3m hc;obtain⟨a1,⟨a2,a3⟩,κ1,⟨a4,a5⟩,a6⟩:=v33 ok hid h1 λq hq=>(h2 q hq).1;have hnid:∀q∈u,q.1≠id/\(h q.1).Held:=λq hq=>by
   have hl:=hids q (aj _ hq);refine⟨λe0=>?_,?_⟩
   ·rw[e0,hid]at hl;rcases hl with⟨_,_,_,e0⟩ | ⟨_,_,_,_,_,e0⟩ | e0<;>cases e0
   ·rcases hl with⟨_,_,_,e0⟩ | ⟨_,_,_,_,_,e0⟩ | e0<;>first | (rw[e0];simp;done) | (cases ho:h q.1<;>rw[ho]at e0<;>first | cases e0;done | simp)
  have hug:∀q∈u,q.1≠g:=by
   have key:∀{f:List (List Nat×Nat)} {l l2:List k.den} {u:List (Nat×AObj)},(L4 h k l f λa b=>some (a,b))=some (l2,u)->∀q∈u,q.1∈f.map (·.2):=by
    intro f
    induction f with
    | nil=>intro l l2 u hc q hq;cases hc;cases hq
    | cons c f ih =>
     intro l l2 u hc q hq;obtain⟨p,g⟩:=c;obtain⟨_,_,u',_,_,h3,h4⟩:=z3m hc;cases h4;rcases al.1 hq with rfl | hq
     ·simp
     ·exact aj _ (ih h3 q hq)
   intro q hq e0;obtain⟨c,hc1,hc2⟩:=aW.1 (key h3 q hq);exact(h2 c hc1).2 (hc2.trans e0)
  obtain⟨b1,b2,κ2,⟨b4,b5⟩,b6⟩:=j80 a4 (A2 _ _ _) (q61 h3 λq hq=>by rw[A0 _ _ (hnid q hq).1,A0 _ _ (hug q hq)]);have hheap:upd (A3 u (upd (upd h g (cond (K6 (h g)) (h g) .dead)) id (.tree e k l1 f))) id (.tree e k l2 [])=upd (A3 ((g,cond (K6 (h g)) (h g) .dead)::u) h) id (.tree e k l2 []):=j74 u _ λq hq=>(hnid q hq).1;simp only at b4 b5 b6;rw[hheap]at b4 b5 b6;refine⟨λp n hn=>b1 p n (a1 p n hn),λq hq=>?_,κ2,⟨b4,a5.trans b5⟩,λb hb=>b6 b (a6 b hb)⟩;rcases al.1 hq with rfl | hq
  ·exact⟨a2,a3⟩
  ·exact hnid q hq
theorem q62 (ok:HeapOK L w0 κ h w) {id:Nat} (hid:h id=.tree e k l f) {K:List k.den->List (Nat×AObj)->Option R} (hc:L4 h k l f K=some z) :
  ∃l1 u,K l1 u=some z/\(∀p n,inL k l p=some n->inL k l1 p=some n)/\(∀q∈u,q.1≠id/\(h q.1).Held) /\
   ∃κ1,(HeapOK L w0 κ1 (upd (A3 u h) id (.tree e k l1 [])) w/\Ext L κ h w κ1 (upd (A3 u h) id (.tree e k l1 [])) w)/\∀b,A4 L κ h w b->A4 L κ1 (upd (A3 u h) id (.tree e k l1 [])) w b:=by
 rw[q10]at hc;obtain⟨r,h1,h2⟩:=ae.1 hc;obtain⟨a1,a2,a3⟩:=j80 ok hid h1;exact⟨r.1,r.2,h2,a1,a2,a3⟩
def OT.sub:(t:OT)->t.den->List Nat->Option ((u:OT)×u.den)
 | t,x,[]=>some ⟨t,x⟩
 | .arrs _ k,l,i::p=>(l[i]?).bind λy=>k.sub y p
 | .ptr c,x,i::p=>c.sub x (i::p)
 | .cons a _,x,0::p=>a.sub x.1 p
 | .cons _ b,x,1::i::p=>b.sub x.2 (i::p)
 | _,_,_::_=>none
def q2i:List (List Nat×Nat)->List Nat->List (List Nat×Nat)
 | o,[]=>o
 | o,i::p=>q2i (M1 o i) p
theorem y3c {i:Nat} {p:List Nat} {g:Nat}:∀(f:List (List Nat×Nat)) (n:Nat),f[n]? = some (i::p,g)->(∀q∈f.take n,q.1≠i::p)->∃m,(M1 f i)[m]? = some (p,g)/\∀q∈(M1 f i).take m,q.1≠p
 | [],_,h,_=>by simp at h
 | (a,ga)::f,0,h,_=>by
  simp only[bS,aN,bZ]at h;obtain⟨rfl,rfl⟩:=h;exact⟨0,by rw[Q8];rfl,λq hq=>by simp at hq⟩
 | (a,ga)::f,n+1,h,hn=>by
  obtain⟨m,h1,h2⟩:=y3c f n h λq hq=>hn q (by simp[hq]);have ha:=hn (a,ga) (by simp);cases a with
  | nil=>exact⟨m,by simpa[M1]using h1,by simpa[M1]using h2⟩
  | cons j a =>
   by_cases hj:j=i
   ·subst hj;rw[Q8];refine⟨m+1,h1,λq hq=>?_⟩;rw[fh]at hq;rcases al.1 hq with rfl | hq
    ·exactλe=>ha (congrArg _ e)
    ·exact h2 q hq
   ·rw[P8 hj];exact⟨m,h1,h2⟩
theorem j3x {g:Nat}:∀(c:List Nat) (f:List (List Nat×Nat)) (n:Nat),f[n]? = some (c,g)->(∀q∈f.take n,q.1≠c)->O3 (q2i f c)=some g
 | [],f,n,h,hn=>by
  show O3 f=some g
  induction f generalizing n with
  | nil=>simp at h
  | cons a f ih =>
   obtain⟨a,ga⟩:=a;cases n with
   | zero=>cases h;rfl
   | succ n =>
    have ha:=hn (a,ga) (by simp);cases a with
    | nil=>exact absurd rfl ha
    | cons j a=>exact ih n h λq hq=>hn q (by simp[hq])
 | i::p,f,n,h,hn=>by
  obtain⟨m,h1,h2⟩:=y3c f n h hn;exact j3x p (M1 f i) m h1 h2
theorem y4s {κ:A6} {h:Heap} {w:World}:∀(c:OT) {pl:List Nat->Option (Nat×(Nat×Nat))} {o:List (List Nat×Nat)} {get:Nat->Option Value} {x:c.den} {i:Nat} {q:List Nat} {u:OT} {y:u.den},
  RepO L κ h w c pl o get x->q5c c i=some q->c.sub x q=some ⟨u,y⟩->∃get',get' 0=get i/\RepO L κ h w u (λr=>pl (q++r)) (q2i o q) get' y
 | .cons a b,pl,o,get,x,0,q,u,y,hr,hq,hs=>by
  cases hq;obtain⟨r1,r2⟩:=hr;have hs:a.sub x.1 []=some ⟨u,y⟩:=hs;have hs:some (⟨a,x.1⟩:(u:OT)×u.den)=some ⟨u,y⟩:=by cases a<;>exact hs
  cases hs;exact⟨λj=>if j=0 then get 0 else none,rfl,r1⟩
 | .cons a b,pl,o,get,x,i+1,q,u,y,hr,hq,hs=>by
  obtain⟨q',hq',rfl⟩:=az.1 hq;obtain⟨r1,r2⟩:=hr;obtain⟨j,p,rfl⟩:∃j p,q'=j::p:=by
   cases b with
   | cons a' b'=>cases i with
    | zero=>cases hq';exact⟨_,_,rfl⟩
    | succ i=>obtain⟨q2,_,rfl⟩:=az.1 hq';exact⟨_,_,rfl⟩
   | _=>cases hq'
  have g:=y4s b r2 hq' (show b.sub x.2 (j::p)=some ⟨u,y⟩from hs);exact g
 | .arr _ _,_,_,_,_,_,_,_,_,_,hq,_=>by cases hq
 | .map _ _ _ _,_,_,_,_,_,_,_,_,_,hq,_=>by cases hq
 | .arrs _ _,_,_,_,_,_,_,_,_,_,hq,_=>by cases hq
 | .ptr _,_,_,_,_,_,_,_,_,_,hq,_=>by cases hq
 | .nil,_,_,_,_,_,_,_,_,_,hq,_=>by cases hq
 | .opt _,_,_,_,_,_,_,_,_,_,hq,_=>by cases hq
theorem z21 (t:OT) (x:t.den):t.sub x []=some ⟨t,x⟩:=by cases t<;>rfl
theorem j4i:∀(t:OT) (i:Nat),q5c t i≠some []
 | .cons _ _,0,h=>by cases h
 | .cons _ b,i+1,h=>by obtain⟨_,_,h⟩:=az.1 h;cases h
 | .arr _ _,_,h=>by cases h
 | .map _ _ _ _,_,h=>by cases h
 | .arrs _ _,_,h=>by cases h
 | .ptr _,_,h=>by cases h
 | .nil,_,h=>by cases h
 | .opt _,_,h=>by cases h
theorem q4k:∀(t:OT) (p:List Nat) (i:Nat),N9 t p i≠some []
 | .arrs _ _,[],_,h=>by cases h
 | .arrs _ k,j::p,i,h=>by obtain⟨_,_,h⟩:=az.1 h;cases h
 | .ptr c,[],i,h=>j4i c i h
 | .ptr c,j::p,i,h=>q4k c (j::p) i h
 | .cons a _,0::p,i,h=>by obtain⟨_,_,h⟩:=az.1 h;cases h
 | .cons _ b,1::j::p,i,h=>by obtain⟨_,_,h⟩:=az.1 h;cases h
 | .arr _ _,_,_,h=>by cases h
 | .map _ _ _ _,_,_,h=>by cases h
 | .opt _,_,_,h=>by cases h
 | .nil,_,_,h=>by cases h
 | .cons _ _,[],_,h=>by cases h
 | .cons _ _,[1],_,h=>by cases h
 | .cons _ _,(_+2)::_,_,h=>by cases h
theorem q87 {κ:A6} {h:Heap} {w:World}:∀(t:OT) {p:List Nat} {pl:List Nat->Option (Nat×(Nat×Nat))} {o:List (List Nat×Nat)} {get:Nat->Option Value} {x:t.den} {i:Nat} {q:List Nat} {u:OT} {y:u.den},
  RepO L κ h w t pl o get x->N9 t p i=some q->t.sub x q=some ⟨u,y⟩->∃b cap get',pl p=some (b,cap)/\get' 0=w.cell? ⟨b,cap.2+i,none⟩/\(∃c ty,w.heap[b]? = some (.cells c ty (0,0)))/\RepO L κ h w u (λr=>pl (q++r)) (q2i o q) get' y
 | .arrs e k,[],pl,o,get,x,i,q,u,y,hr,hq,hs=>by
  cases hq;obtain⟨v,b,cap,cur,a1,a2,a3,a4,a5,a6,a7,a8,a9⟩:=hr;obtain⟨z,hz,hs⟩:=ae.1 (show(x[i]?).bind (λy=>k.sub y [])=some ⟨u,y⟩from hs);rw[z21]at hs;cases hs;exact⟨b,cap,_,a2,by simp[World.cell?,a4],⟨_,_,a4⟩,a9 i z hz⟩
 | .arrs e k,j::p,pl,o,get,x,i,q,u,y,hr,hq,hs=>by
  obtain⟨q',hq',rfl⟩:=az.1 hq;obtain⟨v,b,cap,cur,a1,a2,a3,a4,a5,a6,a7,a8,a9⟩:=hr;obtain⟨z,hz,hs⟩:=ae.1 (show(x[j]?).bind (λy=>k.sub y q')=some ⟨u,y⟩from hs);have g:=q87 k (a9 j z hz) hq' hs;exact g
 | .ptr c,[],pl,o,get,x,i,q,u,y,hr,hq,hs=>by
  obtain⟨v,b,cap,cs,ty,a1,a2,a3,a4,a5,a6,a7,a8⟩:=hr;obtain⟨j,p,rfl⟩:∃j p,q=j::p:=by
   cases c with
   | cons a' b'=>cases i with
    | zero=>cases hq;exact⟨_,_,rfl⟩
    | succ i=>obtain⟨q2,_,rfl⟩:=az.1 hq;exact⟨_,_,rfl⟩
   | _=>cases hq
  obtain⟨get',g1,g2⟩:=y4s c a8 hq (show c.sub x (j::p)=some ⟨u,y⟩from hs);exact⟨b,cap,get',a2,by rw[g1,a3];simp[World.cell?,a5],⟨_,_,a5⟩,g2⟩
 | .ptr c,j::p,pl,o,get,x,i,q,u,y,hr,hq,hs=>by
  obtain⟨v,b,cap,cs,ty,a1,a2,a3,a4,a5,a6,a7,a8⟩:=hr;obtain⟨j',p',rfl⟩:∃j p,q=j::p:=by
   have hq:N9 c (j::p) i=some q:=hq;cases q with
   | nil=>exact absurd hq (q4k c _ _)
   | cons a b=>exact⟨_,_,rfl⟩
  exact q87 c a8 hq (show c.sub x (j'::p')=some ⟨u,y⟩from hs)
 | .cons a b,0::p,pl,o,get,x,i,q,u,y,hr,hq,hs=>by
  obtain⟨q',hq',rfl⟩:=az.1 hq;have g:=q87 a hr.1 hq' (show a.sub x.1 q'=some ⟨u,y⟩from hs);exact g
 | .cons a b,1::j::p,pl,o,get,x,i,q,u,y,hr,hq,hs=>by
  obtain⟨q',hq',rfl⟩:=az.1 hq;obtain⟨j',p',rfl⟩:∃j p,q'=j::p:=by
   cases q' with
   | nil=>exact absurd hq' (q4k b _ _)
   | cons a b=>exact⟨_,_,rfl⟩
  have g:=q87 b hr.2 hq' (show b.sub x.2 (j'::p')=some ⟨u,y⟩from hs);exact g
 | .arr _ _,_,_,_,_,_,_,_,_,_,_,hq,_=>by cases hq
 | .map _ _ _ _,_,_,_,_,_,_,_,_,_,_,hq,_=>by cases hq
 | .opt _,_,_,_,_,_,_,_,_,_,_,hq,_=>by cases hq
 | .nil,_,_,_,_,_,_,_,_,_,_,hq,_=>by cases hq
 | .cons _ _,[],_,_,_,_,_,_,_,_,_,hq,_=>by cases hq
 | .cons _ _,[1],_,_,_,_,_,_,_,_,_,hq,_=>by cases hq
 | .cons _ _,(_+2)::_,_,_,_,_,_,_,_,_,_,hq,_=>by cases hq
theorem j7b (t:OT):t.at []=some t:=by cases t<;>rfl
theorem q4w:∀(t:OT) {x:t.den} {q:List Nat} {o:AObj},t.getK x q some=some o->∃(u:OT) (y:u.den),t.sub x q=some ⟨u,y⟩/\t.at q=some u/\u.outK y some=some o
 | t,x,[],o,h=>⟨t,x,z21 t x,j7b t,by rw[<-j9x];exact h⟩
 | .arrs _ k,l,i::p,o,h=>by
  obtain⟨y,hy,h⟩:=ae.1 h;obtain⟨u,z,h1,h2,h3⟩:=q4w k h;exact⟨u,z,ae.2 ⟨y,hy,h1⟩,h2,h3⟩
 | .ptr c,x,i::p,o,h=>q4w c (show c.getK x (i::p) some=some o from h)
 | .cons a b,x,0::p,o,h=>q4w a (show a.getK x.1 p some=some o from h)
 | .cons a b,x,1::i::p,o,h=>q4w b (show b.getK x.2 (i::p) some=some o from h)
 | .cons _ _,_,[1],_,h=>by cases h
 | .cons _ _,_,(_+2)::_,_,h=>by cases h
 | .arr _ _,_,_::_,_,h=>by cases h
 | .map _ _ _ _,_,_::_,_,h=>by cases h
 | .opt _,_,_::_,_,h=>by cases h
 | .nil,_,_::_,_,h=>by cases h
theorem q93:∀(t:OT) {x:t.den} {q:List Nat} {n:Nat},inT t x q=some n->∃(u:OT) (y:u.den),t.sub x q=some ⟨u,y⟩/\t.at q=some u/\inT u y []=some n
 | t,x,[],n,h=>⟨t,x,z21 t x,j7b t,h⟩
 | .arrs _ k,l,i::p,n,h=>by
  obtain⟨y,hy,h⟩:=ae.1 (show(l[i]?).bind (λy=>inT k y p)=some n from h);obtain⟨u,z,h1,h2,h3⟩:=q93 k h;exact⟨u,z,ae.2 ⟨y,hy,h1⟩,h2,h3⟩
 | .ptr c,x,i::p,n,h=>q93 c (show inT c x (i::p)=some n from h)
 | .cons a b,x,0::p,n,h=>q93 a (show inT a x.1 p=some n from h)
 | .cons a b,x,1::i::p,n,h=>q93 b (show inT b x.2 (i::p)=some n from h)
 | .cons _ _,_,[1],_,h=>by cases h
 | .cons _ _,_,(_+2)::_,_,h=>by cases h
 | .arr _ _,_,_::_,_,h=>by cases h
 | .map _ _ _ _,_,_::_,_,h=>by cases h
 | .opt _,_,_::_,_,h=>by cases h
 | .nil,_,_::_,_,h=>by cases h
theorem q9e {R:Type}:∀(t:OT) (x:t.den) (p:List Nat) (K:Nat->Option R),t.lenK x p K=(inT t x p).bind K
 | .arrs _ _,l,[],K=>rfl
 | .arrs _ k,l,i::p,K=>by
  show(l[i]?).bind (λy=>k.lenK y p K)=((l[i]?).bind λy=>inT k y p).bind K;cases l[i]? with
  | none=>rfl
  | some y=>exact q9e k y p K
 | .ptr c,_,[],K=>rfl
 | .ptr c,x,i::p,K=>q9e c x (i::p) K
 | .cons a _,x,0::p,K=>q9e a x.1 p K
 | .cons _ b,x,1::i::p,K=>q9e b x.2 (i::p) K
 | .cons _ _,_,[],_=>rfl
 | .cons _ _,_,[1],_=>rfl
 | .cons _ _,_,(_+2)::_,_=>rfl
 | .arr _ _,_,_,_=>rfl
 | .map _ _ _ _,_,_,_=>rfl
 | .opt _,_,_,_=>rfl
 | .nil,_,_,_=>rfl
theorem z9c {K:Nat->Option R} (he:z2m k l p K=some z):∃n,inL k l p=some n/\K n=some z:=by
 cases p with
 | nil=>exact⟨_,rfl,he⟩
 | cons i p =>
  obtain⟨y,hy,he⟩:=ae.1 he;rw[q9e]at he;obtain⟨n,hn,he⟩:=ae.1 he;exact⟨n,ae.2 ⟨y,hy,hn⟩,he⟩
theorem q7t {K:AObj->Option R} (he:q5o k l p K=some z):∃i p' y ob,p=i::p'/\l[i]? = some y/\k.getK y p' some=some ob/\K ob=some z:=by
 cases p with
 | nil=>cases he
 | cons i p =>
  obtain⟨y,hy,he⟩:=ae.1 he;rw[q8m]at he;obtain⟨ob,hn,he⟩:=ae.1 he;exact⟨i,p,y,ob,rfl,hy,hn,he⟩
theorem v5q:∀p,inT (.arrs e k) l p=inL k l p
 | []=>rfl
 | _::_=>rfl
variable {u:OT} {y:u.den}
theorem j5w {id:Nat} (hob:RepObj L κ h w id (.tree e k l f)) {q:List Nat} (hq:N9 (.arrs e k) p i=some q) (hs:(OT.arrs e k).sub l q=some ⟨u,y⟩) :
  ∃b cap get',κ (gh id p)=some (b,cap)/\get' 0=w.cell? ⟨b,cap.2+i,none⟩/\(∃c ty,w.heap[b]? = some (.cells c ty (0,0)))/\RepO L κ h w u (λr=>κ (gh id (q++r))) (q2i f q) get' y:=by
 rcases hob with⟨h1,h2,h3⟩ | ⟨b,cap,cur,r1,r2,r3,r4,r5,r6,r7⟩
 ·subst h2;have:∃j p',q=j::p':=by
   cases q with
   | nil=>exact absurd hq (q4k _ _ _)
   | cons a b=>exact⟨_,_,rfl⟩
  obtain⟨j,p',rfl⟩:=this;cases hs
 ·exact q87 (.arrs e k) (pl:=λp=>κ (gh id p)) (o:=f) (get:=E6 (.slice (some ⟨b,cap.2,none⟩) l.length cap.1)) ⟨_,b,cap,cur,rfl,r1,rfl,r2,r3,r4,r5,r6,r7⟩ hq hs
variable {v:Value}
theorem q1q {id:Nat} (hr:RepSV L κ h w (.tp id p i) v) (hid:h id=.tree e k l f) :
  ∃n b cap,inL k l p=some n/\κ (gh id p)=some (b,cap)/\(p=[]\/h (gh id p)=.kid)/\v=.pointer (some ⟨b,cap.2+i,none⟩):=by
 have:=hr.1;rw[hid]at this;exact this
theorem y4j {id:Nat} (hr:RepSV L κ h w (.ts id p) v) (hid:h id=.tree e k l f) :
  (p=[]/\κ id=none/\l=[]/\v=.slice none 0 0)\/∃n b cap,inL k l p=some n/\κ (gh id p)=some (b,cap)/\(p=[]\/h (gh id p)=.kid)/\v=.slice (some ⟨b,cap.2,none⟩) n cap.1:=by
 have:=hr.1;rw[hid]at this;exact this
variable {n:Nat} {b:Nat}
theorem y4i {id:Nat} (hid:h id=.tree e k l f) {cap:Nat×Nat} (h1:inL k l p=some n) (h2:κ (gh id p)=some (b,cap)) (h3:p=[]\/h (gh id p)=.kid) (i:Nat) :
  RepSV L κ h w (.tp id p i) (.pointer (some ⟨b,cap.2+i,none⟩)):=by
 refine⟨?_,rfl⟩;rw[hid];exact⟨n,b,cap,h1,h2,h3,rfl⟩
variable {o:Oper} {x:Operand} {hs:Heap} {ρs:Env}
theorem k2s (ho:o.op=.nilCheck x) {id:Nat} (hx:ev ρs x=.one (.tp id p i)) (hid:hs id=.tree e k l f):A9 P L w0 o ρs hs hs (.one (.tp id p i)):=by
 refine E7 (λc hc=>by rw[ho]at hc;cases hc) λκ a w hev ok=>⟨a.eval x,?_,by rw[<-hx];exact hev x⟩;have hxv:=hev x;rw[hx]at hxv;obtain⟨n,b,cap,_,_,_,hv⟩:=q1q (L:=L) (w:=w) hxv hid;unfold execOp;simp[ho,hv]
variable {T:TypeId} {ti:TInfo}
theorem k28 {f:Nat} (hti:ti.OK P T) (hstr:ti.str=true) (ho:o.op=.fieldAddr T x f) {fi:FI} (hf:ti.flds[f]? = some fi) (hpos:1<=fi.size) {id:Nat} (hx:ev ρs x=.one (.tp id p i)) {f0:List (List Nat×Nat)} (hid:hs id=.tree e k l f0) :
  A9 P L w0 o ρs hs hs (.one (.tp id p (i+fi.off))):=by
 refine E7 (λc hc=>by rw[ho]at hc;cases hc) λκ a w hev ok=>?_;have hxv:=hev x;rw[hx]at hxv;obtain⟨n,b,cap,h1,h2,h3,hv⟩:=q1q (L:=L) (w:=w) hxv hid;refine⟨.pointer (some ⟨b,cap.2+(i+fi.off),none⟩),?_,y4i (L:=L) (w:=w) hid h1 h2 h3 _⟩;unfold execOp;simp only[ho,hv,Sem.run_bind,y4x hti hstr hf hpos,Result.andThen_ok,Sem.run_pure,bT]
theorem k2b {i:Operand} {te:TInfo} (hti:ti.OK P T) (hel:ti.elem=some e) (hte:te.OK P e) (ho:o.op=.indexAddr T x i) {id:Nat} (hx:ev ρs x=.one (.ts id p)) {e':TypeId} (hid:hs id=.tree e' k l f) {kk:IntKind} {n:Int} (hi:ev ρs i=.one (.sc (.int kk) n)) {m:Nat} (hm:inL k l p=some m) (c1:te.size=1) (c2:inB n m=true):A9 P L w0 o ρs hs hs (.one (.tp id p n.toNat)):=by
 refine E7 (λc hc=>by rw[ho]at hc;cases hc) λκ a w hev ok=>?_;have hxv:=hev x;rw[hx]at hxv;have hiv:=hev i;rw[hi]at hiv;rcases y4j (L:=L) (w:=w) hxv hid with⟨hp,_,hl,_⟩ | ⟨m',b,cap,h1,h2,h3,hv⟩
 ·subst hp;subst hl;cases hm;have:=j2i c2;simp at this
 ·rw[hm]at h1;cases h1;refine⟨.pointer (some ⟨b,cap.2+n.toNat,none⟩),?_,y4i (L:=L) (w:=w) hid hm h2 h3 _⟩;unfold execOp;simp only[ho,hv,K1 hiv,Sem.run_bind,y4y hti hel hte c2,Result.andThen_ok,Sem.run_pure,c1,dP]
theorem k2e (hti:ti.OK P T) (hel:ti.elem=some e) (ho:o.op=.call { callee:=.builtin .len,args:=#[x],argTypes:=#[T] }) {id:Nat} (hx:ev ρs x=.one (.ts id p)) {e':TypeId} (hid:hs id=.tree e' k l f) {m:Nat} (hm:inL k l p=some m):A9 P L w0 o ρs hs hs (G7 .i64 m):=by
 refine E7 (λc hc=>by rw[ho]at hc;cases hc) λκ a w hev ok=>⟨.int .i64 m,?_,M2 _ _⟩;have hxv:=hev x;rw[hx]at hxv;rcases y4j (L:=L) (w:=w) hxv hid with⟨hp,_,hl,hv⟩ | ⟨m',b,cap,h1,h2,h3,hv⟩
 ·subst hp;subst hl;cases hm;exact q3b hti hel ho hv w
 ·rw[hm]at h1;cases h1;exact q3b hti hel ho hv w
variable {c:List Nat}
theorem y3y {id:Nat} (ok:HeapOK L w0 κ h w) (hid:h id=.tree e k l f) (hq:N9 (.arrs e k) p i=some c) (hn:inL k l c=some n) :
  ∃b cap v,κ (gh id p)=some (b,cap)/\w.cell? ⟨b,cap.2+i,none⟩=some v/\((∃e' k',(OT.arrs e k).at c=some (.arrs e' k'))->RepSV L κ h w (.ts id c) v)/\((∃k',(OT.arrs e k).at c=some (.ptr k'))->RepSV L κ h w (.tp id c 0) v):=by
 have hob:=ok.obj id;rw[hid]at hob;obtain⟨u,y,h1,h2,h3⟩:=q93 (.arrs e k) (show inT (.arrs e k) l c=some n by rw[v5q];exact hn);obtain⟨b,cap,get',g1,g2,_,g4⟩:=j5w hob hq h1;have hkid:c=[]\/h (gh id c)=.kid:=by
  cases c with
  | nil=>exact .inl rfl
  | cons j c=>exact .inr (N4 ok id _)
 have hpl:∀r,(λr=>κ (gh id (c++r))) r=κ (gh id (c++r)):=λ_=>rfl;cases u with
 | arrs e' k' =>
  obtain⟨v,b',cap',cur,a1,a2,a3,a4,a5,a6,a7,a8,a9⟩:=g4;simp only[bP]at a2;refine⟨b,cap,v,g1,g2.symm.trans a1,λ_=>⟨?_,by rw[a3];rfl⟩,λ⟨k2,e2⟩=>by rw[h2]at e2;cases e2⟩;rw[hid];have hn':y.length=n:=by cases h3;rfl
  exact .inr ⟨n,b',cap',hn,a2,hkid,by rw[a3,hn']⟩
 | ptr c' =>
  obtain⟨v,b',cap',cs,ty,a1,a2,a3,a4,a5,a6,a7,a8⟩:=g4;simp only[bP]at a2;refine⟨b,cap,v,g1,g2.symm.trans a1,λ⟨e3,k2,e2⟩=>(by rw[h2]at e2;cases e2),λ_=>⟨?_,by rw[a4];rfl⟩⟩;rw[hid];exact⟨n,b',cap',hn,a2,hkid,by rw[a4,a3]⟩
 | arr _ _=>cases h3
 | map _ _ _ _=>cases h3
 | nil=>cases h3
 | opt _=>cases h3
 | cons _ _=>cases h3
variable {s:SV}
theorem y3z {id:Nat} (ok:HeapOK L w0 κ h w) (hid:h id=.tree e k l f) (hout:O3 (q2i f c)=some g) (hq:N9 (.arrs e k) p i=some c) (hsub:(OT.arrs e k).sub l c=some ⟨u,y⟩) (hs:V5 g u=some s) :
  ∃b cap v,κ (gh id p)=some (b,cap)/\w.cell? ⟨b,cap.2+i,none⟩=some v/\RepSV L κ h w s v/\v.oneCell'=true:=by
 have hob:=ok.obj id;rw[hid]at hob;obtain⟨b,cap,get',g1,g2,⟨cc,ty,hh⟩,g4⟩:=j5w hob hq hsub;have key:∀(u:OT) (y:u.den),V5 g u=some s->RepO L κ h w u (λr=>κ (gh id (c++r))) (q2i f c) get' y->∃v,get' 0=some v/\RepSV L κ h w s v/\v.oneCell'=true:=by
  intro u
  induction u with
  | arr e' t =>
   intro y hs hr;cases hs;obtain⟨v,a1,a2⟩:=hr;rw[hout]at a2;exact⟨v,a1,a2.1,a2.1.2⟩
  | map a b c d =>
   intro y hs hr;cases hs;obtain⟨v,a1,a2⟩:=hr;rw[hout]at a2;refine⟨v,a1,a2,?_⟩;obtain⟨_,_,_,_,hv⟩:=a2;rw[hv];rfl
  | opt k ih =>
   intro y hs hr;cases y with
   | none=>exact absurd (hout.symm.trans (show O3 (q2i f c)=none from hr)) (by simp)
   | some y=>exact ih y hs hr
  | _=>intro y hs;cases hs
 obtain⟨v,a1,a2,a3⟩:=key u y hs g4;exact⟨b,cap,v,g1,g2.symm.trans a1,a2,a3⟩
theorem y8l {u:List (Nat×AObj)} {id:Nat} (hu:∀p∈u,p.1≠id/\(h p.1).Held) {id':Nat} (hf:h id'=.fresh):∀p∈u,p.1≠id':=λp hp e=>(hu p hp).2.1 (by rw[e];exact hf)
theorem k2g (hti:ti.OK P T) (ho:o.op=.load T x) {ρ:Env} {id id':Nat} {p:List Nat} {same:Option Nat} (hx:ev ρ x=.one (.tp id p i)) {K:Eff->Option R} (he:j1c ti same h id' id p i K=some z):∃q,K q=some z/\q.full=none/\∀ρs hs,ev ρs x=ev ρ x->(∀j∈q.rd,hs j=h j)->(∀p∈q.ups,hs p.1=h p.1)->A9 P L w0 o ρs hs (q.heap hs) q.av:=by
 have hdef:∀c,o.op≠.defer c:=λc hc=>by rw[ho]at hc;cases hc
 have one:∀{s:SV} {K':AV->Option R},U1 ti [s] 0 K'=some z->∃av,K' av=some z/\∀(κ:A6) (h:Heap) (w:World) (b o:Nat) (v:Value),w.cell? ⟨b,o,none⟩=some v->RepSV L κ h w s v->v.oneCell'=true->∃v,(loadVar T ⟨b,o,none⟩).run P w=.ok v w/\RepAV L κ h w av v:=by
  intro s K' hp;obtain⟨av,h1,h2⟩:=q70 (L:=L) hti hp;refine⟨av,h1,λκ h w b o v hc hr h1c=>h2 κ h w b o λj s' hj=>?_⟩;cases j with
  | zero=>cases hj;exact⟨v,hc,hr,h1c⟩
  | succ j=>cases hj
 unfold j1c at he;split at he
 ·rename_i e k l f hid;obtain⟨c,hc,he⟩:=ae.1 he;split at he
  ·rename_i e' k' hat;obtain⟨n,hn,he⟩:=z9c he;obtain⟨av,hK,hav⟩:=one he;refine⟨_,hK,rfl,λρs hs hρ hrd hup=>E7 hdef λκ a w hev ok=>?_⟩;have hids:hs id=.tree e k l f:=(hrd id (by simp[E1])).trans hid;have hxv:=hev x;rw[hρ,hx]at hxv;obtain⟨_,b,cap,_,hb,_,hv⟩:=q1q (L:=L) (w:=w) hxv hids;obtain⟨b',cap',v,g1,g2,g3,_⟩:=y3y ok hids hc hn;rw[hb]at g1;cases g1;have hr:=g3 ⟨_,_,hat⟩;obtain⟨v',r1,r2⟩:=hav κ hs w b _ v g2 hr hr.2;exact⟨v',q3c ho hv w r1,r2⟩
  ·rename_i k' hat;obtain⟨n,hn,he⟩:=z9c he;obtain⟨av,hK,hav⟩:=one he;refine⟨_,hK,rfl,λρs hs hρ hrd hup=>E7 hdef λκ a w hev ok=>?_⟩;have hids:hs id=.tree e k l f:=(hrd id (by simp[E1])).trans hid;have hxv:=hev x;rw[hρ,hx]at hxv;obtain⟨_,b,cap,_,hb,_,hv⟩:=q1q (L:=L) (w:=w) hxv hids;obtain⟨b',cap',v,g1,g2,_,g3⟩:=y3y ok hids hc hn;rw[hb]at g1;cases g1;have hr:=g3 ⟨_,hat⟩;obtain⟨v',r1,r2⟩:=hav κ hs w b _ v g2 hr hr.2;exact⟨v',q3c ho hv w r1,r2⟩
  ·rename_i t _ _ hat;cases hsame:same with
   | some n =>
    rw[hsame]at he;simp only at he;split at he
    rotate_left
    ·cases he
    rename_i q g hfn;obtain⟨s,hls,he⟩:=ae.1 he;obtain⟨hpe,he⟩:=B1 he;obtain⟨hpe,hfst⟩:=cn.1 hpe;obtain⟨i0,p0,y0,ob0,e0,hy0,hg0,he⟩:=q7t he;obtain⟨av,hK,hav⟩:=one he;have hqc:q=c:=q9u hpe;subst hqc;subst e0;obtain⟨u,y,hu1,hu2,_⟩:=q4w k hg0;have hsub:(OT.arrs e k).sub l (i0::p0)=some ⟨u,y⟩:=ae.2 ⟨y0,hy0,hu1⟩;have hut:u=t:=by
     have:(OT.arrs e k).at (i0::p0)=some u:=hu2;rw[hat]at this;exact(bI this).symm
    subst hut;have hout:O3 (q2i f (i0::p0))=some g:=j3x _ f n hfn λq hq e1=>by
     have:=aG.1 hfst q hq;rw[e1,z6d]at this;cases this
    refine⟨_,hK,rfl,λρs hs hρ hrd hup=>E7 hdef λκ a w hev ok=>?_⟩;have hids:hs id=.tree e k l f:=(hrd id (by simp[E1])).trans hid;have hxv:=hev x;rw[hρ,hx]at hxv;obtain⟨_,b,cap,_,hb,_,hv⟩:=q1q (L:=L) (w:=w) hxv hids;obtain⟨b',cap',v,g1,g2,g3,g4⟩:=y3z ok hids hout hc hsub hls;rw[hb]at g1;cases g1;obtain⟨v',r1,r2⟩:=hav κ hs w b _ v g2 g3 g4;exact⟨v',q3c ho hv w r1,r2⟩
   | none =>
    rw[hsame]at he;simp only at he;obtain⟨s,hls,he⟩:=ae.1 he;rw[q10]at he;obtain⟨⟨l1,u⟩,hcl,he⟩:=ae.1 he;obtain⟨i0,p0,y0,ob,e0,hy0,hg0,he⟩:=q7t he;obtain⟨hfr,he⟩:=Q7 he;obtain⟨av,hK,hav⟩:=one he;subst e0;obtain⟨uu,y,hu1,hu2,hu3⟩:=q4w k hg0;have hsub:(OT.arrs e k).sub l1 (i0::p0)=some ⟨uu,y⟩:=ae.2 ⟨y0,hy0,hu1⟩;have hut:uu=t:=by
     have:(OT.arrs e k).at (i0::p0)=some uu:=hu2;rw[hat]at this;exact(bI this).symm
    subst hut;refine⟨_,hK,rfl,λρs hs hρ hrd hup=>M7 hdef λκ a w hev ok=>?_⟩;have hids:hs id=.tree e k l f:=(hrd id (by simp)).trans hid;obtain⟨l1',u',hlu,hin,h4,κ1,h1,hf1⟩:=q62 ok hids (q61 hcl (λp hp=>hup p (by simp[hp])));cases hlu;have hxv:=(hev x);rw[hρ,hx]at hxv;obtain⟨n0,b,cap,hn0,hb,hk0,hv⟩:=q1q (L:=L) (w:=w) hxv hids;have hfs:hs id'=.fresh:=(hup (id',ob) (by simp)).trans hfr;have hnid:id'≠id:=λe0=>by rw[e0,hids]at hfs;cases hfs
    have hf2:upd (A3 u hs) id (.tree e k l1 []) id'=.fresh:=by
     rw[A0 _ _ hnid,q4h u hs (y8l h4 hfs)];exact hfs
    have hob1:=h1.1.obj id;rw[A2]at hob1;rcases hob1 with⟨_,hl0,_⟩ | ⟨b1,cap1,cur,r1,r2,r3,r4,r5,r6,r7⟩
    ·rw[hl0]at hy0;cases hy0
    have hkg:upd (upd κ1 id' (κ1 (kn id (enc (i0::p0))))) (kn id (enc (i0::p0))) none id'=κ1 (kn id (enc (i0::p0))):=by
     rw[A0 _ _ (λe0=>J0 h1.1 (R8 hf2) id _ e0.symm),A2]
    have hoff:∀q,q≠i0::p0->q≠[]->upd (upd κ1 id' (κ1 (kn id (enc (i0::p0))))) (kn id (enc (i0::p0))) none (gh id q)=κ1 (gh id q):=by
     intro q hq hq0;cases q with
     | nil=>exact absurd rfl hq0
     | cons j q =>
      show upd (upd κ1 id' (κ1 (kn id (enc (i0::p0))))) (kn id (enc (i0::p0))) none (kn id (enc (j::q)))=_;rw[A0 _ _ (λe0=>hq (q17 (J6 e0).2)),A0 _ _ (J0 h1.1 (R8 hf2) id _)];rfl
    obtain⟨g1,g2⟩:=y3a h1.1 (id:=id) (g:=id') (i:=enc (i0::p0)) (obj':=.tree e k l1 [(i0::p0,id')]) (og:=ob) (by rw[A2];simp) (by rw[A2];rfl) hf2
     (λe2 k2 l2 f2 h2 q n hn=>by
      rw[A2]at h2;cases h2;cases q with
      | nil=>exactλe0=>J0 h1.1 (id:=id) (by rw[A2];simp) id _ e0.symm
      | cons j q =>
       intro e0;have:=q17 (J6 e0).2;rw[this]at hn;obtain⟨y1,hy1,hn⟩:=ae.1 hn;rw[hy0]at hy1;cases hy1;rw[q4v k hg0]at hn;cases hn)
     (by rw[A2];exact .tree _ _ _ _ _ _ λ_ _ hn=>hn) (λhx=>by
      have hi:=r7 i0 y0 hy0;have hO:=q56 (κ1:=upd (upd κ1 id' (κ1 (kn id (enc (i0::p0))))) (kn id (enc (i0::p0))) none) (h1:=upd (upd (upd (A3 u hs) id (.tree e k l1 [])) id (.tree e k l1 [(i0::p0,id')])) id' ob) hx (A2 _ _ _) k (p:=p0) (pl:=λq=>κ1 (gh id (i0::q)))
       (pl':=λq=>upd (upd κ1 id' (κ1 (kn id (enc (i0::p0))))) (kn id (enc (i0::p0))) none (gh id (i0::q))) hkg (λq hq=>hoff _ (λe0=>hq (aF e0).2) (by simp)) (λq hq=>by cases hq) hg0 hi
      refine⟨.inr ⟨b1,cap1,cur,?_,r2,r3,r4,r5,r6,λj y' hj=>?_⟩,hO.2⟩
      ·rw[A0 _ _ (λe0=>J0 h1.1 (id:=id) (by rw[A2];simp) id _ e0.symm),A0 _ _ (Ne.symm hnid)];exact r1
      ·by_cases hji:i0=j
       ·subst hji;rw[hy0]at hj;cases hj;rw[Q8];exact hO.1
       ·rw[P8 hji];have e1:(λq=>upd (upd κ1 id' (κ1 (kn id (enc (i0::p0))))) (kn id (enc (i0::p0))) none (gh id (j::q)))=λq=>κ1 (gh id (j::q)):=funext λq=>hoff _ (λe0=>hji (aF e0).1.symm) (by simp);rw[e1];exact RepO.ext hx k (λ_ _ _ _=>rfl) (r7 j y' hj))
    have hheap:Eff.heap { av:=av,rd:=[id],ups:=u++[(id,.tree e k l1 [(i0::p0,id')]),(id',ob)],full:=none } hs=upd (upd (upd (A3 u hs) id (.tree e k l1 [])) id (.tree e k l1 [(i0::p0,id')])) id' ob:=by
     show A3 (u++_) hs=_;rw[M4,z2o];rfl
    rw[hheap];have hidf:upd (upd (upd (A3 u hs) id (.tree e k l1 [])) id (.tree e k l1 [(i0::p0,id')])) id' ob id=.tree e k l1 [(i0::p0,id')]:=by rw[A0 _ _ (Ne.symm hnid),A2]
    obtain⟨b',cap',v,q1,q2,q3,q4⟩:=y3z g1.1 hidf (j3x _ _ 0 rfl λq hq=>by simp at hq) hc hsub hls;have hbb:=q1q (L:=L) (w:=w) (RepSV.ext (h1.2.trans g1.2) _ _ hxv) hidf;obtain⟨_,b2,cap2,_,hb2,_,hv2⟩:=hbb;rw[hb2]at q1;cases q1;obtain⟨v',r1',r2'⟩:=hav _ _ w _ _ v q2 q3 q4;exact⟨_,v',w,q3c ho hv2 w r1',g1.1,r2',h1.2.trans g1.2⟩
  ·cases he
 ·cases he
theorem RepO.move {κ κ1:A6} {h h1:Heap} {w w1:World} (hf:∀b,A4 L κ h w b->A4 L κ1 h1 w1 b/\w1.heap[b]? = w.heap[b]?):∀(t:OT) {pl:List Nat->Option (Nat×(Nat×Nat))} (_:∀q b c,pl q=some (b,c)->w1.heap[b]? = w.heap[b]?) {get:Nat->Option Value} {y:t.den},
  RepO L κ h w t pl [] get y->RepO L κ1 h1 w1 t pl [] get y
 | .arr e t,pl,hb,get,y,⟨v,h1,h2⟩=>by
  refine⟨v,h1,h2.1,?_⟩;rcases h2.2 with⟨a,b⟩ | ⟨b,cap,cur,r1,r2,r3,r4,r5,r6,r7⟩
  ·exact .inl ⟨a,b⟩
  ·exact .inr ⟨b,cap,cur,r1,(hb [] b cap r1).trans r2,r3,r4,r5,r6,λi y hy=>RepAt.mono hf t _ y (r7 i y hy)⟩
 | .map ak av k u,pl,hb,get,y,⟨v,h1,b,c,es,cl,a1,a2,a3,a4⟩=>⟨v,h1,b,c,es,cl,a1,a2,(hb [] b c a1).trans a3,a4.mono hf⟩
 | .opt k,pl,hb,get,y,hr=>by
  cases y with
  | none=>rfl
  | some y=>exact RepO.move hf k hb (show RepO L κ h w k pl [] get y from hr)
 | .arrs e k,pl,hb,get,y,⟨v,b,cap,cur,h1,h2,h3,h4,h5,h6,h7,h8,h9⟩ =>
  ⟨v,b,cap,cur,h1,h2,h3,(hb [] b cap h2).trans h4,h5,h6,h7,h8,λi z hz=>RepO.move hf k (λq=>hb (i::q)) (h9 i z hz)⟩
 | .ptr c,pl,hb,get,y,⟨v,b,cap,cs,ty,h1,h2,h3,h4,h5,h6,h7,h8⟩=>⟨v,b,cap,cs,ty,h1,h2,h3,h4,(hb [] b cap h2).trans h5,h6,h7,RepO.move hf c hb h8⟩
 | .nil,_,_,_,_,_=>trivial
 | .cons a b,pl,hb,get,y,⟨h1,h2⟩=>⟨RepO.move hf a (λq=>hb (0::q)) h1,RepO.move hf b (λq=>hb (1::q)) h2⟩
theorem RepO.cells:∀(t:OT) {pl:List Nat->Option (Nat×(Nat×Nat))} {o:List (List Nat×Nat)} {get get':Nat->Option Value} {y:t.den},(∀j,get' j=get j)->RepO L κ h w t pl o get y->RepO L κ h w t pl o get' y:=by
 intro t pl o get get' y hg hr;rw[funext hg];exact hr
theorem j34 {κ:A6} {h:Heap} {w:World} {g:Nat} {s:SV} {pl:List Nat->Option (Nat×(Nat×Nat))} {get:Nat->Option Value} {v:Value} (hg:get 0=some v) (hv:RepSV L κ h w s v) (hh:(h g).Held):∀(u:OT) {y:u.den} {ob:AObj},V5 g u=some s->u.outK y some=some ob->RepO L κ h w u pl [([],g)] get y
 | .arr _ _,y,ob,hs,_=>by cases hs;exact⟨v,hg,hv,hh⟩
 | .map _ _ _ _,y,ob,hs,_=>by cases hs;exact⟨v,hg,hv⟩
 | .opt k,y,ob,hs,ho=>by
  cases y with
  | none=>cases ho
  | some y=>exact j34 hg hv hh k (y:=y) hs ho
 | .arrs _ _,_,_,hs,_=>by cases hs
 | .ptr _,_,_,hs,_=>by cases hs
 | .nil,_,_,hs,_=>by cases hs
 | .cons _ _,_,_,hs,_=>by cases hs
theorem q6z {o:List (List Nat×Nat)} {q:List Nat} (ho:o=[]\/∃g,o=[(i::q,g)]):(M1 o i=[]\/∃g,M1 o i=[(q,g)])/\∀j,i≠j->M1 o j=[]:=by
 rcases ho with rfl | ⟨g,rfl⟩
 ·exact⟨.inl rfl,λ_ _=>rfl⟩
 ·exact⟨.inr ⟨g,Q8 _ _ _ _⟩,λj hj=>P8 hj _ _ _⟩
theorem y4u {κ κ1:A6} {h h1:Heap} {w w1:World} (hf:∀b,A4 L κ h w b->A4 L κ1 h1 w1 b/\w1.heap[b]? = w.heap[b]?) {g:Nat} {s:SV} {v:Value} (hv:RepSV L κ1 h1 w1 s v) (hh:(h1 g).Held) :
  ∀(c:OT) {pl pl':List Nat->Option (Nat×(Nat×Nat))} {o:List (List Nat×Nat)} {get get':Nat->Option Value} {x:c.den} {i:Nat} {q:List Nat} {u:OT} {y:u.den} {ob:AObj},
  RepO L κ h w c pl o get x->q5c c i=some q->c.sub x q=some ⟨u,y⟩->V5 g u=some s->u.outK y some=some ob->(o=[]\/∃g,o=[(q,g)]) ->
  (∀r b c,r≠q->r≠[]->pl r=some (b,c)->w1.heap[b]? = w.heap[b]?)->(∀r,r≠q->pl' r=pl r)->get' i=some v->(∀j,j≠i->get' j=get j)->RepO L κ1 h1 w1 c pl' [(q,g)] get' x
 | .cons a b,pl,pl',o,get,get',x,0,q,u,y,ob,hr,hq,hs,hl,hob,ho,hb,hpl,hg,hgo=>by
  cases hq;obtain⟨r1,r2⟩:=hr;have hs:some (⟨a,x.1⟩:(u:OT)×u.den)=some ⟨u,y⟩:=(z21 a x.1).symm.trans hs;cases hs;obtain⟨o1,o2⟩:=q6z ho;rw[o2 1 (by omega)]at r2;refine⟨by rw[Q8];exact j34 (by simpa using hg) hv hh a hl hob,?_⟩;have e1:(λq=>pl' (1::q))=λq=>pl (1::q):=funext λq=>hpl _ (by simp);have e2:(λj=>get' (j+1))=λj=>get (j+1):=funext λj=>hgo _ (by omega);rw[e1,e2,P8 (by omega)];exact RepO.move hf b (λq b' c' hq=>hb _ b' c' (by simp) (by simp) hq) r2
 | .cons a b,pl,pl',o,get,get',x,i+1,q,u,y,ob,hr,hq,hs,hl,hob,ho,hb,hpl,hg,hgo=>by
  obtain⟨q',hq',rfl⟩:=az.1 hq;obtain⟨r1,r2⟩:=hr;obtain⟨j,p,rfl⟩:∃j p,q'=j::p:=by
   cases q' with
   | nil=>exact absurd hq' (j4i b i)
   | cons j p=>exact⟨j,p,rfl⟩
  obtain⟨o1,o2⟩:=q6z ho;rw[o2 0 (by omega)]at r1;refine⟨?_,?_⟩
  ·have e1:(λq=>pl' (0::q))=λq=>pl (0::q):=funext λq=>hpl _ (by simp);rw[e1,P8 (by omega),hgo 0 (by omega)];exact RepO.move hf a (λq b' c' hq=>hb _ b' c' (by simp) (by simp) hq) r1
  ·rw[Q8];exact y4u hf hv hh b (pl:=λq=>pl (1::q)) (pl':=λq=>pl' (1::q)) r2 hq' (show b.sub x.2 (j::p)=some ⟨u,y⟩from hs) hl hob o1
    (λr b' c' hr _=>hb _ b' c' (λe=>hr (aF e).2) (by simp)) (λr hr=>hpl _ (λe=>hr (aF e).2)) hg (λj hj=>hgo _ (by omega))
 | .arr _ _,_,_,_,_,_,_,_,_,_,_,_,_,hq,_,_,_,_,_,_,_,_=>by cases hq
 | .map _ _ _ _,_,_,_,_,_,_,_,_,_,_,_,_,hq,_,_,_,_,_,_,_,_=>by cases hq
 | .arrs _ _,_,_,_,_,_,_,_,_,_,_,_,_,hq,_,_,_,_,_,_,_,_=>by cases hq
 | .ptr _,_,_,_,_,_,_,_,_,_,_,_,_,hq,_,_,_,_,_,_,_,_=>by cases hq
 | .nil,_,_,_,_,_,_,_,_,_,_,_,_,hq,_,_,_,_,_,_,_,_=>by cases hq
 | .opt _,_,_,_,_,_,_,_,_,_,_,_,_,hq,_,_,_,_,_,_,_,_=>by cases hq
theorem y4t:∀(t:OT) {i:Nat} {q:List Nat},q5c t i=some q->i<t.row
 | .cons _ _,0,_,_=>Nat.succ_pos _
 | .cons _ b,i+1,_,h=>by
  obtain⟨_,h,_⟩:=az.1 h;exact Nat.succ_lt_succ (y4t b h)
 | .arr _ _,_,_,h=>by cases h
 | .map _ _ _ _,_,_,h=>by cases h
 | .arrs _ _,_,_,h=>by cases h
 | .ptr _,_,_,h=>by cases h
 | .nil,_,_,h=>by cases h
 | .opt _,_,_,h=>by cases h
theorem z2p {κ κ1:A6} {h h1:Heap} {w w1:World} (hf:∀b,A4 L κ h w b->A4 L κ1 h1 w1 b/\w1.heap[b]? = w.heap[b]?) {g:Nat} {s:SV} {v:Value} (hv:RepSV L κ1 h1 w1 s v) (hone:v.oneCell'=true) (hh:(h1 g).Held) {b:Nat} {off:Nat} (hw:∀cur ty,w.heap[b]? = some (.cells cur ty (0,0))->off<cur.size->∃cur',w1.heap[b]? = some (.cells cur' ty (0,0))/\cur'.size=cur.size/\(∀c∈cur'.toList,c∈cur.toList\/c=v)/\∀q:Nat,cur'[q]? = if q=off then some v else cur[q]?) :
  ∀(t:OT) {p:List Nat} {pl pl':List Nat->Option (Nat×(Nat×Nat))} {o:List (List Nat×Nat)} {get:Nat->Option Value} {x:t.den} {i:Nat} {q:List Nat} {u:OT} {y:u.den} {ob:AObj} {cap:Nat×Nat},
  RepO L κ h w t pl o get x->N9 t p i=some q->t.sub x q=some ⟨u,y⟩->V5 g u=some s->u.outK y some=some ob->(o=[]\/∃g,o=[(q,g)])->pl p=some (b,cap)->off=cap.2+i ->
  (∀r b' c,r≠q->r≠p->pl r=some (b',c)->w1.heap[b']? = w.heap[b']?)->(∀r,r≠q->pl' r=pl r)->RepO L κ1 h1 w1 t pl' [(q,g)] get x
 | .arrs e k,[],pl,pl',o,get,x,i,q,u,y,ob,cap,hr,hq,hs,hl,hob,ho,hp,hoff,hb,hpl=>by
  cases hq;obtain⟨v0,b0,cap0,cur,a1,a2,a3,a4,a5,a6,a7,a8,a9⟩:=hr;rw[hp]at a2;cases a2;obtain⟨z,hz,hs⟩:=ae.1 (show(x[i]?).bind (λy=>k.sub y [])=some ⟨u,y⟩from hs);rw[z21]at hs;cases hs;obtain⟨o1,o2⟩:=q6z ho;have hlt:=(ag.1 hz).1;obtain⟨cur',c1,c2,c3,c4⟩:=hw cur e a4 (by omega);refine⟨v0,b,cap,cur',a1,(hpl [] (by simp)).trans hp,a3,c1,by rw[c2];exact a5,a6,a7,λc hc=>(c3 c hc).elim (a8 c) λe=>e▸hone,λj z' hz'=>?_⟩;by_cases e0:i=j
  ·subst e0;rw[hz]at hz';cases hz';rw[Q8];exact j34 (by simp only[if_true];rw[c4,if_pos hoff.symm]) hv hh _ hl hob
  ·rw[P8 e0];have hj:=a9 j z' hz';rw[o2 j e0]at hj;have e1:(λq=>pl' (j::q))=λq=>pl (j::q):=funext λq=>hpl _ (λe=>e0 (aF e).1.symm);have e2:cur'[cap.2+j]? = cur[cap.2+j]?:=by rw[c4,if_neg (by omega)]
   rw[e1,e2];exact RepO.move hf k (λq b' c' hq=>hb _ b' c' (λe=>e0 (aF e).1.symm) (by simp) hq) hj
 | .arrs e k,j::p,pl,pl',o,get,x,i,q,u,y,ob,cap,hr,hq,hs,hl,hob,ho,hp,hoff,hb,hpl=>by
  obtain⟨q',hq',rfl⟩:=az.1 hq;obtain⟨v0,b0,cap0,cur,a1,a2,a3,a4,a5,a6,a7,a8,a9⟩:=hr;obtain⟨z,hz,hs⟩:=ae.1 (show(x[j]?).bind (λy=>k.sub y q')=some ⟨u,y⟩from hs);obtain⟨o1,o2⟩:=q6z ho;refine⟨v0,b0,cap0,cur,a1,(hpl [] (by simp)).trans a2,a3,(hb [] b0 cap0 (by simp) (by simp) a2).trans a4,a5,a6,a7,a8,λj' z' hz'=>?_⟩;by_cases e0:j=j'
  ·subst e0;rw[hz]at hz';cases hz';rw[Q8];exact z2p hf hv hone hh hw k (pl:=λq=>pl (j::q)) (pl':=λq=>pl' (j::q)) (a9 j z hz) hq' hs hl hob o1 hp hoff
    (λr b' c' hr hr'=>hb _ b' c' (λe=>hr (aF e).2) (λe=>hr' (aF e).2)) (λr hr=>hpl _ (λe=>hr (aF e).2))
  ·rw[P8 e0];have hj:=a9 j' z' hz';rw[o2 j' e0]at hj;have e1:(λq=>pl' (j'::q))=λq=>pl (j'::q):=funext λq=>hpl _ (λe=>e0 (aF e).1.symm);rw[e1];exact RepO.move hf k (λq b' c' hq=>hb _ b' c' (λe=>e0 (aF e).1.symm) (λe=>e0 (aF e).1.symm) hq) hj
 | .ptr c,[],pl,pl',o,get,x,i,q,u,y,ob,cap,hr,hq,hs,hl,hob,ho,hp,hoff,hb,hpl=>by
  have hq:q5c c i=some q:=hq;obtain⟨v0,b0,cap0,cs,ty,a1,a2,a3,a4,a5,a6,a7,a8⟩:=hr;rw[hp]at a2;cases a2;obtain⟨j,p,rfl⟩:∃j p,q=j::p:=by
   cases q with
   | nil=>exact absurd hq (j4i c i)
   | cons j p=>exact⟨j,p,rfl⟩
  have hil:i<cs.length:=by rw[a6];exact y4t c hq
  obtain⟨cur',c1,c2,c3,c4⟩:=hw cs.toArray ty a5 (by rw[hoff,a3];simpa using hil);have hcur:cur'.toList.toArray=cur':=rfl;refine⟨v0,b,cap,cur'.toList,ty,a1,(hpl [] (by simp)).trans hp,a3,a4,c1,by rw[bj,c2];simpa using a6,λc hc=>(c3 c hc).elim (λh=>a7 c (by simpa using h)) λe=>e▸hone,?_⟩;have hg:∀q:Nat,cur'.toList[q]? = if q=i then some v else cs[q]?:=λq=>by
   rw[aE,c4,hoff,a3,cA];simp
  exact y4u hf hv hh c a8 hq (show c.sub x (j::p)=some ⟨u,y⟩from hs) hl hob ho (λr b' c' hr e0 hk=>hb r b' c' hr e0 hk) hpl (by rw[hg,if_pos rfl]) (λj hj=>by rw[hg,if_neg hj])
 | .ptr c,j::p,pl,pl',o,get,x,i,q,u,y,ob,cap,hr,hq,hs,hl,hob,ho,hp,hoff,hb,hpl=>by
  obtain⟨v0,b0,cap0,cs,ty,a1,a2,a3,a4,a5,a6,a7,a8⟩:=hr;have hq:N9 c (j::p) i=some q:=hq;obtain⟨j',p',rfl⟩:∃j p,q=j::p:=by
   cases q with
   | nil=>exact absurd hq (q4k c _ _)
   | cons a b=>exact⟨_,_,rfl⟩
  exact⟨v0,b0,cap0,cs,ty,a1,(hpl [] (by simp)).trans a2,a3,a4,(hb [] b0 cap0 (by simp) (by simp) a2).trans a5,a6,a7,
   z2p hf hv hone hh hw c a8 hq (show c.sub x (j'::p')=some ⟨u,y⟩from hs) hl hob ho hp hoff hb hpl⟩
 | .cons a b,0::p,pl,pl',o,get,x,i,q,u,y,ob,cap,hr,hq,hs,hl,hob,ho,hp,hoff,hb,hpl=>by
  obtain⟨q',hq',rfl⟩:=az.1 hq;obtain⟨r1,r2⟩:=hr;obtain⟨o1,o2⟩:=q6z ho;rw[o2 1 (by omega)]at r2;refine⟨?_,?_⟩
  ·rw[Q8];exact z2p hf hv hone hh hw a (pl:=λq=>pl (0::q)) (pl':=λq=>pl' (0::q)) r1 hq' (show a.sub x.1 q'=some ⟨u,y⟩from hs) hl hob o1 hp hoff
    (λr b' c' hr hr'=>hb _ b' c' (λe=>hr (aF e).2) (λe=>hr' (aF e).2)) (λr hr=>hpl _ (λe=>hr (aF e).2))
  ·have e1:(λq=>pl' (1::q))=λq=>pl (1::q):=funext λq=>hpl _ (by simp);rw[e1,P8 (by omega)];exact RepO.move hf b (λq b' c' hq=>hb _ b' c' (by simp) (by simp) hq) r2
 | .cons a b,1::j::p,pl,pl',o,get,x,i,q,u,y,ob,cap,hr,hq,hs,hl,hob,ho,hp,hoff,hb,hpl=>by
  obtain⟨q',hq',rfl⟩:=az.1 hq;obtain⟨j',p',rfl⟩:∃j p,q'=j::p:=by
   cases q' with
   | nil=>exact absurd hq' (q4k b _ _)
   | cons a b=>exact⟨_,_,rfl⟩
  obtain⟨r1,r2⟩:=hr;obtain⟨o1,o2⟩:=q6z ho;rw[o2 0 (by omega)]at r1;refine⟨?_,?_⟩
  ·have e1:(λq=>pl' (0::q))=λq=>pl (0::q):=funext λq=>hpl _ (by simp);rw[e1,P8 (by omega)];exact RepO.move hf a (λq b' c' hq=>hb _ b' c' (by simp) (by simp) hq) r1
  ·rw[Q8];exact z2p hf hv hone hh hw b (pl:=λq=>pl (1::q)) (pl':=λq=>pl' (1::q)) r2 hq' (show b.sub x.2 (j'::p')=some ⟨u,y⟩from hs) hl hob o1 hp hoff
    (λr b' c' hr hr'=>hb _ b' c' (λe=>hr (aF e).2) (λe=>hr' (aF e).2)) (λr hr=>hpl _ (λe=>hr (aF e).2))
 | .arr _ _,_,_,_,_,_,_,_,_,_,_,_,_,_,hq,_,_,_,_,_,_,_,_=>by cases hq
 | .map _ _ _ _,_,_,_,_,_,_,_,_,_,_,_,_,_,hq,_,_,_,_,_,_,_,_=>by cases hq
 | .opt _,_,_,_,_,_,_,_,_,_,_,_,_,_,hq,_,_,_,_,_,_,_,_=>by cases hq
 | .nil,_,_,_,_,_,_,_,_,_,_,_,_,_,hq,_,_,_,_,_,_,_,_=>by cases hq
 | .cons _ _,[],_,_,_,_,_,_,_,_,_,_,_,_,hq,_,_,_,_,_,_,_,_=>by cases hq
 | .cons _ _,[1],_,_,_,_,_,_,_,_,_,_,_,_,hq,_,_,_,_,_,_,_,_=>by cases hq
 | .cons _ _,(_+2)::_,_,_,_,_,_,_,_,_,_,_,_,_,hq,_,_,_,_,_,_,_,_=>by cases hq
theorem v4k {w':World} {id q z:Nat} {cap:Nat×Nat} {e:TypeId} {k:OT} {l:List k.den} {f f1:List (List Nat×Nat)} (hid:h id=.tree e k l f) (hq:h q=.kid) (hzl:(h z).live=true) (hz:κ z=some (b,cap)) (hgc:∀j e k l f,h j=.tree e k l f->∀p n,inL k l p=some n->gh j p≠q) {cur:Array Value} {ty:TypeId} (hb0:w.heap[b]? = some (.cells cur ty (0,0))) (hs:w'.heap.size=w.heap.size) (hb:∀b',b'≠b->w'.heap[b']? = w.heap[b']?) :
  Ext L κ h w (upd κ q none) (upd h id (.tree e k l f1)) w' where
 place j hj:=A0 _ _ (λe0=>hj.2 (by rw[e0];exact hq))
 kid j hd:=by rw[A0 _ _ (λe0=>by subst e0;rw[hid]at hd;cases hd)];exact hd
 dead j hd:=by rw[A0 _ _ (λe0=>by subst e0;rw[hid]at hd;cases hd)];exact hd
 cells j x hj:=by rw[A0 _ _ (λe0=>by subst e0;rw[hid]at hj;cases hj)];exact .inl ⟨x,hj⟩
 arr j e t x hj:=by rw[A0 _ _ (λe0=>by subst e0;rw[hid]at hj;cases hj)];exact .inl ⟨x,rfl,.inl hj⟩
 tree j e2 k2 l2 f2 hj:=by
  by_cases e0:j=id
  ·subst e0;rw[hid]at hj;cases hj;rw[A2];exact .inl ⟨l,f1,rfl,λp n hn=>⟨hn,λ_=>A0 _ _ (hgc _ _ _ _ _ hid p n hn)⟩⟩
  ·rw[A0 _ _ e0];exact .inl ⟨l2,f2,hj,λp n hn=>⟨hn,λ_=>A0 _ _ (hgc _ _ _ _ _ hj p n hn)⟩⟩
 ice j e t x hj:=by rw[A0 _ _ (λe0=>by subst e0;rw[hid]at hj;cases hj)];exact .inl hj
 lrec j i s hj:=by rw[A0 _ _ (λe0=>by subst e0;rw[hid]at hj;cases hj)];exact .inl ⟨s,hj⟩
 maps j hj:=by rw[A0 _ _ (λe0=>by subst e0;rw[hid]at hj;cases hj)];exact .inl hj
 iter j _ _ _ _ x c hj:=by rw[A0 _ _ (λe0=>by subst e0;rw[hid]at hj;cases hj)];exact .inl ⟨x,c,hj⟩
 size:=by omega
 loops b' r hr:=⟨r,(hb b' (λe0=>by subst e0;rw[hb0]at hr;cases hr)).trans hr⟩
 defs b' hr:=(hb b' (λe0=>by subst e0;rw[hb0]at hr;cases hr)).trans hr
 still b' hf:=by
  obtain⟨h1,h3⟩:=hf;refine⟨⟨by omega,λj c' hj hkj=>?_⟩,hb b' λe0=>h3 z cap hzl (by rw[e0];exact hz)⟩;by_cases e0:j=q
  ·subst e0;rw[A2]at hkj;cases hkj
  ·rw[A0 _ _ e0]at hkj;by_cases e1:j=id
   ·subst e1;exact h3 j c' (by rw[hid];rfl) hkj
   ·rw[A0 _ _ e1]at hj;exact h3 j c' hj hkj
theorem v9h:∀(k:OT) {pl:List Nat->Option (Nat×(Nat×Nat))} {o:List (List Nat×Nat)} {get:Nat->Option Value} {y:(OT.opt k).den} {ob:AObj},V5 g (.opt k)=some s->(OT.opt k).outK y some=some ob->RepO L κ h w (.opt k) pl o get y->∃v,get 0=some v:=by
 intro k
 induction k with
 | arr e t=>intro pl o get y ob hs ho hr;cases y with
  | none=>cases ho
  | some y=>obtain⟨v,h1,_⟩:=hr;exact⟨v,h1⟩
 | map a b c d=>intro pl o get y ob hs ho hr;cases y with
  | none=>cases ho
  | some y=>obtain⟨v,h1,_⟩:=hr;exact⟨v,h1⟩
 | opt k ih=>intro pl o get y ob hs ho hr;cases y with
  | none=>cases ho
  | some y=>exact ih hs ho hr
 | _=>intro pl o get y ob hs;cases hs
theorem q3g {id:Nat} (hid:h id≠.kid) (ok:HeapOK L w0 κ h w):∀{p q:List Nat},gh id p=gh id q->p=q
 | [],[],_=>rfl
 | [],_::_,e=>absurd e.symm (J0 ok hid id _)
 | _::_,[],e=>absurd e (J0 ok hid id _)
 | _::_,_::_,e=>q17 (J6 e).2
theorem q8n (ok:HeapOK L w0 κ h w) {id:Nat} (hid:h id=.tree e k l f):∀p,(h (gh id p)).live=true
 | []=>by show(h id).live=true;rw[hid];rfl
 | _::_=>q1d ok id _
theorem k4l (ok:HeapOK L w0 κ h w) {id:Nat} (hid:h id=.tree e k l f) (hc:N9 (.arrs e k) p i=some c) {ob:AObj} (hsub:(OT.arrs e k).sub l c=some ⟨u,y⟩) (hob:u.outK y some=some ob) (hl:V5 g u=some s) (hno:inL k l c=none) (ho:f=[]\/∃g',f=[(c,g')]) (hv:RepSV L κ h w s v) (hone:v.oneCell'=true) (hgh:(h g).Held) (hgn:g≠id) :
  ∃b cap cur ty,κ (gh id p)=some (b,cap)/\w.heap[b]? = some (.cells cur ty (0,0))/\cap.2+i<cur.size /\
   HeapOK L w0 (upd κ (gh id c) none) (upd h id (.tree e k l [(c,g)])) (w.setRow b (splice cur.toList (cap.2+i) [v]).toArray) /\
   Ext L κ h w (upd κ (gh id c) none) (upd h id (.tree e k l [(c,g)])) (w.setRow b (splice cur.toList (cap.2+i) [v]).toArray):=by
 have hob0:=ok.obj id;rw[hid]at hob0;obtain⟨b,cap,get',q1,q2,⟨cur,ty,q3⟩,q4⟩:=j5w hob0 hc hsub;have hcne:c≠[]:=λe0=>q4k _ _ _ (e0▸hc);obtain⟨i0,p0,rfl⟩:∃i0 p0,c=i0::p0:=by
  cases c with
  | nil=>exact absurd rfl hcne
  | cons a b=>exact⟨_,_,rfl⟩
 have hlive:(h (gh id p)).live=true:=by
  cases p with
  | nil=>show(h id).live=true;rw[hid];rfl
  | cons a p=>exact q1d ok id _
 have hlt:cap.2+i<cur.size:=by
  have:∃v,get' 0=some v:=by
   cases u with
   | arr _ _=>obtain⟨v,h1,_⟩:=q4;exact⟨v,h1⟩
   | map _ _ _ _=>obtain⟨v,h1,_⟩:=q4;exact⟨v,h1⟩
   | opt k=>exact v9h k hl hob q4
   | _=>cases hl
  obtain⟨v0,hv0⟩:=this;rw[q2]at hv0;simp only[World.cell?,q3]at hv0;exact(au.1 (by simpa using hv0)).1
 have hle:cap.2+i+[v].length<=cur.toList.length:=by simp;omega
 refine⟨b,cap,cur,ty,q1,q3,hlt,?_⟩;have hsize:(w.setRow b (splice cur.toList (cap.2+i) [v]).toArray).heap.size=w.heap.size:=by simp
 have hoth:∀b',b'≠b->(w.setRow b (splice cur.toList (cap.2+i) [v]).toArray).heap[b']? = w.heap[b']?:=λb' hne=>setRow_other w b b' _ hne;have hgc:∀j e2 k2 l2 f2,h j=.tree e2 k2 l2 f2->∀q n,inL k2 l2 q=some n->gh j q≠gh id (i0::p0):=by
  intro j e2 k2 l2 f2 hj q n hn;cases q with
  | nil=>exactλe0=>J0 ok (id:=j) (by rw[hj];simp) id _ e0.symm
  | cons a q =>
   intro e0;obtain⟨e1,e2⟩:=J6 e0;subst e1;rw[hid]at hj;cases hj;rw[q17 e2,hno]at hn;cases hn
 have hx:=v4k (L:=L) (f1:=[(i0::p0,g)]) hid (N4 ok id (enc (i0::p0))) hlive q1 hgc q3 hsize hoth;have hcur:∀q:Nat,(splice cur.toList (cap.2+i) [v]).toArray[q]? = if q=cap.2+i then some v else cur[q]?:=by
  intro q;rw[cx,q5h _ _ _ hle];by_cases e1:q=cap.2+i
  ·subst e1;simp
  ·rw[if_neg e1];by_cases e2:q<cap.2+i
   ·rw[if_pos e2];simp
   ·rw[if_neg e2,if_neg (by simp;omega)];simp
 have hown:=ok.own _ b cap hlive q1;refine⟨⟨λj=>?_,λj1 j2 b' c1 c2 hj1 hj2 hk1 hk2=>?_,λj b' c' hj hk=>?_,q0y _ ok.below hown.1,λb' hL=>⟨by rw[hsize];exact(ok.outer b' hL).1,λj c' hj hk=>?_⟩,λj hj=>?_⟩,hx⟩
 ·by_cases e0:j=id
  ·subst e0;rw[A2];rcases hob0 with⟨_,h2,_⟩ | ⟨b1,cap1,cur1,r1,r2,r3,r4,r5,r6,r7⟩
   ·subst h2;cases hsub
   have hR:RepO L κ h w (.arrs e k) (λr=>κ (gh j r)) f (E6 (.slice (some ⟨b1,cap1.2,none⟩) l.length cap1.1)) l:=⟨_,b1,cap1,cur1,rfl,r1,rfl,r2,r3,r4,r5,r6,r7⟩;have hW:=z2p (κ1:=upd κ (gh j (i0::p0)) none) (h1:=upd h j (.tree e k l [(i0::p0,g)])) (w1:=w.setRow b (splice cur.toList (cap.2+i) [v]).toArray) hx.free (RepSV.ext hx _ _ hv) hone (hx.keeps hgh) (b:=b) (off:=cap.2+i)
    (λcur2 ty2 h2 _=>by
     rw[q3]at h2;cases h2;refine⟨_,setRow_heap w b _ _ ty (0,0) q3,by simp only[dm];rw[splice_length _ _ _ hle];simp,λc hc=>?_,hcur⟩;obtain⟨q,hq⟩:=bf hc;have:=hcur q;rw[cx]at this;rw[this]at hq;split at hq
     ·cases hq;exact .inr rfl
     ·exact .inl (bk (by rw[aE];exact hq)))
    (.arrs e k) (pl':=λr=>upd κ (gh j (i0::p0)) none (gh j r)) hR hc hsub hl hob ho q1 rfl
    (λr b' c' _ hr hk=>hoth b' λe1=>hr (q3g (by rw[hid];simp) ok (ok.inj _ _ b c' cap (q8n ok hid r) hlive (e1▸hk) q1)))
    (λr hr=>A0 _ _ λe1=>hr (q3g (by rw[hid];simp) ok e1))
   obtain⟨v1,b2,cap2,cur2,_,s1,_,s2,s3,s4,s5,s6,s7⟩:=hW;exact .inr ⟨b2,cap2,cur2,s1,s2,s3,s4,s5,s6,s7⟩
  ·rw[A0 _ _ e0];by_cases hk0:h j=.kid
   ·rw[hk0];trivial
   have hjq:j≠gh id (i0::p0):=λe1=>hk0 (by rw[e1];exact N4 ok id _);have hjp:j≠gh id p:=λe1=>by
    cases p with
    | nil=>exact e0 e1
    | cons a p=>exact hk0 (by rw[e1];exact N4 ok id _)
   by_cases hd:h j=.dead\/h j=.fresh
   ·rcases hd with hd | hd<;>rw[hd]<;>trivial
   refine RepObj.ext hx (A0 _ _ hjq) (λb' c' hk'=>hoth b' λe1=>?_) (λn=>A0 _ _ λe1=>e0 (J6 e1).1) (λn b' c' hk'=>hoth b' λe1=>?_) (ok.obj j)
   ·subst e1;by_cases hlj:(h j).live=true
    ·exact hjp (ok.inj _ _ b' c' cap hlj hlive hk' q1)
    ·cases hj':h j with
     | ice e t l =>
      have:=ok.obj j;rw[hj']at this;exact(this.2 b' c' hk').2.2 _ cap hlive q1
     | mice ak av tk tv l =>
      have:=ok.obj j;rw[hj']at this;obtain⟨b2,c2,es,cl,h1,h2,-⟩:=this;rw[hk']at h1;cases h1;exact h2.2.2 _ cap hlive q1
     | dead=>exact hd (.inl hj')
     | fresh=>exact hd (.inr hj')
     | _=>rw[hj']at hlj;exact hlj rfl
   ·subst e1;have:=ok.inj _ _ b' c' cap (q1d ok j n) hlive hk' q1;cases p with
    | nil=>exact J0 ok (id:=id) (by rw[hid];simp) j n this
    | cons a p=>exact e0 (J6 this).1
 ·have lv:∀j,(upd h id (.tree e k l [(i0::p0,g)]) j).live=true->(h j).live=true:=λj hj=>by
   by_cases e1:j=id
   ·subst e1;rw[hid];rfl
   ·rw[A0 _ _ e1]at hj;exact hj
  have kk:∀j x,upd κ (gh id (i0::p0)) none j=some x->κ j=some x:=λj x hj=>by
   by_cases e1:j=gh id (i0::p0)
   ·subst e1;rw[A2]at hj;cases hj
   ·rw[A0 _ _ e1]at hj;exact hj
  exact ok.inj j1 j2 b' c1 c2 (lv _ hj1) (lv _ hj2) (kk _ _ hk1) (kk _ _ hk2)
 ·have lv:(h j).live=true:=by
   by_cases e1:j=id
   ·subst e1;rw[hid];rfl
   ·rw[A0 _ _ e1]at hj;exact hj
  have kk:κ j=some (b',c'):=by
   by_cases e1:j=gh id (i0::p0)
   ·subst e1;rw[A2]at hk;cases hk
   ·rw[A0 _ _ e1]at hk;exact hk
  rw[hsize];exact ok.own j b' c' lv kk
 ·have lv:(h j).live=true:=by
   by_cases e1:j=id
   ·subst e1;rw[hid];rfl
   ·rw[A0 _ _ e1]at hj;exact hj
  have kk:κ j=some (b',c'):=by
   by_cases e1:j=gh id (i0::p0)
   ·subst e1;rw[A2]at hk;cases hk
   ·rw[A0 _ _ e1]at hk;exact hk
  exact(ok.outer b' hL).2 j c' lv kk
 ·rw[A0 _ _ (λe1=>by rw[<-e1,ok.kids j hj]at hid;cases hid)];exact ok.kids j hj
theorem z5g:∀(t:OT) {s:SV} {g:Nat},q6m t s=some g->V5 g t=some s
 | .arr _ _,s,g,h=>by cases s<;>cases h;rfl
 | .map _ _ _ _,s,g,h=>by cases s<;>cases h;rfl
 | .opt k,s,g,h=>z5g k h
 | .arrs _ _,s,g,h=>by cases h
 | .ptr _,s,g,h=>by cases h
 | .nil,s,g,h=>by cases h
 | .cons _ _,s,g,h=>by cases h
theorem z5h {κ:A6} {h:Heap} {w:World}:∀(t:OT) {s:SV} {g:Nat} {v:Value},V5 g t=some s->RepSV L κ h w s v->v.oneCell'=true
 | .arr _ _,s,g,v,hs,hr=>by cases hs;exact hr.2
 | .map _ _ _ _,s,g,v,hs,hr=>by cases hs;obtain⟨_,b,c,_,rfl⟩:=hr;rfl
 | .opt k,s,g,v,hs,hr=>z5h k hs hr
 | .arrs _ _,s,g,v,h,_=>by cases h
 | .ptr _,s,g,v,h,_=>by cases h
 | .nil,s,g,v,h,_=>by cases h
 | .cons _ _,s,g,v,h,_=>by cases h
theorem j5h (ok:HeapOK L w0 κ h w) {id:Nat} (hid:h id=.tree e k l f) (hc:N9 (.arrs e k) p i=some c) {c0:Nat} {cr:List Nat} (hcc:c=c0::cr) {y0:k.den} {ob:AObj} (hy0:l[c0]? = some y0) (hg0:k.getK y0 cr some=some ob) (hat:(OT.arrs e k).at c=some u) (hin:q6m u s=some g) (ho:f=[]\/∃g',f=[(c,g')]) (hv:RepSV L κ h w s v) (hz:K6 (h g)=false) (hs:W2 k l c (h g) some=some l1) :
  ∃b cap cur ty κ',κ (gh id p)=some (b,cap)/\w.heap[b]? = some (.cells cur ty (0,0))/\cap.2+i<cur.size /\
   HeapOK L w0 κ' (upd (upd h g .dead) id (.tree e k l1 [])) (w.setRow b (splice cur.toList (cap.2+i) [v]).toArray) /\
   Ext L κ h w κ' (upd (upd h g .dead) id (.tree e k l1 [])) (w.setRow b (splice cur.toList (cap.2+i) [v]).toArray):=by
 subst hcc;obtain⟨u',y,hu1,hu2,hu3⟩:=q4w k hg0;have hut:u'=u:=by
  have:(OT.arrs e k).at (c0::cr)=some u':=hu2;rw[hat]at this;exact(bI this).symm
 subst hut;have hsub:(OT.arrs e k).sub l (c0::cr)=some ⟨u',y⟩:=ae.2 ⟨y0,hy0,hu1⟩;have hl:=z5g _ hin;obtain⟨i1,p1,ya,yb,hcp,hya,hst,hl1⟩:=z9d hs;cases hcp;have hleaf:=q44 k hst;have hgo:(h g).Held:=by rcases hleaf with⟨_,_,_,e0⟩ | ⟨_,_,_,_,_,e0⟩ | e0<;>first | (rw[e0];simp;done) | (rw[hz]at e0;cases e0)
 have hgn:g≠id:=λe0=>by
  rw[e0,hid]at hleaf;rcases hleaf with⟨_,_,_,e0⟩ | ⟨_,_,_,_,_,e0⟩ | e0<;>cases e0
 have hno:inL k l (c0::cr)=none:=by
  show(l[c0]?).bind _=none;rw[hy0];exact q4v k hg0
 obtain⟨b,cap,cur,ty,q1,q2,q3,q4,q5⟩:=k4l ok hid hc hsub hu3 hl hno ho hv (z5h _ hl hv) hgo hgn;have hg1:upd h id (.tree e k l [(c0::cr,g)]) g=h g:=A0 _ _ hgn;have hcl:L4 (upd h id (.tree e k l [(c0::cr,g)])) k l [(c0::cr,g)] (λl1 u=>some (l1,u))=some (l1,[(g,.dead)]):=by
  simp only[L4,hg1];rw[q4c,hs,hz];rfl
 obtain⟨l1',u',hlu,hin,h4,κ1,h1,hf1⟩:=q62 q4 (A2 _ _ _) hcl;cases hlu;have hheap:upd (A3 [(g,.dead)] (upd h id (.tree e k l [(c0::cr,g)]))) id (.tree e k l1 [])=upd (upd h g .dead) id (.tree e k l1 []):=by
  show upd (upd (upd h id _) g .dead) id _=_;rw[y8j h hgn.symm,z2o]
 rw[hheap]at h1;exact⟨b,cap,cur,ty,κ1,q1,q2,q3,h1.1,q5.trans h1.2⟩
theorem j5g {i:TypeInfo} (hi:P.info? T=some i) (hone:v.oneCell'=true) (hsz:i.size=1) {o:Nat} {cur:Array Value} {ty:TypeId} (hh:w.heap[b]? = some (.cells cur ty (0,0))) (hle:o<cur.size) :
  (storeVar T ⟨b,o,none⟩ v).run P w=.ok () (w.setRow b (splice cur.toList o [v]).toArray) :=
 j4j (P:=P) hi (by rw[j7u hone]) (by simp[hsz]) hh (by simp;omega) (λc hc=>by simp only[ck]at hc;subst hc;exact hone)
theorem k31 {y:Operand} (hti:ti.OK P T) (ho:o.op=.store T x y) {ρ:Env} {id:Nat} {p:List Nat} (hx:ev ρ x=.one (.tp id p i)) {K:Eff->Option R} (he:j1t ti h id p i (ev ρ y) K=some z):∃q,K q=some z/\q.full=none/\∀ρs hs,ev ρs x=ev ρ x->ev ρs y=ev ρ y->(∀j∈q.rd,hs j=h j)->(∀p∈q.ups,hs p.1=h p.1)->A9 P L w0 o ρs hs (q.heap hs) q.av:=by
 have hdef:∀c,o.op≠.defer c:=λc hc=>by rw[ho]at hc;cases hc
 obtain⟨⟨ii,_,hi,hisz,-⟩,-⟩:=hti.base;unfold j1t at he;split at he
 ·rename_i e k l f s hid hy;obtain⟨hc1,he⟩:=B1 he;have hc1:=ab hc1;obtain⟨c,hc,he⟩:=ae.1 he;obtain⟨c0,cr,y0,ob,hcc,hy0,hg0,he⟩:=q7t he;obtain⟨g0,hg,he⟩:=ae.1 he;obtain⟨t,hat,hin⟩:=ae.1 hg;have hfz:K6 (h g0)=false:=by
   cases hz:K6 (h g0)with
   | true=>rw[hz]at he;cases he
   | false=>rfl
  rw[hfz,cond_false]at he;have simple:∀rd,id∈rd->(f=[]\/∃g',f=[(c,g')])->(W2 k l c (h g0) λl1=>K { av:=.one .unk,rd:=rd,ups:=[(g0,.dead),(id,.tree e k l1 [])],full:=none })=some z ->
    ∃q,K q=some z/\q.full=none/\∀ρs hs,ev ρs x=ev ρ x->ev ρs y=ev ρ y->(∀j∈q.rd,hs j=h j)->(∀p∈q.ups,hs p.1=h p.1)->A9 P L w0 o ρs hs (q.heap hs) q.av:=by
   intro rd hrd0 hf hk;rw[q4c]at hk;obtain⟨l1,hl1,hk⟩:=ae.1 hk;refine⟨_,hk,rfl,λρs hs hρx hρy hrd hup=>q55 hdef λκ a w hev ok=>?_⟩;have hids:hs id=.tree e k l f:=(hrd id hrd0).trans hid;have hgs:hs g0=h g0:=hup (g0,.dead) (by simp);have hxv:=hev x;rw[hρx,hx]at hxv;obtain⟨_,b,cap,_,q1,_,q2⟩:=q1q (L:=L) (w:=w) hxv hids;have hyv:=hev y;rw[hρy,hy]at hyv;obtain⟨b',cap',cur,ty,κ',s1,s2,s3,s4,s5⟩:=j5h ok hids hc hcc hy0 hg0 hat hin hf hyv (by rw[hgs];exact hfz) (by rw[hgs];exact hl1);rw[q1]at s1;cases s1;refine⟨κ',_,q8j ho q2 w _ ?_,s4,s5⟩;exact j5g hi (z5h _ (z5g _ hin) hyv) (by rw[hisz,hc1]) s2 s3
  cases hov:j3y h g0 f with
  | true =>
   rw[hov,cond_true]at he;obtain⟨hpe,he⟩:=B1 he;refine simple _ (by simp) ?_ he
   match f,hov,hpe with
   | [],_,_=>exact .inl rfl
   | [(q,g)],_,hpe=>exact .inr ⟨g,by rw[show q=c from q9u (aG.1 hpe (q,g) (by simp))]⟩
  | false =>
   rw[hov,cond_false]at he;rw[q10]at he;obtain⟨⟨l1,u⟩,hcl,he⟩:=ae.1 he;obtain⟨hun,he⟩:=B1 he;obtain⟨c0',cr',y0',ob',hcc',hy0',hg0',he⟩:=q7t he;rw[q4c]at he;obtain⟨l2,hl2,he⟩:=ae.1 he;refine⟨_,he,rfl,λρs hs hρx hρy hrd hup=>q55 hdef λκ a w hev ok=>?_⟩;have hids:hs id=.tree e k l f:=(hrd id (by simp)).trans hid;have hgs:hs g0=h g0:=hup (g0,.dead) (by simp);obtain⟨l1',u',hlu,hin',h4,κ1,h1,hf1⟩:=q62 ok hids (q61 hcl (λp hp=>hup p (by simp[hp])));cases hlu;have hgo:g0≠id:=λe0=>by
    obtain⟨_,_,_,_,_,_,hst,_⟩:=z9d hl2;have hleaf:=q44 k hst;rw[e0,hid]at hleaf;rcases hleaf with⟨_,_,_,e0⟩ | ⟨_,_,_,_,_,e0⟩ | e0<;>cases e0
   have hg1:upd (A3 u hs) id (.tree e k l1 []) g0=h g0:=by
    rw[A0 _ _ hgo,q4h u hs λp hp e0=>?_,hgs];have:=aG.1 hun p hp;rw[e0,cT]at this;cases this
   have hxv:=hev x;rw[hρx,hx]at hxv;obtain⟨_,b,cap,_,q1,_,q2⟩:=q1q (L:=L) (w:=w) (RepSV.ext h1.2 _ _ hxv) (A2 _ _ _);have hyv:=hev y;rw[hρy,hy]at hyv;have hyv':=RepSV.ext h1.2 _ _ hyv;obtain⟨b',cap',cur,ty,κ',s1,s2,s3,s4,s5⟩:=j5h h1.1 (A2 _ _ _) hc hcc' hy0' hg0' hat hin (.inl rfl) hyv' (by rw[hg1];exact hfz) (by rw[hg1];exact hl2);rw[q1]at s1;cases s1;have hheap:Eff.heap { av:=.one .unk,rd:=[id],ups:=u++[(id,.tree e k l1 []),(g0,.dead),(id,.tree e k l2 [])],full:=none } hs=upd (upd (upd (A3 u hs) id (.tree e k l1 [])) g0 .dead) id (.tree e k l2 []):=by
    show A3 (u++_) hs=_;rw[M4];rfl
   rw[hheap];refine⟨κ',_,q8j ho q2 w _ ?_,s4,h1.2.trans s5⟩;exact j5g hi (z5h _ (z5g _ hin) hyv) (by rw[hisz,hc1]) s2 s3
 ·cases he
end Go.Abs
