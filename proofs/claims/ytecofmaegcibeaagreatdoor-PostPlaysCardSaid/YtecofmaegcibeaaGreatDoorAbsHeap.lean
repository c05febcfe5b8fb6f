/- The engine, part 3: what happens to the representation when memory is made, written or let go. -/
import Derived.Test.YtecofmaegcibeaaGreatDoorAbsEval
namespace Go.Abs
open Go Go.RowKit
variable {P:Program} {L:Nat->Prop} {w0:World}
def Fr (r:Option Nat):Fence:={ fn:=λ_=>True,depth:=none,alive:=false,round:=r }
variable {κ:A6} {κ':A6} {h:Heap} {h':Heap} {w:World} {w':World} {t:Ty}
theorem RepArrP.ext (x:Ext L κ h w κ' h' w') {q:Option (Nat×(Nat×Nat))} {e:TypeId} {l:List t.den} (hb:∀b c,q=some (b,c)->w'.heap[b]? = w.heap[b]?) (hr:RepArrP L κ h w q e t l):RepArrP L κ' h' w' q e t l:=by
 rcases hr with⟨a,b⟩ | ⟨b,cap,cur,h1,h2,h3,h4,h5,h6,h7⟩
 ·exact .inl ⟨a,b⟩
 ·exact .inr ⟨b,cap,cur,h1,(hb b cap h1).trans h2,h3,h4,h5,h6,λi y hy=>RepAt.ext x (h7 i y hy)⟩
theorem RepArr.ext (x:Ext L κ h w κ' h' w') {id:Nat} {e:TypeId} {l:List t.den} (hk:κ' id=κ id) (hb:∀b c,κ id=some (b,c)->w'.heap[b]? = w.heap[b]?) (hr:RepArr L κ h w id e t l):RepArr L κ' h' w' id e t l:=by
 unfold RepArr at hr ⊢;rw[hk];exact hr.ext x hb
theorem RepO.ext {κ κ':A6} {h h':Heap} {w w':World} (x:Ext L κ h w κ' h' w'):∀(t:OT) {pl:List Nat->Option (Nat×(Nat×Nat))} (_:∀q b c,pl q=some (b,c)->w'.heap[b]? = w.heap[b]?) {o:List (List Nat×Nat)} {get:Nat->Option Value} {y:t.den},
  RepO L κ h w t pl o get y->RepO L κ' h' w' t pl o get y
 | .arr e t,pl,hb,o,get,y,⟨v,h1,h2⟩=>by
  refine⟨v,h1,?_⟩;cases ho:O3 o with
  | some g=>simp only[ho]at h2 ⊢;exact⟨RepSV.ext x _ _ h2.1,x.keeps h2.2⟩
  | none=>simp only[ho]at h2 ⊢;exact⟨h2.1,h2.2.ext x (hb [])⟩
 | .map ak av k u,pl,hb,o,get,y,⟨v,h1,h2⟩=>by
  refine⟨v,h1,?_⟩;cases ho:O3 o with
  | some g=>simp only[ho]at h2 ⊢;exact RepSV.ext x _ _ h2
  | none =>
   simp only[ho]at h2 ⊢;obtain⟨b,c,es,cl,a1,a2,a3,a4⟩:=h2;exact⟨b,c,es,cl,a1,a2,(hb [] b c a1).trans a3,a4.mono x.free⟩
 | .opt k,pl,hb,o,get,y,hr=>by
  cases y with
  | none=>exact hr
  | some y=>exact RepO.ext x k hb (show RepO L κ h w k pl o get y from hr)
 | .arrs e k,pl,hb,o,get,y,⟨v,b,cap,cur,h1,h2,h3,h4,h5,h6,h7,h8,h9⟩ =>
  ⟨v,b,cap,cur,h1,h2,h3,(hb [] b cap h2).trans h4,h5,h6,h7,h8,λi z hz=>RepO.ext x k (λq=>hb (i::q)) (h9 i z hz)⟩
 | .ptr c,pl,hb,o,get,y,⟨v,b,cap,cs,ty,h1,h2,h3,h4,h5,h6,h7,h8⟩ =>
  ⟨v,b,cap,cs,ty,h1,h2,h3,h4,(hb [] b cap h2).trans h5,h6,h7,RepO.ext x c hb h8⟩
 | .nil,_,_,_,_,_,_=>trivial
 | .cons a b,pl,hb,o,get,y,⟨h1,h2⟩=>⟨RepO.ext x a (λq=>hb (0::q)) h1,RepO.ext x b (λq=>hb (1::q)) h2⟩
theorem RepObj.ext (x:Ext L κ h w κ' h' w') {id:Nat} (hk:κ' id=κ id) (hb:∀b c,κ id=some (b,c)->w'.heap[b]? = w.heap[b]?) (hkk:∀n,κ' (kn id n)=κ (kn id n)) (hkb:∀n b c,κ (kn id n)=some (b,c)->w'.heap[b]? = w.heap[b]?):∀{o:AObj},RepObj L κ h w id o->RepObj L κ' h' w' id o
 | .fresh,_=>trivial
 | .dead,_=>trivial
 | .kid,_=>trivial
 | .cells _,⟨b,c,cs,ty,h1,h2,h3⟩=>⟨b,c,cs,ty,hk.trans h1,(hb b c h1).trans h2,h3.ext x⟩
 | .arr _ _ _,hr=>RepArr.ext x hk hb hr
 | .ice _ _ _,⟨hr,hf⟩=>⟨RepArr.ext x hk hb hr,λb c hh=>(x.free b (hf b c (hk▸hh))).1⟩
 | .lrec _ _,⟨b,c,r,h1,h2,h3,h4,h5,h6,h7,h8,h9⟩=>⟨b,c,r,hk.trans h1,(hb b c h1).trans h2,h3,h4,h5,h6,h7,h8,λt=>(h9 t).ext x⟩
 | .mapo ..,⟨b,c,es,cl,h1,h2,h3⟩=>⟨b,c,es,cl,hk.trans h1,(hb b c h1).trans h2,h3.mono x.free⟩
 | .mapp _ _ _ _ _ _ g,⟨b,c,es,cl,h1,h2,h3,h4,n,c',h5,y,h6,h7,h8⟩=>⟨b,c,es,cl,hk.trans h1,(hb b c h1).trans h2,h3.mono x.free,x.keeps h4,n,c',(x.place g h4).trans h5,y,h6,h7,h8.mono x.free⟩
 | .mice ..,⟨b,c,es,cl,h1,h2,h3,h4⟩=>⟨b,c,es,cl,hk.trans h1,(x.free b h2).1,(hb b c h1).trans h3,h4.mono x.free⟩
 | .iter ..,⟨b,c,m,si,se,c0,h1,h2,h3⟩=>⟨b,c,m,si,se,c0,hk.trans h1,(hb b c h1).trans h2,h3.mono x.free⟩
 | .tree e k l f,hr=>by
  rcases hr with⟨h1,h2,h3⟩ | ⟨b,cap,cur,h1,h2,h3,h4,h5,h6,h7⟩
  ·exact .inl ⟨hk.trans h1,h2,h3⟩
  ·refine .inr ⟨b,cap,cur,hk.trans h1,(hb b cap h1).trans h2,h3,h4,h5,h6,λi y hy=>?_⟩;have:=RepO.ext x k (pl:=λp=>κ (gh id (i::p))) (λq b c hq=>hkb _ b c hq) (h7 i y hy);have e0:(λp=>κ' (gh id (i::p)))=λp=>κ (gh id (i::p)):=funext λp=>hkk _;rw[e0];exact this
theorem N4 (a:HeapOK L w0 κ h w) (id n:Nat):h (kn id n)=.kid:=a.kids _ (y0y id n)
theorem q1d (a:HeapOK L w0 κ h w) (id n:Nat):(h (kn id n)).live=true:=by rw[N4 a];rfl
theorem J0 (a:HeapOK L w0 κ h w) {id:Nat} (hh:h id≠.kid) (p n:Nat):kn p n≠id:=λe=>hh (by grind[N4])
variable {b:Nat} {c:Nat×Nat}
theorem j2x (a:HeapOK L w0 κ h w) {id n:Nat} (d:κ (kn id n)=some (b,c)):b<w.heap.size:=(a.own _ b c (q1d a id n) d).2
theorem R8 {id:Nat} (a:h id=.fresh):h id≠.kid:=λe=>by grind
theorem X3 (w:World) (o:Obj) (a:b≠w.heap.size):(w.alloc o).heap[b]? = w.heap[b]?:=by
 show(w.heap.push o)[b]? = _;grind
theorem X0 (o:Obj) {id:Nat} (obj:AObj) (c:Nat×Nat) (hf:h id=.fresh) :
  Ext L κ h w (upd κ id (some (w.heap.size,c))) (upd h id obj) (w.alloc o) where
 place j hj:=A0 _ _ (λe=>hj.1 (e▸hf))
 kid j hd:=by rw[A0 _ _ (λe=>by rw[e,hf]at hd;cases hd)];exact hd
 dead j hd:=by rw[A0 _ _ (λe=>by rw[e,hf]at hd;cases hd)];exact hd
 cells j l hl:=by rw[A0 _ _ (λe=>by rw[e,hf]at hl;cases hl)];exact .inl ⟨l,hl⟩
 arr j e t l hl:=by rw[A0 _ _ (λe=>by rw[e,hf]at hl;cases hl)];exact .inl ⟨l,rfl,.inl hl⟩
 tree j e k l f hl:=by rw[A0 _ _ (λe=>by rw[e,hf]at hl;cases hl)];exact .inl ⟨l,f,hl,λp n h=>⟨h,λhk=>A0 _ _ (λe=>by rw[e,hf]at hk;cases hk)⟩⟩
 ice j e t l hl:=by rw[A0 _ _ (λe=>by rw[e,hf]at hl;cases hl)];exact .inl hl
 lrec j i s hl:=by rw[A0 _ _ (λe=>by rw[e,hf]at hl;cases hl)];exact .inl ⟨s,hl⟩
 maps j hl:=by rw[A0 _ _ (λe=>by rw[e,hf]at hl;cases hl)];exact .inl hl
 iter j _ _ _ _ l c hl:=by rw[A0 _ _ (λe=>by rw[e,hf]at hl;cases hl)];exact .inl ⟨l,c,hl⟩
 size:=by simp
 loops b r hr:=⟨r,(X3 w o (by have:=(au.1 hr).1;omega)).trans hr⟩
 defs b hr:=(X3 w o (by have:=(au.1 hr).1;omega)).trans hr
 still b hb:=by
  obtain⟨h1,h3⟩:=hb;refine⟨⟨by simp;omega,λj c' hj hk=>?_⟩,X3 w o (by omega)⟩;by_cases hji:j=id
  ·subst hji;rw[A2]at hk;simp at hk;omega
  ·rw[A0 _ _ hji]at hj hk;exact h3 j c' hj hk
theorem q1c (f:HeapOK L w0 κ h w) (o:Obj) {id:Nat} (obj:AObj) (c:Nat×Nat) (C:h id=.fresh) (E:RepObj L (upd κ id (some (w.heap.size,c))) (upd h id obj) (w.alloc o) id obj) :
  HeapOK L w0 (upd κ id (some (w.heap.size,c))) (upd h id obj) (w.alloc o) where
 obj j:=by
  by_cases u:j=id
  ·grind[A2]
  ·rw[A0 h obj u];cases q:h j with
   | fresh=>trivial
   | _ =>
    have A:∀b p,κ j=some (b,p)->b≠w.heap.size\/(h j=.dead):=λb p s=>by
     by_cases y:(h j).live=true
     ·exact .inl (by have:=(f.own j b p y s).2;omega)
     ·cases g:h j with
      | dead=>grind
      | ice e t l=>have:=f.obj j;rw[g]at this;exact .inl (by have:=(this.2 b p s).1;omega)
      | mice I H K J l=>have:=f.obj j;rw[g]at this;obtain⟨M,x,F,G,d,r,-⟩:=this;rw[s]at d;cases d;exact .inl (by have:=r.1;omega)
      | fresh=>grind
      | _=>rw[g]at y;exact absurd rfl y
    rw[<-q];by_cases D:h j=.dead
    ·rw[D];trivial
    ·exact RepObj.ext (X0 o obj c C) (A0 _ _ u) (λb p s=>X3 w o ((A b p s).resolve_right D)) (λn=>A0 _ _ (J0 f (R8 C) j n)) (λn b p s=>X3 w o (by have:=j2x f s;omega)) (f.obj j)
 inj i j b v x m q d r:=by
  by_cases a:i=id<;>by_cases g:j=id
  ·omega
  ·subst a;rw[A2]at d;rw[A0 _ _ g]at r q;simp at d;have:=(f.own j b x q r).2;omega
  ·subst g;rw[A2]at r;rw[A0 _ _ a]at d m;simp at r;have:=(f.own i b v m d).2;omega
  ·rw[A0 _ _ a]at d m;rw[A0 _ _ g]at r q;exact f.inj i j b v x m q d r
 own i b v m d:=by
  by_cases a:i=id
  ·subst a;rw[A2]at d;simp at d;have:=f.below.size;simp_all
  ·rw[A0 _ _ a]at d m;have:=f.own i b v m d;simp;omega
 below:=f.below.alloc f.below.size o
 outer z B:=⟨by have:=(f.outer z B).1;simp;omega,λi p m d=>by
  by_cases a:i=id
  ·subst a;rw[A2]at d;simp at d;have:=(f.outer z B).1;omega
  ·rw[A0 _ _ a]at d m;exact(f.outer z B).2 i p m d⟩
 kids j q:=by rw[A0 _ _ (λe=>by rw[<-e,f.kids j q]at C;grind)];exact f.kids j q
def AObj.like:AObj->AObj->Prop
 | .cells _,.cells _=>True
 | .arr e t l,.arr e' t' l'=>e=e'/\∃h:t=t',l'.length=(h▸l:List t'.den).length
 | .lrec i _,.lrec i' _=>i=i'
 | .mapo ..,.mapo ..=>True
 | .mapo ..,.mapp ..=>True
 | .mapp ..,.mapo ..=>True
 | .mapp ..,.mapp ..=>True
 | .iter ak av tk tv _ _,.iter ak' av' tk' tv' _ _=>ak'=ak/\av'=av/\tk'=tk/\tv'=tv
 | .tree e k l f,.tree e' k' l' f'=>AObj.tree e k l f=.tree e' k' l' f'
 | _,_=>False
variable {o:AObj} {a:AObj}
theorem AObj.like_map (h:o.like a) (b:o.isMap=true):a.isMap=true:=by
 cases o<;>cases a<;>simp[AObj.like,AObj.isMap]at h b ⊢
theorem AObj.like_held (h:o.like a):o.Held/\a.Held:=by
 cases o<;>cases a<;>simp[AObj.like]at h<;>exact⟨by simp,by simp⟩
theorem AObj.like_live (h:o.like a):o.live=true/\a.live=true:=by
 cases o<;>cases a<;>simp[AObj.like]at h<;>exact⟨rfl,rfl⟩
def z2w (w w':World) (b:Nat):Prop:=((∃c t f,w.heap[b]? = some (.cells c t f))\/(∃es cl,w.heap[b]? = some (.map es cl))\/∃m s n c,w.heap[b]? = some (.mapIter m s n c))\/∃r r',w.heap[b]? = some (.loop r)/\w'.heap[b]? = some (.loop r')
variable {obj':AObj}
theorem U9 {id:Nat} (hk:κ id=some (b,c)) (hl:(h id).like obj') (hw:z2w w w' b) (hs:w'.heap.size=w.heap.size) (hb:∀b',b'≠b->w'.heap[b']? = w.heap[b']?):Ext L κ h w κ (upd h id obj') w' where
 place _ _:=rfl
 kid j hd:=by rw[A0 _ _ (λe=>by subst e;rw[hd]at hl;cases obj'<;>exact hl)];exact hd
 tree j e k l f hj:=by
  by_cases hji:j=id
  ·subst hji;rw[hj]at hl;cases obj'<;>first | exact hl.elim | exact .inl ⟨l,f,(A2 _ _ _).trans hl.symm,λp n h=>⟨h,λ_=>rfl⟩⟩
  ·rw[A0 _ _ hji];exact .inl ⟨l,f,hj,λp n h=>⟨h,λ_=>rfl⟩⟩
 dead j hd:=by rw[A0 _ _ (λe=>by subst e;rw[hd]at hl;cases obj'<;>exact hl)];exact hd
 cells j l hj:=by
  by_cases e:j=id
  ·subst e;rw[A2];rw[hj]at hl;cases obj'<;>simp[AObj.like]at hl;exact .inl ⟨_,rfl⟩
  ·rw[A0 _ _ e];exact .inl ⟨l,hj⟩
 arr j e t l hj:=by
  by_cases hji:j=id
  ·subst hji;rw[A2];rw[hj]at hl;cases obj' with
   | arr e' t' l' =>
    obtain⟨h1,h2,h3⟩:=hl;subst h1;subst h2;exact .inl ⟨l',h3,.inl rfl⟩
   | _=>simp[AObj.like]at hl
  ·rw[A0 _ _ hji];exact .inl ⟨l,rfl,.inl hj⟩
 ice j e t l hj:=by rw[A0 _ _ (λe=>by subst e;rw[hj]at hl;cases obj'<;>exact hl)];exact .inl hj
 lrec j i s hj:=by
  by_cases hji:j=id
  ·subst hji;rw[A2];rw[hj]at hl;cases obj'<;>simp[AObj.like]at hl;subst hl;exact .inl ⟨_,rfl⟩
  ·rw[A0 _ _ hji];exact .inl ⟨s,hj⟩
 maps j hj:=by
  by_cases hji:j=id
  ·subst hji;rw[A2];exact .inl (AObj.like_map hl hj)
  ·rw[A0 _ _ hji];exact .inl hj
 iter j _ _ _ _ l c hj:=by
  by_cases hji:j=id
  ·subst hji;rw[A2];rw[hj]at hl;cases obj'<;>simp[AObj.like]at hl;obtain⟨rfl,rfl,rfl,rfl⟩:=hl;exact .inl ⟨_,_,rfl⟩
  ·rw[A0 _ _ hji];exact .inl ⟨l,c,hj⟩
 size:=by omega
 loops b' r hr:=by
  by_cases e:b'=b
  ·subst e;rcases hw with(⟨c,t,f,h1⟩ | ⟨es,cl,h1⟩ | ⟨m,s,n,c,h1⟩) | ⟨r1,r2,h1,h2⟩
   ·rw[hr]at h1;cases h1
   ·rw[hr]at h1;cases h1
   ·rw[hr]at h1;cases h1
   ·exact⟨r2,h2⟩
  ·exact⟨r,(hb b' e).trans hr⟩
 defs b' hr:=by
  by_cases e:b'=b
  ·subst e;rcases hw with(⟨c,t,f,h1⟩ | ⟨es,cl,h1⟩ | ⟨m,s,n,c,h1⟩) | ⟨r1,r2,h1,h2⟩<;>rw[hr]at h1<;>cases h1
  ·exact(hb b' e).trans hr
 still b' hf:=by
  obtain⟨h1,h3⟩:=hf;have hne:b'≠b:=λe=>h3 id c (AObj.like_live hl).1 (by rw[e];exact hk);refine⟨⟨by omega,λj c' hj hkj=>?_⟩,hb b' hne⟩;by_cases hji:j=id
  ·subst hji;exact h3 j c' (AObj.like_live hl).1 hkj
  ·rw[A0 _ _ hji]at hj;exact h3 j c' hj hkj
theorem k52 (ok:HeapOK L w0 κ h w) {id:Nat} (hk:κ id=some (b,c)) (hl:(h id).like obj') (hr:RepObj L κ (upd h id obj') w' id obj'):z2w w w' b:=by
 have ho:=ok.obj id;cases hq:h id with
 | fresh=>rw[hq]at hl;cases obj'<;>exact hl.elim
 | dead=>rw[hq]at hl;cases obj'<;>exact hl.elim
 | ice e t l=>rw[hq]at hl;cases obj'<;>exact hl.elim
 | kid=>rw[hq]at hl;cases obj'<;>exact hl.elim
 | mice ak av tk tv l=>rw[hq]at hl;cases obj'<;>exact hl.elim
 | tree e k l f =>
  rw[hq]at ho;rcases ho with⟨h1,-⟩ | ⟨b',cap,cur,h1,h2,-⟩
  ·rw[hk]at h1;cases h1
  ·rw[hk]at h1;cases h1;exact .inl (.inl ⟨_,_,_,h2⟩)
 | iter ak av tk tv l cu =>
  rw[hq]at ho;obtain⟨b',c',m,s,n,c0,h1,h2,-⟩:=ho;rw[hk]at h1;cases h1;exact .inl (.inr (.inr ⟨_,_,_,_,h2⟩))
 | cells l =>
  rw[hq]at ho;obtain⟨b',c',cs,ty,h1,h2,-⟩:=ho;rw[hk]at h1;cases h1;exact .inl (.inl ⟨_,_,_,h2⟩)
 | mapo ak av tk tv l =>
  rw[hq]at ho;obtain⟨b',c',es,cl,h1,h2,-⟩:=ho;rw[hk]at h1;cases h1;exact .inl (.inr (.inl ⟨_,_,h2⟩))
 | mapp ak av tk tv l k g =>
  rw[hq]at ho;obtain⟨b',c',es,cl,h1,h2,-⟩:=ho;rw[hk]at h1;cases h1;exact .inl (.inr (.inl ⟨_,_,h2⟩))
 | arr e t l =>
  rw[hq]at ho;rcases ho with⟨h1,-⟩ | ⟨b',cap,cur,h1,h2,-⟩
  ·rw[hk]at h1;cases h1
  ·rw[hk]at h1;cases h1;exact .inl (.inl ⟨_,_,_,h2⟩)
 | lrec i s =>
  rw[hq]at ho hl;cases obj' with
  | lrec i' s' =>
   obtain⟨b',c',r,h1,h2,-⟩:=ho;obtain⟨b2,c2,r',h3,h4,-⟩:=hr;rw[hk]at h1 h3;cases h1;cases h3;exact .inr ⟨r,r',h2,h4⟩
  | _=>exact hl.elim
theorem X4 (d:HeapOK L w0 κ h w) {id:Nat} (q:κ id=some (b,c)) (f:(h id).like obj') (hs:w'.heap.size=w.heap.size) (A:∀a,a≠b->w'.heap[a]? = w.heap[a]?) (u:Below w0.heap.size w0 w') (E:RepObj L κ (upd h id obj') w' id obj'):HeapOK L w0 κ (upd h id obj') w' where
 obj j:=by
  by_cases s:j=id
  ·grind[A2]
  ·rw[A0 h obj' s];by_cases y:h j=.dead\/h j=.fresh
   ·rcases y with y | y<;>rw[y]<;>trivial
   ·refine RepObj.ext (U9 q f (k52 d q f E) hs A) rfl (λa r k=>A a λe=>?_) (λ_=>rfl) (λn a r k=>A a λe=>by
     subst e;exact J0 d (AObj.like_held f).1.2 j n (d.inj _ _ a r c (q1d d j n) (AObj.like_live f).1 k q)) (d.obj j)
    subst e;by_cases o:(h j).live=true
    ·exact s (d.inj j id a r c o (AObj.like_live f).1 k q)
    ·cases p:h j with
     | ice e t l =>
      have:=d.obj j;rw[p]at this;exact(this.2 a r k).2.2 id c (AObj.like_live f).1 q
     | mice J H K I l =>
      have:=d.obj j;rw[p]at this;obtain⟨G,C,M,F,m,B,-⟩:=this;rw[k]at m;cases m;exact B.2.2 id c (AObj.like_live f).1 q
     | dead=>grind
     | fresh=>grind
     | _=>rw[p]at o;exact o rfl
 inj i j a z C v x m B:=by
  have live:∀i,(upd h id obj' i).live=true->(h i).live=true:=λi v=>by
   by_cases e:i=id
   ·subst e;exact(AObj.like_live f).1
   grind[A0]
  exact d.inj i j a z C (live i v) (live j x) m B
 own i a z v m:=by
  have live:(h i).live=true:=by
   by_cases e:i=id
   ·subst e;exact(AObj.like_live f).1
   grind[A0]
  rw[hs];exact d.own i a z live m
 below:=u
 outer a D:=⟨by rw[hs];exact(d.outer a D).1,λi r v m=>by
  have live:(h i).live=true:=by
   by_cases e:i=id
   ·subst e;exact(AObj.like_live f).1
   grind[A0]
  exact(d.outer a D).2 i r live m⟩
 kids j x:=by rw[A0 _ _ (λe=>(AObj.like_held f).1.2 (by rw[<-e];exact d.kids j x))];exact d.kids j x
def AObj.gone:AObj->AObj->Prop
 | .arr e t l,.ice e' t' l'=>e=e'/\∃h:t=t',l'=(h▸l:List t'.den)
 | .ice e t l,.ice e' t' l'=>e=e'/\∃h:t=t',l'=(h▸l:List t'.den)
 | o,.dead=>o.Held
 | _,_=>False
theorem y05 (h:o.gone a):o.Held:=by
 cases o<;>cases a<;>simp[AObj.gone]at h ⊢
theorem q0d {id:Nat} (hl:(h id).gone obj'):Ext L κ h w κ (upd h id obj') w where
 place _ _:=rfl
 kid j hj:=by rw[A0 _ _ (λe=>(y05 hl).2 (by rw[<-e];exact hj))];exact hj
 tree j e k l f hj:=by
  by_cases hji:j=id
  ·subst hji;rw[A2];rw[hj]at hl;cases obj'<;>simp[AObj.gone]at hl;exact .inr rfl
  ·rw[A0 _ _ hji];exact .inl ⟨l,f,hj,λp n h=>⟨h,λ_=>rfl⟩⟩
 dead j hd:=by
  by_cases e:j=id
  ·subst e;rw[A2];rw[hd]at hl;cases obj'<;>simp[AObj.gone]at hl;rfl
  ·rw[A0 _ _ e];exact hd
 cells j l hj:=by
  by_cases e:j=id
  ·subst e;rw[A2];rw[hj]at hl;cases obj'<;>simp[AObj.gone]at hl;exact .inr rfl
  ·rw[A0 _ _ e];exact .inl ⟨l,hj⟩
 arr j e t l hj:=by
  by_cases hji:j=id
  ·subst hji;rw[A2];rw[hj]at hl;cases obj' with
   | ice e' t' l' =>
    obtain⟨h1,h2,h3⟩:=hl;subst h1;subst h2;subst h3;exact .inl ⟨_,rfl,.inr rfl⟩
   | dead=>exact .inr rfl
   | _=>simp[AObj.gone]at hl
  ·rw[A0 _ _ hji];exact .inl ⟨l,rfl,.inl hj⟩
 ice j e t l hj:=by
  by_cases hji:j=id
  ·subst hji;rw[A2];rw[hj]at hl;cases obj' with
   | ice e' t' l' =>
    obtain⟨h1,h2,h3⟩:=hl;subst h1;subst h2;subst h3;exact .inl rfl
   | dead=>exact .inr rfl
   | _=>simp[AObj.gone]at hl
  ·rw[A0 _ _ hji];exact .inl hj
 lrec j i s hj:=by
  by_cases hji:j=id
  ·subst hji;rw[A2];rw[hj]at hl;cases obj'<;>simp[AObj.gone]at hl;exact .inr rfl
  ·rw[A0 _ _ hji];exact .inl ⟨s,hj⟩
 maps j hj:=by
  by_cases hji:j=id
  ·subst hji;rw[A2];cases hq:h j<;>rw[hq]at hj hl<;>simp[AObj.isMap]at hj<;>cases obj'<;>simp[AObj.gone]at hl
   all_goals exact .inr rfl
  ·rw[A0 _ _ hji];exact .inl hj
 iter j _ _ _ _ l c hj:=by
  by_cases hji:j=id
  ·subst hji;rw[A2];rw[hj]at hl;cases obj'<;>simp[AObj.gone]at hl;exact .inr rfl
  ·rw[A0 _ _ hji];exact .inl ⟨l,c,hj⟩
 size:=ax _
 loops _ r hr:=⟨r,hr⟩
 defs _ hr:=hr
 still b' hf:=by
  obtain⟨h1,h3⟩:=hf;refine⟨⟨h1,λj c' hj hkj=>?_⟩,rfl⟩;by_cases hji:j=id
  ·subst hji;rw[A2]at hj;cases obj' with
   | ice _ _ _=>simp[AObj.live]at hj
   | dead=>simp[AObj.live]at hj
   | _=>cases hq:h j<;>rw[hq]at hl<;>simp[AObj.gone]at hl
  ·rw[A0 _ _ hji]at hj;exact h3 j c' hj hkj
theorem z4n (h:o.gone a):a.live=false:=by
 cases o<;>cases a<;>simp[AObj.gone]at h<;>rfl
theorem q2b (d:HeapOK L w0 κ h w) {id:Nat} (k:(h id).gone obj'):HeapOK L w0 κ (upd h id obj') w where
 obj j:=by
  by_cases p:j=id
  ·subst p;rw[A2];have B:=q0d (L:=L) (κ:=κ) (w:=w) k;have D:=z4n k;cases obj' with
   | dead=>trivial
   | ice H F G =>
    cases v:h j with
    | arr e t l =>
     have f:=d.obj j;rw[v]at k f;obtain⟨g,q,z⟩:=k;subst g;subst q;subst z;refine⟨RepArr.ext B rfl (λ_ _ _=>rfl) f,λb c u=>?_⟩;have a:(h j).live=true:=by rw[v];rfl
     have E:=d.own j b c a u;refine⟨E.2,λs=>(d.outer b s).2 _ _ a u,λi A m y=>?_⟩;by_cases o:i=j
     ·grind[A2]
     ·rw[A0 _ _ o]at m;exact o (d.inj i j b A c m a y u)
    | ice e t l =>
     have f:=d.obj j;rw[v]at k f;obtain⟨g,q,z⟩:=k;subst g;subst q;subst z;exact RepObj.ext B rfl (λ_ _ _=>rfl) (λ_=>rfl) (λ_ _ _ _=>rfl) f
    | _=>grind[AObj.gone]
   | _=>grind[AObj.gone]
  ·rw[A0 h obj' p];exact RepObj.ext (q0d k) rfl (λ_ _ _=>rfl) (λ_=>rfl) (λ_ _ _ _=>rfl) (d.obj j)
 inj i j n x C m r g q:=by
  have live:∀i,(upd h id obj' i).live=true->(h i).live=true:=λi m=>by
   grind[A2,z4n,A0]
  exact d.inj i j n x C (live i m) (live j r) g q
 own i n x m g:=by
  have live:(h i).live=true:=by
   grind[A2,z4n,A0]
  exact d.own i n x live g
 below:=d.below
 outer n s:=⟨(d.outer n s).1,λi A m g=>by
  have live:(h i).live=true:=by
   grind[A2,z4n,A0]
  exact(d.outer n s).2 i A live g⟩
 kids j r:=by rw[A0 _ _ (λe=>(y05 k).2 (by rw[<-e];exact d.kids j r))];exact d.kids j r
theorem j1y {id:Nat} {ak av:Bool} {tk tv:Ty} {l:List (tk.den×tv.den)} (hid:h id=.mapo ak av tk tv l):Ext L κ h w κ (upd h id (.mice ak av tk tv l)) w where
 place _ _:=rfl
 kid j hd:=by rw[A0 _ _ (λe=>by rw[e,hid]at hd;cases hd)];exact hd
 tree j e k x f hj:=by rw[A0 _ _ (λe=>by rw[e,hid]at hj;cases hj)];exact .inl ⟨x,f,hj,λp n h=>⟨h,λ_=>rfl⟩⟩
 dead j hd:=by rw[A0 _ _ (λe=>by rw[e,hid]at hd;cases hd)];exact hd
 cells j x hj:=by rw[A0 _ _ (λe=>by rw[e,hid]at hj;cases hj)];exact .inl ⟨x,hj⟩
 arr j e t x hj:=by rw[A0 _ _ (λe=>by rw[e,hid]at hj;cases hj)];exact .inl ⟨x,rfl,.inl hj⟩
 ice j e t x hj:=by rw[A0 _ _ (λe=>by rw[e,hid]at hj;cases hj)];exact .inl hj
 lrec j i s hj:=by rw[A0 _ _ (λe=>by rw[e,hid]at hj;cases hj)];exact .inl ⟨s,hj⟩
 maps j hj:=by
  by_cases hji:j=id
  ·subst hji;rw[A2];exact .inl rfl
  ·rw[A0 _ _ hji];exact .inl hj
 iter j _ _ _ _ l c hj:=by rw[A0 _ _ (λe=>by rw[e,hid]at hj;cases hj)];exact .inl ⟨l,c,hj⟩
 size:=ax _
 loops _ r hr:=⟨r,hr⟩
 defs _ hr:=hr
 still b' hf:=by
  obtain⟨h1,h3⟩:=hf;refine⟨⟨h1,λj c' hj hkj=>?_⟩,rfl⟩;by_cases hji:j=id
  ·subst hji;rw[A2]at hj;cases hj
  ·rw[A0 _ _ hji]at hj;exact h3 j c' hj hkj
theorem v5i (f:HeapOK L w0 κ h w) {id:Nat} {y av:Bool} {s:Ty} {l:List (s.den×t.den)} (g:h id=.mapo y av s t l):HeapOK L w0 κ (upd h id (.mice y av s t l)) w where
 obj j:=by
  by_cases p:j=id
  ·subst p;rw[A2];have o:=f.obj j;rw[g]at o;obtain⟨b,c,C,A,k,z,E⟩:=o;have a:(h j).live=true:=by rw[g];rfl
   have D:=f.own j b c a k;have F:=j1y (L:=L) (κ:=κ) (w:=w) g;refine⟨b,c,C,A,k,⟨D.2,λr=>(f.outer b r).2 _ _ a k,λi u d v=>?_⟩,z,E.mono F.free⟩;by_cases m:i=j
   ·subst m;rw[A2]at d;cases d
   ·rw[A0 _ _ m]at d;exact m (f.inj i j b u c d a v k)
  ·rw[A0 h _ p];exact RepObj.ext (j1y g) rfl (λ_ _ _=>rfl) (λ_=>rfl) (λ_ _ _ _=>rfl) (f.obj j)
 inj i j n x B d q k z:=by
  have live:∀i,(upd h id (.mice y av s t l) i).live=true->(h i).live=true:=λi d=>by
   by_cases e:i=id
   ·subst e;rw[A2]at d;cases d
   grind[A0]
  exact f.inj i j n x B (live i d) (live j q) k z
 own i n x d k:=by
  have live:(h i).live=true:=by
   by_cases e:i=id
   ·subst e;rw[A2]at d;cases d
   grind[A0]
  exact f.own i n x live k
 below:=f.below
 outer n r:=⟨(f.outer n r).1,λi u d k=>by
  have live:(h i).live=true:=by
   by_cases e:i=id
   ·subst e;rw[A2]at d;cases d
   grind[A0]
  exact(f.outer n r).2 i u live k⟩
 kids j q:=by rw[A0 _ _ (λe=>by rw[<-e,f.kids j q]at g;grind)];exact f.kids j q
def q07 (o o':AObj):Prop:=(∃e t l,o=.arr e t l/\o'=.ice e t l)\/∃ak av tk tv l,o=.mapo ak av tk tv l/\o'=.mice ak av tk tv l
theorem j2g {κ:A6} {w:World} (h:Heap):∀(ids:List Nat) (h1:Heap),
  (∀id,h1 id=h id\/q07 (h id) (h1 id))->HeapOK L w0 κ h1 w ->
  HeapOK L w0 κ (A3 (B4 h ids) h1) w/\Ext L κ h1 w κ (A3 (B4 h ids) h1) w /\
   (∀id∈ids,∀o,q07 (h id) o->A3 (B4 h ids) h1 id=o) /\
   (∀id,A3 (B4 h ids) h1 id=h1 id\/q07 (h id) (A3 (B4 h ids) h1 id))
 | [],h1,_,K=>⟨K,Ext.refl _ _ _ _,λ_ g=>by grind,λ_=>.inl rfl⟩
 | id::ids,h1,z,K=>by
  have step:∀i,q07 (h id) i->B4 h (id::ids)=(id,i)::B4 h ids->HeapOK L w0 κ (upd h1 id i) w->Ext L κ h1 w κ (upd h1 id i) w->
    HeapOK L w0 κ (A3 (B4 h (id::ids)) h1) w/\Ext L κ h1 w κ (A3 (B4 h (id::ids)) h1) w /\
   (∀j∈id::ids,∀o,q07 (h j) o->A3 (B4 h (id::ids)) h1 j=o) /\
   (∀j,A3 (B4 h (id::ids)) h1 j=h1 j\/q07 (h j) (A3 (B4 h (id::ids)) h1 j)):=by
   intro i k I C s;obtain⟨E,F,M,A⟩:=j2g h ids (upd h1 id i) (λj=>by
    by_cases u:j=id
    ·subst u;rw[A2];exact .inr k
    ·rw[A0 _ _ u];exact z j) C
   have J:A3 (B4 h (id::ids)) h1=A3 (B4 h ids) (upd h1 id i):=by rw[I];rfl
   rw[J];have f:∀B G,q07 (h id) B->q07 (h id) G->B=G:=λB G a b=>by
    rcases a with⟨e,t,l,y,m⟩ | ⟨q,r,n,p,l,y,m⟩<;>rcases b with⟨R,N,D,H,O⟩ | ⟨W,V,T,S,D,H,O⟩<;>rw[y]at H<;>cases H<;>rw[m,O]
   have x:∀o,q07 o o->False:=λo a=>by
    rcases a with⟨e,t,l,y,m⟩ | ⟨q,r,n,p,l,y,m⟩<;>rw[y]at m<;>cases m
   refine⟨E,s.trans F,λj g o d=>?_,λj=>?_⟩
   ·rcases al.1 g with rfl | g
    ·rcases A j with c | c
     ·rw[c,A2];exact f _ _ k d
     ·exact f _ _ c d
    ·exact M j g o d
   ·rcases A j with c | c
    ·by_cases u:j=id
     ·subst u;rw[A2]at c;rw[c];exact .inr k
     ·rw[A0 _ _ u]at c;exact .inl c
    ·exact .inr c
  cases d:h id with
  | arr e t l =>
   have U:q07 (h id) (.ice e t l):=.inl ⟨e,t,l,d,rfl⟩;have X:(h1 id).gone (.ice e t l):=by
    rcases z id with c | c
    ·rw[c,d];exact⟨rfl,rfl,rfl⟩
    ·rcases c with⟨R,N,D,c,v⟩ | ⟨_,_,_,_,_,c,v⟩
     ·rw[d]at c;cases c;rw[v];exact⟨rfl,rfl,rfl⟩
     grind
   grind[B4,q2b,q0d]
  | mapo q r n p l =>
   have U:q07 (h id) (.mice q r n p l):=.inr ⟨q,r,n,p,l,d,rfl⟩;rcases z id with c | c
   ·grind[B4,v5i,j1y]
   ·have v:h1 id=.mice q r n p l:=by
     rcases c with⟨R,N,D,c,v⟩ | ⟨_,_,_,_,_,c,v⟩
     all_goals grind
    have Y:upd h1 id (.mice q r n p l)=h1:=by
     grind[A2,A0]
    grind[B4,Ext.refl]
  | _ =>
   have J:A3 (B4 h (id::ids)) h1=A3 (B4 h ids) h1:=by simp[B4,d]
   rw[J];obtain⟨E,F,M,A⟩:=j2g h ids h1 z K;refine⟨E,F,λj g o Q=>?_,A⟩;rcases al.1 g with rfl | g
   ·rcases Q with⟨_,_,_,c,_⟩ | ⟨_,_,_,_,_,c,_⟩<;>rw[d]at c<;>cases c
   ·exact M j g o Q
def q4f (o:AObj):Prop:=(∃e t l,o=.arr e t l\/o=.ice e t l)\/∃ak av tk tv l,o=.mapo ak av tk tv l\/o=.mice ak av tk tv l
theorem V2 (ids:List Nat) (k:HeapOK L w0 κ h w) :
  HeapOK L w0 κ (A3 (B4 h ids) h) w/\Ext L κ h w κ (A3 (B4 h ids) h) w /\
   ∀id∈ids,q4f (h id)->∀b c,κ id=some (b,c)->A4 L κ (A3 (B4 h ids) h) w b:=by
 obtain⟨j,i,o,z⟩:=j2g h ids h (λ_=>.inl rfl) k;refine⟨j,i,λid m d b c g=>?_⟩;obtain⟨e,t,l,d | d⟩ | ⟨q,r,v,s,l,d | d⟩:=d
 ·have:=j.obj id;rw[o id m _ (.inl ⟨e,t,l,d,rfl⟩)]at this;exact this.2 b c g
 ·have:=k.obj id;rw[d]at this;exact(i.free b (this.2 b c g)).1
 ·have:=j.obj id;rw[o id m _ (.inr ⟨q,r,v,s,l,d,rfl⟩)]at this;obtain⟨p,y,u,x,f,n,-⟩:=this;grind
 ·have:=k.obj id;rw[d]at this;obtain⟨p,y,u,x,f,n,-⟩:=this;rw[g]at f;cases f;exact(i.free b n).1
theorem q6f {h hs:Heap}:∀(ids:List Nat),(∀id∈ids,hs id=h id)->B4 hs ids=B4 h ids
 | [],_=>rfl
 | id::ids,b=>by
  have:=q6f ids (λj d=>b j (aj _ d));have c:=b id ar;unfold B4 at this ⊢;rw[dD,dD,this,c]
end Go.Abs
