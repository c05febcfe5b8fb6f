/- The engine, part 3: what happens to the representation when memory is made, written or let go. -/
import Derived.Test.YtppblbacbmebfaaGreatDoorAbsEval
namespace Go.Abs
open Go Go.RowKit
variable {P:Program} {L:Nat->Prop} {w0:World}
def Fr (r:Option Nat):Fence:={ fn:=fun _=>True,depth:=none,alive:=false,round:=r }
theorem RepArr.ext {κ κ':A2} {h h':Heap} {w w':World} (x:Ext L κ h w κ' h' w') {id:Nat} {e:TypeId} {t:Ty} {l:List t.den}
  (j:κ' id=κ id) (s:∀ b c,κ id=some (b,c)->w'.heap[b]? = w.heap[b]?) (o:RepArr L κ h w id e t l):RepArr L κ' h' w' id e t l:=by
 rcases o with⟨a,b⟩ | ⟨b,d,f,g,q,n,u,k,p,r⟩
 ·exact .inl ⟨j.trans a,b⟩
 ·exact .inr ⟨b,d,f,j.trans g,(s b d g).trans q,n,u,k,p,fun i y m=>RepAt.ext x (r i y m)⟩
theorem RepKid.ext {κ κ':A2} {h h':Heap} {w w':World} (x:Ext L κ h w κ' h' w') {n:Nat} (e:κ' n=κ n) (g:∀ b c,κ n=some (b,c)->w'.heap[b]? = w.heap[b]?) :
  ∀ {t:KTy} {v:Value} {y:t.den},RepKid L κ h w n t v y->RepKid L κ' h' w' n t v y
 | .arr _ _,_,_,⟨a,d⟩=>⟨by grind,RepArr.ext x e g d⟩
 | .map _ _ _ _,_,none,⟨a,d⟩=>⟨e.trans a,d⟩
 | .map _ _ _ _,_,some _,⟨b,c,o,l,a,d,f,i⟩=>⟨b,c,o,l,e.trans a,d,(g b c a).trans f,i.mono x.free⟩
 | .ptr _,_,none,⟨a,d⟩=>⟨e.trans a,d⟩
 | .ptr _,_,some _,⟨b,c,k,p,a,d,f,i,j,m⟩=>⟨b,c,k,p,e.trans a,d,(g b c a).trans f,i,j,RepAt.ext x m⟩
theorem RepPart.ext {κ κ':A2} {h h':Heap} {w w':World} (x:Ext L κ h w κ' h' w') {n:Nat} (e:κ' n=κ n) (d:∀ b c,κ n=some (b,c)->w'.heap[b]? = w.heap[b]?) {o:Option Nat} {t:KTy} {v:Value} {y:t.den}
  (a:RepPart L κ h w n o t v y):RepPart L κ' h' w' n o t v y:=by
 cases o with
 | none=>exact RepKid.ext x e d a
 | some g=>exact⟨RepSV.ext x _ _ a.1,x.keeps a.2⟩
theorem EntsK.ext {κ κ':A2} {h h':Heap} {w w':World} (x:Ext L κ h w κ' h' w') {id:Nat} (u:∀ n,κ' (kn id n)=κ (kn id n)) (s:∀ n b c,κ (kn id n)=some (b,c)->w'.heap[b]? = w.heap[b]?) {k:Bool} {g:Ty} {t:KTy} {f:Option (g.den×Nat)} {l:List (g.den×t.den)} {m:Array MapEntry} {d:Nat}
  (e:EntsK L κ h w id k g t f l m d):EntsK L κ' h' w' id k g t f l m d where
 flat:=e.flat
 rise:=e.rise
 apart:=e.apart
 early:=e.early
 ents:=by
  obtain⟨p,o,r,j⟩:=e.ents
  exact⟨p,o,r,fun i y q a b=>⟨(j i y q a b).1.mono x.free,(j i y q a b).2.1,RepPart.ext x (u _) (s _) (j i y q a b).2.2⟩⟩
theorem RepObj.ext {κ κ':A2} {h h':Heap} {w w':World} (x:Ext L κ h w κ' h' w') {id:Nat} (hk:κ' id=κ id)
  (hb:∀ b c,κ id=some (b,c)->w'.heap[b]? = w.heap[b]?) (hkk:∀ n,κ' (kn id n)=κ (kn id n)) (hkb:∀ n b c,κ (kn id n)=some (b,c)->w'.heap[b]? = w.heap[b]?):∀ {o:AObj},RepObj L κ h w id o->RepObj L κ' h' w' id o
 | .fresh,_=>trivial
 | .dead,_=>trivial
 | .kid,_=>trivial
 | .cells _,⟨b,c,cs,ty,h1,h2,h3⟩=>⟨b,c,cs,ty,hk.trans h1,(hb b c h1).trans h2,h3.ext x⟩
 | .arr _ _ _,hr=>RepArr.ext x hk hb hr
 | .ice _ _ _,⟨hr,hf⟩=>⟨RepArr.ext x hk hb hr,fun b c hh=>(x.free b (hf b c (hk▸hh))).1⟩
 | .lrec _ _,⟨b,c,r,h1,h2,h3,h4,h5,h6,h7,h8,h9⟩=>⟨b,c,r,hk.trans h1,(hb b c h1).trans h2,h3,h4,h5,h6,h7,h8,fun t=>(h9 t).ext x⟩
 | .mapo ..,⟨b,c,es,cl,h1,h2,h3⟩=>⟨b,c,es,cl,hk.trans h1,(hb b c h1).trans h2,h3.mono x.free⟩
 | .mapp _ _ _ _ _ _ g,⟨b,c,es,cl,h1,h2,h3,h4,n,c',h5,y,h6,h7,h8⟩=>⟨b,c,es,cl,hk.trans h1,(hb b c h1).trans h2,h3.mono x.free,x.keeps h4,n,c',(x.place g h4).trans h5,y,h6,h7,h8.mono x.free⟩
 | .mice ..,⟨b,c,es,cl,h1,h2,h3,h4⟩=>⟨b,c,es,cl,hk.trans h1,(x.free b h2).1,(hb b c h1).trans h3,h4.mono x.free⟩
 | .iter ..,⟨b,c,m,si,se,c0,h1,h2,h3⟩=>⟨b,c,m,si,se,c0,hk.trans h1,(hb b c h1).trans h2,h3.mono x.free⟩
 | .arrD ..,hr=>by
  rcases hr with⟨h1,h2,h3⟩ | ⟨b,cap,cur,h1,h2,h3,h4,h5,h6,h7⟩
  ·exact .inl ⟨hk.trans h1,h2,h3⟩
  ·refine .inr ⟨b,cap,cur,hk.trans h1,(hb b cap h1).trans h2,h3,h4,h5,h6,fun i y hy=>?_⟩
   obtain⟨v,a1,a2⟩:=h7 i y hy
   exact⟨v,a1,RepPart.ext x (hkk i) (hkb i) a2⟩
 | .mapD ..,⟨b,c,es,cl,h1,h2,h3⟩=>⟨b,c,es,cl,hk.trans h1,(hb b c h1).trans h2,h3.ext x hkk hkb⟩
 | .arrK ..,hr=>by
  rcases hr with⟨h1,h2⟩ | ⟨b,cap,cur,h1,h2,h3,h4,h5,h6,h7,h8,h9,h10⟩
  ·exact .inl ⟨hk.trans h1,h2⟩
  ·refine .inr ⟨b,cap,cur,hk.trans h1,(hb b cap h1).trans h2,h3,h4,h5,h6,h7,h8,fun i y hy=>RepAt.ext x (h9 i y hy),fun i y hy=>?_⟩
   obtain⟨v,a1,a2⟩:=h10 i y hy
   exact⟨v,a1,RepPart.ext x (hkk i) (hkb i) a2⟩
theorem K8 {κ:A2} {h:Heap} {w:World} (a:HeapOK L w0 κ h w) (id n:Nat):h (kn id n)=.kid:=a.kids _ (z1u id n)
theorem Q5 {κ:A2} {h:Heap} {w:World} (a:HeapOK L w0 κ h w) (id n:Nat):(h (kn id n)).live=true:=by rw[K8 a];rfl
theorem I3 {κ:A2} {h:Heap} {w:World} (a:HeapOK L w0 κ h w) {id:Nat} (hh:h id≠.kid) (p n:Nat):kn p n≠id:=fun e=>hh (by grind[K8])
theorem q7q {κ:A2} {h:Heap} {w:World} (a:HeapOK L w0 κ h w) {id n b:Nat} {c:Nat×Nat} (d:κ (kn id n)=some (b,c)):b<w.heap.size:=(a.own _ b c (Q5 a id n) d).2
theorem N8 {h:Heap} {id:Nat} (a:h id=.fresh):h id≠.kid:=fun e=>by grind
theorem Q3 (w:World) (o:Obj) {b:Nat} (a:b≠w.heap.size):(w.alloc o).heap[b]? = w.heap[b]?:=by
 show(w.heap.push o)[b]? = _
 grind
theorem R3 {κ:A2} {h:Heap} {w:World} (o:Obj) {id:Nat} (obj:AObj) (c:Nat×Nat) (hf:h id=.fresh) :
  Ext L κ h w (upd κ id (some (w.heap.size,c))) (upd h id obj) (w.alloc o) where
 place j hj:=A0 _ _ (fun e=>hj.1 (e▸hf))
 kid j hd:=by rw[A0 _ _ (fun e=>by rw[e,hf]at hd;cases hd)];exact hd
 dead j hd:=by rw[A0 _ _ (fun e=>by rw[e,hf]at hd;cases hd)];exact hd
 cells j l hl:=by rw[A0 _ _ (fun e=>by rw[e,hf]at hl;cases hl)];exact .inl ⟨l,hl⟩
 arr j e t l hl:=by rw[A0 _ _ (fun e=>by rw[e,hf]at hl;cases hl)];exact .inl ⟨l,rfl,.inl hl⟩
 arrD j e t l f hl:=by rw[A0 _ _ (fun e=>by rw[e,hf]at hl;cases hl)];exact .inl ⟨l,f,rfl,hl⟩
 arrK j _ _ _ _ l k f hl:=by rw[A0 _ _ (fun e=>by rw[e,hf]at hl;cases hl)];exact .inl ⟨l,rfl,.inl ⟨k,f,hl⟩⟩
 ice j e t l hl:=by rw[A0 _ _ (fun e=>by rw[e,hf]at hl;cases hl)];exact .inl hl
 lrec j i s hl:=by rw[A0 _ _ (fun e=>by rw[e,hf]at hl;cases hl)];exact .inl ⟨s,hl⟩
 maps j hl:=by rw[A0 _ _ (fun e=>by rw[e,hf]at hl;cases hl)];exact .inl hl
 iter j _ _ _ _ l c hl:=by rw[A0 _ _ (fun e=>by rw[e,hf]at hl;cases hl)];exact .inl ⟨l,c,hl⟩
 size:=by simp
 loops b r hr:=⟨r,(Q3 w o (by have:=(Array.getElem?_eq_some_iff.1 hr).1;omega)).trans hr⟩
 defs b hr:=(Q3 w o (by have:=(Array.getElem?_eq_some_iff.1 hr).1;omega)).trans hr
 still b hb:=by
  obtain⟨h1,h3⟩:=hb
  refine⟨⟨by simp;omega,fun j c' hj hk=>?_⟩,Q3 w o (by omega)⟩
  by_cases hji:j=id
  ·subst hji;rw[A1]at hk;simp at hk;omega
  ·rw[A0 _ _ hji]at hj hk;exact h3 j c' hj hk
theorem V4 {κ:A2} {h:Heap} {w:World} (f:HeapOK L w0 κ h w) (o:Obj) {id:Nat} (obj:AObj) (c:Nat×Nat) (C:h id=.fresh)
  (E:RepObj L (upd κ id (some (w.heap.size,c))) (upd h id obj) (w.alloc o) id obj) :
  HeapOK L w0 (upd κ id (some (w.heap.size,c))) (upd h id obj) (w.alloc o) where
 obj j:=by
  by_cases u:j=id
  ·grind[A1]
  ·rw[A0 h obj u]
   cases q:h j with
   | fresh=>trivial
   | _ =>
    have A:∀ b p,κ j=some (b,p)->b≠w.heap.size\/(h j=.dead):=fun b p s=>by
     by_cases y:(h j).live=true
     ·exact .inl (by have:=(f.own j b p y s).2;omega)
     ·cases g:h j with
      | dead=>grind
      | ice e t l=>have:=f.obj j;rw[g]at this;exact .inl (by have:=(this.2 b p s).1;omega)
      | mice I H K J l=>have:=f.obj j;rw[g]at this;obtain⟨M,x,F,G,d,r,-⟩:=this;rw[s]at d;cases d;exact .inl (by have:=r.1;omega)
      | fresh=>grind
      | _=>rw[g]at y;exact absurd rfl y
    rw[<-q]
    by_cases D:h j=.dead
    ·rw[D];trivial
    ·exact RepObj.ext (R3 o obj c C) (A0 _ _ u) (fun b p s=>Q3 w o ((A b p s).resolve_right D)) (fun n=>A0 _ _ (I3 f (N8 C) j n)) (fun n b p s=>Q3 w o (by have:=q7q f s;omega)) (f.obj j)
 inj i j b v x m q d r:=by
  by_cases a:i=id<;>by_cases g:j=id
  ·omega
  ·subst a;rw[A1]at d;rw[A0 _ _ g]at r q;simp at d;have:=(f.own j b x q r).2;omega
  ·subst g;rw[A1]at r;rw[A0 _ _ a]at d m;simp at r;have:=(f.own i b v m d).2;omega
  ·rw[A0 _ _ a]at d m;rw[A0 _ _ g]at r q;exact f.inj i j b v x m q d r
 own i b v m d:=by
  by_cases a:i=id
  ·subst a;rw[A1]at d;simp at d;have:=f.below.size;simp_all
  ·rw[A0 _ _ a]at d m;have:=f.own i b v m d;simp;omega
 below:=f.below.alloc f.below.size o
 outer z B:=⟨by have:=(f.outer z B).1;simp;omega,fun i p m d=>by
  by_cases a:i=id
  ·subst a;rw[A1]at d;simp at d;have:=(f.outer z B).1;omega
  ·rw[A0 _ _ a]at d m;exact(f.outer z B).2 i p m d⟩
 kids j q:=by rw[A0 _ _ (fun e=>by rw[<-e,f.kids j q]at C;grind)];exact f.kids j q
def AObj.like:AObj->AObj->Prop
 | .cells _,.cells _=>True
 | .arr e t l,.arr e' t' l'=>e=e'/\∃ h:t=t',l'.length=(h▸l:List t'.den).length
 | .lrec i _,.lrec i' _=>i=i'
 | .mapo ..,.mapo ..=>True
 | .mapo ..,.mapp ..=>True
 | .mapp ..,.mapo ..=>True
 | .mapp ..,.mapp ..=>True
 | .iter ak av tk tv _ _,.iter ak' av' tk' tv' _ _=>ak'=ak/\av'=av/\tk'=tk/\tv'=tv
 | .arrD e t l _,.arrD e' t' l' _=>e=e'/\∃ h:t=t',l'.length=(h▸l:List t'.den).length
 | .mapD ..,.mapD ..=>True
 | .arrK e t c t1 l _ _,.arrK e' t' c' t1' l' _ _=>e=e'/\c=c'/\t1=t1'/\∃ h:t=t',l'.length=(h▸l:List t'.den).length
 | _,_=>False
theorem AObj.like_map {o a:AObj} (h:o.like a) (b:o.isMap=true):a.isMap=true:=by
 cases o<;>cases a<;>simp[AObj.like,AObj.isMap]at h b ⊢
theorem AObj.like_held {o a:AObj} (h:o.like a):o.Held/\a.Held:=by
 cases o<;>cases a<;>simp[AObj.like]at h<;>exact⟨by simp,by simp⟩
theorem AObj.like_live {o a:AObj} (h:o.like a):o.live=true/\a.live=true:=by
 cases o<;>cases a<;>simp[AObj.like]at h<;>exact⟨rfl,rfl⟩
def q9u (w w':World) (b:Nat):Prop:=((∃ c t f,w.heap[b]? = some (.cells c t f))\/(∃ es cl,w.heap[b]? = some (.map es cl))\/∃ m s n c,w.heap[b]? = some (.mapIter m s n c))\/∃ r r',w.heap[b]? = some (.loop r)/\w'.heap[b]? = some (.loop r')
theorem P3 {κ:A2} {h:Heap} {w w':World} {id b:Nat} {c:Nat×Nat} {obj':AObj} (hk:κ id=some (b,c)) (hl:(h id).like obj')
  (hw:q9u w w' b) (hs:w'.heap.size=w.heap.size) (hb:∀ b',b'≠b->w'.heap[b']? = w.heap[b']?):Ext L κ h w κ (upd h id obj') w' where
 place _ _:=rfl
 kid j hd:=by rw[A0 _ _ (fun e=>by subst e;rw[hd]at hl;cases obj'<;>exact hl)];exact hd
 arrD j e t l f hj:=by
  by_cases hji:j=id
  ·subst hji;rw[A1];rw[hj]at hl
   cases obj' with
   | arrD e' t' l' f' =>
    obtain⟨h1,h2,h3⟩:=hl
    subst h1;subst h2
    exact .inl ⟨l',f',h3,rfl⟩
   | _=>simp[AObj.like]at hl
  ·rw[A0 _ _ hji];exact .inl ⟨l,f,rfl,hj⟩
 arrK j e t c t1 l k f hj:=by
  by_cases hji:j=id
  ·subst hji;rw[A1];rw[hj]at hl
   cases obj' with
   | arrK e' t' c' t1' l' k' f' =>
    obtain⟨h1,h2,h3,h4,h5⟩:=hl
    subst h1;subst h2;subst h3;subst h4
    exact .inl ⟨l',h5,.inl ⟨k',f',rfl⟩⟩
   | _=>simp[AObj.like]at hl
  ·rw[A0 _ _ hji];exact .inl ⟨l,rfl,.inl ⟨k,f,hj⟩⟩
 dead j hd:=by rw[A0 _ _ (fun e=>by subst e;rw[hd]at hl;cases obj'<;>exact hl)];exact hd
 cells j l hj:=by
  by_cases e:j=id
  ·subst e;rw[A1];rw[hj]at hl
   cases obj'<;>simp[AObj.like]at hl
   exact .inl ⟨_,rfl⟩
  ·rw[A0 _ _ e];exact .inl ⟨l,hj⟩
 arr j e t l hj:=by
  by_cases hji:j=id
  ·subst hji;rw[A1];rw[hj]at hl
   cases obj' with
   | arr e' t' l' =>
    obtain⟨h1,h2,h3⟩:=hl
    subst h1;subst h2
    exact .inl ⟨l',h3,.inl rfl⟩
   | _=>simp[AObj.like]at hl
  ·rw[A0 _ _ hji];exact .inl ⟨l,rfl,.inl hj⟩
 ice j e t l hj:=by rw[A0 _ _ (fun e=>by subst e;rw[hj]at hl;cases obj'<;>exact hl)];exact .inl hj
 lrec j i s hj:=by
  by_cases hji:j=id
  ·subst hji;rw[A1];rw[hj]at hl
   cases obj'<;>simp[AObj.like]at hl
   subst hl;exact .inl ⟨_,rfl⟩
  ·rw[A0 _ _ hji];exact .inl ⟨s,hj⟩
 maps j hj:=by
  by_cases hji:j=id
  ·subst hji;rw[A1];exact .inl (AObj.like_map hl hj)
  ·rw[A0 _ _ hji];exact .inl hj
 iter j _ _ _ _ l c hj:=by
  by_cases hji:j=id
  ·subst hji;rw[A1];rw[hj]at hl
   cases obj'<;>simp[AObj.like]at hl
   obtain⟨rfl,rfl,rfl,rfl⟩:=hl
   exact .inl ⟨_,_,rfl⟩
  ·rw[A0 _ _ hji];exact .inl ⟨l,c,hj⟩
 size:=by omega
 loops b' r hr:=by
  by_cases e:b'=b
  ·subst e
   rcases hw with(⟨c,t,f,h1⟩ | ⟨es,cl,h1⟩ | ⟨m,s,n,c,h1⟩) | ⟨r1,r2,h1,h2⟩
   ·rw[hr]at h1;cases h1
   ·rw[hr]at h1;cases h1
   ·rw[hr]at h1;cases h1
   ·exact⟨r2,h2⟩
  ·exact⟨r,(hb b' e).trans hr⟩
 defs b' hr:=by
  by_cases e:b'=b
  ·subst e
   rcases hw with(⟨c,t,f,h1⟩ | ⟨es,cl,h1⟩ | ⟨m,s,n,c,h1⟩) | ⟨r1,r2,h1,h2⟩<;>rw[hr]at h1<;>cases h1
  ·exact(hb b' e).trans hr
 still b' hf:=by
  obtain⟨h1,h3⟩:=hf
  have hne:b'≠b:=fun e=>h3 id c (AObj.like_live hl).1 (by rw[e];exact hk)
  refine⟨⟨by omega,fun j c' hj hkj=>?_⟩,hb b' hne⟩
  by_cases hji:j=id
  ·subst hji;exact h3 j c' (AObj.like_live hl).1 hkj
  ·rw[A0 _ _ hji]at hj;exact h3 j c' hj hkj
theorem v7n {κ:A2} {h:Heap} {w w':World} (ok:HeapOK L w0 κ h w) {id b:Nat} {c:Nat×Nat} {obj':AObj} (hk:κ id=some (b,c)) (hl:(h id).like obj')
  (hr:RepObj L κ (upd h id obj') w' id obj'):q9u w w' b:=by
 have ho:=ok.obj id
 cases hq:h id with
 | fresh=>rw[hq]at hl;cases obj'<;>exact hl.elim
 | dead=>rw[hq]at hl;cases obj'<;>exact hl.elim
 | ice e t l=>rw[hq]at hl;cases obj'<;>exact hl.elim
 | kid=>rw[hq]at hl;cases obj'<;>exact hl.elim
 | mice ak av tk tv l=>rw[hq]at hl;cases obj'<;>exact hl.elim
 | arrD e t l f =>
  rw[hq]at ho
  rcases ho with⟨h1,-⟩ | ⟨b',cap,cur,h1,h2,-⟩
  ·rw[hk]at h1;cases h1
  ·rw[hk]at h1;cases h1;exact .inl (.inl ⟨_,_,_,h2⟩)
 | arrK e t c t1 l k f =>
  rw[hq]at ho
  rcases ho with⟨h1,-⟩ | ⟨b',cap,cur,h1,h2,-⟩
  ·rw[hk]at h1;cases h1
  ·rw[hk]at h1;cases h1;exact .inl (.inl ⟨_,_,_,h2⟩)
 | mapD ak tk t l f =>
  rw[hq]at ho
  obtain⟨b',c',es,cl,h1,h2,-⟩:=ho
  rw[hk]at h1;cases h1
  exact .inl (.inr (.inl ⟨_,_,h2⟩))
 | iter ak av tk tv l cu =>
  rw[hq]at ho
  obtain⟨b',c',m,s,n,c0,h1,h2,-⟩:=ho
  rw[hk]at h1;cases h1
  exact .inl (.inr (.inr ⟨_,_,_,_,h2⟩))
 | cells l =>
  rw[hq]at ho
  obtain⟨b',c',cs,ty,h1,h2,-⟩:=ho
  rw[hk]at h1;cases h1
  exact .inl (.inl ⟨_,_,_,h2⟩)
 | mapo ak av tk tv l =>
  rw[hq]at ho
  obtain⟨b',c',es,cl,h1,h2,-⟩:=ho
  rw[hk]at h1;cases h1
  exact .inl (.inr (.inl ⟨_,_,h2⟩))
 | mapp ak av tk tv l k g =>
  rw[hq]at ho
  obtain⟨b',c',es,cl,h1,h2,-⟩:=ho
  rw[hk]at h1;cases h1
  exact .inl (.inr (.inl ⟨_,_,h2⟩))
 | arr e t l =>
  rw[hq]at ho
  rcases ho with⟨h1,-⟩ | ⟨b',cap,cur,h1,h2,-⟩
  ·rw[hk]at h1;cases h1
  ·rw[hk]at h1;cases h1;exact .inl (.inl ⟨_,_,_,h2⟩)
 | lrec i s =>
  rw[hq]at ho hl
  cases obj' with
  | lrec i' s' =>
   obtain⟨b',c',r,h1,h2,-⟩:=ho
   obtain⟨b2,c2,r',h3,h4,-⟩:=hr
   rw[hk]at h1 h3;cases h1;cases h3
   exact .inr ⟨r,r',h2,h4⟩
  | _=>exact hl.elim
theorem Q4 {κ:A2} {h:Heap} {w w':World} (d:HeapOK L w0 κ h w) {id b:Nat} {c:Nat×Nat} {obj':AObj} (q:κ id=some (b,c)) (f:(h id).like obj')
  (hs:w'.heap.size=w.heap.size) (A:∀ a,a≠b->w'.heap[a]? = w.heap[a]?) (u:Below w0.heap.size w0 w')
  (E:RepObj L κ (upd h id obj') w' id obj'):HeapOK L w0 κ (upd h id obj') w' where
 obj j:=by
  by_cases s:j=id
  ·grind[A1]
  ·rw[A0 h obj' s]
   by_cases y:h j=.dead\/h j=.fresh
   ·rcases y with y | y<;>rw[y]<;>trivial
   ·refine RepObj.ext (P3 q f (v7n d q f E) hs A) rfl (fun a r k=>A a fun e=>?_) (fun _=>rfl) (fun n a r k=>A a fun e=>by
     subst e
     exact I3 d (AObj.like_held f).1.2 j n (d.inj _ _ a r c (Q5 d j n) (AObj.like_live f).1 k q)) (d.obj j)
    subst e
    by_cases o:(h j).live=true
    ·exact s (d.inj j id a r c o (AObj.like_live f).1 k q)
    ·cases p:h j with
     | ice e t l =>
      have:=d.obj j;rw[p]at this
      exact(this.2 a r k).2.2 id c (AObj.like_live f).1 q
     | mice J H K I l =>
      have:=d.obj j;rw[p]at this
      obtain⟨G,C,M,F,m,B,-⟩:=this
      rw[k]at m;cases m
      exact B.2.2 id c (AObj.like_live f).1 q
     | dead=>grind
     | fresh=>grind
     | _=>rw[p]at o;exact o rfl
 inj i j a z C v x m B:=by
  have live:∀ i,(upd h id obj' i).live=true->(h i).live=true:=fun i v=>by
   by_cases e:i=id
   ·subst e;exact(AObj.like_live f).1
   grind[A0]
  exact d.inj i j a z C (live i v) (live j x) m B
 own i a z v m:=by
  have live:(h i).live=true:=by
   by_cases e:i=id
   ·subst e;exact(AObj.like_live f).1
   grind[A0]
  rw[hs];exact d.own i a z live m
 below:=u
 outer a D:=⟨by rw[hs];exact(d.outer a D).1,fun i r v m=>by
  have live:(h i).live=true:=by
   by_cases e:i=id
   ·subst e;exact(AObj.like_live f).1
   grind[A0]
  exact(d.outer a D).2 i r live m⟩
 kids j x:=by rw[A0 _ _ (fun e=>(AObj.like_held f).1.2 (by rw[<-e];exact d.kids j x))];exact d.kids j x
def AObj.gone:AObj->AObj->Prop
 | .arr e t l,.ice e' t' l'=>e=e'/\∃ h:t=t',l'=(h▸l:List t'.den)
 | .ice e t l,.ice e' t' l'=>e=e'/\∃ h:t=t',l'=(h▸l:List t'.den)
 | o,.dead=>o.Held
 | _,_=>False
theorem j5g {o a:AObj} (h:o.gone a):o.Held:=by
 cases o<;>cases a<;>simp[AObj.gone]at h ⊢
theorem V3 {κ:A2} {h:Heap} {w:World} {id:Nat} {obj':AObj} (hl:(h id).gone obj'):Ext L κ h w κ (upd h id obj') w where
 place _ _:=rfl
 kid j hj:=by rw[A0 _ _ (fun e=>(j5g hl).2 (by rw[<-e];exact hj))];exact hj
 arrD j e t l f hj:=by
  by_cases hji:j=id
  ·subst hji;rw[A1];rw[hj]at hl
   cases obj'<;>simp[AObj.gone]at hl
   exact .inr (.inr rfl)
  ·rw[A0 _ _ hji];exact .inl ⟨l,f,rfl,hj⟩
 arrK j e t c t1 l k f hj:=by
  by_cases hji:j=id
  ·subst hji;rw[A1];rw[hj]at hl
   cases obj'<;>simp[AObj.gone]at hl
   exact .inr rfl
  ·rw[A0 _ _ hji];exact .inl ⟨l,rfl,.inl ⟨k,f,hj⟩⟩
 dead j hd:=by
  by_cases e:j=id
  ·subst e;rw[A1];rw[hd]at hl;cases obj'<;>simp[AObj.gone]at hl;rfl
  ·rw[A0 _ _ e];exact hd
 cells j l hj:=by
  by_cases e:j=id
  ·subst e;rw[A1];rw[hj]at hl;cases obj'<;>simp[AObj.gone]at hl;exact .inr rfl
  ·rw[A0 _ _ e];exact .inl ⟨l,hj⟩
 arr j e t l hj:=by
  by_cases hji:j=id
  ·subst hji;rw[A1];rw[hj]at hl
   cases obj' with
   | ice e' t' l' =>
    obtain⟨h1,h2,h3⟩:=hl
    subst h1;subst h2;subst h3
    exact .inl ⟨_,rfl,.inr rfl⟩
   | dead=>exact .inr rfl
   | _=>simp[AObj.gone]at hl
  ·rw[A0 _ _ hji];exact .inl ⟨l,rfl,.inl hj⟩
 ice j e t l hj:=by
  by_cases hji:j=id
  ·subst hji;rw[A1];rw[hj]at hl
   cases obj' with
   | ice e' t' l' =>
    obtain⟨h1,h2,h3⟩:=hl
    subst h1;subst h2;subst h3
    exact .inl rfl
   | dead=>exact .inr rfl
   | _=>simp[AObj.gone]at hl
  ·rw[A0 _ _ hji];exact .inl hj
 lrec j i s hj:=by
  by_cases hji:j=id
  ·subst hji;rw[A1];rw[hj]at hl
   cases obj'<;>simp[AObj.gone]at hl
   exact .inr rfl
  ·rw[A0 _ _ hji];exact .inl ⟨s,hj⟩
 maps j hj:=by
  by_cases hji:j=id
  ·subst hji;rw[A1]
   cases hq:h j<;>rw[hq]at hj hl<;>simp[AObj.isMap]at hj<;>cases obj'<;>simp[AObj.gone]at hl
   all_goals exact .inr rfl
  ·rw[A0 _ _ hji];exact .inl hj
 iter j _ _ _ _ l c hj:=by
  by_cases hji:j=id
  ·subst hji;rw[A1];rw[hj]at hl
   cases obj'<;>simp[AObj.gone]at hl
   exact .inr rfl
  ·rw[A0 _ _ hji];exact .inl ⟨l,c,hj⟩
 size:=Nat.le_refl _
 loops _ r hr:=⟨r,hr⟩
 defs _ hr:=hr
 still b' hf:=by
  obtain⟨h1,h3⟩:=hf
  refine⟨⟨h1,fun j c' hj hkj=>?_⟩,rfl⟩
  by_cases hji:j=id
  ·subst hji;rw[A1]at hj
   cases obj' with
   | ice _ _ _=>simp[AObj.live]at hj
   | dead=>simp[AObj.live]at hj
   | _=>cases hq:h j<;>rw[hq]at hl<;>simp[AObj.gone]at hl
  ·rw[A0 _ _ hji]at hj;exact h3 j c' hj hkj
theorem z1f {o a:AObj} (h:o.gone a):a.live=false:=by
 cases o<;>cases a<;>simp[AObj.gone]at h<;>rfl
theorem q0j {κ:A2} {h:Heap} {w:World} (d:HeapOK L w0 κ h w) {id:Nat} {obj':AObj} (k:(h id).gone obj'):HeapOK L w0 κ (upd h id obj') w where
 obj j:=by
  by_cases p:j=id
  ·subst p;rw[A1]
   have B:=V3 (L:=L) (κ:=κ) (w:=w) k
   have D:=z1f k
   cases obj' with
   | dead=>trivial
   | ice H F G =>
    cases v:h j with
    | arr e t l =>
     have f:=d.obj j
     rw[v]at k f
     obtain⟨g,q,z⟩:=k
     subst g;subst q;subst z
     refine⟨RepArr.ext B rfl (fun _ _ _=>rfl) f,fun b c u=>?_⟩
     have a:(h j).live=true:=by rw[v];rfl
     have E:=d.own j b c a u
     refine⟨E.2,fun s=>(d.outer b s).2 _ _ a u,fun i A m y=>?_⟩
     by_cases o:i=j
     ·grind[A1]
     ·rw[A0 _ _ o]at m;exact o (d.inj i j b A c m a y u)
    | ice e t l =>
     have f:=d.obj j
     rw[v]at k f
     obtain⟨g,q,z⟩:=k
     subst g;subst q;subst z
     exact RepObj.ext B rfl (fun _ _ _=>rfl) (fun _=>rfl) (fun _ _ _ _=>rfl) f
    | _=>grind[AObj.gone]
   | _=>grind[AObj.gone]
  ·rw[A0 h obj' p]
   exact RepObj.ext (V3 k) rfl (fun _ _ _=>rfl) (fun _=>rfl) (fun _ _ _ _=>rfl) (d.obj j)
 inj i j n x C m r g q:=by
  have live:∀ i,(upd h id obj' i).live=true->(h i).live=true:=fun i m=>by
   grind[A1,z1f,A0]
  exact d.inj i j n x C (live i m) (live j r) g q
 own i n x m g:=by
  have live:(h i).live=true:=by
   grind[A1,z1f,A0]
  exact d.own i n x live g
 below:=d.below
 outer n s:=⟨(d.outer n s).1,fun i A m g=>by
  have live:(h i).live=true:=by
   grind[A1,z1f,A0]
  exact(d.outer n s).2 i A live g⟩
 kids j r:=by rw[A0 _ _ (fun e=>(j5g k).2 (by rw[<-e];exact d.kids j r))];exact d.kids j r
theorem z8m {κ:A2} {h:Heap} {w:World} {id:Nat} {ak av:Bool} {tk tv:Ty} {l:List (tk.den×tv.den)} (hid:h id=.mapo ak av tk tv l):Ext L κ h w κ (upd h id (.mice ak av tk tv l)) w where
 place _ _:=rfl
 kid j hd:=by rw[A0 _ _ (fun e=>by rw[e,hid]at hd;cases hd)];exact hd
 arrD j e t x f hj:=by rw[A0 _ _ (fun e=>by rw[e,hid]at hj;cases hj)];exact .inl ⟨x,f,rfl,hj⟩
 arrK j _ _ _ _ x k f hj:=by rw[A0 _ _ (fun e=>by rw[e,hid]at hj;cases hj)];exact .inl ⟨x,rfl,.inl ⟨k,f,hj⟩⟩
 dead j hd:=by rw[A0 _ _ (fun e=>by rw[e,hid]at hd;cases hd)];exact hd
 cells j x hj:=by rw[A0 _ _ (fun e=>by rw[e,hid]at hj;cases hj)];exact .inl ⟨x,hj⟩
 arr j e t x hj:=by rw[A0 _ _ (fun e=>by rw[e,hid]at hj;cases hj)];exact .inl ⟨x,rfl,.inl hj⟩
 ice j e t x hj:=by rw[A0 _ _ (fun e=>by rw[e,hid]at hj;cases hj)];exact .inl hj
 lrec j i s hj:=by rw[A0 _ _ (fun e=>by rw[e,hid]at hj;cases hj)];exact .inl ⟨s,hj⟩
 maps j hj:=by
  by_cases hji:j=id
  ·subst hji;rw[A1];exact .inl rfl
  ·rw[A0 _ _ hji];exact .inl hj
 iter j _ _ _ _ l c hj:=by rw[A0 _ _ (fun e=>by rw[e,hid]at hj;cases hj)];exact .inl ⟨l,c,hj⟩
 size:=Nat.le_refl _
 loops _ r hr:=⟨r,hr⟩
 defs _ hr:=hr
 still b' hf:=by
  obtain⟨h1,h3⟩:=hf
  refine⟨⟨h1,fun j c' hj hkj=>?_⟩,rfl⟩
  by_cases hji:j=id
  ·subst hji;rw[A1]at hj;cases hj
  ·rw[A0 _ _ hji]at hj;exact h3 j c' hj hkj
theorem y6t {κ:A2} {h:Heap} {w:World} (f:HeapOK L w0 κ h w) {id:Nat} {y av:Bool} {s t:Ty} {l:List (s.den×t.den)} (g:h id=.mapo y av s t l):HeapOK L w0 κ (upd h id (.mice y av s t l)) w where
 obj j:=by
  by_cases p:j=id
  ·subst p;rw[A1]
   have o:=f.obj j
   rw[g]at o
   obtain⟨b,c,C,A,k,z,E⟩:=o
   have a:(h j).live=true:=by rw[g];rfl
   have D:=f.own j b c a k
   have F:=z8m (L:=L) (κ:=κ) (w:=w) g
   refine⟨b,c,C,A,k,⟨D.2,fun r=>(f.outer b r).2 _ _ a k,fun i u d v=>?_⟩,z,E.mono F.free⟩
   by_cases m:i=j
   ·subst m;rw[A1]at d;cases d
   ·rw[A0 _ _ m]at d;exact m (f.inj i j b u c d a v k)
  ·rw[A0 h _ p]
   exact RepObj.ext (z8m g) rfl (fun _ _ _=>rfl) (fun _=>rfl) (fun _ _ _ _=>rfl) (f.obj j)
 inj i j n x B d q k z:=by
  have live:∀ i,(upd h id (.mice y av s t l) i).live=true->(h i).live=true:=fun i d=>by
   by_cases e:i=id
   ·subst e;rw[A1]at d;cases d
   grind[A0]
  exact f.inj i j n x B (live i d) (live j q) k z
 own i n x d k:=by
  have live:(h i).live=true:=by
   by_cases e:i=id
   ·subst e;rw[A1]at d;cases d
   grind[A0]
  exact f.own i n x live k
 below:=f.below
 outer n r:=⟨(f.outer n r).1,fun i u d k=>by
  have live:(h i).live=true:=by
   by_cases e:i=id
   ·subst e;rw[A1]at d;cases d
   grind[A0]
  exact(f.outer n r).2 i u live k⟩
 kids j q:=by rw[A0 _ _ (fun e=>by rw[<-e,f.kids j q]at g;grind)];exact f.kids j q
def W7 (o o':AObj):Prop:=(∃ e t l,o=.arr e t l/\o'=.ice e t l)\/∃ ak av tk tv l,o=.mapo ak av tk tv l/\o'=.mice ak av tk tv l
theorem z98 {κ:A2} {w:World} (h:Heap):∀ (ids:List Nat) (h1:Heap),
  (∀ id,h1 id=h id\/W7 (h id) (h1 id))->HeapOK L w0 κ h1 w ->
  HeapOK L w0 κ (A5 (B3 h ids) h1) w/\Ext L κ h1 w κ (A5 (B3 h ids) h1) w /\
   (∀ id∈ids,∀ o,W7 (h id) o->A5 (B3 h ids) h1 id=o) /\
   (∀ id,A5 (B3 h ids) h1 id=h1 id\/W7 (h id) (A5 (B3 h ids) h1 id))
 | [],h1,_,K=>⟨K,Ext.refl _ _ _ _,fun _ g=>by grind,fun _=>.inl rfl⟩
 | id::ids,h1,z,K=>by
  have step:∀ i,W7 (h id) i->B3 h (id::ids)=(id,i)::B3 h ids->HeapOK L w0 κ (upd h1 id i) w->Ext L κ h1 w κ (upd h1 id i) w->
    HeapOK L w0 κ (A5 (B3 h (id::ids)) h1) w/\Ext L κ h1 w κ (A5 (B3 h (id::ids)) h1) w /\
   (∀ j∈id::ids,∀ o,W7 (h j) o->A5 (B3 h (id::ids)) h1 j=o) /\
   (∀ j,A5 (B3 h (id::ids)) h1 j=h1 j\/W7 (h j) (A5 (B3 h (id::ids)) h1 j)):=by
   intro i k I C s
   obtain⟨E,F,M,A⟩:=z98 h ids (upd h1 id i) (fun j=>by
    by_cases u:j=id
    ·subst u;rw[A1];exact .inr k
    ·rw[A0 _ _ u];exact z j) C
   have J:A5 (B3 h (id::ids)) h1=A5 (B3 h ids) (upd h1 id i):=by rw[I];rfl
   rw[J]
   have f:∀ B G,W7 (h id) B->W7 (h id) G->B=G:=fun B G a b=>by
    rcases a with⟨e,t,l,y,m⟩ | ⟨q,r,n,p,l,y,m⟩<;>rcases b with⟨R,N,D,H,O⟩ | ⟨W,V,T,S,D,H,O⟩<;>rw[y]at H<;>cases H<;>rw[m,O]
   have x:∀ o,W7 o o->False:=fun o a=>by
    rcases a with⟨e,t,l,y,m⟩ | ⟨q,r,n,p,l,y,m⟩<;>rw[y]at m<;>cases m
   refine⟨E,s.trans F,fun j g o d=>?_,fun j=>?_⟩
   ·rcases List.mem_cons.1 g with rfl | g
    ·rcases A j with c | c
     ·rw[c,A1];exact f _ _ k d
     ·exact f _ _ c d
    ·exact M j g o d
   ·rcases A j with c | c
    ·by_cases u:j=id
     ·subst u;rw[A1]at c;rw[c];exact .inr k
     ·rw[A0 _ _ u]at c;exact .inl c
    ·exact .inr c
  cases d:h id with
  | arr e t l =>
   have U:W7 (h id) (.ice e t l):=.inl ⟨e,t,l,d,rfl⟩
   have X:(h1 id).gone (.ice e t l):=by
    rcases z id with c | c
    ·rw[c,d];exact⟨rfl,rfl,rfl⟩
    ·rcases c with⟨R,N,D,c,v⟩ | ⟨_,_,_,_,_,c,v⟩
     ·rw[d]at c;cases c;rw[v];exact⟨rfl,rfl,rfl⟩
     grind
   grind[B3,q0j,V3]
  | mapo q r n p l =>
   have U:W7 (h id) (.mice q r n p l):=.inr ⟨q,r,n,p,l,d,rfl⟩
   rcases z id with c | c
   ·grind[B3,y6t,z8m]
   ·have v:h1 id=.mice q r n p l:=by
     rcases c with⟨R,N,D,c,v⟩ | ⟨_,_,_,_,_,c,v⟩
     all_goals grind
    have Y:upd h1 id (.mice q r n p l)=h1:=by
     grind[A1,A0]
    grind[B3,Ext.refl]
  | _ =>
   have J:A5 (B3 h (id::ids)) h1=A5 (B3 h ids) h1:=by simp[B3,d]
   rw[J]
   obtain⟨E,F,M,A⟩:=z98 h ids h1 z K
   refine⟨E,F,fun j g o Q=>?_,A⟩
   rcases List.mem_cons.1 g with rfl | g
   ·rcases Q with⟨_,_,_,c,_⟩ | ⟨_,_,_,_,_,c,_⟩<;>rw[d]at c<;>cases c
   ·exact M j g o Q
def q2a (o:AObj):Prop:=(∃ e t l,o=.arr e t l\/o=.ice e t l)\/∃ ak av tk tv l,o=.mapo ak av tk tv l\/o=.mice ak av tk tv l
theorem R8 {κ:A2} {w:World} {h:Heap} (ids:List Nat) (k:HeapOK L w0 κ h w) :
  HeapOK L w0 κ (A5 (B3 h ids) h) w/\Ext L κ h w κ (A5 (B3 h ids) h) w /\
   ∀ id∈ids,q2a (h id)->∀ b c,κ id=some (b,c)->A3 L κ (A5 (B3 h ids) h) w b:=by
 obtain⟨j,i,o,z⟩:=z98 h ids h (fun _=>.inl rfl) k
 refine⟨j,i,fun id m d b c g=>?_⟩
 obtain⟨e,t,l,d | d⟩ | ⟨q,r,v,s,l,d | d⟩:=d
 ·have:=j.obj id;rw[o id m _ (.inl ⟨e,t,l,d,rfl⟩)]at this;exact this.2 b c g
 ·have:=k.obj id;rw[d]at this;exact(i.free b (this.2 b c g)).1
 ·have:=j.obj id;rw[o id m _ (.inr ⟨q,r,v,s,l,d,rfl⟩)]at this
  obtain⟨p,y,u,x,f,n,-⟩:=this
  grind
 ·have:=k.obj id;rw[d]at this
  obtain⟨p,y,u,x,f,n,-⟩:=this
  rw[g]at f;cases f;exact(i.free b n).1
theorem q57 {h hs:Heap}:∀ (ids:List Nat),(∀ id∈ids,hs id=h id)->B3 hs ids=B3 h ids
 | [],_=>rfl
 | id::ids,b=>by
  have:=q57 ids (fun j d=>b j (List.mem_cons_of_mem _ d))
  have c:=b id List.mem_cons_self
  unfold B3 at this ⊢
  rw[List.filterMap_cons,List.filterMap_cons,this,c]
end Go.Abs
