/- The engine, part 3: what happens to the representation when memory is made, written or let go. -/
import Derived.Test.YtkfjlcdaepckoaaAbsEval
namespace Go.Abs
open Go Go.RowKit
variable {P:Program} {L:Nat->Prop} {w0:World}
def Fr (r:Option Nat):Fence:={ fn:=fun _=>True,depth:=none,alive:=false,round:=r }
theorem RepArr.ext {κ κ':A2} {h h':Heap} {w w':World} (x:Ext L κ h w κ' h' w') {id:Nat} {e:TypeId} {t:Ty} {l:List t.den}
  (hk:κ' id=κ id) (hb:∀ b c,κ id=some (b,c)->w'.heap[b]? = w.heap[b]?) (hr:RepArr L κ h w id e t l):RepArr L κ' h' w' id e t l:=by
 rcases hr with⟨a,b⟩ | ⟨b,cap,cur,h1,h2,h3,h4,h5,h6,h7⟩
 ·exact .inl ⟨hk.trans a,b⟩
 ·exact .inr ⟨b,cap,cur,hk.trans h1,(hb b cap h1).trans h2,h3,h4,h5,h6,fun i y hy=>RepAt.ext x (h7 i y hy)⟩
theorem RepKid.ext {κ κ':A2} {h h':Heap} {w w':World} (x:Ext L κ h w κ' h' w') {n:Nat} (hk:κ' n=κ n) (hb:∀ b c,κ n=some (b,c)->w'.heap[b]? = w.heap[b]?) :
  ∀ {t:KTy} {v:Value} {y:t.den},RepKid L κ h w n t v y->RepKid L κ' h' w' n t v y
 | .arr _ _,_,_,⟨h1,h2⟩=>⟨by rw[hk];exact h1,RepArr.ext x hk hb h2⟩
 | .map _ _ _ _,_,none,⟨h1,h2⟩=>⟨hk.trans h1,h2⟩
 | .map _ _ _ _,_,some _,⟨b,c,es,cl,h1,h2,h3,h4⟩=>⟨b,c,es,cl,hk.trans h1,h2,(hb b c h1).trans h3,h4.mono x.free⟩
 | .ptr _,_,none,⟨h1,h2⟩=>⟨hk.trans h1,h2⟩
 | .ptr _,_,some _,⟨b,c,cs,ty,h1,h2,h3,h4,h5,h6⟩=>⟨b,c,cs,ty,hk.trans h1,h2,(hb b c h1).trans h3,h4,h5,RepAt.ext x h6⟩
theorem RepPart.ext {κ κ':A2} {h h':Heap} {w w':World} (x:Ext L κ h w κ' h' w') {n:Nat} (hk:κ' n=κ n) (hb:∀ b c,κ n=some (b,c)->w'.heap[b]? = w.heap[b]?) {o:Option Nat} {t:KTy} {v:Value} {y:t.den}
  (hr:RepPart L κ h w n o t v y):RepPart L κ' h' w' n o t v y:=by
 cases o with
 | none=>exact RepKid.ext x hk hb hr
 | some g=>exact⟨RepSV.ext x _ _ hr.1,x.keeps hr.2⟩
theorem EntsK.ext {κ κ':A2} {h h':Heap} {w w':World} (x:Ext L κ h w κ' h' w') {id:Nat} (hk:∀ n,κ' (kn id n)=κ (kn id n)) (hb:∀ n b c,κ (kn id n)=some (b,c)->w'.heap[b]? = w.heap[b]?) {ak:Bool} {tk:Ty} {t:KTy} {f:Option (tk.den×Nat)} {l:List (tk.den×t.den)} {es:Array MapEntry} {clock:Nat}
  (hr:EntsK L κ h w id ak tk t f l es clock):EntsK L κ' h' w' id ak tk t f l es clock where
 flat:=hr.flat
 rise:=hr.rise
 apart:=hr.apart
 early:=hr.early
 ents:=by
  obtain⟨p,h1,h2,h3⟩:=hr.ents
  exact⟨p,h1,h2,fun i y q a b=>⟨(h3 i y q a b).1.mono x.free,(h3 i y q a b).2.1,RepPart.ext x (hk _) (hb _) (h3 i y q a b).2.2⟩⟩
theorem RepObj.ext {κ κ':A2} {h h':Heap} {w w':World} (x:Ext L κ h w κ' h' w') {id:Nat} (hk:κ' id=κ id)
  (hb:∀ b c,κ id=some (b,c)->w'.heap[b]? = w.heap[b]?) (hkk:∀ n,κ' (kn id n)=κ (kn id n)) (hkb:∀ n b c,κ (kn id n)=some (b,c)->w'.heap[b]? = w.heap[b]?):∀ {o:AObj},RepObj L κ h w id o->RepObj L κ' h' w' id o
 | .fresh,_=>trivial
 | .dead,_=>trivial
 | .kid,_=>trivial
 | .cells _,⟨b,c,cs,ty,h1,h2,h3⟩=>⟨b,c,cs,ty,hk.trans h1,(hb b c h1).trans h2,h3.ext x⟩
 | .arr _ _ _,hr=>RepArr.ext x hk hb hr
 | .ice _ _ _,⟨hr,hf⟩=>⟨RepArr.ext x hk hb hr,fun b c hh=>(x.free b (hf b c (hk▸hh))).1⟩
 | .lrec _ _,⟨b,c,r,h1,h2,h3,h4,h5,h6,h7,h8,h9⟩=>⟨b,c,r,hk.trans h1,(hb b c h1).trans h2,h3,h4,h5,h6,h7,h8,fun t=>(h9 t).ext x⟩
 | .mapo ..,⟨b,c,es,cl,h1,h2,h3⟩=>⟨b,c,es,cl,hk.trans h1,(hb b c h1).trans h2,h3.mono x.free⟩
 | .mapp _ _ _ _ _ _ g,⟨b,c,es,cl,h1,h2,h3,h4,n,c',h5,y,h6,h7,h8⟩=>⟨b,c,es,cl,hk.trans h1,(hb b c h1).trans h2,h3.mono x.free,x.keeps h4,n,c',(x.place g h4).trans h5,y,h6,h7,h8.mono x.free⟩
 | .mice ..,⟨b,c,es,cl,h1,h2,h3,h4⟩=>⟨b,c,es,cl,hk.trans h1,(x.free b h2).1,(hb b c h1).trans h3,h4.mono x.free⟩
 | .iter ..,⟨b,c,m,si,se,c0,h1,h2,h3⟩=>⟨b,c,m,si,se,c0,hk.trans h1,(hb b c h1).trans h2,h3.mono x.free⟩
 | .arrD ..,hr=>by
  rcases hr with⟨h1,h2,h3⟩ | ⟨b,cap,cur,h1,h2,h3,h4,h5,h6,h7⟩
  ·exact .inl ⟨hk.trans h1,h2,h3⟩
  ·refine .inr ⟨b,cap,cur,hk.trans h1,(hb b cap h1).trans h2,h3,h4,h5,h6,fun i y hy=>?_⟩
   obtain⟨v,a1,a2⟩:=h7 i y hy
   exact⟨v,a1,RepPart.ext x (hkk i) (hkb i) a2⟩
 | .mapD ..,⟨b,c,es,cl,h1,h2,h3⟩=>⟨b,c,es,cl,hk.trans h1,(hb b c h1).trans h2,h3.ext x hkk hkb⟩
theorem N8 {κ:A2} {h:Heap} {w:World} (ok:HeapOK L w0 κ h w) (id n:Nat):h (kn id n)=.kid:=ok.kids _ (q42 id n)
theorem q0s {κ:A2} {h:Heap} {w:World} (ok:HeapOK L w0 κ h w) (id n:Nat):(h (kn id n)).live=true:=by rw[N8 ok];rfl
theorem J6 {κ:A2} {h:Heap} {w:World} (ok:HeapOK L w0 κ h w) {id:Nat} (hh:h id≠.kid) (p n:Nat):kn p n≠id:=fun e=>hh (by rw[<-e];exact N8 ok p n)
theorem q6r {κ:A2} {h:Heap} {w:World} (ok:HeapOK L w0 κ h w) {id n b:Nat} {c:Nat×Nat} (hk:κ (kn id n)=some (b,c)):b<w.heap.size:=(ok.own _ b c (q0s ok id n) hk).2
theorem K8 {h:Heap} {id:Nat} (hf:h id=.fresh):h id≠.kid:=fun e=>by rw[hf]at e;cases e
theorem P2 (w:World) (o:Obj) {b:Nat} (hb:b≠w.heap.size):(w.alloc o).heap[b]? = w.heap[b]?:=by
 show(w.heap.push o)[b]? = _
 rw[Array.getElem?_push,if_neg hb]
theorem N4 {κ:A2} {h:Heap} {w:World} (o:Obj) {id:Nat} (obj:AObj) (c:Nat×Nat) (hf:h id=.fresh) :
  Ext L κ h w (upd κ id (some (w.heap.size,c))) (upd h id obj) (w.alloc o) where
 place j hj:=A0 _ _ (fun e=>hj.1 (e▸hf))
 kid j hd:=by rw[A0 _ _ (fun e=>by rw[e,hf]at hd;cases hd)];exact hd
 dead j hd:=by rw[A0 _ _ (fun e=>by rw[e,hf]at hd;cases hd)];exact hd
 cells j l hl:=by rw[A0 _ _ (fun e=>by rw[e,hf]at hl;cases hl)];exact .inl ⟨l,hl⟩
 arr j e t l hl:=by rw[A0 _ _ (fun e=>by rw[e,hf]at hl;cases hl)];exact .inl ⟨l,rfl,.inl hl⟩
 arrD j e t l f hl:=by rw[A0 _ _ (fun e=>by rw[e,hf]at hl;cases hl)];exact .inl ⟨l,f,rfl,hl⟩
 ice j e t l hl:=by rw[A0 _ _ (fun e=>by rw[e,hf]at hl;cases hl)];exact .inl hl
 lrec j i s hl:=by rw[A0 _ _ (fun e=>by rw[e,hf]at hl;cases hl)];exact .inl ⟨s,hl⟩
 maps j hl:=by rw[A0 _ _ (fun e=>by rw[e,hf]at hl;cases hl)];exact .inl hl
 iter j _ _ _ _ l c hl:=by rw[A0 _ _ (fun e=>by rw[e,hf]at hl;cases hl)];exact .inl ⟨l,c,hl⟩
 size:=by simp
 loops b r hr:=⟨r,(P2 w o (by have:=(Array.getElem?_eq_some_iff.1 hr).1;omega)).trans hr⟩
 defs b hr:=(P2 w o (by have:=(Array.getElem?_eq_some_iff.1 hr).1;omega)).trans hr
 still b hb:=by
  obtain⟨h1,h3⟩:=hb
  refine⟨⟨by simp;omega,fun j c' hj hk=>?_⟩,P2 w o (by omega)⟩
  by_cases hji:j=id
  ·subst hji;rw[A1]at hk;simp at hk;omega
  ·rw[A0 _ _ hji]at hj hk;exact h3 j c' hj hk
theorem S4 {κ:A2} {h:Heap} {w:World} (ok:HeapOK L w0 κ h w) (o:Obj) {id:Nat} (obj:AObj) (c:Nat×Nat) (hf:h id=.fresh)
  (hr:RepObj L (upd κ id (some (w.heap.size,c))) (upd h id obj) (w.alloc o) id obj) :
  HeapOK L w0 (upd κ id (some (w.heap.size,c))) (upd h id obj) (w.alloc o) where
 obj j:=by
  by_cases hji:j=id
  ·subst hji;rw[A1];exact hr
  ·rw[A0 h obj hji]
   cases hj:h j with
   | fresh=>trivial
   | _ =>
    have hlt:∀ b c',κ j=some (b,c')->b≠w.heap.size\/(h j=.dead):=fun b c' hk=>by
     by_cases hl:(h j).live=true
     ·exact .inl (by have:=(ok.own j b c' hl hk).2;omega)
     ·cases hj':h j with
      | dead=>exact .inr rfl
      | ice e t l=>have:=ok.obj j;rw[hj']at this;exact .inl (by have:=(this.2 b c' hk).1;omega)
      | mice ak av tk tv l=>have:=ok.obj j;rw[hj']at this;obtain⟨b2,c2,es,cl,h1,h2,-⟩:=this;rw[hk]at h1;cases h1;exact .inl (by have:=h2.1;omega)
      | fresh=>rw[hj']at hj;cases hj
      | _=>rw[hj']at hl;exact absurd rfl hl
    rw[<-hj]
    by_cases hd:h j=.dead
    ·rw[hd];trivial
    ·exact RepObj.ext (N4 o obj c hf) (A0 _ _ hji) (fun b c' hk=>P2 w o ((hlt b c' hk).resolve_right hd)) (fun n=>A0 _ _ (J6 ok (K8 hf) j n)) (fun n b c' hk=>P2 w o (by have:=q6r ok hk;omega)) (ok.obj j)
 inj i j b c1 c2 hi hj h1 h2:=by
  by_cases hi':i=id<;>by_cases hj':j=id
  ·rw[hi',hj']
  ·subst hi';rw[A1]at h1;rw[A0 _ _ hj']at h2 hj;simp at h1;have:=(ok.own j b c2 hj h2).2;omega
  ·subst hj';rw[A1]at h2;rw[A0 _ _ hi']at h1 hi;simp at h2;have:=(ok.own i b c1 hi h1).2;omega
  ·rw[A0 _ _ hi']at h1 hi;rw[A0 _ _ hj']at h2 hj;exact ok.inj i j b c1 c2 hi hj h1 h2
 own i b c1 hi h1:=by
  by_cases hi':i=id
  ·subst hi';rw[A1]at h1;simp at h1;have:=ok.below.size;simp;omega
  ·rw[A0 _ _ hi']at h1 hi;have:=ok.own i b c1 hi h1;simp;omega
 below:=ok.below.alloc ok.below.size o
 outer b' hL:=⟨by have:=(ok.outer b' hL).1;simp;omega,fun i c' hi h1=>by
  by_cases hi':i=id
  ·subst hi';rw[A1]at h1;simp at h1;have:=(ok.outer b' hL).1;omega
  ·rw[A0 _ _ hi']at h1 hi;exact(ok.outer b' hL).2 i c' hi h1⟩
 kids j hj:=by rw[A0 _ _ (fun e=>by rw[<-e,ok.kids j hj]at hf;cases hf)];exact ok.kids j hj
def AObj.like:AObj->AObj->Prop
 | .cells _,.cells _=>True
 | .arr e t l,.arr e' t' l'=>e=e'/\∃ h:t=t',l'.length=(h▸l:List t'.den).length
 | .lrec i _,.lrec i' _=>i=i'
 | .mapo ..,.mapo ..=>True
 | .mapo ..,.mapp ..=>True
 | .mapp ..,.mapo ..=>True
 | .mapp ..,.mapp ..=>True
 | .iter ak av tk tv _ _,.iter ak' av' tk' tv' _ _=>ak'=ak/\av'=av/\tk'=tk/\tv'=tv
 | .arrD e t l _,.arrD e' t' l' _=>e=e'/\∃ h:t=t',l'.length=(h▸l:List t'.den).length
 | .mapD ..,.mapD ..=>True
 | _,_=>False
theorem AObj.like_map {o o':AObj} (h:o.like o') (hm:o.isMap=true):o'.isMap=true:=by
 cases o<;>cases o'<;>simp[AObj.like,AObj.isMap]at h hm ⊢
theorem AObj.like_held {o o':AObj} (h:o.like o'):o.Held/\o'.Held:=by
 cases o<;>cases o'<;>simp[AObj.like]at h<;>exact⟨by simp,by simp⟩
theorem AObj.like_live {o o':AObj} (h:o.like o'):o.live=true/\o'.live=true:=by
 cases o<;>cases o'<;>simp[AObj.like]at h<;>exact⟨rfl,rfl⟩
def q5c (w w':World) (b:Nat):Prop:=((∃ c t f,w.heap[b]? = some (.cells c t f))\/(∃ es cl,w.heap[b]? = some (.map es cl))\/∃ m s n c,w.heap[b]? = some (.mapIter m s n c))\/∃ r r',w.heap[b]? = some (.loop r)/\w'.heap[b]? = some (.loop r')
theorem N5 {κ:A2} {h:Heap} {w w':World} {id b:Nat} {c:Nat×Nat} {obj':AObj} (hk:κ id=some (b,c)) (hl:(h id).like obj')
  (hw:q5c w w' b) (hs:w'.heap.size=w.heap.size) (hb:∀ b',b'≠b->w'.heap[b']? = w.heap[b']?):Ext L κ h w κ (upd h id obj') w' where
 place _ _:=rfl
 kid j hd:=by rw[A0 _ _ (fun e=>by subst e;rw[hd]at hl;cases obj'<;>exact hl)];exact hd
 arrD j e t l f hj:=by
  by_cases hji:j=id
  ·subst hji;rw[A1];rw[hj]at hl
   cases obj' with
   | arrD e' t' l' f' =>
    obtain⟨h1,h2,h3⟩:=hl
    subst h1;subst h2
    exact .inl ⟨l',f',h3,rfl⟩
   | _=>simp[AObj.like]at hl
  ·rw[A0 _ _ hji];exact .inl ⟨l,f,rfl,hj⟩
 dead j hd:=by rw[A0 _ _ (fun e=>by subst e;rw[hd]at hl;cases obj'<;>exact hl)];exact hd
 cells j l hj:=by
  by_cases e:j=id
  ·subst e;rw[A1];rw[hj]at hl
   cases obj'<;>simp[AObj.like]at hl
   exact .inl ⟨_,rfl⟩
  ·rw[A0 _ _ e];exact .inl ⟨l,hj⟩
 arr j e t l hj:=by
  by_cases hji:j=id
  ·subst hji;rw[A1];rw[hj]at hl
   cases obj' with
   | arr e' t' l' =>
    obtain⟨h1,h2,h3⟩:=hl
    subst h1;subst h2
    exact .inl ⟨l',h3,.inl rfl⟩
   | _=>simp[AObj.like]at hl
  ·rw[A0 _ _ hji];exact .inl ⟨l,rfl,.inl hj⟩
 ice j e t l hj:=by rw[A0 _ _ (fun e=>by subst e;rw[hj]at hl;cases obj'<;>exact hl)];exact .inl hj
 lrec j i s hj:=by
  by_cases hji:j=id
  ·subst hji;rw[A1];rw[hj]at hl
   cases obj'<;>simp[AObj.like]at hl
   subst hl;exact .inl ⟨_,rfl⟩
  ·rw[A0 _ _ hji];exact .inl ⟨s,hj⟩
 maps j hj:=by
  by_cases hji:j=id
  ·subst hji;rw[A1];exact .inl (AObj.like_map hl hj)
  ·rw[A0 _ _ hji];exact .inl hj
 iter j _ _ _ _ l c hj:=by
  by_cases hji:j=id
  ·subst hji;rw[A1];rw[hj]at hl
   cases obj'<;>simp[AObj.like]at hl
   obtain⟨rfl,rfl,rfl,rfl⟩:=hl
   exact .inl ⟨_,_,rfl⟩
  ·rw[A0 _ _ hji];exact .inl ⟨l,c,hj⟩
 size:=by omega
 loops b' r hr:=by
  by_cases e:b'=b
  ·subst e
   rcases hw with(⟨c,t,f,h1⟩ | ⟨es,cl,h1⟩ | ⟨m,s,n,c,h1⟩) | ⟨r1,r2,h1,h2⟩
   ·rw[hr]at h1;cases h1
   ·rw[hr]at h1;cases h1
   ·rw[hr]at h1;cases h1
   ·exact⟨r2,h2⟩
  ·exact⟨r,(hb b' e).trans hr⟩
 defs b' hr:=by
  by_cases e:b'=b
  ·subst e
   rcases hw with(⟨c,t,f,h1⟩ | ⟨es,cl,h1⟩ | ⟨m,s,n,c,h1⟩) | ⟨r1,r2,h1,h2⟩<;>rw[hr]at h1<;>cases h1
  ·exact(hb b' e).trans hr
 still b' hf:=by
  obtain⟨h1,h3⟩:=hf
  have hne:b'≠b:=fun e=>h3 id c (AObj.like_live hl).1 (by rw[e];exact hk)
  refine⟨⟨by omega,fun j c' hj hkj=>?_⟩,hb b' hne⟩
  by_cases hji:j=id
  ·subst hji;exact h3 j c' (AObj.like_live hl).1 hkj
  ·rw[A0 _ _ hji]at hj;exact h3 j c' hj hkj
theorem y4p {κ:A2} {h:Heap} {w w':World} (ok:HeapOK L w0 κ h w) {id b:Nat} {c:Nat×Nat} {obj':AObj} (hk:κ id=some (b,c)) (hl:(h id).like obj')
  (hr:RepObj L κ (upd h id obj') w' id obj'):q5c w w' b:=by
 have ho:=ok.obj id
 cases hq:h id with
 | fresh=>rw[hq]at hl;cases obj'<;>exact hl.elim
 | dead=>rw[hq]at hl;cases obj'<;>exact hl.elim
 | ice e t l=>rw[hq]at hl;cases obj'<;>exact hl.elim
 | kid=>rw[hq]at hl;cases obj'<;>exact hl.elim
 | mice ak av tk tv l=>rw[hq]at hl;cases obj'<;>exact hl.elim
 | arrD e t l f =>
  rw[hq]at ho
  rcases ho with⟨h1,-⟩ | ⟨b',cap,cur,h1,h2,-⟩
  ·rw[hk]at h1;cases h1
  ·rw[hk]at h1;cases h1;exact .inl (.inl ⟨_,_,_,h2⟩)
 | mapD ak tk t l f =>
  rw[hq]at ho
  obtain⟨b',c',es,cl,h1,h2,-⟩:=ho
  rw[hk]at h1;cases h1
  exact .inl (.inr (.inl ⟨_,_,h2⟩))
 | iter ak av tk tv l cu =>
  rw[hq]at ho
  obtain⟨b',c',m,s,n,c0,h1,h2,-⟩:=ho
  rw[hk]at h1;cases h1
  exact .inl (.inr (.inr ⟨_,_,_,_,h2⟩))
 | cells l =>
  rw[hq]at ho
  obtain⟨b',c',cs,ty,h1,h2,-⟩:=ho
  rw[hk]at h1;cases h1
  exact .inl (.inl ⟨_,_,_,h2⟩)
 | mapo ak av tk tv l =>
  rw[hq]at ho
  obtain⟨b',c',es,cl,h1,h2,-⟩:=ho
  rw[hk]at h1;cases h1
  exact .inl (.inr (.inl ⟨_,_,h2⟩))
 | mapp ak av tk tv l k g =>
  rw[hq]at ho
  obtain⟨b',c',es,cl,h1,h2,-⟩:=ho
  rw[hk]at h1;cases h1
  exact .inl (.inr (.inl ⟨_,_,h2⟩))
 | arr e t l =>
  rw[hq]at ho
  rcases ho with⟨h1,-⟩ | ⟨b',cap,cur,h1,h2,-⟩
  ·rw[hk]at h1;cases h1
  ·rw[hk]at h1;cases h1;exact .inl (.inl ⟨_,_,_,h2⟩)
 | lrec i s =>
  rw[hq]at ho hl
  cases obj' with
  | lrec i' s' =>
   obtain⟨b',c',r,h1,h2,-⟩:=ho
   obtain⟨b2,c2,r',h3,h4,-⟩:=hr
   rw[hk]at h1 h3;cases h1;cases h3
   exact .inr ⟨r,r',h2,h4⟩
  | _=>exact hl.elim
theorem P3 {κ:A2} {h:Heap} {w w':World} (ok:HeapOK L w0 κ h w) {id b:Nat} {c:Nat×Nat} {obj':AObj} (hk:κ id=some (b,c)) (hl:(h id).like obj')
  (hs:w'.heap.size=w.heap.size) (hb:∀ b',b'≠b->w'.heap[b']? = w.heap[b']?) (hbel:Below w0.heap.size w0 w')
  (hr:RepObj L κ (upd h id obj') w' id obj'):HeapOK L w0 κ (upd h id obj') w' where
 obj j:=by
  by_cases hji:j=id
  ·subst hji;rw[A1];exact hr
  ·rw[A0 h obj' hji]
   by_cases hd:h j=.dead\/h j=.fresh
   ·rcases hd with hd | hd<;>rw[hd]<;>trivial
   ·refine RepObj.ext (N5 hk hl (y4p ok hk hl hr) hs hb) rfl (fun b' c' hk'=>hb b' fun e=>?_) (fun _=>rfl) (fun n b' c' hk'=>hb b' fun e=>by
     subst e
     exact J6 ok (AObj.like_held hl).1.2 j n (ok.inj _ _ b' c' c (q0s ok j n) (AObj.like_live hl).1 hk' hk)) (ok.obj j)
    subst e
    by_cases hlj:(h j).live=true
    ·exact hji (ok.inj j id b' c' c hlj (AObj.like_live hl).1 hk' hk)
    ·cases hj':h j with
     | ice e t l =>
      have:=ok.obj j;rw[hj']at this
      exact(this.2 b' c' hk').2.2 id c (AObj.like_live hl).1 hk
     | mice ak av tk tv l =>
      have:=ok.obj j;rw[hj']at this
      obtain⟨b2,c2,es,cl,h1,h2,-⟩:=this
      rw[hk']at h1;cases h1
      exact h2.2.2 id c (AObj.like_live hl).1 hk
     | dead=>exact hd (.inl hj')
     | fresh=>exact hd (.inr hj')
     | _=>rw[hj']at hlj;exact hlj rfl
 inj i j b' c1 c2 hi hj h1 h2:=by
  have live:∀ i,(upd h id obj' i).live=true->(h i).live=true:=fun i hi=>by
   by_cases e:i=id
   ·subst e;exact(AObj.like_live hl).1
   ·rw[A0 _ _ e]at hi;exact hi
  exact ok.inj i j b' c1 c2 (live i hi) (live j hj) h1 h2
 own i b' c1 hi h1:=by
  have live:(h i).live=true:=by
   by_cases e:i=id
   ·subst e;exact(AObj.like_live hl).1
   ·rw[A0 _ _ e]at hi;exact hi
  rw[hs];exact ok.own i b' c1 live h1
 below:=hbel
 outer b' hL:=⟨by rw[hs];exact(ok.outer b' hL).1,fun i c' hi h1=>by
  have live:(h i).live=true:=by
   by_cases e:i=id
   ·subst e;exact(AObj.like_live hl).1
   ·rw[A0 _ _ e]at hi;exact hi
  exact(ok.outer b' hL).2 i c' live h1⟩
 kids j hj:=by rw[A0 _ _ (fun e=>(AObj.like_held hl).1.2 (by rw[<-e];exact ok.kids j hj))];exact ok.kids j hj
def AObj.gone:AObj->AObj->Prop
 | .arr e t l,.ice e' t' l'=>e=e'/\∃ h:t=t',l'=(h▸l:List t'.den)
 | .ice e t l,.ice e' t' l'=>e=e'/\∃ h:t=t',l'=(h▸l:List t'.den)
 | o,.dead=>o.Held
 | _,_=>False
theorem z76 {o o':AObj} (h:o.gone o'):o.Held:=by
 cases o<;>cases o'<;>simp[AObj.gone]at h ⊢
theorem S2 {κ:A2} {h:Heap} {w:World} {id:Nat} {obj':AObj} (hl:(h id).gone obj'):Ext L κ h w κ (upd h id obj') w where
 place _ _:=rfl
 kid j hj:=by rw[A0 _ _ (fun e=>(z76 hl).2 (by rw[<-e];exact hj))];exact hj
 arrD j e t l f hj:=by
  by_cases hji:j=id
  ·subst hji;rw[A1];rw[hj]at hl
   cases obj'<;>simp[AObj.gone]at hl
   exact .inr (.inr rfl)
  ·rw[A0 _ _ hji];exact .inl ⟨l,f,rfl,hj⟩
 dead j hd:=by
  by_cases e:j=id
  ·subst e;rw[A1];rw[hd]at hl;cases obj'<;>simp[AObj.gone]at hl;rfl
  ·rw[A0 _ _ e];exact hd
 cells j l hj:=by
  by_cases e:j=id
  ·subst e;rw[A1];rw[hj]at hl;cases obj'<;>simp[AObj.gone]at hl;exact .inr rfl
  ·rw[A0 _ _ e];exact .inl ⟨l,hj⟩
 arr j e t l hj:=by
  by_cases hji:j=id
  ·subst hji;rw[A1];rw[hj]at hl
   cases obj' with
   | ice e' t' l' =>
    obtain⟨h1,h2,h3⟩:=hl
    subst h1;subst h2;subst h3
    exact .inl ⟨_,rfl,.inr rfl⟩
   | dead=>exact .inr rfl
   | _=>simp[AObj.gone]at hl
  ·rw[A0 _ _ hji];exact .inl ⟨l,rfl,.inl hj⟩
 ice j e t l hj:=by
  by_cases hji:j=id
  ·subst hji;rw[A1];rw[hj]at hl
   cases obj' with
   | ice e' t' l' =>
    obtain⟨h1,h2,h3⟩:=hl
    subst h1;subst h2;subst h3
    exact .inl rfl
   | dead=>exact .inr rfl
   | _=>simp[AObj.gone]at hl
  ·rw[A0 _ _ hji];exact .inl hj
 lrec j i s hj:=by
  by_cases hji:j=id
  ·subst hji;rw[A1];rw[hj]at hl
   cases obj'<;>simp[AObj.gone]at hl
   exact .inr rfl
  ·rw[A0 _ _ hji];exact .inl ⟨s,hj⟩
 maps j hj:=by
  by_cases hji:j=id
  ·subst hji;rw[A1]
   cases hq:h j<;>rw[hq]at hj hl<;>simp[AObj.isMap]at hj<;>cases obj'<;>simp[AObj.gone]at hl
   all_goals exact .inr rfl
  ·rw[A0 _ _ hji];exact .inl hj
 iter j _ _ _ _ l c hj:=by
  by_cases hji:j=id
  ·subst hji;rw[A1];rw[hj]at hl
   cases obj'<;>simp[AObj.gone]at hl
   exact .inr rfl
  ·rw[A0 _ _ hji];exact .inl ⟨l,c,hj⟩
 size:=Nat.le_refl _
 loops _ r hr:=⟨r,hr⟩
 defs _ hr:=hr
 still b' hf:=by
  obtain⟨h1,h3⟩:=hf
  refine⟨⟨h1,fun j c' hj hkj=>?_⟩,rfl⟩
  by_cases hji:j=id
  ·subst hji;rw[A1]at hj
   cases obj' with
   | ice _ _ _=>simp[AObj.live]at hj
   | dead=>simp[AObj.live]at hj
   | _=>cases hq:h j<;>rw[hq]at hl<;>simp[AObj.gone]at hl
  ·rw[A0 _ _ hji]at hj;exact h3 j c' hj hkj
theorem q6l {o o':AObj} (h:o.gone o'):o'.live=false:=by
 cases o<;>cases o'<;>simp[AObj.gone]at h<;>rfl
theorem X1 {κ:A2} {h:Heap} {w:World} (ok:HeapOK L w0 κ h w) {id:Nat} {obj':AObj} (hl:(h id).gone obj'):HeapOK L w0 κ (upd h id obj') w where
 obj j:=by
  by_cases hji:j=id
  ·subst hji;rw[A1]
   have hx:=S2 (L:=L) (κ:=κ) (w:=w) hl
   have hnl:=q6l hl
   cases obj' with
   | dead=>trivial
   | ice e' t' l' =>
    cases hq:h j with
    | arr e t l =>
     have hro:=ok.obj j
     rw[hq]at hl hro
     obtain⟨h1,h2,h3⟩:=hl
     subst h1;subst h2;subst h3
     refine⟨RepArr.ext hx rfl (fun _ _ _=>rfl) hro,fun b c hk=>?_⟩
     have hlive:(h j).live=true:=by rw[hq];rfl
     have ho:=ok.own j b c hlive hk
     refine⟨ho.2,fun hL=>(ok.outer b hL).2 _ _ hlive hk,fun i c' hi hki=>?_⟩
     by_cases hij:i=j
     ·subst hij;rw[A1]at hi;simp[AObj.live]at hi
     ·rw[A0 _ _ hij]at hi;exact hij (ok.inj i j b c' c hi hlive hki hk)
    | ice e t l =>
     have hro:=ok.obj j
     rw[hq]at hl hro
     obtain⟨h1,h2,h3⟩:=hl
     subst h1;subst h2;subst h3
     exact RepObj.ext hx rfl (fun _ _ _=>rfl) (fun _=>rfl) (fun _ _ _ _=>rfl) hro
    | _=>rw[hq]at hl;simp[AObj.gone]at hl
   | _=>cases hq:h j<;>rw[hq]at hl<;>simp[AObj.gone]at hl
  ·rw[A0 h obj' hji]
   exact RepObj.ext (S2 hl) rfl (fun _ _ _=>rfl) (fun _=>rfl) (fun _ _ _ _=>rfl) (ok.obj j)
 inj i j b' c1 c2 hi hj h1 h2:=by
  have live:∀ i,(upd h id obj' i).live=true->(h i).live=true:=fun i hi=>by
   by_cases e:i=id
   ·subst e;rw[A1,q6l hl]at hi;cases hi
   ·rw[A0 _ _ e]at hi;exact hi
  exact ok.inj i j b' c1 c2 (live i hi) (live j hj) h1 h2
 own i b' c1 hi h1:=by
  have live:(h i).live=true:=by
   by_cases e:i=id
   ·subst e;rw[A1,q6l hl]at hi;cases hi
   ·rw[A0 _ _ e]at hi;exact hi
  exact ok.own i b' c1 live h1
 below:=ok.below
 outer b' hL:=⟨(ok.outer b' hL).1,fun i c' hi h1=>by
  have live:(h i).live=true:=by
   by_cases e:i=id
   ·subst e;rw[A1,q6l hl]at hi;cases hi
   ·rw[A0 _ _ e]at hi;exact hi
  exact(ok.outer b' hL).2 i c' live h1⟩
 kids j hj:=by rw[A0 _ _ (fun e=>(z76 hl).2 (by rw[<-e];exact ok.kids j hj))];exact ok.kids j hj
theorem z1i {κ:A2} {h:Heap} {w:World} {id:Nat} {ak av:Bool} {tk tv:Ty} {l:List (tk.den×tv.den)} (hid:h id=.mapo ak av tk tv l):Ext L κ h w κ (upd h id (.mice ak av tk tv l)) w where
 place _ _:=rfl
 kid j hd:=by rw[A0 _ _ (fun e=>by rw[e,hid]at hd;cases hd)];exact hd
 arrD j e t x f hj:=by rw[A0 _ _ (fun e=>by rw[e,hid]at hj;cases hj)];exact .inl ⟨x,f,rfl,hj⟩
 dead j hd:=by rw[A0 _ _ (fun e=>by rw[e,hid]at hd;cases hd)];exact hd
 cells j x hj:=by rw[A0 _ _ (fun e=>by rw[e,hid]at hj;cases hj)];exact .inl ⟨x,hj⟩
 arr j e t x hj:=by rw[A0 _ _ (fun e=>by rw[e,hid]at hj;cases hj)];exact .inl ⟨x,rfl,.inl hj⟩
 ice j e t x hj:=by rw[A0 _ _ (fun e=>by rw[e,hid]at hj;cases hj)];exact .inl hj
 lrec j i s hj:=by rw[A0 _ _ (fun e=>by rw[e,hid]at hj;cases hj)];exact .inl ⟨s,hj⟩
 maps j hj:=by
  by_cases hji:j=id
  ·subst hji;rw[A1];exact .inl rfl
  ·rw[A0 _ _ hji];exact .inl hj
 iter j _ _ _ _ l c hj:=by rw[A0 _ _ (fun e=>by rw[e,hid]at hj;cases hj)];exact .inl ⟨l,c,hj⟩
 size:=Nat.le_refl _
 loops _ r hr:=⟨r,hr⟩
 defs _ hr:=hr
 still b' hf:=by
  obtain⟨h1,h3⟩:=hf
  refine⟨⟨h1,fun j c' hj hkj=>?_⟩,rfl⟩
  by_cases hji:j=id
  ·subst hji;rw[A1]at hj;cases hj
  ·rw[A0 _ _ hji]at hj;exact h3 j c' hj hkj
theorem j6u {κ:A2} {h:Heap} {w:World} (ok:HeapOK L w0 κ h w) {id:Nat} {ak av:Bool} {tk tv:Ty} {l:List (tk.den×tv.den)} (hid:h id=.mapo ak av tk tv l):HeapOK L w0 κ (upd h id (.mice ak av tk tv l)) w where
 obj j:=by
  by_cases hji:j=id
  ·subst hji;rw[A1]
   have hro:=ok.obj j
   rw[hid]at hro
   obtain⟨b,c,es,cl,h1,h2,h3⟩:=hro
   have hlive:(h j).live=true:=by rw[hid];rfl
   have ho:=ok.own j b c hlive h1
   have hx:=z1i (L:=L) (κ:=κ) (w:=w) hid
   refine⟨b,c,es,cl,h1,⟨ho.2,fun hL=>(ok.outer b hL).2 _ _ hlive h1,fun i c' hi hki=>?_⟩,h2,h3.mono hx.free⟩
   by_cases hij:i=j
   ·subst hij;rw[A1]at hi;cases hi
   ·rw[A0 _ _ hij]at hi;exact hij (ok.inj i j b c' c hi hlive hki h1)
  ·rw[A0 h _ hji]
   exact RepObj.ext (z1i hid) rfl (fun _ _ _=>rfl) (fun _=>rfl) (fun _ _ _ _=>rfl) (ok.obj j)
 inj i j b' c1 c2 hi hj h1 h2:=by
  have live:∀ i,(upd h id (.mice ak av tk tv l) i).live=true->(h i).live=true:=fun i hi=>by
   by_cases e:i=id
   ·subst e;rw[A1]at hi;cases hi
   ·rw[A0 _ _ e]at hi;exact hi
  exact ok.inj i j b' c1 c2 (live i hi) (live j hj) h1 h2
 own i b' c1 hi h1:=by
  have live:(h i).live=true:=by
   by_cases e:i=id
   ·subst e;rw[A1]at hi;cases hi
   ·rw[A0 _ _ e]at hi;exact hi
  exact ok.own i b' c1 live h1
 below:=ok.below
 outer b' hL:=⟨(ok.outer b' hL).1,fun i c' hi h1=>by
  have live:(h i).live=true:=by
   by_cases e:i=id
   ·subst e;rw[A1]at hi;cases hi
   ·rw[A0 _ _ e]at hi;exact hi
  exact(ok.outer b' hL).2 i c' live h1⟩
 kids j hj:=by rw[A0 _ _ (fun e=>by rw[<-e,ok.kids j hj]at hid;cases hid)];exact ok.kids j hj
def R8 (o o':AObj):Prop:=(∃ e t l,o=.arr e t l/\o'=.ice e t l)\/∃ ak av tk tv l,o=.mapo ak av tk tv l/\o'=.mice ak av tk tv l
theorem z1r {κ:A2} {w:World} (h:Heap):∀ (ids:List Nat) (h1:Heap),
  (∀ id,h1 id=h id\/R8 (h id) (h1 id))->HeapOK L w0 κ h1 w ->
  HeapOK L w0 κ (A5 (B0 h ids) h1) w/\Ext L κ h1 w κ (A5 (B0 h ids) h1) w /\
   (∀ id∈ids,∀ o,R8 (h id) o->A5 (B0 h ids) h1 id=o) /\
   (∀ id,A5 (B0 h ids) h1 id=h1 id\/R8 (h id) (A5 (B0 h ids) h1 id))
 | [],h1,_,ok=>⟨ok,Ext.refl _ _ _ _,fun _ hm=>by simp at hm,fun _=>.inl rfl⟩
 | id::ids,h1,hh,ok=>by
  have step:∀ o',R8 (h id) o'->B0 h (id::ids)=(id,o')::B0 h ids->HeapOK L w0 κ (upd h1 id o') w->Ext L κ h1 w κ (upd h1 id o') w->
    HeapOK L w0 κ (A5 (B0 h (id::ids)) h1) w/\Ext L κ h1 w κ (A5 (B0 h (id::ids)) h1) w /\
   (∀ j∈id::ids,∀ o,R8 (h j) o->A5 (B0 h (id::ids)) h1 j=o) /\
   (∀ j,A5 (B0 h (id::ids)) h1 j=h1 j\/R8 (h j) (A5 (B0 h (id::ids)) h1 j)):=by
   intro o' ho' hup ok' ext'
   obtain⟨i1,i2,i3,i4⟩:=z1r h ids (upd h1 id o') (fun j=>by
    by_cases hj:j=id
    ·subst hj;rw[A1];exact .inr ho'
    ·rw[A0 _ _ hj];exact hh j) ok'
   have he:A5 (B0 h (id::ids)) h1=A5 (B0 h ids) (upd h1 id o'):=by rw[hup];rfl
   rw[he]
   have uniq:∀ o1 o2,R8 (h id) o1->R8 (h id) o2->o1=o2:=fun o1 o2 a b=>by
    rcases a with⟨e,t,l,a1,a2⟩ | ⟨ak,av,tk,tv,l,a1,a2⟩<;>rcases b with⟨e',t',l',b1,b2⟩ | ⟨ak',av',tk',tv',l',b1,b2⟩<;>rw[a1]at b1<;>cases b1<;>rw[a2,b2]
   have notself:∀ o,R8 o o->False:=fun o a=>by
    rcases a with⟨e,t,l,a1,a2⟩ | ⟨ak,av,tk,tv,l,a1,a2⟩<;>rw[a1]at a2<;>cases a2
   refine⟨i1,ext'.trans i2,fun j hm o ho=>?_,fun j=>?_⟩
   ·rcases List.mem_cons.1 hm with rfl | hm
    ·rcases i4 j with h2 | h2
     ·rw[h2,A1];exact uniq _ _ ho' ho
     ·exact uniq _ _ h2 ho
    ·exact i3 j hm o ho
   ·rcases i4 j with h2 | h2
    ·by_cases hj:j=id
     ·subst hj;rw[A1]at h2;rw[h2];exact .inr ho'
     ·rw[A0 _ _ hj]at h2;exact .inl h2
    ·exact .inr h2
  cases ho:h id with
  | arr e t l =>
   have hi:R8 (h id) (.ice e t l):=.inl ⟨e,t,l,ho,rfl⟩
   have hg:(h1 id).gone (.ice e t l):=by
    rcases hh id with h2 | h2
    ·rw[h2,ho];exact⟨rfl,rfl,rfl⟩
    ·rcases h2 with⟨e',t',l',h2,h3⟩ | ⟨_,_,_,_,_,h2,h3⟩
     ·rw[ho]at h2;cases h2;rw[h3];exact⟨rfl,rfl,rfl⟩
     ·rw[ho]at h2;cases h2
   exact step _ hi (by simp[B0,ho]) (X1 ok hg) (S2 hg)
  | mapo ak av tk tv l =>
   have hi:R8 (h id) (.mice ak av tk tv l):=.inr ⟨ak,av,tk,tv,l,ho,rfl⟩
   rcases hh id with h2 | h2
   ·rw[ho]at h2
    exact step _ hi (by simp[B0,ho]) (j6u ok h2) (z1i h2)
   ·have h3:h1 id=.mice ak av tk tv l:=by
     rcases h2 with⟨e',t',l',h2,h3⟩ | ⟨_,_,_,_,_,h2,h3⟩
     ·rw[ho]at h2;cases h2
     ·rw[ho]at h2;cases h2;exact h3
    have hs:upd h1 id (.mice ak av tk tv l)=h1:=by
     funext j
     by_cases hj:j=id
     ·subst hj;rw[A1,h3]
     ·rw[A0 _ _ hj]
    exact step _ hi (by simp[B0,ho]) (by rw[hs];exact ok) (by rw[hs];exact Ext.refl _ _ _ _)
  | _ =>
   have he:A5 (B0 h (id::ids)) h1=A5 (B0 h ids) h1:=by simp[B0,ho]
   rw[he]
   obtain⟨i1,i2,i3,i4⟩:=z1r h ids h1 hh ok
   refine⟨i1,i2,fun j hm o hI=>?_,i4⟩
   rcases List.mem_cons.1 hm with rfl | hm
   ·rcases hI with⟨_,_,_,h2,_⟩ | ⟨_,_,_,_,_,h2,_⟩<;>rw[ho]at h2<;>cases h2
   ·exact i3 j hm o hI
def q1i (o:AObj):Prop:=(∃ e t l,o=.arr e t l\/o=.ice e t l)\/∃ ak av tk tv l,o=.mapo ak av tk tv l\/o=.mice ak av tk tv l
theorem S6 {κ:A2} {w:World} {h:Heap} (ids:List Nat) (ok:HeapOK L w0 κ h w) :
  HeapOK L w0 κ (A5 (B0 h ids) h) w/\Ext L κ h w κ (A5 (B0 h ids) h) w /\
   ∀ id∈ids,q1i (h id)->∀ b c,κ id=some (b,c)->A4 L κ (A5 (B0 h ids) h) w b:=by
 obtain⟨h1,h2,h3,h4⟩:=z1r h ids h (fun _=>.inl rfl) ok
 refine⟨h1,h2,fun id hm ho b c hk=>?_⟩
 obtain⟨e,t,l,ho | ho⟩ | ⟨ak,av,tk,tv,l,ho | ho⟩:=ho
 ·have:=h1.obj id;rw[h3 id hm _ (.inl ⟨e,t,l,ho,rfl⟩)]at this;exact this.2 b c hk
 ·have:=ok.obj id;rw[ho]at this;exact(h2.free b (this.2 b c hk)).1
 ·have:=h1.obj id;rw[h3 id hm _ (.inr ⟨ak,av,tk,tv,l,ho,rfl⟩)]at this
  obtain⟨b2,c2,es,cl,q1,q2,-⟩:=this
  rw[hk]at q1;cases q1;exact q2
 ·have:=ok.obj id;rw[ho]at this
  obtain⟨b2,c2,es,cl,q1,q2,-⟩:=this
  rw[hk]at q1;cases q1;exact(h2.free b q2).1
theorem q24 {h hs:Heap}:∀ (ids:List Nat),(∀ id∈ids,hs id=h id)->B0 hs ids=B0 h ids
 | [],_=>rfl
 | id::ids,hh=>by
  have:=q24 ids (fun j hj=>hh j (List.mem_cons_of_mem _ hj))
  have h0:=hh id List.mem_cons_self
  unfold B0 at this ⊢
  rw[List.filterMap_cons,List.filterMap_cons,this,h0]
end Go.Abs
