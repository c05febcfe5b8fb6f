/- The engine: what is owned within a map. -/
import Derived.Test.YtppblbacbmebfaaGreatDoorAbsSoundD
namespace Go.Abs
open Go Go.RowKit
variable {P:Program} {L:Nat->Prop} {w0:World}
structure EntsR (tk:Ty) {β:Type} (R:MapEntry->tk.den×β->Prop) (l:List (tk.den×β)) (es:Array MapEntry) (clock:Nat):Prop where
 flat:tk.flat=true
 rise:l.Pairwise fun p q=>tk.lt p.1 q.1=true
 apart:(es.toList.map (·.born)).Nodup
 early:∀ x∈es.toList,x.born<clock
 ents:∃ p:List (tk.den×β),p.Perm l/\p.length=es.toList.length/\∀ (i:Nat) (x:MapEntry) (q:tk.den×β),es.toList[i]? = some x->p[i]? = some q->R x q
theorem j3c {a:Array MapEntry} (h:(a.toList.map (·.born)).Nodup) {i j:Nat} {x y:MapEntry} (hi:a.toList[i]? = some x) (c:a.toList[j]? = some y) (b:x.born=y.born):i=j:=by
 refine(List.getElem_inj (h₀:=by grind) (h₁:=by grind) h).1 ?_
 grind
theorem q7o {c:Ty} (g:c.flat=true) {d:Type} {p l:List (c.den×d)} (e:p.Perm l) (h:l.Pairwise fun p q=>c.lt p.1 q.1=true) {i j:Nat} {a b:c.den×d} (hi:p[i]? = some a) (k:p[j]? = some b) (m:a.1=b.1):i=j:=by
 have n:=j78 e h g
 have f:(p.map (·.1)).Nodup:=by grind
 refine(List.getElem_inj (h₀:=by grind) (h₁:=by grind) f).1 ?_
 grind
section
variable {tk:Ty} {β:Type} {R R':MapEntry->tk.den×β->Prop} {l:List (tk.den×β)} {es:Array MapEntry} {clock:Nat}
open Classical in
theorem EntsR.find {K:TypeId} {ak:Bool} (hK:KeyTy P K ak tk) {w w1 w':World} {A A':Nat->Prop} (hr:EntsR tk R l es clock) (hkey:∀ x q,R x q->RepVal w A ak tk x.key q.1) {v:Value} {k:tk.den} (hv:RepVal w' A' ak tk v k) :
  ∃ p:List (tk.den×β),p.Perm l/\p.length=es.toList.length/\(∀ (i:Nat) (x:MapEntry) (q:tk.den×β),es.toList[i]? = some x->p[i]? = some q->R x q) /\
   ((∃ i x q,es.toList[i]? = some x/\p[i]? = some q/\q.1=k/\(Instr.findKey K v es.toList).run P w1=.ok (some (i,x.val)) w1/\A9 tk l k=some q.2) \/
    ((∀ q∈p,q.1≠k)/\(Instr.findKey K v es.toList).run P w1=.ok none w1/\A9 tk l k=none)):=by
 obtain⟨p,hp,hlen,hent⟩:=hr.ents
 refine⟨p,hp,hlen,hent,?_⟩
 let b:MapEntry->Bool:=fun e=>if ∃ y,RepVal w A ak tk e.key y/\tk.eqb k y=true then true else false
 have hb:∀ (i:Nat) (x:MapEntry) (q:tk.den×β),es.toList[i]? = some x->p[i]? = some q->b x=tk.eqb k q.1:=fun i x q h1 h2=>by
  have h3:=hkey _ _ (hent i x q h1 h2)
  cases hq:tk.eqb k q.1 with
  | true=>exact if_pos ⟨q.1,h3,hq⟩
  | false =>
   refine if_neg ?_
   rintro ⟨y,h4,h5⟩
   rw[RepVal.uniq hr.flat h4 h3,hq]at h5;cases h5
 have hrun:=hK.find w1 w' A' v k b es.toList hv (fun e he=>by
  obtain⟨i,hi⟩:=List.getElem?_of_mem he
  have hlt:i<p.length:=by rw[hlen];exact(List.getElem?_eq_some_iff.1 hi).1
  have hk':tk.flat=true:=hr.flat
  have h3:=hkey _ _ (hent i e p[i] hi (List.getElem?_eq_getElem hlt))
  refine⟨p[i].1,?_,hb i e p[i] hi (List.getElem?_eq_getElem hlt)⟩
  exact RepVal.flatMono hk' h3)
 cases hfi:es.toList.findIdx? b with
 | none =>
  refine .inr ⟨fun q hq e=>?_,by rw[hrun,hfi];rfl,(q2m hr.flat).2 fun q hq e=>?_⟩
  ·obtain⟨i,hi⟩:=List.getElem?_of_mem hq
   have hlt:i<es.toList.length:=by rw[<-hlen];exact(List.getElem?_eq_some_iff.1 hi).1
   have h1:=List.findIdx?_eq_none_iff.1 hfi _ (List.getElem_mem hlt)
   rw[hb i _ q (List.getElem?_eq_getElem hlt) hi,e,tk.eqb_self hr.flat]at h1;cases h1
  ·obtain⟨i,hi⟩:=List.getElem?_of_mem (hp.mem_iff.2 hq)
   have hlt:i<es.toList.length:=by rw[<-hlen];exact(List.getElem?_eq_some_iff.1 hi).1
   have h1:=List.findIdx?_eq_none_iff.1 hfi _ (List.getElem_mem hlt)
   rw[hb i _ q (List.getElem?_eq_getElem hlt) hi,e,tk.eqb_self hr.flat]at h1;cases h1
 | some i =>
  obtain⟨hlt,hbi,_⟩:=List.findIdx?_eq_some_iff_getElem.1 hfi
  have hlt':i<p.length:=by rw[hlen];exact hlt
  have hbq:=hb i _ p[i] (List.getElem?_eq_getElem hlt) (List.getElem?_eq_getElem hlt')
  rw[hbi]at hbq
  have hk:=(tk.eqb_iff hr.flat _ _).1 hbq.symm
  refine .inl ⟨i,es.toList[i],p[i],List.getElem?_eq_getElem hlt,List.getElem?_eq_getElem hlt',hk.symm,?_,?_⟩
  ·rw[hrun,hfi,Option.bind_some,List.getElem?_eq_getElem hlt];rfl
  ·refine(W0 hr.flat hr.rise).2 (hp.mem_iff.1 ?_)
   rw[hk];exact List.getElem_mem hlt'
theorem EntsR.imp (d:EntsR tk R l es clock) (h:∀ x q,R x q->R' x q):EntsR tk R' l es clock:=by
 obtain⟨p,j,f,e⟩:=d.ents
 exact⟨d.flat,d.rise,d.apart,d.early,p,j,f,fun i x q a b=>h x q (e i x q a b)⟩
theorem EntsR.setAt (b:EntsR tk R l es clock) {p:List (tk.den×β)} (w:p.Perm l) (m:p.length=es.toList.length)
  (n:∀ (i:Nat) (x:MapEntry) (q:tk.den×β),es.toList[i]? = some x->p[i]? = some q->R x q) {i:Nat} {x:MapEntry} {q:tk.den×β} (h1:es.toList[i]? = some x) (t:p[i]? = some q)
  {kv vv:Value} {y:β} (o:R' { x with key:=kv,val:=vv } (q.1,y)) (h:∀ j z r,j≠i->es.toList[j]? = some z->p[j]? = some r->R z r->R' z r) {f:MapEntry->MapEntry} (u:f x={ x with key:=kv,val:=vv }):EntsR tk R' (B0 tk l q.1 y) (es.modify i f) clock:=by
 have s:(es.modify i f).toList=es.toList.set i { x with key:=kv,val:=vv }:=by
  apply List.ext_getElem?
  grind
 refine⟨b.flat,q0l b.flat b.rise,?_,fun z c=>?_,p.set i (q.1,y),j1a b.flat w b.rise t y,by grind,fun j z r c v=>?_⟩
 ·rw[s,List.map_set]
  have:(es.toList.map (·.born)).set i x.born=es.toList.map (·.born):=by
   apply List.ext_getElem?
   grind
  rw[this];exact b.apart
 ·rw[s]at c
  rcases List.mem_or_eq_of_mem_set c with c | c
  ·exact b.early z c
  ·rw[c];exact b.early x (List.mem_of_getElem? h1)
 grind
theorem EntsR.pushAt (d:EntsR tk R l es clock) {p:List (tk.den×β)} (C:p.Perm l) (t:p.length=es.toList.length)
  (s:∀ (i:Nat) (x:MapEntry) (q:tk.den×β),es.toList[i]? = some x->p[i]? = some q->R x q) {k:tk.den} (m:∀ q∈p,q.1≠k)
  {kv vv:Value} {y:β} (u:R' { key:=kv,val:=vv,born:=clock } (k,y)) (n:∀ z r,z∈es.toList->r∈p->R z r->R' z r):EntsR tk R' (B0 tk l k y) (es.push { key:=kv,val:=vv,born:=clock }) (clock+1):=by
 refine⟨d.flat,q0l d.flat d.rise,?_,fun z f=>?_,p++[(k,y)],j7g d.flat C d.rise m y,by grind,fun j z r f v=>?_⟩
 ·rw[Array.toList_push,List.map_append,List.nodup_append]
  refine⟨d.apart,by simp,fun a w b B e=>?_⟩
  simp at B
  obtain⟨x,A,rfl⟩:=List.mem_map.1 w
  have:=d.early x A
  omega
 ·rw[Array.toList_push]at f
  rcases List.mem_append.1 f with f | f
  ·have:=d.early z f;omega
  grind
 grind
theorem y8l (l:List (tk.den×β)) (k:tk.den) (x:β):(T8 tk l k x).map (·.1)=l.map (·.1):=by
 grind[T8,List.map_congr_left]
theorem y8m {l:List (tk.den×β)} (h:l.Pairwise fun p q=>tk.lt p.1 q.1=true) (k:tk.den) (x:β):(T8 tk l k x).Pairwise fun p q=>tk.lt p.1 q.1=true:=by
 have e:(l.map (·.1)).Pairwise fun a b=>tk.lt a b=true:=List.pairwise_map.2 h
 grind[y8l]
theorem EntsR.put (d:EntsR tk R l es clock) {p:List (tk.den×β)} (h1:p.Perm l) (r:p.length=es.toList.length) {k:tk.den} {x:β}
  (b:∀ (i:Nat) z q,es.toList[i]? = some z->p[i]? = some q->(q.1=k->R' z (q.1,x))/\(q.1≠k->R' z q)):EntsR tk R' (T8 tk l k x) es clock:=by
 refine⟨d.flat,y8m d.rise k x,d.apart,d.early,p.map fun p=>cond (tk.eqb k p.1) (p.1,x) p,h1.map _,by grind,fun i z q m j=>?_⟩
 rw[List.getElem?_map,Option.map_eq_some_iff]at j
 obtain⟨h,f,rfl⟩:=j
 cases n:tk.eqb k h.1 with
 | true=>exact(b i z h m f).1 ((tk.eqb_iff d.flat _ _).1 n).symm
 | false=>exact(b i z h m f).2 fun e=>by rw[e,tk.eqb_self d.flat]at n;grind
end
abbrev RK (L:Nat->Prop) (κ:A2) (h:Heap) (w:World) (id:Nat) (ak:Bool) (tk:Ty) (t:KTy) (f:Option (tk.den×Nat)) (x:MapEntry) (q:tk.den×t.den):Prop :=
 RepVal w (A3 L κ h w) ak tk x.key q.1/\x.val.oneCell'=true/\RepPart L κ h w (kn id x.born) (q2y tk f q.1) t x.val q.2
theorem EntsK.r {κ:A2} {h:Heap} {w:World} {id:Nat} {d:Bool} {c:Ty} {t:KTy} {f:Option (c.den×Nat)} {l:List (c.den×t.den)} {e:Array MapEntry} {a:Nat} (b:EntsK L κ h w id d c t f l e a):EntsR c (RK L κ h w id d c t f) l e a:=⟨b.flat,b.rise,b.apart,b.early,b.ents⟩
theorem EntsR.k {κ:A2} {h:Heap} {w:World} {id:Nat} {d:Bool} {c:Ty} {t:KTy} {f:Option (c.den×Nat)} {l:List (c.den×t.den)} {e:Array MapEntry} {a:Nat} (b:EntsR c (RK L κ h w id d c t f) l e a):EntsK L κ h w id d c t f l e a:=⟨b.flat,b.rise,b.apart,b.early,b.ents⟩
theorem q8h (a:Ty) (k:a.den):q2y a none k=none:=rfl
theorem j0m {a:Ty} (b:a.flat=true) (k:a.den) (g:Nat):q2y a (some (k,g)) k=some g:=if_pos (a.eqb_self b k)
theorem q8g {a:Ty} (b:a.flat=true) {k j:a.den} (h:j≠k) (g:Nat):q2y a (some (k,g)) j=none:=if_neg fun e=>h ((a.eqb_iff b _ _).1 e).symm
theorem z08 {h hs:Heap} {a:Ty} {t:KTy} {l l1:List (a.den×t.den)} {f:Option (a.den×Nat)} {u:List (Nat×AObj)} (b:V0 h a t l f=some (l1,u)) (c:∀ p∈u,hs p.1=h p.1):V0 hs a t l f=some (l1,u):=by
 cases f with
 | none=>exact b
 | some q =>
  obtain⟨i,g⟩:=q
  simp[V0,Option.map_eq_some_iff,Prod.mk.injEq]at b ⊢
  obtain⟨x,d,rfl,rfl⟩:=b
  exact⟨x,by rw[c (g,.dead) (by simp),q0c (h:=h)];omega,rfl,rfl⟩
theorem q4k {κ:A2} {h:Heap} {w:World} (E:HeapOK L w0 κ h w) {id:Nat} {m:Bool} {a:Ty} {t:KTy} {l l1:List (a.den×t.den)} {f:Option (a.den×Nat)} {u:List (Nat×AObj)} (e:h id=.mapD m a t l f) (O:V0 h a t l f=some (l1,u)) :
  ∃ d,(HeapOK L w0 d (upd (A5 u h) id (.mapD m a t l1 none)) w/\Ext L κ h w d (upd (A5 u h) id (.mapD m a t l1 none)) w)/\(∀ b,A3 L κ h w b->A3 L d (upd (A5 u h) id (.mapD m a t l1 none)) w b)/\∀ p∈u,p.1≠id/\(h p.1).Held:=by
 cases f with
 | none =>
  cases O
  have he:upd (A5 [] h) id (.mapD m a t l none)=h:=q48 h id _ e
  grind[Ext.refl]
 | some q =>
  obtain⟨k,g⟩:=q
  simp[V0,Option.map_eq_some_iff,Prod.mk.injEq]at O
  obtain⟨x,H,rfl,rfl⟩:=O
  have C:=E.obj id
  rw[e]at C
  obtain⟨b,c,F,S,r1,W,r⟩:=C
  have K:g≠id:=q6i H (.inr ⟨_,_,_,_,_,e⟩)
  have D:(h g).live=true/\(h g).Held:=by
   cases t<;>cases Y:h g<;>rw[Y]at H<;>first | cases H;done | exact⟨rfl,by simp⟩
  obtain⟨p,R,U,T⟩:=r.ents
  have J:∀ n,(∀ (i:Nat) z q,F.toList[i]? = some z->p[i]? = some q->(q.1=k->z.born=n)/\(q.1≠k->z.born≠n))->_:=fun n M =>
   z65 (i:=n) E (id:=id) (g:=g) (obj':=.mapD m a t (T8 a l k x) none) (by simp_all) (by rw[e];rfl) D.1 D.2 K (by rw[e];exact .mapD _ _ _ _ _ _ _ _ _ _) (fun G=>by
    refine⟨b,c,F,S,?_,W,(EntsR.put r.r R U fun i z q s v=>⟨fun j=>?_,fun j=>?_⟩).k⟩
    ·rw[A0 _ _ (fun N=>I3 E (by grind) id n N.symm)];omega
    ·obtain⟨Q,I,B⟩:=T i z q s v
     rw[j,j0m r.flat]at B
     refine⟨Q.mono fun b y=>⟨G b y,rfl⟩,I,?_⟩
     exact(q4f E G H B.1 (by grind[A1])).1
    ·obtain⟨Q,I,B⟩:=T i z q s v
     rw[q8g r.flat j]at B
     refine⟨Q.mono fun b y=>⟨G b y,rfl⟩,I,?_⟩
     exact RepKid.at G (A0 _ _ (fun N=>(M i z q s v).2 j (N0 N).2)) B)
  have o:∀ n,(∀ (i:Nat) z q,F.toList[i]? = some z->p[i]? = some q->(q.1=k->z.born=n)/\(q.1≠k->z.born≠n))->∃ d,(HeapOK L w0 d (upd (A5 [(g,.dead)] h) id (.mapD m a t (T8 a l k x) none)) w/\Ext L κ h w d (upd (A5 [(g,.dead)] h) id (.mapD m a t (T8 a l k x) none)) w)/\(∀ b,A3 L κ h w b->A3 L d (upd (A5 [(g,.dead)] h) id (.mapD m a t (T8 a l k x) none)) w b)/\∀ p∈[(g,AObj.dead)],p.1≠id/\(h p.1).Held:=fun n M=>by
   obtain⟨h1,h2⟩:=J n M
   exact⟨_,h1,h2,fun p hp=>by grind⟩
  by_cases A:∃ (i:Nat) (z:MapEntry) (q:a.den×t.den),F.toList[i]? = some z/\p[i]? = some q/\q.1=k
  ·obtain⟨i0,V,q0,X,Z,e3⟩:=A
   refine o V.born fun i z q s v=>⟨fun j=>?_,fun j y=>j ?_⟩
   ·have:=q7o r.flat R r.rise v Z (j.trans e3.symm)
    grind
   ·have:=j3c r.apart s X y
    grind
  ·refine o S fun i z q s v=>⟨fun j=>absurd ⟨i,z,q,s,v,j⟩ A,fun _ y=>?_⟩
   have:=r.early z (List.mem_of_getElem? s)
   omega
theorem j6j {R:Type} {C:Ctx} (c:∀ t d,C.TI t=some d->d.OK P t) {T:TypeId} {f:Bool} {h:Ty} {t:KTy} {K:Option R} {z:R} (b:z2e C T f h t K=some z) :
  ∃ k v,∃ a:TInfo,P.underlying T=some (.map k v)/\KeyTy P k f h/\a.OK P v/\a.size=1/\a.agg=false/\t.zeroB a.zeros=true/\K=some z:=by
 unfold z2e at b
 split at b
 ·rename_i d m
  split at b
  ·rename_i k v q
   split at b
   ·rename_i e a n i
    obtain⟨g,b⟩:=A8 b
    simp only[Bool.and_eq_true,Bool.not_eq_true']at g
    obtain⟨⟨⟨j,l⟩,o⟩,p⟩:=g
    exact⟨k,v,a,(c T d m).mapT k v q,q7n (c k e n) j,c v a i,Nat.eq_of_beq_eq_true l,o,p,b⟩
   grind
  grind
 grind
def j29 (t:KTy) (v:Value):Prop:=match t with
 | .arr _ _=>v=.slice none 0 0
 | .map _ _ _ _=>v=.map none
 | .ptr _=>v=.pointer none
def y1a (t:KTy) (v:Value):Prop:=match t with
 | .arr _ _=>False
 | .map _ _ _ _=>v=.map none
 | .ptr _=>v=.pointer none
theorem v7p {V:TypeId} {c:TInfo} (h:c.OK P V) (hs:c.size=1) (p:c.agg=false) {t:KTy} (o:t.zeroB c.zeros=true) (w:World):∃ v,(zeroValue V).run P w=.ok v w/\v.oneCell'=true/\j29 t v:=by
 obtain⟨i,a,q,r,-,f,x,B,e,d⟩:=h.zero_one (L:=fun _=>False)
 have u:=h.zeroT i a q f
 obtain⟨b,C⟩:∃ b,a.cells.toList=[b]:=by
  match E:a.cells.toList with
  | [b]=>grind
  | []=>simp_all
  | _::_::_=>grind[Array.length_toList]
 have z:=e (fun _=>none) (fun _=>.fresh) w
 have m:∀ s,c.zeros=[s]->RepSV (fun _=>False) (fun _=>none) (fun _=>.fresh) w s b:=fun s A=>(z.2 0 s b (by grind) (by grind)).1
 have j:a=b:=by
  have F:a.cells=#[a]:=by cases a<;>first | rfl | grind[q4d]
  grind
 subst j
 refine⟨a,by unfold zeroValue;simp[q61 q,f],d a (by grind),?_⟩
 have l:∀ g,t.zeroB g=true->(match t with
  | .arr _ _=>g=[.nils]
  | .map _ _ _ _=>g=[.mpn]
  | .ptr _=>g=[.nilp]):=by
  intro g o
  unfold KTy.zeroB at o
  grind
 have n:=l _ o
 cases t with
 | arr D y=>exact m _ n
 | map H I k G=>exact m _ n
 | ptr y=>exact m _ n
theorem y60 {κ:A2} {h:Heap} {w:World} (o:HeapOK L w0 κ h w) {id g:Nat} {r:Bool} {d:Ty} {t:KTy} {l:List (d.den×t.den)} {k:d.den} (a:h id=.mapD r d t l none) (u:A9 d l k=none) :
  HeapOK L w0 κ (upd h id (.mapD r d t l (some (k,g)))) w/\Ext L κ h w κ (upd h id (.mapD r d t l (some (k,g)))) w:=by
 have m:Moves κ h κ (upd h id (.mapD r d t l (some (k,g)))) (fun j=>j):=by
  refine⟨fun j b c s I=>⟨?_,c,I⟩,fun i j b c Q O _ _ _ _ J=>J⟩
  by_cases e:j=id
  ·rw[e,a];rfl
  grind[A0]
 refine q56 o m (fun _ _=>rfl) (fun j=>?_) (fun j s=>?_) (fun j=>?_)
 ·by_cases e:j=id
  ·rw[e,A1,a];exact .mapD _ _ _ _ _ _ _ _ _ _
  ·rw[A0 _ _ e];exact .same _
 ·rw[A0 _ _ (fun e=>by rw[<-e,o.kids j s]at a;grind)];exact o.kids j s
 ·by_cases e:j=id
  ·left
   rw[e,A1]
   have n:=o.obj id
   rw[a]at n
   obtain⟨b,c,N,F,H,G,f⟩:=n
   refine⟨b,c,N,F,H,G,⟨f.flat,f.rise,f.apart,f.early,?_⟩⟩
   obtain⟨p,y,B,M⟩:=f.ents
   refine⟨p,y,B,fun i x q E z=>?_⟩
   obtain⟨C,K,A⟩:=M i x q E z
   have v:q.1≠k:=(q2m f.flat).1 u q (y.mem_iff.1 (List.mem_of_getElem? z))
   rw[q8g f.flat v]
   exact⟨C.mono fun b D=>⟨m.free b D,rfl⟩,K,RepKid.at m.free rfl A⟩
  grind[A0]
theorem z5i {h hs:Heap} {b:Bool} {a:Ty} {v:AV} {k:I8 [(b,a)]} (c:F5 h [(b,a)] [v]=some (k,[])):F5 hs [(b,a)] [v]=some (k,[]) :=
 T0 _ _ _ _ c (fun j d=>by grind)
theorem j6b {o:Oper} {T:TypeId} {m i:Operand} (t:o.op=.lookup T m i false) {a:Act} {w:World} {b:Nat} {f:Array MapEntry} {r:Nat} {e n:TypeId} (k:P.underlying T=some (.map e n)) (p:a.eval m=.map (some b)) (l:w.heap[b]? = some (.map f r))
  (d:(Instr.checkKey f.isEmpty 10000 e (a.eval i)).run P w=.ok () w) {u:Value} (s:(∃ j,(Instr.findKey e (a.eval i) f.toList).run P w=.ok (some (j,u)) w)\/((Instr.findKey e (a.eval i) f.toList).run P w=.ok none w/\(zeroValue n).run P w=.ok u w)) :
  (execOp a.eval o).run P w=.ok (.value u) w:=by
 have h:(Instr.lookup T (a.eval m) (a.eval i) false).run P w=.ok u w:=by
  unfold Instr.lookup
  rcases s with⟨j,g⟩ | ⟨g,q⟩
  ·simp[run_underlying k,p,K7 l,d,g]
  ·simp[run_underlying k,p,K7 l,d,g,q]
 grind[execOp,Sem.run_bind,Result.andThen_ok,Sem.run_pure]
theorem v5i {R:Type} {C:Ctx} (hti:∀ t ti,C.TI t=some ti->ti.OK P t) {o:Oper} {T:TypeId} {m i:Operand} (ho:o.op=.lookup T m i false) {ρ:Env} {h:Heap} {id id':Nat} (hm:ev ρ m=.one (.mp id)) {K:Eff->Option R} {z:R}
  (he:z7p C T id (ev ρ i) h id' K=some z):∃ q,K q=some z/\q.full=none/\(∀ j,q.rd≠[j])/\∀ r e,ev r m=ev ρ m->ev r i=ev ρ i->(∀ j∈q.rd,e j=h j)->(∀ p∈q.ups,e p.1=h p.1)->A6 P L w0 o r e (q.heap e) q.av:=by
 have hdef:∀ c,o.op≠.defer c:=fun c hc=>by grind
 unfold z7p at he
 split at he
 ·rename_i E n t l f hid
  split at he
  ·rename_i D u k hcl hkey
   obtain⟨KT,VT,tiv,hT,hK,htv,hts,htag,hzb,he2⟩:=j6j hti he
   obtain⟨hfr,he3⟩:=O2 he2
   have base:∀ (e:Heap),e id=h id->(∀ p∈u,e p.1=h p.1)->∀ r,ev r m=ev ρ m->ev r i=ev ρ i->∀ κ (a:Act) w,(∀ x,RepAV L κ e w (ev r x) (a.eval x))->HeapOK L w0 κ e w ->
     ∃ κ1 b c X cl,∃ p:List (n.den×t.den),∃ v:Value,(HeapOK L w0 κ1 (upd (A5 u e) id (.mapD E n t D none)) w/\Ext L κ e w κ1 (upd (A5 u e) id (.mapD E n t D none)) w)/\(∀ p∈u,p.1≠id/\(e p.1).Held) /\
      κ1 id=some (b,c)/\w.heap[b]? = some (.map X cl)/\EntsK L κ1 (upd (A5 u e) id (.mapD E n t D none)) w id E n t none D X cl/\p.Perm D /\
      (∀ (i:Nat) (x:MapEntry) (q:n.den×t.den),X.toList[i]? = some x->p[i]? = some q->RK L κ1 (upd (A5 u e) id (.mapD E n t D none)) w id E n t none x q)/\p.length=X.toList.length /\
      (execOp a.eval o).run P w=.ok (.value v) w /\
      ((∃ (i0:Nat) (x:MapEntry) (q:n.den×t.den),X.toList[i0]? = some x/\p[i0]? = some q/\q.1=k.1/\v=x.val/\A9 n D k.1=some q.2) \/
       (A9 n D k.1=none/\j29 t v)):=by
    intro e hsid hsu r H M κ a w U ok
    have hids:e id=.mapD E n t l f:=hsid.trans hid
    obtain⟨κ1,h1,h2,h4⟩:=q4k ok hids (z08 hcl hsu)
    have hob:=h1.1.obj id
    rw[A1]at hob
    obtain⟨b,c,X,cl,r1,r2,N⟩:=hob
    have hmv:=U m
    rw[H,hm]at hmv
    obtain⟨hh,b',c',q1,q2⟩:=hmv
    have:=(h1.2.place id hh).trans q1
    rw[r1]at this
    simp[Option.some.injEq,Prod.mk.injEq]at this
    obtain⟨rfl,rfl⟩:=this
    have hkv:=q1n U ok N.flat (i:=i) (k:=k) (ids:=[]) (by grind[z5i])
    have hchk:=hK.chk X.isEmpty w w _ _ _ hkv
    obtain⟨p,hp,S,G,A⟩:=N.r.find (w1:=w) hK (fun x q hx=>hx.1) hkv
    rcases A with⟨j,x,q,O,F,e3,e4,e5⟩ | ⟨O,F,e3⟩
    ·exact⟨κ1,b,c,X,cl,p,x.val,h1,h4,r1,r2,N,hp,G,S,j6b ho hT q2 r2 hchk (.inl ⟨j,e4⟩),.inl ⟨j,x,q,O,F,e3,rfl,e5⟩⟩
    ·obtain⟨zv,z1,z2,z3⟩:=v7p htv hts htag hzb w
     grind[j6b]
   obtain⟨s,og,hk,d⟩:=j0i he3
   cases og with
   | none =>
    refine⟨_,hk,rfl,(by grind),fun r e H M hrd hup=>I4 hdef fun κ a w U ok=>?_⟩
    obtain⟨κ1,b,c,X,cl,p,v,h1,h4,r1,r2,N,hp,G,S,hex,A⟩:=base e (hrd id (by simp)) (fun p hp=>hup p (by grind)) r H M κ a w U ok
    have J:Eff.heap { av:=.one s,rd:=[id,id],ups:=u++[(id,.mapD E n t D none)],full:=none } e=upd (A5 u e) id (.mapD E n t D none):=by
     show A5 (u++_) e=_
     rw[I9];rfl
    rw[J]
    refine⟨κ1,v,w,hex,h1.1,?_,h1.2⟩
    have Z:y1a t v:=by
     rcases A with⟨i0,x,q,O,F,e3,e4,e5⟩ | ⟨O,F⟩
     ·have B:=(G i0 x q O F).2.2
      rw[q8h]at B
      rw[e5,Option.getD_some]at d
      rw[e4]
      cases t with
      | arr F V=>cases d
      | map E av kk vt =>
       cases hq:q.2 with
       | none=>rw[hq]at B;exact B.2
       | some l2=>rw[hq]at d;cases d
      | ptr V =>
       cases hq:q.2 with
       | none=>rw[hq]at B;exact B.2
       | some l2=>rw[hq]at d;cases d
     ·rw[O,Option.getD_none]at d
      cases t with
      | arr F V=>cases d
      | map E av kk vt=>exact F
      | ptr V=>exact F
    cases t with
    | arr F V=>exact Z.elim
    | map ak2 av2 kk vt =>
     have I:s=.mpn:=by
      generalize (A9 n D k.1).getD (KTy.map ak2 av2 kk vt).zero=y at d
      cases y with
      | none=>cases d;rfl
      | some l2=>cases d
     rw[I];exact Z
    | ptr V =>
     have I:s=.nilp:=by
      generalize (A9 n D k.1).getD (KTy.ptr V).zero=y at d
      cases y with
      | none=>cases d;rfl
      | some l2=>cases d
     rw[I];exact Z
   | some og =>
    refine⟨_,hk,rfl,(by grind),fun r e H M hrd hup=>I4 hdef fun κ a w U ok=>?_⟩
    obtain⟨κ1,b,c,X,cl,p,v,h1,h4,r1,r2,N,hp,G,S,hex,A⟩:=base e (hrd id (by simp)) (fun p hp=>hup p (by grind)) r H M κ a w U ok
    have hfs:e id'=.fresh:=(hup (id',og) (by simp)).trans hfr
    have W:id'≠id:=fun e0=>by grind
    have Y:upd (A5 u e) id (.mapD E n t D none) id'=.fresh:=by
     rw[A0 _ _ W,q3f u e (z55 h4 hfs)];omega
    have J:Eff.heap { av:=.one s,rd:=[id,id],ups:=u++[(id,.mapD E n t D (some (k.1,id'))),(id',og)],full:=none } e=upd (upd (upd (A5 u e) id (.mapD E n t D none)) id (.mapD E n t D (some (k.1,id')))) id' og:=by
     show A5 (u++_) e=_
     rw[I9,q11];rfl
    rw[J]
    rcases A with⟨i0,x,q,O,F,e3,e4,e5⟩ | ⟨O,F⟩
    ·have B:=(G i0 x q O F).2.2
     rw[q8h]at B
     rw[e5,Option.getD_some]at d
     have B:RepKid L κ1 (upd (A5 u e) id (.mapD E n t D none)) w (kn id x.born) t v q.2:=by rw[e4];exact B
     obtain⟨g1,g2⟩:=j0k h1.1 (id:=id) (g:=id') (i:=x.born) (obj':=.mapD E n t D (some (k.1,id'))) (og:=og) (by rw[A1];simp) (by rw[A1];rfl) Y (by rw[A1];exact .mapD _ _ _ _ _ _ _ _ _ _) (fun hf=>by
      have hkg:upd (upd κ1 id' (κ1 (kn id x.born))) (kn id x.born) none id'=κ1 (kn id x.born):=by
       rw[A0 _ _ (fun e0=>I3 h1.1 (N8 Y) id x.born e0.symm),A1]
      obtain⟨s',o',hk',I,_⟩:=q3r hf hkg B d
      simp[Option.some.injEq,Prod.mk.injEq]at hk'
      obtain⟨rfl,rfl⟩:=hk'
      obtain⟨hs1,hs2⟩:=I
      obtain⟨k1,k2,k3,k4⟩:=hs2 (A1 _ _ _)
      subst hs1
      refine⟨⟨b,c,X,cl,?_,r2,⟨N.flat,N.rise,N.apart,N.early,p,hp,S,fun j x' q' hx' hq'=>?_⟩⟩,k2⟩
      ·rw[A0 _ _ (fun e0=>I3 h1.1 (by rw[A1];simp) id x.born e0.symm),A0 _ _ (Ne.symm W)];exact r1
      ·obtain⟨a1,a2,a3⟩:=G j x' q' hx' hq'
       rw[q8h]at a3
       by_cases hkk:q'.1=k.1
       ·have:=q7o N.flat hp N.rise hq' F (hkk.trans e3.symm)
        subst this
        rw[hx']at O;cases O
        rw[hq']at F;cases F
        have ho:q2y n (some (k.1,id')) q.1=some id':=by rw[e3];exact j0m N.flat _ _
        rw[ho]
        refine⟨a1.mono fun b hb=>⟨hf b hb,rfl⟩,a2,?_⟩
        rw[<-e4]
        exact⟨k1,by rw[A1];exact k3⟩
       ·rw[q8g N.flat hkk]
        refine⟨a1.mono fun b hb=>⟨hf b hb,rfl⟩,a2,RepKid.at hf ?_ a3⟩
        have hbn:x'.born≠x.born:=fun e0=>by
         have:=j3c N.apart hx' O e0
         subst this
         rw[hq']at F;cases F;exact hkk e3
        rw[A0 _ _ (fun e0=>hbn (N0 e0).2),A0 _ _ (I3 h1.1 (N8 Y) id x'.born)])
     have hkg:upd (upd κ1 id' (κ1 (kn id x.born))) (kn id x.born) none id'=κ1 (kn id x.born):=by
      rw[A0 _ _ (fun e0=>I3 h1.1 (N8 Y) id x.born e0.symm),A1]
     refine⟨_,v,w,hex,g1.1,?_,h1.2.trans g1.2⟩
     obtain⟨s',o',hk',I,_⟩:=q3r (κ1:=upd (upd κ1 id' (κ1 (kn id x.born))) (kn id x.born) none) (h1:=upd (upd (upd (A5 u e) id (.mapD E n t D none)) id (.mapD E n t D (some (k.1,id')))) id' og) g2 hkg B d
     obtain⟨rfl,rfl⟩:=hk'
     exact(I.2 (A1 _ _ _)).1
    ·
     rw[O,Option.getD_none]at d
     cases t with
     | map ak2 av2 kk vt=>cases d
     | ptr V=>cases d
     | arr e2' V =>
      cases d
      obtain⟨f1,f2⟩:=y60 h1.1 (g:=id') (k:=k.1) (A1 _ _ _) O
      have hf2:upd (upd (A5 u e) id (.mapD E n (.arr e2' V) D none)) id (.mapD E n (.arr e2' V) D (some (k.1,id'))) id'=.fresh:=by rw[A0 _ _ W];exact Y
      refine⟨_,v,w,hex,q2k f1 e2' V hf2,⟨?_,by rw[show v=_ from F];rfl⟩,(h1.2.trans f2).trans (q1h e2' V hf2)⟩
      rw[A1];exact .inl ⟨A1 _ _ _,rfl,F⟩
  grind
 grind
theorem j6h {a:Ty} (b:a.flat=true) {c:Type} {l:List (a.den×c)} (d:l.Pairwise fun p q=>a.lt p.1 q.1=true) {k:a.den} {x:c} (f:A9 a l k=some x):T8 a l k x=l:=by
 have i:=(W0 b d).1 f
 conv=>rhs;rw[<-List.map_id l]
 refine List.map_congr_left fun p e=>?_
 cases g:a.eqb k p.1 with
 | false=>rfl
 | true =>
  have h:=(a.eqb_iff b _ _).1 g
  have:p=(k,x):=z2p (Rise.ne b d) e i h.symm
  grind
theorem j4t {o:Oper} {T:TypeId} {m i v:Operand} (d:o.op=.mapUpdate T m i v\/o.op=.insert T m i v) {a:Act} {w w':World} (c:(Instr.mapUpdate T (a.eval m) (a.eval i) (a.eval v)).run P w=.ok () w'):(execOp a.eval o).run P w=.ok .skip w':=by
 grind[execOp,Sem.run_bind,Result.andThen_ok,Sem.run_pure]
theorem y0f {κ:A2} {hs:Heap} {w:World} (ok:HeapOK L w0 κ hs w) {id g:Nat} {i:Bool} {a:Ty} {t:KTy} {l:List (a.den×t.den)} {f:Option (a.den×Nat)} {x:t.den} {kv v:Value} {k:a.den} {b:Nat} {c:Nat×Nat}
  {KT VT T:TypeId} (hT:P.underlying T=some (.map KT VT)) (hK:KeyTy P KT i a) (C:hs id=.mapD i a t l f) (I:t.back hs (hs g)=some x) (hv:RepSV L κ hs w (t.sv g) v) (B:κ id=some (b,c)) (A:RepVal w (A3 L κ hs w) i a kv k) (hf:∀ j,j≠k->q2y a f j=none) :
  ∃ m w',(Instr.mapUpdate T (.map (some b)) kv v).run P w=.ok () w'/\HeapOK L w0 m (upd (upd hs g .dead) id (.mapD i a t (B0 a l k x) none)) w'/\Ext L κ hs w m (upd (upd hs g .dead) id (.mapD i a t (B0 a l k x) none)) w':=by
 obtain⟨-,hgl,hgh,hone⟩:=q4f (n:=g) ok (fun b hb=>hb) I hv rfl
 have hne:=q6i I (.inr ⟨_,_,_,_,_,C⟩)
 have X:=ok.obj id
 rw[C]at X
 obtain⟨b',c',S,M,r1,R,s⟩:=X
 rw[B]at r1
 simp[Option.some.injEq,Prod.mk.injEq]at r1
 obtain⟨rfl,rfl⟩:=r1
 have Q:(hs id).live=true:=by rw[C];rfl
 have N:(hs id).like (.mapD i a t (B0 a l k x) (some (k,g))):=by rw[C];trivial
 obtain⟨p,hp,D,E,J⟩:=s.r.find (w1:=w) hK (fun x q o=>o.1) A
 have G:=hK.chk false w w _ _ _ A
 have Y:∀ (es':Array MapEntry) (cl':Nat),(Ext L κ hs w κ (upd hs id (.mapD i a t (B0 a l k x) (some (k,g)))) (w.putObj b (.map es' cl')) ->
    EntsR a (RK L κ (upd hs id (.mapD i a t (B0 a l k x) (some (k,g)))) (w.putObj b (.map es' cl')) id i a t (some (k,g))) (B0 a l k x) es' cl') ->
   ∃ m,HeapOK L w0 m (upd (upd hs g .dead) id (.mapD i a t (B0 a l k x) none)) (w.putObj b (.map es' cl'))/\Ext L κ hs w m (upd (upd hs g .dead) id (.mapD i a t (B0 a l k x) none)) (w.putObj b (.map es' cl')):=by
  intro es' cl' hes
  obtain⟨ok1,x1⟩:=q2q ok B R (cl':=cl') N (es':=es') fun o=>⟨b,c,es',cl',B,World.putObj_heap_same (Array.getElem?_eq_some_iff.1 R).1,(hes o).k⟩
  have hg1:upd hs id (.mapD i a t (B0 a l k x) (some (k,g))) g=hs g:=A0 _ _ hne
  obtain⟨m,W,h2,-⟩:=q4k ok1 (A1 _ _ _) (l1:=B0 a l k x) (u:=[(g,.dead)]) (by
   simp[V0,hg1,q0c (h:=hs),I,Option.map_some]
   rw[j6h s.flat (q0l s.flat s.rise) (q2o s.flat l k x)])
  have O:upd (A5 [(g,.dead)] (upd hs id (.mapD i a t (B0 a l k x) (some (k,g))))) id (.mapD i a t (B0 a l k x) none)=upd (upd hs g .dead) id (.mapD i a t (B0 a l k x) none):=by
   show upd (upd (upd hs id _) g .dead) id _=_
   grind[j1x,q11]
  rw[O]at W
  exact⟨m,W.1,x1.trans W.2⟩
 have F:∀ {es':Array MapEntry} {cl':Nat} {z:MapEntry} {r:a.den×t.den},Ext L κ hs w κ (upd hs id (.mapD i a t (B0 a l k x) (some (k,g)))) (w.putObj b (.map es' cl'))->r.1≠k->RK L κ hs w id i a t f z r ->
   RK L κ (upd hs id (.mapD i a t (B0 a l k x) (some (k,g)))) (w.putObj b (.map es' cl')) id i a t (some (k,g)) z r:=by
  intro es' cl' z r o V ⟨a1,a2,a3⟩
  rw[hf _ V]at a3
  refine⟨a1.mono o.free,a2,?_⟩
  rw[q8g s.flat V]
  exact RepKid.ext o rfl (fun b2 c2 hk2=>World.putObj_heap_other fun e0=>by
   subst e0
   exact I3 ok (by grind) id z.born (ok.inj _ _ b2 c2 c (Q5 ok id z.born) Q hk2 B)) a3
 have U:∀ {es':Array MapEntry} {cl':Nat} {z:MapEntry},Ext L κ hs w κ (upd hs id (.mapD i a t (B0 a l k x) (some (k,g)))) (w.putObj b (.map es' cl'))->z.key=kv->z.val=v ->
   RK L κ (upd hs id (.mapD i a t (B0 a l k x) (some (k,g)))) (w.putObj b (.map es' cl')) id i a t (some (k,g)) z (k,x):=by
  intro es' cl' z o W h2
  refine⟨by rw[W];exact A.mono o.free,by grind,?_⟩
  rw[j0m s.flat]
  exact⟨by grind[RepSV.ext],o.keeps hgh⟩
 rcases J with⟨j,y,q,e1,e2,e3,e4,e5⟩ | ⟨e1,e2,e3⟩
 ·have Z:(Instr.mapUpdate T (.map (some b)) kv v).run P w=.ok () (w.putObj b (.map (S.modify j fun e=>{ e with key:=kv,val:=v }) M)):=by
   unfold Instr.mapUpdate
   have K:Instr.sameBits 10000 y.key kv=true:=hK.same w _ _ _ k (by grind) A
   have hgj:S[j]? = some y:=by grind
   simp[run_underlying hT,K7 R,G,e4,Instr.keyThatStays,hgj,K,q0u _ R]
  obtain⟨m,f1,f2⟩:=Y (S.modify j fun e=>{ e with key:=kv,val:=v }) M fun o=>by
   have:=s.r.setAt (R':=RK L κ (upd hs id (.mapD i a t (B0 a l k x) (some (k,g)))) (w.putObj b (.map (S.modify j fun e=>{ e with key:=kv,val:=v }) M)) id i a t (some (k,g))) hp D E e1 e2 (kv:=kv) (vv:=v) (y:=x)
    (by rw[e3];exact U o rfl rfl) (fun j' z r hjj hz H hR=>F o (fun e0=>hjj (q7o s.flat hp s.rise H e2 (e0.trans e3.symm))) hR) (f:=fun e=>{ e with key:=kv,val:=v }) rfl
   grind
  grind
 ·have Z:(Instr.mapUpdate T (.map (some b)) kv v).run P w=.ok () (w.putObj b (.map (S.push { key:=kv,val:=v,born:=M }) (M+1))):=by
   unfold Instr.mapUpdate
   simp[run_underlying hT,K7 R,G,e2,q0u _ R]
  obtain⟨m,f1,f2⟩:=Y (S.push { key:=kv,val:=v,born:=M }) (M+1) fun o =>
   s.r.pushAt hp D E e1 (U o rfl rfl) (fun z r hz H hR=>F o (e1 r H) hR)
  grind
theorem j8u {R:Type} {C:Ctx} (hti:∀ t ti,C.TI t=some ti->ti.OK P t) {o:Oper} {T:TypeId} {m i y:Operand} (ho:o.op=.mapUpdate T m i y\/o.op=.insert T m i y) {ρ:Env} {h:Heap} {id:Nat} (hm:ev ρ m=.one (.mp id)) {K:Eff->Option R} {z:R}
  (he:z0u C T id (ev ρ i) (ev ρ y) h K=some z):∃ q,K q=some z/\q.full=none/\∀ d hs,ev d m=ev ρ m->ev d i=ev ρ i->ev d y=ev ρ y->(∀ j∈q.rd,hs j=h j)->(∀ p∈q.ups,hs p.1=h p.1)->A6 P L w0 o d hs (q.heap hs) q.av:=by
 have H:∀ c,o.op≠.defer c:=fun c hc=>by grind
 unfold z0u at he
 split at he
 ·rename_i I n t l f s M hy
  split at he
  ·rename_i x' v k W hkey
   obtain⟨KT,VT,tiv,hT,hK,htv,hts,htag,hzb,F⟩:=j6j hti he
   obtain⟨hsv,hbk⟩:=j0r W
   subst hsv
   have r:n.flat=true:=hK.flat
   have Z:(∀ j,j≠k.1->q2y n f j=none)->K { av:=.one .unk,rd:=[id],ups:=[(v,.dead),(id,.mapD I n t (B0 n l k.1 x') none)],full:=none }=some z ->
     ∃ q,K q=some z/\q.full=none/\∀ d hs,ev d m=ev ρ m->ev d i=ev ρ i->ev d y=ev ρ y->(∀ j∈q.rd,hs j=h j)->(∀ p∈q.ups,hs p.1=h p.1)->A6 P L w0 o d hs (q.heap hs) q.av:=by
    intro hf hk
    refine⟨_,hk,rfl,fun d hs D S B N G=>q0n H fun κ a w e U=>?_⟩
    have E:hs id=.mapD I n t l f:=(N id (by simp)).trans M
    have Y:hs v=h v:=G (v,.dead) (by simp)
    have A:=e m
    rw[D,hm]at A
    obtain⟨_,b,c,q1,q2⟩:=A
    have x:=e y
    rw[B,hy]at x
    have J:=q1n e U r (i:=i) (k:=k) (ids:=[]) (by grind[z5i])
    obtain⟨O,w',s1,s5,s6⟩:=y0f U hT hK E (by rw[Y,q0c (h:=h)];omega) x q1 J hf
    exact⟨O,w',j4t ho (by grind),s5,s6⟩
   split at F
   ·grind[q8h]
   ·rename_i j g
    split at F
    ·obtain⟨h1,he4⟩:=A8 F
     have h1:=(n.eqb_iff r _ _).1 h1
     grind[q8g]
    ·rename_i hdd
     split at F
     ·rename_i V u hcl
      refine⟨_,F,rfl,fun d hs D S B N G=>q0n H fun κ a w e U=>?_⟩
      have E:hs id=.mapD I n t l (some (j,g)):=(N id (by simp)).trans M
      have Y:hs v=h v:=G (v,.dead) (by simp)
      obtain⟨κ1,X,a2,a4⟩:=q4k U E (z08 (hs:=hs) hcl (fun p hp=>G p (by grind)))
      have hu:u=[(g,.dead)]:=by
       grind[V0,Option.map_eq_some_iff]
      have hgg:v≠g:=fun e0=>by simp_all
      have hne:v≠id:=q6i hbk (.inr ⟨_,_,_,_,_,M⟩)
      have hg1:upd (A5 u hs) id (.mapD I n t V none) v=h v:=by
       rw[A0 _ _ hne,hu]
       show upd hs g .dead v=_
       grind[A0]
      have A:=e m
      rw[D,hm]at A
      obtain⟨hh,b,c,q1,q2⟩:=A
      have x:=e y
      rw[B,hy]at x
      have J:=q1n e U r (i:=i) (k:=k) (ids:=[]) (by grind[z5i])
      obtain⟨O,w',s1,s5,s6⟩:=y0f X.1 hT hK (A1 _ _ _) (by rw[hg1,q0c (h:=h)];omega) (RepSV.ext X.2 _ _ x) ((X.2.place id hh).trans q1) (J.mono X.2.free) (fun j _=>q8h n j)
      have Q:Eff.heap { av:=.one .unk,rd:=[id],ups:=u++[(id,.mapD I n t V none),(v,.dead),(id,.mapD I n t (B0 n V k.1 x') none)],full:=none } hs=upd (upd (upd (A5 u hs) id (.mapD I n t V none)) v .dead) id (.mapD I n t (B0 n V k.1 x') none):=by
       show A5 (u++_) hs=_
       rw[I9];rfl
      rw[Q]
      exact⟨O,w',j4t ho (by grind),s5,X.2.trans s6⟩
     grind
  grind
 grind
theorem j8r {R:Type} {C:Ctx} (B:∀ t j,C.TI t=some j->j.OK P t) {o:Oper} {op:BinOp} {T F:TypeId} {x:Operand} (M:o.op=.binOp op T x (.const (.map none)) F) {ρ:Env} {s:SV} {b:Bool} (D:ev ρ x=.one s)
  (hs:(∃ g,s=.mp g/\b=false)\/(s=.mpn/\b=true)) {K:Eff->Option R} {z:R} (l:z0q C op T b K=some z) :
  ∃ q,K q=some z/\q.full=none/\∀ e hs,ev e x=ev ρ x->A6 P L w0 o e hs (q.heap hs) q.av:=by
 unfold z0q at l
 split at l
 ·rename_i j H
  have p:∀ {k v:TypeId},j.mp=some (k,v)->∀ (a:Act) w (i:A2) (m:Heap),RepSV L i m w s (a.eval x)->(Op.equal T (a.eval x) (.map none)).run P w=.ok b w:=by
   intro k v n a w i m E
   have G:=(B T j H).mapT k v n
   have y:∃ r,a.eval x=.map r/\r.isNone=b:=by
    rcases hs with⟨g,rfl,rfl⟩ | ⟨rfl,rfl⟩
    ·obtain⟨_,Q,c,_,h⟩:=E;grind
    ·exact⟨none,E,rfl⟩
   obtain⟨r,y,A⟩:=y
   unfold Op.equal
   rw[show Op.maxDepth=9999+1 from rfl]
   unfold Op.equalIn
   rw[Sem.run_bind,run_underlying G,y]
   cases r<;>(subst A;rfl)
  have N:∀ (op:BinOp) (v:Value) (w:World),(eqGuard op T x (.const (.map none)) v (.map none)).run P w=.ok () w:=fun op v w=>by
   cases op<;>cases v<;>first | rfl | (cases x<;>rfl)
  have O:∀ a:Act,a.eval (.const (.map none))=.map none:=fun _=>rfl
  split at l
  ·rename_i k v n
   refine⟨_,l,rfl,fun e hs u=>D1 (fun c J=>by grind) fun i a w f ok=>⟨.bool b,?_,P6 b⟩⟩
   have d:=f x
   rw[u,D]at d
   have I:=p n a w i hs d
   unfold execOp
   have:((binOp .eql T (a.eval x) (.map none)).run P w)=.ok (.bool b) w:=by
    have A:binOp .eql T (a.eval x) (.map none)=(do pure (.bool (<-Op.equal T (a.eval x) (.map none))):Sem Value):=by
     generalize a.eval x=v
     cases v<;>rfl
    simp_all
   simp_all
  ·rename_i k v n
   refine⟨_,l,rfl,fun e hs u=>D1 (fun c J=>by grind) fun i a w f ok=>⟨.bool (!b),?_,P6 (!b)⟩⟩
   have d:=f x
   rw[u,D]at d
   have I:=p n a w i hs d
   unfold execOp
   have:((binOp .neq T (a.eval x) (.map none)).run P w)=.ok (.bool (!b)) w:=by
    have A:binOp .neq T (a.eval x) (.map none)=(do pure (.bool (!(<-Op.equal T (a.eval x) (.map none)))):Sem Value):=by
     generalize a.eval x=v
     cases v<;>rfl
    simp_all
   simp_all
  grind
 grind
theorem v5c {o:Oper} {T:TypeId} {x:Operand} {s:TInfo} (q:s.OK P T) {kv:TypeId×TypeId} (k:s.mp=some kv) (u:o.op=.call { callee:=.builtin .len,args:=#[x],argTypes:=#[T] }) {ρs:Env} {hs:Heap} {id:Nat} {z:Bool} {n:Ty} {t:KTy} {l:List (n.den×t.den)} {f:Option (n.den×Nat)}
  (C:ev ρs x=.one (.mp id)) (i:hs id=.mapD z n t l f):A6 P L w0 o ρs hs hs (F0 .i64 l.length):=by
 refine D1 (fun c G=>by grind) fun I a w m y=>⟨.int .i64 l.length,?_,H6 _ _⟩
 have d:=m x
 rw[C]at d
 obtain⟨_,b,c,r,d⟩:=d
 have g:=y.obj id
 rw[i]at g
 obtain⟨H,J,B,F,h,v,E⟩:=g
 rw[r]at h;cases h
 have A:=q.mapT kv.1 kv.2 k
 obtain⟨p,D,e,-⟩:=E.ents
 have j:B.size=l.length:=by rw[<-D.length_eq,e];simp
 refine z0w u ?_
 unfold Builtin.len_
 simp[run_underlying A,d,K7 v,j,goInt]
theorem v5p {R:Type} {C:Ctx} (s:∀ t u,C.TI t=some u->u.OK P t) {o:Oper} {T:TypeId} (y:o.op=.makeMap T none) {h:Heap} {id':Nat} {t:KTy} {K:Eff->Option R} {z:R} (e:z7s C T t h id' K=some z) :
  ∃ q,K q=some z/\q.full=none/\∀ g f,(∀ p∈q.ups,f p.1=h p.1)->A6 P L w0 o g f (q.heap f) q.av:=by
 unfold z7s at e
 split at e
 ·split at e
  ·rename_i k v M
   split at e
   ·rename_i b F E J
    obtain⟨n,e⟩:=A8 e
    simp[Bool.and_eq_true]at n
    have B:=q7n (s k b E) n.1.1.1
    obtain⟨A,m⟩:=O2 e
    refine⟨_,m,rfl,fun g f D=>I4 (fun c n=>by grind) fun κ a w G I=>?_⟩
    have l:f id'=.fresh:=(D (id',.mapD b.agg b.ty t [] none) (by simp)).trans A
    have d:G8 (upd κ id' (some (w.heap.size,0))) id' id'=some (w.heap.size,0):=by
     grind[P4,K8,A1]
    obtain⟨j,H⟩:=z95 (κ:=κ) (h:=f) (w:=w) I (.map #[] 0) (id:=id') (obj:=.mapD b.agg b.ty t [] none) 0 l (fun _ =>
     ⟨w.heap.size,0,#[],0,d,heap_alloc_new w _,⟨B.flat,List.Pairwise.nil,by simp,fun x N=>by grind,[],List.Perm.refl _,rfl,fun i x q O=>by grind⟩⟩)
    refine⟨_,.map (some w.heap.size),w.alloc (.map #[] 0),?_,j,⟨?_,_,_,d,rfl⟩,H⟩
    ·unfold execOp
     simp[y,Instr.makeMap]
    ·show(upd f id' _ id').Held;rw[A1];simp
   grind
  grind
 grind
theorem z8u {κ:A2} {h:Heap} {w:World} (g:HeapOK L w0 κ h w) {id:Nat} {obj':AObj} (l:(h id).Held) (r:(h id).live=true) (A:obj'.live=false) (H:Turn (h id) obj')
  (u:(∀ b,A3 L κ h w b->A3 L (G8 κ id) (upd h id obj') w b)->(∀ n b c,κ (kn id n)=some (b,c)->A3 L (G8 κ id) (upd h id obj') w b)->(∀ b c,κ id=some (b,c)->A3 L (G8 κ id) (upd h id obj') w b)->G8 κ id id=κ id->RepObj L (G8 κ id) (upd h id obj') w id obj') :
  HeapOK L w0 (G8 κ id) (upd h id obj') w/\Ext L κ h w (G8 κ id) (upd h id obj') w:=by
 have t:∀ j,(h j).Held->∀ n,j≠kn id n:=fun j d n e=>d.2 (by grind[K8])
 have o:∀ j b c,G8 κ id j=some (b,c)->(∀ n,j≠kn id n)/\κ j=some (b,c):=fun j b c f=>by
  grind[q5g,P4]
 have p:∀ j,(upd h id obj' j).live=true->j≠id/\(h j).live=true:=fun j d=>by
  grind[A1,A0]
 have m:Moves κ h (G8 κ id) (upd h id obj') (fun j=>j) :=
  ⟨fun j b c d f=>⟨(p j d).2,c,(o j b c f).2⟩,fun i j b c I q _ _ _ _ z=>z⟩
 have k:G8 κ id id=κ id:=P4 (t id l)
 have a:∀ j b c,(h j).live=true->κ j=some (b,c)->(j=id\/∃ n,j=kn id n)->A3 L (G8 κ id) (upd h id obj') w b:=fun j b c d f x=>by
  have v:=g.own j b c d f
  refine⟨v.2,fun D=>(g.outer b D).2 _ _ d f,fun i q B s=>?_⟩
  obtain⟨F,y⟩:=p i B
  obtain⟨G,C⟩:=o i b q s
  have:=g.inj i j b q c y d C f
  grind
 refine q56 g m (fun j d=>P4 (t j d)) (fun j=>?_) (fun j d=>?_) (fun j=>?_)
 ·by_cases e:j=id
  ·grind[A1]
  ·rw[A0 _ _ e];exact .same _
 ·rw[A0 _ _ (fun e=>l.2 (by rw[<-e];exact g.kids j d))];exact g.kids j d
 ·by_cases e:j=id
  ·subst e;rw[A1]
   exact .inl (u m.free (fun n b c f=>a _ b c (Q5 g j n) f (.inr ⟨n,rfl⟩)) (fun b c f=>a _ b c r f (.inl rfl)) k)
  ·rw[A0 _ _ e]
   by_cases E:∃ n,j=kn id n
   ·obtain⟨n,rfl⟩:=E;rw[K8 g];exact .inl trivial
   grind[P4,N0]
theorem z9q {κ f:A2} {h o:Heap} {w:World} {n:Nat} (s:∀ b c,κ n=some (b,c)->A3 L f o w b) (D:∀ b,A3 L κ h w b->A3 L f o w b) {e:TypeId} {t:Ty} {v:Value} {l:List t.den} (z:RepKid L κ h w n (.arr e t) v l) :
  RepAt w (A3 L f o w) (.list t) (F7 v) l:=by
 obtain⟨p,x⟩:=z
 rcases p with⟨_,rfl,rfl⟩ | ⟨b,a,g,rfl⟩
 ·exact⟨none,0,0,rfl,rfl,Nat.le_refl _,fun m=>absurd rfl m⟩
 ·rcases x with⟨d,_⟩ | ⟨C,q,u,d,k,r,B,j,p,A⟩
  ·grind
  ·rw[g]at d
   obtain⟨rfl,rfl⟩:=d
   refine⟨some ⟨b,a.2,none⟩,l.length,a.1,rfl,rfl,j,fun _=>⟨b,a.2,rfl,s b a g,fun i y E=>?_⟩⟩
   grind[RepAt.mono,World.cell?]
theorem y61 {κ:A2} {h:Heap} {w:World} (m:HeapOK L w0 κ h w) {id:Nat} {e C:TypeId} {t:Ty} {l:List (List t.den)} (d:h id=.arrD e (.arr C t) l none) :
  HeapOK L w0 (G8 κ id) (upd h id (.ice e (.list t) l)) w/\Ext L κ h w (G8 κ id) (upd h id (.ice e (.list t) l)) w:=by
 refine z8u m (by simp_all) (by rw[d];rfl) rfl (by rw[d];exact .iceA _ _ _ _ _ _ rfl rfl) fun B u g a=>⟨?_,fun b c F=>g b c (by grind)⟩
 have f:=m.obj id
 rw[d]at f
 rcases f with⟨s,A,_⟩ | ⟨b,k,j,r,n,H,o,D,q,x⟩
 ·exact .inl ⟨a.trans s,A⟩
 ·refine .inr ⟨b,k,j,a.trans r,n,by grind[Ty.size],o,D,q,fun i y z=>?_⟩
  obtain⟨v,E,p⟩:=x i y z
  refine RepAt.congr (.list t) _ _ y (fun c G=>?_) (z9q (u i) B p)
  grind[Ty.size,F7]
theorem y62 {κ:A2} {h:Heap} {w:World} (o:HeapOK L w0 κ h w) {id:Nat} {k:Bool} {j:Ty} {H:TypeId} {t:Ty} {l:List (j.den×List t.den)} (a:h id=.mapD k j (.arr H t) l none) :
  HeapOK L w0 (G8 κ id) (upd h id (.mice k false j (.list t) l)) w/\Ext L κ h w (G8 κ id) (upd h id (.mice k false j (.list t) l)) w:=by
 refine z8u o (by simp_all) (by rw[a];rfl) rfl (by rw[a];exact .iceM _ _ _ _ _ _ _ _ _ _) fun n A f d=>?_
 have e:=o.obj id
 rw[a]at e
 obtain⟨b,c,E,B,m,z,g⟩:=e
 refine⟨b,c,E,B,d.trans m,f b c m,z,⟨g.flat,g.rise,g.apart,g.early,?_⟩⟩
 obtain⟨p,v,s,C⟩:=g.ents
 refine⟨p,v,s,fun i x q y u=>?_⟩
 obtain⟨r,D,F⟩:=C i x q y u
 exact⟨r.mono fun b G=>⟨n b G,rfl⟩,rfl,D,z9q (A _) n F⟩
theorem j2o {d c:Type}:∀ {l:List (d×Option c)} {l2:List (d×c)},q6g l=some l2->l=l2.map fun p=>(p.1,some p.2)
 | [],l2,h=>by grind[q6g]
 | (a,some b)::r,l2,h=>by
  simp[q6g,Option.map_eq_some_iff]at h
  obtain⟨f,e,rfl⟩:=h
  rw[j2o e];rfl
 | (_,none)::_,_,h=>by cases h
theorem y63 {κ:A2} {h:Heap} {w:World} (I:HeapOK L w0 κ h w) {id:Nat} {u j f:Bool} {a k v:Ty} {l2:List (a.den×List (k.den×v.den))} (l:h id=.mapD u a (.map j f k v) (l2.map fun p=>(p.1,some p.2)) none) :
  HeapOK L w0 (G8 κ id) (upd h id (.mice u false a (.map j f k v) l2)) w/\Ext L κ h w (G8 κ id) (upd h id (.mice u false a (.map j f k v) l2)) w:=by
 refine z8u I (by simp_all) (by rw[l];rfl) rfl (by rw[l];exact .iceM _ _ _ _ _ _ _ _ _ _) fun H Q o d=>?_
 have m:=I.obj id
 rw[l]at m
 obtain⟨b,c,Y,M,C,X,n⟩:=m
 have g:l2.Pairwise fun p q=>a.lt p.1 q.1=true:=List.pairwise_map.1 n.rise
 refine⟨b,c,Y,M,d.trans C,o b c C,X,⟨n.flat,g,n.apart,n.early,?_⟩⟩
 obtain⟨p,B,p2,U⟩:=n.ents
 refine⟨p.map fun q=>(q.1,q.2.getD []),?_,by grind,fun i x q V D=>?_⟩
 ·have:=B.map fun q:a.den×Option (List (k.den×v.den))=>(q.1,q.2.getD [])
  have e:((fun q:a.den×Option (List (k.den×v.den))=>(q.1,q.2.getD []))∘fun p:a.den×List (k.den×v.den)=>(p.1,some p.2))=fun p=>p:=by rfl
  simp_all
 ·rw[List.getElem?_map,Option.map_eq_some_iff]at D
  obtain⟨F,r,rfl⟩:=D
  obtain⟨a1,N,J⟩:=U i x F V r
  obtain⟨y,E⟩:∃ y,F.2=some y:=by
   have W:=B.mem_iff.1 (List.mem_of_getElem? r)
   obtain⟨z,_,Z⟩:=List.mem_map.1 W
   exact⟨z.2,by rw[<-Z]⟩
  rw[E]at J
  obtain⟨G,K,s,t,O,T,R,S⟩:=J
  rw[E]
  exact⟨a1.mono fun b A=>⟨H b A,rfl⟩,rfl,N,G,s,t,by rw[T];rfl,Q _ G K O,R,S.mono fun b A=>⟨H b A,rfl⟩⟩
end Go.Abs
