/- The engine: what is owned within a map. -/
import Derived.Test.YtkfjlcdaepckoaaAbsSoundD
namespace Go.Abs
open Go Go.RowKit
variable {P:Program} {L:Nat->Prop} {w0:World}
structure EntsR (tk:Ty) {β:Type} (R:MapEntry->tk.den×β->Prop) (l:List (tk.den×β)) (es:Array MapEntry) (clock:Nat):Prop where
 flat:tk.flat=true
 rise:l.Pairwise fun p q=>tk.lt p.1 q.1=true
 apart:(es.toList.map (·.born)).Nodup
 early:∀ x∈es.toList,x.born<clock
 ents:∃ p:List (tk.den×β),p.Perm l/\p.length=es.toList.length/\∀ (i:Nat) (x:MapEntry) (q:tk.den×β),es.toList[i]? = some x->p[i]? = some q->R x q
theorem z50 {es:Array MapEntry} (h:(es.toList.map (·.born)).Nodup) {i j:Nat} {x y:MapEntry} (hi:es.toList[i]? = some x) (hj:es.toList[j]? = some y) (hb:x.born=y.born):i=j:=by
 have hi':=(List.getElem?_eq_some_iff.1 hi)
 have hj':=(List.getElem?_eq_some_iff.1 hj)
 obtain⟨li,ei⟩:=hi'
 obtain⟨lj,ej⟩:=hj'
 refine(List.getElem_inj (h₀:=by simpa using li) (h₁:=by simpa using lj) h).1 ?_
 rw[List.getElem_map,List.getElem_map,ei,ej,hb]
theorem z22 {tk:Ty} (hf:tk.flat=true) {β:Type} {p l:List (tk.den×β)} (hp:p.Perm l) (h:l.Pairwise fun p q=>tk.lt p.1 q.1=true) {i j:Nat} {a b:tk.den×β} (hi:p[i]? = some a) (hj:p[j]? = some b) (hk:a.1=b.1):i=j:=by
 have hn:=z96 hp h hf
 have nd:(p.map (·.1)).Nodup:=by rw[List.nodup_iff_pairwise_ne,List.pairwise_map];exact hn
 obtain⟨li,ei⟩:=List.getElem?_eq_some_iff.1 hi
 obtain⟨lj,ej⟩:=List.getElem?_eq_some_iff.1 hj
 refine(List.getElem_inj (h₀:=by simpa using li) (h₁:=by simpa using lj) nd).1 ?_
 rw[List.getElem_map,List.getElem_map,ei,ej,hk]
section
variable {tk:Ty} {β:Type} {R R':MapEntry->tk.den×β->Prop} {l:List (tk.den×β)} {es:Array MapEntry} {clock:Nat}
open Classical in
theorem EntsR.find {K:TypeId} {ak:Bool} (hK:KeyTy P K ak tk) {w w1 w':World} {A A':Nat->Prop} (hr:EntsR tk R l es clock) (hkey:∀ x q,R x q->RepVal w A ak tk x.key q.1) {v:Value} {k:tk.den} (hv:RepVal w' A' ak tk v k) :
  ∃ p:List (tk.den×β),p.Perm l/\p.length=es.toList.length/\(∀ (i:Nat) (x:MapEntry) (q:tk.den×β),es.toList[i]? = some x->p[i]? = some q->R x q) /\
   ((∃ i x q,es.toList[i]? = some x/\p[i]? = some q/\q.1=k/\(Instr.findKey K v es.toList).run P w1=.ok (some (i,x.val)) w1/\B4 tk l k=some q.2) \/
    ((∀ q∈p,q.1≠k)/\(Instr.findKey K v es.toList).run P w1=.ok none w1/\B4 tk l k=none)):=by
 obtain⟨p,hp,hlen,hent⟩:=hr.ents
 refine⟨p,hp,hlen,hent,?_⟩
 let b:MapEntry->Bool:=fun e=>if ∃ y,RepVal w A ak tk e.key y/\tk.eqb k y=true then true else false
 have hb:∀ (i:Nat) (x:MapEntry) (q:tk.den×β),es.toList[i]? = some x->p[i]? = some q->b x=tk.eqb k q.1:=fun i x q h1 h2=>by
  have h3:=hkey _ _ (hent i x q h1 h2)
  cases hq:tk.eqb k q.1 with
  | true=>exact if_pos ⟨q.1,h3,hq⟩
  | false =>
   refine if_neg ?_
   rintro ⟨y,h4,h5⟩
   rw[RepVal.uniq hr.flat h4 h3,hq]at h5;cases h5
 have hrun:=hK.find w1 w' A' v k b es.toList hv (fun e he=>by
  obtain⟨i,hi⟩:=List.getElem?_of_mem he
  have hlt:i<p.length:=by rw[hlen];exact(List.getElem?_eq_some_iff.1 hi).1
  have hk':tk.flat=true:=hr.flat
  have h3:=hkey _ _ (hent i e p[i] hi (List.getElem?_eq_getElem hlt))
  refine⟨p[i].1,?_,hb i e p[i] hi (List.getElem?_eq_getElem hlt)⟩
  exact RepVal.flatMono hk' h3)
 cases hfi:es.toList.findIdx? b with
 | none =>
  refine .inr ⟨fun q hq e=>?_,by rw[hrun,hfi];rfl,(X6 hr.flat).2 fun q hq e=>?_⟩
  ·obtain⟨i,hi⟩:=List.getElem?_of_mem hq
   have hlt:i<es.toList.length:=by rw[<-hlen];exact(List.getElem?_eq_some_iff.1 hi).1
   have h1:=List.findIdx?_eq_none_iff.1 hfi _ (List.getElem_mem hlt)
   rw[hb i _ q (List.getElem?_eq_getElem hlt) hi,e,tk.eqb_self hr.flat]at h1;cases h1
  ·obtain⟨i,hi⟩:=List.getElem?_of_mem (hp.mem_iff.2 hq)
   have hlt:i<es.toList.length:=by rw[<-hlen];exact(List.getElem?_eq_some_iff.1 hi).1
   have h1:=List.findIdx?_eq_none_iff.1 hfi _ (List.getElem_mem hlt)
   rw[hb i _ q (List.getElem?_eq_getElem hlt) hi,e,tk.eqb_self hr.flat]at h1;cases h1
 | some i =>
  obtain⟨hlt,hbi,_⟩:=List.findIdx?_eq_some_iff_getElem.1 hfi
  have hlt':i<p.length:=by rw[hlen];exact hlt
  have hbq:=hb i _ p[i] (List.getElem?_eq_getElem hlt) (List.getElem?_eq_getElem hlt')
  rw[hbi]at hbq
  have hk:=(tk.eqb_iff hr.flat _ _).1 hbq.symm
  refine .inl ⟨i,es.toList[i],p[i],List.getElem?_eq_getElem hlt,List.getElem?_eq_getElem hlt',hk.symm,?_,?_⟩
  ·rw[hrun,hfi,Option.bind_some,List.getElem?_eq_getElem hlt];rfl
  ·refine(K4 hr.flat hr.rise).2 (hp.mem_iff.1 ?_)
   rw[hk];exact List.getElem_mem hlt'
theorem EntsR.imp (hr:EntsR tk R l es clock) (h:∀ x q,R x q->R' x q):EntsR tk R' l es clock:=by
 obtain⟨p,h1,h2,h3⟩:=hr.ents
 exact⟨hr.flat,hr.rise,hr.apart,hr.early,p,h1,h2,fun i x q a b=>h x q (h3 i x q a b)⟩
theorem EntsR.setAt (hr:EntsR tk R l es clock) {p:List (tk.den×β)} (hp:p.Perm l) (hlen:p.length=es.toList.length)
  (hent:∀ (i:Nat) (x:MapEntry) (q:tk.den×β),es.toList[i]? = some x->p[i]? = some q->R x q) {i:Nat} {x:MapEntry} {q:tk.den×β} (h1:es.toList[i]? = some x) (h2:p[i]? = some q)
  {kv vv:Value} {y:β} (hnew:R' { x with key:=kv,val:=vv } (q.1,y)) (hold:∀ j z r,j≠i->es.toList[j]? = some z->p[j]? = some r->R z r->R' z r) {f:MapEntry->MapEntry} (hfx:f x={ x with key:=kv,val:=vv }):EntsR tk R' (A8 tk l q.1 y) (es.modify i f) clock:=by
 have hm:(es.modify i f).toList=es.toList.set i { x with key:=kv,val:=vv }:=by
  rw[Array.toList_modify]
  apply List.ext_getElem?
  intro j
  rw[List.getElem?_modify,List.getElem?_set]
  by_cases e:i=j
  ·subst e
   have hlt:i<es.size:=by have:=(List.getElem?_eq_some_iff.1 h1).1;simpa using this
   have hx:es[i]=x:=by simpa[hlt]using h1
   simp[hlt,hx,hfx]
  ·simp[e]
 refine⟨hr.flat,O2 hr.flat hr.rise,?_,fun z hz=>?_,p.set i (q.1,y),z3g hr.flat hp hr.rise h2 y,by rw[hm];simp[hlen],fun j z r hz hrj=>?_⟩
 ·rw[hm,List.map_set]
  have:(es.toList.map (·.born)).set i x.born=es.toList.map (·.born):=by
   apply List.ext_getElem?
   intro j
   rw[List.getElem?_set]
   by_cases e:i=j
   ·subst e
    have hlt:i<es.size:=by have:=(List.getElem?_eq_some_iff.1 h1).1;simpa using this
    have hx:es[i]=x:=by simpa[hlt]using h1
    simp[hlt,hx]
   ·simp[e]
  rw[this];exact hr.apart
 ·rw[hm]at hz
  rcases List.mem_or_eq_of_mem_set hz with hz | hz
  ·exact hr.early z hz
  ·rw[hz];exact hr.early x (List.mem_of_getElem? h1)
 ·rw[hm,List.getElem?_set]at hz
  rw[List.getElem?_set]at hrj
  by_cases e:i=j
  ·subst e
   rw[if_pos rfl,if_pos (List.getElem?_eq_some_iff.1 h1).1]at hz
   rw[if_pos rfl,if_pos (List.getElem?_eq_some_iff.1 h2).1]at hrj
   cases hz;cases hrj
   exact hnew
  ·rw[if_neg e]at hz hrj
   exact hold j z r (Ne.symm e) hz hrj (hent j z r hz hrj)
theorem EntsR.pushAt (hr:EntsR tk R l es clock) {p:List (tk.den×β)} (hp:p.Perm l) (hlen:p.length=es.toList.length)
  (hent:∀ (i:Nat) (x:MapEntry) (q:tk.den×β),es.toList[i]? = some x->p[i]? = some q->R x q) {k:tk.den} (hno:∀ q∈p,q.1≠k)
  {kv vv:Value} {y:β} (hnew:R' { key:=kv,val:=vv,born:=clock } (k,y)) (hold:∀ z r,z∈es.toList->r∈p->R z r->R' z r):EntsR tk R' (A8 tk l k y) (es.push { key:=kv,val:=vv,born:=clock }) (clock+1):=by
 refine⟨hr.flat,O2 hr.flat hr.rise,?_,fun z hz=>?_,p++[(k,y)],z9a hr.flat hp hr.rise hno y,by simp[hlen],fun j z r hz hrj=>?_⟩
 ·rw[Array.toList_push,List.map_append,List.nodup_append]
  refine⟨hr.apart,by simp,fun a ha b hb e=>?_⟩
  simp at hb
  obtain⟨x,hx,rfl⟩:=List.mem_map.1 ha
  have:=hr.early x hx
  omega
 ·rw[Array.toList_push]at hz
  rcases List.mem_append.1 hz with hz | hz
  ·have:=hr.early z hz;omega
  ·simp at hz;subst hz;simp
 ·rw[Array.toList_push]at hz
  by_cases hj:j<es.toList.length
  ·rw[List.getElem?_append_left hj]at hz
   rw[List.getElem?_append_left (by omega)]at hrj
   exact hold z r (List.mem_of_getElem? hz) (List.mem_of_getElem? hrj) (hent j z r hz hrj)
  ·rw[List.getElem?_append_right (by omega)]at hz
   rw[List.getElem?_append_right (by omega),hlen]at hrj
   cases hq:j-es.toList.length with
   | zero=>rw[hq]at hz hrj;simp at hz hrj;subst hz;subst hrj;exact hnew
   | succ n=>rw[hq]at hz;simp at hz
theorem j80 (l:List (tk.den×β)) (k:tk.den) (x:β):(J1 tk l k x).map (·.1)=l.map (·.1):=by
 unfold J1
 rw[List.map_map]
 refine List.map_congr_left fun p _=>?_
 show(cond (tk.eqb k p.1) (p.1,x) p).1=p.1
 cases tk.eqb k p.1<;>rfl
theorem z27 {l:List (tk.den×β)} (h:l.Pairwise fun p q=>tk.lt p.1 q.1=true) (k:tk.den) (x:β):(J1 tk l k x).Pairwise fun p q=>tk.lt p.1 q.1=true:=by
 have h1:(l.map (·.1)).Pairwise fun a b=>tk.lt a b=true:=List.pairwise_map.2 h
 rw[<-j80 l k x]at h1
 exact List.pairwise_map.1 h1
theorem EntsR.put (hr:EntsR tk R l es clock) {p:List (tk.den×β)} (h1:p.Perm l) (h2:p.length=es.toList.length) {k:tk.den} {x:β}
  (hall:∀ (i:Nat) z q,es.toList[i]? = some z->p[i]? = some q->(q.1=k->R' z (q.1,x))/\(q.1≠k->R' z q)):EntsR tk R' (J1 tk l k x) es clock:=by
 refine⟨hr.flat,z27 hr.rise k x,hr.apart,hr.early,p.map fun p=>cond (tk.eqb k p.1) (p.1,x) p,h1.map _,by simp[h2],fun i z q hz hq=>?_⟩
 rw[List.getElem?_map,Option.map_eq_some_iff]at hq
 obtain⟨q0,hq0,rfl⟩:=hq
 cases hb:tk.eqb k q0.1 with
 | true=>exact(hall i z q0 hz hq0).1 ((tk.eqb_iff hr.flat _ _).1 hb).symm
 | false=>exact(hall i z q0 hz hq0).2 fun e=>by rw[e,tk.eqb_self hr.flat]at hb;cases hb
end
abbrev RK (L:Nat->Prop) (κ:A2) (h:Heap) (w:World) (id:Nat) (ak:Bool) (tk:Ty) (t:KTy) (f:Option (tk.den×Nat)) (x:MapEntry) (q:tk.den×t.den):Prop :=
 RepVal w (A4 L κ h w) ak tk x.key q.1/\x.val.oneCell'=true/\RepPart L κ h w (kn id x.born) (q0a tk f q.1) t x.val q.2
theorem EntsK.r {κ:A2} {h:Heap} {w:World} {id:Nat} {ak:Bool} {tk:Ty} {t:KTy} {f:Option (tk.den×Nat)} {l:List (tk.den×t.den)} {es:Array MapEntry} {clock:Nat} (hr:EntsK L κ h w id ak tk t f l es clock):EntsR tk (RK L κ h w id ak tk t f) l es clock:=⟨hr.flat,hr.rise,hr.apart,hr.early,hr.ents⟩
theorem EntsR.k {κ:A2} {h:Heap} {w:World} {id:Nat} {ak:Bool} {tk:Ty} {t:KTy} {f:Option (tk.den×Nat)} {l:List (tk.den×t.den)} {es:Array MapEntry} {clock:Nat} (hr:EntsR tk (RK L κ h w id ak tk t f) l es clock):EntsK L κ h w id ak tk t f l es clock:=⟨hr.flat,hr.rise,hr.apart,hr.early,hr.ents⟩
theorem q4c (tk:Ty) (k:tk.den):q0a tk none k=none:=rfl
theorem z2s {tk:Ty} (hf:tk.flat=true) (k:tk.den) (g:Nat):q0a tk (some (k,g)) k=some g:=if_pos (tk.eqb_self hf k)
theorem q4b {tk:Ty} (hf:tk.flat=true) {k j:tk.den} (h:j≠k) (g:Nat):q0a tk (some (k,g)) j=none:=if_neg fun e=>h ((tk.eqb_iff hf _ _).1 e).symm
theorem q5q {h hs:Heap} {tk:Ty} {t:KTy} {l l1:List (tk.den×t.den)} {f:Option (tk.den×Nat)} {u:List (Nat×AObj)} (hc:Q3 h tk t l f=some (l1,u)) (hu:∀ p∈u,hs p.1=h p.1):Q3 hs tk t l f=some (l1,u):=by
 cases f with
 | none=>exact hc
 | some q =>
  obtain⟨i,g⟩:=q
  simp only[Q3,Option.map_eq_some_iff,Prod.mk.injEq]at hc ⊢
  obtain⟨x,hx,rfl,rfl⟩:=hc
  exact⟨x,by rw[hu (g,.dead) (by simp),Y8 (h:=h)];exact hx,rfl,rfl⟩
theorem q1q {κ:A2} {h:Heap} {w:World} (ok:HeapOK L w0 κ h w) {id:Nat} {ak:Bool} {tk:Ty} {t:KTy} {l l1:List (tk.den×t.den)} {f:Option (tk.den×Nat)} {u:List (Nat×AObj)} (hid:h id=.mapD ak tk t l f) (hc:Q3 h tk t l f=some (l1,u)) :
  ∃ κ1,(HeapOK L w0 κ1 (upd (A5 u h) id (.mapD ak tk t l1 none)) w/\Ext L κ h w κ1 (upd (A5 u h) id (.mapD ak tk t l1 none)) w)/\(∀ b,A4 L κ h w b->A4 L κ1 (upd (A5 u h) id (.mapD ak tk t l1 none)) w b)/\∀ p∈u,p.1≠id/\(h p.1).Held:=by
 cases f with
 | none =>
  cases hc
  have he:upd (A5 [] h) id (.mapD ak tk t l none)=h:=q2z h id _ hid
  rw[he]
  exact⟨κ,⟨ok,Ext.refl L κ h w⟩,fun b hb=>hb,fun p hp=>by cases hp⟩
 | some q =>
  obtain⟨k,g⟩:=q
  simp only[Q3,Option.map_eq_some_iff,Prod.mk.injEq]at hc
  obtain⟨x,hx,rfl,rfl⟩:=hc
  have hob:=ok.obj id
  rw[hid]at hob
  obtain⟨b,c,es,cl,r1,r2,hr⟩:=hob
  have hgn:g≠id:=q37 hx (.inr ⟨_,_,_,_,_,hid⟩)
  have hgl:(h g).live=true/\(h g).Held:=by
   cases t<;>cases ho:h g<;>rw[ho]at hx<;>first | cases hx;done | exact⟨rfl,by simp⟩
  obtain⟨p,p1,p2,p3⟩:=hr.ents
  have fin:∀ n,(∀ (i:Nat) z q,es.toList[i]? = some z->p[i]? = some q->(q.1=k->z.born=n)/\(q.1≠k->z.born≠n))->_:=fun n hn =>
   z5f (i:=n) ok (id:=id) (g:=g) (obj':=.mapD ak tk t (J1 tk l k x) none) (by rw[hid];simp) (by rw[hid];rfl) hgl.1 hgl.2 hgn (by rw[hid];exact .mapD _ _ _ _ _ _ _ _ _ _) (fun hf=>by
    refine⟨b,c,es,cl,?_,r2,(EntsR.put hr.r p1 p2 fun i z q hz hq=>⟨fun hk=>?_,fun hk=>?_⟩).k⟩
    ·rw[A0 _ _ (fun e0=>J6 ok (by rw[hid];simp) id n e0.symm)];exact r1
    ·obtain⟨a1,a2,a3⟩:=p3 i z q hz hq
     rw[hk,z2s hr.flat]at a3
     refine⟨a1.mono fun b hb=>⟨hf b hb,rfl⟩,a2,?_⟩
     show RepKid L _ _ _ _ _ _ _
     exact(q5i ok hf hx a3.1 (by rw[(hn i z q hz hq).1 hk,A1])).1
    ·obtain⟨a1,a2,a3⟩:=p3 i z q hz hq
     rw[q4b hr.flat hk]at a3
     refine⟨a1.mono fun b hb=>⟨hf b hb,rfl⟩,a2,?_⟩
     show RepKid L _ _ _ _ _ _ _
     exact RepKid.at hf (A0 _ _ (fun e0=>(hn i z q hz hq).2 hk (q02 e0).2)) a3)
  have done:∀ n,(∀ (i:Nat) z q,es.toList[i]? = some z->p[i]? = some q->(q.1=k->z.born=n)/\(q.1≠k->z.born≠n))->∃ κ1,(HeapOK L w0 κ1 (upd (A5 [(g,.dead)] h) id (.mapD ak tk t (J1 tk l k x) none)) w/\Ext L κ h w κ1 (upd (A5 [(g,.dead)] h) id (.mapD ak tk t (J1 tk l k x) none)) w)/\(∀ b,A4 L κ h w b->A4 L κ1 (upd (A5 [(g,.dead)] h) id (.mapD ak tk t (J1 tk l k x) none)) w b)/\∀ p∈[(g,AObj.dead)],p.1≠id/\(h p.1).Held:=fun n hn=>by
   obtain⟨h1,h2⟩:=fin n hn
   exact⟨_,h1,h2,fun p hp=>by simp only[List.mem_singleton]at hp;subst hp;exact⟨hgn,hgl.2⟩⟩
  by_cases hex:∃ (i:Nat) (z:MapEntry) (q:tk.den×t.den),es.toList[i]? = some z/\p[i]? = some q/\q.1=k
  ·obtain⟨i0,z0,q0,e1,e2,e3⟩:=hex
   refine done z0.born fun i z q hz hq=>⟨fun hk=>?_,fun hk hb=>hk ?_⟩
   ·have:=z22 hr.flat p1 hr.rise hq e2 (hk.trans e3.symm)
    subst this
    rw[hz]at e1;cases e1;rfl
   ·have:=z50 hr.apart hz e1 hb
    subst this
    rw[hq]at e2;cases e2;exact e3
  ·refine done cl fun i z q hz hq=>⟨fun hk=>absurd ⟨i,z,q,hz,hq,hk⟩ hex,fun _ hb=>?_⟩
   have:=hr.early z (List.mem_of_getElem? hz)
   omega
theorem z8f {R:Type} {C:Ctx} (hti:∀ t ti,C.TI t=some ti->ti.OK P t) {T:TypeId} {ak:Bool} {tk:Ty} {t:KTy} {K:Option R} {z:R} (he:q71 C T ak tk t K=some z) :
  ∃ k v,∃ tiv:TInfo,P.underlying T=some (.map k v)/\KeyTy P k ak tk/\tiv.OK P v/\tiv.size=1/\tiv.agg=false/\t.zeroB tiv.zeros=true/\K=some z:=by
 unfold q71 at he
 split at he
 ·rename_i ti hT
  split at he
  ·rename_i k v hm
   split at he
   ·rename_i tik tiv hk hv
    obtain⟨hc,he⟩:=A7 he
    simp only[Bool.and_eq_true,Bool.not_eq_true']at hc
    obtain⟨⟨⟨d1,d2⟩,d3⟩,d4⟩:=hc
    exact⟨k,v,tiv,(hti T ti hT).mapT k v hm,q40 (hti k tik hk) d1,hti v tiv hv,Nat.eq_of_beq_eq_true d2,d3,d4,he⟩
   ·cases he
  ·cases he
 ·cases he
def z43 (t:KTy) (v:Value):Prop:=match t with
 | .arr _ _=>v=.slice none 0 0
 | .map _ _ _ _=>v=.map none
 | .ptr _=>v=.pointer none
def j3e (t:KTy) (v:Value):Prop:=match t with
 | .arr _ _=>False
 | .map _ _ _ _=>v=.map none
 | .ptr _=>v=.pointer none
theorem y4x {V:TypeId} {ti:TInfo} (hti:ti.OK P V) (hs:ti.size=1) (hag0:ti.agg=false) {t:KTy} (hz:t.zeroB ti.zeros=true) (w:World):∃ v,(zeroValue V).run P w=.ok v w/\v.oneCell'=true/\z43 t v:=by
 obtain⟨i,zv,hi,hisz,-,hiz,hzs,hzl,hrep,hone⟩:=hti.zero_one (L:=fun _=>False)
 have hzsz:zv.cells.size=1:=by rw[hzs,hs]
 have hag:=hti.zeroT i zv hi hiz
 obtain⟨z0,hz0⟩:∃ z0,zv.cells.toList=[z0]:=by
  match hq:zv.cells.toList with
  | [z0]=>exact⟨z0,rfl⟩
  | []=>have:=congrArg List.length hq;rw[Array.length_toList,hzsz]at this;simp at this
  | _::_::_=>have:=congrArg List.length hq;rw[Array.length_toList,hzsz]at this;simp at this
 have h0:=hrep (fun _=>none) (fun _=>.fresh) w
 have hr:∀ s,ti.zeros=[s]->RepSV (fun _=>False) (fun _=>none) (fun _=>.fresh) w s z0:=fun s hs'=>(h0.2 0 s z0 (by rw[hs'];rfl) (by rw[hz0];rfl)).1
 have hzv:zv=z0:=by
  rw[hag0]at hag
  have hc:zv.cells=#[zv]:=by cases zv<;>first | rfl | simp[q34]at hag
  rw[hc]at hz0
  simpa using hz0
 subst hzv
 refine⟨zv,by unfold zeroValue;simp[q50 hi,hiz],hone zv (by rw[hz0];simp),?_⟩
 have key:∀ zs,t.zeroB zs=true->(match t with
  | .arr _ _=>zs=[.nils]
  | .map _ _ _ _=>zs=[.mpn]
  | .ptr _=>zs=[.nilp]):=by
  intro zs hz
  unfold KTy.zeroB at hz
  split at hz<;>first | rfl | cases hz
 have hk:=key _ hz
 cases t with
 | arr e2 t2=>exact hr _ hk
 | map ak av k vt=>exact hr _ hk
 | ptr t2=>exact hr _ hk
theorem j6l {κ:A2} {h:Heap} {w:World} (ok:HeapOK L w0 κ h w) {id g:Nat} {ak:Bool} {tk:Ty} {t:KTy} {l:List (tk.den×t.den)} {k:tk.den} (hid:h id=.mapD ak tk t l none) (hno:B4 tk l k=none) :
  HeapOK L w0 κ (upd h id (.mapD ak tk t l (some (k,g)))) w/\Ext L κ h w κ (upd h id (.mapD ak tk t l (some (k,g)))) w:=by
 have m:Moves κ h κ (upd h id (.mapD ak tk t l (some (k,g)))) (fun j=>j):=by
  refine⟨fun j b c hj hk=>⟨?_,c,hk⟩,fun i j b c b' c' _ _ _ _ he=>he⟩
  by_cases e:j=id
  ·rw[e,hid];rfl
  ·rw[A0 _ _ e]at hj;exact hj
 refine q6o ok m (fun _ _=>rfl) (fun j=>?_) (fun j hj=>?_) (fun j=>?_)
 ·by_cases e:j=id
  ·rw[e,A1,hid];exact .mapD _ _ _ _ _ _ _ _ _ _
  ·rw[A0 _ _ e];exact .same _
 ·rw[A0 _ _ (fun e=>by rw[<-e,ok.kids j hj]at hid;cases hid)];exact ok.kids j hj
 ·by_cases e:j=id
  ·left
   rw[e,A1]
   have hob:=ok.obj id
   rw[hid]at hob
   obtain⟨b,c,es,cl,r1,r2,hr⟩:=hob
   refine⟨b,c,es,cl,r1,r2,⟨hr.flat,hr.rise,hr.apart,hr.early,?_⟩⟩
   obtain⟨p,p1,p2,p3⟩:=hr.ents
   refine⟨p,p1,p2,fun i x q hx hq=>?_⟩
   obtain⟨a1,a2,a3⟩:=p3 i x q hx hq
   have hne:q.1≠k:=(X6 hr.flat).1 hno q (p1.mem_iff.1 (List.mem_of_getElem? hq))
   rw[q4b hr.flat hne]
   exact⟨a1.mono fun b hb=>⟨m.free b hb,rfl⟩,a2,RepKid.at m.free rfl a3⟩
  ·exact .inr ⟨A0 _ _ e,rfl,fun _=>rfl⟩
theorem q97 {h hs:Heap} {ak:Bool} {tk:Ty} {v:AV} {k:H6 [(ak,tk)]} (he:F0 h [(ak,tk)] [v]=some (k,[])):F0 hs [(ak,tk)] [v]=some (k,[]) :=
 Q1 _ _ _ _ he (fun j hj=>by cases hj)
theorem z86 {o:Oper} {T:TypeId} {m i:Operand} (ho:o.op=.lookup T m i false) {a:Act} {w:World} {b:Nat} {es:Array MapEntry} {cl:Nat} {KT VT:TypeId} (hT:P.underlying T=some (.map KT VT)) (hm:a.eval m=.map (some b)) (hb:w.heap[b]? = some (.map es cl))
  (hchk:(Instr.checkKey es.isEmpty 10000 KT (a.eval i)).run P w=.ok () w) {u:Value} (hu:(∃ j,(Instr.findKey KT (a.eval i) es.toList).run P w=.ok (some (j,u)) w)\/((Instr.findKey KT (a.eval i) es.toList).run P w=.ok none w/\(zeroValue VT).run P w=.ok u w)) :
  (execOp a.eval o).run P w=.ok (.value u) w:=by
 have hlook:(Instr.lookup T (a.eval m) (a.eval i) false).run P w=.ok u w:=by
  unfold Instr.lookup
  rcases hu with⟨j,hf⟩ | ⟨hf,hz⟩
  ·simp[run_underlying hT,hm,J9 hb,hchk,hf]
  ·simp[run_underlying hT,hm,J9 hb,hchk,hf,hz]
 unfold execOp
 rw[ho]
 simp only[Sem.run_bind,hlook,Result.andThen_ok,Sem.run_pure]
theorem y2b {R:Type} {C:Ctx} (hti:∀ t ti,C.TI t=some ti->ti.OK P t) {o:Oper} {T:TypeId} {m i:Operand} (ho:o.op=.lookup T m i false) {ρ:Env} {h:Heap} {id id':Nat} (hm:ev ρ m=.one (.mp id)) {K:Eff->Option R} {z:R}
  (he:z0i C T id (ev ρ i) h id' K=some z):∃ q,K q=some z/\q.full=none/\(∀ j,q.rd≠[j])/\∀ ρs hs,ev ρs m=ev ρ m->ev ρs i=ev ρ i->(∀ j∈q.rd,hs j=h j)->(∀ p∈q.ups,hs p.1=h p.1)->A6 P L w0 o ρs hs (q.heap hs) q.av:=by
 have hdef:∀ c,o.op≠.defer c:=fun c hc=>by rw[ho]at hc;cases hc
 unfold z0i at he
 split at he
 ·rename_i ak tk t l f hid
  split at he
  ·rename_i l1 u k hcl hkey
   obtain⟨KT,VT,tiv,hT,hK,htv,hts,htag,hzb,he2⟩:=z8f hti he
   obtain⟨hfr,he3⟩:=O4 he2
   have base:∀ (hs:Heap),hs id=h id->(∀ p∈u,hs p.1=h p.1)->∀ ρs,ev ρs m=ev ρ m->ev ρs i=ev ρ i->∀ κ (a:Act) w,(∀ x,RepAV L κ hs w (ev ρs x) (a.eval x))->HeapOK L w0 κ hs w ->
     ∃ κ1 b c es cl,∃ p:List (tk.den×t.den),∃ v:Value,(HeapOK L w0 κ1 (upd (A5 u hs) id (.mapD ak tk t l1 none)) w/\Ext L κ hs w κ1 (upd (A5 u hs) id (.mapD ak tk t l1 none)) w)/\(∀ p∈u,p.1≠id/\(hs p.1).Held) /\
      κ1 id=some (b,c)/\w.heap[b]? = some (.map es cl)/\EntsK L κ1 (upd (A5 u hs) id (.mapD ak tk t l1 none)) w id ak tk t none l1 es cl/\p.Perm l1 /\
      (∀ (i:Nat) (x:MapEntry) (q:tk.den×t.den),es.toList[i]? = some x->p[i]? = some q->RK L κ1 (upd (A5 u hs) id (.mapD ak tk t l1 none)) w id ak tk t none x q)/\p.length=es.toList.length /\
      (execOp a.eval o).run P w=.ok (.value v) w /\
      ((∃ (i0:Nat) (x:MapEntry) (q:tk.den×t.den),es.toList[i0]? = some x/\p[i0]? = some q/\q.1=k.1/\v=x.val/\B4 tk l1 k.1=some q.2) \/
       (B4 tk l1 k.1=none/\z43 t v)):=by
    intro hs hsid hsu ρs hρm hρi κ a w hev ok
    have hids:hs id=.mapD ak tk t l f:=hsid.trans hid
    obtain⟨κ1,h1,h2,h4⟩:=q1q ok hids (q5q hcl hsu)
    have hob:=h1.1.obj id
    rw[A1]at hob
    obtain⟨b,c,es,cl,r1,r2,hr⟩:=hob
    have hmv:=hev m
    rw[hρm,hm]at hmv
    obtain⟨hh,b',c',q1,q2⟩:=hmv
    have:=(h1.2.place id hh).trans q1
    rw[r1]at this
    simp only[Option.some.injEq,Prod.mk.injEq]at this
    obtain⟨rfl,rfl⟩:=this
    have hkv:=q01 hev ok hr.flat (i:=i) (k:=k) (ids:=[]) (by rw[hρi];exact q97 hkey)
    have hchk:=hK.chk es.isEmpty w w _ _ _ hkv
    obtain⟨p,hp,hlen,hent,hcase⟩:=hr.r.find (w1:=w) hK (fun x q hx=>hx.1) hkv
    rcases hcase with⟨j,x,q,e1,e2,e3,e4,e5⟩ | ⟨e1,e2,e3⟩
    ·exact⟨κ1,b,c,es,cl,p,x.val,h1,h4,r1,r2,hr,hp,hent,hlen,z86 ho hT q2 r2 hchk (.inl ⟨j,e4⟩),.inl ⟨j,x,q,e1,e2,e3,rfl,e5⟩⟩
    ·obtain⟨zv,z1,z2,z3⟩:=y4x htv hts htag hzb w
     exact⟨κ1,b,c,es,cl,p,zv,h1,h4,r1,r2,hr,hp,hent,hlen,z86 ho hT q2 r2 hchk (.inr ⟨e2,z1⟩),.inr ⟨e3,z3⟩⟩
   obtain⟨s,og,hk,hop⟩:=z8y he3
   cases og with
   | none =>
    refine⟨_,hk,rfl,(by intro j hj;cases hj),fun ρs hs hρm hρi hrd hup=>I3 hdef fun κ a w hev ok=>?_⟩
    obtain⟨κ1,b,c,es,cl,p,v,h1,h4,r1,r2,hr,hp,hent,hlen,hex,hcase⟩:=base hs (hrd id (by simp)) (fun p hp=>hup p (by simp[hp])) ρs hρm hρi κ a w hev ok
    have hheap:Eff.heap { av:=.one s,rd:=[id,id],ups:=u++[(id,.mapD ak tk t l1 none)],full:=none } hs=upd (A5 u hs) id (.mapD ak tk t l1 none):=by
     show A5 (u++_) hs=_
     rw[J8];rfl
    rw[hheap]
    refine⟨κ1,v,w,hex,h1.1,?_,h1.2⟩
    have hval:j3e t v:=by
     rcases hcase with⟨i0,x,q,e1,e2,e3,e4,e5⟩ | ⟨e1,e2⟩
     ·have hrk:=(hent i0 x q e1 e2).2.2
      rw[q4c]at hrk
      rw[e5,Option.getD_some]at hop
      rw[e4]
      cases t with
      | arr e2 t2=>cases hop
      | map ak av kk vt =>
       cases hq:q.2 with
       | none=>rw[hq]at hrk;exact hrk.2
       | some l2=>rw[hq]at hop;cases hop
      | ptr t2 =>
       cases hq:q.2 with
       | none=>rw[hq]at hrk;exact hrk.2
       | some l2=>rw[hq]at hop;cases hop
     ·rw[e1,Option.getD_none]at hop
      cases t with
      | arr e2 t2=>cases hop
      | map ak av kk vt=>exact e2
      | ptr t2=>exact e2
    cases t with
    | arr e2 t2=>exact hval.elim
    | map ak2 av2 kk vt =>
     have hs':s=.mpn:=by
      generalize (B4 tk l1 k.1).getD (KTy.map ak2 av2 kk vt).zero=y at hop
      cases y with
      | none=>cases hop;rfl
      | some l2=>cases hop
     rw[hs'];exact hval
    | ptr t2 =>
     have hs':s=.nilp:=by
      generalize (B4 tk l1 k.1).getD (KTy.ptr t2).zero=y at hop
      cases y with
      | none=>cases hop;rfl
      | some l2=>cases hop
     rw[hs'];exact hval
   | some og =>
    refine⟨_,hk,rfl,(by intro j hj;cases hj),fun ρs hs hρm hρi hrd hup=>I3 hdef fun κ a w hev ok=>?_⟩
    obtain⟨κ1,b,c,es,cl,p,v,h1,h4,r1,r2,hr,hp,hent,hlen,hex,hcase⟩:=base hs (hrd id (by simp)) (fun p hp=>hup p (by simp[hp])) ρs hρm hρi κ a w hev ok
    have hfs:hs id'=.fresh:=(hup (id',og) (by simp)).trans hfr
    have hnid:id'≠id:=fun e0=>by rw[<-e0,hfr]at hid;cases hid
    have hf1:upd (A5 u hs) id (.mapD ak tk t l1 none) id'=.fresh:=by
     rw[A0 _ _ hnid,q5g u hs (j32 h4 hfs)];exact hfs
    have hheap:Eff.heap { av:=.one s,rd:=[id,id],ups:=u++[(id,.mapD ak tk t l1 (some (k.1,id'))),(id',og)],full:=none } hs=upd (upd (upd (A5 u hs) id (.mapD ak tk t l1 none)) id (.mapD ak tk t l1 (some (k.1,id')))) id' og:=by
     show A5 (u++_) hs=_
     rw[J8,q1b];rfl
    rw[hheap]
    rcases hcase with⟨i0,x,q,e1,e2,e3,e4,e5⟩ | ⟨e1,e2⟩
    ·have hrk:=(hent i0 x q e1 e2).2.2
     rw[q4c]at hrk
     rw[e5,Option.getD_some]at hop
     have hrk:RepKid L κ1 (upd (A5 u hs) id (.mapD ak tk t l1 none)) w (kn id x.born) t v q.2:=by rw[e4];exact hrk
     obtain⟨g1,g2⟩:=z8z h1.1 (id:=id) (g:=id') (i:=x.born) (obj':=.mapD ak tk t l1 (some (k.1,id'))) (og:=og) (by rw[A1];simp) (by rw[A1];rfl) hf1 (by rw[A1];exact .mapD _ _ _ _ _ _ _ _ _ _) (fun hf=>by
      have hkg:upd (upd κ1 id' (κ1 (kn id x.born))) (kn id x.born) none id'=κ1 (kn id x.born):=by
       rw[A0 _ _ (fun e0=>J6 h1.1 (K8 hf1) id x.born e0.symm),A1]
      obtain⟨s',o',hk',hs',_⟩:=q41 hf hkg hrk hop
      simp only[Option.some.injEq,Prod.mk.injEq]at hk'
      obtain⟨rfl,rfl⟩:=hk'
      obtain⟨hs1,hs2⟩:=hs'
      obtain⟨k1,k2,k3,k4⟩:=hs2 (A1 _ _ _)
      subst hs1
      refine⟨⟨b,c,es,cl,?_,r2,⟨hr.flat,hr.rise,hr.apart,hr.early,p,hp,hlen,fun j x' q' hx' hq'=>?_⟩⟩,k2⟩
      ·rw[A0 _ _ (fun e0=>J6 h1.1 (by rw[A1];simp) id x.born e0.symm),A0 _ _ (Ne.symm hnid)];exact r1
      ·obtain⟨a1,a2,a3⟩:=hent j x' q' hx' hq'
       rw[q4c]at a3
       by_cases hkk:q'.1=k.1
       ·have:=z22 hr.flat hp hr.rise hq' e2 (hkk.trans e3.symm)
        subst this
        rw[hx']at e1;cases e1
        rw[hq']at e2;cases e2
        have ho:q0a tk (some (k.1,id')) q.1=some id':=by rw[e3];exact z2s hr.flat _ _
        rw[ho]
        refine⟨a1.mono fun b hb=>⟨hf b hb,rfl⟩,a2,?_⟩
        rw[<-e4]
        exact⟨k1,by rw[A1];exact k3⟩
       ·rw[q4b hr.flat hkk]
        refine⟨a1.mono fun b hb=>⟨hf b hb,rfl⟩,a2,RepKid.at hf ?_ a3⟩
        have hbn:x'.born≠x.born:=fun e0=>by
         have:=z50 hr.apart hx' e1 e0
         subst this
         rw[hq']at e2;cases e2;exact hkk e3
        rw[A0 _ _ (fun e0=>hbn (q02 e0).2),A0 _ _ (J6 h1.1 (K8 hf1) id x'.born)])
     have hkg:upd (upd κ1 id' (κ1 (kn id x.born))) (kn id x.born) none id'=κ1 (kn id x.born):=by
      rw[A0 _ _ (fun e0=>J6 h1.1 (K8 hf1) id x.born e0.symm),A1]
     refine⟨_,v,w,hex,g1.1,?_,h1.2.trans g1.2⟩
     obtain⟨s',o',hk',hs',_⟩:=q41 (κ1:=upd (upd κ1 id' (κ1 (kn id x.born))) (kn id x.born) none) (h1:=upd (upd (upd (A5 u hs) id (.mapD ak tk t l1 none)) id (.mapD ak tk t l1 (some (k.1,id')))) id' og) g2 hkg hrk hop
     simp only[Option.some.injEq,Prod.mk.injEq]at hk'
     obtain⟨rfl,rfl⟩:=hk'
     exact(hs'.2 (A1 _ _ _)).1
    ·
     rw[e1,Option.getD_none]at hop
     cases t with
     | map ak2 av2 kk vt=>cases hop
     | ptr t2=>cases hop
     | arr e2' t2 =>
      cases hop
      obtain⟨f1,f2⟩:=j6l h1.1 (g:=id') (k:=k.1) (A1 _ _ _) e1
      have hf2:upd (upd (A5 u hs) id (.mapD ak tk (.arr e2' t2) l1 none)) id (.mapD ak tk (.arr e2' t2) l1 (some (k.1,id'))) id'=.fresh:=by rw[A0 _ _ hnid];exact hf1
      refine⟨_,v,w,hex,q00 f1 e2' t2 hf2,⟨?_,by rw[show v=_ from e2];rfl⟩,(h1.2.trans f2).trans (W9 e2' t2 hf2)⟩
      rw[A1];exact .inl ⟨A1 _ _ _,rfl,e2⟩
  ·cases he
 ·cases he
theorem z8d {tk:Ty} (hf:tk.flat=true) {β:Type} {l:List (tk.den×β)} (hr:l.Pairwise fun p q=>tk.lt p.1 q.1=true) {k:tk.den} {x:β} (hg:B4 tk l k=some x):J1 tk l k x=l:=by
 have hm:=(K4 hf hr).1 hg
 unfold J1
 conv=>rhs;rw[<-List.map_id l]
 refine List.map_congr_left fun p hp=>?_
 cases hb:tk.eqb k p.1 with
 | false=>rfl
 | true =>
  have hk:=(tk.eqb_iff hf _ _).1 hb
  have:p=(k,x):=q75 (Rise.ne hf hr) hp hm hk.symm
  rw[this];rfl
theorem z6j {o:Oper} {T:TypeId} {m i v:Operand} (ho:o.op=.mapUpdate T m i v\/o.op=.insert T m i v) {a:Act} {w w':World} (hrun:(Instr.mapUpdate T (a.eval m) (a.eval i) (a.eval v)).run P w=.ok () w'):(execOp a.eval o).run P w=.ok .skip w':=by
 unfold execOp
 rcases ho with ho | ho<;>rw[ho]<;>simp only[Sem.run_bind,hrun,Result.andThen_ok,Sem.run_pure]
theorem j29 {κ:A2} {hs:Heap} {w:World} (ok:HeapOK L w0 κ hs w) {id g:Nat} {ak:Bool} {tk:Ty} {t:KTy} {l:List (tk.den×t.den)} {f:Option (tk.den×Nat)} {x:t.den} {kv v:Value} {k:tk.den} {b:Nat} {c:Nat×Nat}
  {KT VT T:TypeId} (hT:P.underlying T=some (.map KT VT)) (hK:KeyTy P KT ak tk) (hid:hs id=.mapD ak tk t l f) (hbk:t.back hs (hs g)=some x) (hv:RepSV L κ hs w (t.sv g) v) (hkp:κ id=some (b,c)) (hkv:RepVal w (A4 L κ hs w) ak tk kv k) (hf:∀ j,j≠k->q0a tk f j=none) :
  ∃ κ' w',(Instr.mapUpdate T (.map (some b)) kv v).run P w=.ok () w'/\HeapOK L w0 κ' (upd (upd hs g .dead) id (.mapD ak tk t (A8 tk l k x) none)) w'/\Ext L κ hs w κ' (upd (upd hs g .dead) id (.mapD ak tk t (A8 tk l k x) none)) w':=by
 obtain⟨-,hgl,hgh,hone⟩:=q5i (n:=g) ok (fun b hb=>hb) hbk hv rfl
 have hne:=q37 hbk (.inr ⟨_,_,_,_,_,hid⟩)
 have hob:=ok.obj id
 rw[hid]at hob
 obtain⟨b',c',es,cl,r1,r2,hr⟩:=hob
 rw[hkp]at r1
 simp only[Option.some.injEq,Prod.mk.injEq]at r1
 obtain⟨rfl,rfl⟩:=r1
 have hlive:(hs id).live=true:=by rw[hid];rfl
 have hlike:(hs id).like (.mapD ak tk t (A8 tk l k x) (some (k,g))):=by rw[hid];trivial
 obtain⟨p,hp,hlen,hent,hcase⟩:=hr.r.find (w1:=w) hK (fun x q hx=>hx.1) hkv
 have hchk:=hK.chk false w w _ _ _ hkv
 have fin:∀ (es':Array MapEntry) (cl':Nat),(Ext L κ hs w κ (upd hs id (.mapD ak tk t (A8 tk l k x) (some (k,g)))) (w.putObj b (.map es' cl')) ->
    EntsR tk (RK L κ (upd hs id (.mapD ak tk t (A8 tk l k x) (some (k,g)))) (w.putObj b (.map es' cl')) id ak tk t (some (k,g))) (A8 tk l k x) es' cl') ->
   ∃ κ',HeapOK L w0 κ' (upd (upd hs g .dead) id (.mapD ak tk t (A8 tk l k x) none)) (w.putObj b (.map es' cl'))/\Ext L κ hs w κ' (upd (upd hs g .dead) id (.mapD ak tk t (A8 tk l k x) none)) (w.putObj b (.map es' cl')):=by
  intro es' cl' hes
  obtain⟨ok1,x1⟩:=q04 ok hkp r2 (cl':=cl') hlike (es':=es') fun hx=>⟨b,c,es',cl',hkp,World.putObj_heap_same (Array.getElem?_eq_some_iff.1 r2).1,(hes hx).k⟩
  have hg1:upd hs id (.mapD ak tk t (A8 tk l k x) (some (k,g))) g=hs g:=A0 _ _ hne
  obtain⟨κ',h1,h2,-⟩:=q1q ok1 (A1 _ _ _) (l1:=A8 tk l k x) (u:=[(g,.dead)]) (by
   simp only[Q3,hg1,Y8 (h:=hs),hbk,Option.map_some]
   rw[z8d hr.flat (O2 hr.flat hr.rise) (U1 hr.flat l k x)])
  have hheap:upd (A5 [(g,.dead)] (upd hs id (.mapD ak tk t (A8 tk l k x) (some (k,g))))) id (.mapD ak tk t (A8 tk l k x) none)=upd (upd hs g .dead) id (.mapD ak tk t (A8 tk l k x) none):=by
   show upd (upd (upd hs id _) g .dead) id _=_
   rw[j30 hs hne.symm,q1b]
  rw[hheap]at h1
  exact⟨κ',h1.1,x1.trans h1.2⟩
 have keep:∀ {es':Array MapEntry} {cl':Nat} {z:MapEntry} {r:tk.den×t.den},Ext L κ hs w κ (upd hs id (.mapD ak tk t (A8 tk l k x) (some (k,g)))) (w.putObj b (.map es' cl'))->r.1≠k->RK L κ hs w id ak tk t f z r ->
   RK L κ (upd hs id (.mapD ak tk t (A8 tk l k x) (some (k,g)))) (w.putObj b (.map es' cl')) id ak tk t (some (k,g)) z r:=by
  intro es' cl' z r hx hrk ⟨a1,a2,a3⟩
  rw[hf _ hrk]at a3
  refine⟨a1.mono hx.free,a2,?_⟩
  rw[q4b hr.flat hrk]
  exact RepKid.ext hx rfl (fun b2 c2 hk2=>World.putObj_heap_other fun e0=>by
   subst e0
   exact J6 ok (by rw[hid];simp) id z.born (ok.inj _ _ b2 c2 c (q0s ok id z.born) hlive hk2 hkp)) a3
 have new:∀ {es':Array MapEntry} {cl':Nat} {z:MapEntry},Ext L κ hs w κ (upd hs id (.mapD ak tk t (A8 tk l k x) (some (k,g)))) (w.putObj b (.map es' cl'))->z.key=kv->z.val=v ->
   RK L κ (upd hs id (.mapD ak tk t (A8 tk l k x) (some (k,g)))) (w.putObj b (.map es' cl')) id ak tk t (some (k,g)) z (k,x):=by
  intro es' cl' z hx h1 h2
  refine⟨by rw[h1];exact hkv.mono hx.free,by rw[h2];exact hone,?_⟩
  rw[z2s hr.flat]
  exact⟨by rw[h2];exact RepSV.ext hx _ _ hv,hx.keeps hgh⟩
 rcases hcase with⟨j,y,q,e1,e2,e3,e4,e5⟩ | ⟨e1,e2,e3⟩
 ·have hrun:(Instr.mapUpdate T (.map (some b)) kv v).run P w=.ok () (w.putObj b (.map (es.modify j fun e=>{ e with key:=kv,val:=v }) cl)):=by
   unfold Instr.mapUpdate
   have hsame:Instr.sameBits 10000 y.key kv=true:=hK.same w _ _ _ k (by rw[<-e3];exact(hent j y q e1 e2).1) hkv
   have hgj:es[j]? = some y:=by simpa using e1
   simp[run_underlying hT,J9 r2,hchk,e4,Instr.keyThatStays,hgj,hsame,V3 _ r2]
  obtain⟨κ',f1,f2⟩:=fin (es.modify j fun e=>{ e with key:=kv,val:=v }) cl fun hx=>by
   have:=hr.r.setAt (R':=RK L κ (upd hs id (.mapD ak tk t (A8 tk l k x) (some (k,g)))) (w.putObj b (.map (es.modify j fun e=>{ e with key:=kv,val:=v }) cl)) id ak tk t (some (k,g))) hp hlen hent e1 e2 (kv:=kv) (vv:=v) (y:=x)
    (by rw[e3];exact new hx rfl rfl) (fun j' z r hjj hz hrr hR=>keep hx (fun e0=>hjj (z22 hr.flat hp hr.rise hrr e2 (e0.trans e3.symm))) hR) (f:=fun e=>{ e with key:=kv,val:=v }) rfl
   rw[e3]at this
   exact this
  exact⟨κ',_,hrun,f1,f2⟩
 ·have hrun:(Instr.mapUpdate T (.map (some b)) kv v).run P w=.ok () (w.putObj b (.map (es.push { key:=kv,val:=v,born:=cl }) (cl+1))):=by
   unfold Instr.mapUpdate
   simp[run_underlying hT,J9 r2,hchk,e2,V3 _ r2]
  obtain⟨κ',f1,f2⟩:=fin (es.push { key:=kv,val:=v,born:=cl }) (cl+1) fun hx =>
   hr.r.pushAt hp hlen hent e1 (new hx rfl rfl) (fun z r hz hrr hR=>keep hx (e1 r hrr) hR)
  exact⟨κ',_,hrun,f1,f2⟩
theorem j0y {R:Type} {C:Ctx} (hti:∀ t ti,C.TI t=some ti->ti.OK P t) {o:Oper} {T:TypeId} {m i y:Operand} (ho:o.op=.mapUpdate T m i y\/o.op=.insert T m i y) {ρ:Env} {h:Heap} {id:Nat} (hm:ev ρ m=.one (.mp id)) {K:Eff->Option R} {z:R}
  (he:q6d C T id (ev ρ i) (ev ρ y) h K=some z):∃ q,K q=some z/\q.full=none/\∀ ρs hs,ev ρs m=ev ρ m->ev ρs i=ev ρ i->ev ρs y=ev ρ y->(∀ j∈q.rd,hs j=h j)->(∀ p∈q.ups,hs p.1=h p.1)->A6 P L w0 o ρs hs (q.heap hs) q.av:=by
 have hdef:∀ c,o.op≠.defer c:=fun c hc=>by rcases ho with ho | ho<;>rw[ho]at hc<;>cases hc
 unfold q6d at he
 split at he
 ·rename_i ak tk t l f s hid hy
  split at he
  ·rename_i x' g0 k hput hkey
   obtain⟨KT,VT,tiv,hT,hK,htv,hts,htag,hzb,he2⟩:=z8f hti he
   obtain⟨hsv,hbk⟩:=z9c hput
   subst hsv
   have hflat:tk.flat=true:=hK.flat
   have simple:(∀ j,j≠k.1->q0a tk f j=none)->K { av:=.one .unk,rd:=[id],ups:=[(g0,.dead),(id,.mapD ak tk t (A8 tk l k.1 x') none)],full:=none }=some z ->
     ∃ q,K q=some z/\q.full=none/\∀ ρs hs,ev ρs m=ev ρ m->ev ρs i=ev ρ i->ev ρs y=ev ρ y->(∀ j∈q.rd,hs j=h j)->(∀ p∈q.ups,hs p.1=h p.1)->A6 P L w0 o ρs hs (q.heap hs) q.av:=by
    intro hf hk
    refine⟨_,hk,rfl,fun ρs hs hρm hρi hρy hrd hup=>q08 hdef fun κ a w hev ok=>?_⟩
    have hids:hs id=.mapD ak tk t l f:=(hrd id (by simp)).trans hid
    have hgs:hs g0=h g0:=hup (g0,.dead) (by simp)
    have hmv:=hev m
    rw[hρm,hm]at hmv
    obtain⟨_,b,c,q1,q2⟩:=hmv
    have hyv:=hev y
    rw[hρy,hy]at hyv
    have hkv:=q01 hev ok hflat (i:=i) (k:=k) (ids:=[]) (by rw[hρi];exact q97 hkey)
    obtain⟨κ',w',s1,s5,s6⟩:=j29 ok hT hK hids (by rw[hgs,Y8 (h:=h)];exact hbk) hyv q1 hkv hf
    exact⟨κ',w',z6j ho (by rw[q2];exact s1),s5,s6⟩
   split at he2
   ·exact simple (fun j _=>q4c tk j) he2
   ·rename_i j g
    split at he2
    ·obtain⟨h1,he4⟩:=A7 he2
     have h1:=(tk.eqb_iff hflat _ _).1 h1
     subst h1
     exact simple (fun j' hj=>q4b hflat hj _) he4
    ·rename_i hdd
     split at he2
     ·rename_i l1 u hcl
      refine⟨_,he2,rfl,fun ρs hs hρm hρi hρy hrd hup=>q08 hdef fun κ a w hev ok=>?_⟩
      have hids:hs id=.mapD ak tk t l (some (j,g)):=(hrd id (by simp)).trans hid
      have hgs:hs g0=h g0:=hup (g0,.dead) (by simp)
      obtain⟨κ1,a1,a2,a4⟩:=q1q ok hids (q5q (hs:=hs) hcl (fun p hp=>hup p (by simp[hp])))
      have hu:u=[(g,.dead)]:=by
       simp only[Q3,Option.map_eq_some_iff,Prod.mk.injEq]at hcl
       obtain⟨_,_,_,rfl⟩:=hcl
       rfl
      simp only[Bool.or_eq_false_iff]at hdd
      have hgg:g0≠g:=fun e0=>by rw[e0,Nat.beq_refl]at hdd;cases hdd.2
      have hne:g0≠id:=q37 hbk (.inr ⟨_,_,_,_,_,hid⟩)
      have hg1:upd (A5 u hs) id (.mapD ak tk t l1 none) g0=h g0:=by
       rw[A0 _ _ hne,hu]
       show upd hs g .dead g0=_
       rw[A0 _ _ hgg,hgs]
      have hmv:=hev m
      rw[hρm,hm]at hmv
      obtain⟨hh,b,c,q1,q2⟩:=hmv
      have hyv:=hev y
      rw[hρy,hy]at hyv
      have hkv:=q01 hev ok hflat (i:=i) (k:=k) (ids:=[]) (by rw[hρi];exact q97 hkey)
      obtain⟨κ',w',s1,s5,s6⟩:=j29 a1.1 hT hK (A1 _ _ _) (by rw[hg1,Y8 (h:=h)];exact hbk) (RepSV.ext a1.2 _ _ hyv) ((a1.2.place id hh).trans q1) (hkv.mono a1.2.free) (fun j _=>q4c tk j)
      have hheap:Eff.heap { av:=.one .unk,rd:=[id],ups:=u++[(id,.mapD ak tk t l1 none),(g0,.dead),(id,.mapD ak tk t (A8 tk l1 k.1 x') none)],full:=none } hs=upd (upd (upd (A5 u hs) id (.mapD ak tk t l1 none)) g0 .dead) id (.mapD ak tk t (A8 tk l1 k.1 x') none):=by
       show A5 (u++_) hs=_
       rw[J8];rfl
      rw[hheap]
      exact⟨κ',w',z6j ho (by rw[q2];exact s1),s5,a1.2.trans s6⟩
     ·cases he2
  ·cases he
 ·cases he
theorem j0v {R:Type} {C:Ctx} (hti:∀ t ti,C.TI t=some ti->ti.OK P t) {o:Oper} {op:BinOp} {T T':TypeId} {x:Operand} (ho:o.op=.binOp op T x (.const (.map none)) T') {ρ:Env} {s:SV} {b:Bool} (hx:ev ρ x=.one s)
  (hs:(∃ g,s=.mp g/\b=false)\/(s=.mpn/\b=true)) {K:Eff->Option R} {z:R} (he:q69 C op T b K=some z) :
  ∃ q,K q=some z/\q.full=none/\∀ ρs hs,ev ρs x=ev ρ x->A6 P L w0 o ρs hs (q.heap hs) q.av:=by
 unfold q69 at he
 split at he
 ·rename_i ti hT
  have heq:∀ {k v:TypeId},ti.mp=some (k,v)->∀ (a:Act) w (κ:A2) (hs0:Heap),RepSV L κ hs0 w s (a.eval x)->(Op.equal T (a.eval x) (.map none)).run P w=.ok b w:=by
   intro k v hm a w κ hs0 hr
   have hu:=(hti T ti hT).mapT k v hm
   have hv:∃ r,a.eval x=.map r/\r.isNone=b:=by
    rcases hs with⟨g,rfl,rfl⟩ | ⟨rfl,rfl⟩
    ·obtain⟨_,bb,c,_,h⟩:=hr;exact⟨some bb,h,rfl⟩
    ·exact⟨none,hr,rfl⟩
   obtain⟨r,hv,hb⟩:=hv
   unfold Op.equal
   rw[show Op.maxDepth=9999+1 from rfl]
   generalize (9999:Nat)=n
   unfold Op.equalIn
   rw[Sem.run_bind,run_underlying hu,hv]
   cases r<;>(subst hb;rfl)
  have hg:∀ (op:BinOp) (v:Value) (w:World),(eqGuard op T x (.const (.map none)) v (.map none)).run P w=.ok () w:=fun op v w=>by
   cases op<;>cases v<;>first | rfl | (cases x<;>rfl)
  have hn:∀ a:Act,a.eval (.const (.map none))=.map none:=fun _=>rfl
  split at he
  ·rename_i k v hm
   refine⟨_,he,rfl,fun ρs hs h1=>C6 (fun c hc=>by rw[ho]at hc;cases hc) fun κ a w hev ok=>⟨.bool b,?_,M2 b⟩⟩
   have hxv:=hev x
   rw[h1,hx]at hxv
   have h2:=heq hm a w κ hs hxv
   unfold execOp
   rw[ho]
   simp only[hn,Sem.run_bind,hg,Result.andThen_ok]
   have:((binOp .eql T (a.eval x) (.map none)).run P w)=.ok (.bool b) w:=by
    have hb:binOp .eql T (a.eval x) (.map none)=(do pure (.bool (<-Op.equal T (a.eval x) (.map none))):Sem Value):=by
     generalize a.eval x=v
     cases v<;>rfl
    rw[hb,Sem.run_bind,h2];rfl
   rw[this];rfl
  ·rename_i k v hm
   refine⟨_,he,rfl,fun ρs hs h1=>C6 (fun c hc=>by rw[ho]at hc;cases hc) fun κ a w hev ok=>⟨.bool (!b),?_,M2 (!b)⟩⟩
   have hxv:=hev x
   rw[h1,hx]at hxv
   have h2:=heq hm a w κ hs hxv
   unfold execOp
   rw[ho]
   simp only[hn,Sem.run_bind,hg,Result.andThen_ok]
   have:((binOp .neq T (a.eval x) (.map none)).run P w)=.ok (.bool (!b)) w:=by
    have hb:binOp .neq T (a.eval x) (.map none)=(do pure (.bool (!(<-Op.equal T (a.eval x) (.map none)))):Sem Value):=by
     generalize a.eval x=v
     cases v<;>rfl
    rw[hb,Sem.run_bind,h2];rfl
   rw[this];rfl
  ·cases he
 ·cases he
theorem y27 {o:Oper} {T:TypeId} {x:Operand} {ti:TInfo} (hti:ti.OK P T) {kv:TypeId×TypeId} (hmp:ti.mp=some kv) (ho:o.op=.call { callee:=.builtin .len,args:=#[x],argTypes:=#[T] }) {ρs:Env} {hs:Heap} {id:Nat} {ak:Bool} {tk:Ty} {t:KTy} {l:List (tk.den×t.den)} {f:Option (tk.den×Nat)}
  (hx:ev ρs x=.one (.mp id)) (hid:hs id=.mapD ak tk t l f):A6 P L w0 o ρs hs hs (D8 .i64 l.length):=by
 refine C6 (fun c hc=>by rw[ho]at hc;cases hc) fun κ a w hev ok=>⟨.int .i64 l.length,?_,G7 _ _⟩
 have hmv:=hev x
 rw[hx]at hmv
 obtain⟨_,b,c,hkb,hmv⟩:=hmv
 have hob:=ok.obj id
 rw[hid]at hob
 obtain⟨b2,c2,es,cl,hk2,hb,hr⟩:=hob
 rw[hkb]at hk2;cases hk2
 have hu:=hti.mapT kv.1 kv.2 hmp
 obtain⟨p,hp,hlen,-⟩:=hr.ents
 have hsz:es.size=l.length:=by rw[<-hp.length_eq,hlen];simp
 refine q6f ho ?_
 unfold Builtin.len_
 simp[run_underlying hu,hmv,J9 hb,hsz,goInt]
theorem y2i {R:Type} {C:Ctx} (hti:∀ t ti,C.TI t=some ti->ti.OK P t) {o:Oper} {T:TypeId} (ho:o.op=.makeMap T none) {h:Heap} {id':Nat} {t:KTy} {K:Eff->Option R} {z:R} (he:z0l C T t h id' K=some z) :
  ∃ q,K q=some z/\q.full=none/\∀ ρs hs,(∀ p∈q.ups,hs p.1=h p.1)->A6 P L w0 o ρs hs (q.heap hs) q.av:=by
 unfold z0l at he
 split at he
 ·rename_i ti hT
  split at he
  ·rename_i k v hm
   split at he
   ·rename_i tik tiv hk hv
    obtain⟨hc,he⟩:=A7 he
    simp only[Bool.and_eq_true]at hc
    have hK:=q40 (hti k tik hk) hc.1.1.1
    obtain⟨hf,he2⟩:=O4 he
    refine⟨_,he2,rfl,fun ρs hs h1=>I3 (fun c hc=>by rw[ho]at hc;cases hc) fun κ a w hev ok=>?_⟩
    have hfs:hs id'=.fresh:=(h1 (id',.mapD tik.agg tik.ty t [] none) (by simp)).trans hf
    have hidk:H1 (upd κ id' (some (w.heap.size,0))) id' id'=some (w.heap.size,0):=by
     rw[Q8 fun m e0=>K8 hfs (by rw[e0];exact N8 ok id' m),A1]
    obtain⟨ok',x'⟩:=z7b (κ:=κ) (h:=hs) (w:=w) ok (.map #[] 0) (id:=id') (obj:=.mapD tik.agg tik.ty t [] none) 0 hfs (fun _ =>
     ⟨w.heap.size,0,#[],0,hidk,heap_alloc_new w _,⟨hK.flat,List.Pairwise.nil,by simp,fun x hx=>by simp at hx,[],List.Perm.refl _,rfl,fun i x q hi=>by simp at hi⟩⟩)
    refine⟨_,.map (some w.heap.size),w.alloc (.map #[] 0),?_,ok',⟨?_,_,_,hidk,rfl⟩,x'⟩
    ·unfold execOp
     simp[ho,Instr.makeMap]
    ·show(upd hs id' _ id').Held;rw[A1];simp
   ·cases he
  ·cases he
 ·cases he
theorem z1l {κ:A2} {h:Heap} {w:World} (ok:HeapOK L w0 κ h w) {id:Nat} {obj':AObj} (hid:(h id).Held) (hil:(h id).live=true) (hnl:obj'.live=false) (ht:Turn (h id) obj')
  (hr:(∀ b,A4 L κ h w b->A4 L (H1 κ id) (upd h id obj') w b)->(∀ n b c,κ (kn id n)=some (b,c)->A4 L (H1 κ id) (upd h id obj') w b)->(∀ b c,κ id=some (b,c)->A4 L (H1 κ id) (upd h id obj') w b)->H1 κ id id=κ id->RepObj L (H1 κ id) (upd h id obj') w id obj') :
  HeapOK L w0 (H1 κ id) (upd h id obj') w/\Ext L κ h w (H1 κ id) (upd h id obj') w:=by
 have nk:∀ j,(h j).Held->∀ n,j≠kn id n:=fun j hj n e=>hj.2 (by rw[e];exact N8 ok id n)
 have nks:∀ j b c,H1 κ id j=some (b,c)->(∀ n,j≠kn id n)/\κ j=some (b,c):=fun j b c hk=>by
  have:∀ n,j≠kn id n:=fun n e=>by subst e;rw[z2g]at hk;cases hk
  rw[Q8 this]at hk;exact⟨this,hk⟩
 have hlv:∀ j,(upd h id obj' j).live=true->j≠id/\(h j).live=true:=fun j hj=>by
  have:j≠id:=fun e=>by subst e;rw[A1,hnl]at hj;cases hj
  rw[A0 _ _ this]at hj;exact⟨this,hj⟩
 have m:Moves κ h (H1 κ id) (upd h id obj') (fun j=>j) :=
  ⟨fun j b c hj hk=>⟨(hlv j hj).2,c,(nks j b c hk).2⟩,fun i j b c b' c' _ _ _ _ he=>he⟩
 have hself:H1 κ id id=κ id:=Q8 (nk id hid)
 have let_go:∀ j b c,(h j).live=true->κ j=some (b,c)->(j=id\/∃ n,j=kn id n)->A4 L (H1 κ id) (upd h id obj') w b:=fun j b c hj hk hjj=>by
  have ho:=ok.own j b c hj hk
  refine⟨ho.2,fun hL=>(ok.outer b hL).2 _ _ hj hk,fun i c' hi hki=>?_⟩
  obtain⟨i1,i2⟩:=hlv i hi
  obtain⟨i3,i4⟩:=nks i b c' hki
  have:=ok.inj i j b c' c i2 hj i4 hk
  rcases hjj with rfl | ⟨n,rfl⟩
  ·exact i1 this
  ·exact i3 n this
 refine q6o ok m (fun j hj=>Q8 (nk j hj)) (fun j=>?_) (fun j hj=>?_) (fun j=>?_)
 ·by_cases e:j=id
  ·subst e;rw[A1];exact ht
  ·rw[A0 _ _ e];exact .same _
 ·rw[A0 _ _ (fun e=>hid.2 (by rw[<-e];exact ok.kids j hj))];exact ok.kids j hj
 ·by_cases e:j=id
  ·subst e;rw[A1]
   exact .inl (hr m.free (fun n b c hk=>let_go _ b c (q0s ok j n) hk (.inr ⟨n,rfl⟩)) (fun b c hk=>let_go _ b c hil hk (.inl rfl)) hself)
  ·rw[A0 _ _ e]
   by_cases e2:∃ n,j=kn id n
   ·obtain⟨n,rfl⟩:=e2;rw[N8 ok];exact .inl trivial
   ·exact .inr ⟨rfl,Q8 fun n e3=>e2 ⟨n,e3⟩,fun n=>Q8 fun m e3=>e (q02 e3).1⟩
theorem z7t {κ κ2:A2} {h h2:Heap} {w:World} {n:Nat} (hk:∀ b c,κ n=some (b,c)->A4 L κ2 h2 w b) (hf:∀ b,A4 L κ h w b->A4 L κ2 h2 w b) {e:TypeId} {t:Ty} {v:Value} {l:List t.den} (hr:RepKid L κ h w n (.arr e t) v l) :
  RepAt w (A4 L κ2 h2 w) (.list t) (E3 v) l:=by
 obtain⟨h1,h3⟩:=hr
 rcases h1 with⟨_,rfl,rfl⟩ | ⟨b,cap,hkn,rfl⟩
 ·exact⟨none,0,0,rfl,rfl,Nat.le_refl _,fun hne=>absurd rfl hne⟩
 ·rcases h3 with⟨hk',_⟩ | ⟨b',cap',cur,hk',hcell,hsz,hcm,hle,h1,hel⟩
  ·rw[hkn]at hk';cases hk'
  ·rw[hkn]at hk'
   simp only[Option.some.injEq,Prod.mk.injEq]at hk'
   obtain⟨rfl,rfl⟩:=hk'
   refine⟨some ⟨b,cap.2,none⟩,l.length,cap.1,rfl,rfl,hle,fun _=>⟨b,cap.2,rfl,hk b cap hkn,fun i y hy=>?_⟩⟩
   refine RepAt.congr t _ _ y (fun c hc=>?_) (RepAt.mono (fun b hb=>⟨hf b hb,rfl⟩) t _ y (hel i y hy))
   simp only[hc,if_true]
   simp[World.cell?,hcell,Nat.add_assoc]
theorem j6m {κ:A2} {h:Heap} {w:World} (ok:HeapOK L w0 κ h w) {id:Nat} {e e':TypeId} {t:Ty} {l:List (List t.den)} (hid:h id=.arrD e (.arr e' t) l none) :
  HeapOK L w0 (H1 κ id) (upd h id (.ice e (.list t) l)) w/\Ext L κ h w (H1 κ id) (upd h id (.ice e (.list t) l)) w:=by
 refine z1l ok (by rw[hid];simp) (by rw[hid];rfl) rfl (by rw[hid];exact .iceA _ _ _ _ _ _ rfl rfl) fun hf hk hown hself=>⟨?_,fun b c hb=>hown b c (by rw[<-hself];exact hb)⟩
 have hob:=ok.obj id
 rw[hid]at hob
 rcases hob with⟨h1,h2,_⟩ | ⟨b,cap,cur,r1,r2,r3,r4,r5,r6,r7⟩
 ·exact .inl ⟨hself.trans h1,h2⟩
 ·refine .inr ⟨b,cap,cur,hself.trans r1,r2,by simpa[Ty.size]using r3,r4,r5,r6,fun i y hy=>?_⟩
  obtain⟨v,v1,v2⟩:=r7 i y hy
  refine RepAt.congr (.list t) _ _ y (fun c hc=>?_) (z7t (hk i) hf v2)
  have h0:c=0:=by simp[Ty.size]at hc;exact hc
  subst h0
  simp[E3,Ty.size,v1]
theorem j6n {κ:A2} {h:Heap} {w:World} (ok:HeapOK L w0 κ h w) {id:Nat} {ak:Bool} {tk:Ty} {e':TypeId} {t:Ty} {l:List (tk.den×List t.den)} (hid:h id=.mapD ak tk (.arr e' t) l none) :
  HeapOK L w0 (H1 κ id) (upd h id (.mice ak false tk (.list t) l)) w/\Ext L κ h w (H1 κ id) (upd h id (.mice ak false tk (.list t) l)) w:=by
 refine z1l ok (by rw[hid];simp) (by rw[hid];rfl) rfl (by rw[hid];exact .iceM _ _ _ _ _ _ _ _ _ _) fun hf hk hown hself=>?_
 have hob:=ok.obj id
 rw[hid]at hob
 obtain⟨b,c,es,cl,r1,r2,hr⟩:=hob
 refine⟨b,c,es,cl,hself.trans r1,hown b c r1,r2,⟨hr.flat,hr.rise,hr.apart,hr.early,?_⟩⟩
 obtain⟨p,p1,p2,p3⟩:=hr.ents
 refine⟨p,p1,p2,fun i x q hx hq=>?_⟩
 obtain⟨a1,a2,a3⟩:=p3 i x q hx hq
 exact⟨a1.mono fun b hb=>⟨hf b hb,rfl⟩,rfl,a2,z7t (hk _) hf a3⟩
theorem z4g {α β:Type}:∀ {l:List (α×Option β)} {l2:List (α×β)},W4 l=some l2->l=l2.map fun p=>(p.1,some p.2)
 | [],l2,h=>by simp[W4]at h;subst h;rfl
 | (a,some b)::r,l2,h=>by
  simp only[W4,Option.map_eq_some_iff]at h
  obtain⟨r2,h1,rfl⟩:=h
  rw[z4g h1];rfl
 | (_,none)::_,_,h=>by cases h
theorem j6o {κ:A2} {h:Heap} {w:World} (ok:HeapOK L w0 κ h w) {id:Nat} {ak ak2 av2:Bool} {tk k v:Ty} {l2:List (tk.den×List (k.den×v.den))} (hid:h id=.mapD ak tk (.map ak2 av2 k v) (l2.map fun p=>(p.1,some p.2)) none) :
  HeapOK L w0 (H1 κ id) (upd h id (.mice ak false tk (.map ak2 av2 k v) l2)) w/\Ext L κ h w (H1 κ id) (upd h id (.mice ak false tk (.map ak2 av2 k v) l2)) w:=by
 refine z1l ok (by rw[hid];simp) (by rw[hid];rfl) rfl (by rw[hid];exact .iceM _ _ _ _ _ _ _ _ _ _) fun hf hk hown hself=>?_
 have hob:=ok.obj id
 rw[hid]at hob
 obtain⟨b,c,es,cl,r1,r2,hr⟩:=hob
 have hrise:l2.Pairwise fun p q=>tk.lt p.1 q.1=true:=List.pairwise_map.1 hr.rise
 refine⟨b,c,es,cl,hself.trans r1,hown b c r1,r2,⟨hr.flat,hrise,hr.apart,hr.early,?_⟩⟩
 obtain⟨p,p1,p2,p3⟩:=hr.ents
 refine⟨p.map fun q=>(q.1,q.2.getD []),?_,by simpa using p2,fun i x q hx hq=>?_⟩
 ·have:=p1.map fun q:tk.den×Option (List (k.den×v.den))=>(q.1,q.2.getD [])
  rw[List.map_map]at this
  have e:((fun q:tk.den×Option (List (k.den×v.den))=>(q.1,q.2.getD []))∘fun p:tk.den×List (k.den×v.den)=>(p.1,some p.2))=fun p=>p:=by funext p;rfl
  rw[show l2.map ((fun q:tk.den×Option (List (k.den×v.den))=>(q.1,q.2.getD []))∘fun p:tk.den×List (k.den×v.den)=>(p.1,some p.2))=l2 by rw[e];exact List.map_id' l2]at this
  exact this
 ·rw[List.getElem?_map,Option.map_eq_some_iff]at hq
  obtain⟨q0,hq0,rfl⟩:=hq
  obtain⟨a1,a2,a3⟩:=p3 i x q0 hx hq0
  obtain⟨y,hy⟩:∃ y,q0.2=some y:=by
   have hm:=p1.mem_iff.1 (List.mem_of_getElem? hq0)
   obtain⟨z,_,hz⟩:=List.mem_map.1 hm
   exact⟨z.2,by rw[<-hz]⟩
  have a3:RepKid L κ h w (kn id x.born) (.map ak2 av2 k v) x.val q0.2:=a3
  rw[hy]at a3
  obtain⟨b2,c2,es2,cl2,d1,d2,d3,d4⟩:=a3
  show RepVal w _ ak tk x.key q0.1/\RepVal w _ false (.map ak2 av2 k v) x.val (q0.2.getD [])
  rw[hy]
  exact⟨a1.mono fun b hb=>⟨hf b hb,rfl⟩,rfl,a2,b2,es2,cl2,by rw[d2];rfl,hk _ b2 c2 d1,d3,d4.mono fun b hb=>⟨hf b hb,rfl⟩⟩
end Go.Abs
