/- The engine, part 11c: operations on maps. -/
import Derived.Test.YtkfjlcdaepckoaaAbsSound9
namespace Go.Abs
open Go Go.RowKit
variable {P:Program} {L:Nat->Prop} {w0:World}
theorem RepVal.uniq {w w':World} {A A':Nat->Prop} {ak:Bool} {tk:Ty} (hf:tk.flat=true) {v:Value} {x y:tk.den} (h:RepVal w A ak tk v x) (h':RepVal w' A' ak tk v y):x=y:=by
 cases ak with
 | true =>
  obtain⟨us,e1,-,-,h1⟩:=h
  obtain⟨vs,e2,-,-,h2⟩:=h'
  rw[e1]at e2
  have:us=vs:=by simpa using e2
  subst this
  exact(q21 tk hf _ _ x y h1 h2).2 fun _ _=>rfl
 | false=>exact(q21 tk hf _ _ x y h.2.2 h'.2.2).2 fun _ _=>rfl
open Classical in
theorem MapRep.find {K:TypeId} {ak av:Bool} {tk tv:Ty} (hK:KeyTy P K ak tk) {w w1 w':World} {A A':Nat->Prop} {l:List (tk.den×tv.den)} {es:Array MapEntry} {clock:Nat} (hr:MapRep w A ak av tk tv l es clock) {v:Value} {k:tk.den} (hv:RepVal w' A' ak tk v k) :
  ∃ p:List (tk.den×tv.den),p.Perm l/\p.length=es.toList.length/\(∀ (i:Nat) (x:MapEntry) (q:tk.den×tv.den),es.toList[i]? = some x->p[i]? = some q->RepVal w A ak tk x.key q.1/\RepVal w A av tv x.val q.2) /\
   ((∃ i x q,es.toList[i]? = some x/\p[i]? = some q/\q.1=k/\(Instr.findKey K v es.toList).run P w1=.ok (some (i,x.val)) w1/\B4 tk l k=some q.2) \/
    ((∀ q∈p,q.1≠k)/\(Instr.findKey K v es.toList).run P w1=.ok none w1/\B4 tk l k=none)):=by
 obtain⟨p,hp,hlen,hent⟩:=hr.ents
 refine⟨p,hp,hlen,hent,?_⟩
 let b:MapEntry->Bool:=fun e=>if ∃ y,RepVal w A ak tk e.key y/\tk.eqb k y=true then true else false
 have hb:∀ (i:Nat) (x:MapEntry) (q:tk.den×tv.den),es.toList[i]? = some x->p[i]? = some q->b x=tk.eqb k q.1:=fun i x q h1 h2=>by
  have h3:=(hent i x q h1 h2).1
  cases hq:tk.eqb k q.1 with
  | true=>exact if_pos ⟨q.1,h3,hq⟩
  | false =>
   refine if_neg ?_
   rintro ⟨y,h4,h5⟩
   rw[RepVal.uniq hr.flat h4 h3,hq]at h5;cases h5
 have hrun:=hK.find w1 w' A' v k b es.toList hv (fun e he=>by
  obtain⟨i,hi⟩:=List.getElem?_of_mem he
  have hlt:i<p.length:=by rw[hlen];exact(List.getElem?_eq_some_iff.1 hi).1
  have hk':tk.flat=true:=hr.flat
  have h3:=(hent i e p[i] hi (List.getElem?_eq_getElem hlt)).1
  refine⟨p[i].1,?_,hb i e p[i] hi (List.getElem?_eq_getElem hlt)⟩
  exact RepVal.flatMono hk' h3)
 cases hfi:es.toList.findIdx? b with
 | none =>
  refine .inr ⟨fun q hq e=>?_,by rw[hrun,hfi];rfl,(X6 hr.flat).2 fun q hq e=>?_⟩
  ·obtain⟨i,hi⟩:=List.getElem?_of_mem hq
   have hlt:i<es.toList.length:=by rw[<-hlen];exact(List.getElem?_eq_some_iff.1 hi).1
   have h1:=List.findIdx?_eq_none_iff.1 hfi _ (List.getElem_mem hlt)
   rw[hb i _ q (List.getElem?_eq_getElem hlt) hi,e,tk.eqb_self hr.flat]at h1;cases h1
  ·obtain⟨i,hi⟩:=List.getElem?_of_mem (hp.mem_iff.2 hq)
   have hlt:i<es.toList.length:=by rw[<-hlen];exact(List.getElem?_eq_some_iff.1 hi).1
   have h1:=List.findIdx?_eq_none_iff.1 hfi _ (List.getElem_mem hlt)
   rw[hb i _ q (List.getElem?_eq_getElem hlt) hi,e,tk.eqb_self hr.flat]at h1;cases h1
 | some i =>
  obtain⟨hlt,hbi,_⟩:=List.findIdx?_eq_some_iff_getElem.1 hfi
  have hlt':i<p.length:=by rw[hlen];exact hlt
  have hbq:=hb i _ p[i] (List.getElem?_eq_getElem hlt) (List.getElem?_eq_getElem hlt')
  rw[hbi]at hbq
  have hk:=(tk.eqb_iff hr.flat _ _).1 hbq.symm
  refine .inl ⟨i,es.toList[i],p[i],List.getElem?_eq_getElem hlt,List.getElem?_eq_getElem hlt',hk.symm,?_,?_⟩
  ·rw[hrun,hfi,Option.bind_some,List.getElem?_eq_getElem hlt];rfl
  ·refine(K4 hr.flat hr.rise).2 (hp.mem_iff.1 ?_)
   rw[hk];exact List.getElem_mem hlt'
theorem q04 {κ:A2} {h:Heap} {w:World} (ok:HeapOK L w0 κ h w) {id b:Nat} {c:Nat×Nat} (hk:κ id=some (b,c)) {es es':Array MapEntry} {cl cl':Nat} (hb:w.heap[b]? = some (.map es cl)) {obj':AObj} (hl:(h id).like obj')
  (hr:Ext L κ h w κ (upd h id obj') (w.putObj b (.map es' cl'))->RepObj L κ (upd h id obj') (w.putObj b (.map es' cl')) id obj') :
  HeapOK L w0 κ (upd h id obj') (w.putObj b (.map es' cl'))/\Ext L κ h w κ (upd h id obj') (w.putObj b (.map es' cl')):=by
 have hoth:∀ b',b'≠b->(w.putObj b (.map es' cl')).heap[b']? = w.heap[b']?:=fun b' hne=>World.putObj_heap_other hne
 have hsz:(w.putObj b (.map es' cl')).heap.size=w.heap.size:=by simp
 have hx:=N5 (L:=L) (κ:=κ) (h:=h) (obj':=obj') hk hl (.inl (.inr (.inl ⟨_,_,hb⟩))) hsz hoth
 have hown:=ok.own id b c (AObj.like_live hl).1 hk
 exact⟨P3 ok hk hl hsz hoth (ok.below.trans ⟨rfl,rfl,rfl,by simp,fun k hk'=>World.putObj_heap_other (by omega),Nat.le_refl _⟩) (hr hx),hx⟩
theorem J9 {w:World} {r:Nat} {es:Array MapEntry} {cl:Nat} (hb:w.heap[r]? = some (.map es cl)):(getObj r).run P w=.ok (.map es cl) w:=by simp[getObj,Sem.run,hb]
theorem V3 {w:World} {r:Nat} {es:Array MapEntry} {cl:Nat} (o:Obj) (hb:w.heap[r]? = some (.map es cl)):(setObj r o).run P w=.ok () (w.putObj r o):=by simp[setObj,Sem.run,hb,World.putObj]
theorem RepVal.cells {κ:A2} {h:Heap} {w:World} {agg:Bool} {t:Ty} {v:Value} {y:t.den} (hr:RepVal w (A4 L κ h w) agg t v y):RepAV L κ h w (j33 agg t y) v/\RepComp L κ h w (agg,Y5 agg t y) v:=by
 cases agg with
 | true =>
  obtain⟨cs,h1,h2,h3,h4⟩:=hr
  have:RepCells L κ h w (F6 t y) cs:=⟨by rw[h2,P1],fun i s c hs hc=>by
   obtain⟨u,u1,u2,u3⟩:=S0 t _ y h4 i s hs
   rw[hc]at u1;cases u1;exact⟨u2,u3⟩⟩
  exact⟨⟨cs,h1,this⟩,cs,h1,this⟩
 | false=>exact⟨hr,hr⟩
theorem q58 {ti:TInfo} {T:TypeId} (hti:ti.OK P T):E5 ti.zeros=[]:=by
 obtain⟨⟨i,z,-,-,-,-,hzs,hzl,hc⟩,-⟩:=hti.base
 unfold E5
 apply List.flatMap_eq_nil_iff.2
 intro s hs
 obtain⟨j,hj⟩:=List.getElem?_of_mem hs
 have hlt:j<z.cells.size:=by rw[hzs,<-hzl];exact(List.getElem?_eq_some_iff.1 hj).1
 have:=hc j s _ hj (Array.getElem?_eq_getElem hlt)
 cases s<;>first | rfl | exact this.elim
theorem z3z {κ:A2} {h:Heap} {w:World} (ok:HeapOK L w0 κ h w) {V:TypeId} {ti:TInfo} (hti:ti.OK P V) {av:Bool} {tv:Ty} (hv:q1c ti av tv=true) {hs:Heap} {z:tv.den} (hz:C4 hs tv ti.zeros=some (z,[])) :
  ∃ v,(zeroValue V).run P w=.ok v w/\RepVal w (A4 L κ h w) av tv v z:=by
 simp only[q1c,Bool.and_eq_true,decide_eq_true_eq,beq_iff_eq]at hv
 obtain⟨⟨hty,hag⟩,hsz⟩:=hv
 have hsz:=Nat.eq_of_beq_eq_true hsz
 obtain⟨i,zv,hi,hisz,-,hiz,hzs,hzl,hrep,hone⟩:=hti.zero_one (L:=L)
 have hagg:=hti.zeroT i zv hi hiz
 have hzo:=q58 hti
 have hz':C4 h tv ti.zeros=some (z,[]):=(R2 tv ti.zeros (fun id hm=>by rw[hzo]at hm;cases hm)).trans hz
 obtain⟨h1,h2,h3⟩:=R3 ok (Ext.refl L κ h w) tv ti.zeros (fun c=>zv.cells.toList[c]?) z [] (fun j s hj=>V0 (hrep κ h w) hj) (fun id hm=>by rw[hzo]at hm;cases hm) hz'
 refine⟨zv,by unfold zeroValue;simp[q50 hi,hiz],?_⟩
 rw[hag]at hagg
 cases av with
 | true =>
  cases zv with
  | agg cs=>exact⟨cs.toList,by simp,by have:cs.size=ti.size:=hzs;simp[this,hsz],hone,h3⟩
  | _=>simp[q34]at hagg
 | false =>
  have hc:zv.cells=#[zv]:=by cases zv<;>first | rfl | simp[q34]at hagg
  have hs1:ti.size=1:=by rw[<-hzs,hc];rfl
  refine⟨hsz.trans hs1,hone zv (by rw[hc];simp),?_⟩
  refine RepAt.congr tv _ _ z (fun c hc'=>?_) h3
  have:c=0:=by omega
  subst this
  simp[E3,hc]
theorem z2a {R:Type} {C:Ctx} (hti:∀ t ti,C.TI t=some ti->ti.OK P t) {T:TypeId} {ak av:Bool} {tk tv:Ty} {K:TInfo->Option R} {z:R} (he:q03 C T ak av tk tv K=some z) :
  ∃ k v tiv,P.underlying T=some (.map k v)/\KeyTy P k ak tk/\tiv.OK P v/\q1c tiv av tv=true/\K tiv=some z:=by
 unfold q03 at he
 split at he
 ·rename_i ti hT
  split at he
  ·rename_i k v hm
   split at he
   ·rename_i tik tiv hk hv
    obtain⟨hc,he⟩:=L9 he
    rw[Bool.and_eq_true]at hc
    exact⟨k,v,tiv,(hti T ti hT).mapT k v hm,q40 (hti k tik hk) hc.1,hti v tiv hv,hc.2,he⟩
   ·cases he
  ·cases he
 ·cases he
theorem q0v {κ:A2} {h:Heap} {w:World} {ρ:Env} {a:Act} (hev:∀ x,RepAV L κ h w (ev ρ x) (a.eval x)) (ok:HeapOK L w0 κ h w) {m:Operand} {id:Nat} (hm:ev ρ m=.one (.mp id)) {ak av:Bool} {tk tv:Ty} {l:List (tk.den×tv.den)} (hid:h id=.mapo ak av tk tv l) :
  ∃ b c es cl,κ id=some (b,c)/\a.eval m=.map (some b)/\w.heap[b]? = some (.map es cl)/\MapRep w (A4 L κ h w) ak av tk tv l es cl:=by
 have h1:=hev m
 rw[hm]at h1
 obtain⟨_,b,c,hk,hv⟩:=h1
 have h2:=ok.obj id
 rw[hid]at h2
 obtain⟨b',c',es,cl,hk',hb,hr⟩:=h2
 rw[hk]at hk';cases hk'
 exact⟨b,c,es,cl,hk,hv,hb,hr⟩
theorem q98 {κ:A2} {h:Heap} {w:World} {ρ:Env} {a:Act} (hev:∀ x,RepAV L κ h w (ev ρ x) (a.eval x)) (ok:HeapOK L w0 κ h w) {as:List (Bool×Ty)} {xs:List Operand} {ys:H6 as} {ids:List Nat} (he:F0 h as (xs.map (ev ρ))=some (ys,ids)) :
  M4 w (A4 L κ (A5 (B0 h ids) h) w) as (xs.map a.eval) ys:=by
 obtain⟨okI,extI,freeI⟩:=S6 ids ok
 exact q1k ok extI as (xs.map (ev ρ)) (xs.map a.eval) ys ids (by simp) (fun i av v h1 h2=>by
  simp only[List.getElem?_map,Option.map_eq_some_iff]at h1 h2
  obtain⟨q,hq,rfl⟩:=h1
  obtain⟨q',hq',rfl⟩:=h2
  rw[hq]at hq';cases hq'
  exact hev q) he freeI
theorem q01 {κ:A2} {h:Heap} {w:World} {ρ:Env} {a:Act} (hev:∀ x,RepAV L κ h w (ev ρ x) (a.eval x)) (ok:HeapOK L w0 κ h w) {ak:Bool} {tk:Ty} (hf:tk.flat=true) {i:Operand} {k:H6 [(ak,tk)]} {ids:List Nat} (he:F0 h [(ak,tk)] [ev ρ i]=some (k,ids)) :
 RepVal w (A4 L κ h w) ak tk (a.eval i) k.1:=(q98 hev ok (xs:=[i]) he).1.flatMono hf
theorem y2h {R:Type} {C:Ctx} (hti:∀ t ti,C.TI t=some ti->ti.OK P t) {o:Oper} {T:TypeId} {r:Option Operand} (ho:o.op=.makeMap T r) {ρ:Env} {h:Heap} {id':Nat} {K:Eff->Option R} {z:R} (he:z0k C T h id' (r.map (ev ρ)) K=some z) :
  ∃ q,K q=some z/\q.full=none/\∀ ρs hs,(∀ p∈q.ups,hs p.1=h p.1)->A6 P L w0 o ρs hs (q.heap hs) q.av:=by
 unfold z0k at he
 split at he
 ·rename_i ti hT hr
  have hr:r=none:=by cases r with | none=>rfl | some x=>cases hr
  subst hr
  split at he
  ·rename_i k v hm
   split at he
   ·rename_i tik tiv hk hv
    obtain⟨hc,he⟩:=L9 he
    rw[Bool.and_eq_true]at hc
    have hK:=q40 (hti k tik hk) hc.1
    unfold H5 at he
    split at he
    ·rename_i hf
     refine⟨_,he,rfl,fun ρs hs h1=>?_⟩
     have hf':hs id'=.fresh:=(h1 (id',.mapo tik.agg tiv.agg tik.ty tiv.ty []) (by simp)).trans hf
     refine I3 (fun c hc=>by rw[ho]at hc;cases hc) fun κ a w hev ok=>?_
     have hx:=N4 (L:=L) (κ:=κ) (h:=hs) (w:=w) (.map #[] 0) (AObj.mapo tik.agg tiv.agg tik.ty tiv.ty []) 0 hf'
     refine⟨_,.map (some w.heap.size),w.alloc (.map #[] 0),?_,S4 ok _ _ 0 hf' ⟨w.heap.size,0,#[],0,A1 _ _ _,heap_alloc_new w _,?_⟩,⟨by rw[Eff.heap];show(upd hs id' _ id').Held;rw[A1];simp,_,_,A1 _ _ _,rfl⟩,hx⟩
     ·unfold execOp
      simp[ho,Instr.makeMap]
     ·exact⟨hK.flat,List.Pairwise.nil,by simp,fun x hx=>by simp at hx,[],List.Perm.refl _,rfl,fun i x q hi=>by simp at hi⟩
    ·cases he
   ·cases he
  ·cases he
 ·cases he
theorem y29 {R:Type} {C:Ctx} (hti:∀ t ti,C.TI t=some ti->ti.OK P t) {o:Oper} {T:TypeId} {m i:Operand} {ok2:Bool} (ho:o.op=.lookup T m i ok2) {ρ:Env} {h:Heap} {K:Eff->Option R} {z:R} (he:q1w C T (ev ρ m) (ev ρ i) ok2 h K=some z) :
  ∃ q,K q=some z/\q.full=none/\∀ ρs hs,ev ρs m=ev ρ m->ev ρs i=ev ρ i->(∀ id∈q.rd,hs id=h id)->A6 P L w0 o ρs hs (q.heap hs) q.av:=by
 unfold q1w at he
 split at he
 ·rename_i id hm
  split at he
  ·rename_i ak av tk tv l hid
   obtain⟨KT,VT,tiv,hT,hK,htv,hvok,he⟩:=z2a hti he
   split at he
   ·rename_i k ids z0 hk hz
    refine⟨_,he,rfl,fun ρs hs e1 e2 hrd=>?_⟩
    have hids:hs id=h id:=hrd id (by simp)
    refine C6 (fun c hc=>by rw[ho]at hc;cases hc) fun κ a w hev ok=>?_
    show ∃ v,_/\RepAV L κ hs w _ v
    obtain⟨b,c,es,cl,hkb,hmv,hb,hr⟩:=q0v hev ok (e1.trans hm) (hids.trans hid)
    have hkv:=q01 hev ok hr.flat (i:=i) (by rw[e2];exact Q1 _ _ _ _ hk (fun j hj=>hrd j (List.mem_cons_of_mem _ hj)))
    obtain⟨zv,hzr,hzv⟩:=z3z ok htv hvok hz
    obtain⟨p,hp,hlen,hent,hcase⟩:=hr.find (w1:=w) hK hkv
    have hchk:=hK.chk es.isEmpty w w _ _ _ hkv
    have fin:∀ (u:Value) (y:tv.den) (b:Bool),(∃ fo,(Instr.findKey KT (a.eval i) es.toList).run P w=.ok fo w/\((∃ j,fo=some (j,u)/\b=true)\/(fo=none/\u=zv/\b=false)))->RepVal w (A4 L κ hs w) av tv u y ->
      ∃ v,(execOp a.eval o).run P w=.ok (.value v) w/\RepAV L κ hs w (q0u ok2 av tv y b) v:=by
     rintro u y b' ⟨fo,hfo,hu⟩ hrep
     have hcells:=hrep.cells
     have hlook:(Instr.lookup T (a.eval m) (a.eval i) ok2).run P w=.ok (if ok2 then .tuple #[u,.bool b']else u) w:=by
      unfold Instr.lookup
      rcases hu with⟨j,rfl,rfl⟩ | ⟨rfl,rfl,rfl⟩
      ·simp[run_underlying hT,hmv,J9 hb,hchk,hfo]
      ·simp[run_underlying hT,hmv,J9 hb,hchk,hfo,hzr]
     refine⟨if ok2 then .tuple #[u,.bool b']else u,by unfold execOp;rw[ho];simp only[Sem.run_bind,hlook,Result.andThen_ok,Sem.run_pure],?_⟩
     cases ok2 with
     | false=>exact hcells.1
     | true =>
      refine⟨[u,.bool b'],rfl,rfl,fun j cc uu hj hu'=>?_⟩
      match j,hj,hu' with
      | 0,hj,hu'=>cases hj;cases hu';exact hcells.2
      | 1,hj,hu'=>cases hj;cases hu';exact⟨rfl,rfl,rfl⟩
      | n+2,hj,_=>simp at hj
    rcases hcase with⟨j,x,q,h1,h2,h3,h4,h5⟩ | ⟨h1,h2,h3⟩
    ·rw[h5,Option.getD_some,Option.isSome_some]
     exact fin x.val q.2 true ⟨_,h4,.inl ⟨j,rfl,rfl⟩⟩ (hent j x q h1 h2).2
    ·rw[h3,Option.getD_none,Option.isSome_none]
     exact fin zv z0 false ⟨_,h2,.inr ⟨rfl,rfl,rfl⟩⟩ hzv
   ·cases he
  ·cases he
 ·cases he
def q5e (TI:TypeId->Option TInfo) (T:TypeId) (tv:Ty) (z:tv.den):Prop :=
 ∃ ti k v tiv,TI T=some ti/\ti.mp=some (k,v)/\TI v=some tiv/\E5 tiv.zeros=[]/\∃ h,C4 h tv tiv.zeros=some (z,[])
theorem y4y {TI:TypeId->Option TInfo} {T:TypeId} {tv:Ty} {z z':tv.den} (h:q5e TI T tv z) (h':q5e TI T tv z'):z=z':=by
 obtain⟨ti,k,v,tiv,h1,h2,h3,h4,hh,h5⟩:=h
 obtain⟨ti',k',v',tiv',g1,g2,g3,g4,gg,g5⟩:=h'
 rw[h1]at g1;cases g1
 rw[h2]at g2;cases g2
 rw[h3]at g3;cases g3
 have:=R2 (h:=gg) (hs:=hh) tv tiv.zeros (fun id hm=>by rw[h4]at hm;cases hm)
 rw[h5,g5]at this
 cases this;rfl
def q1j (TI:TypeId->Option TInfo) (T:TypeId) (o o':AObj):Prop :=
 ∃ ak av tk tv l k g z,o=.mapo ak av tk tv l/\o'=.mapp ak av tk tv (F4 tk l k z) k g/\q5e TI T tv z
theorem j7y {β:Type} {t:Ty} (hf:t.flat=true) (l:List (t.den×β)) (k j:t.den) (z:β):(B4 t (F4 t l k z) j).getD z=(B4 t l j).getD z:=by
 unfold F4
 by_cases h:j=k
 ·subst h;rw[U1 hf];rfl
 ·rw[U0 hf _ _ _ _ h]
theorem z8g {R:Type} {C:Ctx} (hti:∀ t ti,C.TI t=some ti->ti.OK P t) {T:TypeId} {ak av:Bool} {tk tv:Ty} {K:TInfo->Option R} {z:R} (he:q03 C T ak av tk tv K=some z) :
  ∃ k v tiv,P.underlying T=some (.map k v)/\KeyTy P k ak tk/\tiv.OK P v/\q1c tiv av tv=true/\K tiv=some z/\∀ h y,C4 h tv tiv.zeros=some (y,[])->q5e C.TI T tv y:=by
 unfold q03 at he
 split at he
 ·rename_i ti hT
  split at he
  ·rename_i k v hm
   split at he
   ·rename_i tik tiv hk hv
    obtain⟨hc,he⟩:=L9 he
    rw[Bool.and_eq_true]at hc
    exact⟨k,v,tiv,(hti T ti hT).mapT k v hm,q40 (hti k tik hk) hc.1,hti v tiv hv,hc.2,he,fun h y hy=>⟨ti,k,v,tiv,hT,hm,hv,q58 (hti v tiv hv),h,hy⟩⟩
   ·cases he
  ·cases he
 ·cases he
theorem j81 {κ:A2} {h:Heap} {w:World} {ρ:Env} {a:Act} (hev:∀ x,RepAV L κ h w (ev ρ x) (a.eval x)) (ok:HeapOK L w0 κ h w) {m:Operand} {id:Nat} (hm:ev ρ m=.one (.mp id)) {ak av:Bool} {tk tv:Ty} {l:List (tk.den×tv.den)} {k:tk.den} {g:Nat} (hid:h id=.mapp ak av tk tv l k g) :
  ∃ b c es cl,κ id=some (b,c)/\a.eval m=.map (some b)/\w.heap[b]? = some (.map es cl)/\MapRep w (A4 L κ h w) ak av tk tv l es cl:=by
 have h1:=hev m
 rw[hm]at h1
 obtain⟨_,b,c,hk,hv⟩:=h1
 have h2:=ok.obj id
 rw[hid]at h2
 obtain⟨b',c',es,cl,hk',hb,hr,-⟩:=h2
 rw[hk]at hk';cases hk'
 exact⟨b,c,es,cl,hk,hv,hb,hr⟩
theorem z84 {o:Oper} {T:TypeId} {m i:Operand} (ho:o.op=.lookup T m i false) {ρs:Env} {hs:Heap} {ak av:Bool} {tk tv:Ty} {l:List (tk.den×tv.den)} {KT VT:TypeId} {tiv:TInfo} (hT:P.underlying T=some (.map KT VT)) (hK:KeyTy P KT ak tk) (htv:tiv.OK P VT) (hvok:q1c tiv av tv=true)
  {h:Heap} {z0:tv.den} (hz:C4 h tv tiv.zeros=some (z0,[])) {k:tk.den}
  (hat:∀ κ (a:Act) w,(∀ x,RepAV L κ hs w (ev ρs x) (a.eval x))->HeapOK L w0 κ hs w->∃ b es cl,a.eval m=.map (some b)/\w.heap[b]? = some (.map es cl)/\MapRep w (A4 L κ hs w) ak av tk tv l es cl/\RepVal w (A4 L κ hs w) ak tk (a.eval i) k) :
  A6 P L w0 o ρs hs hs (q0u false av tv ((B4 tk l k).getD z0) (B4 tk l k).isSome):=by
 refine C6 (fun c hc=>by rw[ho]at hc;cases hc) fun κ a w hev ok=>?_
 obtain⟨b,es,cl,hmv,hb,hr,hkv⟩:=hat κ a w hev ok
 obtain⟨zv,hzr,hzv⟩:=z3z ok htv hvok hz
 obtain⟨p,hp,hlen,hent,hcase⟩:=hr.find (w1:=w) hK hkv
 have hchk:=hK.chk es.isEmpty w w _ _ _ hkv
 have fin:∀ (u:Value) (y:tv.den) (b:Bool),(∃ fo,(Instr.findKey KT (a.eval i) es.toList).run P w=.ok fo w/\((∃ j,fo=some (j,u)/\b=true)\/(fo=none/\u=zv/\b=false)))->RepVal w (A4 L κ hs w) av tv u y ->
   ∃ v,(execOp a.eval o).run P w=.ok (.value v) w/\RepAV L κ hs w (q0u false av tv y b) v:=by
  rintro u y b' ⟨fo,hfo,hu⟩ hrep
  have hlook:(Instr.lookup T (a.eval m) (a.eval i) false).run P w=.ok u w:=by
   unfold Instr.lookup
   rcases hu with⟨j,rfl,rfl⟩ | ⟨rfl,rfl,rfl⟩
   ·simp[run_underlying hT,hmv,J9 hb,hchk,hfo]
   ·simp[run_underlying hT,hmv,J9 hb,hchk,hfo,hzr]
  exact⟨u,by unfold execOp;rw[ho];simp only[Sem.run_bind,hlook,Result.andThen_ok,Sem.run_pure],hrep.cells.1⟩
 rcases hcase with⟨j,x,q,h1,h2,h3,h4,h5⟩ | ⟨h1,h2,h3⟩
 ·rw[h5,Option.getD_some,Option.isSome_some]
  exact fin x.val q.2 true ⟨_,h4,.inl ⟨j,rfl,rfl⟩⟩ (hent j x q h1 h2).2
 ·rw[h3,Option.getD_none,Option.isSome_none]
  exact fin zv z0 false ⟨_,h2,.inr ⟨rfl,rfl,rfl⟩⟩ hzv
theorem y2a {R:Type} {C:Ctx} (hti:∀ t ti,C.TI t=some ti->ti.OK P t) {o:Oper} {T:TypeId} {m i:Operand} (ho:o.op=.lookup T m i false) {ρ:Env} {h:Heap} {K:Eff->Option R} {z:R} (he:q1w C T (ev ρ m) (ev ρ i) false h K=some z) :
  ∃ q,K q=some z/\q.full=none/\(∀ ρs hs,ev ρs m=ev ρ m->ev ρs i=ev ρ i->(∀ id∈q.rd,hs id=h id)->A6 P L w0 o ρs hs (q.heap hs) q.av) /\
   ∀ id,q.rd=[id]->h id≠.fresh/\∀ ρs hs,ev ρs m=ev ρ m->ev ρs i=ev ρ i->q1j C.TI T (h id) (hs id)->A6 P L w0 o ρs hs (q.heap hs) q.av:=by
 unfold q1w at he
 split at he
 ·rename_i id hm
  split at he
  ·rename_i ak av tk tv l hid
   obtain⟨KT,VT,tiv,hT,hK,htv,hvok,he,hzt⟩:=z8g hti he
   split at he
   ·rename_i k ids z0 hk hz
    refine⟨_,he,rfl,fun ρs hs e1 e2 hrd=>?_,fun id2 hid2=>?_⟩
    ·have hids:hs id=h id:=hrd id (by simp)
     refine z84 ho hT hK htv hvok hz fun κ a w hev ok=>?_
     obtain⟨b,c,es,cl,hkb,hmv,hb,hr⟩:=q0v hev ok (e1.trans hm) (hids.trans hid)
     exact⟨b,es,cl,hmv,hb,hr,q01 hev ok hr.flat (i:=i) (by rw[e2];exact Q1 _ _ _ _ hk (fun j hj=>hrd j (List.mem_cons_of_mem _ hj)))⟩
    ·simp only[List.cons.injEq]at hid2
     obtain⟨rfl,rfl⟩:=hid2
     refine⟨by rw[hid];simp,fun ρs hs e1 e2 hsoft=>?_⟩
     obtain⟨ak',av',tk',tv',l',kk,g,z',s1,s2,s3⟩:=hsoft
     rw[hid]at s1
     cases s1
     have hzz:=y4y (hzt _ _ hz) s3
     subst hzz
     have hf:tk.flat=true:=hK.flat
     show A6 P L w0 o ρs hs hs (q0u false av tv ((B4 tk l k.1).getD z0) (B4 tk l k.1).isSome)
     rw[show q0u false av tv ((B4 tk l k.1).getD z0) (B4 tk l k.1).isSome=q0u false av tv ((B4 tk (F4 tk l kk z0) k.1).getD z0) (B4 tk (F4 tk l kk z0) k.1).isSome from by
      rw[j7y hf];rfl]
     refine z84 ho hT hK htv hvok hz fun κ a w hev ok=>?_
     obtain⟨b,c,es,cl,hkb,hmv,hb,hr⟩:=j81 hev ok (e1.trans hm) s2
     exact⟨b,es,cl,hmv,hb,hr,q01 hev ok hr.flat (i:=i) (by rw[e2];exact Q1 _ _ _ _ hk (fun j hj=>by cases hj))⟩
   ·cases he
  ·cases he
 ·cases he
theorem j31 {h:Heap} {ids:List Nat} {id:Nat} {o:AObj}:A5 (B0 h ids++[(id,o)]) h=upd (A5 (B0 h ids) h) id o:=by
 rw[J8];rfl
theorem MapRep.setAt {w:World} {A:Nat->Prop} {ak av:Bool} {tk tv:Ty} {l:List (tk.den×tv.den)} {es:Array MapEntry} {cl:Nat} (hr:MapRep w A ak av tk tv l es cl) {p:List (tk.den×tv.den)} (hp:p.Perm l) (hlen:p.length=es.toList.length)
  (hent:∀ (i:Nat) (x:MapEntry) (q:tk.den×tv.den),es.toList[i]? = some x->p[i]? = some q->RepVal w A ak tk x.key q.1/\RepVal w A av tv x.val q.2) {i:Nat} {x:MapEntry} {q:tk.den×tv.den} (h1:es.toList[i]? = some x) (h2:p[i]? = some q)
  {kv vv:Value} {y:tv.den} (hk:RepVal w A ak tk kv q.1) (hv:RepVal w A av tv vv y) {f:MapEntry->MapEntry} (hfx:f x={ x with key:=kv,val:=vv }):MapRep w A ak av tk tv (A8 tk l q.1 y) (es.modify i f) cl:=by
 have hm:(es.modify i f).toList=es.toList.set i { x with key:=kv,val:=vv }:=by
  rw[Array.toList_modify]
  apply List.ext_getElem?
  intro j
  rw[List.getElem?_modify,List.getElem?_set]
  by_cases e:i=j
  ·subst e
   have hlt:i<es.size:=by have:=(List.getElem?_eq_some_iff.1 h1).1;simpa using this
   have hx:es[i]=x:=by simpa[hlt]using h1
   simp[hlt,hx,hfx]
  ·simp[e]
 refine⟨hr.flat,O2 hr.flat hr.rise,?_,fun z hz=>?_,p.set i (q.1,y),z3g hr.flat hp hr.rise h2 y,by rw[hm];simp[hlen],fun j z r hz hrj=>?_⟩
 ·rw[hm,List.map_set]
  have:(es.toList.map (·.born)).set i x.born=es.toList.map (·.born):=by
   apply List.ext_getElem?
   intro j
   rw[List.getElem?_set]
   by_cases e:i=j
   ·subst e
    have hlt:i<es.size:=by have:=(List.getElem?_eq_some_iff.1 h1).1;simpa using this
    have hx:es[i]=x:=by simpa[hlt]using h1
    simp[hlt,hx]
   ·simp[e]
  rw[this];exact hr.apart
 ·rw[hm]at hz
  rcases List.mem_or_eq_of_mem_set hz with hz | hz
  ·exact hr.early z hz
  ·rw[hz];exact hr.early x (List.mem_of_getElem? h1)
 ·rw[hm,List.getElem?_set]at hz
  rw[List.getElem?_set]at hrj
  by_cases e:i=j
  ·subst e
   rw[if_pos rfl,if_pos (List.getElem?_eq_some_iff.1 h1).1]at hz
   rw[if_pos rfl,if_pos (List.getElem?_eq_some_iff.1 h2).1]at hrj
   cases hz;cases hrj
   exact⟨hk,hv⟩
  ·rw[if_neg e]at hz hrj
   exact hent j z r hz hrj
theorem MapRep.pushAt {w:World} {A:Nat->Prop} {ak av:Bool} {tk tv:Ty} {l:List (tk.den×tv.den)} {es:Array MapEntry} {cl:Nat} (hr:MapRep w A ak av tk tv l es cl) {p:List (tk.den×tv.den)} (hp:p.Perm l) (hlen:p.length=es.toList.length)
  (hent:∀ (i:Nat) (x:MapEntry) (q:tk.den×tv.den),es.toList[i]? = some x->p[i]? = some q->RepVal w A ak tk x.key q.1/\RepVal w A av tv x.val q.2) {k:tk.den} (hno:∀ q∈p,q.1≠k)
  {kv vv:Value} {y:tv.den} (hk:RepVal w A ak tk kv k) (hv:RepVal w A av tv vv y):MapRep w A ak av tk tv (A8 tk l k y) (es.push { key:=kv,val:=vv,born:=cl }) (cl+1):=by
 refine⟨hr.flat,O2 hr.flat hr.rise,?_,fun z hz=>?_,p++[(k,y)],z9a hr.flat hp hr.rise hno y,by simp[hlen],fun j z r hz hrj=>?_⟩
 ·rw[Array.toList_push,List.map_append,List.nodup_append]
  refine⟨hr.apart,by simp,fun a ha b hb e=>?_⟩
  simp at hb
  obtain⟨x,hx,rfl⟩:=List.mem_map.1 ha
  have:=hr.early x hx
  omega
 ·rw[Array.toList_push]at hz
  rcases List.mem_append.1 hz with hz | hz
  ·have:=hr.early z hz;omega
  ·simp at hz;subst hz;simp
 ·rw[Array.toList_push]at hz
  by_cases hj:j<es.toList.length
  ·rw[List.getElem?_append_left hj]at hz
   rw[List.getElem?_append_left (by omega)]at hrj
   exact hent j z r hz hrj
  ·rw[List.getElem?_append_right (by omega)]at hz
   rw[List.getElem?_append_right (by omega),hlen]at hrj
   cases hq:j-es.toList.length with
   | zero=>rw[hq]at hz hrj;simp at hz hrj;subst hz;subst hrj;exact⟨hk,hv⟩
   | succ n=>rw[hq]at hz;simp at hz
theorem MapRep.eraseAt {w:World} {A:Nat->Prop} {ak av:Bool} {tk tv:Ty} {l:List (tk.den×tv.den)} {es:Array MapEntry} {cl:Nat} (hr:MapRep w A ak av tk tv l es cl) {p:List (tk.den×tv.den)} (hp:p.Perm l) (hlen:p.length=es.toList.length)
  (hent:∀ (i:Nat) (x:MapEntry) (q:tk.den×tv.den),es.toList[i]? = some x->p[i]? = some q->RepVal w A ak tk x.key q.1/\RepVal w A av tv x.val q.2) {i:Nat} {x:MapEntry} {q:tk.den×tv.den} (h1:es.toList[i]? = some x) (h2:p[i]? = some q) :
  MapRep w A ak av tk tv (G6 tk l q.1) (es.eraseIdxIfInBounds i) cl:=by
 have hlt:i<es.size:=by have:=(List.getElem?_eq_some_iff.1 h1).1;simpa using this
 have hm:(es.eraseIdxIfInBounds i).toList=es.toList.eraseIdx i:=by
  rw[Array.eraseIdxIfInBounds,dif_pos hlt,Array.toList_eraseIdx]
 refine⟨hr.flat,q6y hr.rise,?_,fun z hz=>?_,p.eraseIdx i,j61 hr.flat hp hr.rise h2,by rw[hm];simp[List.length_eraseIdx,hlen],fun j z r hz hrj=>?_⟩
 ·rw[hm]
  exact hr.apart.sublist ((List.eraseIdx_sublist _ _).map _)
 ·rw[hm]at hz
  exact hr.early z (List.mem_of_mem_eraseIdx hz)
 ·rw[hm,List.getElem?_eraseIdx]at hz
  rw[List.getElem?_eraseIdx]at hrj
  by_cases e:j<i
  ·rw[if_pos e]at hz hrj;exact hent j z r hz hrj
  ·rw[if_neg e]at hz hrj;exact hent (j+1) z r hz hrj
theorem j0s {R:Type} {C:Ctx} (hti:∀ t ti,C.TI t=some ti->ti.OK P t) {o:Oper} {T:TypeId} {m i v:Operand} (ho:o.op=.mapUpdate T m i v\/o.op=.insert T m i v) {ρ:Env} {h:Heap} {K:Eff->Option R} {z:R} (he:q66 C T (ev ρ m) (ev ρ i) (ev ρ v) h K=some z) :
  ∃ q,K q=some z/\q.full=none/\∀ ρs hs,ev ρs m=ev ρ m->ev ρs i=ev ρ i->ev ρs v=ev ρ v->(∀ id∈q.rd,hs id=h id)->A6 P L w0 o ρs hs (q.heap hs) q.av:=by
 unfold q66 at he
 split at he
 ·rename_i id hm
  split at he
  ·rename_i ak av tk tv l hid
   obtain⟨KT,VT,tiv,hT,hK,htv,hvok,he⟩:=z2a hti he
   split at he
   ·rename_i x ids hx
    obtain⟨hni,he⟩:=L9 he
    have hni:id∉ids:=fun hm=>by have:=List.all_eq_true.1 hni id hm;simp at this
    refine⟨_,he,rfl,fun ρs hs e1 e2 e3 hrd=>?_⟩
    have hids:hs id=.mapo ak av tk tv l:=(hrd id (by simp)).trans hid
    have hx':F0 hs [(ak,tk),(av,tv)] ([i,v].map (ev ρs))=some (x,ids):=by
     rw[List.map_cons,List.map_cons,List.map_nil,e2,e3]
     exact Q1 _ _ _ _ hx (fun j hj=>hrd j (List.mem_cons_of_mem _ hj))
    show A6 P L w0 o ρs hs (A5 (B0 h ids++[(id,.mapo ak av tk tv (A8 tk l x.1 x.2.1))]) hs) (.one .unk)
    rw[<-q24 ids (fun j hj=>hrd j (List.mem_cons_of_mem _ hj)),j31]
    refine q08 (fun c hc=>by rcases ho with ho | ho<;>rw[ho]at hc<;>cases hc) fun κ a w hev ok=>?_
    obtain⟨okI,extI,freeI⟩:=S6 ids ok
    have hargs:=q98 hev ok hx'
    have hkeep:A5 (B0 hs ids) hs id=.mapo ak av tk tv l:=(S5 hni).trans hids
    obtain⟨b,c,es,cl,hkb,hmv,hb,-⟩:=q0v hev ok (e1.trans hm) hids
    have hr:MapRep w (A4 L κ (A5 (B0 hs ids) hs) w) ak av tk tv l es cl:=by
     have:=okI.obj id
     rw[hkeep]at this
     obtain⟨b',c',es',cl',hk',hb',hr'⟩:=this
     rw[hkb]at hk';cases hk'
     rw[hb]at hb';cases hb'
     exact hr'
    obtain⟨p,hp,hlen,hent,hcase⟩:=hr.find (w1:=w) hK hargs.1
    have hchk:=hK.chk false w w _ _ _ hargs.1
    have exec:∀ o',(Instr.mapUpdate T (a.eval m) (a.eval i) (a.eval v)).run P w=.ok () (w.putObj b o')->(execOp a.eval o).run P w=.ok .skip (w.putObj b o'):=fun o' hrun=>by
     unfold execOp
     rcases ho with ho | ho<;>rw[ho]<;>simp only[Sem.run_bind,hrun,Result.andThen_ok,Sem.run_pure]
    have hlike:∀ l',(A5 (B0 hs ids) hs id).like (.mapo ak av tk tv l'):=fun l'=>by rw[hkeep];trivial
    rcases hcase with⟨j,y,q,h1,h2,h3,h4,h5⟩ | ⟨h1,h2,h3⟩
    ·have hrun:(Instr.mapUpdate T (a.eval m) (a.eval i) (a.eval v)).run P w=.ok () (w.putObj b (.map (es.modify j fun e=>{ e with key:=a.eval i,val:=a.eval v }) cl)):=by
      unfold Instr.mapUpdate
      have hsame:Instr.sameBits 10000 y.key (a.eval i)=true:=hK.same w _ _ _ x.1 (by rw[<-h3];exact(hent j y q h1 h2).1) hargs.1
      have hgj:es[j]? = some y:=by simpa using h1
      simp[run_underlying hT,hmv,J9 hb,hchk,h4,Instr.keyThatStays,hgj,hsame,V3 _ hb]
     obtain⟨ok2,ext2⟩:=q04 okI hkb hb (cl':=cl) (hlike (A8 tk l x.1 x.2.1)) (es':=es.modify j fun e=>{ e with key:=a.eval i,val:=a.eval v }) fun hx=>by
      refine⟨b,c,_,cl,hkb,World.putObj_heap_same (Array.getElem?_eq_some_iff.1 hb).1,?_⟩
      have:=hr.setAt hp hlen hent h1 h2 (kv:=a.eval i) (vv:=a.eval v) (y:=x.2.1) (by rw[h3];exact hargs.1) hargs.2.1 (f:=fun e=>{ e with key:=a.eval i,val:=a.eval v }) rfl
      rw[h3]at this
      exact this.mono hx.free
     exact⟨κ,_,exec _ hrun,ok2,extI.trans ext2⟩
    ·have hrun:(Instr.mapUpdate T (a.eval m) (a.eval i) (a.eval v)).run P w=.ok () (w.putObj b (.map (es.push { key:=a.eval i,val:=a.eval v,born:=cl }) (cl+1))):=by
      unfold Instr.mapUpdate
      simp[run_underlying hT,hmv,J9 hb,hchk,h2,V3 _ hb]
     obtain⟨ok2,ext2⟩:=q04 okI hkb hb (cl':=cl+1) (hlike (A8 tk l x.1 x.2.1)) (es':=es.push { key:=a.eval i,val:=a.eval v,born:=cl }) fun hx =>
      ⟨b,c,_,cl+1,hkb,World.putObj_heap_same (Array.getElem?_eq_some_iff.1 hb).1,(hr.pushAt hp hlen hent h1 hargs.1 hargs.2.1).mono hx.free⟩
     exact⟨κ,_,exec _ hrun,ok2,extI.trans ext2⟩
   ·cases he
  ·cases he
 ·cases he
theorem z6i {a:Act} {o:Oper} {m i:Operand} {T T':TypeId} (ho:o.op=.call { callee:=.builtin .delete,args:=#[m,i],argTypes:=#[T,T'] }) {w w':World} {v:Value}
  (h:(Builtin.delete_ #[T,T'] o.type #[a.eval m,a.eval i]).run P w=.ok v w'):(execOp a.eval o).run P w=.ok (.value v) w':=by
 unfold execOp
 simp[ho,resolve,invoke,builtin,h]
theorem z1f {a:Act} {o:Oper} {m:Operand} {T:TypeId} (ho:o.op=.call { callee:=.builtin .clear,args:=#[m],argTypes:=#[T] }) {w w':World} {v:Value}
  (h:(Builtin.clear_ #[T] o.type #[a.eval m]).run P w=.ok v w'):(execOp a.eval o).run P w=.ok (.value v) w':=by
 unfold execOp
 simp[ho,resolve,invoke,builtin,h]
theorem y1o {R:Type} {C:Ctx} (hti:∀ t ti,C.TI t=some ti->ti.OK P t) {o:Oper} {T T':TypeId} {m i:Operand} (ho:o.op=.call { callee:=.builtin .delete,args:=#[m,i],argTypes:=#[T,T'] }) {ρ:Env} {h:Heap} {K:Eff->Option R} {z:R} (he:z05 C T (ev ρ m) (ev ρ i) h K=some z) :
  ∃ q,K q=some z/\q.full=none/\∀ ρs hs,ev ρs m=ev ρ m->ev ρs i=ev ρ i->(∀ id∈q.rd,hs id=h id)->A6 P L w0 o ρs hs (q.heap hs) q.av:=by
 unfold z05 at he
 split at he
 ·rename_i id hm
  split at he
  ·rename_i ak av tk tv l hid
   obtain⟨KT,VT,tiv,hT,hK,htv,hvok,he⟩:=z2a hti he
   split at he
   ·rename_i k ids hx
    refine⟨_,he,rfl,fun ρs hs e1 e2 hrd=>?_⟩
    have hids:hs id=.mapo ak av tk tv l:=(hrd id (by simp)).trans hid
    show A6 P L w0 o ρs hs (upd hs id (.mapo ak av tk tv (G6 tk l k.1))) (.tup [])
    refine I3 (fun c hc=>by rw[ho]at hc;cases hc) fun κ a w hev ok=>?_
    obtain⟨b,c,es,cl,hkb,hmv,hb,hr⟩:=q0v hev ok (e1.trans hm) hids
    have hkv:=q01 hev ok hr.flat (i:=i) (by rw[e2];exact Q1 _ _ _ _ hx (fun j hj=>hrd j (List.mem_cons_of_mem _ hj)))
    obtain⟨p,hp,hlen,hent,hcase⟩:=hr.find (w1:=w) hK hkv
    have hchk:=hK.chk es.isEmpty w w _ _ _ hkv
    have hlike:∀ l',(hs id).like (.mapo ak av tk tv l'):=fun l'=>by rw[hids];trivial
    have hrep:∀ h' w',RepAV L κ h' w' (.tup []) (.tuple #[]):=fun h' w'=>⟨[],rfl,rfl,fun j c u hj=>by simp at hj⟩
    rcases hcase with⟨j,y,q,h1,h2,h3,h4,h5⟩ | ⟨h1,h2,h3⟩
    ·obtain⟨ok2,ext2⟩:=q04 ok hkb hb (cl':=cl) (hlike (G6 tk l k.1)) (es':=es.eraseIdxIfInBounds j) fun hx=>by
      refine⟨b,c,_,cl,hkb,World.putObj_heap_same (Array.getElem?_eq_some_iff.1 hb).1,?_⟩
      have:=hr.eraseAt hp hlen hent h1 h2
      rw[h3]at this
      exact this.mono hx.free
     refine⟨κ,.tuple #[],_,z6i ho ?_,ok2,hrep _ _,ext2⟩
     unfold Builtin.delete_
     simp[run_underlying hT,hmv,J9 hb,hchk,h4,V3 _ hb]
    ·have hno:G6 tk l k.1=l:=List.filter_eq_self.2 fun q hq=>by
      rw[tk.eqb_false hr.flat (fun e=>h1 q (hp.mem_iff.2 hq) e.symm)];rfl
     obtain⟨ok2,ext2⟩:=q04 ok hkb hb (cl':=cl) (hlike (G6 tk l k.1)) (es':=es) fun hx =>
      ⟨b,c,_,cl,hkb,World.putObj_heap_same (Array.getElem?_eq_some_iff.1 hb).1,{ flat:=hr.flat,rise:=q6y hr.rise,apart:=hr.apart,early:=hr.early,ents:=⟨p,by rw[hno];exact hp,hlen,fun i x q a b=>⟨(hent i x q a b).1.mono hx.free,(hent i x q a b).2.mono hx.free⟩⟩ }⟩
     refine⟨κ,.tuple #[],_,z6i ho ?_,ok2,hrep _ _,ext2⟩
     unfold Builtin.delete_
     simp[run_underlying hT,hmv,J9 hb,hchk,h2,V3 _ hb]
   ·cases he
  ·cases he
 ·cases he
theorem y1g {R:Type} {C:Ctx} (hti:∀ t ti,C.TI t=some ti->ti.OK P t) {o:Oper} {T:TypeId} {m:Operand} (ho:o.op=.call { callee:=.builtin .clear,args:=#[m],argTypes:=#[T] }) {ρ:Env} {h:Heap} {K:Eff->Option R} {z:R} (he:q9x C T (ev ρ m) h K=some z) :
  ∃ q,K q=some z/\q.full=none/\∀ ρs hs,ev ρs m=ev ρ m->(∀ p∈q.ups,hs p.1=h p.1)->A6 P L w0 o ρs hs (q.heap hs) q.av:=by
 unfold q9x at he
 split at he
 ·rename_i ti id hT hm
  split at he
  ·rename_i kv ak av tk tv l hmp hid
   refine⟨_,he,rfl,fun ρs hs e1 hup=>?_⟩
   have hids:hs id=.mapo ak av tk tv l:=(hup (id,.mapo ak av tk tv []) (by simp)).trans hid
   show A6 P L w0 o ρs hs (upd hs id (.mapo ak av tk tv [])) (.tup [])
   refine I3 (fun c hc=>by rw[ho]at hc;cases hc) fun κ a w hev ok=>?_
   obtain⟨b,c,es,cl,hkb,hmv,hb,hr⟩:=q0v hev ok (e1.trans hm) hids
   have hu:=(hti T ti hT).mapT kv.1 kv.2 hmp
   obtain⟨ok2,ext2⟩:=q04 ok hkb hb (cl':=cl) (obj':=.mapo ak av tk tv []) (by rw[hids];trivial) (es':=#[]) fun hx =>
    ⟨b,c,_,cl,hkb,World.putObj_heap_same (Array.getElem?_eq_some_iff.1 hb).1,hr.flat,List.Pairwise.nil,by simp,fun x hx=>by simp at hx,[],List.Perm.refl _,rfl,fun i x q hi=>by simp at hi⟩
   refine⟨κ,.tuple #[],_,z1f ho ?_,ok2,⟨[],rfl,rfl,fun j c u hj=>by simp at hj⟩,ext2⟩
   unfold Builtin.clear_
   simp[run_underlying hu,hmv,J9 hb,V3 _ hb]
  ·cases he
 ·cases he
theorem q6f {a:Act} {o:Oper} {m:Operand} {T:TypeId} (ho:o.op=.call { callee:=.builtin .len,args:=#[m],argTypes:=#[T] }) {w:World} {v:Value}
  (h:(Builtin.len_ #[T] o.type #[a.eval m]).run P w=.ok v w):(execOp a.eval o).run P w=.ok (.value v) w:=by
 unfold execOp
 simp[ho,resolve,invoke,builtin,h]
theorem y2j {R:Type} {C:Ctx} (hti:∀ t ti,C.TI t=some ti->ti.OK P t) {o:Oper} {T:TypeId} {m:Operand} (ho:o.op=.call { callee:=.builtin .len,args:=#[m],argTypes:=#[T] }) {ρ:Env} {h:Heap} {K:Eff->Option R} {z:R} (he:z0m C T (ev ρ m) h K=some z) :
  ∃ q,K q=some z/\q.full=none/\∀ ρs hs,ev ρs m=ev ρ m->(∀ id∈q.rd,hs id=h id)->A6 P L w0 o ρs hs (q.heap hs) q.av:=by
 unfold z0m at he
 split at he
 ·rename_i ti id hT hm
  split at he
  ·rename_i kv ak av tk tv l hmp hid
   refine⟨_,he,rfl,fun ρs hs e1 hrd=>?_⟩
   have hids:hs id=.mapo ak av tk tv l:=(hrd id (by simp[E2])).trans hid
   refine C6 (fun c hc=>by rw[ho]at hc;cases hc) fun κ a w hev ok=>⟨.int .i64 l.length,?_,G7 _ _⟩
   obtain⟨b,c,es,cl,hkb,hmv,hb,hr⟩:=q0v hev ok (e1.trans hm) hids
   have hu:=(hti T ti hT).mapT kv.1 kv.2 hmp
   obtain⟨p,hp,hlen,-⟩:=hr.ents
   have hsz:es.size=l.length:=by rw[<-hp.length_eq,hlen];simp
   refine q6f ho ?_
   unfold Builtin.len_
   simp[run_underlying hu,hmv,J9 hb,hsz,goInt]
  ·rename_i kv ak av tk tv l hmp hid
   refine⟨_,he,rfl,fun ρs hs e1 hrd=>?_⟩
   have hids:hs id=.mice ak av tk tv l:=(hrd id (by simp[E2])).trans hid
   refine C6 (fun c hc=>by rw[ho]at hc;cases hc) fun κ a w hev ok=>⟨.int .i64 l.length,?_,G7 _ _⟩
   have hmv:=hev m
   rw[e1,hm]at hmv
   obtain⟨_,b,c,hkb,hmv⟩:=hmv
   have hob:=ok.obj id
   rw[hids]at hob
   obtain⟨b2,c2,es,cl,hk2,-,hb,hr⟩:=hob
   rw[hkb]at hk2;cases hk2
   have hu:=(hti T ti hT).mapT kv.1 kv.2 hmp
   obtain⟨p,hp,hlen,-⟩:=hr.ents
   have hsz:es.size=l.length:=by rw[<-hp.length_eq,hlen];simp
   refine q6f ho ?_
   unfold Builtin.len_
   simp[run_underlying hu,hmv,J9 hb,hsz,goInt]
  ·cases he
 ·rename_i ti ak av tk tv l hT hm
  split at he
  ·rename_i kv hmp
   refine⟨_,he,rfl,fun ρs hs e1 hrd=>?_⟩
   refine C6 (fun c hc=>by rw[ho]at hc;cases hc) fun κ a w hev ok=>⟨.int .i64 l.length,?_,G7 _ _⟩
   have hmv:=hev m
   rw[e1,hm]at hmv
   have hu:=(hti T ti hT).mapT kv.1 kv.2 hmp
   obtain⟨_,_,hrep⟩:=hmv
   refine q6f ho ?_
   unfold Builtin.len_
   obtain⟨b,es,cl,h0,-,hb,hr⟩:=hrep
   ·have h0:a.eval m=.map (some b):=by simpa[E3]using h0
    obtain⟨p,hp,hlen,-⟩:=hr.ents
    have hsz:es.size=l.length:=by rw[<-hp.length_eq,hlen];simp
    simp[run_underlying hu,h0,J9 hb,hsz,goInt]
  ·cases he
 ·cases he
theorem z6m {κ:A2} {h:Heap} {w:World} {g:Nat} (c:Option (Nat×(Nat×Nat))) (hf:h g=.fresh):Ext L κ h w (upd κ g c) (upd h g .dead) w where
 place j hj:=A0 _ _ (fun e=>hj.1 (e▸hf))
 kid j hd:=by rw[A0 _ _ (fun e=>by rw[e,hf]at hd;cases hd)];exact hd
 arrD j e t l f hl:=by rw[A0 _ _ (fun e=>by rw[e,hf]at hl;cases hl)];exact .inl ⟨l,f,rfl,hl⟩
 dead j hd:=by rw[A0 _ _ (fun e=>by rw[e,hf]at hd;cases hd)];exact hd
 cells j l hl:=by rw[A0 _ _ (fun e=>by rw[e,hf]at hl;cases hl)];exact .inl ⟨l,hl⟩
 arr j e t l hl:=by rw[A0 _ _ (fun e=>by rw[e,hf]at hl;cases hl)];exact .inl ⟨l,rfl,.inl hl⟩
 ice j e t l hl:=by rw[A0 _ _ (fun e=>by rw[e,hf]at hl;cases hl)];exact .inl hl
 lrec j i s hl:=by rw[A0 _ _ (fun e=>by rw[e,hf]at hl;cases hl)];exact .inl ⟨s,hl⟩
 maps j hl:=by rw[A0 _ _ (fun e=>by rw[e,hf]at hl;cases hl)];exact .inl hl
 iter j _ _ _ _ l c hl:=by rw[A0 _ _ (fun e=>by rw[e,hf]at hl;cases hl)];exact .inl ⟨l,c,hl⟩
 size:=Nat.le_refl _
 loops _ r hr:=⟨r,hr⟩
 defs _ hr:=hr
 still b hb:=by
  obtain⟨h1,h3⟩:=hb
  refine⟨⟨h1,fun j c' hj hk=>?_⟩,rfl⟩
  by_cases hji:j=g
  ·subst hji;rw[A1]at hj;cases hj
  ·rw[A0 _ _ hji]at hj hk;exact h3 j c' hj hk
theorem j6v {κ:A2} {h:Heap} {w:World} (ok:HeapOK L w0 κ h w) {g:Nat} (c:Option (Nat×(Nat×Nat))) (hf:h g=.fresh):HeapOK L w0 (upd κ g c) (upd h g .dead) w where
 obj j:=by
  by_cases hji:j=g
  ·subst hji;rw[A1];trivial
  ·rw[A0 h _ hji]
   exact RepObj.ext (z6m c hf) (A0 _ _ hji) (fun _ _ _=>rfl) (fun n=>A0 _ _ (J6 ok (K8 hf) j n)) (fun _ _ _ _=>rfl) (ok.obj j)
 inj i j b c1 c2 hi hj h1 h2:=by
  have ne:∀ i,(upd h g .dead i).live=true->i≠g:=fun i hi e=>by subst e;rw[A1]at hi;cases hi
  rw[A0 _ _ (ne i hi)]at h1 hi;rw[A0 _ _ (ne j hj)]at h2 hj
  exact ok.inj i j b c1 c2 hi hj h1 h2
 own i b c1 hi h1:=by
  have ne:i≠g:=fun e=>by subst e;rw[A1]at hi;cases hi
  rw[A0 _ _ ne]at h1 hi;exact ok.own i b c1 hi h1
 below:=ok.below
 outer b hL:=⟨(ok.outer b hL).1,fun i c1 hi h1=>by
  have ne:i≠g:=fun e=>by subst e;rw[A1]at hi;cases hi
  rw[A0 _ _ ne]at h1 hi;exact(ok.outer b hL).2 i c1 hi h1⟩
 kids j hj:=by rw[A0 _ _ (fun e=>by rw[<-e,ok.kids j hj]at hf;cases hf)];exact ok.kids j hj
theorem j0n {R:Type} {C:Ctx} (hti:∀ t ti,C.TI t=some ti->ti.OK P t) {o:Oper} {T:TypeId} {m i:Operand} (ho:o.op=.mapEntry T m i) {ρ:Env} {h:Heap} {id':Nat} {K:Eff->Option R} {z:R} (he:q3l C T (ev ρ m) (ev ρ i) h id' K=some z) :
  ∃ q,K q=some z/\q.full=none/\(∀ ρs hs,ev ρs m=ev ρ m->ev ρs i=ev ρ i->(∀ id∈q.rd,hs id=h id)->(∀ p∈q.ups,hs p.1=h p.1)->A6 P L w0 o ρs hs (q.heap hs) q.av)/\∀ id∈q.ups.map (·.1),h id=.fresh\/q1j C.TI T (h id) (q.heap h id):=by
 unfold q3l at he
 split at he
 ·rename_i id hm
  split at he
  ·rename_i ak av tk tv l hid
   obtain⟨KT,VT,tiv,hT,hK,htv,hvok,he,hzt⟩:=z8g hti he
   split at he
   ·rename_i k ids z0 hk hz
    unfold H5 at he
    split at he
    ·rename_i hf
     refine⟨_,he,rfl,fun ρs hs e1 e2 hrd hup=>?_,fun id2 hid2=>?_⟩
     rotate_left
     ·simp only[List.map_cons,List.map_nil,List.mem_cons,List.not_mem_nil,or_false]at hid2
      by_cases h2:id2=id
      ·subst h2
       exact .inr ⟨ak,av,tk,tv,l,k.1,id',z0,hid,A1 _ _ _,hzt _ _ hz⟩
      ·rcases hid2 with rfl | rfl
       ·exact .inl hf
       ·exact absurd rfl h2
     have hids:hs id=.mapo ak av tk tv l:=(hrd id (by simp)).trans hid
     have hfs:hs id'=.fresh:=(hup (id',.dead) (by simp)).trans hf
     have hne:id≠id':=fun e=>by rw[e,hfs]at hids;cases hids
     show A6 P L w0 o ρs hs (upd (upd hs id' .dead) id (.mapp ak av tk tv (F4 tk l k.1 z0) k.1 id')) _
     refine I3 (fun c hc=>by rw[ho]at hc;cases hc) fun κ a w hev ok=>?_
     obtain⟨b,c,es,cl,hkb,hmv,hb,hr⟩:=q0v hev ok (e1.trans hm) hids
     have hkv:=q01 hev ok hr.flat (i:=i) (by rw[e2];exact Q1 _ _ _ _ hk (fun j hj=>hrd j (List.mem_cons_of_mem _ hj)))
     obtain⟨zv,hzr,hzv⟩:=z3z ok htv hvok hz
     obtain⟨p,hp,hlen,hent,hcase⟩:=hr.find (w1:=w) hK hkv
     have hchk:=hK.chk false w w _ _ _ hkv
     have fin:∀ (n:Nat) (u:Value) (y:tv.den) (es':Array MapEntry) (cl':Nat),F4 tk l k.1 z0=A8 tk l k.1 y->(B4 tk l k.1).getD z0=y->RepVal w (A4 L κ hs w) av tv u y->MapRep w (A4 L κ hs w) ak av tk tv (A8 tk l k.1 y) es' cl' ->
       (∃ x∈es'.toList,x.born=n/\RepVal w (A4 L κ hs w) ak tk x.key k.1)->(Instr.mapEntry T (a.eval m) (a.eval i)).run P w=.ok (.tuple #[u,.int .i64 n]) (w.putObj b (.map es' cl')) ->
       ∃ κ' v w',(execOp a.eval o).run P w=.ok (.value v) w'/\HeapOK L w0 κ' (upd (upd hs id' .dead) id (.mapp ak av tk tv (F4 tk l k.1 z0) k.1 id')) w' /\
        RepAV L κ' (upd (upd hs id' .dead) id (.mapp ak av tk tv (F4 tk l k.1 z0) k.1 id')) w' (.tup [(av,Y5 av tv ((B4 tk l k.1).getD z0)),(false,[.stmp id'])]) v/\Ext L κ hs w κ' (upd (upd hs id' .dead) id (.mapp ak av tk tv (F4 tk l k.1 z0) k.1 id')) w':=by
      intro n u y es' cl' hme hge hu hmr hx hrun
      rw[hge]
      have okG:=j6v ok (some (n,0)) hfs
      have extG:=z6m (L:=L) (κ:=κ) (w:=w) (some (n,0)) hfs
      have hkb':upd κ id' (some (n,0)) id=some (b,c):=by rw[A0 _ _ hne];exact hkb
      obtain⟨ok2,ext2⟩:=q04 okG hkb' hb (cl':=cl') (obj':=.mapp ak av tk tv (F4 tk l k.1 z0) k.1 id') (by rw[A0 _ _ hne,hids];trivial) (es':=es') fun hxx=>by
       have hX:=extG.trans hxx
       obtain⟨x,x1,x2,x3⟩:=hx
       have hmr':MapRep w (A4 L κ hs w) ak av tk tv (F4 tk l k.1 z0) es' cl':=by rw[hme];exact hmr
       exact⟨b,c,es',cl',hkb',World.putObj_heap_same (Array.getElem?_eq_some_iff.1 hb).1,hmr'.mono hX.free,by rw[A0 _ _ (Ne.symm hne),A1];simp,n,0,A1 _ _ _,x,x1,x2,x3.mono hX.free⟩
      have hX:=extG.trans ext2
      refine⟨_,.tuple #[u,.int .i64 n],_,by unfold execOp;rw[ho];simp only[Sem.run_bind,hrun,Result.andThen_ok,Sem.run_pure],ok2,⟨[u,.int .i64 n],rfl,rfl,fun j cc uu hj hu'=>?_⟩,hX⟩
      match j,hj,hu' with
      | 0,hj,hu'=>cases hj;cases hu';exact(hu.cells.2).ext hX
      | 1,hj,hu'=>cases hj;cases hu';exact⟨by rw[A0 _ _ (Ne.symm hne),A1];simp,n,0,A1 _ _ _,rfl⟩
      | n+2,hj,_=>simp at hj
     rcases hcase with⟨j,x,q,h1,h2,h3,h4,h5⟩ | ⟨h1,h2,h3⟩
     ·have hgj:es[j]? = some x:=by simpa using h1
      have hsame:Instr.sameBits 10000 x.key (a.eval i)=true:=hK.same w _ _ _ k.1 (by rw[<-h3];exact(hent j x q h1 h2).1) hkv
      have hset:=hr.setAt hp hlen hent h1 h2 (kv:=a.eval i) (vv:=x.val) (y:=q.2) (by rw[h3];exact hkv) (hent j x q h1 h2).2 (f:=fun e=>{ e with key:=a.eval i }) rfl
      rw[h3]at hset
      refine fin x.born x.val q.2 _ cl (by unfold F4;rw[h5];rfl) (by rw[h5];rfl) (hent j x q h1 h2).2 hset ⟨{ x with key:=a.eval i },?_,rfl,hkv⟩ ?_
      ·refine List.mem_of_getElem? (i:=j) ?_
       rw[Array.toList_modify,List.getElem?_modify,h1];simp
      ·unfold Instr.mapEntry
       simp[run_underlying hT,hmv,J9 hb,hchk,h4,Instr.keyThatStays,hgj,hsame,V3 _ hb,goInt]
     ·refine fin cl zv z0 _ (cl+1) (by unfold F4;rw[h3];rfl) (by rw[h3];rfl) hzv (hr.pushAt hp hlen hent h1 hkv hzv) ⟨{ key:=a.eval i,val:=zv,born:=cl },by simp,rfl,hkv⟩ ?_
      unfold Instr.mapEntry
      simp[run_underlying hT,hmv,J9 hb,hchk,h2,hzr,V3 _ hb,goInt]
    ·cases he
   ·cases he
  ·cases he
 ·cases he
theorem y1q {R:Type} {o:Oper} {T:TypeId} {m s v:Operand} (ho:o.op=.entryStore T m s v) {ρ:Env} {h:Heap} {K:Eff->Option R} {z:R} (he:z06 (ev ρ m) (ev ρ s) (ev ρ v) h K=some z) :
  ∃ q,K q=some z/\q.full=none/\∀ ρs hs,ev ρs m=ev ρ m->ev ρs s=ev ρ s->ev ρs v=ev ρ v->(∀ id∈q.rd,hs id=h id)->A6 P L w0 o ρs hs (q.heap hs) q.av:=by
 unfold z06 at he
 split at he
 ·rename_i id g hm hsm
  split at he
  ·rename_i ak av tk tv l k g' hid
   split at he
   ·rename_i x ids hx
    obtain⟨hg,he2⟩:=L9 he
    rw[Bool.and_eq_true]at hg
    obtain⟨hg,hni⟩:=hg
    have hni:id∉ids:=fun hm=>by have:=List.all_eq_true.1 hni id hm;simp at this
    have hg:=Nat.eq_of_beq_eq_true hg
    subst hg
    refine⟨_,he2,rfl,fun ρs hs e1 e2 e3 hrd=>?_⟩
    have hids:hs id=.mapp ak av tk tv l k g:=(hrd id (by simp)).trans hid
    have hx':F0 hs [(av,tv)] ([v].map (ev ρs))=some (x,ids):=by
     rw[List.map_cons,List.map_nil,e3]
     exact Q1 _ _ _ _ hx (fun j hj=>hrd j (List.mem_cons_of_mem _ hj))
    show A6 P L w0 o ρs hs (A5 (B0 h ids++[(id,.mapo ak av tk tv (A8 tk l k x.1))]) hs) (.one .unk)
    rw[<-q24 ids (fun j hj=>hrd j (List.mem_cons_of_mem _ hj)),j31]
    refine q08 (fun c hc=>by rw[ho]at hc;cases hc) fun κ a w hev ok=>?_
    obtain⟨okI,extI,freeI⟩:=S6 ids ok
    have hargs:=q98 hev ok hx'
    have hkeep:A5 (B0 hs ids) hs id=.mapp ak av tk tv l k g:=(S5 hni).trans hids
    have hmv:=hev m
    rw[e1,hm]at hmv
    obtain⟨_,b,c,hkb,hmv⟩:=hmv
    have hsv:=hev s
    rw[e2,hsm]at hsv
    obtain⟨_,n,cg,hkg,hsv⟩:=hsv
    have hob:=okI.obj id
    rw[hkeep]at hob
    obtain⟨b',c',es,cl,hk',hb,hr,-,n',cg',hkg',y,hy,hyb,hyk⟩:=hob
    rw[hkb]at hk';cases hk'
    rw[hkg]at hkg';cases hkg'
    obtain⟨p,hp,hlen,hent⟩:=hr.ents
    obtain⟨j,hj⟩:=List.getElem?_of_mem hy
    have hlt:j<es.toList.length:=(List.getElem?_eq_some_iff.1 hj).1
    have hltp:j<p.length:=by rw[hlen];exact hlt
    have hfind:es.findIdx? (fun e=>(e.born:Int)==(n:Int))=some j:=by
     have hlt':j<es.size:=by simpa using hlt
     have hg0:es[j]=y:=by simpa[hlt']using hj
     rw[Array.findIdx?_eq_some_iff_getElem]
     refine⟨hlt',by rw[hg0,hyb];simp,fun i hi=>?_⟩
     have hil:i<es.toList.length:=by omega
     intro hc
     have hc:es[i].born=n:=Int.ofNat.inj (by simpa using hc)
     have hnd:=List.pairwise_iff_getElem.1 hr.apart i j (by simpa using hil) (by simpa using hlt) hi
     apply hnd
     simp only[List.getElem_map,Array.getElem_toList]
     rw[hc,hg0,hyb]
    have hq1:p[j].1=k:=RepVal.uniq hr.flat (hent j y p[j] hj (List.getElem?_eq_getElem hltp)).1 hyk
    have hrun:(Instr.entryStore T (a.eval m) (a.eval s) (a.eval v)).run P w=.ok () (w.putObj b (.map (es.modify j fun e=>{ e with val:=a.eval v }) cl)):=by
     unfold Instr.entryStore
     rw[hmv,hsv]
     simp only[Sem.run_bind,J9 hb,Result.andThen_ok,asInt,asIntOf,Sem.run_pure,hfind,V3 _ hb]
    obtain⟨ok2,ext2⟩:=q04 okI hkb hb (cl':=cl) (obj':=.mapo ak av tk tv (A8 tk l k x.1)) (by rw[hkeep];trivial) (es':=es.modify j fun e=>{ e with val:=a.eval v }) fun hxx=>by
     refine⟨b,c,_,cl,hkb,World.putObj_heap_same (Array.getElem?_eq_some_iff.1 hb).1,?_⟩
     have:=hr.setAt hp hlen hent hj (List.getElem?_eq_getElem hltp) (kv:=y.key) (vv:=a.eval v) (y:=x.1) (by rw[hq1];exact hyk) hargs.1 (f:=fun e=>{ e with val:=a.eval v }) rfl
     rw[hq1]at this
     exact this.mono hxx.free
    exact⟨κ,_,by unfold execOp;rw[ho];simp only[Sem.run_bind,hrun,Result.andThen_ok,Sem.run_pure],ok2,extI.trans ext2⟩
   ·cases he
  ·cases he
 ·cases he
theorem y1p {R:Type} {C:Ctx} (hti:∀ t ti,C.TI t=some ti->ti.OK P t) {o:Oper} {T:TypeId} {m i:Operand} (ho:o.op=.mapEntry T m i) {ρ:Env} {h:Heap} {id':Nat} {K:Eff->Option R} {z:R} (he:q3l C T (ev ρ m) (ev ρ i) h id' K=some z) :
  ∃ q,K q=some z/\q.full=none/\∀ ρs hs,ev ρs m=ev ρ m->ev ρs i=ev ρ i->(∀ id∈q.rd,hs id=h id)->(∀ p∈q.ups,hs p.1=h p.1)->A6 P L w0 o ρs hs (q.heap hs) q.av:=by
 obtain⟨q,h1,h2,h3,-⟩:=j0n (P:=P) (L:=L) (w0:=w0) hti ho he
 exact⟨q,h1,h2,h3⟩
end Go.Abs
