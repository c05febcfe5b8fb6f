/- The engine, part 12: every operation. -/
import Derived.Test.YteeaadgpkammdaaGreatDoorAbsSound10
import Derived.Test.YteeaadgpkammdaaGreatDoorAbsSound14
namespace Go.Abs
open Go Go.RowKit
variable {P:Program} {L:Nat->Prop} {w0:World}
structure ICallOK (P:Program) (L:Nat->Prop) (w0:World) (ic:q9m) (inl:FuncId->Bool):Prop where
 ok:∀ f args h lo ib (R:Type) (K:AV->Heap->Option R) (z:R),inl f=true->ic f args h lo ib R K=some z->∃ av h',K av h'=some z/\(∀ id,lo id=true->h' id=h id) /\
  ∀ κ w (vals:List Value),vals.length=args.length->(∀ (i:Nat) (a:AV) (v:Value),args[i]? = some a->vals[i]? = some v->RepAV L κ h w a v)->HeapOK L w0 κ h w ->
   ∀ m,CallsIn (Fr none) m P f vals.toArray w fun e w'=>∃ v κ',e=.returned v/\HeapOK L w0 κ' h' w'/\RepAV L κ' h' w' av v/\Ext L κ h w κ' h' w'
 fn:∀ f,inl f=true->∃ fn,P.funcs[f]? = some fn/\fn.body.isSome=true/\(fn.name== "runtime.NumGoroutine")=false
def z5t (P:Program) (L:Nat->Prop) (w0:World) (yc:q9o):Prop :=
 ∀ id args h lo (R:Type) (K:AV->Heap->Option R) (z:R),yc id args h lo R K=some z->∃ av h',K av h'=some z/\(∀ id,lo id=true->h' id=h id) /\
  ∀ κ w (vals:List Value) b c,vals.length=args.length->(∀ (i:Nat) (a:AV) (v:Value),args[i]? = some a->vals[i]? = some v->RepAV L κ h w a v)->HeapOK L w0 κ h w->κ id=some (b,c) ->
   ∃ r:Loop,w.heap[b]? = some (.loop r)/\vals.length=r.params.size/\∀ m,RoundIn (Fr none) m P b r.fn ((r.params.zip vals.toArray).foldl (fun tmps (t,a)=>tmps.setIfInBounds t a) r.tmps) r.assign r.body w
    fun e w'=>∃ v κ',e=.returned v/\HeapOK L w0 κ' h' w'/\RepAV L κ' h' w' av v/\Ext L κ h w κ' h' w'
def q61 (P:Program) (T:TypeId) (n:String) (f:FuncId):Prop :=
 ∃ i m d,P.info? T=some i/\i.methods.find? (·.name==n)=some m/\m.path=#[]/\m.func=some (f,false)/\P.underlying T=some d/\∀ e,d≠.pointer e
structure CtxOK (P:Program) (L:Nat->Prop) (w0:World) (C:Ctx):Prop where
 ti:∀ t ti,C.TI t=some ti->ti.OK P t
 spec:∀ f sp,C.spec f=some sp->FunOK' P C.glob f sp
 glob:GlobOK C.glob w0
 ic:ICallOK P L w0 C.icall C.inl
 yc:z5t P L w0 C.ycall
 srt:∀ f,C.srt f=true->Sort1 P f
 srn:∀ f k,C.srn f=some k->q1v P f k
 ifc:∀ T,C.ifc T=true->∃ ms,P.underlying T=some (.interface ms)
 meth:∀ T n f,C.meth T n=some f->q61 P T n f
def W0 (o:Op) (q:Eff) (ρ:Env) (h:Heap) (ρs:Env) (hs:Heap):Prop :=
 (∀ x∈o.operands,ev ρs x=ev ρ x)/\(∀ id∈q.rd,hs id=h id)/\(∀ p∈q.ups,hs p.1=h p.1)/\(q.full≠none->hs=h)
theorem Q9 {R:Type} {h:Heap} {id:Nat} {K:Option R} {z:R} (he:I2 h id K=some z):h id=.fresh/\K=some z:=by
 unfold I2 at he
 split at he
 ·rename_i hf;exact⟨hf,he⟩
 ·cases he
theorem B1 {R:Type} {b:Bool} {K:Option R} {z:R} (he:cond b K none=some z):b=true/\K=some z:=by
 cases b with
 | true=>exact⟨rfl,he⟩
 | false=>cases he
theorem j5n {h hs:Heap} {t:Ty} {ρ ρs:Operand->AV}:∀ (parts:List (Nat×Operand)) (n:Nat) (l:List t.den) (ids:List Nat),q16 h t ρ n parts=some (l,ids)->(∀ q∈parts,ρs q.2=ρ q.2)->(∀ id∈ids,hs id=h id) ->
  q16 hs t ρs n parts=some (l,ids)
 | [],n,l,ids,he,_,_=>he
 | (i,x)::r,n,l,ids,he,hρ,hh=>by
  simp only[q16]at he ⊢
  obtain⟨hin,he⟩:=B1 he
  rw[hin,cond_true,hρ (i,x) List.mem_cons_self]
  split at he
  ·rename_i vs hvs
   obtain⟨hkn,he⟩:=B1 he
   rw[hvs]
   simp only[hkn,cond_true]
   split at he
   ·rename_i y l' ids' hy hl'
    simp only[Option.some.injEq,Prod.mk.injEq]at he
    obtain⟨rfl,rfl⟩:=he
    rw[V7 t vs (fun id hm=>hh id (List.mem_append_left _ hm)),hy,j5n r (n+1) l' ids' hl' (fun q hq=>hρ q (List.mem_cons_of_mem _ hq)) (fun id hm=>hh id (List.mem_append_right _ hm))]
   ·cases he
  ·cases he
theorem j47 {flds:List FI} {ρ ρs:Operand->AV}:∀ (parts:List (Nat×Operand)) (cs:List SV),(∀ q∈parts,ρs q.2=ρ q.2)->W8 flds ρs parts cs=W8 flds ρ parts cs
 | [],_,_=>rfl
 | (i,x)::r,cs,hρ=>by
  simp only[W8,hρ (i,x) List.mem_cons_self]
  split
  ·rename_i fi vs h1 h2
   rw[j47 r _ (fun q hq=>hρ q (List.mem_cons_of_mem _ hq))]
  ·rfl
theorem j2m {ρ ρs:Operand->AV}:∀ (xs:List Operand),(∀ x∈xs,ρs x=ρ x)->q04 ρs xs=q04 ρ xs
 | [],_=>rfl
 | x::r,hρ=>by
  simp only[q04,hρ x List.mem_cons_self,j2m r (fun y hy=>hρ y (List.mem_cons_of_mem _ hy))]
theorem v2k {R:Type} {o:Oper} {T e:TypeId} {s x:Operand} {ti te:TInfo} (hti:ti.OK P T) (hel:ti.elem=some e) (hte:te.OK P e)
  (ho:o.op=.call { callee:=.builtin .append,args:=#[s,x],argTypes:=#[T,T] }) {ρ:Env} {h:Heap} {id':Nat} {K:Eff->Option R} {z:R} (he:z6x e te h id' (ev ρ s) (ev ρ x) K=some z) :
  ∃ q,K q=some z/\q.full=none/\∀ ρs hs,ev ρs s=ev ρ s->ev ρs x=ev ρ x->(∀ id∈q.rd,hs id=h id)->(∀ p∈q.ups,hs p.1=h p.1)->A8 P L w0 o ρs hs (q.heap hs) q.av:=by
 unfold z6x at he
 split at he
 ·rename_i sx hs' hx'
  split at he
  ·rename_i m hm
   obtain⟨hf,he⟩:=Q9 he
   obtain⟨hc,he⟩:=B1 he
   simp only[Bool.and_eq_true]at hc
   obtain⟨⟨c1,c2⟩,c3⟩:=hc
   refine⟨_,he,rfl,fun ρs hs h1 h2 h3 h4=>?_⟩
   have hf':hs id'=.fresh:=(h4 (id',.arr e te.ty m) (by simp)).trans hf
   exact v2m hti hel hte ho hf' (h1.trans hs') (h2.trans hx') ((q7i te.ty sx h3).trans hm) c1 (Nat.le_of_ble_eq_true c2) (Nat.eq_of_beq_eq_true c3)
  ·cases he
 ·rename_i id sx hs' hx'
  split at he
  ·rename_i e' t l hid
   split at he
   ·rename_i ht _
    subst ht
    split at he
    ·rename_i m hm
     obtain⟨hf,he⟩:=Q9 he
     obtain⟨hc,he2⟩:=B1 he
     simp only[Bool.and_eq_true]at hc
     obtain⟨⟨⟨c0,c1⟩,c2⟩,c3⟩:=hc
     have c0:=Nat.eq_of_beq_eq_true c0
     subst c0
     refine⟨_,he2,rfl,fun ρs hs h1 h2 h3 h4=>?_⟩
     have hf':hs id'=.fresh:=(h4 (id',.arr e te.ty (l++m)) (by simp)).trans hf
     have hid':hs id=.arr e te.ty l:=(h4 (id,.dead) (by simp)).trans hid
     exact v2n hti hel hte ho hf' (h1.trans hs') hid' (h2.trans hx') ((q7i te.ty sx h3).trans hm) c1 (Nat.le_of_ble_eq_true c2) (Nat.eq_of_beq_eq_true c3)
    ·cases he
   ·cases he
  ·cases he
 ·cases he
theorem v2x {R:Type} {o:Oper} {T T' e:TypeId} {s x:Operand} {ti te:TInfo} (hti:ti.OK P T) (hel:ti.elem=some e) (hte:te.OK P e)
  (ho:o.op=.call { callee:=.builtin .copy,args:=#[s,x],argTypes:=#[T,T'] }) {ρ:Env} {h:Heap} {K:Eff->Option R} {z:R} (he:z7a e te h (ev ρ s) (ev ρ x) K=some z) :
  ∃ q,K q=some z/\q.full=none/\∀ ρs hs,ev ρs s=ev ρ s->ev ρs x=ev ρ x->(∀ id∈q.rd,hs id=h id)->(∀ p∈q.ups,hs p.1=h p.1)->A8 P L w0 o ρs hs (q.heap hs) q.av:=by
 unfold z7a at he
 split at he
 ·rename_i id sx hs' hx'
  split at he
  ·rename_i e' t l hid
   split at he
   ·rename_i ht _
    subst ht
    split at he
    ·rename_i m hm
     obtain⟨hc,he2⟩:=B1 he
     simp only[Bool.and_eq_true]at hc
     obtain⟨⟨c0,c1⟩,c2⟩:=hc
     have c0:=Nat.eq_of_beq_eq_true c0
     subst c0
     refine⟨_,he2,rfl,fun ρs hs h1 h2 h3 h4=>?_⟩
     have hid':hs id=.arr e te.ty l:=(h4 (id,.arr e te.ty (m.take l.length++l.drop m.length)) (by simp)).trans hid
     exact v2z hti hel hte ho (h1.trans hs') hid' (h2.trans hx') ((q7i te.ty sx h3).trans hm) (Nat.eq_of_beq_eq_true c1) (Nat.eq_of_beq_eq_true c2)
    ·cases he
   ·cases he
  ·cases he
 ·cases he
theorem v36 {R:Type} {C:Ctx} (hti:∀ t ti,C.TI t=some ti->ti.OK P t) {o:Oper} {T:TypeId} {m:Operand} (ho:o.op=.call { callee:=.builtin .clear,args:=#[m],argTypes:=#[T] }) {ρ:Env} {h:Heap} {id off len:Nat} (hm:ev ρ m=.one (.sub id off len))
  {K:Eff->Option R} {z:R} (he:z73 C T id off len h K=some z) :
  ∃ q,K q=some z/\q.full=none/\∀ ρs hs,ev ρs m=ev ρ m->(∀ p∈q.ups,hs p.1=h p.1)->A8 P L w0 o ρs hs (q.heap hs) q.av:=by
 unfold z73 at he
 split at he
 ·rename_i ti hT
  split at he
  ·rename_i e hel
   split at he
   ·rename_i te hte
    split at he
    ·rename_i e' t l hid
     split at he
     ·rename_i ht z0 _ hz
      subst ht
      split at he
      ·rename_i z' hcz
       obtain⟨e1,hzz⟩:=H5 hcz
       have hzz:z0=z':=hzz
       subst hzz
       obtain⟨hc,he2⟩:=B1 he
       simp only[Bool.and_eq_true]at hc
       obtain⟨⟨c1,c2⟩,c3⟩:=hc
       have c1:=Nat.eq_of_beq_eq_true c1
       subst c1
       have hzo:=q9j (hti e te hte)
       refine⟨_,he2,rfl,fun ρs hs ha hup=>?_⟩
       have hids:=(hup (id,.arr e te.ty (l.take off++List.replicate len z0++l.drop (off+len))) (by simp)).trans hid
       have hz':D0 hs te.ty te.zeros=some (z0,[]):=(V7 te.ty te.zeros (fun id hm=>by rw[hzo]at hm;cases hm)).trans hz
       exact v2v (hti T ti hT) hel (hti e te hte) ho (ha.trans hm) hids hz' (Nat.le_of_ble_eq_true c2) (Nat.eq_of_beq_eq_true c3) hzo
      ·cases he
     ·cases he
    ·cases he
   ·cases he
  ·cases he
 ·cases he
theorem q5f {R:Type} {C:Ctx} (hic:ICallOK P L w0 C.icall C.inl) {o:Oper} {f:FuncId} {avs:List AV} {X:Operand->Prop}
  {ρ:Env} (hR:q62 P L o f avs X ρ) {h:Heap} {lo:Nat->Bool} {ib:Nat} {K:Eff->Option R} {z:R} (hin:C.inl f=true)
  {lim:Nat} {M:List Nat} (he:C.icall f avs h lo ib R (fun av h'=>K { av,rd:=[],ups:=M.map fun id=>(id,h' id),full:=some h',lim })=some z) :
  ∃ q,K q=some z/\(q.lim=lim/\q.ups.map (·.1)=M)/\(∃ H,q.full=some H/\∀ id,lo id=true->H id=h id)/\∀ ρs hs,(∀ x,X x->ev ρs x=ev ρ x)->hs=h->A8 P L w0 o ρs hs (q.heap hs) q.av:=by
 obtain⟨av,h',hk,hlo,hcall⟩:=hic.ok f _ h lo ib R _ z hin he
 refine⟨_,hk,⟨rfl,by simp[Function.comp_def]⟩,⟨h',rfl,hlo⟩,fun ρs hs h1 h2=>?_⟩
 subst h2
 intro r κ a w henv ok m K' Q hK
 have hev:=O4 henv
 obtain⟨fn,hf1,hf2,hf3⟩:=hic.fn f hin
 obtain⟨vs0,hrun,hvl,hvr⟩:=hR.2 fn hf1 hf2 hf3 ρs hs h1 κ a w hev
 have hc:=hcall κ w vs0 hvl hvr ok (m-1)
 refine q0q hR.1 hrun hc fun e w' ⟨v,κ',hev',a1,a2,a3⟩=>⟨v,hev',hK κ' v w' a1 a2 a3⟩
theorem y64 {a:Act} {o:Oper} {g:Operand} {args:Array Operand} {Ts:Array TypeId} (ho:o.op=.call { callee:=.value g,args:=args,argTypes:=Ts }) {b:Nat} (hg:a.eval g=.func (.yield b) #[] #[])
  {w:World} {r:Loop} (h:w.heap[b]? = some (.loop r)) (hs:args.size=r.params.size) :
  (execOp a.eval o).run P w=.ok (.round b r.fn ((r.params.zip (args.map a.eval)).foldl (fun tmps (t,a)=>tmps.setIfInBounds t a) r.tmps) r.assign r.body) w:=by
 unfold execOp
 simp[ho,resolve,Deferred.ofValue,hg,invoke,run_yield h (args:=args.map a.eval) (by simpa using hs)]
theorem v6m {r:Option Nat} {o:Oper} {a:Act} {w:World} {m:Nat} {K:Act->World->Prop} {Q:Exit->Act->World->Prop} {l:Nat} {f:FuncId} {tmps:Array Value} {assign body:Code} (hd:∀ c,o.op≠.defer c)
  (h:(execOp a.eval o).run P w=.ok (.round l f tmps assign body) w) {R:Ending->World->Prop} (hc:RoundIn (Fr none) (m-1) P l f tmps assign body w R) (hR:∀ e w',R e w'->∃ v,e=.returned v/\K (a.put o.dst v) w'):o.wpIn (Fr r) m P a w K Q:=by
 refine⟨fun _ _=>trivial,?_⟩
 rw[Oper.semAt_eq _ _ _ hd,h]
 refine⟨fun h=>by simp[Fr]at h,RoundIn.mono (show RoundIn (Fr r) (m-1) P l f tmps assign body w R from hc) fun e w' he=>?_⟩
 obtain⟨v,rfl,hk⟩:=hR e w' he
 exact hk
theorem v4h {R:Type} {C:Ctx} (hyc:z5t P L w0 C.ycall) {o:Oper} {g:Operand} {args:Array Operand} {Ts:Array TypeId} (ho:o.op=.call { callee:=.value g,args:=args,argTypes:=Ts })
  {ρ:Env} {id:Nat} (hg:ev ρ g=.one (.yld id)) {h:Heap} {lo:Nat->Bool} {K:Eff->Option R} {z:R}
  (he:C.ycall id (args.toList.map (ev ρ)) h lo R (fun av h'=>K { av,rd:=[],ups:=[],full:=some h' })=some z) :
  ∃ q,K q=some z/\q.lim=0/\(∃ H,q.full=some H/\∀ id,lo id=true->H id=h id)/\∀ ρs hs,(∀ x,x=g\/x∈args.toList->ev ρs x=ev ρ x)->hs=h->A8 P L w0 o ρs hs (q.heap hs) q.av:=by
 obtain⟨av,h',hk,hlo,hcall⟩:=hyc id _ h lo R _ z he
 refine⟨_,hk,rfl,⟨h',rfl,hlo⟩,fun ρs hs h1 h2=>?_⟩
 subst h2
 intro r κ a w henv ok m K' Q hK
 have hev:=O4 henv
 have hgv:=hev g
 rw[h1 g (.inl rfl),hg]at hgv
 obtain⟨hnf,b,c,hkb,hgv⟩:=hgv
 obtain⟨rc,hb,hsz,hround⟩:=hcall κ w (args.toList.map a.eval) b c (by simp) (fun i av v hi hv=>by
  simp only[List.getElem?_map,Option.map_eq_some_iff]at hi hv
  obtain⟨q,hq,rfl⟩:=hi
  obtain⟨q',hq',rfl⟩:=hv
  rw[hq]at hq';cases hq'
  rw[<-h1 q (.inr (List.mem_of_getElem? hq))]
  exact hev q) ok hkb
 have hrun:=y64 (P:=P) ho hgv hb (by simpa using hsz)
 have harr:(args.toList.map a.eval).toArray=args.map a.eval:=by
  apply Array.toList_inj.1;simp
 have hround:=hround (m-1)
 rw[harr]at hround
 refine v6m (fun c hc=>by rw[ho]at hc;cases hc) hrun hround fun e w' ⟨v,κ',hev',a1,a2,a3⟩=>⟨v,hev',hK κ' v w' a1 a2 a3⟩
theorem j3t {R:Type} {C:Ctx} (hC:CtxOK P L w0 C) {o:Oper} {lo:Nat->Bool} {id':Nat} {ρ:Env} {h:Heap} {K:Eff->Option R} {z:R} (he:z7x C lo id' o.op (ev ρ) h K=some z) :
  ∃ q,K q=some z/\(∀ H,q.full=some H->∀ id,lo id=true\/(id<q.lim/\id∉q.ups.map (·.1))->H id=h id)/\∀ ρs hs,W0 o.op q ρ h ρs hs->A8 P L w0 o ρs hs (q.heap hs) q.av:=by
 generalize hop:o.op=op at he
 have nofull:∀ (q:Eff),q.full=none->∀ H,q.full=some H->∀ id,lo id=true\/(id<q.lim/\id∉q.ups.map (·.1))->H id=h id:=fun q hq H hH=>by rw[hq]at hH;cases hH
 unfold z7x at he
 split at he
 ·rename_i x
  refine⟨_,he,nofull _ rfl,fun ρs hs ha=>?_⟩
  have h1:=ha.1 x (by simp[Op.operands])
  show A8 P L w0 o ρs hs hs (ev ρ x)
  rw[<-h1];exact j8d (.inl hop) ρs hs
 ·rename_i x
  refine⟨_,he,nofull _ rfl,fun ρs hs ha=>?_⟩
  have h1:=ha.1 x (by simp[Op.operands])
  show A8 P L w0 o ρs hs hs (ev ρ x)
  rw[<-h1];exact j8d (.inr hop) ρs hs
 ·rename_i c x y
  split at he
  ·rename_i t hc
   cases t with
   | true =>
    refine⟨_,he,nofull _ rfl,fun ρs hs ha=>?_⟩
    have h1:=ha.1 x (by simp[Op.operands])
    show A8 P L w0 o ρs hs hs (ev ρ x)
    rw[<-h1];exact j8g (t:=true) hop ((ha.1 c (by simp[Op.operands])).trans hc) hs
   | false =>
    refine⟨_,he,nofull _ rfl,fun ρs hs ha=>?_⟩
    have h1:=ha.1 y (by simp[Op.operands])
    show A8 P L w0 o ρs hs hs (ev ρ y)
    rw[<-h1];exact j8g (t:=false) hop ((ha.1 c (by simp[Op.operands])).trans hc) hs
  ·cases he
 ·rename_i T
  split at he
  ·rename_i ti hti
   obtain⟨hf,he⟩:=Q9 he
   exact⟨_,he,nofull _ rfl,fun ρs hs ha=>v2j (hC.ti T ti hti) hop ((ha.2.2.1 (id',.cells ti.zeros) (by simp)).trans hf)⟩
  ·cases he
 ·rename_i T x
  split at he
  ·rename_i ti vs hti hvs
   obtain⟨hf,he⟩:=Q9 he
   obtain⟨hk,he⟩:=B1 he
   exact⟨_,he,nofull _ rfl,fun ρs hs ha=>v2o hop ((ha.2.2.1 (id',.cells vs) (by simp)).trans hf) (by rw[ha.1 x (by simp[Op.operands])];exact hvs) hk⟩
  ·cases he
 ·rename_i T parts
  split at he
  ·rename_i ti hti
   obtain⟨hstr,he⟩:=B1 he
   split at he
   ·rename_i cs hcs
    refine⟨_,he,nofull _ rfl,fun ρs hs ha=>?_⟩
    have hcs':W8 ti.flds (ev ρs) parts.toList ti.zeros=some cs:=by
     rw[j47 (ρ:=ev ρ) (ρs:=ev ρs) parts.toList ti.zeros (fun q hq=>ha.1 q.2 (by simp only[Op.operands];simpa using⟨q.1,by simpa using hq⟩))]
     exact hcs
    cases hst:ti.str with
    | true=>exact v2p (hC.ti T ti hti) hst hop hcs' hs
    | false =>
     rw[hst,Bool.false_or]at hstr
     obtain⟨⟨n,e⟩,hne⟩:=Option.isSome_iff_exists.1 hstr
     exact v2q (hC.ti T ti hti) hne hop hcs' hs
   ·cases he
  ·cases he
 ·rename_i T len parts
  split at he
  ·rename_i ti hti
   split at he
   ·rename_i e hel
    split at he
    ·rename_i te hte
     split at he
     ·rename_i l ids hl
      obtain⟨hf,he⟩:=Q9 he
      obtain⟨hc,he⟩:=B1 he
      simp only[Bool.and_eq_true]at hc
      obtain⟨⟨⟨⟨c1,c2⟩,c3⟩,c4⟩,c5⟩:=hc
      refine⟨_,he,nofull _ rfl,fun ρs hs ha=>?_⟩
      have hids:∀ id∈ids,hs id=h id:=ha.2.1
      have hf':hs id'=.fresh:=(ha.2.2.1 (id',.arr e te.ty l) (by simp)).trans hf
      have hl':=j5n (ρs:=ev ρs) parts.toList 0 l ids hl (fun q hq=>ha.1 q.2 (by simp only[Op.operands];simpa using⟨q.1,by simpa using hq⟩)) hids
      have hni:id'∉ids:=fun hm=>by
       have:=List.all_eq_true.1 c5 id' hm
       simp at this
      show A8 P L w0 o ρs hs (A5 (B3 h ids++[(id',.arr e te.ty l)]) hs) _
      rw[<-q4j ids hids]
      exact v2r (hC.ti T ti hti) hel (hC.ti e te hte) hop hf' hl' (Nat.eq_of_beq_eq_true c1) (Nat.le_of_ble_eq_true c2) (Nat.le_of_ble_eq_true c3) (Nat.eq_of_beq_eq_true c4) hni
     ·cases he
    ·cases he
   ·cases he
  ·cases he
 ·rename_i T x
  split at he
  ·rename_i ti hti
   obtain⟨q,hq,hfull,hsem⟩:=j8b (L:=L) (w0:=w0) (hC.ti T ti hti) hop he
   exact⟨q,hq,nofull q hfull,fun ρs hs ha=>hsem ρs hs (ha.1 x (by simp[Op.operands])) ha.2.1⟩
  ·cases he
 ·rename_i T x v
  split at he
  ·rename_i ti hti
   unfold j3u at he
   split at he
   ·cases he
   ·rename_i vs hvs
    obtain⟨hc,he⟩:=B1 he
    rw[Bool.and_eq_true]at hc
    obtain⟨hk,hsz⟩:=hc
    have hsz:=Nat.eq_of_beq_eq_true hsz
    split at he
    ·rename_i id off hx
     split at he
     ·rename_i l hid
      obtain⟨hle,he⟩:=B1 he
      refine⟨_,he,nofull _ rfl,fun ρs hs ha=>?_⟩
      exact j8h (hC.ti T ti hti) hop ((ha.1 x (by simp[Op.operands])).trans hx) ((ha.2.2.1 (id,.cells (D5 l off vs)) (by simp)).trans hid) (by rw[ha.1 v (by simp[Op.operands])];exact hvs) hk hsz (Nat.le_of_ble_eq_true hle)
     ·cases he
    ·rename_i id t i c hx
     split at he
     ·rename_i e t' l hid
      split at he
      ·rename_i ht _
       subst ht
       cases hz:l[i]? with
       | none=>rw[hz]at he;cases he
       | some y =>
        rw[hz,Option.bind_some]at he
        split at he
        ·rename_i y' hd
         obtain⟨hc,he⟩:=B1 he
         rw[Bool.and_eq_true]at hc
         refine⟨_,he,nofull _ rfl,fun ρs hs ha=>?_⟩
         have hids:∀ id∈E5 vs,hs id=h id:=ha.2.1
         have hid':hs id=.arr e t l:=(ha.2.2.1 (id,.arr e t (l.set i y')) (by simp)).trans hid
         show A8 P L w0 o ρs hs (A5 (B3 h (E5 vs)++[(id,.arr e t (l.set i y'))]) hs) (.one .unk)
         rw[<-q4j _ hids]
         refine v4e (hC.ti T ti hti) hop ((ha.1 x (by simp[Op.operands])).trans hx) hid' (by rw[ha.1 v (by simp[Op.operands])];exact hvs) hk hsz hz ?_ hc.1 (Nat.le_of_ble_eq_true hc.2)
         rw[V7 t _ (fun id hm=>hids id (j77 (z2j t y) hm))]
         exact hd
        ·cases he
      ·cases he
     ·cases he
    ·cases he
  ·cases he
 ·rename_i x
  split at he
  ·rename_i id off hx
   refine⟨_,he,nofull _ rfl,fun ρs hs ha=>?_⟩
   have h1:=(ha.1 x (by simp[Op.operands])).trans hx
   show A8 P L w0 o ρs hs hs (.one (.ptr id off))
   rw[<-h1];exact j00 hop (.inl ⟨id,off,h1⟩) hs
  ·rename_i id t i c hx
   refine⟨_,he,nofull _ rfl,fun ρs hs ha=>?_⟩
   have h1:=(ha.1 x (by simp[Op.operands])).trans hx
   show A8 P L w0 o ρs hs hs (.one (.eptr id t i c))
   rw[<-h1];exact j00 hop (.inr (.inl ⟨id,t,i,c,h1⟩)) hs
  ·rename_i t y c hx
   refine⟨_,he,nofull _ rfl,fun ρs hs ha=>?_⟩
   have h1:=(ha.1 x (by simp[Op.operands])).trans hx
   show A8 P L w0 o ρs hs hs (.one (.ro t y c))
   rw[<-h1];exact j00 hop (.inr (.inr ⟨t,y,c,h1⟩)) hs
  ·cases he
 ·rename_i op T x y T'
  split at he
  ·rename_i k a k' b hx hy
   obtain⟨av,hav,hsem⟩:=v3g (P:=P) (L:=L) (w0:=w0) hop hx hy he
   exact⟨_,hav,nofull _ rfl,fun ρs hs ha=>hsem ρs hs (ha.1 x (by simp[Op.operands])) (ha.1 y (by simp[Op.operands]))⟩
  ·rename_i a b hx hy
   split at he
   ·rename_i ti hti
    split at he
    ·rename_i _ hagg hty
     exact⟨_,he,nofull _ rfl,fun ρs hs ha=>j86 hop (hC.ti T ti hti) hagg hty ((ha.1 x (by simp[Op.operands])).trans hx) ((ha.1 y (by simp[Op.operands])).trans hy) (.inl ⟨rfl,rfl⟩) hs⟩
    ·rename_i _ hagg hty
     exact⟨_,he,nofull _ rfl,fun ρs hs ha=>j86 hop (hC.ti T ti hti) hagg hty ((ha.1 x (by simp[Op.operands])).trans hx) ((ha.1 y (by simp[Op.operands])).trans hy) (.inr ⟨rfl,rfl⟩) hs⟩
    ·cases he
   ·cases he
  ·rename_i cs ds hx hy
   unfold j3m at he
   split at he
   ·rename_i ti hti
    split at he
    ·rename_i l hl
     split at he
     ·rename_i b _ hb
      obtain⟨hc,he⟩:=B1 he
      rw[Bool.and_eq_true]at hc
      exact⟨_,he,nofull _ rfl,fun ρs hs ha=>j88 hop (hC.ti T ti hti) hl ((ha.1 x (by simp[Op.operands])).trans hx) ((ha.1 y (by simp[Op.operands])).trans hy) hb (Nat.eq_of_beq_eq_true hc.1) (Nat.eq_of_beq_eq_true hc.2) (.inl ⟨rfl,rfl⟩) hs⟩
     ·rename_i b _ hb
      obtain⟨hc,he⟩:=B1 he
      rw[Bool.and_eq_true]at hc
      exact⟨_,he,nofull _ rfl,fun ρs hs ha=>j88 hop (hC.ti T ti hti) hl ((ha.1 x (by simp[Op.operands])).trans hx) ((ha.1 y (by simp[Op.operands])).trans hy) hb (Nat.eq_of_beq_eq_true hc.1) (Nat.eq_of_beq_eq_true hc.2) (.inr ⟨rfl,rfl⟩) hs⟩
     ·cases he
    ·cases he
   ·cases he
  ·rename_i t l hx hy
   unfold z0d at he
   split at he
   ·rename_i ti hti
    split at he
    ·rename_i _ e hel
     exact⟨_,he,nofull _ rfl,fun ρs hs ha=>z4i hop (hC.ti T ti hti) hel ((ha.1 x (by simp[Op.operands])).trans hx) (.inl ⟨t,l,rfl,rfl⟩) ((ha.1 y (by simp[Op.operands])).trans hy) (.inl ⟨rfl,rfl⟩) hs⟩
    ·rename_i _ e hel
     exact⟨_,he,nofull _ rfl,fun ρs hs ha=>z4i hop (hC.ti T ti hti) hel ((ha.1 x (by simp[Op.operands])).trans hx) (.inl ⟨t,l,rfl,rfl⟩) ((ha.1 y (by simp[Op.operands])).trans hy) (.inr ⟨rfl,rfl⟩) hs⟩
    ·cases he
   ·cases he
  ·rename_i hx hy
   unfold z0d at he
   split at he
   ·rename_i ti hti
    split at he
    ·rename_i _ e hel
     exact⟨_,he,nofull _ rfl,fun ρs hs ha=>z4i hop (hC.ti T ti hti) hel ((ha.1 x (by simp[Op.operands])).trans hx) (.inr ⟨rfl,rfl⟩) ((ha.1 y (by simp[Op.operands])).trans hy) (.inl ⟨rfl,rfl⟩) hs⟩
    ·rename_i _ e hel
     exact⟨_,he,nofull _ rfl,fun ρs hs ha=>z4i hop (hC.ti T ti hti) hel ((ha.1 x (by simp[Op.operands])).trans hx) (.inr ⟨rfl,rfl⟩) ((ha.1 y (by simp[Op.operands])).trans hy) (.inr ⟨rfl,rfl⟩) hs⟩
    ·cases he
   ·cases he
  ·cases he
 ·rename_i op T x
  obtain⟨av,hav,hsem⟩:=v4g (P:=P) (L:=L) (w0:=w0) hop he
  exact⟨_,hav,nofull _ rfl,fun ρs hs ha=>hsem ρs hs (ha.1 x (by simp[Op.operands]))⟩
 ·rename_i S T x
  split at he
  ·rename_i tsi ti k' n hts hti hx
   split at he
   ·rename_i k hagg hty
    exact⟨_,he,nofull _ rfl,fun ρs hs ha=>v2w (hC.ti T ti hti) (hC.ti S tsi hts) hop hagg hty ((ha.1 x (by simp[Op.operands])).trans hx) hs⟩
   ·cases he
  ·cases he
 ·rename_i f first caps
  split at he
  ·rename_i l hfirst hcaps
   refine⟨_,he,nofull _ rfl,fun ρs hs ha=>?_⟩
   have hf0:first=#[]:=Array.toList_inj.1 hfirst
   subst hf0
   refine v3s hop ?_ hs
   rw[j2m (ρ:=ev ρ) caps.toList (fun x hx=>ha.1 x (by simp only[Op.operands];simpa using hx))]
   exact hcaps
  ·rename_i x hfirst hcaps
   split at he
   ·rename_i agg bcs hpl
    refine⟨_,he,nofull _ rfl,fun ρs hs ha=>?_⟩
    have hf0:first=#[x]:=Array.toList_inj.1 hfirst
    subst hf0
    have hc0:caps=#[]:=by
     apply Array.toList_inj.1
     cases hcl:caps.toList with
     | nil=>rfl
     | cons y r =>
      rw[hcl]at hcaps
      simp only[q04]at hcaps
      split at hcaps<;>cases hcaps
    subst hc0
    refine v3p hop ?_ hs
    rw[ha.1 x (by simp[Op.operands])]
    exact hpl
   ·cases he
  ·cases he
 ·rename_i T x y
  split at he
  ·rename_i ti hti
   split at he
   ·rename_i e hel
    split at he
    ·rename_i te n c hte hx hy
     unfold j3r at he
     split at he
     ·rename_i z0 hz
      obtain⟨hf,he⟩:=Q9 he
      obtain⟨hc,he⟩:=B1 he
      simp only[Bool.and_eq_true,decide_eq_true_eq]at hc
      obtain⟨⟨⟨⟨⟨c1,c2⟩,c3⟩,c4⟩,c5⟩,c6⟩:=hc
      have hzo:=q9j (hC.ti e te hte)
      refine⟨_,he,nofull _ rfl,fun ρs hs ha=>?_⟩
      have hz':D0 hs te.ty te.zeros=some (z0,[]):=(V7 te.ty te.zeros (fun id hm=>by rw[hzo]at hm;cases hm)).trans hz
      exact v3o (hC.ti T ti hti) hel (hC.ti e te hte) hop ((ha.2.2.1 (id',.arr e te.ty (List.replicate n.toNat z0)) (by simp)).trans hf) ((ha.1 x (by simp[Op.operands])).trans hx) ((ha.1 y (by simp[Op.operands])).trans hy) hz' c1 c2 c3 c4
       (Nat.le_of_ble_eq_true c5) (Nat.eq_of_beq_eq_true c6) hzo
     ·cases he
    ·cases he
   ·cases he
  ·cases he
 ·rename_i T r
  obtain⟨q,hq,hfull,hsem⟩:=v3t (P:=P) (L:=L) (w0:=w0) hC.ti hop he
  exact⟨q,hq,nofull q hfull,fun ρs hs ha=>hsem ρs hs ha.2.2.1⟩
 ·rename_i T x i ok2
  obtain⟨q,hq,hfull,hsem⟩:=v3l (P:=P) (L:=L) (w0:=w0) hC.ti hop he
  exact⟨q,hq,nofull q hfull,fun ρs hs ha=>hsem ρs hs (ha.1 x (by simp[Op.operands])) (ha.1 i (by simp[Op.operands])) ha.2.1⟩
 ·rename_i T m k v
  obtain⟨q,hq,hfull,hsem⟩:=j8c (P:=P) (L:=L) (w0:=w0) hC.ti (.inl hop) he
  exact⟨q,hq,nofull q hfull,fun ρs hs ha=>hsem ρs hs (ha.1 m (by simp[Op.operands])) (ha.1 k (by simp[Op.operands])) (ha.1 v (by simp[Op.operands])) ha.2.1⟩
 ·rename_i T m k v
  obtain⟨q,hq,hfull,hsem⟩:=j8c (P:=P) (L:=L) (w0:=w0) hC.ti (.inr hop) he
  exact⟨q,hq,nofull q hfull,fun ρs hs ha=>hsem ρs hs (ha.1 m (by simp[Op.operands])) (ha.1 k (by simp[Op.operands])) (ha.1 v (by simp[Op.operands])) ha.2.1⟩
 ·rename_i T m k
  obtain⟨q,hq,hfull,hsem⟩:=v33 (P:=P) (L:=L) (w0:=w0) hC.ti hop he
  exact⟨q,hq,nofull q hfull,fun ρs hs ha=>hsem ρs hs (ha.1 m (by simp[Op.operands])) (ha.1 k (by simp[Op.operands])) ha.2.1 ha.2.2.1⟩
 ·rename_i T m s v
  obtain⟨q,hq,hfull,hsem⟩:=v35 (P:=P) (L:=L) (w0:=w0) hop he
  exact⟨q,hq,nofull q hfull,fun ρs hs ha=>hsem ρs hs (ha.1 m (by simp[Op.operands])) (ha.1 s (by simp[Op.operands])) (ha.1 v (by simp[Op.operands])) ha.2.1⟩
 ·rename_i T x
  obtain⟨q,hq,hfull,hsem⟩:=v3z (P:=P) (L:=L) (w0:=w0) hC.ti hop he
  exact⟨q,hq,nofull q hfull,fun ρs hs ha=>hsem ρs hs (ha.1 x (by simp[Op.operands])) ha.2.2.1⟩
 ·rename_i x
  obtain⟨q,hq,hfull,hsem⟩:=v3y (P:=P) (L:=L) (w0:=w0) hop he
  exact⟨q,hq,nofull q hfull,fun ρs hs ha=>hsem ρs hs (ha.1 x (by simp[Op.operands])) ha.2.1⟩
 ·rename_i x
  obtain⟨q,hq,hfull,hsem⟩:=v3h (P:=P) (L:=L) (w0:=w0) hop he
  exact⟨q,hq,nofull q hfull,fun ρs hs ha=>hsem ρs hs (ha.1 x (by simp[Op.operands])) ha.2.1⟩
 ·rename_i T x a b
  split at he
  ·rename_i ti hti
   split at he
   ·rename_i n e hpa
    split at he
    ·rename_i id off te hx hte
     exact⟨_,he,nofull _ rfl,fun ρs hs ha=>v48 (hC.ti T ti hti) hpa (hC.ti e te hte) hop ((ha.1 x (by simp[Op.operands])).trans hx) hs⟩
    ·cases he
   ·split at he
    ·rename_i e hel
     split at he
     ·rename_i te hte
      obtain⟨q,hq,hfull,hsem⟩:=v41 (P:=P) (L:=L) (w0:=w0) (hC.ti T ti hti) hel (hC.ti e te hte) hop he
      exact⟨q,hq,nofull q hfull,fun ρs hs ha=>hsem ρs hs (ha.1 x (by simp[Op.operands])) (fun y hy=>ha.1 y (by rcases hy with rfl | rfl<;>simp[Op.operands])) ha.2.1⟩
     ·cases he
    ·cases he
  ·cases he
 ·rename_i T x f
  split at he
  ·rename_i ti hti
   obtain⟨hstr,he⟩:=B1 he
   split at he
   ·rename_i fi hfi
    obtain⟨hpos,he⟩:=B1 he
    have hpos:=Nat.le_of_ble_eq_true hpos
    split at he
    ·rename_i id off hx
     exact⟨_,he,nofull _ rfl,fun ρs hs ha=>z9z (hC.ti T ti hti) hstr hop hfi hpos (.inl ⟨id,off,(ha.1 x (by simp[Op.operands])).trans hx,rfl⟩) hs⟩
    ·rename_i id t i c hx
     exact⟨_,he,nofull _ rfl,fun ρs hs ha=>z9z (hC.ti T ti hti) hstr hop hfi hpos (.inr (.inl ⟨id,t,i,c,(ha.1 x (by simp[Op.operands])).trans hx,rfl⟩)) hs⟩
    ·rename_i t y c hx
     exact⟨_,he,nofull _ rfl,fun ρs hs ha=>z9z (hC.ti T ti hti) hstr hop hfi hpos (.inr (.inr ⟨t,y,c,(ha.1 x (by simp[Op.operands])).trans hx,rfl⟩)) hs⟩
    ·cases he
   ·cases he
  ·cases he
 ·rename_i T x f
  split at he
  ·rename_i ti hti
   obtain⟨hstr,he⟩:=B1 he
   split at he
   ·rename_i fi cs hfi hx
    obtain⟨hle,he⟩:=B1 he
    have hle:=Nat.le_of_ble_eq_true hle
    split at he
    ·rename_i hag
     exact⟨_,he,nofull _ rfl,fun ρs hs ha=>j8a (hC.ti T ti hti) hstr hop hfi ((ha.1 x (by simp[Op.operands])).trans hx) hle (.inl ⟨hag,rfl⟩) hs⟩
    ·rename_i hag
     split at he
     ·rename_i s hs'
      exact⟨_,he,nofull _ rfl,fun ρs hs ha=>j8a (hC.ti T ti hti) hstr hop hfi ((ha.1 x (by simp[Op.operands])).trans hx) hle (.inr ⟨hag,s,hs',rfl⟩) hs⟩
     ·cases he
   ·cases he
  ·cases he
 ·rename_i T x i
  split at he
  ·rename_i b hx
   unfold j3w at he
   split at he
   ·rename_i ti hti
    split at he
    ·rename_i kk k hst hi
     obtain⟨y,hy,he⟩:=Option.bind_eq_some_iff.1 he
     rw[z8n]at hy
     exact⟨_,he,nofull _ rfl,fun ρs hs ha=>v4f (hC.ti T ti hti) hst hop ((ha.1 x (by simp[Op.operands])).trans hx) ((ha.1 i (by simp[Op.operands])).trans hi) hy hs⟩
    ·cases he
   ·cases he
  split at he
  ·rename_i ti hti
   split at he
   ·rename_i n e harr
    split at he
    ·rename_i te cs kk k hte hx hi
     split at he
     ·rename_i hagg
      split at he
      ·rename_i l hl
       obtain⟨hc,he2⟩:=B1 he
       obtain⟨y,hy,he3⟩:=Option.bind_eq_some_iff.1 he2
       exact⟨_,he3,nofull _ rfl,fun ρs hs ha=>v3d (hC.ti T ti hti) harr (hC.ti e te hte) hagg (Nat.eq_of_beq_eq_true hc) hop ((ha.1 x (by simp[Op.operands])).trans hx) ((ha.1 i (by simp[Op.operands])).trans hi) hl hy hs⟩
      ·cases he
     ·rename_i hagg
      split at he
      ·rename_i l hl
       obtain⟨hc,he2⟩:=B1 he
       simp only[Bool.and_eq_true]at hc
       obtain⟨⟨c1,c2⟩,c3⟩:=hc
       obtain⟨y,hy,he3⟩:=Option.bind_eq_some_iff.1 he2
       exact⟨_,he3,nofull _ rfl,fun ρs hs ha=>v3e (hC.ti T ti hti) harr (hC.ti e te hte) hagg (Nat.eq_of_beq_eq_true c1) hop ((ha.1 x (by simp[Op.operands])).trans hx) ((ha.1 i (by simp[Op.operands])).trans hi) hl (Nat.eq_of_beq_eq_true c3) hy hs⟩
      ·cases he
    ·cases he
   ·cases he
  ·cases he
 ·rename_i T x i
  split at he
  ·rename_i g hx
   unfold j3p at he
   split at he
   ·rename_i ti hti
    split at he
    ·rename_i n e k m l harr hg
     split at he
     ·rename_i te kk j hte hi
      obtain⟨hc,he⟩:=B1 he
      simp only[Bool.and_eq_true]at hc
      obtain⟨⟨c1,c2⟩,c3⟩:=hc
      obtain⟨y,hy,he⟩:=Option.bind_eq_some_iff.1 he
      rw[z8n]at hy
      exact⟨_,he,nofull _ rfl,fun ρs hs ha=>v3a (hC.ti T ti hti) harr (hC.ti e te hte) (Nat.eq_of_beq_eq_true c1) (Nat.le_of_ble_eq_true c3) hop ((ha.1 x (by simp[Op.operands])).trans hx) ((ha.1 i (by simp[Op.operands])).trans hi) ((hC.glob g k m l hg).1.trans (Nat.eq_of_beq_eq_true c2)) hy (hC.glob g k m l hg).2 hs⟩
     ·cases he
    ·cases he
   ·cases he
  ·rename_i id off hx
   unfold j3l at he
   split at he
   ·rename_i ti hti
    split at he
    ·rename_i n e harr
     split at he
     ·rename_i te kk j hte hi
      obtain⟨hc,he⟩:=B1 he
      rw[Bool.and_eq_true]at hc
      exact⟨_,he,nofull _ rfl,fun ρs hs ha=>v2t (hC.ti T ti hti) harr (hC.ti e te hte) (Nat.eq_of_beq_eq_true hc.1) hop ((ha.1 x (by simp[Op.operands])).trans hx) ((ha.1 i (by simp[Op.operands])).trans hi) hc.2 hs⟩
     ·cases he
    ·cases he
   ·cases he
  split at he
  ·rename_i ti hti
   split at he
   ·rename_i e hel
    split at he
    ·rename_i te hte
     obtain⟨q,hq,hfull,hsem⟩:=v3c (P:=P) (L:=L) (w0:=w0) (hC.ti T ti hti) hel (hC.ti e te hte) hop he
     exact⟨q,hq,nofull q hfull,fun ρs hs ha=>hsem ρs hs (ha.1 x (by simp[Op.operands])) (ha.1 i (by simp[Op.operands])) ha.2.1⟩
    ·cases he
   ·cases he
  ·cases he
 ·rename_i t i
  split at he
  ·rename_i l hl
   split at he
   ·rename_i cs hc
    exact⟨_,he,nofull _ rfl,fun ρs hs ha=>j89 hop ((ha.1 t (by simp[Op.operands])).trans hl) hc (.inl ⟨cs,rfl,rfl⟩) hs⟩
   ·rename_i s hc
    exact⟨_,he,nofull _ rfl,fun ρs hs ha=>j89 hop ((ha.1 t (by simp[Op.operands])).trans hl) hc (.inr ⟨s,rfl,rfl⟩) hs⟩
   ·cases he
  ·cases he
 ·rename_i b args Ts
  unfold j3k at he
  split at he
  ·rename_i m' hargs
   obtain⟨x,hax,hx'⟩:∃ x,args=#[x]/\ev ρ x=m':=by
    obtain⟨l,hl⟩:∃ l,args.toList=l:=⟨_,rfl⟩
    rw[hl]at hargs
    match l,hargs with
    | [x],h=>simp at h;exact⟨x,Array.toList_inj.1 hl,h⟩
   subst hax
   subst hx'
   split at he
   ·rename_i T hTs
    have hTs:Ts=#[T]:=Array.toList_inj.1 hTs
    subst hTs
    split at he
    ·rename_i id off len hx
     obtain⟨q,hq,hfull,hsem⟩:=v36 (P:=P) (L:=L) (w0:=w0) hC.ti hop hx he
     exact⟨q,hq,nofull q hfull,fun ρs hs ha=>hsem ρs hs (ha.1 x (by simp[Op.operands,Call.operands])) ha.2.2.1⟩
    ·obtain⟨q,hq,hfull,hsem⟩:=v2u (P:=P) (L:=L) (w0:=w0) hC.ti hop he
     exact⟨q,hq,nofull q hfull,fun ρs hs ha=>hsem ρs hs (ha.1 x (by simp[Op.operands,Call.operands])) ha.2.2.1⟩
   ·cases he
  ·rename_i s' x' hargs
   obtain⟨s,x,hax,hs',hx'⟩:∃ s x,args=#[s,x]/\ev ρ s=s'/\ev ρ x=x':=by
    obtain⟨l,hl⟩:∃ l,args.toList=l:=⟨_,rfl⟩
    rw[hl]at hargs
    match l,hargs with
    | [s,x],h=>simp at h;exact⟨s,x,Array.toList_inj.1 hl,h⟩
   subst hax
   subst hs'
   subst hx'
   split at he
   ·rename_i T T' hTs
    have hTs:Ts=#[T,T']:=Array.toList_inj.1 hTs
    subst hTs
    obtain⟨q,hq,hfull,hsem⟩:=v32 (P:=P) (L:=L) (w0:=w0) hC.ti hop he
    exact⟨q,hq,nofull q hfull,fun ρs hs ha=>hsem ρs hs (ha.1 s (by simp[Op.operands,Call.operands])) (ha.1 x (by simp[Op.operands,Call.operands])) ha.2.1⟩
   ·cases he
  ·rename_i x' hargs
   obtain⟨x,hax,hx'⟩:∃ x,args=#[x]/\ev ρ x=x':=by
    obtain⟨l,hl⟩:∃ l,args.toList=l:=⟨_,rfl⟩
    rw[hl]at hargs
    match l,hargs with
    | [x],h=>simp at h;exact⟨x,Array.toList_inj.1 hl,h⟩
   subst hax
   split at he
   ·rename_i T hTs
    have hTs:Ts=#[T]:=Array.toList_inj.1 hTs
    subst hTs
    split at he
    ·rename_i ti hti
     split at he
     ·rename_i hel
      rw[<-hx']at he
      obtain⟨q,hq,hfull,hsem⟩:=v3v (P:=P) (L:=L) (w0:=w0) hC.ti hop he
      exact⟨q,hq,nofull q hfull,fun ρs hs ha=>hsem ρs hs (ha.1 x (by simp[Op.operands,Call.operands])) ha.2.1⟩
     ·rename_i e hel
      have hxo:∀ ρs:Env,(∀ y∈(Op.call { callee:=Callee.builtin Builtin.len,args:=#[x],argTypes:=#[T] }).operands,ev ρs y=ev ρ y)->ev ρs x=ev ρ x:=fun ρs h=>h x (by simp[Op.operands,Call.operands])
      split at he
      ·exact⟨_,he,nofull _ rfl,fun ρs hs ha=>q5g (n:=0) (hC.ti T ti hti) hel hop ((hxo ρs ha.1).trans hx') (.inl ⟨rfl,rfl⟩)⟩
      ·rename_i id
       split at he
       ·rename_i e' t l hid
        exact⟨_,he,nofull _ rfl,fun ρs hs ha=>q5g (hC.ti T ti hti) hel hop ((hxo ρs ha.1).trans hx') (.inr (.inl ⟨id,rfl,e',t,l,.inl ((ha.2.1 id (by simp[E4])).trans hid),rfl⟩))⟩
       ·rename_i e' t l hid
        exact⟨_,he,nofull _ rfl,fun ρs hs ha=>q5g (hC.ti T ti hti) hel hop ((hxo ρs ha.1).trans hx') (.inr (.inl ⟨id,rfl,e',t,l,.inr ((ha.2.1 id (by simp[E4])).trans hid),rfl⟩))⟩
       ·cases he
      ·rename_i id off len
       split at he
       ·rename_i e' t l hid
        exact⟨_,he,nofull _ rfl,fun ρs hs ha=>q5g (hC.ti T ti hti) hel hop ((hxo ρs ha.1).trans hx') (.inr (.inr (.inl ⟨id,off,rfl,e',t,l,.inl ((ha.2.1 id (by simp[E4])).trans hid)⟩)))⟩
       ·rename_i e' t l hid
        exact⟨_,he,nofull _ rfl,fun ρs hs ha=>q5g (hC.ti T ti hti) hel hop ((hxo ρs ha.1).trans hx') (.inr (.inr (.inl ⟨id,off,rfl,e',t,l,.inr ((ha.2.1 id (by simp[E4])).trans hid)⟩)))⟩
       ·cases he
      ·rename_i t l
       exact⟨_,he,nofull _ rfl,fun ρs hs ha=>q5g (hC.ti T ti hti) hel hop ((hxo ρs ha.1).trans hx') (.inr (.inr (.inr ⟨t,l,rfl,rfl⟩)))⟩
      ·cases he
    ·cases he
   ·cases he
  ·rename_i s' x' hargs
   obtain⟨s,x,hax,hs',hx'⟩:∃ s x,args=#[s,x]/\ev ρ s=s'/\ev ρ x=x':=by
    obtain⟨l,hl⟩:∃ l,args.toList=l:=⟨_,rfl⟩
    rw[hl]at hargs
    match l,hargs with
    | [s,x],h=>simp at h;exact⟨s,x,Array.toList_inj.1 hl,h⟩
   subst hax
   subst hs'
   subst hx'
   split at he
   ·rename_i T T' hTs
    have hTs:Ts=#[T,T']:=Array.toList_inj.1 hTs
    subst hTs
    split at he
    ·rename_i ti hti
     split at he
     ·rename_i e hel
      split at he
      ·rename_i te hte
       obtain⟨hTT,he2⟩:=B1 he
       have hTT:=Nat.eq_of_beq_eq_true hTT
       subst hTT
       obtain⟨q,hq,hfull,hsem⟩:=v2k (P:=P) (L:=L) (w0:=w0) (hC.ti T ti hti) hel (hC.ti e te hte) hop he2
       exact⟨q,hq,nofull q hfull,fun ρs hs ha=>hsem ρs hs (ha.1 s (by simp[Op.operands,Call.operands])) (ha.1 x (by simp[Op.operands,Call.operands])) ha.2.1 ha.2.2.1⟩
      ·cases he
     ·cases he
    ·cases he
   ·cases he
  ·rename_i s' x' hargs
   obtain⟨s,x,hax,hs',hx'⟩:∃ s x,args=#[s,x]/\ev ρ s=s'/\ev ρ x=x':=by
    obtain⟨l,hl⟩:∃ l,args.toList=l:=⟨_,rfl⟩
    rw[hl]at hargs
    match l,hargs with
    | [s,x],h=>simp at h;exact⟨s,x,Array.toList_inj.1 hl,h⟩
   subst hax
   subst hs'
   subst hx'
   split at he
   ·rename_i T T' hTs
    have hTs:Ts=#[T,T']:=Array.toList_inj.1 hTs
    subst hTs
    split at he
    ·rename_i ti hti
     split at he
     ·rename_i e hel
      split at he
      ·rename_i te hte
       split at he
       ·rename_i id off len cap hcsl
        obtain⟨q,hq,hfull,hsem⟩:=v2y (P:=P) (L:=L) (w0:=w0) (hC.ti T ti hti) hel (hC.ti e te hte) hop hcsl he
        exact⟨q,hq,nofull q hfull,fun ρs hs ha=>hsem ρs hs (ha.1 s (by simp[Op.operands,Call.operands])) (ha.1 x (by simp[Op.operands,Call.operands])) ha.2.1 ha.2.2.1⟩
       ·obtain⟨q,hq,hfull,hsem⟩:=v2x (P:=P) (L:=L) (w0:=w0) (hC.ti T ti hti) hel (hC.ti e te hte) hop he
        exact⟨q,hq,nofull q hfull,fun ρs hs ha=>hsem ρs hs (ha.1 s (by simp[Op.operands,Call.operands])) (ha.1 x (by simp[Op.operands,Call.operands])) ha.2.1 ha.2.2.1⟩
      ·cases he
     ·cases he
    ·cases he
   ·cases he
  ·rename_i k p k' q hargs
   obtain⟨s,x,hax,hs',hx'⟩:∃ s x,args=#[s,x]/\ev ρ s=.one (.sc (.int k) p)/\ev ρ x=.one (.sc (.int k') q):=by
    obtain⟨l,hl⟩:∃ l,args.toList=l:=⟨_,rfl⟩
    rw[hl]at hargs
    match l,hargs with
    | [s,x],h=>simp only[List.map_cons,List.map_nil,List.cons.injEq,and_true]at h;exact⟨s,x,Array.toList_inj.1 hl,h⟩
    | [],h=>simp at h
    | [_],h=>simp at h
    | _::_::_::_,h=>simp at h
   subst hax
   split at he
   ·rename_i hk _
    subst hk
    exact⟨_,he,nofull _ rfl,fun ρs hs ha=>v3x hop ((ha.1 s (by simp[Op.operands,Call.operands])).trans hs') ((ha.1 x (by simp[Op.operands,Call.operands])).trans hx') hs⟩
   ·cases he
  ·rename_i k p k' q hargs
   obtain⟨s,x,hax,hs',hx'⟩:∃ s x,args=#[s,x]/\ev ρ s=.one (.sc (.int k) p)/\ev ρ x=.one (.sc (.int k') q):=by
    obtain⟨l,hl⟩:∃ l,args.toList=l:=⟨_,rfl⟩
    rw[hl]at hargs
    match l,hargs with
    | [s,x],h=>simp only[List.map_cons,List.map_nil,List.cons.injEq,and_true]at h;exact⟨s,x,Array.toList_inj.1 hl,h⟩
    | [],h=>simp at h
    | [_],h=>simp at h
    | _::_::_::_,h=>simp at h
   subst hax
   split at he
   ·rename_i hk _
    subst hk
    exact⟨_,he,nofull _ rfl,fun ρs hs ha=>v3w hop ((ha.1 s (by simp[Op.operands,Call.operands])).trans hs') ((ha.1 x (by simp[Op.operands,Call.operands])).trans hx') hs⟩
   ·cases he
  ·cases he
 ·rename_i g args Ts
  split at he
  ·rename_i f caps hg0
   have hg:q1x (ev ρ g)=some (f,[],q33 caps):=by rw[show ev ρ g=_ from hg0];rfl
   cases hsr:C.srt f with
   | true =>
    rw[hsr,cond_true]at he
    obtain⟨q,hq,hfull,hsem⟩:=v38 (L:=L) (w0:=w0) (hC.srt f hsr) hC.spec hC.glob hop hg0 he
    exact⟨q,hq,nofull q hfull,fun ρs hs ha=>hsem ρs hs (fun x hx=>ha.1 x (by simp only[Op.operands,Call.operands];rcases hx with rfl | hx<;>simp_all)) ha.2.2.1⟩
   | false =>
   rw[hsr,cond_false]at he
   split at he
   ·rename_i hsn
    obtain⟨hcp,he⟩:=q47 he
    have hcp:caps=[]:=by simpa using hcp
    subst hcp
    obtain⟨q,hq,hfull,hsem⟩:=v37 (L:=L) (w0:=w0) (hC.srn f 0 hsn) hop hg0 he
    exact⟨q,hq,nofull q hfull,fun ρs hs ha=>hsem ρs hs (fun x hx=>ha.1 x (by simp only[Op.operands,Call.operands];rcases hx with rfl | hx<;>simp_all)) ha.2.2.1⟩
   ·rename_i k hsn
    obtain⟨q,hq,hfull,hsem⟩:=v39 (L:=L) (w0:=w0) (hC.srn f (k+1) hsn) hC.spec hC.glob hop hg0 he
    exact⟨q,hq,nofull q hfull,fun ρs hs ha=>hsem ρs hs (fun x hx=>ha.1 x (by simp only[Op.operands,Call.operands];rcases hx with rfl | hx<;>simp_all)) ha.2.2.1⟩
   rename_i hsn
   unfold q4a at he
   split at he
   ·rename_i sp hsp
    obtain⟨q,hq,hfull,hsem⟩:=j01 (L:=L) (w0:=w0) (q3m hop hg) (hC.spec f sp (j0o hsp)) hC.glob he
    exact⟨q,hq,nofull q hfull,fun ρs hs ha=>hsem ρs hs (fun x hx=>ha.1 x (by simp only[Op.operands,Call.operands];rcases hx with rfl | hx<;>simp_all)) ha.2.1 ha.2.2.1⟩
   ·obtain⟨hin,he⟩:=B1 he
    cases hpu:C.pur f with
    | true =>
     rw[hpu,cond_true]at he
     obtain⟨q,hq,⟨hlim,hups⟩,⟨H,hH,hlo⟩,hsem⟩:=q5f (M:=_) hC.ic (q3m hop hg) hin he
     exact⟨q,hq,fun H' hH' id hid=>by
      rw[hH]at hH';cases hH'
      refine hlo id ?_
      rcases hid with hid | hid
      ·rw[hid];rfl
      ·rw[hlim,hups]at hid
       have:Nat.blt id (C.nb (2*id'))=true:=Nat.ble_eq_true_of_le hid.1
       rw[this,z9f hid.2,Bool.and_self,Bool.or_true],fun ρs hs ha=>hsem ρs hs (fun x hx=>ha.1 x (by simp only[Op.operands,Call.operands];rcases hx with rfl | hx<;>simp_all)) (ha.2.2.2 (by rw[hH];simp))⟩
    | false =>
     rw[hpu,cond_false]at he
     obtain⟨q,hq,⟨hlim,hups⟩,⟨H,hH,hlo⟩,hsem⟩:=q5f (M:=[]) hC.ic (q3m hop hg) hin he
     exact⟨q,hq,fun H' hH' id hid=>by
      rw[hH]at hH';cases hH'
      rcases hid with hid | hid
      ·exact hlo id hid
      ·rw[hlim]at hid;exact absurd hid.1 (Nat.not_lt_zero _),fun ρs hs ha=>hsem ρs hs (fun x hx=>ha.1 x (by simp only[Op.operands,Call.operands];rcases hx with rfl | hx<;>simp_all)) (ha.2.2.2 (by rw[hH];simp))⟩
  ·rename_i f agg bcs hg0
   have hg:q1x (ev ρ g)=some (f,[q45 agg bcs],[]):=by rw[show ev ρ g=_ from hg0];rfl
   unfold q4a at he
   split at he
   ·rename_i sp hsp
    obtain⟨q,hq,hfull,hsem⟩:=j01 (L:=L) (w0:=w0) (q3m hop hg) (hC.spec f sp (j0o hsp)) hC.glob he
    exact⟨q,hq,nofull q hfull,fun ρs hs ha=>hsem ρs hs (fun x hx=>ha.1 x (by simp only[Op.operands,Call.operands];rcases hx with rfl | hx<;>simp_all)) ha.2.1 ha.2.2.1⟩
   ·obtain⟨hin,he⟩:=B1 he
    cases hpu:C.pur f with
    | true =>
     rw[hpu,cond_true]at he
     obtain⟨q,hq,⟨hlim,hups⟩,⟨H,hH,hlo⟩,hsem⟩:=q5f (M:=_) hC.ic (q3m hop hg) hin he
     exact⟨q,hq,fun H' hH' id hid=>by
      rw[hH]at hH';cases hH'
      refine hlo id ?_
      rcases hid with hid | hid
      ·rw[hid];rfl
      ·rw[hlim,hups]at hid
       have:Nat.blt id (C.nb (2*id'))=true:=Nat.ble_eq_true_of_le hid.1
       rw[this,z9f hid.2,Bool.and_self,Bool.or_true],fun ρs hs ha=>hsem ρs hs (fun x hx=>ha.1 x (by simp only[Op.operands,Call.operands];rcases hx with rfl | hx<;>simp_all)) (ha.2.2.2 (by rw[hH];simp))⟩
    | false =>
     rw[hpu,cond_false]at he
     obtain⟨q,hq,⟨hlim,hups⟩,⟨H,hH,hlo⟩,hsem⟩:=q5f (M:=[]) hC.ic (q3m hop hg) hin he
     exact⟨q,hq,fun H' hH' id hid=>by
      rw[hH]at hH';cases hH'
      rcases hid with hid | hid
      ·exact hlo id hid
      ·rw[hlim]at hid;exact absurd hid.1 (Nat.not_lt_zero _),fun ρs hs ha=>hsem ρs hs (fun x hx=>ha.1 x (by simp only[Op.operands,Call.operands];rcases hx with rfl | hx<;>simp_all)) (ha.2.2.2 (by rw[hH];simp))⟩
  ·rename_i id hg
   obtain⟨q,hq,hlim,⟨H,hH,hlo⟩,hsem⟩:=v4h (L:=L) (w0:=w0) hC.yc hop hg he
   exact⟨q,hq,fun H' hH' id hid=>by
    rw[hH]at hH';cases hH'
    rcases hid with hid | hid
    ·exact hlo id hid
    ·rw[hlim]at hid;exact absurd hid.1 (Nat.not_lt_zero _),fun ρs hs ha=>hsem ρs hs (fun x hx=>ha.1 x (by simp only[Op.operands,Call.operands];rcases hx with rfl | hx<;>simp_all)) (ha.2.2.2 (by rw[hH];simp))⟩
  ·cases he
 ·cases he
end Go.Abs
