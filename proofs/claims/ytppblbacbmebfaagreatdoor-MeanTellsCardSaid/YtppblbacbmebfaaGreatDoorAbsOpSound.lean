/- The engine, part 12: every operation. -/
import Derived.Test.YtppblbacbmebfaaGreatDoorAbsSound10
import Derived.Test.YtppblbacbmebfaaGreatDoorAbsSound14
namespace Go.Abs
open Go Go.RowKit
variable {P:Program} {L:Nat->Prop} {w0:World}
structure ICallOK (P:Program) (L:Nat->Prop) (w0:World) (ic:q9r) (inl:FuncId->Bool):Prop where
 ok:∀ f args h lo ib (R:Type) (K:AV->Heap->Option R) (z:R),inl f=true->ic f args h lo ib R K=some z->∃ av h',K av h'=some z/\(∀ id,lo id=true->h' id=h id) /\
  ∀ κ w (vals:List Value),vals.length=args.length->(∀ (i:Nat) (a:AV) (v:Value),args[i]? = some a->vals[i]? = some v->RepAV L κ h w a v)->HeapOK L w0 κ h w ->
   ∀ m,CallsIn (Fr none) m P f vals.toArray w (EndOK L w0 κ h w h' av)
 fn:∀ f,inl f=true->∃ fn,P.funcs[f]? = some fn/\fn.body.isSome=true/\(fn.name== "runtime.NumGoroutine")=false
def z5e (P:Program) (L:Nat->Prop) (w0:World) (yc:q9v):Prop :=
 ∀ id args h lo (R:Type) (K:AV->Heap->Option R) (z:R),yc id args h lo R K=some z->∃ av h',K av h'=some z/\(∀ id,lo id=true->h' id=h id) /\
  ∀ κ w (vals:List Value) b c,vals.length=args.length->(∀ (i:Nat) (a:AV) (v:Value),args[i]? = some a->vals[i]? = some v->RepAV L κ h w a v)->HeapOK L w0 κ h w->κ id=some (b,c) ->
   ∃ r:Loop,w.heap[b]? = some (.loop r)/\vals.length=r.params.size/\∀ m,RoundIn (Fr none) m P b r.fn ((r.params.zip vals.toArray).foldl (fun tmps (t,a)=>tmps.setIfInBounds t a) r.tmps) r.assign r.body w
    fun e w'=>∃ v κ',e=.returned v/\HeapOK L w0 κ' h' w'/\RepAV L κ' h' w' av v/\Ext L κ h w κ' h' w'
def q0a (P:Program) (T:TypeId) (n:String) (f:FuncId):Prop :=
 ∃ i m d,P.info? T=some i/\i.methods.find? (·.name==n)=some m/\m.path=#[]/\m.func=some (f,false)/\P.underlying T=some d/\∀ e,d≠.pointer e
structure CtxOK (P:Program) (L:Nat->Prop) (w0:World) (C:Ctx):Prop where
 ti:∀ t ti,C.TI t=some ti->ti.OK P t
 spec:∀ f sp,C.spec f=some sp->FunOK' P C.glob f sp
 glob:GlobOK C.glob w0
 ic:ICallOK P L w0 C.icall C.inl
 yc:z5e P L w0 C.ycall
 srt:∀ f,C.srt f=true->Sort1 P f
 srn:∀ f k,C.srn f=some k->q0b P C.glob f k
 ifc:∀ T,C.ifc T=true->∃ ms,P.underlying T=some (.interface ms)
 meth:∀ T n f,C.meth T n=some f->q0a P T n f
def S7 (o:Op) (q:Eff) (ρ:Env) (h:Heap) (ρs:Env) (hs:Heap):Prop :=
 (∀ x∈o.operands,ev ρs x=ev ρ x)/\(∀ id∈q.rd,hs id=h id)/\(∀ p∈q.ups,hs p.1=h p.1)/\(q.full≠none->hs=h)
theorem O2 {R:Type} {h:Heap} {id:Nat} {K:Option R} {z:R} (a:H5 h id K=some z):h id=.fresh/\K=some z:=by
 grind[H5]
theorem A8 {R:Type} {b:Bool} {K:Option R} {z:R} (a:cond b K none=some z):b=true/\K=some z:=by
 grind
theorem z9s {h hs:Heap} {t:Ty} {ρ ρs:Operand->AV}:∀ (a:List (Nat×Operand)) (n:Nat) (l:List t.den) (ids:List Nat),Q6 h t ρ n a=some (l,ids)->(∀ q∈a,ρs q.2=ρ q.2)->(∀ id∈ids,hs id=h id) ->
  Q6 hs t ρs n a=some (l,ids)
 | [],n,l,ids,b,_,_=>b
 | (i,x)::r,n,l,ids,b,c,m=>by
  simp[Q6]at b ⊢
  obtain⟨g,b⟩:=A8 b
  rw[g,cond_true,c (i,x) List.mem_cons_self]
  split at b
  ·rename_i u f
   obtain⟨k,b⟩:=A8 b
   rw[f]
   simp[k,cond_true]
   split at b
   ·rename_i y s d o j
    obtain⟨rfl,rfl⟩:=b
    rw[U1 t u (fun id e=>m id (List.mem_append_left _ e)),o,z9s r (n+1) s d j (fun q p=>c q (List.mem_cons_of_mem _ p)) (fun id e=>m id (List.mem_append_right _ e))]
   ·cases b
  ·cases b
theorem j4x {b:List FI} {ρ ρs:Operand->AV}:∀ (a:List (Nat×Operand)) (cs:List SV),(∀ q∈a,ρs q.2=ρ q.2)->X3 b ρs a cs=X3 b ρ a cs
 | [],_,_=>rfl
 | (i,x)::r,cs,c=>by
  simp[X3,c (i,x) List.mem_cons_self]
  split
  ·rw[j4x r _ (fun q d=>c q (List.mem_cons_of_mem _ d))]
  ·rfl
theorem j3g {ρ ρs:Operand->AV}:∀ (xs:List Operand),(∀ x∈xs,ρs x=ρ x)->q0e ρs xs=q0e ρ xs
 | [],_=>rfl
 | x::r,a=>by
  simp[q0e,a x List.mem_cons_self,j3g r (fun y b=>a y (List.mem_cons_of_mem _ b))]
theorem v3t {R:Type} {o:Oper} {T e:TypeId} {s x:Operand} {M d:TInfo} (r:M.OK P T) (j:M.elem=some e) (u:d.OK P e)
  (N:o.op=.call { callee:=.builtin .append,args:=#[s,x],argTypes:=#[T,T] }) {ρ:Env} {h:Heap} {id':Nat} {K:Eff->Option R} {z:R} (a:z6m e d h id' (ev ρ s) (ev ρ x) K=some z) :
  ∃ q,K q=some z/\q.full=none/\∀ b c,ev b s=ev ρ s->ev b x=ev ρ x->(∀ id∈q.rd,c id=h id)->(∀ p∈q.ups,c p.1=h p.1)->A6 P L w0 o b c (q.heap c) q.av:=by
 unfold z6m at a
 split at a
 ·rename_i J i f
  split at a
  ·rename_i m G
   obtain⟨H,a⟩:=O2 a
   obtain⟨n,a⟩:=A8 a
   simp only[Bool.and_eq_true]at n
   obtain⟨⟨E,A⟩,D⟩:=n
   refine⟨_,a,rfl,fun b c C I w v=>?_⟩
   have g:c id'=.fresh:=(v (id',.arr e d.ty m) (by simp)).trans H
   exact v3w r j u N g (C.trans i) (I.trans f) ((q7u d.ty J w).trans G) E (Nat.le_of_ble_eq_true A) (Nat.eq_of_beq_eq_true D)
  grind
 ·rename_i id J i f
  split at a
  ·rename_i Q t l F
   split at a
   ·rename_i O _
    subst O
    split at a
    ·rename_i m G
     obtain⟨H,a⟩:=O2 a
     obtain⟨n,y⟩:=A8 a
     simp only[Bool.and_eq_true]at n
     obtain⟨⟨⟨B,E⟩,A⟩,D⟩:=n
     have B:=Nat.eq_of_beq_eq_true B
     subst B
     refine⟨_,y,rfl,fun b c C I w v=>?_⟩
     have g:c id'=.fresh:=(v (id',.arr e d.ty (l++m)) (by simp)).trans H
     have k:c id=.arr e d.ty l:=(v (id,.dead) (by simp)).trans F
     exact v3x r j u N g (C.trans i) k (I.trans f) ((q7u d.ty J w).trans G) E (Nat.le_of_ble_eq_true A) (Nat.eq_of_beq_eq_true D)
    grind
   grind
  grind
 grind
theorem v4h {R:Type} {o:Oper} {T G e:TypeId} {s x:Operand} {y d:TInfo} (u:y.OK P T) (k:y.elem=some e) (v:d.OK P e)
  (B:o.op=.call { callee:=.builtin .copy,args:=#[s,x],argTypes:=#[T,G] }) {ρ:Env} {h:Heap} {K:Eff->Option R} {z:R} (c:z6u e d h (ev ρ s) (ev ρ x) K=some z) :
  ∃ q,K q=some z/\q.full=none/\∀ a b,ev a s=ev ρ s->ev a x=ev ρ x->(∀ id∈q.rd,b id=h id)->(∀ p∈q.ups,b p.1=h p.1)->A6 P L w0 o a b (q.heap b) q.av:=by
 unfold z6u at c
 split at c
 ·rename_i id J r i
  split at c
  ·rename_i N t l g
   split at c
   ·rename_i H _
    subst H
    split at c
    ·rename_i m F
     obtain⟨w,n⟩:=A8 c
     simp only[Bool.and_eq_true]at w
     obtain⟨⟨j,D⟩,A⟩:=w
     have j:=Nat.eq_of_beq_eq_true j
     subst j
     refine⟨_,n,rfl,fun a b C I E M=>?_⟩
     have f:b id=.arr e d.ty l:=(M (id,.arr e d.ty (m.take l.length++l.drop m.length)) (by simp)).trans g
     exact v4j u k v B (C.trans r) f (I.trans i) ((q7u d.ty J E).trans F) (Nat.eq_of_beq_eq_true D) (Nat.eq_of_beq_eq_true A)
    grind
   grind
  grind
 grind
theorem v4p {R:Type} {C:Ctx} (d:∀ t k,C.TI t=some k->k.OK P t) {o:Oper} {T:TypeId} {m:Operand} (N:o.op=.call { callee:=.builtin .clear,args:=#[m],argTypes:=#[T] }) {ρ:Env} {h:Heap} {id a len:Nat} (E:ev ρ m=.one (.sub id a len))
  {K:Eff->Option R} {z:R} (b:z6s C T id a len h K=some z) :
  ∃ q,K q=some z/\q.full=none/\∀ c g,ev c m=ev ρ m->(∀ p∈q.ups,g p.1=h p.1)->A6 P L w0 o c g (q.heap g) q.av:=by
 unfold z6s at b
 split at b
 ·rename_i k I
  split at b
  ·rename_i e s
   split at b
   ·rename_i f j
    split at b
    ·rename_i Q t l r
     split at b
     ·rename_i J B _ H
      subst J
      split at b
      ·rename_i S u
       obtain⟨O,w⟩:=H2 u
       subst w
       obtain⟨D,y⟩:=A8 b
       simp only[Bool.and_eq_true]at D
       obtain⟨⟨A,G⟩,M⟩:=D
       have A:=Nat.eq_of_beq_eq_true A
       subst A
       have v:=q9o (d e f j)
       refine⟨_,y,rfl,fun c g F n=>?_⟩
       have i:=(n (id,.arr e f.ty (l.take a++List.replicate len B++l.drop (a+len))) (by simp)).trans r
       have x:D2 g f.ty f.zeros=some (B,[]):=(U1 f.ty f.zeros (fun id E=>by grind)).trans H
       exact v4f (d T k I) s (d e f j) N (F.trans E) i x (Nat.le_of_ble_eq_true G) (Nat.eq_of_beq_eq_true M) v
      grind
     grind
    grind
   grind
  grind
 grind
theorem q63 {R:Type} {C:Ctx} (i:ICallOK P L w0 C.icall C.inl) {o:Oper} {f:FuncId} {n:List AV} {X:Operand->Prop}
  {ρ:Env} (U:q6e P L o f n X ρ) {h:Heap} {lo:Nat->Bool} {ib:Nat} {K:Eff->Option R} {z:R} (l:C.inl f=true)
  {lim:Nat} {M:List Nat} (F:C.icall f n h lo ib R (fun av s=>K { av,rd:=[],ups:=M.map fun id=>(id,s id),full:=some s,lim })=some z) :
  ∃ q,K q=some z/\(q.lim=lim/\q.ups.map (·.1)=M)/\(∃ H,q.full=some H/\∀ id,lo id=true->H id=h id)/\∀ c k,(∀ x,X x->ev c x=ev ρ x)->k=h->A6 P L w0 o c k (q.heap k) q.av:=by
 obtain⟨av,s,hk,u,d⟩:=i.ok f _ h lo ib R _ z l F
 refine⟨_,hk,⟨rfl,by simp[Function.comp_def]⟩,⟨s,rfl,u⟩,fun c k h1 h2=>?_⟩
 subst h2
 intro r S a w j ok m K' Q W Z
 have A:=N7 j
 obtain⟨Y,B,D,E⟩:=i.fn f l
 obtain⟨y,p,G,t⟩:=U.2 Y B D E c k h1 S a w A
 have V:=d S w y G t ok (m-1)
 refine v7k U.1 p V fun e O F=>?_
 rcases F with⟨v,g,b,N,I,a3⟩ | ⟨T,g,J,b,N,I⟩
 ·exact .inl ⟨v,b,W g v O N I a3⟩
 ·exact .inr ⟨_,b,Z T J g O N I⟩
theorem y5o {a:Act} {o:Oper} {g:Operand} {args:Array Operand} {d:Array TypeId} (f:o.op=.call { callee:=.value g,args:=args,argTypes:=d }) {b:Nat} (e:a.eval g=.func (.yield b) #[] #[])
  {w:World} {r:Loop} (h:w.heap[b]? = some (.loop r)) (hs:args.size=r.params.size) :
  (execOp a.eval o).run P w=.ok (.round b r.fn ((r.params.zip (args.map a.eval)).foldl (fun c (t,a)=>c.setIfInBounds t a) r.tmps) r.assign r.body) w:=by
 grind[execOp,resolve,Deferred.ofValue,invoke,run_yield]
theorem v7m {r:Option Nat} {o:Oper} {a:Act} {w:World} {m:Nat} {K:Act->World->Prop} {Q:Exit->Act->World->Prop} {l:Nat} {f:FuncId} {tmps:Array Value} {b d:Code} (j:∀ c,o.op≠.defer c)
  (h:(execOp a.eval o).run P w=.ok (.round l f tmps b d) w) {R:Ending->World->Prop} (i:RoundIn (Fr none) (m-1) P l f tmps b d w R) (k:∀ e g,R e g->∃ v,e=.returned v/\K (a.put o.dst v) g):o.wpIn (Fr r) m P a w K Q:=by
 refine⟨fun _ _=>trivial,?_⟩
 rw[Oper.semAt_eq _ _ _ j,h]
 refine⟨fun h=>by grind[Fr],RoundIn.mono (show RoundIn (Fr r) (m-1) P l f tmps b d w R from i) fun e g n=>?_⟩
 grind
theorem v6f {R:Type} {C:Ctx} (y:z5e P L w0 C.ycall) {o:Oper} {g:Operand} {args:Array Operand} {G:Array TypeId} (V:o.op=.call { callee:=.value g,args:=args,argTypes:=G })
  {ρ:Env} {id:Nat} (N:ev ρ g=.one (.yld id)) {h:Heap} {lo:Nat->Bool} {K:Eff->Option R} {z:R}
  (I:C.ycall id (args.toList.map (ev ρ)) h lo R (fun av u=>K { av,rd:=[],ups:=[],full:=some u })=some z) :
  ∃ q,K q=some z/\q.lim=0/\(∃ H,q.full=some H/\∀ id,lo id=true->H id=h id)/\∀ k t,(∀ x,x=g\/x∈args.toList->ev k x=ev ρ x)->t=h->A6 P L w0 o k t (q.heap t) q.av:=by
 obtain⟨av,u,T,D,j⟩:=y id _ h lo R _ z I
 refine⟨_,T,rfl,⟨u,rfl,D⟩,fun k t O U=>?_⟩
 subst U
 intro r M a w p W m K' Q Z _
 have A:=N7 p
 have f:=A g
 rw[O g (.inl rfl),N]at f
 obtain⟨hnf,b,c,E,f⟩:=f
 obtain⟨rc,hb,J,d⟩:=j M w (args.toList.map a.eval) b c (by simp) (fun i av v hi hv=>by
  grind) W E
 have n:=y5o (P:=P) V f hb (by grind)
 have s:(args.toList.map a.eval).toArray=args.map a.eval:=by
  grind
 have d:=d (m-1)
 rw[s]at d
 refine v7m (fun c hc=>by grind) n d fun e S ⟨v,B,l,Y,F,X⟩=>⟨v,l,Z B v S Y F X⟩
theorem j4i {R:Type} {C:Ctx} (J:CtxOK P L w0 C) {o:Oper} {lo:Nat->Bool} {id':Nat} {ρ:Env} {h:Heap} {K:Eff->Option R} {z:R} (u:z7v C lo id' o.op (ev ρ) h K=some z) :
  ∃ q,K q=some z/\(∀ H,q.full=some H->∀ id,lo id=true\/(id<q.lim/\id∉q.ups.map (·.1))->H id=h id)/\∀ ρs D,S7 o.op q ρ h ρs D->A6 P L w0 o ρs D (q.heap D) q.av:=by
 generalize E:o.op=op at u
 have d:∀ (q:Eff),q.full=none->∀ H,q.full=some H->∀ id,lo id=true\/(id<q.lim/\id∉q.ups.map (·.1))->H id=h id:=fun q Q H hH=>by grind
 unfold z7v at u
 split at u
 ·rename_i x
  refine⟨_,u,d _ rfl,fun ρs D w=>?_⟩
  have h1:=w.1 x (by simp[Op.operands])
  show A6 P L w0 o ρs D D (ev ρ x)
  grind[j8p]
 ·rename_i x
  refine⟨_,u,d _ rfl,fun ρs D w=>?_⟩
  have h1:=w.1 x (by simp[Op.operands])
  show A6 P L w0 o ρs D D (ev ρ x)
  grind[j8p]
 ·rename_i c x y
  split at u
  ·rename_i t X
   cases t with
   | true =>
    refine⟨_,u,d _ rfl,fun ρs D w=>?_⟩
    have h1:=w.1 x (by simp[Op.operands])
    show A6 P L w0 o ρs D D (ev ρ x)
    rw[<-h1];exact j8s (t:=true) E ((w.1 c (by simp[Op.operands])).trans X) D
   | false =>
    refine⟨_,u,d _ rfl,fun ρs D w=>?_⟩
    have h1:=w.1 y (by simp[Op.operands])
    show A6 P L w0 o ρs D D (ev ρ y)
    rw[<-h1];exact j8s (t:=false) E ((w.1 c (by simp[Op.operands])).trans X) D
  grind
 ·rename_i T
  split at u
  ·rename_i O F
   obtain⟨hf,u⟩:=O2 u
   exact⟨_,u,d _ rfl,fun ρs D w=>v3s (J.ti T O F) E ((w.2.2.1 (id',.cells O.zeros) (by simp)).trans hf)⟩
  grind
 ·rename_i T x
  split at u
  ·rename_i O vs F hvs
   obtain⟨hf,u⟩:=O2 u
   obtain⟨hk,u⟩:=A8 u
   exact⟨_,u,d _ rfl,fun ρs D w=>v3y E ((w.2.2.1 (id',.cells vs) (by simp)).trans hf) (by rw[w.1 x (by simp[Op.operands])];omega) hk⟩
  grind
 ·rename_i T parts
  split at u
  ·rename_i O F
   obtain⟨Z,u⟩:=A8 u
   split at u
   ·rename_i cs hcs
    refine⟨_,u,d _ rfl,fun ρs D w=>?_⟩
    have hcs':X3 O.flds (ev ρs) parts.toList O.zeros=some cs:=by
     rw[j4x (ρ:=ev ρ) (ρs:=ev ρs) parts.toList O.zeros (fun q Q=>w.1 q.2 (by grind[Op.operands]))]
     omega
    cases hst:O.str with
    | true=>exact v3z (J.ti T O F) hst E hcs' D
    | false =>
     rw[hst,Bool.false_or]at Z
     obtain⟨⟨n,e⟩,hne⟩:=Option.isSome_iff_exists.1 Z
     exact v42 (J.ti T O F) hne E hcs' D
   grind
  grind
 ·rename_i T len parts
  split at u
  ·rename_i O F
   split at u
   ·rename_i e U
    split at u
    ·rename_i te V
     split at u
     ·rename_i l ids hl
      obtain⟨hf,u⟩:=O2 u
      obtain⟨X,u⟩:=A8 u
      simp only[Bool.and_eq_true]at X
      obtain⟨⟨⟨⟨c1,c2⟩,c3⟩,c4⟩,c5⟩:=X
      refine⟨_,u,d _ rfl,fun ρs D w=>?_⟩
      have hids:∀ id∈ids,D id=h id:=w.2.1
      have hf':D id'=.fresh:=(w.2.2.1 (id',.arr e te.ty l) (by simp)).trans hf
      have hl':=z9s (ρs:=ev ρs) parts.toList 0 l ids hl (fun q Q=>w.1 q.2 (by grind[Op.operands])) hids
      have hni:id'∉ids:=fun hm=>by
       have:=List.all_eq_true.1 c5 id' hm
       simp_all
      show A6 P L w0 o ρs D (A5 (B3 h ids++[(id',.arr e te.ty l)]) D) _
      rw[<-q57 ids hids]
      exact v4b (J.ti T O F) U (J.ti e te V) E hf' hl' (Nat.eq_of_beq_eq_true c1) (Nat.le_of_ble_eq_true c2) (Nat.le_of_ble_eq_true c3) (Nat.eq_of_beq_eq_true c4) hni
     grind
    grind
   grind
  grind
 ·rename_i T x
  split at u
  ·rename_i O F
   obtain⟨q,Q,A,B⟩:=j8n (L:=L) (w0:=w0) (J.ti T O F) E u
   exact⟨q,Q,d q A,fun ρs D w=>B ρs D (w.1 x (by simp[Op.operands])) w.2.1⟩
  grind
 ·rename_i T x v
  split at u
  ·rename_i O F
   unfold j4k at u
   split at u
   ·grind
   ·rename_i vs hvs
    obtain⟨X,u⟩:=A8 u
    rw[Bool.and_eq_true]at X
    obtain⟨hk,hsz⟩:=X
    have hsz:=Nat.eq_of_beq_eq_true hsz
    split at u
    ·rename_i id off N
     split at u
     ·rename_i l I
      obtain⟨hle,u⟩:=A8 u
      refine⟨_,u,d _ rfl,fun ρs D w=>?_⟩
      exact j8t (J.ti T O F) E ((w.1 x (by simp[Op.operands])).trans N) ((w.2.2.1 (id,.cells (C9 l off vs)) (by simp)).trans I) (by rw[w.1 v (by simp[Op.operands])];omega) hk hsz (Nat.le_of_ble_eq_true hle)
     grind
    ·rename_i id t i c N
     split at u
     ·rename_i e t' l I
      split at u
      ·rename_i ht _
       subst ht
       cases hz:l[i]? with
       | none=>grind
       | some y =>
        rw[hz,Option.bind_some]at u
        split at u
        ·rename_i y' hd
         obtain⟨X,u⟩:=A8 u
         rw[Bool.and_eq_true]at X
         refine⟨_,u,d _ rfl,fun ρs D w=>?_⟩
         have hids:∀ id∈F9 vs,D id=h id:=w.2.1
         have hid':D id=.arr e t l:=(w.2.2.1 (id,.arr e t (l.set i y')) (by simp)).trans I
         show A6 P L w0 o ρs D (A5 (B3 h (F9 vs)++[(id,.arr e t (l.set i y'))]) D) (.one .unk)
         rw[<-q57 _ hids]
         refine v6c (J.ti T O F) E ((w.1 x (by simp[Op.operands])).trans N) hid' (by rw[w.1 v (by simp[Op.operands])];omega) hk hsz hz ?_ X.1 (Nat.le_of_ble_eq_true X.2)
         grind[U1,j0n,q8i]
        grind
      grind
     grind
    grind
  grind
 ·rename_i x
  split at u
  ·rename_i id off N
   refine⟨_,u,d _ rfl,fun ρs D w=>?_⟩
   have h1:=(w.1 x (by simp[Op.operands])).trans N
   show A6 P L w0 o ρs D D (.one (.ptr id off))
   grind[j17]
  ·rename_i id t i c N
   refine⟨_,u,d _ rfl,fun ρs D w=>?_⟩
   have h1:=(w.1 x (by simp[Op.operands])).trans N
   show A6 P L w0 o ρs D D (.one (.eptr id t i c))
   grind[j17]
  ·rename_i t y c N
   refine⟨_,u,d _ rfl,fun ρs D w=>?_⟩
   have h1:=(w.1 x (by simp[Op.operands])).trans N
   show A6 P L w0 o ρs D D (.one (.ro t y c))
   grind[j17]
  grind
 ·rename_i op T x y T'
  split at u
  ·rename_i k a k' b N hy
   obtain⟨av,hav,B⟩:=v58 (P:=P) (L:=L) (w0:=w0) E N hy u
   exact⟨_,hav,d _ rfl,fun ρs D w=>B ρs D (w.1 x (by simp[Op.operands])) (w.1 y (by simp[Op.operands]))⟩
  ·rename_i a b N hy
   split at u
   ·rename_i O F
    split at u
    ·rename_i _ hagg hty
     exact⟨_,u,d _ rfl,fun ρs D w=>j8i E (J.ti T O F) hagg hty ((w.1 x (by simp[Op.operands])).trans N) ((w.1 y (by simp[Op.operands])).trans hy) (.inl ⟨rfl,rfl⟩) D⟩
    ·rename_i _ hagg hty
     exact⟨_,u,d _ rfl,fun ρs D w=>j8i E (J.ti T O F) hagg hty ((w.1 x (by simp[Op.operands])).trans N) ((w.1 y (by simp[Op.operands])).trans hy) (.inr ⟨rfl,rfl⟩) D⟩
    grind
   grind
  ·rename_i cs ds N hy
   unfold j4c at u
   split at u
   ·rename_i O F
    split at u
    ·rename_i l hl
     split at u
     ·rename_i b _ hb
      obtain⟨X,u⟩:=A8 u
      rw[Bool.and_eq_true]at X
      exact⟨_,u,d _ rfl,fun ρs D w=>j8k E (J.ti T O F) hl ((w.1 x (by simp[Op.operands])).trans N) ((w.1 y (by simp[Op.operands])).trans hy) hb (Nat.eq_of_beq_eq_true X.1) (Nat.eq_of_beq_eq_true X.2) (.inl ⟨rfl,rfl⟩) D⟩
     ·rename_i b _ hb
      obtain⟨X,u⟩:=A8 u
      rw[Bool.and_eq_true]at X
      exact⟨_,u,d _ rfl,fun ρs D w=>j8k E (J.ti T O F) hl ((w.1 x (by simp[Op.operands])).trans N) ((w.1 y (by simp[Op.operands])).trans hy) hb (Nat.eq_of_beq_eq_true X.1) (Nat.eq_of_beq_eq_true X.2) (.inr ⟨rfl,rfl⟩) D⟩
     grind
    grind
   grind
  ·rename_i t l N hy
   unfold z0o at u
   split at u
   ·rename_i O F
    split at u
    ·rename_i _ e U
     exact⟨_,u,d _ rfl,fun ρs D w=>z4p E (J.ti T O F) U ((w.1 x (by simp[Op.operands])).trans N) (.inl ⟨t,l,rfl,rfl⟩) ((w.1 y (by simp[Op.operands])).trans hy) (.inl ⟨rfl,rfl⟩) D⟩
    ·rename_i _ e U
     exact⟨_,u,d _ rfl,fun ρs D w=>z4p E (J.ti T O F) U ((w.1 x (by simp[Op.operands])).trans N) (.inl ⟨t,l,rfl,rfl⟩) ((w.1 y (by simp[Op.operands])).trans hy) (.inr ⟨rfl,rfl⟩) D⟩
    grind
   grind
  ·rename_i N hy
   unfold z0o at u
   split at u
   ·rename_i O F
    split at u
    ·rename_i _ e U
     exact⟨_,u,d _ rfl,fun ρs D w=>z4p E (J.ti T O F) U ((w.1 x (by simp[Op.operands])).trans N) (.inr ⟨rfl,rfl⟩) ((w.1 y (by simp[Op.operands])).trans hy) (.inl ⟨rfl,rfl⟩) D⟩
    ·rename_i _ e U
     exact⟨_,u,d _ rfl,fun ρs D w=>z4p E (J.ti T O F) U ((w.1 x (by simp[Op.operands])).trans N) (.inr ⟨rfl,rfl⟩) ((w.1 y (by simp[Op.operands])).trans hy) (.inr ⟨rfl,rfl⟩) D⟩
    grind
   grind
  grind
 ·rename_i op T x
  obtain⟨av,hav,B⟩:=v6e (P:=P) (L:=L) (w0:=w0) E u
  exact⟨_,hav,d _ rfl,fun ρs D w=>B ρs D (w.1 x (by simp[Op.operands]))⟩
 ·rename_i S T x
  split at u
  ·rename_i tsi O k' n hts F N
   split at u
   ·rename_i k hagg hty
    exact⟨_,u,d _ rfl,fun ρs D w=>v4g (J.ti T O F) (J.ti S tsi hts) E hagg hty ((w.1 x (by simp[Op.operands])).trans N) D⟩
   grind
  grind
 ·rename_i f first caps
  split at u
  ·rename_i l hfirst hcaps
   refine⟨_,u,d _ rfl,fun ρs D w=>?_⟩
   have hf0:first=#[]:=Array.toList_inj.1 hfirst
   subst hf0
   refine v5n E ?_ D
   rw[j3g (ρ:=ev ρ) caps.toList (fun x N=>w.1 x (by grind[Op.operands]))]
   omega
  ·rename_i x hfirst hcaps
   split at u
   ·rename_i agg bcs hpl
    refine⟨_,u,d _ rfl,fun ρs D w=>?_⟩
    have hf0:first=#[x]:=Array.toList_inj.1 hfirst
    subst hf0
    have hc0:caps=#[]:=by
     apply Array.toList_inj.1
     cases hcl:caps.toList with
     | nil=>rfl
     | cons y r =>
      grind[q0e]
    subst hc0
    refine v5k E ?_ D
    rw[w.1 x (by simp[Op.operands])]
    omega
   grind
  grind
 ·rename_i T x y
  split at u
  ·rename_i O F
   split at u
   ·rename_i e U
    split at u
    ·rename_i te n c V N hy
     unfold j4g at u
     split at u
     ·rename_i z0 hz
      obtain⟨hf,u⟩:=O2 u
      obtain⟨X,u⟩:=A8 u
      simp only[Bool.and_eq_true,decide_eq_true_eq]at X
      obtain⟨⟨⟨⟨⟨c1,c2⟩,c3⟩,c4⟩,c5⟩,c6⟩:=X
      have hzo:=q9o (J.ti e te V)
      refine⟨_,u,d _ rfl,fun ρs D w=>?_⟩
      have hz':D2 D te.ty te.zeros=some (z0,[]):=(U1 te.ty te.zeros (fun id hm=>by grind)).trans hz
      exact v5j (J.ti T O F) U (J.ti e te V) E ((w.2.2.1 (id',.arr e te.ty (List.replicate n.toNat z0)) (by simp)).trans hf) ((w.1 x (by simp[Op.operands])).trans N) ((w.1 y (by simp[Op.operands])).trans hy) hz' c1 c2 c3 c4
       (Nat.le_of_ble_eq_true c5) (Nat.eq_of_beq_eq_true c6) hzo
     grind
    grind
   grind
  grind
 ·rename_i T r
  obtain⟨q,Q,A,B⟩:=v5o (P:=P) (L:=L) (w0:=w0) J.ti E u
  exact⟨q,Q,d q A,fun ρs D w=>B ρs D w.2.2.1⟩
 ·rename_i T x i ok2
  obtain⟨q,Q,A,B⟩:=v5g (P:=P) (L:=L) (w0:=w0) J.ti E u
  exact⟨q,Q,d q A,fun ρs D w=>B ρs D (w.1 x (by simp[Op.operands])) (w.1 i (by simp[Op.operands])) w.2.1⟩
 ·rename_i T m k v
  obtain⟨q,Q,A,B⟩:=j8o (P:=P) (L:=L) (w0:=w0) J.ti (.inl E) u
  exact⟨q,Q,d q A,fun ρs D w=>B ρs D (w.1 m (by simp[Op.operands])) (w.1 k (by simp[Op.operands])) (w.1 v (by simp[Op.operands])) w.2.1⟩
 ·rename_i T m k v
  obtain⟨q,Q,A,B⟩:=j8o (P:=P) (L:=L) (w0:=w0) J.ti (.inr E) u
  exact⟨q,Q,d q A,fun ρs D w=>B ρs D (w.1 m (by simp[Op.operands])) (w.1 k (by simp[Op.operands])) (w.1 v (by simp[Op.operands])) w.2.1⟩
 ·rename_i T m k
  obtain⟨q,Q,A,B⟩:=v4n (P:=P) (L:=L) (w0:=w0) J.ti E u
  exact⟨q,Q,d q A,fun ρs D w=>B ρs D (w.1 m (by simp[Op.operands])) (w.1 k (by simp[Op.operands])) w.2.1 w.2.2.1⟩
 ·rename_i T m s v
  obtain⟨q,Q,A,B⟩:=v4o (P:=P) (L:=L) (w0:=w0) E u
  exact⟨q,Q,d q A,fun ρs D w=>B ρs D (w.1 m (by simp[Op.operands])) (w.1 s (by simp[Op.operands])) (w.1 v (by simp[Op.operands])) w.2.1⟩
 ·rename_i T x
  obtain⟨q,Q,A,B⟩:=v5v (P:=P) (L:=L) (w0:=w0) J.ti E u
  exact⟨q,Q,d q A,fun ρs D w=>B ρs D (w.1 x (by simp[Op.operands])) w.2.2.1⟩
 ·rename_i x
  obtain⟨q,Q,A,B⟩:=v5t (P:=P) (L:=L) (w0:=w0) E u
  exact⟨q,Q,d q A,fun ρs D w=>B ρs D (w.1 x (by simp[Op.operands])) w.2.1⟩
 ·rename_i x
  obtain⟨q,Q,A,B⟩:=v59 (P:=P) (L:=L) (w0:=w0) E u
  exact⟨q,Q,d q A,fun ρs D w=>B ρs D (w.1 x (by simp[Op.operands])) w.2.1⟩
 ·rename_i T x a b
  split at u
  ·rename_i O F
   split at u
   ·rename_i n e hpa
    split at u
    ·rename_i id off te N V
     exact⟨_,u,d _ rfl,fun ρs D w=>v5z (J.ti T O F) hpa (J.ti e te V) E ((w.1 x (by simp[Op.operands])).trans N) D⟩
    grind
   ·split at u
    ·rename_i e U
     split at u
     ·rename_i te V
      obtain⟨q,Q,A,B⟩:=v5w (P:=P) (L:=L) (w0:=w0) (J.ti T O F) U (J.ti e te V) E u
      exact⟨q,Q,d q A,fun ρs D w=>B ρs D (w.1 x (by simp[Op.operands])) (fun y hy=>w.1 y (by grind[Op.operands])) w.2.1⟩
     grind
    grind
  grind
 ·rename_i T x f
  split at u
  ·rename_i O F
   obtain⟨Z,u⟩:=A8 u
   split at u
   ·rename_i fi hfi
    obtain⟨hpos,u⟩:=A8 u
    have hpos:=Nat.le_of_ble_eq_true hpos
    split at u
    ·rename_i id off N
     exact⟨_,u,d _ rfl,fun ρs D w=>j16 (J.ti T O F) Z E hfi hpos (.inl ⟨id,off,(w.1 x (by simp[Op.operands])).trans N,rfl⟩) D⟩
    ·rename_i id t i c N
     exact⟨_,u,d _ rfl,fun ρs D w=>j16 (J.ti T O F) Z E hfi hpos (.inr (.inl ⟨id,t,i,c,(w.1 x (by simp[Op.operands])).trans N,rfl⟩)) D⟩
    ·rename_i t y c N
     exact⟨_,u,d _ rfl,fun ρs D w=>j16 (J.ti T O F) Z E hfi hpos (.inr (.inr ⟨t,y,c,(w.1 x (by simp[Op.operands])).trans N,rfl⟩)) D⟩
    grind
   grind
  grind
 ·rename_i T x f
  split at u
  ·rename_i O F
   obtain⟨Z,u⟩:=A8 u
   split at u
   ·rename_i fi cs hfi N
    obtain⟨hle,u⟩:=A8 u
    have hle:=Nat.le_of_ble_eq_true hle
    split at u
    ·rename_i hag
     exact⟨_,u,d _ rfl,fun ρs D w=>j8m (J.ti T O F) Z E hfi ((w.1 x (by simp[Op.operands])).trans N) hle (.inl ⟨hag,rfl⟩) D⟩
    ·rename_i hag
     split at u
     ·rename_i s hs'
      exact⟨_,u,d _ rfl,fun ρs D w=>j8m (J.ti T O F) Z E hfi ((w.1 x (by simp[Op.operands])).trans N) hle (.inr ⟨hag,s,hs',rfl⟩) D⟩
     grind
   grind
  grind
 ·rename_i T x i
  split at u
  ·rename_i b N
   unfold j4m at u
   split at u
   ·rename_i O F
    split at u
    ·rename_i kk k hst hi
     obtain⟨y,hy,u⟩:=Option.bind_eq_some_iff.1 u
     rw[z8x]at hy
     exact⟨_,u,d _ rfl,fun ρs D w=>v6d (J.ti T O F) hst E ((w.1 x (by simp[Op.operands])).trans N) ((w.1 i (by simp[Op.operands])).trans hi) hy D⟩
    grind
   grind
  split at u
  ·rename_i O F
   split at u
   ·rename_i n e harr
    split at u
    ·rename_i te cs kk k V N hi
     split at u
     ·rename_i hagg
      split at u
      ·rename_i l hl
       obtain⟨X,he2⟩:=A8 u
       obtain⟨y,hy,he3⟩:=Option.bind_eq_some_iff.1 he2
       exact⟨_,he3,d _ rfl,fun ρs D w=>v4x (J.ti T O F) harr (J.ti e te V) hagg (Nat.eq_of_beq_eq_true X) E ((w.1 x (by simp[Op.operands])).trans N) ((w.1 i (by simp[Op.operands])).trans hi) hl hy D⟩
      grind
     ·rename_i hagg
      split at u
      ·rename_i l hl
       obtain⟨X,he2⟩:=A8 u
       simp only[Bool.and_eq_true]at X
       obtain⟨⟨c1,c2⟩,c3⟩:=X
       obtain⟨y,hy,he3⟩:=Option.bind_eq_some_iff.1 he2
       exact⟨_,he3,d _ rfl,fun ρs D w=>v4y (J.ti T O F) harr (J.ti e te V) hagg (Nat.eq_of_beq_eq_true c1) E ((w.1 x (by simp[Op.operands])).trans N) ((w.1 i (by simp[Op.operands])).trans hi) hl (Nat.eq_of_beq_eq_true c3) hy D⟩
      grind
    grind
   grind
  grind
 ·rename_i T x i
  split at u
  ·rename_i g N
   unfold j4e at u
   split at u
   ·rename_i O F
    split at u
    ·rename_i n e k m l harr hg
     split at u
     ·rename_i te kk j V hi
      obtain⟨X,u⟩:=A8 u
      simp only[Bool.and_eq_true]at X
      obtain⟨⟨c1,c2⟩,c3⟩:=X
      obtain⟨y,hy,u⟩:=Option.bind_eq_some_iff.1 u
      rw[z8x]at hy
      have hm0:m≠0:=by have h1:=Nat.eq_of_beq_eq_true c2;have h2:=Nat.le_of_ble_eq_true c3;omega
      exact⟨_,u,d _ rfl,fun ρs D w=>v4u (J.ti T O F) harr (J.ti e te V) (Nat.eq_of_beq_eq_true c1) (Nat.le_of_ble_eq_true c3) E ((w.1 x (by simp[Op.operands])).trans N) ((w.1 i (by simp[Op.operands])).trans hi) (((J.glob g k m l hg).1 hm0).1.trans (Nat.eq_of_beq_eq_true c2)) hy ((J.glob g k m l hg).1 hm0).2 D⟩
     grind
    grind
   grind
  ·rename_i id off N
   unfold j4b at u
   split at u
   ·rename_i O F
    split at u
    ·rename_i n e harr
     split at u
     ·rename_i te kk j V hi
      obtain⟨X,u⟩:=A8 u
      rw[Bool.and_eq_true]at X
      exact⟨_,u,d _ rfl,fun ρs D w=>v4d (J.ti T O F) harr (J.ti e te V) (Nat.eq_of_beq_eq_true X.1) E ((w.1 x (by simp[Op.operands])).trans N) ((w.1 i (by simp[Op.operands])).trans hi) X.2 D⟩
     grind
    grind
   grind
  split at u
  ·rename_i O F
   split at u
   ·rename_i e U
    split at u
    ·rename_i te V
     obtain⟨q,Q,A,B⟩:=v4w (P:=P) (L:=L) (w0:=w0) (J.ti T O F) U (J.ti e te V) E u
     exact⟨q,Q,d q A,fun ρs D w=>B ρs D (w.1 x (by simp[Op.operands])) (w.1 i (by simp[Op.operands])) w.2.1⟩
    grind
   grind
  grind
 ·rename_i t i
  split at u
  ·rename_i l hl
   split at u
   ·rename_i cs X
    exact⟨_,u,d _ rfl,fun ρs D w=>j8l E ((w.1 t (by simp[Op.operands])).trans hl) X (.inl ⟨cs,rfl,rfl⟩) D⟩
   ·rename_i s X
    exact⟨_,u,d _ rfl,fun ρs D w=>j8l E ((w.1 t (by simp[Op.operands])).trans hl) X (.inr ⟨s,rfl,rfl⟩) D⟩
   grind
  grind
 ·rename_i b args Ts
  unfold j4a at u
  split at u
  ·rename_i m' G
   obtain⟨x,hax,Y⟩:∃ x,args=#[x]/\ev ρ x=m':=by
    obtain⟨l,hl⟩:∃ l,args.toList=l:=⟨_,rfl⟩
    rw[hl]at G
    match l,G with
    | [x],h=>grind
   subst hax
   subst Y
   split at u
   ·rename_i T W
    have W:Ts=#[T]:=Array.toList_inj.1 W
    subst W
    split at u
    ·rename_i id off len N
     obtain⟨q,Q,A,B⟩:=v4p (P:=P) (L:=L) (w0:=w0) J.ti E N u
     exact⟨q,Q,d q A,fun ρs D w=>B ρs D (w.1 x (by simp[Op.operands,Call.operands])) w.2.2.1⟩
    ·obtain⟨q,Q,A,B⟩:=v4e (P:=P) (L:=L) (w0:=w0) J.ti E u
     exact⟨q,Q,d q A,fun ρs D w=>B ρs D (w.1 x (by simp[Op.operands,Call.operands])) w.2.2.1⟩
   grind
  ·rename_i s' x' G
   obtain⟨s,x,hax,hs',Y⟩:∃ s x,args=#[s,x]/\ev ρ s=s'/\ev ρ x=x':=by
    obtain⟨l,hl⟩:∃ l,args.toList=l:=⟨_,rfl⟩
    rw[hl]at G
    match l,G with
    | [s,x],h=>grind
   subst hax
   subst hs'
   subst Y
   split at u
   ·rename_i T T' W
    have W:Ts=#[T,T']:=Array.toList_inj.1 W
    subst W
    obtain⟨q,Q,A,B⟩:=v4m (P:=P) (L:=L) (w0:=w0) J.ti E u
    exact⟨q,Q,d q A,fun ρs D w=>B ρs D (w.1 s (by simp[Op.operands,Call.operands])) (w.1 x (by simp[Op.operands,Call.operands])) w.2.1⟩
   grind
  ·rename_i x' G
   obtain⟨x,hax,Y⟩:∃ x,args=#[x]/\ev ρ x=x':=by
    obtain⟨l,hl⟩:∃ l,args.toList=l:=⟨_,rfl⟩
    rw[hl]at G
    match l,G with
    | [x],h=>grind
   subst hax
   split at u
   ·rename_i T W
    have W:Ts=#[T]:=Array.toList_inj.1 W
    subst W
    split at u
    ·rename_i O F
     split at u
     ·rename_i U
      rw[<-Y]at u
      obtain⟨q,Q,A,B⟩:=v5q (P:=P) (L:=L) (w0:=w0) J.ti E u
      exact⟨q,Q,d q A,fun ρs D w=>B ρs D (w.1 x (by simp[Op.operands,Call.operands])) w.2.1⟩
     ·rename_i e U
      have hxo:∀ ρs:Env,(∀ y∈(Op.call { callee:=Callee.builtin Builtin.len,args:=#[x],argTypes:=#[T] }).operands,ev ρs y=ev ρ y)->ev ρs x=ev ρ x:=fun ρs h=>h x (by simp[Op.operands,Call.operands])
      split at u
      ·exact⟨_,u,d _ rfl,fun ρs D w=>q64 (n:=0) (J.ti T O F) U E ((hxo ρs w.1).trans Y) (.inl ⟨rfl,rfl⟩)⟩
      ·rename_i id
       split at u
       ·rename_i e' t l I
        exact⟨_,u,d _ rfl,fun ρs D w=>q64 (J.ti T O F) U E ((hxo ρs w.1).trans Y) (.inr (.inl ⟨id,rfl,e',t,l,.inl ((w.2.1 id (by simp[E9])).trans I),rfl⟩))⟩
       ·rename_i e' t l I
        exact⟨_,u,d _ rfl,fun ρs D w=>q64 (J.ti T O F) U E ((hxo ρs w.1).trans Y) (.inr (.inl ⟨id,rfl,e',t,l,.inr ((w.2.1 id (by simp[E9])).trans I),rfl⟩))⟩
       grind
      ·rename_i id off len
       split at u
       ·rename_i e' t l I
        exact⟨_,u,d _ rfl,fun ρs D w=>q64 (J.ti T O F) U E ((hxo ρs w.1).trans Y) (.inr (.inr (.inl ⟨id,off,rfl,e',t,l,.inl ((w.2.1 id (by simp[E9])).trans I)⟩)))⟩
       ·rename_i e' t l I
        exact⟨_,u,d _ rfl,fun ρs D w=>q64 (J.ti T O F) U E ((hxo ρs w.1).trans Y) (.inr (.inr (.inl ⟨id,off,rfl,e',t,l,.inr ((w.2.1 id (by simp[E9])).trans I)⟩)))⟩
       grind
      ·rename_i t l
       exact⟨_,u,d _ rfl,fun ρs D w=>q64 (J.ti T O F) U E ((hxo ρs w.1).trans Y) (.inr (.inr (.inr ⟨t,l,rfl,rfl⟩)))⟩
      grind
    grind
   grind
  ·rename_i s' x' G
   obtain⟨s,x,hax,hs',Y⟩:∃ s x,args=#[s,x]/\ev ρ s=s'/\ev ρ x=x':=by
    obtain⟨l,hl⟩:∃ l,args.toList=l:=⟨_,rfl⟩
    rw[hl]at G
    match l,G with
    | [s,x],h=>grind
   subst hax
   subst hs'
   subst Y
   split at u
   ·rename_i T T' W
    have W:Ts=#[T,T']:=Array.toList_inj.1 W
    subst W
    split at u
    ·rename_i O F
     split at u
     ·rename_i e U
      split at u
      ·rename_i te V
       obtain⟨hTT,he2⟩:=A8 u
       have hTT:=Nat.eq_of_beq_eq_true hTT
       subst hTT
       obtain⟨q,Q,A,B⟩:=v3t (P:=P) (L:=L) (w0:=w0) (J.ti T O F) U (J.ti e te V) E he2
       exact⟨q,Q,d q A,fun ρs D w=>B ρs D (w.1 s (by simp[Op.operands,Call.operands])) (w.1 x (by simp[Op.operands,Call.operands])) w.2.1 w.2.2.1⟩
      grind
     grind
    grind
   grind
  ·rename_i s' x' G
   obtain⟨s,x,hax,hs',Y⟩:∃ s x,args=#[s,x]/\ev ρ s=s'/\ev ρ x=x':=by
    obtain⟨l,hl⟩:∃ l,args.toList=l:=⟨_,rfl⟩
    rw[hl]at G
    match l,G with
    | [s,x],h=>grind
   subst hax
   subst hs'
   subst Y
   split at u
   ·rename_i T T' W
    have W:Ts=#[T,T']:=Array.toList_inj.1 W
    subst W
    split at u
    ·rename_i O F
     split at u
     ·rename_i e U
      split at u
      ·rename_i te V
       split at u
       ·rename_i id off len cap hcsl
        obtain⟨q,Q,A,B⟩:=v4i (P:=P) (L:=L) (w0:=w0) (J.ti T O F) U (J.ti e te V) E hcsl u
        exact⟨q,Q,d q A,fun ρs D w=>B ρs D (w.1 s (by simp[Op.operands,Call.operands])) (w.1 x (by simp[Op.operands,Call.operands])) w.2.1 w.2.2.1⟩
       ·obtain⟨q,Q,A,B⟩:=v4h (P:=P) (L:=L) (w0:=w0) (J.ti T O F) U (J.ti e te V) E u
        exact⟨q,Q,d q A,fun ρs D w=>B ρs D (w.1 s (by simp[Op.operands,Call.operands])) (w.1 x (by simp[Op.operands,Call.operands])) w.2.1 w.2.2.1⟩
      grind
     grind
    grind
   grind
  ·rename_i k p k' q G
   obtain⟨s,x,hax,hs',Y⟩:∃ s x,args=#[s,x]/\ev ρ s=.one (.sc (.int k) p)/\ev ρ x=.one (.sc (.int k') q):=by
    obtain⟨l,hl⟩:∃ l,args.toList=l:=⟨_,rfl⟩
    rw[hl]at G
    match l,G with
    | [s,x],h=>grind
    | [],h=>grind
    | [_],h=>grind
    | _::_::_::_,h=>grind
   subst hax
   split at u
   ·rename_i hk _
    subst hk
    exact⟨_,u,d _ rfl,fun ρs D w=>v5s E ((w.1 s (by simp[Op.operands,Call.operands])).trans hs') ((w.1 x (by simp[Op.operands,Call.operands])).trans Y) D⟩
   grind
  ·rename_i k p k' q G
   obtain⟨s,x,hax,hs',Y⟩:∃ s x,args=#[s,x]/\ev ρ s=.one (.sc (.int k) p)/\ev ρ x=.one (.sc (.int k') q):=by
    obtain⟨l,hl⟩:∃ l,args.toList=l:=⟨_,rfl⟩
    rw[hl]at G
    match l,G with
    | [s,x],h=>grind
    | [],h=>grind
    | [_],h=>grind
    | _::_::_::_,h=>grind
   subst hax
   split at u
   ·rename_i hk _
    subst hk
    exact⟨_,u,d _ rfl,fun ρs D w=>v5r E ((w.1 s (by simp[Op.operands,Call.operands])).trans hs') ((w.1 x (by simp[Op.operands,Call.operands])).trans Y) D⟩
   grind
  grind
 ·rename_i g args Ts
  split at u
  ·rename_i f caps hg0
   have hg:q2c (ev ρ g)=some (f,[],q3g caps):=by rw[show ev ρ g=_ from hg0];rfl
   cases hsr:C.srt f with
   | true =>
    rw[hsr,cond_true]at u
    obtain⟨q,Q,A,B⟩:=v4s (L:=L) (w0:=w0) (J.srt f hsr) J.spec J.glob E hg0 u
    exact⟨q,Q,d q A,fun ρs D w=>B ρs D (fun x N=>w.1 x (by grind[Op.operands,Call.operands])) w.2.2.1⟩
   | false =>
   rw[hsr,cond_false]at u
   split at u
   ·rename_i hsn
    obtain⟨hcp,u⟩:=q3i u
    have hcp:caps=[]:=by grind
    subst hcp
    obtain⟨q,Q,A,B⟩:=v4q (L:=L) (w0:=w0) (J.srn f 0 hsn) E hg0 u
    exact⟨q,Q,d q A,fun ρs D w=>B ρs D (fun x N=>w.1 x (by grind[Op.operands,Call.operands])) w.2.2.1⟩
   ·rename_i k hsn
    have hkk:cond (Nat.ble 1048575 k) (CodeF P C.glob f (k-1048575)) (SortN P f (k+1)):=J.srn f (k+1) hsn
    cases hbig:Nat.ble 1048575 k with
    | true =>
     rw[hbig,cond_true]at u hkk
     obtain⟨hcp,u⟩:=q3i u
     have hcp:caps=[]:=by grind
     subst hcp
     obtain⟨q,Q,A,B⟩:=v4r (L:=L) (w0:=w0) hkk J.glob E hg0 u
     exact⟨q,Q,d q A,fun ρs D w=>B ρs D (fun x N=>w.1 x (by grind[Op.operands,Call.operands]))⟩
    | false =>
    rw[hbig,cond_false]at u hkk
    obtain⟨q,Q,A,B⟩:=v4t (L:=L) (w0:=w0) hkk J.spec J.glob E hg0 u
    exact⟨q,Q,d q A,fun ρs D w=>B ρs D (fun x N=>w.1 x (by grind[Op.operands,Call.operands])) w.2.2.1⟩
   rename_i hsn
   unfold q4s at u
   split at u
   ·rename_i sp hsp
    obtain⟨q,Q,A,B⟩:=j18 (L:=L) (w0:=w0) (q42 E hg) (J.spec f sp (j1g hsp)) J.glob u
    exact⟨q,Q,d q A,fun ρs D w=>B ρs D (fun x N=>w.1 x (by grind[Op.operands,Call.operands])) w.2.1 w.2.2.1⟩
   ·obtain⟨hin,u⟩:=A8 u
    cases hpu:C.pur f with
    | true =>
     rw[hpu,cond_true]at u
     obtain⟨q,Q,⟨hlim,hups⟩,⟨H,hH,hlo⟩,B⟩:=q63 (M:=_) J.ic (q42 E hg) hin u
     exact⟨q,Q,fun H' hH' id I=>by
      grind[Nat.blt,Nat.ble_eq_true_of_le,j0a],fun ρs D w=>B ρs D (fun x N=>w.1 x (by simp[Op.operands,Call.operands];rcases N with rfl | N<;>simp_all)) (w.2.2.2 (by rw[hH];simp))⟩
    | false =>
     rw[hpu,cond_false]at u
     obtain⟨q,Q,⟨hlim,hups⟩,⟨H,hH,hlo⟩,B⟩:=q63 (M:=[]) J.ic (q42 E hg) hin u
     exact⟨q,Q,fun H' hH' id I=>by
      rw[hH]at hH';cases hH'
      rcases I with I | I
      ·exact hlo id I
      ·rw[hlim]at I;exact absurd I.1 (Nat.not_lt_zero _),fun ρs D w=>B ρs D (fun x N=>w.1 x (by simp[Op.operands,Call.operands];rcases N with rfl | N<;>simp_all)) (w.2.2.2 (by rw[hH];simp))⟩
  ·rename_i f agg bcs hg0
   have hg:q2c (ev ρ g)=some (f,[q4h agg bcs],[]):=by rw[show ev ρ g=_ from hg0];rfl
   unfold q4s at u
   split at u
   ·rename_i sp hsp
    obtain⟨q,Q,A,B⟩:=j18 (L:=L) (w0:=w0) (q42 E hg) (J.spec f sp (j1g hsp)) J.glob u
    exact⟨q,Q,d q A,fun ρs D w=>B ρs D (fun x N=>w.1 x (by simp[Op.operands,Call.operands];rcases N with rfl | N<;>simp_all)) w.2.1 w.2.2.1⟩
   ·obtain⟨hin,u⟩:=A8 u
    cases hpu:C.pur f with
    | true =>
     rw[hpu,cond_true]at u
     obtain⟨q,Q,⟨hlim,hups⟩,⟨H,hH,hlo⟩,B⟩:=q63 (M:=_) J.ic (q42 E hg) hin u
     exact⟨q,Q,fun H' hH' id I=>by
      rw[hH]at hH';cases hH'
      refine hlo id ?_
      rcases I with I | I
      ·rw[I];rfl
      ·rw[hlim,hups]at I
       have:Nat.blt id (C.nb (2*id'))=true:=Nat.ble_eq_true_of_le I.1
       rw[this,j0a I.2,Bool.and_self,Bool.or_true],fun ρs D w=>B ρs D (fun x N=>w.1 x (by simp[Op.operands,Call.operands];rcases N with rfl | N<;>simp_all)) (w.2.2.2 (by rw[hH];simp))⟩
    | false =>
     rw[hpu,cond_false]at u
     obtain⟨q,Q,⟨hlim,hups⟩,⟨H,hH,hlo⟩,B⟩:=q63 (M:=[]) J.ic (q42 E hg) hin u
     exact⟨q,Q,fun H' hH' id I=>by
      rw[hH]at hH';cases hH'
      rcases I with I | I
      ·exact hlo id I
      ·rw[hlim]at I;exact absurd I.1 (Nat.not_lt_zero _),fun ρs D w=>B ρs D (fun x N=>w.1 x (by simp[Op.operands,Call.operands];rcases N with rfl | N<;>simp_all)) (w.2.2.2 (by rw[hH];simp))⟩
  ·rename_i id hg
   obtain⟨q,Q,hlim,⟨H,hH,hlo⟩,B⟩:=v6f (L:=L) (w0:=w0) J.yc E hg u
   exact⟨q,Q,fun H' hH' id I=>by
    rw[hH]at hH';cases hH'
    rcases I with I | I
    ·exact hlo id I
    ·rw[hlim]at I;exact absurd I.1 (Nat.not_lt_zero _),fun ρs D w=>B ρs D (fun x N=>w.1 x (by simp[Op.operands,Call.operands];rcases N with rfl | N<;>simp_all)) (w.2.2.2 (by rw[hH];simp))⟩
  grind
 grind
end Go.Abs
