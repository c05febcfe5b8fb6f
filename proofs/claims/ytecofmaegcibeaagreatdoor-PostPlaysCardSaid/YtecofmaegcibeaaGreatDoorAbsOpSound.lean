/- The engine, part 12: every operation. -/
import Derived.Test.YtecofmaegcibeaaGreatDoorAbsSound10
import Derived.Test.YtecofmaegcibeaaGreatDoorAbsSound14
namespace Go.Abs
open Go Go.RowKit
variable {P:Program} {L:Nat->Prop} {w0:World}
structure ICallOK (P:Program) (L:Nat->Prop) (w0:World) (ic:z2s) (inl:FuncId->Bool):Prop where
 ok:∀f args h lo ib (R:Type) (K:AV->Heap->Option R) (z:R),inl f=true->ic f args h lo ib R K=some z->∃av h',K av h'=some z/\(∀id,lo id=true->h' id=h id) /\
  ∀κ w (vals:List Value),vals.length=args.length->(∀(i:Nat) (a:AV) (v:Value),args[i]? = some a->vals[i]? = some v->RepAV L κ h w a v)->HeapOK L w0 κ h w ->
   ∀m,CallsIn (Fr none) m P f vals.toArray w (EndOK L w0 κ h w h' av)
 fn:∀f,inl f=true->∃fn,P.funcs[f]? = some fn/\fn.body.isSome=true/\(fn.name== "runtime.NumGoroutine")=false
def z9r (P:Program) (L:Nat->Prop) (w0:World) (yc:z2x):Prop :=
 ∀id args h lo (R:Type) (K:AV->Heap->Option R) (z:R),yc id args h lo R K=some z->∃av h',K av h'=some z/\(∀id,lo id=true->h' id=h id) /\
  ∀κ w (vals:List Value) b c,vals.length=args.length->(∀(i:Nat) (a:AV) (v:Value),args[i]? = some a->vals[i]? = some v->RepAV L κ h w a v)->HeapOK L w0 κ h w->κ id=some (b,c) ->
   ∃r:Loop,w.heap[b]? = some (.loop r)/\vals.length=r.params.size/\∀m,RoundIn (Fr none) m P b r.fn ((r.params.zip vals.toArray).foldl (λtmps (t,a)=>tmps.setIfInBounds t a) r.tmps) r.assign r.body w
    λe w'=>∃v κ',e=.returned v/\HeapOK L w0 κ' h' w'/\RepAV L κ' h' w' av v/\Ext L κ h w κ' h' w'
def z2t (P:Program) (T:TypeId) (n:String) (f:FuncId):Prop :=
 ∃i m d,P.info? T=some i/\i.methods.find? (·.name==n)=some m/\m.path=#[]/\m.func=some (f,false)/\P.underlying T=some d/\∀e,d≠.pointer e
structure CtxOK (P:Program) (L:Nat->Prop) (w0:World) (C:Ctx):Prop where
 ti:∀t ti,C.TI t=some ti->ti.OK P t
 spec:∀f sp,C.spec f=some sp->FunOK' P C.glob f sp
 glob:GlobOK C.glob w0
 ic:ICallOK P L w0 C.icall C.inl
 yc:z9r P L w0 C.ycall
 srt:∀f,C.srt f=true->Sort1 P f
 srn:∀f k,C.srn f=some k->q20 P C.glob f k
 ifc:∀T,C.ifc T=true->∃ms,P.underlying T=some (.interface ms)
 meth:∀T n f,C.meth T n=some f->z2t P T n f
def q05 (o:Op) (q:Eff) (ρ:Env) (h:Heap) (ρs:Env) (hs:Heap):Prop :=
 (∀x∈o.operands,ev ρs x=ev ρ x)/\(∀id∈q.rd,hs id=h id)/\(∀p∈q.ups,hs p.1=h p.1)/\(q.full≠none->hs=h)
variable {R:Type} {h:Heap} {z:R}
theorem Q7 {id:Nat} {K:Option R} (a:I3 h id K=some z):h id=.fresh/\K=some z:=by
 grind[I3]
theorem B1 {b:Bool} {K:Option R} (a:cond b K none=some z):b=true/\K=some z:=by
 grind
theorem y1i {h hs:Heap} {t:Ty} {ρ ρs:Operand->AV}:∀(a:List (Nat×Operand)) (n:Nat) (l:List t.den) (ids:List Nat),q1f h t ρ n a=some (l,ids)->(∀q∈a,ρs q.2=ρ q.2)->(∀id∈ids,hs id=h id) ->
  q1f hs t ρs n a=some (l,ids)
 | [],n,l,ids,b,_,_=>b
 | (i,x)::r,n,l,ids,b,c,m=>by
  simp[q1f]at b ⊢;obtain⟨g,b⟩:=B1 b;rw[g,cond_true,c (i,x) ar];split at b
  ·rename_i u f;obtain⟨k,b⟩:=B1 b;rw[f];simp[k,cond_true];split at b
   ·rename_i y s d o j;obtain⟨rfl,rfl⟩:=b;rw[q0s t u (λid e=>m id (aB _ e)),o,y1i r (n+1) s d j (λq p=>c q (aj _ p)) (λid e=>m id (aC _ e))]
   ·cases b
  ·cases b
theorem j9f {b:List FI} {ρ ρs:Operand->AV}:∀(a:List (Nat×Operand)) (cs:List SV),(∀q∈a,ρs q.2=ρ q.2)->q0e b ρs a cs=q0e b ρ a cs
 | [],_,_=>rfl
 | (i,x)::r,cs,c=>by
  simp[q0e,c (i,x) ar];split
  ·rw[j9f r _ (λq d=>c q (aj _ d))]
  ·rfl
theorem j7r {ρ ρs:Operand->AV}:∀(xs:List Operand),(∀x∈xs,ρs x=ρ x)->q0z ρs xs=q0z ρ xs
 | [],_=>rfl
 | x::r,a=>by
  simp[q0z,a x ar,j7r r (λy b=>a y (aj _ b))]
variable {ρ:Env} {o:Oper} {K:Eff->Option R}
theorem k1n {T e:TypeId} {s x:Operand} {M d:TInfo} (r:M.OK P T) (j:M.elem=some e) (u:d.OK P e) (N:o.op=.call { callee:=.builtin .append,args:=#[s,x],argTypes:=#[T,T] }) {id':Nat} (a:j0v e d h id' (ev ρ s) (ev ρ x) K=some z) :
  ∃q,K q=some z/\q.full=none/\∀b c,ev b s=ev ρ s->ev b x=ev ρ x->(∀id∈q.rd,c id=h id)->(∀p∈q.ups,c p.1=h p.1)->A9 P L w0 o b c (q.heap c) q.av:=by
 unfold j0v at a;split at a
 ·rename_i J i f;split at a
  ·rename_i m G;obtain⟨H,a⟩:=Q7 a;obtain⟨n,a⟩:=B1 a;simp only[ac]at n;obtain⟨⟨E,A⟩,D⟩:=n;refine⟨_,a,rfl,λb c C I w v=>?_⟩;have g:c id'=.fresh:=(v (id',.arr e d.ty m) (by simp)).trans H;exact k1p r j u N g (C.trans i) (I.trans f) ((z5j d.ty J w).trans G) E (ao A) (ab D)
  grind
 ·rename_i id J i f;split at a
  ·rename_i Q t l F;split at a
   ·rename_i O _;subst O;split at a
    ·rename_i m G;obtain⟨H,a⟩:=Q7 a;obtain⟨n,y⟩:=B1 a;simp only[ac]at n;obtain⟨⟨⟨B,E⟩,A⟩,D⟩:=n;have B:=ab B;subst B;refine⟨_,y,rfl,λb c C I w v=>?_⟩;have g:c id'=.fresh:=(v (id',.arr e d.ty (l++m)) (by simp)).trans H;have k:c id=.arr e d.ty l:=(v (id,.dead) (by simp)).trans F;exact k1q r j u N g (C.trans i) k (I.trans f) ((z5j d.ty J w).trans G) E (ao A) (ab D)
    grind
   grind
  grind
 grind
variable {C:Ctx}
theorem k24 (d:∀t k,C.TI t=some k->k.OK P t) {T:TypeId} {m:Operand} (N:o.op=.call { callee:=.builtin .clear,args:=#[m],argTypes:=#[T] }) {id a len:Nat} (E:ev ρ m=.one (.sub id a len)) (b:j0y C T id a len h K=some z) :
  ∃q,K q=some z/\q.full=none/\∀c g,ev c m=ev ρ m->(∀p∈q.ups,g p.1=h p.1)->A9 P L w0 o c g (q.heap g) q.av:=by
 unfold j0y at b;split at b
 ·rename_i k I;split at b
  ·rename_i e s;split at b
   ·rename_i f j;split at b
    ·rename_i Q t l r;split at b
     ·rename_i J B _ H;subst J;split at b
      ·rename_i S u;obtain⟨O,w⟩:=H9 u;subst w;obtain⟨D,y⟩:=B1 b;simp only[ac]at D;obtain⟨⟨A,G⟩,M⟩:=D;have A:=ab A;subst A;have v:=z9j (d e f j);refine⟨_,y,rfl,λc g F n=>?_⟩;have i:=(n (id,.arr e f.ty (l.take a++List.replicate len B++l.drop (a+len))) (by simp)).trans r;have x:F0 g f.ty f.zeros=some (B,[]):=(q0s f.ty f.zeros (λid E=>by grind)).trans H;exact k1w (d T k I) s (d e f j) N (F.trans E) i x (ao G) (ab M) v
      grind
     grind
    grind
   grind
  grind
 grind
variable {lo:Nat->Bool}
theorem q7f (i:ICallOK P L w0 C.icall C.inl) {f:FuncId} {n:List AV} {X:Operand->Prop} (U:z2u P L o f n X ρ) {ib:Nat} (l:C.inl f=true) {lim:Nat} {M:List Nat} (F:C.icall f n h lo ib R (λav s=>K { av,rd:=[],ups:=M.map λid=>(id,s id),full:=some s,lim })=some z) :
  ∃q,K q=some z/\(q.lim=lim/\q.ups.map (·.1)=M)/\(∃H,q.full=some H/\∀id,lo id=true->H id=h id)/\∀c k,(∀x,X x->ev c x=ev ρ x)->k=h->A9 P L w0 o c k (q.heap k) q.av:=by
 obtain⟨av,s,hk,u,d⟩:=i.ok f _ h lo ib R _ z l F;refine⟨_,hk,⟨rfl,by simp[Function.comp_def]⟩,⟨s,rfl,u⟩,λc k h1 h2=>?_⟩;subst h2;intro r S a w j ok m K' Q W Z;have A:=R5 j;obtain⟨Y,B,D,E⟩:=i.fn f l;obtain⟨y,p,G,t⟩:=U.2 Y B D E c k h1 S a w A;have V:=d S w y G t ok (m-1);refine k4z U.1 p V λe O F=>?_;rcases F with⟨v,g,b,N,I,a3⟩ | ⟨T,g,J,b,N,I⟩
 ·exact .inl ⟨v,b,W g v O N I a3⟩
 ·exact .inr ⟨_,b,Z T J g O N I⟩
theorem v4h {a:Act} {g:Operand} {args:Array Operand} {d:Array TypeId} (f:o.op=.call { callee:=.value g,args:=args,argTypes:=d }) {b:Nat} (e:a.eval g=.func (.yield b) #[] #[]) {w:World} {r:Loop} (h:w.heap[b]? = some (.loop r)) (hs:args.size=r.params.size) :
  (execOp a.eval o).run P w=.ok (.round b r.fn ((r.params.zip (args.map a.eval)).foldl (λc (t,a)=>c.setIfInBounds t a) r.tmps) r.assign r.body) w:=by
 grind[execOp,resolve,Deferred.ofValue,invoke,run_yield]
theorem k51 {r:Option Nat} {a:Act} {w:World} {m:Nat} {K:Act->World->Prop} {Q:Exit->Act->World->Prop} {l:Nat} {f:FuncId} {tmps:Array Value} {b d:Code} (j:∀c,o.op≠.defer c) (h:(execOp a.eval o).run P w=.ok (.round l f tmps b d) w) {R:Ending->World->Prop} (i:RoundIn (Fr none) (m-1) P l f tmps b d w R) (k:∀e g,R e g->∃v,e=.returned v/\K (a.put o.dst v) g):o.wpIn (Fr r) m P a w K Q:=by
 refine⟨λ_ _=>trivial,?_⟩;rw[Oper.semAt_eq _ _ _ j,h];refine⟨λh=>by grind[Fr],RoundIn.mono (show RoundIn (Fr r) (m-1) P l f tmps b d w R from i) λe g n=>?_⟩;grind
theorem k35 (y:z9r P L w0 C.ycall) {g:Operand} {args:Array Operand} {G:Array TypeId} (V:o.op=.call { callee:=.value g,args:=args,argTypes:=G }) {id:Nat} (N:ev ρ g=.one (.yld id)) (I:C.ycall id (args.toList.map (ev ρ)) h lo R (λav u=>K { av,rd:=[],ups:=[],full:=some u })=some z) :
  ∃q,K q=some z/\q.lim=0/\(∃H,q.full=some H/\∀id,lo id=true->H id=h id)/\∀k t,(∀x,x=g\/x∈args.toList->ev k x=ev ρ x)->t=h->A9 P L w0 o k t (q.heap t) q.av:=by
 obtain⟨av,u,T,D,j⟩:=y id _ h lo R _ z I;refine⟨_,T,rfl,⟨u,rfl,D⟩,λk t O U=>?_⟩;subst U;intro r M a w p W m K' Q Z _;have A:=R5 p;have f:=A g;rw[O g (.inl rfl),N]at f;obtain⟨hnf,b,c,E,f⟩:=f;obtain⟨rc,hb,J,d⟩:=j M w (args.toList.map a.eval) b c (by simp) (λi av v hi hv=>by
  grind) W E
 have n:=v4h (P:=P) V f hb (by grind);have s:(args.toList.map a.eval).toArray=args.map a.eval:=by
  grind
 have d:=d (m-1);rw[s]at d;refine k51 (λc hc=>by grind) n d λe S ⟨v,B,l,Y,F,X⟩=>⟨v,l,Z B v S Y F X⟩
theorem j93 (hC:CtxOK P L w0 C) {id':Nat} (he:j1h C lo id' o.op (ev ρ) h K=some z) :
  ∃q,K q=some z/\(∀H,q.full=some H->∀id,lo id=true\/(id<q.lim/\id∉q.ups.map (·.1))->H id=h id)/\∀ρs hs,q05 o.op q ρ h ρs hs->A9 P L w0 o ρs hs (q.heap hs) q.av:=by
 generalize hop:o.op=op at he;have nofull:∀(q:Eff),q.full=none->∀H,q.full=some H->∀id,lo id=true\/(id<q.lim/\id∉q.ups.map (·.1))->H id=h id:=λq hq H hH=>by rw[hq]at hH;cases hH
 unfold j1h at he;split at he
 ·rename_i x;refine⟨_,he,nofull _ rfl,λρs hs ha=>?_⟩;have h1:=ha.1 x (by simp[Op.operands]);show A9 P L w0 o ρs hs hs (ev ρ x);rw[<-h1];exact y5h (.inl hop) ρs hs
 ·rename_i x;refine⟨_,he,nofull _ rfl,λρs hs ha=>?_⟩;have h1:=ha.1 x (by simp[Op.operands]);show A9 P L w0 o ρs hs hs (ev ρ x);rw[<-h1];exact y5h (.inr hop) ρs hs
 ·rename_i c x y;split at he
  ·rename_i t hc;cases t with
   | true =>
    refine⟨_,he,nofull _ rfl,λρs hs ha=>?_⟩;have h1:=ha.1 x (by simp[Op.operands]);show A9 P L w0 o ρs hs hs (ev ρ x);rw[<-h1];exact y5i (t:=true) hop ((ha.1 c (by simp[Op.operands])).trans hc) hs
   | false =>
    refine⟨_,he,nofull _ rfl,λρs hs ha=>?_⟩;have h1:=ha.1 y (by simp[Op.operands]);show A9 P L w0 o ρs hs hs (ev ρ y);rw[<-h1];exact y5i (t:=false) hop ((ha.1 c (by simp[Op.operands])).trans hc) hs
  ·cases he
 ·rename_i T;split at he
  ·rename_i ti hti;obtain⟨hf,he⟩:=Q7 he;exact⟨_,he,nofull _ rfl,λρs hs ha=>k1m (hC.ti T ti hti) hop ((ha.2.2.1 (id',.cells ti.zeros) (by simp)).trans hf)⟩
  ·cases he
 ·rename_i T x;split at he
  ·rename_i ti vs hti hvs;obtain⟨hf,he⟩:=Q7 he;obtain⟨hk,he⟩:=B1 he;exact⟨_,he,nofull _ rfl,λρs hs ha=>k1r hop ((ha.2.2.1 (id',.cells vs) (by simp)).trans hf) (by rw[ha.1 x (by simp[Op.operands])];exact hvs) hk⟩
  ·cases he
 ·rename_i T parts;split at he
  ·rename_i ti hti;obtain⟨hstr,he⟩:=B1 he;split at he
   ·rename_i cs hcs;refine⟨_,he,nofull _ rfl,λρs hs ha=>?_⟩;have hcs':q0e ti.flds (ev ρs) parts.toList ti.zeros=some cs:=by
     rw[j9f (ρ:=ev ρ) (ρs:=ev ρs) parts.toList ti.zeros (λq hq=>ha.1 q.2 (by simp only[Op.operands];simpa using⟨q.1,by simpa using hq⟩))];exact hcs
    cases hst:ti.str with
    | true=>exact k1s (hC.ti T ti hti) hst hop hcs' hs
    | false =>
     rw[hst,dh]at hstr;obtain⟨⟨n,e⟩,hne⟩:=cV.1 hstr;exact k1t (hC.ti T ti hti) hne hop hcs' hs
   ·cases he
  ·cases he
 ·rename_i T len parts;split at he
  ·rename_i ti hti;split at he
   ·rename_i e hel;split at he
    ·rename_i te hte;split at he
     ·rename_i l ids hl;obtain⟨hf,he⟩:=Q7 he;obtain⟨hc,he⟩:=B1 he;simp only[ac]at hc;obtain⟨⟨⟨⟨c1,c2⟩,c3⟩,c4⟩,c5⟩:=hc;refine⟨_,he,nofull _ rfl,λρs hs ha=>?_⟩;have hids:∀id∈ids,hs id=h id:=ha.2.1;have hf':hs id'=.fresh:=(ha.2.2.1 (id',.arr e te.ty l) (by simp)).trans hf;have hl':=y1i (ρs:=ev ρs) parts.toList 0 l ids hl (λq hq=>ha.1 q.2 (by simp only[Op.operands];simpa using⟨q.1,by simpa using hq⟩)) hids;have hni:id'∉ids:=λhm=>by
       have:=aG.1 c5 id' hm;simp at this
      show A9 P L w0 o ρs hs (A3 (B4 h ids++[(id',.arr e te.ty l)]) hs) _;rw[<-q6f ids hids];exact k1u (hC.ti T ti hti) hel (hC.ti e te hte) hop hf' hl' (ab c1) (ao c2) (ao c3) (ab c4) hni
     ·cases he
    ·cases he
   ·cases he
  ·cases he
 ·rename_i T x;split at he
  ·rename_i ti hti;obtain⟨q,hq,hfull,hsem⟩:=k2f (L:=L) (w0:=w0) (hC.ti T ti hti) hop he;exact⟨q,hq,nofull q hfull,λρs hs ha=>hsem ρs hs (ha.1 x (by simp[Op.operands])) ha.2.1⟩
  ·cases he
 ·rename_i T x v;split at he
  ·rename_i ti hti;unfold j95 at he;split at he
   ·cases he
   ·rename_i vs hvs;obtain⟨hc,he⟩:=B1 he;rw[ac]at hc;obtain⟨hk,hsz⟩:=hc;have hsz:=ab hsz;split at he
    ·rename_i id off hx;split at he
     ·rename_i l hid;obtain⟨hle,he⟩:=B1 he;refine⟨_,he,nofull _ rfl,λρs hs ha=>?_⟩;exact k33 (hC.ti T ti hti) hop ((ha.1 x (by simp[Op.operands])).trans hx) ((ha.2.2.1 (id,.cells (splice l off vs)) (by simp)).trans hid) (by rw[ha.1 v (by simp[Op.operands])];exact hvs) hk hsz (ao hle)
     ·cases he
    ·rename_i id t i c hx;split at he
     ·rename_i e t' l hid;split at he
      ·rename_i ht _;subst ht;cases hz:l[i]? with
       | none=>rw[hz]at he;cases he
       | some y =>
        rw[hz,aa]at he;split at he
        ·rename_i y' hd;obtain⟨hc,he⟩:=B1 he;rw[ac]at hc;refine⟨_,he,nofull _ rfl,λρs hs ha=>?_⟩;have hids:∀id∈G4 vs,hs id=h id:=ha.2.1;have hid':hs id=.arr e t l:=(ha.2.2.1 (id,.arr e t (l.set i y')) (by simp)).trans hid;show A9 P L w0 o ρs hs (A3 (B4 h (G4 vs)++[(id,.arr e t (l.set i y'))]) hs) (.one .unk);rw[<-q6f _ hids];refine k32 (hC.ti T ti hti) hop ((ha.1 x (by simp[Op.operands])).trans hx) hid' (by rw[ha.1 v (by simp[Op.operands])];exact hvs) hk hsz hz ?_ hc.1 (ao hc.2);rw[q0s t _ (λid hm=>hids id (y3d (z6c t y) hm))];exact hd
        ·cases he
      ·cases he
     ·cases he
    ·cases he
  ·cases he
 ·rename_i x;split at he
  ·rename_i id off hx;refine⟨_,he,nofull _ rfl,λρs hs ha=>?_⟩;have h1:=(ha.1 x (by simp[Op.operands])).trans hx;show A9 P L w0 o ρs hs hs (.one (.ptr id off));rw[<-h1];exact j4o hop (.inl ⟨id,off,h1⟩) hs
  ·rename_i id t i c hx;refine⟨_,he,nofull _ rfl,λρs hs ha=>?_⟩;have h1:=(ha.1 x (by simp[Op.operands])).trans hx;show A9 P L w0 o ρs hs hs (.one (.eptr id t i c));rw[<-h1];exact j4o hop (.inr (.inl ⟨id,t,i,c,h1⟩)) hs
  ·rename_i t y c hx;refine⟨_,he,nofull _ rfl,λρs hs ha=>?_⟩;have h1:=(ha.1 x (by simp[Op.operands])).trans hx;show A9 P L w0 o ρs hs hs (.one (.ro t y c));rw[<-h1];exact j4o hop (.inr (.inr ⟨t,y,c,h1⟩)) hs
  ·cases he
 ·rename_i op T x y T';split at he
  ·rename_i k a k' b hx hy;obtain⟨av,hav,hsem⟩:=k2c (P:=P) (L:=L) (w0:=w0) hop hx hy he;exact⟨_,hav,nofull _ rfl,λρs hs ha=>hsem ρs hs (ha.1 x (by simp[Op.operands])) (ha.1 y (by simp[Op.operands]))⟩
  ·rename_i a b hx hy;split at he
   ·rename_i ti hti;split at he
    ·rename_i _ hagg hty;exact⟨_,he,nofull _ rfl,λρs hs ha=>y5b hop (hC.ti T ti hti) hagg hty ((ha.1 x (by simp[Op.operands])).trans hx) ((ha.1 y (by simp[Op.operands])).trans hy) (.inl ⟨rfl,rfl⟩) hs⟩
    ·rename_i _ hagg hty;exact⟨_,he,nofull _ rfl,λρs hs ha=>y5b hop (hC.ti T ti hti) hagg hty ((ha.1 x (by simp[Op.operands])).trans hx) ((ha.1 y (by simp[Op.operands])).trans hy) (.inr ⟨rfl,rfl⟩) hs⟩
    ·cases he
   ·cases he
  ·rename_i cs ds hx hy;unfold j8w at he;split at he
   ·rename_i ti hti;split at he
    ·rename_i l hl;split at he
     ·rename_i b _ hb;obtain⟨hc,he⟩:=B1 he;rw[ac]at hc;exact⟨_,he,nofull _ rfl,λρs hs ha=>y5d hop (hC.ti T ti hti) hl ((ha.1 x (by simp[Op.operands])).trans hx) ((ha.1 y (by simp[Op.operands])).trans hy) hb (ab hc.1) (ab hc.2) (.inl ⟨rfl,rfl⟩) hs⟩
     ·rename_i b _ hb;obtain⟨hc,he⟩:=B1 he;rw[ac]at hc;exact⟨_,he,nofull _ rfl,λρs hs ha=>y5d hop (hC.ti T ti hti) hl ((ha.1 x (by simp[Op.operands])).trans hx) ((ha.1 y (by simp[Op.operands])).trans hy) hb (ab hc.1) (ab hc.2) (.inr ⟨rfl,rfl⟩) hs⟩
     ·cases he
    ·cases he
   ·cases he
  ·rename_i t l hx hy;unfold z44 at he;split at he
   ·rename_i ti hti;split at he
    ·rename_i _ e hel;exact⟨_,he,nofull _ rfl,λρs hs ha=>z8b hop (hC.ti T ti hti) hel ((ha.1 x (by simp[Op.operands])).trans hx) (.inl ⟨t,l,rfl,rfl⟩) ((ha.1 y (by simp[Op.operands])).trans hy) (.inl ⟨rfl,rfl⟩) hs⟩
    ·rename_i _ e hel;exact⟨_,he,nofull _ rfl,λρs hs ha=>z8b hop (hC.ti T ti hti) hel ((ha.1 x (by simp[Op.operands])).trans hx) (.inl ⟨t,l,rfl,rfl⟩) ((ha.1 y (by simp[Op.operands])).trans hy) (.inr ⟨rfl,rfl⟩) hs⟩
    ·cases he
   ·cases he
  ·rename_i hx hy;unfold z44 at he;split at he
   ·rename_i ti hti;split at he
    ·rename_i _ e hel;exact⟨_,he,nofull _ rfl,λρs hs ha=>z8b hop (hC.ti T ti hti) hel ((ha.1 x (by simp[Op.operands])).trans hx) (.inr ⟨rfl,rfl⟩) ((ha.1 y (by simp[Op.operands])).trans hy) (.inl ⟨rfl,rfl⟩) hs⟩
    ·rename_i _ e hel;exact⟨_,he,nofull _ rfl,λρs hs ha=>z8b hop (hC.ti T ti hti) hel ((ha.1 x (by simp[Op.operands])).trans hx) (.inr ⟨rfl,rfl⟩) ((ha.1 y (by simp[Op.operands])).trans hy) (.inr ⟨rfl,rfl⟩) hs⟩
    ·cases he
   ·cases he
  ·cases he
 ·rename_i op T x;obtain⟨av,hav,hsem⟩:=k34 (P:=P) (L:=L) (w0:=w0) hop he;exact⟨_,hav,nofull _ rfl,λρs hs ha=>hsem ρs hs (ha.1 x (by simp[Op.operands]))⟩
 ·rename_i S T x;split at he
  ·rename_i tsi ti k' n hts hti hx;split at he
   ·rename_i k hagg hty;exact⟨_,he,nofull _ rfl,λρs hs ha=>k1x (hC.ti T ti hti) (hC.ti S tsi hts) hop hagg hty ((ha.1 x (by simp[Op.operands])).trans hx) hs⟩
   ·cases he
  ·cases he
 ·rename_i f first caps;split at he
  ·rename_i l hfirst hcaps;refine⟨_,he,nofull _ rfl,λρs hs ha=>?_⟩;have hf0:first=#[]:=aX.1 hfirst;subst hf0;refine k2m hop ?_ hs;rw[j7r (ρ:=ev ρ) caps.toList (λx hx=>ha.1 x (by simp only[Op.operands];simpa using hx))];exact hcaps
  ·rename_i x hfirst hcaps;split at he
   ·rename_i agg bcs hpl;refine⟨_,he,nofull _ rfl,λρs hs ha=>?_⟩;have hf0:first=#[x]:=aX.1 hfirst;subst hf0;have hc0:caps=#[]:=by
     apply aX.1;cases hcl:caps.toList with
     | nil=>rfl
     | cons y r =>
      rw[hcl]at hcaps;simp only[q0z]at hcaps;split at hcaps<;>cases hcaps
    subst hc0;refine k2k hop ?_ hs;rw[ha.1 x (by simp[Op.operands])];exact hpl
   ·cases he
  ·cases he
 ·rename_i T x y;split at he
  ·rename_i ti hti;split at he
   ·rename_i e hel;split at he
    ·rename_i te n c hte hx hy;unfold j91 at he;split at he
     ·rename_i z0 hz;obtain⟨hf,he⟩:=Q7 he;obtain⟨hc,he⟩:=B1 he;simp only[ac,decide_eq_true_eq]at hc;obtain⟨⟨⟨⟨⟨c1,c2⟩,c3⟩,c4⟩,c5⟩,c6⟩:=hc;have hzo:=z9j (hC.ti e te hte);refine⟨_,he,nofull _ rfl,λρs hs ha=>?_⟩;have hz':F0 hs te.ty te.zeros=some (z0,[]):=(q0s te.ty te.zeros (λid hm=>by rw[hzo]at hm;cases hm)).trans hz;exact k2j (hC.ti T ti hti) hel (hC.ti e te hte) hop ((ha.2.2.1 (id',.arr e te.ty (List.replicate n.toNat z0)) (by simp)).trans hf) ((ha.1 x (by simp[Op.operands])).trans hx) ((ha.1 y (by simp[Op.operands])).trans hy) hz' c1 c2 c3 c4
       (ao c5) (ab c6) hzo
     ·cases he
    ·cases he
   ·cases he
  ·cases he
 ·rename_i T r;obtain⟨q,hq,hfull,hsem⟩:=k2n (P:=P) (L:=L) (w0:=w0) hC.ti hop he;exact⟨q,hq,nofull q hfull,λρs hs ha=>hsem ρs hs ha.2.2.1⟩
 ·rename_i T x i ok2;obtain⟨q,hq,hfull,hsem⟩:=k2h (P:=P) (L:=L) (w0:=w0) hC.ti hop he;exact⟨q,hq,nofull q hfull,λρs hs ha=>hsem ρs hs (ha.1 x (by simp[Op.operands])) (ha.1 i (by simp[Op.operands])) ha.2.1⟩
 ·rename_i T m k v;obtain⟨q,hq,hfull,hsem⟩:=y5g (P:=P) (L:=L) (w0:=w0) hC.ti (.inl hop) he;exact⟨q,hq,nofull q hfull,λρs hs ha=>hsem ρs hs (ha.1 m (by simp[Op.operands])) (ha.1 k (by simp[Op.operands])) (ha.1 v (by simp[Op.operands])) ha.2.1⟩
 ·rename_i T m k v;obtain⟨q,hq,hfull,hsem⟩:=y5g (P:=P) (L:=L) (w0:=w0) hC.ti (.inr hop) he;exact⟨q,hq,nofull q hfull,λρs hs ha=>hsem ρs hs (ha.1 m (by simp[Op.operands])) (ha.1 k (by simp[Op.operands])) (ha.1 v (by simp[Op.operands])) ha.2.1⟩
 ·rename_i T m k;obtain⟨q,hq,hfull,hsem⟩:=k22 (P:=P) (L:=L) (w0:=w0) hC.ti hop he;exact⟨q,hq,nofull q hfull,λρs hs ha=>hsem ρs hs (ha.1 m (by simp[Op.operands])) (ha.1 k (by simp[Op.operands])) ha.2.1 ha.2.2.1⟩
 ·rename_i T m s v;obtain⟨q,hq,hfull,hsem⟩:=k23 (P:=P) (L:=L) (w0:=w0) hop he;exact⟨q,hq,nofull q hfull,λρs hs ha=>hsem ρs hs (ha.1 m (by simp[Op.operands])) (ha.1 s (by simp[Op.operands])) (ha.1 v (by simp[Op.operands])) ha.2.1⟩
 ·rename_i T x;obtain⟨q,hq,hfull,hsem⟩:=k2t (P:=P) (L:=L) (w0:=w0) hC.ti hop he;exact⟨q,hq,nofull q hfull,λρs hs ha=>hsem ρs hs (ha.1 x (by simp[Op.operands])) ha.2.2.1⟩
 ·rename_i x;obtain⟨q,hq,hfull,hsem⟩:=k2r (P:=P) (L:=L) (w0:=w0) hop he;exact⟨q,hq,nofull q hfull,λρs hs ha=>hsem ρs hs (ha.1 x (by simp[Op.operands])) ha.2.1⟩
 ·rename_i x;obtain⟨q,hq,hfull,hsem⟩:=k2d (P:=P) (L:=L) (w0:=w0) hop he;exact⟨q,hq,nofull q hfull,λρs hs ha=>hsem ρs hs (ha.1 x (by simp[Op.operands])) ha.2.1⟩
 ·rename_i T x a b;split at he
  ·rename_i ti hti;split at he
   ·rename_i n e hpa;split at he
    ·rename_i id off te hx hte;exact⟨_,he,nofull _ rfl,λρs hs ha=>k2v (hC.ti T ti hti) hpa (hC.ti e te hte) hop ((ha.1 x (by simp[Op.operands])).trans hx) hs⟩
    ·cases he
   ·split at he
    ·rename_i e hel;split at he
     ·rename_i te hte;obtain⟨q,hq,hfull,hsem⟩:=k2u (P:=P) (L:=L) (w0:=w0) (hC.ti T ti hti) hel (hC.ti e te hte) hop he;exact⟨q,hq,nofull q hfull,λρs hs ha=>hsem ρs hs (ha.1 x (by simp[Op.operands])) (λy hy=>ha.1 y (by rcases hy with rfl | rfl<;>simp[Op.operands])) ha.2.1⟩
     ·cases he
    ·cases he
  ·cases he
 ·rename_i T x f;split at he
  ·rename_i ti hti;obtain⟨hstr,he⟩:=B1 he;split at he
   ·rename_i fi hfi;obtain⟨hpos,he⟩:=B1 he;have hpos:=ao hpos;split at he
    ·rename_i id off hx;exact⟨_,he,nofull _ rfl,λρs hs ha=>j4n (hC.ti T ti hti) hstr hop hfi hpos (.inl ⟨id,off,(ha.1 x (by simp[Op.operands])).trans hx,rfl⟩) hs⟩
    ·rename_i id t i c hx;exact⟨_,he,nofull _ rfl,λρs hs ha=>j4n (hC.ti T ti hti) hstr hop hfi hpos (.inr (.inl ⟨id,t,i,c,(ha.1 x (by simp[Op.operands])).trans hx,rfl⟩)) hs⟩
    ·rename_i t y c hx;exact⟨_,he,nofull _ rfl,λρs hs ha=>j4n (hC.ti T ti hti) hstr hop hfi hpos (.inr (.inr ⟨t,y,c,(ha.1 x (by simp[Op.operands])).trans hx,rfl⟩)) hs⟩
    ·cases he
   ·cases he
  ·cases he
 ·rename_i T x f;split at he
  ·rename_i ti hti;obtain⟨hstr,he⟩:=B1 he;split at he
   ·rename_i fi cs hfi hx;obtain⟨hle,he⟩:=B1 he;have hle:=ao hle;split at he
    ·rename_i hag;exact⟨_,he,nofull _ rfl,λρs hs ha=>y5f (hC.ti T ti hti) hstr hop hfi ((ha.1 x (by simp[Op.operands])).trans hx) hle (.inl ⟨hag,rfl⟩) hs⟩
    ·rename_i hag;split at he
     ·rename_i s hs';exact⟨_,he,nofull _ rfl,λρs hs ha=>y5f (hC.ti T ti hti) hstr hop hfi ((ha.1 x (by simp[Op.operands])).trans hx) hle (.inr ⟨hag,s,hs',rfl⟩) hs⟩
     ·cases he
   ·cases he
  ·cases he
 ·rename_i T x i;split at he
  ·rename_i g hx;unfold j90 at he;split at he
   ·rename_i ti hti;split at he
    ·rename_i n e k m l harr hg;split at he
     ·rename_i te kk j hte hi;obtain⟨hc,he⟩:=B1 he;simp only[ac]at hc;obtain⟨⟨c1,c2⟩,c3⟩:=hc;obtain⟨y,hy,he⟩:=ae.1 he;rw[j9y]at hy;have hm0:m≠0:=by have h1:=ab c2;have h2:=ao c3;omega
      exact⟨_,he,nofull _ rfl,λρs hs ha=>k29 (hC.ti T ti hti) harr (hC.ti e te hte) (ab c1) (ao c3) hop ((ha.1 x (by simp[Op.operands])).trans hx) ((ha.1 i (by simp[Op.operands])).trans hi) (((hC.glob g k m l hg).1 hm0).1.trans (ab c2)) hy ((hC.glob g k m l hg).1 hm0).2 hs⟩
     ·cases he
    ·cases he
   ·cases he
  split at he
  ·rename_i ti hti;split at he
   ·rename_i e hel;split at he
    ·rename_i te hte;obtain⟨q,hq,hfull,hsem⟩:=k2a (P:=P) (L:=L) (w0:=w0) (hC.ti T ti hti) hel (hC.ti e te hte) hop he;exact⟨q,hq,nofull q hfull,λρs hs ha=>hsem ρs hs (ha.1 x (by simp[Op.operands])) (ha.1 i (by simp[Op.operands])) ha.2.1⟩
    ·cases he
   ·cases he
  ·cases he
 ·rename_i t i;split at he
  ·rename_i l hl;split at he
   ·rename_i cs hc;exact⟨_,he,nofull _ rfl,λρs hs ha=>y5e hop ((ha.1 t (by simp[Op.operands])).trans hl) hc (.inl ⟨cs,rfl,rfl⟩) hs⟩
   ·rename_i s hc;exact⟨_,he,nofull _ rfl,λρs hs ha=>y5e hop ((ha.1 t (by simp[Op.operands])).trans hl) hc (.inr ⟨s,rfl,rfl⟩) hs⟩
   ·cases he
  ·cases he
 ·rename_i b args Ts;unfold j8v at he;split at he
  ·rename_i m' hargs;obtain⟨x,hax,hx'⟩:∃x,args=#[x]/\ev ρ x=m':=by
    obtain⟨l,hl⟩:∃l,args.toList=l:=⟨_,rfl⟩;rw[hl]at hargs
    match l,hargs with
    | [x],h=>simp at h;exact⟨x,aX.1 hl,h⟩
   subst hax;subst hx';split at he
   ·rename_i T hTs;have hTs:Ts=#[T]:=aX.1 hTs;subst hTs;split at he
    ·rename_i id off len hx;obtain⟨q,hq,hfull,hsem⟩:=k24 (P:=P) (L:=L) (w0:=w0) hC.ti hop hx he;exact⟨q,hq,nofull q hfull,λρs hs ha=>hsem ρs hs (ha.1 x (by simp[Op.operands,Call.operands])) ha.2.2.1⟩
    ·cases he
   ·cases he
  ·rename_i s' x' hargs;obtain⟨s,x,hax,hs',hx'⟩:∃s x,args=#[s,x]/\ev ρ s=s'/\ev ρ x=x':=by
    obtain⟨l,hl⟩:∃l,args.toList=l:=⟨_,rfl⟩;rw[hl]at hargs
    match l,hargs with
    | [s,x],h=>simp at h;exact⟨s,x,aX.1 hl,h⟩
   subst hax;subst hs';subst hx';split at he
   ·rename_i T T' hTs;have hTs:Ts=#[T,T']:=aX.1 hTs;subst hTs;obtain⟨q,hq,hfull,hsem⟩:=k21 (P:=P) (L:=L) (w0:=w0) hC.ti hop he;exact⟨q,hq,nofull q hfull,λρs hs ha=>hsem ρs hs (ha.1 s (by simp[Op.operands,Call.operands])) (ha.1 x (by simp[Op.operands,Call.operands])) ha.2.1⟩
   ·cases he
  ·rename_i x' hargs;obtain⟨x,hax,hx'⟩:∃x,args=#[x]/\ev ρ x=x':=by
    obtain⟨l,hl⟩:∃l,args.toList=l:=⟨_,rfl⟩;rw[hl]at hargs
    match l,hargs with
    | [x],h=>simp at h;exact⟨x,aX.1 hl,h⟩
   subst hax;split at he
   ·rename_i T hTs;have hTs:Ts=#[T]:=aX.1 hTs;subst hTs;split at he
    ·rename_i ti hti;split at he
     ·cases he
     ·rename_i e hel;have hxo:∀ρs:Env,(∀y∈(Op.call { callee:=Callee.builtin Builtin.len,args:=#[x],argTypes:=#[T] }).operands,ev ρs y=ev ρ y)->ev ρs x=ev ρ x:=λρs h=>h x (by simp[Op.operands,Call.operands]);split at he
      ·exact⟨_,he,nofull _ rfl,λρs hs ha=>q7g (n:=0) (hC.ti T ti hti) hel hop ((hxo ρs ha.1).trans hx') (.inl ⟨rfl,rfl⟩)⟩
      ·rename_i id;split at he
       ·rename_i e' t l hid;exact⟨_,he,nofull _ rfl,λρs hs ha=>q7g (hC.ti T ti hti) hel hop ((hxo ρs ha.1).trans hx') (.inr (.inl ⟨id,rfl,e',t,l,.inl ((ha.2.1 id (by simp[E1])).trans hid),rfl⟩))⟩
       ·rename_i e' t l hid;exact⟨_,he,nofull _ rfl,λρs hs ha=>q7g (hC.ti T ti hti) hel hop ((hxo ρs ha.1).trans hx') (.inr (.inl ⟨id,rfl,e',t,l,.inr ((ha.2.1 id (by simp[E1])).trans hid),rfl⟩))⟩
       ·cases he
      ·rename_i id off len;split at he
       ·rename_i e' t l hid;exact⟨_,he,nofull _ rfl,λρs hs ha=>q7g (hC.ti T ti hti) hel hop ((hxo ρs ha.1).trans hx') (.inr (.inr (.inl ⟨id,off,rfl,e',t,l,.inl ((ha.2.1 id (by simp[E1])).trans hid)⟩)))⟩
       ·rename_i e' t l hid;exact⟨_,he,nofull _ rfl,λρs hs ha=>q7g (hC.ti T ti hti) hel hop ((hxo ρs ha.1).trans hx') (.inr (.inr (.inl ⟨id,off,rfl,e',t,l,.inr ((ha.2.1 id (by simp[E1])).trans hid)⟩)))⟩
       ·cases he
      ·rename_i t l;exact⟨_,he,nofull _ rfl,λρs hs ha=>q7g (hC.ti T ti hti) hel hop ((hxo ρs ha.1).trans hx') (.inr (.inr (.inr ⟨t,l,rfl,rfl⟩)))⟩
      ·cases he
    ·cases he
   ·cases he
  ·rename_i s' x' hargs;obtain⟨s,x,hax,hs',hx'⟩:∃s x,args=#[s,x]/\ev ρ s=s'/\ev ρ x=x':=by
    obtain⟨l,hl⟩:∃l,args.toList=l:=⟨_,rfl⟩;rw[hl]at hargs
    match l,hargs with
    | [s,x],h=>simp at h;exact⟨s,x,aX.1 hl,h⟩
   subst hax;subst hs';subst hx';split at he
   ·rename_i T T' hTs;have hTs:Ts=#[T,T']:=aX.1 hTs;subst hTs;split at he
    ·rename_i ti hti;split at he
     ·rename_i e hel;split at he
      ·rename_i te hte;obtain⟨hTT,he2⟩:=B1 he;have hTT:=ab hTT;subst hTT;obtain⟨q,hq,hfull,hsem⟩:=k1n (P:=P) (L:=L) (w0:=w0) (hC.ti T ti hti) hel (hC.ti e te hte) hop he2;exact⟨q,hq,nofull q hfull,λρs hs ha=>hsem ρs hs (ha.1 s (by simp[Op.operands,Call.operands])) (ha.1 x (by simp[Op.operands,Call.operands])) ha.2.1 ha.2.2.1⟩
      ·cases he
     ·cases he
    ·cases he
   ·cases he
  ·rename_i s' x' hargs;obtain⟨s,x,hax,hs',hx'⟩:∃s x,args=#[s,x]/\ev ρ s=s'/\ev ρ x=x':=by
    obtain⟨l,hl⟩:∃l,args.toList=l:=⟨_,rfl⟩;rw[hl]at hargs
    match l,hargs with
    | [s,x],h=>simp at h;exact⟨s,x,aX.1 hl,h⟩
   subst hax;subst hs';subst hx';split at he
   ·rename_i T T' hTs;have hTs:Ts=#[T,T']:=aX.1 hTs;subst hTs;split at he
    ·rename_i ti hti;split at he
     ·rename_i e hel;split at he
      ·rename_i te hte;split at he
       ·rename_i id off len cap hcsl;obtain⟨q,hq,hfull,hsem⟩:=k1y (P:=P) (L:=L) (w0:=w0) (hC.ti T ti hti) hel (hC.ti e te hte) hop hcsl he;exact⟨q,hq,nofull q hfull,λρs hs ha=>hsem ρs hs (ha.1 s (by simp[Op.operands,Call.operands])) (ha.1 x (by simp[Op.operands,Call.operands])) ha.2.1 ha.2.2.1⟩
       ·cases he
      ·cases he
     ·cases he
    ·cases he
   ·cases he
  ·rename_i k p k' q hargs;obtain⟨s,x,hax,hs',hx'⟩:∃s x,args=#[s,x]/\ev ρ s=.one (.sc (.int k) p)/\ev ρ x=.one (.sc (.int k') q):=by
    obtain⟨l,hl⟩:∃l,args.toList=l:=⟨_,rfl⟩;rw[hl]at hargs
    match l,hargs with
    | [s,x],h=>simp only[bB,da,en,and_true]at h;exact⟨s,x,aX.1 hl,h⟩
    | [],h=>simp at h
    | [_],h=>simp at h
    | _::_::_::_,h=>simp at h
   subst hax;split at he
   ·rename_i hk _;subst hk;exact⟨_,he,nofull _ rfl,λρs hs ha=>k2q hop ((ha.1 s (by simp[Op.operands,Call.operands])).trans hs') ((ha.1 x (by simp[Op.operands,Call.operands])).trans hx') hs⟩
   ·cases he
  ·rename_i k p k' q hargs;obtain⟨s,x,hax,hs',hx'⟩:∃s x,args=#[s,x]/\ev ρ s=.one (.sc (.int k) p)/\ev ρ x=.one (.sc (.int k') q):=by
    obtain⟨l,hl⟩:∃l,args.toList=l:=⟨_,rfl⟩;rw[hl]at hargs
    match l,hargs with
    | [s,x],h=>simp only[bB,da,en,and_true]at h;exact⟨s,x,aX.1 hl,h⟩
    | [],h=>simp at h
    | [_],h=>simp at h
    | _::_::_::_,h=>simp at h
   subst hax;split at he
   ·rename_i hk _;subst hk;exact⟨_,he,nofull _ rfl,λρs hs ha=>k2p hop ((ha.1 s (by simp[Op.operands,Call.operands])).trans hs') ((ha.1 x (by simp[Op.operands,Call.operands])).trans hx') hs⟩
   ·cases he
  ·cases he
 ·rename_i g args Ts;split at he
  ·rename_i f caps hg0;have hg:q24 (ev ρ g)=some (f,[],q4j caps):=by rw[show ev ρ g=_ from hg0];rfl
   cases hsr:C.srt f with
   | true =>
    rw[hsr,cond_true]at he;obtain⟨q,hq,hfull,hsem⟩:=k26 (L:=L) (w0:=w0) (hC.srt f hsr) hC.spec hC.glob hop hg0 he;exact⟨q,hq,nofull q hfull,λρs hs ha=>hsem ρs hs (λx hx=>ha.1 x (by simp only[Op.operands,Call.operands];rcases hx with rfl | hx<;>simp_all)) ha.2.2.1⟩
   | false =>
   rw[hsr,cond_false]at he;split at he
   ·cases he
   ·rename_i k hsn;have hkk:cond (Nat.ble 1048575 k) (DelN P f (k-1048575)) (SortN P f (k+1)):=hC.srn f (k+1) hsn;cases hbig:Nat.ble 1048575 k with
    | true =>
     rw[hbig,cond_true]at he hkk;obtain⟨hcp,he⟩:=q4m he;have hcp:caps=[]:=by simpa using hcp
     subst hcp;obtain⟨q,hq,hfull,hsem⟩:=k25 (L:=L) (w0:=w0) hkk hop hg0 he;exact⟨q,hq,nofull q hfull,λρs hs ha=>hsem ρs hs (λx hx=>ha.1 x (by simp only[Op.operands,Call.operands];rcases hx with rfl | hx<;>simp_all)) ha.2.2.1⟩
    | false =>
    rw[hbig,cond_false]at he hkk;obtain⟨q,hq,hfull,hsem⟩:=k27 (L:=L) (w0:=w0) hkk hC.spec hC.glob hop hg0 he;exact⟨q,hq,nofull q hfull,λρs hs ha=>hsem ρs hs (λx hx=>ha.1 x (by simp only[Op.operands,Call.operands];rcases hx with rfl | hx<;>simp_all)) ha.2.2.1⟩
   rename_i hsn;unfold q65 at he;split at he
   ·rename_i sp hsp;obtain⟨q,hq,hfull,hsem⟩:=j4p (L:=L) (w0:=w0) (q1u hop hg) (hC.spec f sp (j57 hsp)) hC.glob he;exact⟨q,hq,nofull q hfull,λρs hs ha=>hsem ρs hs (λx hx=>ha.1 x (by simp only[Op.operands,Call.operands];rcases hx with rfl | hx<;>simp_all)) ha.2.1 ha.2.2.1⟩
   ·obtain⟨hin,he⟩:=B1 he;cases hpu:C.pur f with
    | true =>
     rw[hpu,cond_true]at he;obtain⟨q,hq,⟨hlim,hups⟩,⟨H,hH,hlo⟩,hsem⟩:=q7f (M:=_) hC.ic (q1u hop hg) hin he;exact⟨q,hq,λH' hH' id hid=>by
      rw[hH]at hH';cases hH';refine hlo id ?_;rcases hid with hid | hid
      ·rw[hid];rfl
      ·rw[hlim,hups]at hid;have:Nat.blt id (C.nb (2*id'))=true:=bg hid.1;rw[this,j3k hid.2,aD,eP],λρs hs ha=>hsem ρs hs (λx hx=>ha.1 x (by simp only[Op.operands,Call.operands];rcases hx with rfl | hx<;>simp_all)) (ha.2.2.2 (by rw[hH];simp))⟩
    | false =>
     rw[hpu,cond_false]at he;obtain⟨q,hq,⟨hlim,hups⟩,⟨H,hH,hlo⟩,hsem⟩:=q7f (M:=[]) hC.ic (q1u hop hg) hin he;exact⟨q,hq,λH' hH' id hid=>by
      rw[hH]at hH';cases hH';rcases hid with hid | hid
      ·exact hlo id hid
      ·rw[hlim]at hid;exact absurd hid.1 (dF _),λρs hs ha=>hsem ρs hs (λx hx=>ha.1 x (by simp only[Op.operands,Call.operands];rcases hx with rfl | hx<;>simp_all)) (ha.2.2.2 (by rw[hH];simp))⟩
  ·rename_i f agg bcs hg0;have hg:q24 (ev ρ g)=some (f,[z3j agg bcs],[]):=by rw[show ev ρ g=_ from hg0];rfl
   unfold q65 at he;split at he
   ·rename_i sp hsp;obtain⟨q,hq,hfull,hsem⟩:=j4p (L:=L) (w0:=w0) (q1u hop hg) (hC.spec f sp (j57 hsp)) hC.glob he;exact⟨q,hq,nofull q hfull,λρs hs ha=>hsem ρs hs (λx hx=>ha.1 x (by simp only[Op.operands,Call.operands];rcases hx with rfl | hx<;>simp_all)) ha.2.1 ha.2.2.1⟩
   ·obtain⟨hin,he⟩:=B1 he;cases hpu:C.pur f with
    | true =>
     rw[hpu,cond_true]at he;obtain⟨q,hq,⟨hlim,hups⟩,⟨H,hH,hlo⟩,hsem⟩:=q7f (M:=_) hC.ic (q1u hop hg) hin he;exact⟨q,hq,λH' hH' id hid=>by
      rw[hH]at hH';cases hH';refine hlo id ?_;rcases hid with hid | hid
      ·rw[hid];rfl
      ·rw[hlim,hups]at hid;have:Nat.blt id (C.nb (2*id'))=true:=bg hid.1;rw[this,j3k hid.2,aD,eP],λρs hs ha=>hsem ρs hs (λx hx=>ha.1 x (by simp only[Op.operands,Call.operands];rcases hx with rfl | hx<;>simp_all)) (ha.2.2.2 (by rw[hH];simp))⟩
    | false =>
     rw[hpu,cond_false]at he;obtain⟨q,hq,⟨hlim,hups⟩,⟨H,hH,hlo⟩,hsem⟩:=q7f (M:=[]) hC.ic (q1u hop hg) hin he;exact⟨q,hq,λH' hH' id hid=>by
      rw[hH]at hH';cases hH';rcases hid with hid | hid
      ·exact hlo id hid
      ·rw[hlim]at hid;exact absurd hid.1 (dF _),λρs hs ha=>hsem ρs hs (λx hx=>ha.1 x (by simp only[Op.operands,Call.operands];rcases hx with rfl | hx<;>simp_all)) (ha.2.2.2 (by rw[hH];simp))⟩
  ·rename_i f pid poff hg0;have hg:q24 (ev ρ g)=some (f,[.one (.ptr pid poff)],[]):=by rw[show ev ρ g=_ from hg0];rfl
   unfold q65 at he;split at he
   ·rename_i sp hsp;obtain⟨q,hq,hfull,hsem⟩:=j4p (L:=L) (w0:=w0) (q1u hop hg) (hC.spec f sp (j57 hsp)) hC.glob he;exact⟨q,hq,nofull q hfull,λρs hs ha=>hsem ρs hs (λx hx=>ha.1 x (by simp only[Op.operands,Call.operands];rcases hx with rfl | hx<;>simp_all)) ha.2.1 ha.2.2.1⟩
   ·obtain⟨hin,he⟩:=B1 he;cases hpu:C.pur f with
    | true =>
     rw[hpu,cond_true]at he;obtain⟨q,hq,⟨hlim,hups⟩,⟨H,hH,hlo⟩,hsem⟩:=q7f (M:=_) hC.ic (q1u hop hg) hin he;exact⟨q,hq,λH' hH' id hid=>by
      rw[hH]at hH';cases hH';refine hlo id ?_;rcases hid with hid | hid
      ·rw[hid];rfl
      ·rw[hlim,hups]at hid;have:Nat.blt id (C.nb (2*id'))=true:=bg hid.1;rw[this,j3k hid.2,aD,eP],λρs hs ha=>hsem ρs hs (λx hx=>ha.1 x (by simp only[Op.operands,Call.operands];rcases hx with rfl | hx<;>simp_all)) (ha.2.2.2 (by rw[hH];simp))⟩
    | false =>
     rw[hpu,cond_false]at he;obtain⟨q,hq,⟨hlim,hups⟩,⟨H,hH,hlo⟩,hsem⟩:=q7f (M:=[]) hC.ic (q1u hop hg) hin he;exact⟨q,hq,λH' hH' id hid=>by
      rw[hH]at hH';cases hH';rcases hid with hid | hid
      ·exact hlo id hid
      ·rw[hlim]at hid;exact absurd hid.1 (dF _),λρs hs ha=>hsem ρs hs (λx hx=>ha.1 x (by simp only[Op.operands,Call.operands];rcases hx with rfl | hx<;>simp_all)) (ha.2.2.2 (by rw[hH];simp))⟩
  ·rename_i id hg;obtain⟨q,hq,hlim,⟨H,hH,hlo⟩,hsem⟩:=k35 (L:=L) (w0:=w0) hC.yc hop hg he;exact⟨q,hq,λH' hH' id hid=>by
    rw[hH]at hH';cases hH';rcases hid with hid | hid
    ·exact hlo id hid
    ·rw[hlim]at hid;exact absurd hid.1 (dF _),λρs hs ha=>hsem ρs hs (λx hx=>ha.1 x (by simp only[Op.operands,Call.operands];rcases hx with rfl | hx<;>simp_all)) (ha.2.2.2 (by rw[hH];simp))⟩
  ·cases he
 ·cases he
end Go.Abs
