/- The engine, part 4: what the evaluator says of one operation is what the machine does. -/
import Derived.Test.YtecofmaegcibeaaGreatDoorAbsHeap
namespace Go.Abs
open Go Go.RowKit
def SV.isConst:SV->Value->Prop
 | .sc t x,v=>t.size=1/\v.oneCell'=true/\(match t,x with
  | .int k,n=>v=.int k n
  | .bool,b=>v=.bool b
  | _,_=>False)
 | .nils,v=>v=.slice none 0 0
 | .nilp,v=>v=.pointer none
 | .cstr b,v=>v=.string b
 | .mpn,v=>v=.map none
 | .nilf,v=>v=.nilFunc
 | _,_=>False
def X5:TypeDesc->Bool
 | .struct _ | .array _ _=>true
 | _=>false
def z3a:Value->Bool
 | .agg _=>true
 | _=>false
structure TInfo.Base (P:Program) (t:TypeId) (ti:TInfo):Prop where
 info:∃i z,P.info? t=some i/\i.size=ti.size/\i.bytes=ti.bytes/\i.zero=some z/\z.cells.size=ti.size/\ti.zeros.length=ti.size /\
  (∀(j:Nat) (s:SV) (c:Value),ti.zeros[j]? = some s->z.cells[j]? = some c->s.isConst c)
 und:∃d,P.underlying t=some d/\X5 d=ti.agg /\
  (ti.elem=none\/∃e,ti.elem=some e/\d=.slice e) /\
  (∀k,ti.agg=false->ti.ty=.int k->d=.int k) /\
  (ti.str=true->∃fs,d=.struct fs/\fs.size=ti.flds.length/\∀(f:Nat) (fi:FI),ti.flds[f]? = some fi->∃fd i' d',fs[f]? = some fd/\fd.offset=fi.off /\
   P.info? fd.type=some i'/\i'.size=fi.size/\P.underlying fd.type=some d'/\X5 d'=fi.agg)
def Q3 (g:TypeId->Option (List (Nat×Bool))) (sz:TypeId->Nat) (n:Nat):List (Nat×TypeId)->Option (List (Nat×Bool))
 | []=>some []
 | (off,t)::r=>match g t,Q3 g sz n r with
  | some l,some l'=>cond (Nat.ble (off+sz t) n) (some (l.map (λp=>(p.1+off,p.2))++l')) none
  | _,_=>none
def q18 (P:Program):Nat->TypeId->Option (List (Nat×Bool))
 | 0,_=>none
 | n+1,t=>match P.underlying t with
  | some .bool=>cond (Nat.beq (P.cellsOf t) 1) (some [(0,true)]) none
  | some (.int _)=>cond (Nat.beq (P.cellsOf t) 1) (some [(0,false)]) none
  | some (.struct fs)=>cond (P.stoodInHeld t||fs.toList.any λf=>f.name== "_") none (Q3 (q18 P n) P.cellsOf (P.cellsOf t) (fs.toList.map λf=>(f.offset,f.type)))
  | some (.array k e)=>cond (P.info? e).isSome (Q3 (q18 P n) P.cellsOf (P.cellsOf t) ((List.range k).map λi=>(i*P.cellsOf e,e))) none
  | _=>none
structure TInfo.OK (P:Program) (t:TypeId) (ti:TInfo):Prop where
 base:ti.Base P t
 boolT:ti.agg=false->ti.ty=.bool->P.underlying t=some .bool
 strT:ti.strg=true->P.underlying t=some .string
 mapT:∀k e,ti.mp=some (k,e)->P.underlying t=some (.map k e)
 zeroT:∀i z,P.info? t=some i->i.zero=some z->z3a z=ti.agg
 eqT:∀l,ti.eqo=some l->q18 P 20 t=some l/\P.eqGuardType P.depth t=false/\ti.agg=true/\P.cellsOf t=ti.size
 arrT:∀n e,ti.arr=some (n,e)->P.underlying t=some (.array n e)/\∃i d,P.info? e=some i/\P.underlying e=some d/\∀(j:Nat) (fi:FI),ti.flds[j]? = some fi->fi.off=j*i.size/\fi.size=i.size
variable {P:Program} {L:Nat->Prop} {w0:World}
def q32 (L:Nat->Prop) (κ:A6) (h:Heap) (w:World) (ρ:Env) (a:Act):Prop:=∀t,RepAV L κ h w (ρ t) (a.tmps.getD t undef)
def pv (T:TypeId):PanicEntry:={ v:=.iface T (.agg #[]),recovered:=false }
def j6d (L:Nat->Prop) (w0:World) (κ:A6) (h:Heap) (w:World) (h':Heap) (av:AV) (a:Act) (Q:Exit->Act->World->Prop):Prop :=
 ∀T,av=.one (.pan T)->∀κ' w',HeapOK L w0 κ' (upd h' D1 .fresh) w'->Ext L κ h w κ' (upd h' D1 .fresh) w'->Q (.panic [pv T]) a w'
variable {κ:A6} {h:Heap} {w:World}
theorem y0b {T:TypeId} (i:HeapOK L w0 κ h w) (d:h D1=N8 T):False:=by
 have:=i.obj D1;rw[d]at this;obtain⟨b,c,f,j,-,-,g,e⟩:=this
 match f,g with
 | [u],_=>exact(e 0 _ u rfl rfl).1
def A9 (P:Program) (L:Nat->Prop) (w0:World) (o:Oper) (ρ:Env) (h h':Heap) (av:AV):Prop :=
 ∀(r:Option Nat) κ (a:Act) w,q32 L κ h w ρ a->HeapOK L w0 κ h w->∀(m:Nat) (K:Act->World->Prop) (Q:Exit->Act->World->Prop),
  (∀κ' v w',HeapOK L w0 κ' h' w'->RepAV L κ' h' w' av v->Ext L κ h w κ' h' w'->K (a.put o.dst v) w')->j6d L w0 κ h w h' av a Q->o.wpIn (Fr r) m P a w K Q
theorem SV.isConst.rep:∀{s:SV} {v:Value},s.isConst v->RepSV L κ h w s v/\v.oneCell'=true
 | .sc (.int k) n,v,⟨f,d,c⟩=>⟨⟨f,d,by subst c;rfl⟩,d⟩
 | .sc .bool b,v,⟨f,d,c⟩=>⟨⟨f,d,by subst c;rfl⟩,d⟩
 | .sc (.list e) b,v,⟨f,d,c⟩=>c.elim
 | .sc .nil b,v,⟨f,d,c⟩=>c.elim
 | .sc (.cons _ _) b,v,⟨f,d,c⟩=>c.elim
 | .nils,v,a=>⟨a,by rw[show v=_ from a];rfl⟩
 | .nilp,v,a=>⟨a,by rw[show v=_ from a];rfl⟩
 | .cstr b,v,a=>⟨a,by rw[show v=_ from a];rfl⟩
 | .mpn,v,a=>⟨a,by rw[show v=_ from a];rfl⟩
 | .nilf,v,a=>⟨a,by rw[show v=_ from a];rfl⟩
theorem M2 (k:IntKind) (n:Int):RepAV L κ h w (G7 k n) (.int k n):=⟨rfl,rfl,rfl⟩
theorem Z0 (b:Bool):RepAV L κ h w (J4 b) (.bool b):=⟨rfl,rfl,rfl⟩
variable {v:Value}
theorem K1 {k:IntKind} {n:Int} (a:RepAV L κ h w (.one (.sc (.int k) n)) v):v=.int k n:=by
 obtain⟨_,_,b⟩:=a;grind[RepAt,E6]
theorem q1p {b:Bool} (a:RepAV L κ h w (.one (.sc .bool b)) v):v=.bool b:=by
 obtain⟨_,_,c⟩:=a;grind[RepAt,E6]
variable {ρ:Env} {a:Act}
theorem R5 (b:q32 L κ h w ρ a):∀x,RepAV L κ h w (ev ρ x) (a.eval x)
 | .tmp t=>b t
 | .const v=>by
  show RepAV L κ h w (j3n v) v;unfold j3n;split
  ·exact M2 _ _
  ·exact Z0 _
  ·rfl
  ·rfl
  ·rfl
  ·rfl
  ·rfl
  ·trivial
 | .func f=>⟨[],by rfl,rfl,λi p c=>by grind⟩
 | .global _=>rfl
variable {o:Oper} {w':World}
theorem j67 {r:Option Nat} {m:Nat} {K:Act->World->Prop} {Q:Exit->Act->World->Prop} (d:∀c,o.op≠.defer c) (h:(execOp a.eval o).run P w=.ok (.value v) w') (b:K (a.put o.dst v) w'):o.wpIn (Fr r) m P a w K Q:=by
 refine⟨λ_ _=>trivial,?_⟩;rw[Oper.semAt_eq _ _ _ d,h];exact b
theorem k50 {r:Option Nat} {m:Nat} {K:Act->World->Prop} {Q:Exit->Act->World->Prop} (d:∀c,o.op≠.defer c) (h:(execOp a.eval o).run P w=.ok .skip w') (b:K (a.put o.dst undef) w'):o.wpIn (Fr r) m P a w K Q:=by
 refine⟨λ_ _=>trivial,?_⟩;rw[Oper.semAt_eq _ _ _ d,h];exact b
theorem E7 {av:AV} (f:∀c,o.op≠.defer c) (H:∀b (a:Act) w,(∀x,RepAV L b h w (ev ρ x) (a.eval x))->HeapOK L w0 b h w->∃v,(execOp a.eval o).run P w=.ok (.value v) w/\RepAV L b h w av v) :
  A9 P L w0 o ρ h h av:=by
 intro r b a w d ok m K Q g _;obtain⟨v,e,i⟩:=H b a w (R5 d) ok;grind[j67,Ext.refl]
variable {h':Heap}
theorem M7 {av:AV} (k:∀c,o.op≠.defer c) (H:∀d (a:Act) w,(∀x,RepAV L d h w (ev ρ x) (a.eval x))->HeapOK L w0 d h w->∃b v e,(execOp a.eval o).run P w=.ok (.value v) e /\
   HeapOK L w0 b h' e/\RepAV L b h' e av v/\Ext L d h w b h' e) :
  A9 P L w0 o ρ h h' av:=by
 intro r d a w f ok m K Q l _;obtain⟨b,v,e,j,n,g,i⟩:=H d a w (R5 f) ok;grind[j67]
theorem q55 (j:∀c,o.op≠.defer c) (H:∀e (a:Act) w,(∀x,RepAV L e h w (ev ρ x) (a.eval x))->HeapOK L w0 e h w->∃b d,(execOp a.eval o).run P w=.ok .skip d /\
   HeapOK L w0 b h' d/\Ext L e h w b h' d) :
  A9 P L w0 o ρ h h' (.one .unk):=by
 intro r e a w i ok m K Q k _;obtain⟨b,d,g,l,f⟩:=H e a w (R5 i) ok;exact k50 j g (k b undef d l trivial f)
theorem q16:∀(t:Ty) (y:t.den),(H1 t y).length=t.size
 | .int _,_=>rfl
 | .bool,_=>rfl
 | .list _,_=>rfl
 | .nil,_=>rfl
 | .cons a b,y=>by simp[H1,Ty.size,q16 a y.1,q16 b y.2]
 | .map _ _ _ _,_=>rfl
theorem q26 {κ:A6} {h:Heap} {w:World}:∀(t:Ty) (get:Nat->Option Value) (y:t.den),RepAt w (A4 L κ h w) t get y ->
  ∀(c:Nat) (s:SV),(H1 t y)[c]? = some s->∃v,get c=some v/\RepSV L κ h w s v/\v.oneCell'=true
 | .int k,get,y,g,c,s,d=>by
  cases c with
  | succ c=>grind[H1]
  | zero=>simp[H1]at d;subst d;exact⟨_,g,⟨rfl,rfl,rfl⟩,rfl⟩
 | .bool,get,y,g,c,s,d=>by
  cases c with
  | succ c=>grind[H1]
  | zero=>simp[H1]at d;subst d;exact⟨_,g,⟨rfl,rfl,rfl⟩,rfl⟩
 | .nil,get,y,g,c,s,d=>by grind[H1]
 | .list e,get,y,g,c,s,d=>by
  cases c with
  | succ c=>grind[H1]
  | zero =>
   simp[H1]at d;subst d;obtain⟨r,j,i,l,f⟩:=g;exact⟨_,l,⟨rfl,rfl,r,j,i,rfl,f⟩,rfl⟩
 | .cons a b,get,y,g,c,s,d=>by
  have u:=q16 a y.1;simp[H1]at d;by_cases p:c<a.size
  ·rw[aH (by omega)]at d;exact q26 a get y.1 g.1 c s d
  ·rw[aP (by omega)]at d;obtain⟨v,m,q⟩:=q26 b _ y.2 g.2 (c-(H1 a y.1).length) s d;refine⟨v,?_,q⟩;rw[show a.size+(c-(H1 a y.1).length)=c from by omega]at m;exact m
 | .map z x k v,get,y,g,c,s,d=>by
  cases c with
  | succ c=>grind[H1]
  | zero =>
   simp[H1]at d;subst d;obtain⟨b,n,o,l,f⟩:=g;exact⟨_,l,⟨rfl,rfl,b,n,o,rfl,f⟩,rfl⟩
theorem H9 {t a:Ty} {x:t.den} {y:a.den} (h:H0 t a x=some y):∃e:t=a,(e▸x:a.den)=y:=by
 unfold H0 at h;split at h
 all_goals grind
theorem y1g (ok:HeapOK L w0 κ h w) (x:Ext L κ h w κ h' w') (e:Ty) (s:SV) (v:Value) (hr:RepSV L κ h w s v) {l:List e.den} (hl:C2 h e s=some l) (hid:∀id∈H3 s,∀b c,κ id=some (b,c)->A4 L κ h' w' b/\w'.heap[b]? = w.heap[b]?):RepAt w' (A4 L κ h' w') (.list e) (E6 v) l:=by
 cases s with
 | nils =>
  simp[C2]at hl;subst hl;simp only[RepSV]at hr;subst hr;exact⟨none,0,0,rfl,rfl,ax _,λhne=>absurd rfl hne⟩
 | sc t y =>
  simp only[C2]at hl;obtain⟨he,hy⟩:=H9 hl;subst he;subst hy;exact RepAt.ext x hr.2.2
 | ne t y =>
  simp only[C2]at hl;obtain⟨he,hy⟩:=H9 hl;cases he;change y=l at hy;subst hy;exact RepAt.ext x hr.2.1
 | nx=>simp[C2]at hl
 | own id =>
  simp only[C2]at hl;have key:∀(e':TypeId) (t:Ty) (l':List t.den),(h id=.arr e' t l'\/h id=.ice e' t l')->H0 (.list t) (.list e) l'=some l->RepAt w' (A4 L κ h' w') (.list e) (E6 v) l:=by
   intro e' t l' ho hc;obtain⟨he,hy⟩:=H9 hc;cases he;change l'=l at hy;subst hy;have hrep:RepArr L κ h w id e' e l':=by
    have:=ok.obj id;rcases ho with ho | ho<;>rw[ho]at this
    ·exact this
    ·exact this.1
   have hv:(κ id=none/\l'=[]/\v=.slice none 0 0)\/∃b cap,κ id=some (b,cap)/\v=.slice (some ⟨b,cap.2,none⟩) l'.length cap.1:=by
    simp only[RepSV]at hr;rcases ho with ho | ho<;>rw[ho]at hr<;>exact hr.1
   rcases hv with⟨hk,hnil,hv⟩ | ⟨b,cap,hk,hv⟩
   ·subst hnil;subst hv;exact⟨none,0,0,rfl,rfl,ax _,λhne=>absurd rfl hne⟩
   ·rcases hrep with⟨hk',_⟩ | ⟨b',cap',cur,hk',hcell,hsz,hcm,hle,h1,hel⟩
    ·rw[hk]at hk';cases hk'
    ·rw[hk]at hk';simp at hk';obtain⟨rfl,rfl⟩:=hk';obtain⟨hfree,hheap⟩:=hid id (by simp[H3]) b cap hk;refine⟨some ⟨b,cap.2,none⟩,l'.length,cap.1,by rw[hv];rfl,rfl,hle,λ_=>⟨b,cap.2,rfl,hfree,λi y hy=>?_⟩⟩;refine RepAt.congr e _ _ y (λc hc=>?_) (RepAt.ext x (hel i y hy));simp only[hc,if_true];simp[World.cell?,hheap,hcell,bT]
  cases ho:h id with
  | arr e' t l'=>rw[ho]at hl;exact key e' t l' (.inl ho) hl
  | ice e' t l'=>rw[ho]at hl;exact key e' t l' (.inr ho) hl
  | _=>rw[ho]at hl;simp at hl
 | sub id off len =>
  simp only[C2]at hl;have key:∀(e':TypeId) (t:Ty) (l':List t.den),(h id=.arr e' t l'\/h id=.ice e' t l')->H0 (.list t) (.list e) ((l'.drop off).take len)=some l->RepAt w' (A4 L κ h' w') (.list e) (E6 v) l:=by
   intro e' t l' ho hc;obtain⟨he,hy⟩:=H9 hc;cases he;change (l'.drop off).take len=l at hy;subst hy;have hrep:RepArr L κ h w id e' e l':=by
    have:=ok.obj id;rcases ho with ho | ho<;>rw[ho]at this
    ·exact this
    ·exact this.1
   have hv:off+len<=l'.length/\((κ id=none/\v=.slice none 0 0)\/∃b cap o,κ id=some (b,cap)/\v=.slice (some ⟨b,o,none⟩) len (cap.1-off)/\(o=cap.2+off*e.size\/cap.1<=off/\o<=cap.2+cap.1*e.size)):=by
    simp only[RepSV]at hr;rcases ho with ho | ho<;>rw[ho]at hr<;>exact hr.1
   obtain⟨hle',hv⟩:=hv;have hlen:((l'.drop off).take len).length=len:=by simp;omega
   rcases hv with⟨hk,hv⟩ | ⟨b,cap,o,hk,hv,ho'⟩
   ·rcases hrep with⟨_,hnil⟩ | ⟨b',cap',cur,hk',_⟩
    ·subst hnil;subst hv;refine⟨none,0,0,rfl,by simp,ax _,λhne=>absurd (by simp) hne⟩
    ·rw[hk]at hk';cases hk'
   ·rcases hrep with⟨hk',_⟩ | ⟨b',cap',cur,hk',hcell,hsz,hcm,hle,h1,hel⟩
    ·rw[hk]at hk';cases hk'
    ·rw[hk]at hk';simp at hk';obtain⟨rfl,rfl⟩:=hk';obtain⟨hfree,hheap⟩:=hid id (by simp[H3]) b cap hk;refine⟨some ⟨b,o,none⟩,len,cap.1-off,by rw[hv];rfl,hlen.symm,by omega,λhne=>⟨b,o,rfl,hfree,λi y hy=>?_⟩⟩;have hi:i<len:=by
      have:=(ag.1 hy).1;omega
     have ho'':=ho'.resolve_right (by omega);have hy':l'[off+i]? = some y:=by
      rw[aV hi,aT]at hy;exact hy
     refine RepAt.congr e _ _ y (λc hc=>?_) (RepAt.ext x (hel (off+i) y hy'));simp only[hc,if_true];rw[ho''];simp[World.cell?,hheap,hcell,bH,bT]
  cases ho:h id with
  | arr e' t l'=>rw[ho]at hl;exact key e' t l' (.inl ho) hl
  | ice e' t l'=>rw[ho]at hl;exact key e' t l' (.inr ho) hl
  | _=>rw[ho]at hl;simp at hl
 | unk=>simp[C2]at hl
 | ptr _ _=>simp[C2]at hl
 | eptr _ _ _ _=>simp[C2]at hl
 | ro _ _ _=>simp[C2]at hl
 | fn _ _=>simp[C2]at hl
 | yld _=>simp[C2]at hl
 | nilp=>simp[C2]at hl
 | udf=>simp[C2]at hl
 | gl _=>simp[C2]at hl
 | gp _ _=>simp[C2]at hl
 | cstr _=>simp[C2]at hl
 | bfn _ _ _=>simp[C2]at hl
 | bfp _ _ _=>simp[C2]at hl
 | ifc _ _ _=>simp[C2]at hl
 | nif=>simp[C2]at hl
 | nilf=>simp[C2]at hl
 | pan _=>simp[C2]at hl
 | mp _=>simp[C2]at hl
 | mpn=>simp[C2]at hl
 | stmp _=>simp[C2]at hl
 | csl _ _ _ _=>simp[C2]at hl
 | ts _ _=>simp[C2]at hl
 | tp _ _ _=>simp[C2]at hl
end Go.Abs
