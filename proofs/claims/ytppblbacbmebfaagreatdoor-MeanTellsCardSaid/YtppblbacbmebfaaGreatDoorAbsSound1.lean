/- The engine, part 4: what the evaluator says of one operation is what the machine does. -/
import Derived.Test.YtppblbacbmebfaaGreatDoorAbsHeap
namespace Go.Abs
open Go Go.RowKit
def SV.isConst:SV->Value->Prop
 | .sc t x,v=>t.size=1/\v.oneCell'=true/\(match t,x with
  | .int k,n=>v=.int k n
  | .bool,b=>v=.bool b
  | _,_=>False)
 | .nils,v=>v=.slice none 0 0
 | .nilp,v=>v=.pointer none
 | .cstr b,v=>v=.string b
 | .mpn,v=>v=.map none
 | .nilf,v=>v=.nilFunc
 | _,_=>False
def V7:TypeDesc->Bool
 | .struct _ | .array _ _=>true
 | _=>false
def q4d:Value->Bool
 | .agg _=>true
 | _=>false
structure TInfo.Base (P:Program) (t:TypeId) (ti:TInfo):Prop where
 info:∃ i z,P.info? t=some i/\i.size=ti.size/\i.bytes=ti.bytes/\i.zero=some z/\z.cells.size=ti.size/\ti.zeros.length=ti.size /\
  (∀ (j:Nat) (s:SV) (c:Value),ti.zeros[j]? = some s->z.cells[j]? = some c->s.isConst c)
 und:∃ d,P.underlying t=some d/\V7 d=ti.agg /\
  (ti.elem=none\/∃ e,ti.elem=some e/\d=.slice e) /\
  (∀ k,ti.agg=false->ti.ty=.int k->d=.int k) /\
  (ti.str=true->∃ fs,d=.struct fs/\fs.size=ti.flds.length/\∀ (f:Nat) (fi:FI),ti.flds[f]? = some fi->∃ fd i' d',fs[f]? = some fd/\fd.offset=fi.off /\
   P.info? fd.type=some i'/\i'.size=fi.size/\P.underlying fd.type=some d'/\V7 d'=fi.agg)
def O9 (g:TypeId->Option (List (Nat×Bool))) (sz:TypeId->Nat) (n:Nat):List (Nat×TypeId)->Option (List (Nat×Bool))
 | []=>some []
 | (off,t)::r=>match g t,O9 g sz n r with
  | some l,some l'=>cond (Nat.ble (off+sz t) n) (some (l.map (fun p=>(p.1+off,p.2))++l')) none
  | _,_=>none
def q0h (P:Program):Nat->TypeId->Option (List (Nat×Bool))
 | 0,_=>none
 | n+1,t=>match P.underlying t with
  | some .bool=>cond (Nat.beq (P.cellsOf t) 1) (some [(0,true)]) none
  | some (.int _)=>cond (Nat.beq (P.cellsOf t) 1) (some [(0,false)]) none
  | some (.struct fs)=>cond (P.stoodInHeld t||fs.toList.any fun f=>f.name== "_") none (O9 (q0h P n) P.cellsOf (P.cellsOf t) (fs.toList.map fun f=>(f.offset,f.type)))
  | some (.array k e)=>cond (P.info? e).isSome (O9 (q0h P n) P.cellsOf (P.cellsOf t) ((List.range k).map fun i=>(i*P.cellsOf e,e))) none
  | _=>none
structure TInfo.OK (P:Program) (t:TypeId) (ti:TInfo):Prop where
 base:ti.Base P t
 boolT:ti.agg=false->ti.ty=.bool->P.underlying t=some .bool
 strT:ti.strg=true->P.underlying t=some .string
 mapT:∀ k e,ti.mp=some (k,e)->P.underlying t=some (.map k e)
 zeroT:∀ i z,P.info? t=some i->i.zero=some z->q4d z=ti.agg
 eqT:∀ l,ti.eqo=some l->q0h P 20 t=some l/\P.eqGuardType P.depth t=false/\ti.agg=true/\P.cellsOf t=ti.size
 arrT:∀ n e,ti.arr=some (n,e)->P.underlying t=some (.array n e)/\∃ i d,P.info? e=some i/\P.underlying e=some d/\∀ (j:Nat) (fi:FI),ti.flds[j]? = some fi->fi.off=j*i.size/\fi.size=i.size
variable {P:Program} {L:Nat->Prop} {w0:World}
def q29 (L:Nat->Prop) (κ:A2) (h:Heap) (w:World) (ρ:Env) (a:Act):Prop:=∀ t,RepAV L κ h w (ρ t) (a.tmps.getD t undef)
def pv (T:TypeId):PanicEntry:={ v:=.iface T (.agg #[]),recovered:=false }
def j2b (L:Nat->Prop) (w0:World) (κ:A2) (h:Heap) (w:World) (h':Heap) (av:AV) (a:Act) (Q:Exit->Act->World->Prop):Prop :=
 ∀ T,av=.one (.pan T)->∀ κ' w',HeapOK L w0 κ' (upd h' C0 .fresh) w'->Ext L κ h w κ' (upd h' C0 .fresh) w'->Q (.panic [pv T]) a w'
theorem j5k {κ:A2} {h:Heap} {w:World} {T:TypeId} (i:HeapOK L w0 κ h w) (d:h C0=K5 T):False:=by
 have:=i.obj C0
 rw[d]at this
 obtain⟨b,c,f,j,-,-,g,e⟩:=this
 match f,g with
 | [u],_=>exact(e 0 _ u rfl rfl).1
def A6 (P:Program) (L:Nat->Prop) (w0:World) (o:Oper) (ρ:Env) (h h':Heap) (av:AV):Prop :=
 ∀ (r:Option Nat) κ (a:Act) w,q29 L κ h w ρ a->HeapOK L w0 κ h w->∀ (m:Nat) (K:Act->World->Prop) (Q:Exit->Act->World->Prop),
  (∀ κ' v w',HeapOK L w0 κ' h' w'->RepAV L κ' h' w' av v->Ext L κ h w κ' h' w'->K (a.put o.dst v) w')->j2b L w0 κ h w h' av a Q->o.wpIn (Fr r) m P a w K Q
theorem SV.isConst.rep {κ:A2} {h:Heap} {w:World}:∀ {s:SV} {v:Value},s.isConst v->RepSV L κ h w s v/\v.oneCell'=true
 | .sc (.int k) n,v,⟨f,d,c⟩=>⟨⟨f,d,by subst c;rfl⟩,d⟩
 | .sc .bool b,v,⟨f,d,c⟩=>⟨⟨f,d,by subst c;rfl⟩,d⟩
 | .sc (.list e) b,v,⟨f,d,c⟩=>c.elim
 | .sc .nil b,v,⟨f,d,c⟩=>c.elim
 | .sc (.cons _ _) b,v,⟨f,d,c⟩=>c.elim
 | .nils,v,a=>⟨a,by rw[show v=_ from a];rfl⟩
 | .nilp,v,a=>⟨a,by rw[show v=_ from a];rfl⟩
 | .cstr b,v,a=>⟨a,by rw[show v=_ from a];rfl⟩
 | .mpn,v,a=>⟨a,by rw[show v=_ from a];rfl⟩
 | .nilf,v,a=>⟨a,by rw[show v=_ from a];rfl⟩
theorem H6 {κ:A2} {h:Heap} {w:World} (k:IntKind) (n:Int):RepAV L κ h w (F0 k n) (.int k n):=⟨rfl,rfl,rfl⟩
theorem P6 {κ:A2} {h:Heap} {w:World} (b:Bool):RepAV L κ h w (H8 b) (.bool b):=⟨rfl,rfl,rfl⟩
theorem H7 {κ:A2} {h:Heap} {w:World} {k:IntKind} {n:Int} {v:Value} (a:RepAV L κ h w (.one (.sc (.int k) n)) v):v=.int k n:=by
 obtain⟨_,_,b⟩:=a
 grind[RepAt,F7]
theorem q0s {κ:A2} {h:Heap} {w:World} {b:Bool} {v:Value} (a:RepAV L κ h w (.one (.sc .bool b)) v):v=.bool b:=by
 obtain⟨_,_,c⟩:=a
 grind[RepAt,F7]
theorem N7 {κ:A2} {h:Heap} {w:World} {ρ:Env} {a:Act} (b:q29 L κ h w ρ a):∀ x,RepAV L κ h w (ev ρ x) (a.eval x)
 | .tmp t=>b t
 | .const v=>by
  show RepAV L κ h w (j0d v) v
  unfold j0d
  split
  ·exact H6 _ _
  ·exact P6 _
  ·rfl
  ·rfl
  ·rfl
  ·rfl
  ·rfl
  ·trivial
 | .func f=>⟨[],by rfl,rfl,fun i p c=>by grind⟩
 | .global _=>rfl
theorem j22 {r:Option Nat} {o:Oper} {a:Act} {w w':World} {m:Nat} {K:Act->World->Prop} {Q:Exit->Act->World->Prop} {v:Value}
  (d:∀ c,o.op≠.defer c) (h:(execOp a.eval o).run P w=.ok (.value v) w') (b:K (a.put o.dst v) w'):o.wpIn (Fr r) m P a w K Q:=by
 refine⟨fun _ _=>trivial,?_⟩
 rw[Oper.semAt_eq _ _ _ d,h]
 exact b
theorem v7l {r:Option Nat} {o:Oper} {a:Act} {w w':World} {m:Nat} {K:Act->World->Prop} {Q:Exit->Act->World->Prop}
  (d:∀ c,o.op≠.defer c) (h:(execOp a.eval o).run P w=.ok .skip w') (b:K (a.put o.dst undef) w'):o.wpIn (Fr r) m P a w K Q:=by
 refine⟨fun _ _=>trivial,?_⟩
 rw[Oper.semAt_eq _ _ _ d,h]
 exact b
theorem D1 {o:Oper} {ρ:Env} {h:Heap} {av:AV} (f:∀ c,o.op≠.defer c)
  (H:∀ b (a:Act) w,(∀ x,RepAV L b h w (ev ρ x) (a.eval x))->HeapOK L w0 b h w->∃ v,(execOp a.eval o).run P w=.ok (.value v) w/\RepAV L b h w av v) :
  A6 P L w0 o ρ h h av:=by
 intro r b a w d ok m K Q g _
 obtain⟨v,e,i⟩:=H b a w (N7 d) ok
 grind[j22,Ext.refl]
theorem I4 {o:Oper} {ρ:Env} {h h':Heap} {av:AV} (k:∀ c,o.op≠.defer c)
  (H:∀ d (a:Act) w,(∀ x,RepAV L d h w (ev ρ x) (a.eval x))->HeapOK L w0 d h w->∃ b v e,(execOp a.eval o).run P w=.ok (.value v) e /\
   HeapOK L w0 b h' e/\RepAV L b h' e av v/\Ext L d h w b h' e) :
  A6 P L w0 o ρ h h' av:=by
 intro r d a w f ok m K Q l _
 obtain⟨b,v,e,j,n,g,i⟩:=H d a w (N7 f) ok
 grind[j22]
theorem q0n {o:Oper} {ρ:Env} {h h':Heap} (j:∀ c,o.op≠.defer c)
  (H:∀ e (a:Act) w,(∀ x,RepAV L e h w (ev ρ x) (a.eval x))->HeapOK L w0 e h w->∃ b d,(execOp a.eval o).run P w=.ok .skip d /\
   HeapOK L w0 b h' d/\Ext L e h w b h' d) :
  A6 P L w0 o ρ h h' (.one .unk):=by
 intro r e a w i ok m K Q k _
 obtain⟨b,d,g,l,f⟩:=H e a w (N7 i) ok
 exact v7l j g (k b undef d l trivial f)
theorem R2:∀ (t:Ty) (y:t.den),(F6 t y).length=t.size
 | .int _,_=>rfl
 | .bool,_=>rfl
 | .list _,_=>rfl
 | .nil,_=>rfl
 | .cons a b,y=>by simp[F6,Ty.size,R2 a y.1,R2 b y.2]
 | .map _ _ _ _,_=>rfl
theorem T2 {κ:A2} {h:Heap} {w:World}:∀ (t:Ty) (get:Nat->Option Value) (y:t.den),RepAt w (A3 L κ h w) t get y ->
  ∀ (c:Nat) (s:SV),(F6 t y)[c]? = some s->∃ v,get c=some v/\RepSV L κ h w s v/\v.oneCell'=true
 | .int k,get,y,g,c,s,d=>by
  cases c with
  | succ c=>grind[F6]
  | zero=>simp[F6]at d;subst d;exact⟨_,g,⟨rfl,rfl,rfl⟩,rfl⟩
 | .bool,get,y,g,c,s,d=>by
  cases c with
  | succ c=>grind[F6]
  | zero=>simp[F6]at d;subst d;exact⟨_,g,⟨rfl,rfl,rfl⟩,rfl⟩
 | .nil,get,y,g,c,s,d=>by grind[F6]
 | .list e,get,y,g,c,s,d=>by
  cases c with
  | succ c=>grind[F6]
  | zero =>
   simp[F6]at d;subst d
   obtain⟨r,j,i,l,f⟩:=g
   exact⟨_,l,⟨rfl,rfl,r,j,i,rfl,f⟩,rfl⟩
 | .cons a b,get,y,g,c,s,d=>by
  have u:=R2 a y.1
  simp[F6]at d
  by_cases p:c<a.size
  ·rw[List.getElem?_append_left (by omega)]at d
   exact T2 a get y.1 g.1 c s d
  ·rw[List.getElem?_append_right (by omega)]at d
   obtain⟨v,m,q⟩:=T2 b _ y.2 g.2 (c-(F6 a y.1).length) s d
   refine⟨v,?_,q⟩
   rw[show a.size+(c-(F6 a y.1).length)=c from by omega]at m
   exact m
 | .map z x k v,get,y,g,c,s,d=>by
  cases c with
  | succ c=>grind[F6]
  | zero =>
   simp[F6]at d;subst d
   obtain⟨b,n,o,l,f⟩:=g
   exact⟨_,l,⟨rfl,rfl,b,n,o,rfl,f⟩,rfl⟩
theorem H2 {t a:Ty} {x:t.den} {y:a.den} (h:G2 t a x=some y):∃ e:t=a,(e▸x:a.den)=y:=by
 unfold G2 at h
 split at h
 all_goals grind
theorem j64 {κ:A2} {h h':Heap} {w w':World} (V:HeapOK L w0 κ h w) (x:Ext L κ h w κ h' w') (e:Ty) (s:SV) (v:Value) (M:RepSV L κ h w s v)
  {l:List e.den} (C:B7 h e s=some l)
  (I:∀ id∈G9 s,∀ b c,κ id=some (b,c)->A3 L κ h' w' b/\w'.heap[b]? = w.heap[b]?):RepAt w' (A3 L κ h' w') (.list e) (F7 v) l:=by
 cases s with
 | nils =>
  simp[B7]at C;subst C
  simp[RepSV]at M;subst M
  exact⟨none,0,0,rfl,rfl,Nat.le_refl _,fun p=>absurd rfl p⟩
 | sc t y =>
  simp[B7]at C
  obtain⟨F,r⟩:=H2 C
  subst F;subst r
  exact RepAt.ext x M.2.2
 | ne t y =>
  simp[B7]at C
  obtain⟨F,r⟩:=H2 C
  cases F
  change y=l at r
  subst r
  exact RepAt.ext x M.2.1
 | nx=>grind[B7]
 | own id =>
  simp[B7]at C
  have O:∀ (A:TypeId) (t:Ty) (f:List t.den),(h id=.arr A t f\/h id=.ice A t f)->G2 (.list t) (.list e) f=some l->RepAt w' (A3 L κ h' w') (.list e) (F7 v) l:=by
   intro A t f z Q
   obtain⟨F,r⟩:=H2 Q
   cases F
   change f=l at r
   subst r
   have n:RepArr L κ h w id A e f:=by
    have:=V.obj id
    rcases z with z | z<;>rw[z]at this
    ·exact this
    ·exact this.1
   have q:(κ id=none/\f=[]/\v=.slice none 0 0)\/∃ b a,κ id=some (b,a)/\v=.slice (some ⟨b,a.2,none⟩) f.length a.1:=by
    grind[RepSV]
   rcases q with⟨E,u,q⟩ | ⟨b,a,E,q⟩
   ·subst u;subst q
    exact⟨none,0,0,rfl,rfl,Nat.le_refl _,fun p=>absurd rfl p⟩
   ·rcases n with⟨d,_⟩ | ⟨T,B,H,d,G,N,R,J,W,S⟩
    ·grind
    ·rw[E]at d;simp at d;obtain⟨rfl,rfl⟩:=d
     obtain⟨k,D⟩:=I id (by simp[G9]) b a E
     refine⟨some ⟨b,a.2,none⟩,f.length,a.1,by rw[q];rfl,rfl,J,fun _=>⟨b,a.2,rfl,k,fun i y r=>?_⟩⟩
     grind[RepAt.ext,World.cell?]
  grind
 | sub id m j =>
  simp[B7]at C
  have O:∀ (A:TypeId) (t:Ty) (f:List t.den),(h id=.arr A t f\/h id=.ice A t f)->G2 (.list t) (.list e) ((f.drop m).take j)=some l->RepAt w' (A3 L κ h' w') (.list e) (F7 v) l:=by
   intro A t f z Q
   obtain⟨F,r⟩:=H2 Q
   cases F
   change (f.drop m).take j=l at r
   subst r
   have n:RepArr L κ h w id A e f:=by
    have:=V.obj id
    rcases z with z | z<;>rw[z]at this
    ·exact this
    ·exact this.1
   have q:m+j<=f.length/\((κ id=none/\v=.slice none 0 0)\/∃ b a o,κ id=some (b,a)/\v=.slice (some ⟨b,o,none⟩) j (a.1-m)/\(j≠0->o=a.2+m*e.size)):=by
    grind[RepSV]
   obtain⟨U,q⟩:=q
   have K:((f.drop m).take j).length=j:=by grind
   rcases q with⟨E,q⟩ | ⟨b,a,o,E,q,X⟩
   ·rcases n with⟨_,u⟩ | ⟨T,B,H,d,_⟩
    ·subst u;subst q
     refine⟨none,0,0,rfl,by simp,Nat.le_refl _,fun p=>absurd (by simp) p⟩
    grind
   ·rcases n with⟨d,_⟩ | ⟨T,B,H,d,G,N,R,J,W,S⟩
    ·grind
    ·rw[E]at d;obtain⟨rfl,rfl⟩:=d
     obtain⟨k,D⟩:=I id (by simp[G9]) b a E
     refine⟨some ⟨b,o,none⟩,j,a.1-m,by rw[q];rfl,K.symm,by omega,fun p=>⟨b,o,rfl,k,fun i y r=>?_⟩⟩
     grind[RepAt.ext,World.cell?]
  grind
 | unk=>grind[B7]
 | ptr _ _=>grind[B7]
 | eptr _ _ _ _=>grind[B7]
 | ro _ _ _=>grind[B7]
 | fn _ _=>grind[B7]
 | yld _=>grind[B7]
 | nilp=>grind[B7]
 | udf=>grind[B7]
 | gl _=>grind[B7]
 | gp _ _=>grind[B7]
 | cstr _=>grind[B7]
 | bfn _ _ _=>grind[B7]
 | bfp _ _ _=>grind[B7]
 | ifc _ _ _=>grind[B7]
 | nif=>grind[B7]
 | nilf=>grind[B7]
 | pan _=>grind[B7]
 | mp _=>grind[B7]
 | mpn=>grind[B7]
 | stmp _=>grind[B7]
 | csl _ _ _ _=>grind[B7]
end Go.Abs
