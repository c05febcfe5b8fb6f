/- The engine, part 4: what the evaluator says of one operation is what the machine does. -/
import Derived.Test.YtkfjlcdaepckoaaAbsHeap
namespace Go.Abs
open Go Go.RowKit
def SV.isConst:SV->Value->Prop
 | .sc t x,v=>t.size=1/\v.oneCell'=true/\(match t,x with
  | .int k,n=>v=.int k n
  | .bool,b=>v=.bool b
  | _,_=>False)
 | .nils,v=>v=.slice none 0 0
 | .nilp,v=>v=.pointer none
 | .cstr b,v=>v=.string b
 | .mpn,v=>v=.map none
 | .nilf,v=>v=.nilFunc
 | _,_=>False
def P7:TypeDesc->Bool
 | .struct _ | .array _ _=>true
 | _=>false
def q34:Value->Bool
 | .agg _=>true
 | _=>false
structure TInfo.Base (P:Program) (t:TypeId) (ti:TInfo):Prop where
 info:∃ i z,P.info? t=some i/\i.size=ti.size/\i.bytes=ti.bytes/\i.zero=some z/\z.cells.size=ti.size/\ti.zeros.length=ti.size /\
  (∀ (j:Nat) (s:SV) (c:Value),ti.zeros[j]? = some s->z.cells[j]? = some c->s.isConst c)
 und:∃ d,P.underlying t=some d/\P7 d=ti.agg /\
  (ti.elem=none\/∃ e,ti.elem=some e/\d=.slice e) /\
  (∀ k,ti.agg=false->ti.ty=.int k->d=.int k) /\
  (ti.str=true->∃ fs,d=.struct fs/\fs.size=ti.flds.length/\∀ (f:Nat) (fi:FI),ti.flds[f]? = some fi->∃ fd i' d',fs[f]? = some fd/\fd.offset=fi.off /\
   P.info? fd.type=some i'/\i'.size=fi.size/\P.underlying fd.type=some d'/\P7 d'=fi.agg)
def L8 (g:TypeId->Option (List (Nat×Bool))) (sz:TypeId->Nat) (n:Nat):List (Nat×TypeId)->Option (List (Nat×Bool))
 | []=>some []
 | (off,t)::r=>match g t,L8 g sz n r with
  | some l,some l'=>cond (Nat.ble (off+sz t) n) (some (l.map (fun p=>(p.1+off,p.2))++l')) none
  | _,_=>none
def T8 (P:Program):Nat->TypeId->Option (List (Nat×Bool))
 | 0,_=>none
 | n+1,t=>match P.underlying t with
  | some .bool=>cond (Nat.beq (P.cellsOf t) 1) (some [(0,true)]) none
  | some (.int _)=>cond (Nat.beq (P.cellsOf t) 1) (some [(0,false)]) none
  | some (.struct fs)=>cond (P.stoodInHeld t||fs.toList.any fun f=>f.name== "_") none (L8 (T8 P n) P.cellsOf (P.cellsOf t) (fs.toList.map fun f=>(f.offset,f.type)))
  | some (.array k e)=>cond (P.info? e).isSome (L8 (T8 P n) P.cellsOf (P.cellsOf t) ((List.range k).map fun i=>(i*P.cellsOf e,e))) none
  | _=>none
structure TInfo.OK (P:Program) (t:TypeId) (ti:TInfo):Prop where
 base:ti.Base P t
 boolT:ti.agg=false->ti.ty=.bool->P.underlying t=some .bool
 strT:ti.strg=true->P.underlying t=some .string
 mapT:∀ k e,ti.mp=some (k,e)->P.underlying t=some (.map k e)
 zeroT:∀ i z,P.info? t=some i->i.zero=some z->q34 z=ti.agg
 eqT:∀ l,ti.eqo=some l->T8 P 20 t=some l/\P.eqGuardType P.depth t=false/\ti.agg=true/\P.cellsOf t=ti.size
 arrT:∀ n e,ti.arr=some (n,e)->P.underlying t=some (.array n e)/\∃ i d,P.info? e=some i/\P.underlying e=some d/\∀ (j:Nat) (fi:FI),ti.flds[j]? = some fi->fi.off=j*i.size/\fi.size=i.size
variable {P:Program} {L:Nat->Prop} {w0:World}
def Y7 (L:Nat->Prop) (κ:A2) (h:Heap) (w:World) (ρ:Env) (a:Act):Prop:=∀ t,RepAV L κ h w (ρ t) (a.tmps.getD t undef)
def pv (T:TypeId):PanicEntry:={ v:=.iface T (.agg #[]),recovered:=false }
def z45 (L:Nat->Prop) (w0:World) (κ:A2) (h:Heap) (w:World) (h':Heap) (av:AV) (a:Act) (Q:Exit->Act->World->Prop):Prop :=
 ∀ T,av=.one (.pan T)->∀ κ' w',HeapOK L w0 κ' (upd h' B6 .fresh) w'->Ext L κ h w κ' (upd h' B6 .fresh) w'->Q (.panic [pv T]) a w'
theorem z7a {κ:A2} {h:Heap} {w:World} {T:TypeId} (ok:HeapOK L w0 κ h w) (hb:h B6=I9 T):False:=by
 have:=ok.obj B6
 rw[hb]at this
 obtain⟨b,c,cs,ty,-,-,h3,h4⟩:=this
 match cs,h3 with
 | [u],_=>exact(h4 0 _ u rfl rfl).1
def A6 (P:Program) (L:Nat->Prop) (w0:World) (o:Oper) (ρ:Env) (h h':Heap) (av:AV):Prop :=
 ∀ (r:Option Nat) κ (a:Act) w,Y7 L κ h w ρ a->HeapOK L w0 κ h w->∀ (m:Nat) (K:Act->World->Prop) (Q:Exit->Act->World->Prop),
  (∀ κ' v w',HeapOK L w0 κ' h' w'->RepAV L κ' h' w' av v->Ext L κ h w κ' h' w'->K (a.put o.dst v) w')->z45 L w0 κ h w h' av a Q->o.wpIn (Fr r) m P a w K Q
theorem SV.isConst.rep {κ:A2} {h:Heap} {w:World}:∀ {s:SV} {v:Value},s.isConst v->RepSV L κ h w s v/\v.oneCell'=true
 | .sc (.int k) n,v,⟨h1,h2,h3⟩=>⟨⟨h1,h2,by simp only at h3;subst h3;rfl⟩,h2⟩
 | .sc .bool b,v,⟨h1,h2,h3⟩=>⟨⟨h1,h2,by simp only at h3;subst h3;rfl⟩,h2⟩
 | .sc (.list e) b,v,⟨h1,h2,h3⟩=>h3.elim
 | .sc .nil b,v,⟨h1,h2,h3⟩=>h3.elim
 | .sc (.cons _ _) b,v,⟨h1,h2,h3⟩=>h3.elim
 | .nils,v,hv=>⟨hv,by rw[show v=_ from hv];rfl⟩
 | .nilp,v,hv=>⟨hv,by rw[show v=_ from hv];rfl⟩
 | .cstr b,v,hv=>⟨hv,by rw[show v=_ from hv];rfl⟩
 | .mpn,v,hv=>⟨hv,by rw[show v=_ from hv];rfl⟩
 | .nilf,v,hv=>⟨hv,by rw[show v=_ from hv];rfl⟩
theorem G7 {κ:A2} {h:Heap} {w:World} (k:IntKind) (n:Int):RepAV L κ h w (D8 k n) (.int k n):=⟨rfl,rfl,rfl⟩
theorem M2 {κ:A2} {h:Heap} {w:World} (b:Bool):RepAV L κ h w (G3 b) (.bool b):=⟨rfl,rfl,rfl⟩
theorem G2 {κ:A2} {h:Heap} {w:World} {k:IntKind} {n:Int} {v:Value} (hr:RepAV L κ h w (.one (.sc (.int k) n)) v):v=.int k n:=by
 obtain⟨_,_,h3⟩:=hr
 simpa[RepAt,E3]using h3
theorem V1 {κ:A2} {h:Heap} {w:World} {b:Bool} {v:Value} (hr:RepAV L κ h w (.one (.sc .bool b)) v):v=.bool b:=by
 obtain⟨_,_,h3⟩:=hr
 simpa[RepAt,E3]using h3
theorem L4 {κ:A2} {h:Heap} {w:World} {ρ:Env} {a:Act} (he:Y7 L κ h w ρ a):∀ x,RepAV L κ h w (ev ρ x) (a.eval x)
 | .tmp t=>he t
 | .const v=>by
  show RepAV L κ h w (z2o v) v
  unfold z2o
  split
  ·exact G7 _ _
  ·exact M2 _
  ·rfl
  ·rfl
  ·rfl
  ·rfl
  ·rfl
  ·trivial
 | .func f=>⟨[],by simp[Act.eval],rfl,fun i p hp=>by simp at hp⟩
 | .global _=>rfl
theorem z3w {r:Option Nat} {o:Oper} {a:Act} {w w':World} {m:Nat} {K:Act->World->Prop} {Q:Exit->Act->World->Prop} {v:Value}
  (hd:∀ c,o.op≠.defer c) (h:(execOp a.eval o).run P w=.ok (.value v) w') (hK:K (a.put o.dst v) w'):o.wpIn (Fr r) m P a w K Q:=by
 refine⟨fun _ _=>trivial,?_⟩
 rw[Oper.semAt_eq _ _ _ hd,h]
 exact hK
theorem y4n {r:Option Nat} {o:Oper} {a:Act} {w w':World} {m:Nat} {K:Act->World->Prop} {Q:Exit->Act->World->Prop}
  (hd:∀ c,o.op≠.defer c) (h:(execOp a.eval o).run P w=.ok .skip w') (hK:K (a.put o.dst undef) w'):o.wpIn (Fr r) m P a w K Q:=by
 refine⟨fun _ _=>trivial,?_⟩
 rw[Oper.semAt_eq _ _ _ hd,h]
 exact hK
theorem C6 {o:Oper} {ρ:Env} {h:Heap} {av:AV} (hd:∀ c,o.op≠.defer c)
  (H:∀ κ (a:Act) w,(∀ x,RepAV L κ h w (ev ρ x) (a.eval x))->HeapOK L w0 κ h w->∃ v,(execOp a.eval o).run P w=.ok (.value v) w/\RepAV L κ h w av v) :
  A6 P L w0 o ρ h h av:=by
 intro r κ a w he ok m K Q hK _
 obtain⟨v,h1,h2⟩:=H κ a w (L4 he) ok
 exact z3w hd h1 (hK κ v w ok h2 (Ext.refl _ _ _ _))
theorem I3 {o:Oper} {ρ:Env} {h h':Heap} {av:AV} (hd:∀ c,o.op≠.defer c)
  (H:∀ κ (a:Act) w,(∀ x,RepAV L κ h w (ev ρ x) (a.eval x))->HeapOK L w0 κ h w->∃ κ' v w',(execOp a.eval o).run P w=.ok (.value v) w' /\
   HeapOK L w0 κ' h' w'/\RepAV L κ' h' w' av v/\Ext L κ h w κ' h' w') :
  A6 P L w0 o ρ h h' av:=by
 intro r κ a w he ok m K Q hK _
 obtain⟨κ',v,w',h1,h2,h3,h4⟩:=H κ a w (L4 he) ok
 exact z3w hd h1 (hK κ' v w' h2 h3 h4)
theorem q08 {o:Oper} {ρ:Env} {h h':Heap} (hd:∀ c,o.op≠.defer c)
  (H:∀ κ (a:Act) w,(∀ x,RepAV L κ h w (ev ρ x) (a.eval x))->HeapOK L w0 κ h w->∃ κ' w',(execOp a.eval o).run P w=.ok .skip w' /\
   HeapOK L w0 κ' h' w'/\Ext L κ h w κ' h' w') :
  A6 P L w0 o ρ h h' (.one .unk):=by
 intro r κ a w he ok m K Q hK _
 obtain⟨κ',w',h1,h2,h4⟩:=H κ a w (L4 he) ok
 exact y4n hd h1 (hK κ' undef w' h2 trivial h4)
theorem P1:∀ (t:Ty) (y:t.den),(F6 t y).length=t.size
 | .int _,_=>rfl
 | .bool,_=>rfl
 | .list _,_=>rfl
 | .nil,_=>rfl
 | .cons a b,y=>by simp[F6,Ty.size,P1 a y.1,P1 b y.2]
 | .map _ _ _ _,_=>rfl
theorem S0 {κ:A2} {h:Heap} {w:World}:∀ (t:Ty) (get:Nat->Option Value) (y:t.den),RepAt w (A4 L κ h w) t get y ->
  ∀ (c:Nat) (s:SV),(F6 t y)[c]? = some s->∃ v,get c=some v/\RepSV L κ h w s v/\v.oneCell'=true
 | .int k,get,y,hr,c,s,hc=>by
  cases c with
  | succ c=>simp[F6]at hc
  | zero=>simp[F6]at hc;subst hc;exact⟨_,hr,⟨rfl,rfl,rfl⟩,rfl⟩
 | .bool,get,y,hr,c,s,hc=>by
  cases c with
  | succ c=>simp[F6]at hc
  | zero=>simp[F6]at hc;subst hc;exact⟨_,hr,⟨rfl,rfl,rfl⟩,rfl⟩
 | .nil,get,y,hr,c,s,hc=>by simp[F6]at hc
 | .list e,get,y,hr,c,s,hc=>by
  cases c with
  | succ c=>simp[F6]at hc
  | zero =>
   simp[F6]at hc;subst hc
   obtain⟨sa,len,cap,h0,hrest⟩:=hr
   exact⟨_,h0,⟨rfl,rfl,sa,len,cap,rfl,hrest⟩,rfl⟩
 | .cons a b,get,y,hr,c,s,hc=>by
  have hl:=P1 a y.1
  simp only[F6]at hc
  by_cases hlt:c<a.size
  ·rw[List.getElem?_append_left (by omega)]at hc
   exact S0 a get y.1 hr.1 c s hc
  ·rw[List.getElem?_append_right (by omega)]at hc
   obtain⟨v,h1,h2⟩:=S0 b _ y.2 hr.2 (c-(F6 a y.1).length) s hc
   refine⟨v,?_,h2⟩
   rw[show a.size+(c-(F6 a y.1).length)=c from by omega]at h1
   exact h1
 | .map ak av k v,get,y,hr,c,s,hc=>by
  cases c with
  | succ c=>simp[F6]at hc
  | zero =>
   simp[F6]at hc;subst hc
   obtain⟨b,es,cl,h0,hrest⟩:=hr
   exact⟨_,h0,⟨rfl,rfl,b,es,cl,rfl,hrest⟩,rfl⟩
theorem G4 {t t':Ty} {x:t.den} {y:t'.den} (h:F8 t t' x=some y):∃ e:t=t',(e▸x:t'.den)=y:=by
 unfold F8 at h
 split at h
 ·rename_i e _;exact⟨e,Option.some.inj h⟩
 ·cases h
theorem z7y {κ:A2} {h h':Heap} {w w':World} (ok:HeapOK L w0 κ h w) (x:Ext L κ h w κ h' w') (e:Ty) (s:SV) (v:Value) (hr:RepSV L κ h w s v)
  {l:List e.den} (hl:B5 h e s=some l)
  (hid:∀ id∈F7 s,∀ b c,κ id=some (b,c)->A4 L κ h' w' b/\w'.heap[b]? = w.heap[b]?):RepAt w' (A4 L κ h' w') (.list e) (E3 v) l:=by
 cases s with
 | nils =>
  simp[B5]at hl;subst hl
  simp only[RepSV]at hr;subst hr
  exact⟨none,0,0,rfl,rfl,Nat.le_refl _,fun hne=>absurd rfl hne⟩
 | sc t y =>
  simp only[B5]at hl
  obtain⟨he,hy⟩:=G4 hl
  subst he;subst hy
  exact RepAt.ext x hr.2.2
 | ne t y =>
  simp only[B5]at hl
  obtain⟨he,hy⟩:=G4 hl
  cases he
  change y=l at hy
  subst hy
  exact RepAt.ext x hr.2.1
 | nx=>simp[B5]at hl
 | own id =>
  simp only[B5]at hl
  have key:∀ (e':TypeId) (t:Ty) (l':List t.den),(h id=.arr e' t l'\/h id=.ice e' t l')->F8 (.list t) (.list e) l'=some l->RepAt w' (A4 L κ h' w') (.list e) (E3 v) l:=by
   intro e' t l' ho hc
   obtain⟨he,hy⟩:=G4 hc
   cases he
   change l'=l at hy
   subst hy
   have hrep:RepArr L κ h w id e' e l':=by
    have:=ok.obj id
    rcases ho with ho | ho<;>rw[ho]at this
    ·exact this
    ·exact this.1
   have hv:(κ id=none/\l'=[]/\v=.slice none 0 0)\/∃ b cap,κ id=some (b,cap)/\v=.slice (some ⟨b,cap.2,none⟩) l'.length cap.1:=by
    simp only[RepSV]at hr
    rcases ho with ho | ho<;>rw[ho]at hr<;>exact hr.1
   rcases hv with⟨hk,hnil,hv⟩ | ⟨b,cap,hk,hv⟩
   ·subst hnil;subst hv
    exact⟨none,0,0,rfl,rfl,Nat.le_refl _,fun hne=>absurd rfl hne⟩
   ·rcases hrep with⟨hk',_⟩ | ⟨b',cap',cur,hk',hcell,hsz,hcm,hle,h1,hel⟩
    ·rw[hk]at hk';cases hk'
    ·rw[hk]at hk';simp at hk';obtain⟨rfl,rfl⟩:=hk'
     obtain⟨hfree,hheap⟩:=hid id (by simp[F7]) b cap hk
     refine⟨some ⟨b,cap.2,none⟩,l'.length,cap.1,by rw[hv];rfl,rfl,hle,fun _=>⟨b,cap.2,rfl,hfree,fun i y hy=>?_⟩⟩
     refine RepAt.congr e _ _ y (fun c hc=>?_) (RepAt.ext x (hel i y hy))
     simp only[hc,if_true]
     simp[World.cell?,hheap,hcell,Nat.add_assoc]
  cases ho:h id with
  | arr e' t l'=>rw[ho]at hl;exact key e' t l' (.inl ho) hl
  | ice e' t l'=>rw[ho]at hl;exact key e' t l' (.inr ho) hl
  | _=>rw[ho]at hl;simp at hl
 | sub id off len =>
  simp only[B5]at hl
  have key:∀ (e':TypeId) (t:Ty) (l':List t.den),(h id=.arr e' t l'\/h id=.ice e' t l')->F8 (.list t) (.list e) ((l'.drop off).take len)=some l->RepAt w' (A4 L κ h' w') (.list e) (E3 v) l:=by
   intro e' t l' ho hc
   obtain⟨he,hy⟩:=G4 hc
   cases he
   change (l'.drop off).take len=l at hy
   subst hy
   have hrep:RepArr L κ h w id e' e l':=by
    have:=ok.obj id
    rcases ho with ho | ho<;>rw[ho]at this
    ·exact this
    ·exact this.1
   have hv:off+len<=l'.length/\((κ id=none/\v=.slice none 0 0)\/∃ b cap o,κ id=some (b,cap)/\v=.slice (some ⟨b,o,none⟩) len (cap.1-off)/\(len≠0->o=cap.2+off*e.size)):=by
    simp only[RepSV]at hr
    rcases ho with ho | ho<;>rw[ho]at hr<;>exact hr.1
   obtain⟨hle',hv⟩:=hv
   have hlen:((l'.drop off).take len).length=len:=by simp;omega
   rcases hv with⟨hk,hv⟩ | ⟨b,cap,o,hk,hv,ho'⟩
   ·rcases hrep with⟨_,hnil⟩ | ⟨b',cap',cur,hk',_⟩
    ·subst hnil;subst hv
     refine⟨none,0,0,rfl,by simp,Nat.le_refl _,fun hne=>absurd (by simp) hne⟩
    ·rw[hk]at hk';cases hk'
   ·rcases hrep with⟨hk',_⟩ | ⟨b',cap',cur,hk',hcell,hsz,hcm,hle,h1,hel⟩
    ·rw[hk]at hk';cases hk'
    ·rw[hk]at hk';simp at hk';obtain⟨rfl,rfl⟩:=hk'
     obtain⟨hfree,hheap⟩:=hid id (by simp[F7]) b cap hk
     refine⟨some ⟨b,o,none⟩,len,cap.1-off,by rw[hv];rfl,hlen.symm,by omega,fun hne=>⟨b,o,rfl,hfree,fun i y hy=>?_⟩⟩
     have hi:i<len:=by
      have:=(List.getElem?_eq_some_iff.1 hy).1;omega
     have ho'':=ho' (by omega)
     have hy':l'[off+i]? = some y:=by
      rw[List.getElem?_take_of_lt hi,List.getElem?_drop]at hy;exact hy
     refine RepAt.congr e _ _ y (fun c hc=>?_) (RepAt.ext x (hel (off+i) y hy'))
     simp only[hc,if_true]
     rw[ho'']
     simp[World.cell?,hheap,hcell,Nat.add_mul,Nat.add_assoc]
  cases ho:h id with
  | arr e' t l'=>rw[ho]at hl;exact key e' t l' (.inl ho) hl
  | ice e' t l'=>rw[ho]at hl;exact key e' t l' (.inr ho) hl
  | _=>rw[ho]at hl;simp at hl
 | unk=>simp[B5]at hl
 | ptr _ _=>simp[B5]at hl
 | eptr _ _ _ _=>simp[B5]at hl
 | ro _ _ _=>simp[B5]at hl
 | fn _ _=>simp[B5]at hl
 | yld _=>simp[B5]at hl
 | nilp=>simp[B5]at hl
 | udf=>simp[B5]at hl
 | gl _=>simp[B5]at hl
 | gp _ _=>simp[B5]at hl
 | cstr _=>simp[B5]at hl
 | bfn _ _ _=>simp[B5]at hl
 | bfp _ _ _=>simp[B5]at hl
 | ifc _ _ _=>simp[B5]at hl
 | nif=>simp[B5]at hl
 | nilf=>simp[B5]at hl
 | pan _=>simp[B5]at hl
 | mp _=>simp[B5]at hl
 | mpn=>simp[B5]at hl
 | stmp _=>simp[B5]at hl
 | csl _ _ _ _=>simp[B5]at hl
end Go.Abs
