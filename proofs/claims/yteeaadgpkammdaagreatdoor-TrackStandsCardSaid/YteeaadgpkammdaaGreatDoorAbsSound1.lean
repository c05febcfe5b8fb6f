/- The engine, part 4: what the evaluator says of one operation is what the machine does. -/
import Derived.Test.YteeaadgpkammdaaGreatDoorAbsHeap
namespace Go.Abs
open Go Go.RowKit
def SV.isConst:SV->Value->Prop
 | .sc t x,v=>t.size=1/\v.oneCell'=true/\(match t,x with
  | .int k,n=>v=.int k n
  | .bool,b=>v=.bool b
  | _,_=>False)
 | .nils,v=>v=.slice none 0 0
 | .nilp,v=>v=.pointer none
 | .cstr b,v=>v=.string b
 | .mpn,v=>v=.map none
 | .nilf,v=>v=.nilFunc
 | _,_=>False
def S5:TypeDesc->Bool
 | .struct _ | .array _ _=>true
 | _=>false
def q63:Value->Bool
 | .agg _=>true
 | _=>false
structure TInfo.Base (P:Program) (t:TypeId) (ti:TInfo):Prop where
 info:∃ i z,P.info? t=some i/\i.size=ti.size/\i.bytes=ti.bytes/\i.zero=some z/\z.cells.size=ti.size/\ti.zeros.length=ti.size /\
  (∀ (j:Nat) (s:SV) (c:Value),ti.zeros[j]? = some s->z.cells[j]? = some c->s.isConst c)
 und:∃ d,P.underlying t=some d/\S5 d=ti.agg /\
  (ti.elem=none\/∃ e,ti.elem=some e/\d=.slice e) /\
  (∀ k,ti.agg=false->ti.ty=.int k->d=.int k) /\
  (ti.str=true->∃ fs,d=.struct fs/\fs.size=ti.flds.length/\∀ (f:Nat) (fi:FI),ti.flds[f]? = some fi->∃ fd i' d',fs[f]? = some fd/\fd.offset=fi.off /\
   P.info? fd.type=some i'/\i'.size=fi.size/\P.underlying fd.type=some d'/\S5 d'=fi.agg)
def N3 (g:TypeId->Option (List (Nat×Bool))) (sz:TypeId->Nat) (n:Nat):List (Nat×TypeId)->Option (List (Nat×Bool))
 | []=>some []
 | (off,t)::r=>match g t,N3 g sz n r with
  | some l,some l'=>cond (Nat.ble (off+sz t) n) (some (l.map (fun p=>(p.1+off,p.2))++l')) none
  | _,_=>none
def q07 (P:Program):Nat->TypeId->Option (List (Nat×Bool))
 | 0,_=>none
 | n+1,t=>match P.underlying t with
  | some .bool=>cond (Nat.beq (P.cellsOf t) 1) (some [(0,true)]) none
  | some (.int _)=>cond (Nat.beq (P.cellsOf t) 1) (some [(0,false)]) none
  | some (.struct fs)=>cond (P.stoodInHeld t||fs.toList.any fun f=>f.name== "_") none (N3 (q07 P n) P.cellsOf (P.cellsOf t) (fs.toList.map fun f=>(f.offset,f.type)))
  | some (.array k e)=>cond (P.info? e).isSome (N3 (q07 P n) P.cellsOf (P.cellsOf t) ((List.range k).map fun i=>(i*P.cellsOf e,e))) none
  | _=>none
structure TInfo.OK (P:Program) (t:TypeId) (ti:TInfo):Prop where
 base:ti.Base P t
 boolT:ti.agg=false->ti.ty=.bool->P.underlying t=some .bool
 strT:ti.strg=true->P.underlying t=some .string
 mapT:∀ k e,ti.mp=some (k,e)->P.underlying t=some (.map k e)
 zeroT:∀ i z,P.info? t=some i->i.zero=some z->q63 z=ti.agg
 eqT:∀ l,ti.eqo=some l->q07 P 20 t=some l/\P.eqGuardType P.depth t=false/\ti.agg=true/\P.cellsOf t=ti.size
 arrT:∀ n e,ti.arr=some (n,e)->P.underlying t=some (.array n e)/\∃ i d,P.info? e=some i/\P.underlying e=some d/\∀ (j:Nat) (fi:FI),ti.flds[j]? = some fi->fi.off=j*i.size/\fi.size=i.size
variable {P:Program} {L:Nat->Prop} {w0:World}
def q1u (L:Nat->Prop) (κ:A3) (h:Heap) (w:World) (ρ:Env) (a:Act):Prop:=∀ t,RepAV L κ h w (ρ t) (a.tmps.getD t undef)
def A8 (P:Program) (L:Nat->Prop) (w0:World) (o:Oper) (ρ:Env) (h h':Heap) (av:AV):Prop :=
 ∀ (r:Option Nat) κ (a:Act) w,q1u L κ h w ρ a->HeapOK L w0 κ h w->∀ (m:Nat) (K:Act->World->Prop) (Q:Exit->Act->World->Prop),
  (∀ κ' v w',HeapOK L w0 κ' h' w'->RepAV L κ' h' w' av v->Ext L κ h w κ' h' w'->K (a.put o.dst v) w')->o.wpIn (Fr r) m P a w K Q
theorem SV.isConst.rep {κ:A3} {h:Heap} {w:World}:∀ {s:SV} {v:Value},s.isConst v->RepSV L κ h w s v/\v.oneCell'=true
 | .sc (.int k) n,v,⟨h1,h2,h3⟩=>⟨⟨h1,h2,by simp only at h3;subst h3;rfl⟩,h2⟩
 | .sc .bool b,v,⟨h1,h2,h3⟩=>⟨⟨h1,h2,by simp only at h3;subst h3;rfl⟩,h2⟩
 | .sc (.list e) b,v,⟨h1,h2,h3⟩=>h3.elim
 | .sc .nil b,v,⟨h1,h2,h3⟩=>h3.elim
 | .sc (.cons _ _) b,v,⟨h1,h2,h3⟩=>h3.elim
 | .nils,v,hv=>⟨hv,by rw[show v=_ from hv];rfl⟩
 | .nilp,v,hv=>⟨hv,by rw[show v=_ from hv];rfl⟩
 | .cstr b,v,hv=>⟨hv,by rw[show v=_ from hv];rfl⟩
 | .mpn,v,hv=>⟨hv,by rw[show v=_ from hv];rfl⟩
 | .nilf,v,hv=>⟨hv,by rw[show v=_ from hv];rfl⟩
theorem I3 {κ:A3} {h:Heap} {w:World} (k:IntKind) (n:Int):RepAV L κ h w (E8 k n) (.int k n):=⟨rfl,rfl,rfl⟩
theorem P5 {κ:A3} {h:Heap} {w:World} (b:Bool):RepAV L κ h w (H4 b) (.bool b):=⟨rfl,rfl,rfl⟩
theorem H1 {κ:A3} {h:Heap} {w:World} {k:IntKind} {n:Int} {v:Value} (hr:RepAV L κ h w (.one (.sc (.int k) n)) v):v=.int k n:=by
 obtain⟨_,_,h3⟩:=hr
 simpa[RepAt,F4]using h3
theorem q0j {κ:A3} {h:Heap} {w:World} {b:Bool} {v:Value} (hr:RepAV L κ h w (.one (.sc .bool b)) v):v=.bool b:=by
 obtain⟨_,_,h3⟩:=hr
 simpa[RepAt,F4]using h3
theorem O4 {κ:A3} {h:Heap} {w:World} {ρ:Env} {a:Act} (he:q1u L κ h w ρ a):∀ x,RepAV L κ h w (ev ρ x) (a.eval x)
 | .tmp t=>he t
 | .const v=>by
  show RepAV L κ h w (z9h v) v
  unfold z9h
  split
  ·exact I3 _ _
  ·exact P5 _
  ·rfl
  ·rfl
  ·rfl
  ·rfl
  ·rfl
  ·trivial
 | .func f=>⟨[],by simp[Act.eval],rfl,fun i p hp=>by simp at hp⟩
 | .global _=>rfl
theorem j1d {r:Option Nat} {o:Oper} {a:Act} {w w':World} {m:Nat} {K:Act->World->Prop} {Q:Exit->Act->World->Prop} {v:Value}
  (hd:∀ c,o.op≠.defer c) (h:(execOp a.eval o).run P w=.ok (.value v) w') (hK:K (a.put o.dst v) w'):o.wpIn (Fr r) m P a w K Q:=by
 refine⟨fun _ _=>trivial,?_⟩
 rw[Oper.semAt_eq _ _ _ hd,h]
 exact hK
theorem v6l {r:Option Nat} {o:Oper} {a:Act} {w w':World} {m:Nat} {K:Act->World->Prop} {Q:Exit->Act->World->Prop}
  (hd:∀ c,o.op≠.defer c) (h:(execOp a.eval o).run P w=.ok .skip w') (hK:K (a.put o.dst undef) w'):o.wpIn (Fr r) m P a w K Q:=by
 refine⟨fun _ _=>trivial,?_⟩
 rw[Oper.semAt_eq _ _ _ hd,h]
 exact hK
theorem D2 {o:Oper} {ρ:Env} {h:Heap} {av:AV} (hd:∀ c,o.op≠.defer c)
  (H:∀ κ (a:Act) w,(∀ x,RepAV L κ h w (ev ρ x) (a.eval x))->HeapOK L w0 κ h w->∃ v,(execOp a.eval o).run P w=.ok (.value v) w/\RepAV L κ h w av v) :
  A8 P L w0 o ρ h h av:=by
 intro r κ a w he ok m K Q hK
 obtain⟨v,h1,h2⟩:=H κ a w (O4 he) ok
 exact j1d hd h1 (hK κ v w ok h2 (Ext.refl _ _ _ _))
theorem I9 {o:Oper} {ρ:Env} {h h':Heap} {av:AV} (hd:∀ c,o.op≠.defer c)
  (H:∀ κ (a:Act) w,(∀ x,RepAV L κ h w (ev ρ x) (a.eval x))->HeapOK L w0 κ h w->∃ κ' v w',(execOp a.eval o).run P w=.ok (.value v) w' /\
   HeapOK L w0 κ' h' w'/\RepAV L κ' h' w' av v/\Ext L κ h w κ' h' w') :
  A8 P L w0 o ρ h h' av:=by
 intro r κ a w he ok m K Q hK
 obtain⟨κ',v,w',h1,h2,h3,h4⟩:=H κ a w (O4 he) ok
 exact j1d hd h1 (hK κ' v w' h2 h3 h4)
theorem q2j {o:Oper} {ρ:Env} {h h':Heap} (hd:∀ c,o.op≠.defer c)
  (H:∀ κ (a:Act) w,(∀ x,RepAV L κ h w (ev ρ x) (a.eval x))->HeapOK L w0 κ h w->∃ κ' w',(execOp a.eval o).run P w=.ok .skip w' /\
   HeapOK L w0 κ' h' w'/\Ext L κ h w κ' h' w') :
  A8 P L w0 o ρ h h' (.one .unk):=by
 intro r κ a w he ok m K Q hK
 obtain⟨κ',w',h1,h2,h4⟩:=H κ a w (O4 he) ok
 exact v6l hd h1 (hK κ' undef w' h2 trivial h4)
theorem R6:∀ (t:Ty) (y:t.den),(G1 t y).length=t.size
 | .int _,_=>rfl
 | .bool,_=>rfl
 | .list _,_=>rfl
 | .nil,_=>rfl
 | .cons a b,y=>by simp[G1,Ty.size,R6 a y.1,R6 b y.2]
 | .map _ _ _ _,_=>rfl
theorem W5 {κ:A3} {h:Heap} {w:World}:∀ (t:Ty) (get:Nat->Option Value) (y:t.den),RepAt w (A4 L κ h w) t get y ->
  ∀ (c:Nat) (s:SV),(G1 t y)[c]? = some s->∃ v,get c=some v/\RepSV L κ h w s v/\v.oneCell'=true
 | .int k,get,y,hr,c,s,hc=>by
  cases c with
  | succ c=>simp[G1]at hc
  | zero=>simp[G1]at hc;subst hc;exact⟨_,hr,⟨rfl,rfl,rfl⟩,rfl⟩
 | .bool,get,y,hr,c,s,hc=>by
  cases c with
  | succ c=>simp[G1]at hc
  | zero=>simp[G1]at hc;subst hc;exact⟨_,hr,⟨rfl,rfl,rfl⟩,rfl⟩
 | .nil,get,y,hr,c,s,hc=>by simp[G1]at hc
 | .list e,get,y,hr,c,s,hc=>by
  cases c with
  | succ c=>simp[G1]at hc
  | zero =>
   simp[G1]at hc;subst hc
   obtain⟨sa,len,cap,h0,hrest⟩:=hr
   exact⟨_,h0,⟨rfl,rfl,sa,len,cap,rfl,hrest⟩,rfl⟩
 | .cons a b,get,y,hr,c,s,hc=>by
  have hl:=R6 a y.1
  simp only[G1]at hc
  by_cases hlt:c<a.size
  ·rw[List.getElem?_append_left (by omega)]at hc
   exact W5 a get y.1 hr.1 c s hc
  ·rw[List.getElem?_append_right (by omega)]at hc
   obtain⟨v,h1,h2⟩:=W5 b _ y.2 hr.2 (c-(G1 a y.1).length) s hc
   refine⟨v,?_,h2⟩
   rw[show a.size+(c-(G1 a y.1).length)=c from by omega]at h1
   exact h1
 | .map ak av k v,get,y,hr,c,s,hc=>by
  cases c with
  | succ c=>simp[G1]at hc
  | zero =>
   simp[G1]at hc;subst hc
   obtain⟨b,es,cl,h0,hrest⟩:=hr
   exact⟨_,h0,⟨rfl,rfl,b,es,cl,rfl,hrest⟩,rfl⟩
theorem H5 {t t':Ty} {x:t.den} {y:t'.den} (h:G2 t t' x=some y):∃ e:t=t',(e▸x:t'.den)=y:=by
 unfold G2 at h
 split at h
 ·rename_i e _;exact⟨e,Option.some.inj h⟩
 ·cases h
theorem j5l {κ:A3} {h h':Heap} {w w':World} (ok:HeapOK L w0 κ h w) (x:Ext L κ h w κ h' w') (e:Ty) (s:SV) (v:Value) (hr:RepSV L κ h w s v)
  {l:List e.den} (hl:B8 h e s=some l)
  (hid:∀ id∈G4 s,∀ b c,κ id=some (b,c)->A4 L κ h' w' b/\w'.heap[b]? = w.heap[b]?):RepAt w' (A4 L κ h' w') (.list e) (F4 v) l:=by
 cases s with
 | nils =>
  simp[B8]at hl;subst hl
  simp only[RepSV]at hr;subst hr
  exact⟨none,0,0,rfl,rfl,Nat.le_refl _,fun hne=>absurd rfl hne⟩
 | sc t y =>
  simp only[B8]at hl
  obtain⟨he,hy⟩:=H5 hl
  subst he;subst hy
  exact RepAt.ext x hr.2.2
 | ne t y =>
  simp only[B8]at hl
  obtain⟨he,hy⟩:=H5 hl
  cases he
  change y=l at hy
  subst hy
  exact RepAt.ext x hr.2.1
 | nx=>simp[B8]at hl
 | own id =>
  simp only[B8]at hl
  have key:∀ (e':TypeId) (t:Ty) (l':List t.den),(h id=.arr e' t l'\/h id=.ice e' t l')->G2 (.list t) (.list e) l'=some l->RepAt w' (A4 L κ h' w') (.list e) (F4 v) l:=by
   intro e' t l' ho hc
   obtain⟨he,hy⟩:=H5 hc
   cases he
   change l'=l at hy
   subst hy
   have hrep:RepArr L κ h w id e' e l':=by
    have:=ok.obj id
    rcases ho with ho | ho<;>rw[ho]at this
    ·exact this
    ·exact this.1
   have hv:(κ id=none/\l'=[]/\v=.slice none 0 0)\/∃ b cap,κ id=some (b,cap)/\v=.slice (some ⟨b,cap.2,none⟩) l'.length cap.1:=by
    simp only[RepSV]at hr
    rcases ho with ho | ho<;>rw[ho]at hr<;>exact hr.1
   rcases hv with⟨hk,hnil,hv⟩ | ⟨b,cap,hk,hv⟩
   ·subst hnil;subst hv
    exact⟨none,0,0,rfl,rfl,Nat.le_refl _,fun hne=>absurd rfl hne⟩
   ·rcases hrep with⟨hk',_⟩ | ⟨b',cap',cur,hk',hcell,hsz,hcm,hle,h1,hel⟩
    ·rw[hk]at hk';cases hk'
    ·rw[hk]at hk';simp at hk';obtain⟨rfl,rfl⟩:=hk'
     obtain⟨hfree,hheap⟩:=hid id (by simp[G4]) b cap hk
     refine⟨some ⟨b,cap.2,none⟩,l'.length,cap.1,by rw[hv];rfl,rfl,hle,fun _=>⟨b,cap.2,rfl,hfree,fun i y hy=>?_⟩⟩
     refine RepAt.congr e _ _ y (fun c hc=>?_) (RepAt.ext x (hel i y hy))
     simp only[hc,if_true]
     simp[World.cell?,hheap,hcell,Nat.add_assoc]
  cases ho:h id with
  | arr e' t l'=>rw[ho]at hl;exact key e' t l' (.inl ho) hl
  | ice e' t l'=>rw[ho]at hl;exact key e' t l' (.inr ho) hl
  | _=>rw[ho]at hl;simp at hl
 | sub id off len =>
  simp only[B8]at hl
  have key:∀ (e':TypeId) (t:Ty) (l':List t.den),(h id=.arr e' t l'\/h id=.ice e' t l')->G2 (.list t) (.list e) ((l'.drop off).take len)=some l->RepAt w' (A4 L κ h' w') (.list e) (F4 v) l:=by
   intro e' t l' ho hc
   obtain⟨he,hy⟩:=H5 hc
   cases he
   change (l'.drop off).take len=l at hy
   subst hy
   have hrep:RepArr L κ h w id e' e l':=by
    have:=ok.obj id
    rcases ho with ho | ho<;>rw[ho]at this
    ·exact this
    ·exact this.1
   have hv:off+len<=l'.length/\((κ id=none/\v=.slice none 0 0)\/∃ b cap o,κ id=some (b,cap)/\v=.slice (some ⟨b,o,none⟩) len (cap.1-off)/\(len≠0->o=cap.2+off*e.size)):=by
    simp only[RepSV]at hr
    rcases ho with ho | ho<;>rw[ho]at hr<;>exact hr.1
   obtain⟨hle',hv⟩:=hv
   have hlen:((l'.drop off).take len).length=len:=by simp;omega
   rcases hv with⟨hk,hv⟩ | ⟨b,cap,o,hk,hv,ho'⟩
   ·rcases hrep with⟨_,hnil⟩ | ⟨b',cap',cur,hk',_⟩
    ·subst hnil;subst hv
     refine⟨none,0,0,rfl,by simp,Nat.le_refl _,fun hne=>absurd (by simp) hne⟩
    ·rw[hk]at hk';cases hk'
   ·rcases hrep with⟨hk',_⟩ | ⟨b',cap',cur,hk',hcell,hsz,hcm,hle,h1,hel⟩
    ·rw[hk]at hk';cases hk'
    ·rw[hk]at hk';simp at hk';obtain⟨rfl,rfl⟩:=hk'
     obtain⟨hfree,hheap⟩:=hid id (by simp[G4]) b cap hk
     refine⟨some ⟨b,o,none⟩,len,cap.1-off,by rw[hv];rfl,hlen.symm,by omega,fun hne=>⟨b,o,rfl,hfree,fun i y hy=>?_⟩⟩
     have hi:i<len:=by
      have:=(List.getElem?_eq_some_iff.1 hy).1;omega
     have ho'':=ho' (by omega)
     have hy':l'[off+i]? = some y:=by
      rw[List.getElem?_take_of_lt hi,List.getElem?_drop]at hy;exact hy
     refine RepAt.congr e _ _ y (fun c hc=>?_) (RepAt.ext x (hel (off+i) y hy'))
     simp only[hc,if_true]
     rw[ho'']
     simp[World.cell?,hheap,hcell,Nat.add_mul,Nat.add_assoc]
  cases ho:h id with
  | arr e' t l'=>rw[ho]at hl;exact key e' t l' (.inl ho) hl
  | ice e' t l'=>rw[ho]at hl;exact key e' t l' (.inr ho) hl
  | _=>rw[ho]at hl;simp at hl
 | unk=>simp[B8]at hl
 | ptr _ _=>simp[B8]at hl
 | eptr _ _ _ _=>simp[B8]at hl
 | ro _ _ _=>simp[B8]at hl
 | fn _ _=>simp[B8]at hl
 | yld _=>simp[B8]at hl
 | nilp=>simp[B8]at hl
 | udf=>simp[B8]at hl
 | gl _=>simp[B8]at hl
 | gp _ _=>simp[B8]at hl
 | cstr _=>simp[B8]at hl
 | bfn _ _ _=>simp[B8]at hl
 | bfp _ _ _=>simp[B8]at hl
 | ifc _ _ _=>simp[B8]at hl
 | nif=>simp[B8]at hl
 | nilf=>simp[B8]at hl
 | mp _=>simp[B8]at hl
 | mpn=>simp[B8]at hl
 | stmp _=>simp[B8]at hl
 | csl _ _ _ _=>simp[B8]at hl
end Go.Abs
