/- The engine, part 1: abstract values, how a world represents them, and what is kept from world to world. -/
import Derived.WalkKit
import Derived.OrdersIn
import Derived.RangeFuncRecord
import Derived.RangeFuncLeaves
import Derived.LoopNIn
namespace Go.Abs
open Go Go.RowKit
inductive Ty where
 | int (k:IntKind)
 | bool
 | list (e:Ty)
 | nil
 | cons (a b:Ty)
 | map (ak av:Bool) (k v:Ty)
 deriving DecidableEq
def Ty.size:Ty->Nat
 | .int _=>1
 | .bool=>1
 | .list _=>1
 | .nil=>0
 | .cons a b=>a.size+b.size
 | .map _ _ _ _=>1
@[reducible] def Ty.den:Ty->Type
 | .int _=>Int
 | .bool=>Bool
 | .list e=>List e.den
 | .nil=>Unit
 | .cons a b=>a.den×b.den
 | .map _ _ k v=>List (k.den×v.den)
def Ty.flat:Ty->Bool
 | .int _=>true
 | .bool=>true
 | .list _=>false
 | .nil=>true
 | .cons a b=>a.flat&&b.flat
 | .map _ _ _ _=>false
def Ty.eqb:(t:Ty)->t.den->t.den->Bool
 | .int _,x,y=>x==y
 | .bool,x,y=>x==y
 | .list _,_,_=>false
 | .nil,_,_=>true
 | .cons a b,x,y=>a.eqb x.1 y.1&&b.eqb x.2 y.2
 | .map _ _ _ _,_,_=>false
def Ty.lt:(t:Ty)->t.den->t.den->Bool
 | .int _,x,y=>decide (x<y)
 | .bool,x,y=>!x&&y
 | .list _,_,_=>false
 | .nil,_,_=>false
 | .cons a b,x,y=>a.lt x.1 y.1||(a.eqb x.1 y.1&&b.lt x.2 y.2)
 | .map _ _ _ _,_,_=>false
section
variable {β:Type}
def B4 (t:Ty) (l:List (t.den×β)) (k:t.den):Option β:=(l.find? fun p=>t.eqb k p.1).map (·.2)
def A8 (t:Ty):List (t.den×β)->t.den->β->List (t.den×β)
 | [],k,v=>[(k,v)]
 | p::r,k,v=>cond (t.eqb k p.1) ((k,v)::r) (cond (t.lt k p.1) ((k,v)::p::r) (p::A8 t r k v))
def G6 (t:Ty) (l:List (t.den×β)) (k:t.den):List (t.den×β):=l.filter fun p=>!t.eqb k p.1
def F4 (t:Ty) (l:List (t.den×β)) (k:t.den) (z:β):List (t.den×β):=A8 t l k ((B4 t l k).getD z)
end
inductive KTy where
 | arr (e:TypeId) (t:Ty)
 | map (ak av:Bool) (k v:Ty)
 | ptr (t:Ty)
 deriving DecidableEq
@[reducible] def KTy.den:KTy->Type
 | .arr _ t=>List t.den
 | .map _ _ k v=>Option (List (k.den×v.den))
 | .ptr t=>Option t.den
def X2:Nat:=1099511627776
def kn (id n:Nat):Nat:=X2+2^id*(2*n+1)
theorem q42 (id n:Nat):X2<=kn id n:=Nat.le_add_right _ _
theorem q02:∀ {a b m n:Nat},kn a m=kn b n->a=b/\m=n:=by
 have key:∀ (a b m n:Nat),2^a*(2*m+1)=2^b*(2*n+1)->a=b/\m=n:=by
  intro a
  induction a with
  | zero =>
   intro b m n h
   cases b with
   | zero=>simp at h;exact⟨rfl,by omega⟩
   | succ b =>
    rw[Nat.pow_succ,Nat.pow_zero,Nat.one_mul,Nat.mul_comm (2^b) 2,Nat.mul_assoc]at h
    omega
  | succ a ih =>
   intro b m n h
   cases b with
   | zero =>
    rw[Nat.pow_succ,Nat.pow_zero,Nat.one_mul,Nat.mul_comm (2^a) 2,Nat.mul_assoc]at h
    omega
   | succ b =>
    rw[Nat.pow_succ,Nat.pow_succ,Nat.mul_comm (2^a) 2,Nat.mul_comm (2^b) 2,Nat.mul_assoc,Nat.mul_assoc]at h
    obtain⟨h1,h2⟩:=ih b m n (Nat.eq_of_mul_eq_mul_left (by omega) h)
    exact⟨by rw[h1],h2⟩
 intro a b m n h
 exact key a b m n (Nat.add_left_cancel h)
def E3 (v:Value):Nat->Option Value:=fun c=>if c=0 then some v else none
def RepIn (R:(Nat->Option Value)->Prop) (agg:Bool) (n:Nat) (v:Value):Prop :=
 match agg with
 | true=>∃ cs:List Value,v=.agg cs.toArray/\cs.length=n/\(∀ c∈cs,c.oneCell'=true)/\R (fun c=>cs[c]?)
 | false=>n=1/\v.oneCell'=true/\R (E3 v)
theorem RepIn.imp {R R':(Nat->Option Value)->Prop} (hR:∀ g,R g->R' g) {agg:Bool} {n:Nat} {v:Value} (h:RepIn R agg n v):RepIn R' agg n v:=by
 cases agg with
 | true=>obtain⟨cs,h1,h2,h3,h4⟩:=h;exact⟨cs,h1,h2,h3,hR _ h4⟩
 | false=>exact⟨h.1,h.2.1,hR _ h.2.2⟩
structure EntsOK (tk:Ty) {β:Type} (K:tk.den->Value->Prop) (V:β->Value->Prop) (l:List (tk.den×β)) (es:Array MapEntry) (clock:Nat):Prop where
 flat:tk.flat=true
 rise:l.Pairwise fun p q=>tk.lt p.1 q.1=true
 apart:(es.toList.map (·.born)).Nodup
 early:∀ x∈es.toList,x.born<clock
 ents:∃ p:List (tk.den×β),p.Perm l/\p.length=es.toList.length/\∀ (i:Nat) (x:MapEntry) (q:tk.den×β),es.toList[i]? = some x->p[i]? = some q->K q.1 x.key/\V q.2 x.val
theorem EntsOK.imp {tk:Ty} {β:Type} {K K':tk.den->Value->Prop} {V V':β->Value->Prop} (hK:∀ x v,K x v->K' x v) (hV:∀ x v,V x v->V' x v) {l:List (tk.den×β)} {es:Array MapEntry} {clock:Nat} (h:EntsOK tk K V l es clock):EntsOK tk K' V' l es clock where
 flat:=h.flat
 rise:=h.rise
 apart:=h.apart
 early:=h.early
 ents:=by
  obtain⟨p,h1,h2,h3⟩:=h.ents
  exact⟨p,h1,h2,fun i x q a b=>⟨hK _ _ (h3 i x q a b).1,hV _ _ (h3 i x q a b).2⟩⟩
def RepAt (w:World) (A:Nat->Prop):(t:Ty)->(get:Nat->Option Value)->t.den->Prop
 | .int k,get,x=>get 0=some (.int k x)
 | .bool,get,x=>get 0=some (.bool x)
 | .list e,get,x=>∃ sa len cap,get 0=some (.slice sa len cap)/\len=x.length/\len<=cap /\
  (x≠[]->∃ b o,sa=some ⟨b,o,none⟩/\A b /\
   ∀ i y,x[i]? = some y->RepAt w A e (fun c=>if c<e.size then w.cell? ⟨b,o+(i*e.size+c),none⟩else none) y)
 | .nil,_,_=>True
 | .cons a b,get,x=>RepAt w A a get x.1/\RepAt w A b (fun c=>get (a.size+c)) x.2
 | .map ak av k v,get,x=>∃ b es clock,get 0=some (.map (some b))/\A b/\w.heap[b]? = some (.map es clock) /\
  EntsOK k (fun y u=>RepIn (fun g=>RepAt w A k g y) ak k.size u) (fun y u=>RepIn (fun g=>RepAt w A v g y) av v.size u) x es clock
theorem q1o {w w':World} {a:Addr} (h:w'.heap[a.block]? = w.heap[a.block]?):w'.cell? a=w.cell? a:=by
 simp[World.cell?,h]
theorem RepAt.mono {w w':World} {A A':Nat->Prop} (hA:∀ b,A b->A' b/\w'.heap[b]? = w.heap[b]?) :
  ∀ (t:Ty) (get:Nat->Option Value) (x:t.den),RepAt w A t get x->RepAt w' A' t get x
 | .int _,_,_,h=>h
 | .bool,_,_,h=>h
 | .nil,_,_,_=>trivial
 | .cons a b,get,x,h=>⟨RepAt.mono hA a get x.1 h.1,RepAt.mono hA b _ x.2 h.2⟩
 | .list e,get,x,h=>by
  obtain⟨sa,len,cap,hg,hl,hc,hx⟩:=h
  refine⟨sa,len,cap,hg,hl,hc,fun hne=>?_⟩
  obtain⟨b,o,hs,hAb,hel⟩:=hx hne
  obtain⟨hA',hh⟩:=hA b hAb
  refine⟨b,o,hs,hA',fun i y hi=>?_⟩
  have:=RepAt.mono hA e _ y (hel i y hi)
  have hf:(fun c=>if c<e.size then w'.cell? ⟨b,o+(i*e.size+c),none⟩else none) =
    (fun c=>if c<e.size then w.cell? ⟨b,o+(i*e.size+c),none⟩else none):=by
   funext c;rw[q1o (w:=w) (w':=w') (a:=⟨b,o+(i*e.size+c),none⟩) hh]
  rw[hf];exact this
 | .map ak av k v,get,x,h=>by
  obtain⟨b,es,clock,h1,h2,h3,h4⟩:=h
  obtain⟨hA',hh⟩:=hA b h2
  exact⟨b,es,clock,h1,hA',hh.trans h3,h4.imp (fun y u hu=>hu.imp fun g hg=>RepAt.mono hA k g y hg) (fun y u hu=>hu.imp fun g hg=>RepAt.mono hA v g y hg)⟩
theorem RepAt.congr {w:World} {A:Nat->Prop}:∀ (t:Ty) (get get':Nat->Option Value) (x:t.den),
  (∀ c,c<t.size->get c=get' c)->RepAt w A t get x->RepAt w A t get' x
 | .int _,_,_,_,hg,h=>by simpa[RepAt,<-hg 0 (by simp[Ty.size])]using h
 | .bool,_,_,_,hg,h=>by simpa[RepAt,<-hg 0 (by simp[Ty.size])]using h
 | .nil,_,_,_,_,_=>trivial
 | .cons a b,get,get',x,hg,h =>
  ⟨RepAt.congr a get get' x.1 (fun c hc=>hg c (by simp[Ty.size];omega)) h.1,
   RepAt.congr b _ _ x.2 (fun c hc=>hg (a.size+c) (by simp[Ty.size];omega)) h.2⟩
 | .list e,get,get',x,hg,h=>by
  obtain⟨sa,len,cap,h0,hr⟩:=h
  exact⟨sa,len,cap,by rw[<-hg 0 (by simp[Ty.size])];exact h0,hr⟩
 | .map _ _ _ _,get,get',x,hg,h=>by
  have h0:=hg 0 (by simp[Ty.size])
  obtain⟨b,es,clock,h1,h2⟩:=h
  exact⟨b,es,clock,by rw[<-h0];exact h1,h2⟩
inductive SV where
 | unk
 | sc (t:Ty) (x:t.den)
 | nils
 | own (id:Nat)
 | sub (id:Nat) (off len:Nat)
 | ptr (id off:Nat)
 | eptr (id:Nat) (t:Ty) (i:Nat) (c:Nat)
 | ro (t:Ty) (x:t.den) (c:Nat)
 | fn (f:Nat) (caps:List (Nat×Nat))
 | yld (id:Nat)
 | nilp
 | udf
 | ne (e:Ty) (l:List e.den)
 | nx
 | gl (g:Nat)
 | gp (k:IntKind) (x:Int)
 | cstr (b:ByteArray)
 | bfn (f:Nat) (agg:Bool) (cs:List ((t:Ty)×t.den))
 | bfp (f:Nat) (id off:Nat)
 | mp (id:Nat)
 | mpn
 | stmp (g:Nat)
 | csl (id off len cap:Nat)
 | ifc (T:TypeId) (agg:Bool) (cs:List ((t:Ty)×t.den))
 | nif
 | nilf
 | pan (T:TypeId)
inductive AV where
 | one (s:SV)
 | agg (l:List SV)
 | tup (l:List (Bool×List SV))
inductive XK where
 | nrm
 | ex (id:Nat)
 | ret
 | pan (T:TypeId)
def XK.code:XK->Option Code
 | .nrm=>none
 | .ex id=>some (.exit id)
 | .ret=>some .ret
 | .pan _=>none
inductive RS where
 | ready
 | busy
 | left (x:XK)
 | over (x:XK)
def RS.state:RS->LoopState
 | .ready=>.ready
 | .busy=>.busy
 | .left _=>.done
 | .over _=>.exhausted
def RS.pend:RS->Option Code
 | .left x=>x.code
 | .over x=>x.code
 | _=>none
structure RI where
 ρ:Nat->AV
 n:Nat
 ps:List Tmp
 assign:Code
 body:Code
inductive AObj where
 | fresh
 | dead
 | cells (l:List SV)
 | arr (e:TypeId) (t:Ty) (l:List t.den)
 | ice (e:TypeId) (t:Ty) (l:List t.den)
 | lrec (i:RI) (st:RS)
 | mapo (ak av:Bool) (tk tv:Ty) (l:List (tk.den×tv.den))
 | mapp (ak av:Bool) (tk tv:Ty) (l:List (tk.den×tv.den)) (k:tk.den) (g:Nat)
 | mice (ak av:Bool) (tk tv:Ty) (l:List (tk.den×tv.den))
 | iter (ak av:Bool) (tk tv:Ty) (left:List (tk.den×tv.den)) (cur:Option (tk.den×tv.den))
 | kid
 | arrD (e:TypeId) (t:KTy) (l:List t.den) (f:Option (Nat×Nat))
 | mapD (ak:Bool) (tk:Ty) (t:KTy) (l:List (tk.den×t.den)) (f:Option (tk.den×Nat))
def B6:Nat:=1048575
def I9 (T:TypeId):AObj:=.cells [.pan T]
def AObj.isMap:AObj->Bool
 | .mapo .. | .mapp .. | .mice .. | .mapD ..=>true
 | _=>false
def AObj.live:AObj->Bool
 | .cells _ | .arr .. | .lrec .. | .mapo .. | .mapp .. | .iter .. | .kid | .arrD .. | .mapD ..=>true
 | _=>false
@[simp] def AObj.Held (o:AObj):Prop:=o≠.fresh/\o≠.kid
abbrev Env:=Nat->AV
abbrev Heap:=Nat->AObj
abbrev A2:=Nat->Option (Nat×(Nat×Nat))
instance:OfNat (Nat×Nat) 0:=⟨(0,0)⟩
def upd {α:Type} (f:Nat->α) (i:Nat) (v:α):Nat->α:=fun j=>bif Nat.beq j i then v else f j
theorem A1 {α:Type} (f:Nat->α) (i:Nat) (v:α):upd f i v i=v:=by
 have:Nat.beq i i=true:=Nat.beq_refl i
 simp only[upd,this,cond_true]
theorem A0 {α:Type} (f:Nat->α) {i j:Nat} (v:α) (h:j≠i):upd f i v j=f j:=by
 have:Nat.beq j i=false:=by
  cases hb:Nat.beq j i with
  | false=>rfl
  | true=>exact absurd (Nat.eq_of_beq_eq_true hb) h
 simp only[upd,this,cond_false]
def A4 (L:Nat->Prop) (κ:A2) (h:Heap) (w:World) (b:Nat):Prop :=
 b<w.heap.size/\¬ L b/\∀ id c,(h id).live=true->κ id≠some (b,c)
def W3 (κ:A2) (h:Heap) (w:World) (b:Nat):Prop :=
 b<w.heap.size/\∀ id c,(h id).live=true->κ id≠some (b,c)
def RepSV (L:Nat->Prop) (κ:A2) (h:Heap) (w:World):SV->Value->Prop
 | .unk,_=>True
 | .sc t x,v=>t.size=1/\v.oneCell'=true/\RepAt w (A4 L κ h w) t (E3 v) x
 | .nils,v=>v=.slice none 0 0
 | .own id,v=>(match h id with
  | .arr _ _ l | .ice _ _ l =>
   (κ id=none/\l=[]/\v=.slice none 0 0) \/
   ∃ b cap,κ id=some (b,cap)/\v=.slice (some ⟨b,cap.2,none⟩) l.length cap.1
  | .arrD _ _ l _ =>
   (κ id=none/\l=[]/\v=.slice none 0 0) \/
   ∃ b cap,κ id=some (b,cap)/\v=.slice (some ⟨b,cap.2,none⟩) l.length cap.1
  | .dead=>True
  | _=>False)/\v.oneCell'=true
 | .sub id off len,v=>(match h id with
  | .arr _ t l | .ice _ t l =>
   off+len<=l.length /\
   ((κ id=none/\v=.slice none 0 0) \/
   ∃ b cap o,κ id=some (b,cap)/\v=.slice (some ⟨b,o,none⟩) len (cap.1-off)/\(len≠0->o=cap.2+off*t.size))
  | .dead=>True
  | _=>False)/\v.oneCell'=true
 | .ptr id off,v=>(h id).Held/\∃ b c,κ id=some (b,c)/\v=.pointer (some ⟨b,off,none⟩)
 | .eptr id t i c,v=>(h id).Held/\∃ b cap,κ id=some (b,cap)/\v=.pointer (some ⟨b,cap.2+i*t.size+c,none⟩)
 | .ro t x c,v=>∃ b o,v=.pointer (some ⟨b,o+c,none⟩)/\A4 L κ h w b/\RepAt w (A4 L κ h w) t (fun j=>if j<t.size then w.cell? ⟨b,o+j,none⟩else none) x
 | .fn f caps,v=>∃ cs:List Value,v=.func (.func f) #[] cs.toArray/\cs.length=caps.length /\
  ∀ (i:Nat) (p:Nat×Nat),caps[i]? = some p->(h p.1).Held/\∃ b c,κ p.1=some (b,c)/\cs[i]? = some (.pointer (some ⟨b,p.2,none⟩))
 | .yld id,v=>(h id).Held/\∃ b c,κ id=some (b,c)/\v=.func (.yield b) #[] #[]
 | .nilp,v=>v=.pointer none
 | .udf,v=>v=undef
 | .ne e l,v=>v.oneCell'=true/\RepAt w (A4 L κ h w) (.list e) (E3 v) l/\∃ a len cap,v=.slice (some a) len cap
 | .nx,v=>∃ cap,v=.slice none 0 cap
 | .gl g,v=>v=.pointer (some ⟨g,0,none⟩)
 | .gp k x,v=>∃ b o,v=.pointer (some ⟨b,o,none⟩)/\W3 κ h w b/\w.cell? ⟨b,o,none⟩=some (.int k x)
 | .cstr b,v=>v=.string b
 | .mp id,v=>(h id).Held/\∃ b c,κ id=some (b,c)/\v=.map (some b)
 | .mpn,v=>v=.map none
 | .stmp g,v=>(h g).Held/\∃ n c,κ g=some (n,c)/\v=.int .i64 n
 | .csl id off len cap,v=>(h id).Held/\∃ b c,κ id=some (b,c)/\v=.slice (some ⟨b,off,none⟩) len cap
 | .nif,v=>v=.nilIface
 | .nilf,v=>v=.nilFunc
 | .pan _,_=>False
 | .ifc T agg cs,v=>∃ us:List Value,v=.iface T (cond agg (.agg us.toArray) (us.headD undef))/\us.length=cs.length/\(agg=false->us.length=1) /\
  ∀ (i:Nat) (p:(t:Ty)×t.den) (u:Value),cs[i]? = some p->us[i]? = some u->p.1.size=1/\u.oneCell'=true/\RepAt w (A4 L κ h w) p.1 (E3 u) p.2
 | .bfp f id off,v=>∃ u,v=.func (.func f) #[u] #[]/\(h id).Held/\∃ b c,κ id=some (b,c)/\u=.pointer (some ⟨b,off,none⟩)
 | .bfn f agg cs,v=>∃ us:List Value,v=.func (.func f) #[cond agg (.agg us.toArray) (us.headD undef)] #[]/\us.length=cs.length/\(agg=false->us.length=1) /\
  ∀ (i:Nat) (p:(t:Ty)×t.den) (u:Value),cs[i]? = some p->us[i]? = some u->p.1.size=1/\u.oneCell'=true/\RepAt w (A4 L κ h w) p.1 (E3 u) p.2
def RepVal (w:World) (A:Nat->Prop) (agg:Bool) (t:Ty) (v:Value) (x:t.den):Prop:=RepIn (fun g=>RepAt w A t g x) agg t.size v
theorem RepVal.mono {w w':World} {A A':Nat->Prop} (hA:∀ b,A b->A' b/\w'.heap[b]? = w.heap[b]?) {agg:Bool} {t:Ty} {v:Value} {x:t.den} (h:RepVal w A agg t v x):RepVal w' A' agg t v x :=
 RepIn.imp (fun g hg=>RepAt.mono hA t g x hg) h
abbrev MapRep (w:World) (A:Nat->Prop) (ak av:Bool) (tk tv:Ty) (l:List (tk.den×tv.den)) (es:Array MapEntry) (clock:Nat):Prop :=
 EntsOK tk (fun y u=>RepVal w A ak tk u y) (fun y u=>RepVal w A av tv u y) l es clock
theorem MapRep.mono {w w':World} {A A':Nat->Prop} (hA:∀ b,A b->A' b/\w'.heap[b]? = w.heap[b]?) {ak av:Bool} {tk tv:Ty} {l:List (tk.den×tv.den)} {es:Array MapEntry} {clock:Nat}
 (h:MapRep w A ak av tk tv l es clock):MapRep w' A' ak av tk tv l es clock:=EntsOK.imp (fun _ _ h=>h.mono hA) (fun _ _ h=>h.mono hA) h
structure IterRep (w:World) (A:Nat->Prop) (ak av:Bool) (tk tv:Ty) (left:List (tk.den×tv.den)) (cur:Option (tk.den×tv.den)) (m:Option Nat) (since:Nat) (seen:Array Nat) (c0:Nat):Prop where
 map:m=none/\left=[]/\cur=none\/∃ b es clock,m=some b/\A b/\w.heap[b]? = some (.map es clock)/\(es.toList.map (·.born)).Nodup/\(∀ x∈es.toList,x.born<since)/\since<=c0/\since<=clock /\
  (∃ p:List (tk.den×tv.den),p.Perm left/\p.length=(leftOf es seen).toList.length/\∀ (i:Nat) (x:MapEntry) (q:tk.den×tv.den),(leftOf es seen).toList[i]? = some x->p[i]? = some q->RepVal w A ak tk x.key q.1/\RepVal w A av tv x.val q.2) /\
  ∀ q,cur=some q->c0=clock/\∃ x∈es.toList,seen.back? = some x.born/\RepVal w A ak tk x.key q.1/\RepVal w A av tv x.val q.2
theorem IterRep.mono {w w':World} {A A':Nat->Prop} (hA:∀ b,A b->A' b/\w'.heap[b]? = w.heap[b]?) {ak av:Bool} {tk tv:Ty} {left:List (tk.den×tv.den)} {cur:Option (tk.den×tv.den)} {m:Option Nat} {since:Nat} {seen:Array Nat} {c0:Nat}
  (h:IterRep w A ak av tk tv left cur m since seen c0):IterRep w' A' ak av tk tv left cur m since seen c0 where
 map:=by
  rcases h.map with h | ⟨b,es,clock,h1,h2,h3,h4,h5,h6,h7,⟨p,p1,p2,p3⟩,h9⟩
  ·exact .inl h
  ·obtain⟨hA',hh⟩:=hA b h2
   refine .inr ⟨b,es,clock,h1,hA',hh.trans h3,h4,h5,h6,h7,⟨p,p1,p2,fun i x q a b=>⟨(p3 i x q a b).1.mono hA,(p3 i x q a b).2.mono hA⟩⟩,fun q hq=>?_⟩
   obtain⟨e0,x,x1,x2,x3,x4⟩:=h9 q hq
   exact⟨e0,x,x1,x2,x3.mono hA,x4.mono hA⟩
def RepCells (L:Nat->Prop) (κ:A2) (h:Heap) (w:World) (l:List SV) (cs:List Value):Prop :=
 cs.length=l.length/\∀ (i:Nat) (s:SV) (c:Value),l[i]? = some s->cs[i]? = some c->RepSV L κ h w s c/\c.oneCell'=true
def RepComp (L:Nat->Prop) (κ:A2) (h:Heap) (w:World) (c:Bool×List SV) (v:Value):Prop :=
 match c with
 | (true,l)=>∃ cs:List Value,v=.agg cs.toArray/\RepCells L κ h w l cs
 | (false,[s])=>RepSV L κ h w s v
 | (false,_)=>False
def RepAV (L:Nat->Prop) (κ:A2) (h:Heap) (w:World):AV->Value->Prop
 | .one s,v=>RepSV L κ h w s v
 | .agg l,v=>∃ cs:List Value,v=.agg cs.toArray/\RepCells L κ h w l cs
 | .tup l,v=>∃ vs:List Value,v=.tuple vs.toArray/\vs.length=l.length/\∀ (i:Nat) (c:Bool×List SV) (u:Value),l[i]? = some c->vs[i]? = some u->RepComp L κ h w c u
def RepArr (L:Nat->Prop) (κ:A2) (h:Heap) (w:World) (id:Nat) (e:TypeId) (t:Ty) (l:List t.den):Prop :=
 (κ id=none/\l=[]) \/
 ∃ b cap cur,κ id=some (b,cap)/\w.heap[b]? = some (.cells cur e (0,0))/\cap.2+cap.1*t.size<=cur.size/\cap.1<=maxLen/\l.length<=cap.1 /\
  (∀ c∈cur.toList,c.oneCell'=true) /\
  ∀ i y,l[i]? = some y->RepAt w (A4 L κ h w) t (fun c=>if c<t.size then cur[cap.2+i*t.size+c]? else none) y
def RepKid (L:Nat->Prop) (κ:A2) (h:Heap) (w:World) (n:Nat):(t:KTy)->Value->t.den->Prop
 | .arr e t,v,l=>((κ n=none/\l=[]/\v=.slice none 0 0)\/∃ b cap,κ n=some (b,cap)/\v=.slice (some ⟨b,cap.2,none⟩) l.length cap.1)/\RepArr L κ h w n e t l
 | .map _ _ _ _,v,none=>κ n=none/\v=.map none
 | .map ak av k x,v,some l=>∃ b c es cl,κ n=some (b,c)/\v=.map (some b)/\w.heap[b]? = some (.map es cl)/\MapRep w (A4 L κ h w) ak av k x l es cl
 | .ptr _,v,none=>κ n=none/\v=.pointer none
 | .ptr t,v,some x=>∃ b c cs ty,κ n=some (b,c)/\v=.pointer (some ⟨b,0,none⟩)/\w.heap[b]? = some (.cells (List.toArray cs) ty (0,0))/\cs.length=t.size/\(∀ u∈cs,u.oneCell'=true)/\RepAt w (A4 L κ h w) t (fun c=>cs[c]?) x
def KTy.sv:KTy->Nat->SV
 | .arr _ _,g=>.own g
 | .map _ _ _ _,g=>.mp g
 | .ptr _,g=>.ptr g 0
def RepPart (L:Nat->Prop) (κ:A2) (h:Heap) (w:World) (n:Nat) (o:Option Nat) (t:KTy) (v:Value) (x:t.den):Prop :=
 match o with
 | some g=>RepSV L κ h w (t.sv g) v/\(h g).Held
 | none=>RepKid L κ h w n t v x
def q09 (f:Option (Nat×Nat)) (i:Nat):Option Nat:=match f with
 | some p=>if p.1=i then some p.2 else none
 | none=>none
def q0a (tk:Ty) (f:Option (tk.den×Nat)) (k:tk.den):Option Nat:=match f with
 | some p=>if tk.eqb p.1 k=true then some p.2 else none
 | none=>none
structure EntsK (L:Nat->Prop) (κ:A2) (h:Heap) (w:World) (id:Nat) (ak:Bool) (tk:Ty) (t:KTy) (f:Option (tk.den×Nat)) (l:List (tk.den×t.den)) (es:Array MapEntry) (clock:Nat):Prop where
 flat:tk.flat=true
 rise:l.Pairwise fun p q=>tk.lt p.1 q.1=true
 apart:(es.toList.map (·.born)).Nodup
 early:∀ x∈es.toList,x.born<clock
 ents:∃ p:List (tk.den×t.den),p.Perm l/\p.length=es.toList.length/\∀ (i:Nat) (x:MapEntry) (q:tk.den×t.den),es.toList[i]? = some x->p[i]? = some q ->
  RepVal w (A4 L κ h w) ak tk x.key q.1/\x.val.oneCell'=true/\RepPart L κ h w (kn id x.born) (q0a tk f q.1) t x.val q.2
def RepObj (L:Nat->Prop) (κ:A2) (h:Heap) (w:World) (id:Nat):AObj->Prop
 | .fresh=>True
 | .dead=>True
 | .cells l=>∃ b c cs ty,κ id=some (b,c)/\w.heap[b]? = some (.cells (List.toArray cs) ty (0,0))/\RepCells L κ h w l cs
 | .arr e t l=>RepArr L κ h w id e t l
 | .ice e t l=>RepArr L κ h w id e t l/\∀ b c,κ id=some (b,c)->A4 L κ h w b
 | .lrec i st=>∃ b c r,κ id=some (b,c)/\w.heap[b]? = some (.loop r)/\r.state=st.state/\r.pending=st.pend/\r.params=i.ps.toArray/\r.assign=i.assign/\r.body=i.body /\
  r.tmps.size=i.n/\∀ t,RepAV L κ h w (i.ρ t) (r.tmps.getD t undef)
 | .mapo ak av tk tv l=>∃ b c es clock,κ id=some (b,c)/\w.heap[b]? = some (.map es clock)/\MapRep w (A4 L κ h w) ak av tk tv l es clock
 | .mapp ak av tk tv l k g=>∃ b c es clock,κ id=some (b,c)/\w.heap[b]? = some (.map es clock)/\MapRep w (A4 L κ h w) ak av tk tv l es clock /\
  (h g).Held/\∃ n c',κ g=some (n,c')/\∃ x∈es.toList,x.born=n/\RepVal w (A4 L κ h w) ak tk x.key k
 | .mice ak av tk tv l=>∃ b c es clock,κ id=some (b,c)/\A4 L κ h w b/\w.heap[b]? = some (.map es clock)/\MapRep w (A4 L κ h w) ak av tk tv l es clock
 | .iter ak av tk tv left cur=>∃ b c m since seen c0,κ id=some (b,c)/\w.heap[b]? = some (.mapIter m since seen c0)/\IterRep w (A4 L κ h w) ak av tk tv left cur m since seen c0
 | .kid=>True
 | .arrD e t l f=>((κ id=none/\l=[]/\f=none)\/∃ b cap cur,κ id=some (b,cap)/\w.heap[b]? = some (.cells cur e (0,0))/\cap.2+cap.1<=cur.size/\cap.1<=maxLen/\l.length<=cap.1/\(∀ c∈cur.toList,c.oneCell'=true) /\
  ∀ i y,l[i]? = some y->∃ v,cur[cap.2+i]? = some v/\RepPart L κ h w (kn id i) (q09 f i) t v y)
 | .mapD ak tk t l f=>∃ b c es cl,κ id=some (b,c)/\w.heap[b]? = some (.map es cl)/\EntsK L κ h w id ak tk t f l es cl
structure Below (B:Nat) (w w':World):Prop where
 os:w'.os=w.os
 tape:w'.tape=w.tape
 output:w'.output=w.output
 size:w.heap.size<=w'.heap.size
 block:∀ k,k<B->w'.heap[k]? = w.heap[k]?
 drawn:w.drawn<=w'.drawn
theorem Below.kit {B:Nat} {w w':World} (h:Below B w w'):Go.RowKit.Below B w w':=⟨h.os,h.tape,h.output,h.size,h.block⟩
theorem Below.refl (B:Nat) (w:World):Below B w w:=⟨rfl,rfl,rfl,Nat.le_refl _,fun _ _=>rfl,Nat.le_refl _⟩
theorem Below.trans {B:Nat} {a b c:World} (h:Below B a b) (k:Below B b c):Below B a c :=
 ⟨k.os.trans h.os,k.tape.trans h.tape,k.output.trans h.output,Nat.le_trans h.size k.size,fun i hi=>(k.block i hi).trans (h.block i hi),Nat.le_trans h.drawn k.drawn⟩
theorem Below.mono {B B':Nat} {w w':World} (h:Below B w w') (hB:B'<=B):Below B' w w':=⟨h.os,h.tape,h.output,h.size,fun k hk=>h.block k (Nat.lt_of_lt_of_le hk hB),h.drawn⟩
theorem Below.drew {B:Nat} {a w:World} (h:Below B a w):Below B a w.drew:=⟨h.os,h.tape,h.output,h.size,h.block,Nat.le_trans h.drawn (Nat.le_succ _)⟩
theorem Below.alloc {B:Nat} {a w:World} (h:Below B a w) (hB:B<=w.heap.size) (o:Obj):Below B a (w.alloc o) :=
 have k:=h.kit.alloc hB o
 ⟨k.os,k.tape,k.output,k.size,k.block,h.drawn⟩
structure HeapOK (L:Nat->Prop) (w0:World) (κ:A2) (h:Heap) (w:World):Prop where
 obj:∀ id,RepObj L κ h w id (h id)
 inj:∀ i j b c c',(h i).live=true->(h j).live=true->κ i=some (b,c)->κ j=some (b,c')->i=j
 own:∀ i b c,(h i).live=true->κ i=some (b,c)->w0.heap.size<=b/\b<w.heap.size
 below:Below w0.heap.size w0 w
 outer:∀ b,L b->b<w.heap.size/\∀ i c,(h i).live=true->κ i≠some (b,c)
 kids:∀ id,X2<=id->h id=.kid
structure Ext (L:Nat->Prop) (κ:A2) (h:Heap) (w:World) (κ':A2) (h':Heap) (w':World):Prop where
 place:∀ id,(h id).Held->κ' id=κ id
 kid:∀ id,h id=.kid->h' id=.kid
 dead:∀ id,h id=.dead->h' id=.dead
 cells:∀ id l,h id=.cells l->(∃ l',h' id=.cells l')\/h' id=.dead
 arr:∀ id e t l,h id=.arr e t l->(∃ l':List t.den,l'.length=l.length/\(h' id=.arr e t l'\/h' id=.ice e t l'))\/h' id=.dead
 arrD:∀ id e t l f,h id=.arrD e t l f->(∃ (l':List t.den) (f':Option (Nat×Nat)),l'.length=l.length/\h' id=.arrD e t l' f')\/(∃ (t':Ty) (l':List t'.den),t'.size=1/\l'.length=l.length/\h' id=.ice e t' l')\/h' id=.dead
 ice:∀ id e t l,h id=.ice e t l->h' id=.ice e t l\/h' id=.dead
 lrec:∀ id i s,h id=.lrec i s->(∃ s',h' id=.lrec i s')\/h' id=.dead
 maps:∀ id,(h id).isMap=true->(h' id).isMap=true\/h' id=.dead
 iter:∀ id ak av tk tv left cur,h id=.iter ak av tk tv left cur->(∃ left' cur',h' id=.iter ak av tk tv left' cur')\/h' id=.dead
 still:∀ b,W3 κ h w b->W3 κ' h' w' b/\w'.heap[b]? = w.heap[b]?
 size:w.heap.size<=w'.heap.size
 loops:∀ (b:Nat) r,w.heap[b]? = some (Obj.loop r)->∃ r',w'.heap[b]? = some (Obj.loop r')
 defs:∀ b:Nat,w.heap[b]? = some (.deferred (some []))->w'.heap[b]? = some (.deferred (some []))
theorem Ext.refl (L:Nat->Prop) (κ:A2) (h:Heap) (w:World):Ext L κ h w κ h w where
 place _ _:=rfl
 kid _ hk:=hk
 dead _ hd:=hd
 cells _ l hl:=.inl ⟨l,hl⟩
 arr _ _ _ l hl:=.inl ⟨l,rfl,.inl hl⟩
 arrD _ _ _ l f hl:=.inl ⟨l,f,rfl,hl⟩
 ice _ _ _ _ hl:=.inl hl
 lrec _ _ s hl:=.inl ⟨s,hl⟩
 maps _ hm:=.inl hm
 iter _ _ _ _ _ l c hi:=.inl ⟨l,c,hi⟩
 still _ hb:=⟨hb,rfl⟩
 size:=Nat.le_refl _
 loops _ r hr:=⟨r,hr⟩
 defs _ hr:=hr
theorem Ext.keeps {L:Nat->Prop} {κ κ':A2} {h h':Heap} {w w':World} (x:Ext L κ h w κ' h' w') {id:Nat} (hf:(h id).Held):(h' id).Held:=by
 cases ho:h id with
 | fresh=>exact absurd ho hf.1
 | kid=>exact absurd ho hf.2
 | arrD e t l f=>rcases x.arrD id e t l f ho with⟨l',f',_,e⟩ | ⟨t',l',_,_,e⟩ | e<;>rw[e]<;>simp
 | dead=>rw[x.dead id ho];simp
 | cells l=>rcases x.cells id l ho with⟨l',e⟩ | e<;>rw[e]<;>simp
 | arr e t l=>rcases x.arr id e t l ho with⟨l',_,e | e⟩ | e<;>rw[e]<;>simp
 | ice e t l=>rcases x.ice id e t l ho with e | e<;>rw[e]<;>simp
 | lrec i s=>rcases x.lrec id i s ho with⟨s',e⟩ | e<;>rw[e]<;>simp
 | mapo ak av tk tv l=>rcases x.maps id (by rw[ho];rfl)with e | e<;>refine⟨fun he=>?_,fun he=>?_⟩<;>rw[he]at e<;>cases e
 | mapD ak tk t l f=>rcases x.maps id (by rw[ho];rfl)with e | e<;>refine⟨fun he=>?_,fun he=>?_⟩<;>rw[he]at e<;>cases e
 | mapp ak av tk tv l k g=>rcases x.maps id (by rw[ho];rfl)with e | e<;>refine⟨fun he=>?_,fun he=>?_⟩<;>rw[he]at e<;>cases e
 | mice ak av tk tv l=>rcases x.maps id (by rw[ho];rfl)with e | e<;>refine⟨fun he=>?_,fun he=>?_⟩<;>rw[he]at e<;>cases e
 | iter ak av tk tv l c=>rcases x.iter id _ _ _ _ _ _ ho with⟨_,_,e⟩ | e<;>rw[e]<;>simp
theorem Ext.trans {L:Nat->Prop} {κ κ' κ'':A2} {h h' h'':Heap} {w w' w'':World} (x:Ext L κ h w κ' h' w') (y:Ext L κ' h' w' κ'' h'' w'') :
  Ext L κ h w κ'' h'' w'' where
 place id hf:=(y.place id (x.keeps hf)).trans (x.place id hf)
 kid id hk:=y.kid id (x.kid id hk)
 arrD id e t l f hl:=by
  rcases x.arrD id e t l f hl with⟨l',f',h1,h2⟩ | ⟨t',l',h1,h2,h3⟩ | h3
  ·rcases y.arrD id e t l' f' h2 with⟨l2,f2,g1,g2⟩ | ⟨t2,l2,g1,g2,g3⟩ | g3
   ·exact .inl ⟨l2,f2,g1.trans h1,g2⟩
   ·exact .inr (.inl ⟨t2,l2,g1,g2.trans h1,g3⟩)
   ·exact .inr (.inr g3)
  ·rcases y.ice id e t' l' h3 with g | g
   ·exact .inr (.inl ⟨t',l',h1,h2,g⟩)
   ·exact .inr (.inr g)
  ·exact .inr (.inr (y.dead id h3))
 dead id hd:=y.dead id (x.dead id hd)
 cells id l hl:=by
  rcases x.cells id l hl with⟨l',e⟩ | e
  ·exact y.cells id l' e
  ·exact .inr (y.dead id e)
 arr id e t l hl:=by
  rcases x.arr id e t l hl with⟨l',hlen,he | he⟩ | he
  ·rcases y.arr id e t l' he with⟨l'',hlen',h2⟩ | h2
   ·exact .inl ⟨l'',hlen'.trans hlen,h2⟩
   ·exact .inr h2
  ·rcases y.ice id e t l' he with h2 | h2
   ·exact .inl ⟨l',hlen,.inr h2⟩
   ·exact .inr h2
  ·exact .inr (y.dead id he)
 ice id e t l hl:=by
  rcases x.ice id e t l hl with he | he
  ·exact y.ice id e t l he
  ·exact .inr (y.dead id he)
 lrec id i s hl:=by
  rcases x.lrec id i s hl with⟨s',e⟩ | e
  ·exact y.lrec id i s' e
  ·exact .inr (y.dead id e)
 maps id hm:=by
  rcases x.maps id hm with e | e
  ·exact y.maps id e
  ·exact .inr (y.dead id e)
 iter id ak av tk tv l c hi:=by
  rcases x.iter id ak av tk tv l c hi with⟨l',c',e⟩ | e
  ·exact y.iter id ak av tk tv l' c' e
  ·exact .inr (y.dead id e)
 size:=Nat.le_trans x.size y.size
 loops b r hr:=by
  obtain⟨r',h1⟩:=x.loops b r hr
  exact y.loops b r' h1
 defs b hr:=y.defs b (x.defs b hr)
 still b hb:=⟨(y.still b (x.still b hb).1).1,((y.still b (x.still b hb).1).2).trans (x.still b hb).2⟩
theorem Ext.free {L:Nat->Prop} {κ κ':A2} {h h':Heap} {w w':World} (x:Ext L κ h w κ' h' w'):∀ b,A4 L κ h w b->A4 L κ' h' w' b/\w'.heap[b]? = w.heap[b]?:=fun b hb =>
 have h1:=x.still b ⟨hb.1,hb.2.2⟩
 ⟨⟨h1.1.1,hb.2.1,h1.1.2⟩,h1.2⟩
theorem RepAt.ext {L:Nat->Prop} {κ κ':A2} {h h':Heap} {w w':World} (x:Ext L κ h w κ' h' w') {t:Ty} {get:Nat->Option Value} {v:t.den}
 (hr:RepAt w (A4 L κ h w) t get v):RepAt w' (A4 L κ' h' w') t get v:=hr.mono x.free t get v
theorem RepSV.ext {L:Nat->Prop} {κ κ':A2} {h h':Heap} {w w':World} (x:Ext L κ h w κ' h' w'):∀ (s:SV) (v:Value),RepSV L κ h w s v->RepSV L κ' h' w' s v
 | .unk,_,_=>trivial
 | .sc _ _,_,⟨h1,h2,h3⟩=>⟨h1,h2,RepAt.ext x h3⟩
 | .nils,_,hr=>hr
 | .nilp,_,hr=>hr
 | .udf,_,hr=>hr
 | .ne _ _,_,⟨h1,h2,h3⟩=>⟨h1,RepAt.ext x h2,h3⟩
 | .nx,_,hr=>hr
 | .gl _,_,hr=>hr
 | .gp _ _,_,⟨b,o,h1,h2,h3⟩=>⟨b,o,h1,(x.still b h2).1,by rw[q1o (w:=w) (w':=w') (a:=⟨b,o,none⟩) (x.still b h2).2];exact h3⟩
 | .cstr _,_,hr=>hr
 | .own id,v,hr=>by
  simp only[RepSV]at hr ⊢
  refine⟨?_,hr.2⟩
  have hr:=hr.1
  cases ho:h id with
  | fresh=>simp[ho]at hr
  | cells l=>simp[ho]at hr
  | lrec i s=>simp[ho]at hr
  | mapo _ _ _ _ _=>simp[ho]at hr
  | mapp _ _ _ _ _ _ _=>simp[ho]at hr
  | mice _ _ _ _ _=>simp[ho]at hr
  | iter _ _ _ _ _ _=>simp[ho]at hr
  | kid=>simp[ho]at hr
  | mapD _ _ _ _ _=>simp[ho]at hr
  | arrD e t l f =>
   simp only[ho]at hr
   have hk:κ' id=κ id:=x.place id (by rw[ho];simp)
   rcases x.arrD id e t l f ho with⟨l',f',hlen,he⟩ | ⟨t',l',_,hlen,he⟩ | he
   ·rw[he];simp only[hk];rcases hr with⟨a,b,c⟩ | ⟨b,cap,h1,h2⟩
    ·exact .inl ⟨a,by rw[b]at hlen;exact List.eq_nil_of_length_eq_zero (by simpa using hlen),c⟩
    ·exact .inr ⟨b,cap,h1,by rw[hlen];exact h2⟩
   ·rw[he];simp only[hk];rcases hr with⟨a,b,c⟩ | ⟨b,cap,h1,h2⟩
    ·exact .inl ⟨a,by rw[b]at hlen;exact List.eq_nil_of_length_eq_zero (by simpa using hlen),c⟩
    ·exact .inr ⟨b,cap,h1,by rw[hlen];exact h2⟩
   ·simp[he]
  | dead=>simp[x.dead id ho]
  | arr e t l =>
   simp only[ho]at hr
   have hk:κ' id=κ id:=x.place id (by rw[ho];simp)
   rcases x.arr id e t l ho with⟨l',hlen,he | he⟩ | he
   ·rw[he];simp only[hk];rcases hr with⟨a,b,c⟩ | ⟨b,cap,h1,h2⟩
    ·exact .inl ⟨a,by rw[b]at hlen;exact List.eq_nil_of_length_eq_zero (by simpa using hlen),c⟩
    ·exact .inr ⟨b,cap,h1,by rw[hlen];exact h2⟩
   ·rw[he];simp only[hk];rcases hr with⟨a,b,c⟩ | ⟨b,cap,h1,h2⟩
    ·exact .inl ⟨a,by rw[b]at hlen;exact List.eq_nil_of_length_eq_zero (by simpa using hlen),c⟩
    ·exact .inr ⟨b,cap,h1,by rw[hlen];exact h2⟩
   ·simp[he]
  | ice e t l =>
   simp only[ho]at hr
   have hk:κ' id=κ id:=x.place id (by rw[ho];simp)
   rcases x.ice id e t l ho with he | he
   ·rw[he];simp only[hk];exact hr
   ·simp[he]
 | .sub id off len,v,hr=>by
  simp only[RepSV]at hr ⊢
  refine⟨?_,hr.2⟩
  have hr:=hr.1
  cases ho:h id with
  | fresh=>simp[ho]at hr
  | cells l=>simp[ho]at hr
  | lrec i s=>simp[ho]at hr
  | mapo _ _ _ _ _=>simp[ho]at hr
  | mapp _ _ _ _ _ _ _=>simp[ho]at hr
  | mice _ _ _ _ _=>simp[ho]at hr
  | iter _ _ _ _ _ _=>simp[ho]at hr
  | kid=>simp[ho]at hr
  | mapD _ _ _ _ _=>simp[ho]at hr
  | arrD e t l f=>simp[ho]at hr
  | dead=>simp[x.dead id ho]
  | arr e t l =>
   simp only[ho]at hr
   have hk:κ' id=κ id:=x.place id (by rw[ho];simp)
   rcases x.arr id e t l ho with⟨l',hlen,he | he⟩ | he
   ·rw[he];simp only[hk,hlen];exact hr
   ·rw[he];simp only[hk,hlen];exact hr
   ·simp[he]
  | ice e t l =>
   simp only[ho]at hr
   have hk:κ' id=κ id:=x.place id (by rw[ho];simp)
   rcases x.ice id e t l ho with he | he
   ·rw[he];simp only[hk];exact hr
   ·simp[he]
 | .ptr id off,v,⟨h1,b,c,h2,h3⟩=>⟨x.keeps h1,b,c,(x.place id h1).trans h2,h3⟩
 | .eptr id t i c,v,⟨h1,b,cap,h2,h3⟩=>⟨x.keeps h1,b,cap,(x.place id h1).trans h2,h3⟩
 | .ro t y c,v,⟨b,o,h1,h2,h3⟩=>by
  refine⟨b,o,h1,(x.free b h2).1,?_⟩
  have:=RepAt.ext x h3
  have hf:(fun j=>if j<t.size then w'.cell? ⟨b,o+j,none⟩else none)=(fun j=>if j<t.size then w.cell? ⟨b,o+j,none⟩else none):=by
   funext j;rw[q1o (w:=w) (w':=w') (a:=⟨b,o+j,none⟩) (x.free b h2).2]
  rw[hf];exact this
 | .fn f caps,v,⟨cs,h1,h2,h3⟩=>⟨cs,h1,h2,fun i p hp=>by
  obtain⟨a,b,c,d,e⟩:=h3 i p hp
  exact⟨x.keeps a,b,c,(x.place p.1 a).trans d,e⟩⟩
 | .yld id,v,⟨h1,b,c,h2,h3⟩=>⟨x.keeps h1,b,c,(x.place id h1).trans h2,h3⟩
 | .mp id,v,⟨h1,b,c,h2,h3⟩=>⟨x.keeps h1,b,c,(x.place id h1).trans h2,h3⟩
 | .stmp id,v,⟨h1,b,c,h2,h3⟩=>⟨x.keeps h1,b,c,(x.place id h1).trans h2,h3⟩
 | .csl id _ _ _,v,⟨h1,b,c,h2,h3⟩=>⟨x.keeps h1,b,c,(x.place id h1).trans h2,h3⟩
 | .mpn,_,hr=>hr
 | .nif,_,hr=>hr
 | .nilf,_,hr=>hr
 | .pan _,_,hr=>hr.elim
 | .ifc T agg cs,v,⟨us,h1,h2,h3,h4⟩=>⟨us,h1,h2,h3,fun i p u hp hu=>⟨(h4 i p u hp hu).1,(h4 i p u hp hu).2.1,(h4 i p u hp hu).2.2.ext x⟩⟩
 | .bfp f id off,v,⟨u,h1,h2,b,c,h3,h4⟩=>⟨u,h1,x.keeps h2,b,c,(x.place id h2).trans h3,h4⟩
 | .bfn f agg cs,v,⟨us,h1,h2,h3,h4⟩=>⟨us,h1,h2,h3,fun i p u hp hu=>⟨(h4 i p u hp hu).1,(h4 i p u hp hu).2.1,(h4 i p u hp hu).2.2.ext x⟩⟩
theorem RepCells.ext {L:Nat->Prop} {κ κ':A2} {h h':Heap} {w w':World} (x:Ext L κ h w κ' h' w') {l:List SV} {cs:List Value}
 (hr:RepCells L κ h w l cs):RepCells L κ' h' w' l cs:=⟨hr.1,fun i s c h1 h2=>⟨(hr.2 i s c h1 h2).1.ext x,(hr.2 i s c h1 h2).2⟩⟩
theorem RepComp.ext {L:Nat->Prop} {κ κ':A2} {h h':Heap} {w w':World} (x:Ext L κ h w κ' h' w'):∀ {c:Bool×List SV} {v:Value},
  RepComp L κ h w c v->RepComp L κ' h' w' c v
 | (true,_),_,⟨cs,h1,h2⟩=>⟨cs,h1,h2.ext x⟩
 | (false,[s]),v,hr=>RepSV.ext x s v hr
 | (false,[]),_,hr=>hr.elim
 | (false,_::_::_),_,hr=>hr.elim
theorem RepAV.ext {L:Nat->Prop} {κ κ':A2} {h h':Heap} {w w':World} (x:Ext L κ h w κ' h' w'):∀ {v:AV} {u:Value},
  RepAV L κ h w v u->RepAV L κ' h' w' v u
 | .one s,u,hr=>RepSV.ext x s u hr
 | .agg _,_,⟨cs,h1,h2⟩=>⟨cs,h1,h2.ext x⟩
 | .tup _,_,⟨vs,h1,h2,h3⟩=>⟨vs,h1,h2,fun i c u a b=>(h3 i c u a b).ext x⟩
end Go.Abs
