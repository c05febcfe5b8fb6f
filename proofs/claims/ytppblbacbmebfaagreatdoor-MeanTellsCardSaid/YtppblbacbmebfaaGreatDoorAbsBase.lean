/- The engine, part 1: abstract values, how a world represents them, and what is kept from world to world. -/
import Derived.WalkKit
import Derived.OrdersIn
import Derived.RangeFuncRecord
import Derived.RangeFuncLeaves
import Derived.LoopNIn
namespace Go.Abs
open Go Go.RowKit
inductive Ty where
 | int (k:IntKind)
 | bool
 | list (e:Ty)
 | nil
 | cons (a b:Ty)
 | map (ak av:Bool) (k v:Ty)
 deriving DecidableEq
def Ty.size:Ty->Nat
 | .int _=>1
 | .bool=>1
 | .list _=>1
 | .nil=>0
 | .cons a b=>a.size+b.size
 | .map _ _ _ _=>1
@[reducible] def Ty.den:Ty->Type
 | .int _=>Int
 | .bool=>Bool
 | .list e=>List e.den
 | .nil=>Unit
 | .cons a b=>a.den×b.den
 | .map _ _ k v=>List (k.den×v.den)
def Ty.flat:Ty->Bool
 | .int _=>true
 | .bool=>true
 | .list _=>false
 | .nil=>true
 | .cons a b=>a.flat&&b.flat
 | .map _ _ _ _=>false
def Ty.eqb:(t:Ty)->t.den->t.den->Bool
 | .int _,x,y=>x==y
 | .bool,x,y=>x==y
 | .list _,_,_=>false
 | .nil,_,_=>true
 | .cons a b,x,y=>a.eqb x.1 y.1&&b.eqb x.2 y.2
 | .map _ _ _ _,_,_=>false
def Ty.lt:(t:Ty)->t.den->t.den->Bool
 | .int _,x,y=>decide (x<y)
 | .bool,x,y=>!x&&y
 | .list _,_,_=>false
 | .nil,_,_=>false
 | .cons a b,x,y=>a.lt x.1 y.1||(a.eqb x.1 y.1&&b.lt x.2 y.2)
 | .map _ _ _ _,_,_=>false
section
variable {β:Type}
def A9 (t:Ty) (l:List (t.den×β)) (k:t.den):Option β:=(l.find? fun p=>t.eqb k p.1).map (·.2)
def B0 (t:Ty):List (t.den×β)->t.den->β->List (t.den×β)
 | [],k,v=>[(k,v)]
 | p::r,k,v=>cond (t.eqb k p.1) ((k,v)::r) (cond (t.lt k p.1) ((k,v)::p::r) (p::B0 t r k v))
def G5 (t:Ty) (l:List (t.den×β)) (k:t.den):List (t.den×β):=l.filter fun p=>!t.eqb k p.1
def D0 (t:Ty) (l:List (t.den×β)) (k:t.den) (z:β):List (t.den×β):=B0 t l k ((A9 t l k).getD z)
end
inductive KTy where
 | arr (e:TypeId) (t:Ty)
 | map (ak av:Bool) (k v:Ty)
 | ptr (t:Ty)
 deriving DecidableEq
@[reducible] def KTy.den:KTy->Type
 | .arr _ t=>List t.den
 | .map _ _ k v=>Option (List (k.den×v.den))
 | .ptr t=>Option t.den
def T7:Nat:=1099511627776
def kn (id n:Nat):Nat:=T7+2^id*(2*n+1)
theorem z1u (id n:Nat):T7<=kn id n:=Nat.le_add_right _ _
theorem N0:∀ {a b m n:Nat},kn a m=kn b n->a=b/\m=n:=by
 have c:∀ (a b m n:Nat),2^a*(2*m+1)=2^b*(2*n+1)->a=b/\m=n:=by
  intro a
  induction a with
  | zero =>
   intro b m n h
   cases b with
   | zero=>omega
   | succ b =>
    grind
  | succ a d =>
   intro b m n h
   cases b with
   | zero =>
    grind
   | succ b =>
    grind[Nat.mul_assoc]
 intro a b m n h
 exact c a b m n (Nat.add_left_cancel h)
def F7 (v:Value):Nat->Option Value:=fun c=>if c=0 then some v else none
def RepIn (R:(Nat->Option Value)->Prop) (agg:Bool) (n:Nat) (v:Value):Prop :=
 match agg with
 | true=>∃ cs:List Value,v=.agg cs.toArray/\cs.length=n/\(∀ c∈cs,c.oneCell'=true)/\R (fun c=>cs[c]?)
 | false=>n=1/\v.oneCell'=true/\R (F7 v)
theorem RepIn.imp {R R':(Nat->Option Value)->Prop} (b:∀ g,R g->R' g) {a:Bool} {n:Nat} {v:Value} (h:RepIn R a n v):RepIn R' a n v:=by
 cases a with
 | true=>obtain⟨e,i,d,c,f⟩:=h;exact⟨e,i,d,c,b _ f⟩
 | false=>exact⟨h.1,h.2.1,b _ h.2.2⟩
structure EntsOK (tk:Ty) {β:Type} (K:tk.den->Value->Prop) (V:β->Value->Prop) (l:List (tk.den×β)) (es:Array MapEntry) (clock:Nat):Prop where
 flat:tk.flat=true
 rise:l.Pairwise fun p q=>tk.lt p.1 q.1=true
 apart:(es.toList.map (·.born)).Nodup
 early:∀ x∈es.toList,x.born<clock
 ents:∃ p:List (tk.den×β),p.Perm l/\p.length=es.toList.length/\∀ (i:Nat) (x:MapEntry) (q:tk.den×β),es.toList[i]? = some x->p[i]? = some q->K q.1 x.key/\V q.2 x.val
theorem EntsOK.imp {b:Ty} {f:Type} {K c:b.den->Value->Prop} {V d:f->Value->Prop} (k:∀ x v,K x v->c x v) (j:∀ x v,V x v->d x v) {l:List (b.den×f)} {e:Array MapEntry} {a:Nat} (h:EntsOK b K V l e a):EntsOK b c d l e a where
 flat:=h.flat
 rise:=h.rise
 apart:=h.apart
 early:=h.early
 ents:=by
  obtain⟨p,m,i,g⟩:=h.ents
  grind
def RepAt (w:World) (A:Nat->Prop):(t:Ty)->(get:Nat->Option Value)->t.den->Prop
 | .int k,get,x=>get 0=some (.int k x)
 | .bool,get,x=>get 0=some (.bool x)
 | .list e,get,x=>∃ sa len cap,get 0=some (.slice sa len cap)/\len=x.length/\len<=cap /\
  (x≠[]->∃ b o,sa=some ⟨b,o,none⟩/\A b /\
   ∀ i y,x[i]? = some y->RepAt w A e (fun c=>if c<e.size then w.cell? ⟨b,o+(i*e.size+c),none⟩else none) y)
 | .nil,_,_=>True
 | .cons a b,get,x=>RepAt w A a get x.1/\RepAt w A b (fun c=>get (a.size+c)) x.2
 | .map ak av k v,get,x=>∃ b es clock,get 0=some (.map (some b))/\A b/\w.heap[b]? = some (.map es clock) /\
  EntsOK k (fun y u=>RepIn (fun g=>RepAt w A k g y) ak k.size u) (fun y u=>RepIn (fun g=>RepAt w A v g y) av v.size u) x es clock
theorem q4i {w w':World} {a:Addr} (h:w'.heap[a.block]? = w.heap[a.block]?):w'.cell? a=w.cell? a:=by
 grind[World.cell?]
theorem RepAt.mono {w w':World} {A A':Nat->Prop} (hA:∀ b,A b->A' b/\w'.heap[b]? = w.heap[b]?) :
  ∀ (t:Ty) (get:Nat->Option Value) (x:t.den),RepAt w A t get x->RepAt w' A' t get x
 | .int _,_,_,h=>h
 | .bool,_,_,h=>h
 | .nil,_,_,_=>trivial
 | .cons a b,get,x,h=>⟨RepAt.mono hA a get x.1 h.1,RepAt.mono hA b _ x.2 h.2⟩
 | .list e,get,x,h=>by
  obtain⟨J,l,s,j,G,B,D⟩:=h
  refine⟨J,l,s,j,G,B,fun p=>?_⟩
  obtain⟨b,o,N,n,q⟩:=D p
  obtain⟨d,m⟩:=hA b n
  refine⟨b,o,N,d,fun i y E=>?_⟩
  have:=RepAt.mono hA e _ y (q i y E)
  have K:(fun c=>if c<e.size then w'.cell? ⟨b,o+(i*e.size+c),none⟩else none) =
    (fun c=>if c<e.size then w.cell? ⟨b,o+(i*e.size+c),none⟩else none):=by
   funext c;rw[q4i (w:=w) (w':=w') (a:=⟨b,o+(i*e.size+c),none⟩) m]
  rw[K];exact this
 | .map Q O k v,get,x,h=>by
  obtain⟨b,I,f,F,M,H,C⟩:=h
  obtain⟨d,m⟩:=hA b M
  exact⟨b,I,f,F,d,m.trans H,C.imp (fun y u r=>r.imp fun g j=>RepAt.mono hA k g y j) (fun y u r=>r.imp fun g j=>RepAt.mono hA v g y j)⟩
theorem RepAt.congr {w:World} {A:Nat->Prop}:∀ (t:Ty) (get d:Nat->Option Value) (x:t.den),
  (∀ c,c<t.size->get c=d c)->RepAt w A t get x->RepAt w A t d x
 | .int _,_,_,_,g,h=>by grind[RepAt,Ty.size]
 | .bool,_,_,_,g,h=>by grind[RepAt,Ty.size]
 | .nil,_,_,_,_,_=>trivial
 | .cons a b,get,d,x,g,h =>
  ⟨RepAt.congr a get d x.1 (fun c n=>g c (by grind[Ty.size])) h.1,
   RepAt.congr b _ _ x.2 (fun c n=>g (a.size+c) (by grind[Ty.size])) h.2⟩
 | .list e,get,d,x,g,h=>by
  obtain⟨l,j,i,m,k⟩:=h
  exact⟨l,j,i,by grind[Ty.size],k⟩
 | .map _ _ _ _,get,d,x,g,h=>by
  have m:=g 0 (by simp[Ty.size])
  obtain⟨b,p,f,q,o⟩:=h
  exact⟨b,p,f,by grind,o⟩
inductive SV where
 | unk
 | sc (t:Ty) (x:t.den)
 | nils
 | own (id:Nat)
 | sub (id:Nat) (off len:Nat)
 | ptr (id off:Nat)
 | eptr (id:Nat) (t:Ty) (i:Nat) (c:Nat)
 | ro (t:Ty) (x:t.den) (c:Nat)
 | fn (f:Nat) (caps:List (Nat×Nat))
 | yld (id:Nat)
 | nilp
 | udf
 | ne (e:Ty) (l:List e.den)
 | nx
 | gl (g:Nat)
 | gp (k:IntKind) (x:Int)
 | cstr (b:ByteArray)
 | bfn (f:Nat) (agg:Bool) (cs:List ((t:Ty)×t.den))
 | bfp (f:Nat) (id off:Nat)
 | mp (id:Nat)
 | mpn
 | stmp (g:Nat)
 | csl (id off len cap:Nat)
 | ifc (T:TypeId) (agg:Bool) (cs:List ((t:Ty)×t.den))
 | nif
 | nilf
 | pan (T:TypeId)
inductive AV where
 | one (s:SV)
 | agg (l:List SV)
 | tup (l:List (Bool×List SV))
inductive XK where
 | nrm
 | ex (id:Nat)
 | ret
 | pan (T:TypeId)
def XK.code:XK->Option Code
 | .nrm=>none
 | .ex id=>some (.exit id)
 | .ret=>some .ret
 | .pan _=>none
inductive RS where
 | ready
 | busy
 | left (x:XK)
 | over (x:XK)
def RS.state:RS->LoopState
 | .ready=>.ready
 | .busy=>.busy
 | .left _=>.done
 | .over _=>.exhausted
def RS.pend:RS->Option Code
 | .left x=>x.code
 | .over x=>x.code
 | _=>none
structure RI where
 ρ:Nat->AV
 n:Nat
 ps:List Tmp
 assign:Code
 body:Code
inductive AObj where
 | fresh
 | dead
 | cells (l:List SV)
 | arr (e:TypeId) (t:Ty) (l:List t.den)
 | ice (e:TypeId) (t:Ty) (l:List t.den)
 | lrec (i:RI) (st:RS)
 | mapo (ak av:Bool) (tk tv:Ty) (l:List (tk.den×tv.den))
 | mapp (ak av:Bool) (tk tv:Ty) (l:List (tk.den×tv.den)) (k:tk.den) (g:Nat)
 | mice (ak av:Bool) (tk tv:Ty) (l:List (tk.den×tv.den))
 | iter (ak av:Bool) (tk tv:Ty) (left:List (tk.den×tv.den)) (cur:Option (tk.den×tv.den))
 | kid
 | arrD (e:TypeId) (t:KTy) (l:List t.den) (f:Option (Nat×Nat))
 | mapD (ak:Bool) (tk:Ty) (t:KTy) (l:List (tk.den×t.den)) (f:Option (tk.den×Nat))
 | arrK (e:TypeId) (t:Ty) (c:Nat) (t1:KTy) (l:List t.den) (k:List t1.den) (f:Option (Nat×Nat))
def C0:Nat:=1048575
def K5 (T:TypeId):AObj:=.cells [.pan T]
def AObj.isMap:AObj->Bool
 | .mapo .. | .mapp .. | .mice .. | .mapD ..=>true
 | _=>false
def AObj.live:AObj->Bool
 | .cells _ | .arr .. | .lrec .. | .mapo .. | .mapp .. | .iter .. | .kid | .arrD .. | .mapD .. | .arrK ..=>true
 | _=>false
@[simp] def AObj.Held (o:AObj):Prop:=o≠.fresh/\o≠.kid
abbrev Env:=Nat->AV
abbrev Heap:=Nat->AObj
abbrev A2:=Nat->Option (Nat×(Nat×Nat))
instance:OfNat (Nat×Nat) 0:=⟨(0,0)⟩
def upd {α:Type} (f:Nat->α) (i:Nat) (v:α):Nat->α:=fun j=>bif Nat.beq j i then v else f j
theorem A1 {a:Type} (f:Nat->a) (i:Nat) (v:a):upd f i v i=v:=by
 grind[Nat.beq_refl,upd]
theorem A0 {a:Type} (f:Nat->a) {i j:Nat} (v:a) (h:j≠i):upd f i v j=f j:=by
 grind[Nat.eq_of_beq_eq_true,upd]
def A3 (L:Nat->Prop) (κ:A2) (h:Heap) (w:World) (b:Nat):Prop :=
 b<w.heap.size/\¬ L b/\∀ id c,(h id).live=true->κ id≠some (b,c)
def N6 (κ:A2) (h:Heap) (w:World) (b:Nat):Prop :=
 b<w.heap.size/\∀ id c,(h id).live=true->κ id≠some (b,c)
def RepSV (L:Nat->Prop) (κ:A2) (h:Heap) (w:World):SV->Value->Prop
 | .unk,_=>True
 | .sc t x,v=>t.size=1/\v.oneCell'=true/\RepAt w (A3 L κ h w) t (F7 v) x
 | .nils,v=>v=.slice none 0 0
 | .own id,v=>(match h id with
  | .arr _ _ l | .ice _ _ l =>
   (κ id=none/\l=[]/\v=.slice none 0 0) \/
   ∃ b cap,κ id=some (b,cap)/\v=.slice (some ⟨b,cap.2,none⟩) l.length cap.1
  | .arrD _ _ l _ =>
   (κ id=none/\l=[]/\v=.slice none 0 0) \/
   ∃ b cap,κ id=some (b,cap)/\v=.slice (some ⟨b,cap.2,none⟩) l.length cap.1
  | .arrK _ _ _ _ l _ _ =>
   (κ id=none/\l=[]/\v=.slice none 0 0) \/
   ∃ b cap,κ id=some (b,cap)/\v=.slice (some ⟨b,cap.2,none⟩) l.length cap.1
  | .dead=>True
  | _=>False)/\v.oneCell'=true
 | .sub id off len,v=>(match h id with
  | .arr _ t l | .ice _ t l =>
   off+len<=l.length /\
   ((κ id=none/\v=.slice none 0 0) \/
   ∃ b cap o,κ id=some (b,cap)/\v=.slice (some ⟨b,o,none⟩) len (cap.1-off)/\(len≠0->o=cap.2+off*t.size))
  | .dead=>True
  | _=>False)/\v.oneCell'=true
 | .ptr id off,v=>(h id).Held/\∃ b c,κ id=some (b,c)/\v=.pointer (some ⟨b,off,none⟩)
 | .eptr id t i c,v=>(h id).Held/\∃ b cap,κ id=some (b,cap)/\v=.pointer (some ⟨b,cap.2+i*t.size+c,none⟩)
 | .ro t x c,v=>∃ b o,v=.pointer (some ⟨b,o+c,none⟩)/\A3 L κ h w b/\RepAt w (A3 L κ h w) t (fun j=>if j<t.size then w.cell? ⟨b,o+j,none⟩else none) x
 | .fn f caps,v=>∃ cs:List Value,v=.func (.func f) #[] cs.toArray/\cs.length=caps.length /\
  ∀ (i:Nat) (p:Nat×Nat),caps[i]? = some p->(h p.1).Held/\∃ b c,κ p.1=some (b,c)/\cs[i]? = some (.pointer (some ⟨b,p.2,none⟩))
 | .yld id,v=>(h id).Held/\∃ b c,κ id=some (b,c)/\v=.func (.yield b) #[] #[]
 | .nilp,v=>v=.pointer none
 | .udf,v=>v=undef
 | .ne e l,v=>v.oneCell'=true/\RepAt w (A3 L κ h w) (.list e) (F7 v) l/\∃ a len cap,v=.slice (some a) len cap
 | .nx,v=>∃ cap,v=.slice none 0 cap
 | .gl g,v=>v=.pointer (some ⟨g,0,none⟩)
 | .gp k x,v=>∃ b o,v=.pointer (some ⟨b,o,none⟩)/\N6 κ h w b/\w.cell? ⟨b,o,none⟩=some (.int k x)
 | .cstr b,v=>v=.string b
 | .mp id,v=>(h id).Held/\∃ b c,κ id=some (b,c)/\v=.map (some b)
 | .mpn,v=>v=.map none
 | .stmp g,v=>(h g).Held/\∃ n c,κ g=some (n,c)/\v=.int .i64 n
 | .csl id off len cap,v=>(h id).Held/\∃ b c,κ id=some (b,c)/\v=.slice (some ⟨b,off,none⟩) len cap
 | .nif,v=>v=.nilIface
 | .nilf,v=>v=.nilFunc
 | .pan _,_=>False
 | .ifc T agg cs,v=>∃ us:List Value,v=.iface T (cond agg (.agg us.toArray) (us.headD undef))/\us.length=cs.length/\(agg=false->us.length=1) /\
  ∀ (i:Nat) (p:(t:Ty)×t.den) (u:Value),cs[i]? = some p->us[i]? = some u->p.1.size=1/\u.oneCell'=true/\RepAt w (A3 L κ h w) p.1 (F7 u) p.2
 | .bfp f id off,v=>∃ u,v=.func (.func f) #[u] #[]/\(h id).Held/\∃ b c,κ id=some (b,c)/\u=.pointer (some ⟨b,off,none⟩)
 | .bfn f agg cs,v=>∃ us:List Value,v=.func (.func f) #[cond agg (.agg us.toArray) (us.headD undef)] #[]/\us.length=cs.length/\(agg=false->us.length=1) /\
  ∀ (i:Nat) (p:(t:Ty)×t.den) (u:Value),cs[i]? = some p->us[i]? = some u->p.1.size=1/\u.oneCell'=true/\RepAt w (A3 L κ h w) p.1 (F7 u) p.2
def RepVal (w:World) (A:Nat->Prop) (agg:Bool) (t:Ty) (v:Value) (x:t.den):Prop:=RepIn (fun g=>RepAt w A t g x) agg t.size v
theorem RepVal.mono {w w':World} {A A':Nat->Prop} (hA:∀ b,A b->A' b/\w'.heap[b]? = w.heap[b]?) {a:Bool} {t:Ty} {v:Value} {x:t.den} (h:RepVal w A a t v x):RepVal w' A' a t v x :=
 RepIn.imp (fun g c=>RepAt.mono hA t g x c) h
abbrev MapRep (w:World) (A:Nat->Prop) (ak av:Bool) (tk tv:Ty) (l:List (tk.den×tv.den)) (es:Array MapEntry) (clock:Nat):Prop :=
 EntsOK tk (fun y u=>RepVal w A ak tk u y) (fun y u=>RepVal w A av tv u y) l es clock
theorem MapRep.mono {w w':World} {A A':Nat->Prop} (hA:∀ b,A b->A' b/\w'.heap[b]? = w.heap[b]?) {f av:Bool} {d c:Ty} {l:List (d.den×c.den)} {e:Array MapEntry} {a:Nat}
 (h:MapRep w A f av d c l e a):MapRep w' A' f av d c l e a:=EntsOK.imp (fun _ _ h=>h.mono hA) (fun _ _ h=>h.mono hA) h
structure IterRep (w:World) (A:Nat->Prop) (ak av:Bool) (tk tv:Ty) (left:List (tk.den×tv.den)) (cur:Option (tk.den×tv.den)) (m:Option Nat) (since:Nat) (seen:Array Nat) (c0:Nat):Prop where
 map:m=none/\left=[]/\cur=none\/∃ b es clock,m=some b/\A b/\w.heap[b]? = some (.map es clock)/\(es.toList.map (·.born)).Nodup/\(∀ x∈es.toList,x.born<since)/\since<=c0/\since<=clock /\
  (∃ p:List (tk.den×tv.den),p.Perm left/\p.length=(leftOf es seen).toList.length/\∀ (i:Nat) (x:MapEntry) (q:tk.den×tv.den),(leftOf es seen).toList[i]? = some x->p[i]? = some q->RepVal w A ak tk x.key q.1/\RepVal w A av tv x.val q.2) /\
  ∀ q,cur=some q->c0=clock/\∃ x∈es.toList,seen.back? = some x.born/\RepVal w A ak tk x.key q.1/\RepVal w A av tv x.val q.2
theorem IterRep.mono {w w':World} {A A':Nat->Prop} (hA:∀ b,A b->A' b/\w'.heap[b]? = w.heap[b]?) {o av:Bool} {g j:Ty} {d:List (g.den×j.den)} {f:Option (g.den×j.den)} {m:Option Nat} {c:Nat} {seen:Array Nat} {l:Nat}
  (h:IterRep w A o av g j d f m c seen l):IterRep w' A' o av g j d f m c seen l where
 map:=by
  rcases h.map with h | ⟨b,s,e,F,K,G,D,v,B,M,⟨p,y,u,n⟩,H⟩
  ·grind
  ·obtain⟨k,z⟩:=hA b K
   refine .inr ⟨b,s,e,F,k,z.trans G,D,v,B,M,⟨p,y,u,fun i x q a b=>⟨(n i x q a b).1.mono hA,(n i x q a b).2.mono hA⟩⟩,fun q r=>?_⟩
   obtain⟨I,x,t,E,C,J⟩:=H q r
   exact⟨I,x,t,E,C.mono hA,J.mono hA⟩
def RepCells (L:Nat->Prop) (κ:A2) (h:Heap) (w:World) (l:List SV) (cs:List Value):Prop :=
 cs.length=l.length/\∀ (i:Nat) (s:SV) (c:Value),l[i]? = some s->cs[i]? = some c->RepSV L κ h w s c/\c.oneCell'=true
def RepComp (L:Nat->Prop) (κ:A2) (h:Heap) (w:World) (c:Bool×List SV) (v:Value):Prop :=
 match c with
 | (true,l)=>∃ cs:List Value,v=.agg cs.toArray/\RepCells L κ h w l cs
 | (false,[s])=>RepSV L κ h w s v
 | (false,_)=>False
def RepAV (L:Nat->Prop) (κ:A2) (h:Heap) (w:World):AV->Value->Prop
 | .one s,v=>RepSV L κ h w s v
 | .agg l,v=>∃ cs:List Value,v=.agg cs.toArray/\RepCells L κ h w l cs
 | .tup l,v=>∃ vs:List Value,v=.tuple vs.toArray/\vs.length=l.length/\∀ (i:Nat) (c:Bool×List SV) (u:Value),l[i]? = some c->vs[i]? = some u->RepComp L κ h w c u
def RepArr (L:Nat->Prop) (κ:A2) (h:Heap) (w:World) (id:Nat) (e:TypeId) (t:Ty) (l:List t.den):Prop :=
 (κ id=none/\l=[]) \/
 ∃ b cap cur,κ id=some (b,cap)/\w.heap[b]? = some (.cells cur e (0,0))/\cap.2+cap.1*t.size<=cur.size/\cap.1<=maxLen/\l.length<=cap.1 /\
  (∀ c∈cur.toList,c.oneCell'=true) /\
  ∀ i y,l[i]? = some y->RepAt w (A3 L κ h w) t (fun c=>if c<t.size then cur[cap.2+i*t.size+c]? else none) y
def RepKid (L:Nat->Prop) (κ:A2) (h:Heap) (w:World) (n:Nat):(t:KTy)->Value->t.den->Prop
 | .arr e t,v,l=>((κ n=none/\l=[]/\v=.slice none 0 0)\/∃ b cap,κ n=some (b,cap)/\v=.slice (some ⟨b,cap.2,none⟩) l.length cap.1)/\RepArr L κ h w n e t l
 | .map _ _ _ _,v,none=>κ n=none/\v=.map none
 | .map ak av k x,v,some l=>∃ b c es cl,κ n=some (b,c)/\v=.map (some b)/\w.heap[b]? = some (.map es cl)/\MapRep w (A3 L κ h w) ak av k x l es cl
 | .ptr _,v,none=>κ n=none/\v=.pointer none
 | .ptr t,v,some x=>∃ b c cs ty,κ n=some (b,c)/\v=.pointer (some ⟨b,0,none⟩)/\w.heap[b]? = some (.cells (List.toArray cs) ty (0,0))/\cs.length=t.size/\(∀ u∈cs,u.oneCell'=true)/\RepAt w (A3 L κ h w) t (fun c=>cs[c]?) x
def KTy.sv:KTy->Nat->SV
 | .arr _ _,g=>.own g
 | .map _ _ _ _,g=>.mp g
 | .ptr _,g=>.ptr g 0
def RepPart (L:Nat->Prop) (κ:A2) (h:Heap) (w:World) (n:Nat) (o:Option Nat) (t:KTy) (v:Value) (x:t.den):Prop :=
 match o with
 | some g=>RepSV L κ h w (t.sv g) v/\(h g).Held
 | none=>RepKid L κ h w n t v x
def R7 (c:Nat) (get:Nat->Option Value):Nat->Option Value:=fun j=>if j=c then some (.slice none 0 0)else get j
def X9 (f:Option (Nat×Nat)) (i:Nat):Option Nat:=match f with
 | some p=>if p.1=i then some p.2 else none
 | none=>none
def q2y (tk:Ty) (f:Option (tk.den×Nat)) (k:tk.den):Option Nat:=match f with
 | some p=>if tk.eqb p.1 k=true then some p.2 else none
 | none=>none
structure EntsK (L:Nat->Prop) (κ:A2) (h:Heap) (w:World) (id:Nat) (ak:Bool) (tk:Ty) (t:KTy) (f:Option (tk.den×Nat)) (l:List (tk.den×t.den)) (es:Array MapEntry) (clock:Nat):Prop where
 flat:tk.flat=true
 rise:l.Pairwise fun p q=>tk.lt p.1 q.1=true
 apart:(es.toList.map (·.born)).Nodup
 early:∀ x∈es.toList,x.born<clock
 ents:∃ p:List (tk.den×t.den),p.Perm l/\p.length=es.toList.length/\∀ (i:Nat) (x:MapEntry) (q:tk.den×t.den),es.toList[i]? = some x->p[i]? = some q ->
  RepVal w (A3 L κ h w) ak tk x.key q.1/\x.val.oneCell'=true/\RepPart L κ h w (kn id x.born) (q2y tk f q.1) t x.val q.2
def RepObj (L:Nat->Prop) (κ:A2) (h:Heap) (w:World) (id:Nat):AObj->Prop
 | .fresh=>True
 | .dead=>True
 | .cells l=>∃ b c cs ty,κ id=some (b,c)/\w.heap[b]? = some (.cells (List.toArray cs) ty (0,0))/\RepCells L κ h w l cs
 | .arr e t l=>RepArr L κ h w id e t l
 | .ice e t l=>RepArr L κ h w id e t l/\∀ b c,κ id=some (b,c)->A3 L κ h w b
 | .lrec i st=>∃ b c r,κ id=some (b,c)/\w.heap[b]? = some (.loop r)/\r.state=st.state/\r.pending=st.pend/\r.params=i.ps.toArray/\r.assign=i.assign/\r.body=i.body /\
  r.tmps.size=i.n/\∀ t,RepAV L κ h w (i.ρ t) (r.tmps.getD t undef)
 | .mapo ak av tk tv l=>∃ b c es clock,κ id=some (b,c)/\w.heap[b]? = some (.map es clock)/\MapRep w (A3 L κ h w) ak av tk tv l es clock
 | .mapp ak av tk tv l k g=>∃ b c es clock,κ id=some (b,c)/\w.heap[b]? = some (.map es clock)/\MapRep w (A3 L κ h w) ak av tk tv l es clock /\
  (h g).Held/\∃ n c',κ g=some (n,c')/\∃ x∈es.toList,x.born=n/\RepVal w (A3 L κ h w) ak tk x.key k
 | .mice ak av tk tv l=>∃ b c es clock,κ id=some (b,c)/\A3 L κ h w b/\w.heap[b]? = some (.map es clock)/\MapRep w (A3 L κ h w) ak av tk tv l es clock
 | .iter ak av tk tv left cur=>∃ b c m since seen c0,κ id=some (b,c)/\w.heap[b]? = some (.mapIter m since seen c0)/\IterRep w (A3 L κ h w) ak av tk tv left cur m since seen c0
 | .kid=>True
 | .arrD e t l f=>((κ id=none/\l=[]/\f=none)\/∃ b cap cur,κ id=some (b,cap)/\w.heap[b]? = some (.cells cur e (0,0))/\cap.2+cap.1<=cur.size/\cap.1<=maxLen/\l.length<=cap.1/\(∀ c∈cur.toList,c.oneCell'=true) /\
  ∀ i y,l[i]? = some y->∃ v,cur[cap.2+i]? = some v/\RepPart L κ h w (kn id i) (X9 f i) t v y)
 | .arrK e t c t1 l k f=>((κ id=none/\l=[]/\k=[]/\f=none)\/∃ b cap cur,κ id=some (b,cap)/\w.heap[b]? = some (.cells cur e (0,0))/\cap.2+cap.1*t.size<=cur.size/\cap.1<=maxLen/\l.length<=cap.1/\(∀ c∈cur.toList,c.oneCell'=true)/\c<t.size/\k.length<=l.length /\
  (∀ i y,l[i]? = some y->RepAt w (A3 L κ h w) t (R7 c fun j=>if j<t.size then cur[cap.2+i*t.size+j]? else none) y) /\
  ∀ i y,k[i]? = some y->∃ v,cur[cap.2+i*t.size+c]? = some v/\RepPart L κ h w (kn id i) (X9 f i) t1 v y)
 | .mapD ak tk t l f=>∃ b c es cl,κ id=some (b,c)/\w.heap[b]? = some (.map es cl)/\EntsK L κ h w id ak tk t f l es cl
structure Below (B:Nat) (w w':World):Prop where
 os:w'.os=w.os
 tape:w'.tape=w.tape
 output:w'.output=w.output
 size:w.heap.size<=w'.heap.size
 block:∀ k,k<B->w'.heap[k]? = w.heap[k]?
 drawn:w.drawn<=w'.drawn
theorem Below.kit {B:Nat} {w w':World} (h:Below B w w'):Go.RowKit.Below B w w':=⟨h.os,h.tape,h.output,h.size,h.block⟩
theorem Below.refl (B:Nat) (w:World):Below B w w:=⟨rfl,rfl,rfl,Nat.le_refl _,fun _ _=>rfl,Nat.le_refl _⟩
theorem Below.trans {B:Nat} {a b c:World} (h:Below B a b) (k:Below B b c):Below B a c :=
 ⟨k.os.trans h.os,k.tape.trans h.tape,k.output.trans h.output,Nat.le_trans h.size k.size,fun i d=>(k.block i d).trans (h.block i d),Nat.le_trans h.drawn k.drawn⟩
theorem Below.mono {B a:Nat} {w w':World} (h:Below B w w') (b:a<=B):Below a w w':=⟨h.os,h.tape,h.output,h.size,fun k c=>h.block k (Nat.lt_of_lt_of_le c b),h.drawn⟩
theorem Below.drew {B:Nat} {a w:World} (h:Below B a w):Below B a w.drew:=⟨h.os,h.tape,h.output,h.size,h.block,Nat.le_trans h.drawn (Nat.le_succ _)⟩
theorem Below.alloc {B:Nat} {a w:World} (h:Below B a w) (b:B<=w.heap.size) (o:Obj):Below B a (w.alloc o) :=
 have k:=h.kit.alloc b o
 ⟨k.os,k.tape,k.output,k.size,k.block,h.drawn⟩
structure HeapOK (L:Nat->Prop) (w0:World) (κ:A2) (h:Heap) (w:World):Prop where
 obj:∀ id,RepObj L κ h w id (h id)
 inj:∀ i j b c c',(h i).live=true->(h j).live=true->κ i=some (b,c)->κ j=some (b,c')->i=j
 own:∀ i b c,(h i).live=true->κ i=some (b,c)->w0.heap.size<=b/\b<w.heap.size
 below:Below w0.heap.size w0 w
 outer:∀ b,L b->b<w.heap.size/\∀ i c,(h i).live=true->κ i≠some (b,c)
 kids:∀ id,T7<=id->h id=.kid
structure Ext (L:Nat->Prop) (κ:A2) (h:Heap) (w:World) (κ':A2) (h':Heap) (w':World):Prop where
 place:∀ id,(h id).Held->κ' id=κ id
 kid:∀ id,h id=.kid->h' id=.kid
 dead:∀ id,h id=.dead->h' id=.dead
 cells:∀ id l,h id=.cells l->(∃ l',h' id=.cells l')\/h' id=.dead
 arr:∀ id e t l,h id=.arr e t l->(∃ l':List t.den,l'.length=l.length/\(h' id=.arr e t l'\/h' id=.ice e t l'))\/h' id=.dead
 arrD:∀ id e t l f,h id=.arrD e t l f->(∃ (l':List t.den) (f':Option (Nat×Nat)),l'.length=l.length/\h' id=.arrD e t l' f')\/(∃ (t':Ty) (l':List t'.den),t'.size=1/\l'.length=l.length/\h' id=.ice e t' l')\/h' id=.dead
 arrK:∀ id e t c t1 l k f,h id=.arrK e t c t1 l k f->(∃ l':List t.den,l'.length=l.length/\((∃ k' f',h' id=.arrK e t c t1 l' k' f')\/h' id=.arr e t l'\/h' id=.ice e t l'))\/h' id=.dead
 ice:∀ id e t l,h id=.ice e t l->h' id=.ice e t l\/h' id=.dead
 lrec:∀ id i s,h id=.lrec i s->(∃ s',h' id=.lrec i s')\/h' id=.dead
 maps:∀ id,(h id).isMap=true->(h' id).isMap=true\/h' id=.dead
 iter:∀ id ak av tk tv left cur,h id=.iter ak av tk tv left cur->(∃ left' cur',h' id=.iter ak av tk tv left' cur')\/h' id=.dead
 still:∀ b,N6 κ h w b->N6 κ' h' w' b/\w'.heap[b]? = w.heap[b]?
 size:w.heap.size<=w'.heap.size
 loops:∀ (b:Nat) r,w.heap[b]? = some (Obj.loop r)->∃ r',w'.heap[b]? = some (Obj.loop r')
 defs:∀ b:Nat,w.heap[b]? = some (.deferred (some []))->w'.heap[b]? = some (.deferred (some []))
theorem Ext.refl (L:Nat->Prop) (κ:A2) (h:Heap) (w:World):Ext L κ h w κ h w where
 place _ _:=rfl
 kid _ i:=i
 dead _ j:=j
 cells _ l a:=.inl ⟨l,a⟩
 arr _ _ _ l a:=.inl ⟨l,rfl,.inl a⟩
 arrD _ _ _ l f a:=.inl ⟨l,f,rfl,a⟩
 arrK _ _ _ _ _ l k f a:=.inl ⟨l,rfl,.inl ⟨k,f,a⟩⟩
 ice _ _ _ _ a:=.inl a
 lrec _ _ s a:=.inl ⟨s,a⟩
 maps _ d:=.inl d
 iter _ _ _ _ _ l c e:=.inl ⟨l,c,e⟩
 still _ g:=⟨g,rfl⟩
 size:=Nat.le_refl _
 loops _ r b:=⟨r,b⟩
 defs _ b:=b
theorem Ext.keeps {L:Nat->Prop} {κ κ':A2} {h h':Heap} {w w':World} (x:Ext L κ h w κ' h' w') {id:Nat} (u:(h id).Held):(h' id).Held:=by
 cases a:h id with
 | fresh=>simp_all
 | kid=>simp_all
 | arrD e t l f=>rcases x.arrD id e t l f a with⟨j,q,_,e⟩ | ⟨v,j,_,_,e⟩ | e<;>rw[e]<;>simp
 | arrK e t c p l k f=>rcases x.arrK id e t c p l k f a with⟨j,_,⟨r,q,e⟩ | e | e⟩ | e<;>rw[e]<;>simp
 | dead=>rw[x.dead id a];simp
 | cells l=>rcases x.cells id l a with⟨j,e⟩ | e<;>rw[e]<;>simp
 | arr e t l=>rcases x.arr id e t l a with⟨j,_,e | e⟩ | e<;>rw[e]<;>simp
 | ice e t l=>rcases x.ice id e t l a with e | e<;>rw[e]<;>simp
 | lrec i s=>rcases x.lrec id i s a with⟨y,e⟩ | e<;>rw[e]<;>simp
 | mapo m o d n l=>rcases x.maps id (by rw[a];rfl)with e | e<;>refine⟨fun b=>?_,fun b=>?_⟩<;>rw[b]at e<;>cases e
 | mapD m d t l f=>rcases x.maps id (by rw[a];rfl)with e | e<;>refine⟨fun b=>?_,fun b=>?_⟩<;>rw[b]at e<;>cases e
 | mapp m o d n l k g=>rcases x.maps id (by rw[a];rfl)with e | e<;>refine⟨fun b=>?_,fun b=>?_⟩<;>rw[b]at e<;>cases e
 | mice m o d n l=>rcases x.maps id (by rw[a];rfl)with e | e<;>refine⟨fun b=>?_,fun b=>?_⟩<;>rw[b]at e<;>cases e
 | iter m o d n l c=>rcases x.iter id _ _ _ _ _ _ a with⟨_,_,e⟩ | e<;>rw[e]<;>simp
theorem Ext.trans {L:Nat->Prop} {κ κ' n:A2} {h h' o:Heap} {w w' p:World} (x:Ext L κ h w κ' h' w') (y:Ext L κ' h' w' n o p) :
  Ext L κ h w n o p where
 place id H:=(y.place id (x.keeps H)).trans (x.place id H)
 kid id Y:=y.kid id (x.kid id Y)
 arrD id e t l f j:=by
  rcases x.arrD id e t l f j with⟨d,C,q,a⟩ | ⟨N,d,q,a,B⟩ | B
  ·rcases y.arrD id e t d C a with⟨z,f2,E,u⟩ | ⟨Z,z,E,u,O⟩ | O
   all_goals grind
  ·rcases y.ice id e N d B with g | g
   all_goals grind
  ·exact .inr (.inr (y.dead id B))
 arrK id e t c J l k f j:=by
  rcases x.arrK id e t c J l k f j with⟨d,q,⟨Q,C,a⟩ | a | a⟩ | a
  ·rcases y.arrK id e t c J d Q C a with⟨z,E,u⟩ | g
   all_goals grind
  ·rcases y.arr id e t d a with⟨z,E,u⟩ | g
   all_goals grind
  ·rcases y.ice id e t d a with g | g
   all_goals grind
  ·exact .inr (y.dead id a)
 dead id X:=y.dead id (x.dead id X)
 cells id l j:=by
  rcases x.cells id l j with⟨d,e⟩ | e
  ·exact y.cells id d e
  ·exact .inr (y.dead id e)
 arr id e t l j:=by
  rcases x.arr id e t l j with⟨d,M,m | m⟩ | m
  ·rcases y.arr id e t d m with⟨V,v,a⟩ | a
   all_goals grind
  ·rcases y.ice id e t d m with a | a
   all_goals grind
  ·exact .inr (y.dead id m)
 ice id e t l j:=by
  rcases x.ice id e t l j with m | m
  ·exact y.ice id e t l m
  ·exact .inr (y.dead id m)
 lrec id i s j:=by
  rcases x.lrec id i s j with⟨U,e⟩ | e
  ·exact y.lrec id i U e
  ·exact .inr (y.dead id e)
 maps id T:=by
  rcases x.maps id T with e | e
  ·exact y.maps id e
  ·exact .inr (y.dead id e)
 iter id G K F I l c W:=by
  rcases x.iter id G K F I l c W with⟨d,R,e⟩ | e
  ·exact y.iter id G K F I d R e
  ·exact .inr (y.dead id e)
 size:=Nat.le_trans x.size y.size
 loops b r A:=by
  obtain⟨S,q⟩:=x.loops b r A
  exact y.loops b S q
 defs b A:=y.defs b (x.defs b A)
 still b D:=⟨(y.still b (x.still b D).1).1,((y.still b (x.still b D).1).2).trans (x.still b D).2⟩
theorem Ext.free {L:Nat->Prop} {κ κ':A2} {h h':Heap} {w w':World} (x:Ext L κ h w κ' h' w'):∀ b,A3 L κ h w b->A3 L κ' h' w' b/\w'.heap[b]? = w.heap[b]?:=fun b a =>
 have c:=x.still b ⟨a.1,a.2.2⟩
 ⟨⟨c.1.1,a.2.1,c.1.2⟩,c.2⟩
theorem RepAt.ext {L:Nat->Prop} {κ κ':A2} {h h':Heap} {w w':World} (x:Ext L κ h w κ' h' w') {t:Ty} {get:Nat->Option Value} {v:t.den}
 (a:RepAt w (A3 L κ h w) t get v):RepAt w' (A3 L κ' h' w') t get v:=a.mono x.free t get v
theorem RepSV.ext {L:Nat->Prop} {κ κ':A2} {h h':Heap} {w w':World} (x:Ext L κ h w κ' h' w'):∀ (s:SV) (v:Value),RepSV L κ h w s v->RepSV L κ' h' w' s v
 | .unk,_,_=>trivial
 | .sc _ _,_,⟨m,n,q⟩=>⟨m,n,RepAt.ext x q⟩
 | .nils,_,g=>g
 | .nilp,_,g=>g
 | .udf,_,g=>g
 | .ne _ _,_,⟨m,n,q⟩=>⟨m,RepAt.ext x n,q⟩
 | .nx,_,g=>g
 | .gl _,_,g=>g
 | .gp _ _,_,⟨b,o,m,n,q⟩=>⟨b,o,m,(x.still b n).1,by rw[q4i (w:=w) (w':=w') (a:=⟨b,o,none⟩) (x.still b n).2];omega⟩
 | .cstr _,_,g=>g
 | .own id,v,g=>by
  simp[RepSV]at g ⊢
  refine⟨?_,g.2⟩
  have g:=g.1
  cases A:h id with
  | fresh=>grind
  | cells l=>grind
  | lrec i s=>grind
  | mapo _ _ _ _ _=>grind
  | mapp _ _ _ _ _ _ _=>grind
  | mice _ _ _ _ _=>grind
  | iter _ _ _ _ _ _=>grind
  | kid=>grind
  | mapD _ _ _ _ _=>grind
  | arrD e t l f =>
   simp[A]at g
   have F:κ' id=κ id:=x.place id (by simp_all)
   rcases x.arrD id e t l f A with⟨G,Q,r,z⟩ | ⟨S,G,_,r,z⟩ | z
   all_goals grind
  | arrK e t c M l k f =>
   simp[A]at g
   have F:κ' id=κ id:=x.place id (by simp_all)
   rcases x.arrK id e t c M l k f A with⟨G,r,z⟩ | z
   all_goals grind
  | dead=>simp[x.dead id A]
  | arr e t l =>
   simp[A]at g
   have F:κ' id=κ id:=x.place id (by simp_all)
   rcases x.arr id e t l A with⟨G,r,z | z⟩ | z
   all_goals grind
  | ice e t l =>
   simp[A]at g
   have F:κ' id=κ id:=x.place id (by simp_all)
   rcases x.ice id e t l A with z | z
   all_goals grind
 | .sub id E O,v,g=>by
  simp[RepSV]at g ⊢
  refine⟨?_,g.2⟩
  have g:=g.1
  cases A:h id with
  | fresh=>grind
  | cells l=>grind
  | lrec i s=>grind
  | mapo _ _ _ _ _=>grind
  | mapp _ _ _ _ _ _ _=>grind
  | mice _ _ _ _ _=>grind
  | iter _ _ _ _ _ _=>grind
  | kid=>grind
  | mapD _ _ _ _ _=>grind
  | arrD e t l f=>grind
  | arrK e t c M l k f=>grind
  | dead=>simp[x.dead id A]
  | arr e t l =>
   have F:κ' id=κ id:=x.place id (by simp_all)
   rcases x.arr id e t l A with⟨G,r,z | z⟩ | z
   all_goals grind
  | ice e t l =>
   have F:κ' id=κ id:=x.place id (by simp_all)
   rcases x.ice id e t l A with z | z
   all_goals grind
 | .ptr id E,v,⟨m,b,c,n,q⟩=>⟨x.keeps m,b,c,(x.place id m).trans n,q⟩
 | .eptr id t i c,v,⟨m,b,H,n,q⟩=>⟨x.keeps m,b,H,(x.place id m).trans n,q⟩
 | .ro t y c,v,⟨b,o,m,n,q⟩=>by
  refine⟨b,o,m,(x.free b n).1,?_⟩
  have:=RepAt.ext x q
  have R:(fun j=>if j<t.size then w'.cell? ⟨b,o+j,none⟩else none)=(fun j=>if j<t.size then w.cell? ⟨b,o+j,none⟩else none):=by
   funext j;rw[q4i (w:=w) (w':=w') (a:=⟨b,o+j,none⟩) (x.free b n).2]
  grind
 | .fn f N,v,⟨I,m,n,q⟩=>⟨I,m,n,fun i p B=>by
  obtain⟨a,b,c,d,e⟩:=q i p B
  exact⟨x.keeps a,b,c,(x.place p.1 a).trans d,e⟩⟩
 | .yld id,v,⟨m,b,c,n,q⟩=>⟨x.keeps m,b,c,(x.place id m).trans n,q⟩
 | .mp id,v,⟨m,b,c,n,q⟩=>⟨x.keeps m,b,c,(x.place id m).trans n,q⟩
 | .stmp id,v,⟨m,b,c,n,q⟩=>⟨x.keeps m,b,c,(x.place id m).trans n,q⟩
 | .csl id _ _ _,v,⟨m,b,c,n,q⟩=>⟨x.keeps m,b,c,(x.place id m).trans n,q⟩
 | .mpn,_,g=>g
 | .nif,_,g=>g
 | .nilf,_,g=>g
 | .pan _,_,g=>g.elim
 | .ifc T K I,v,⟨J,m,n,q,C⟩=>⟨J,m,n,q,fun i p u B D=>⟨(C i p u B D).1,(C i p u B D).2.1,(C i p u B D).2.2.ext x⟩⟩
 | .bfp f id E,v,⟨u,m,n,b,c,q,C⟩=>⟨u,m,x.keeps n,b,c,(x.place id n).trans q,C⟩
 | .bfn f K I,v,⟨J,m,n,q,C⟩=>⟨J,m,n,q,fun i p u B D=>⟨(C i p u B D).1,(C i p u B D).2.1,(C i p u B D).2.2.ext x⟩⟩
theorem RepCells.ext {L:Nat->Prop} {κ κ':A2} {h h':Heap} {w w':World} (x:Ext L κ h w κ' h' w') {l:List SV} {cs:List Value}
 (a:RepCells L κ h w l cs):RepCells L κ' h' w' l cs:=⟨a.1,fun i s c d b=>⟨(a.2 i s c d b).1.ext x,(a.2 i s c d b).2⟩⟩
theorem RepComp.ext {L:Nat->Prop} {κ κ':A2} {h h':Heap} {w w':World} (x:Ext L κ h w κ' h' w'):∀ {c:Bool×List SV} {v:Value},
  RepComp L κ h w c v->RepComp L κ' h' w' c v
 | (true,_),_,⟨e,d,b⟩=>⟨e,d,b.ext x⟩
 | (false,[s]),v,a=>RepSV.ext x s v a
 | (false,[]),_,a=>a.elim
 | (false,_::_::_),_,a=>a.elim
theorem RepAV.ext {L:Nat->Prop} {κ κ':A2} {h h':Heap} {w w':World} (x:Ext L κ h w κ' h' w'):∀ {v:AV} {u:Value},
  RepAV L κ h w v u->RepAV L κ' h' w' v u
 | .one s,u,k=>RepSV.ext x s u k
 | .agg _,_,⟨f,d,e⟩=>⟨f,d,e.ext x⟩
 | .tup _,_,⟨g,d,e,j⟩=>⟨g,d,e,fun i c u a b=>(j i c u a b).ext x⟩
end Go.Abs
