/- The engine, part 1: abstract values, how a world represents them, and what is kept from world to world. -/
import Derived.WalkKit
import Derived.OrdersIn
import Derived.RangeFuncRecord
import Derived.RangeFuncLeaves
import Derived.LoopNIn
namespace Go.Abs
open Go Go.RowKit
abbrev aa:=@Option.bind_some
abbrev ab:=@Nat.eq_of_beq_eq_true
abbrev ac:=@Bool.and_eq_true
abbrev ae:=@Option.bind_eq_some_iff
abbrev af:=@List.getElem?_eq_getElem
abbrev ag:=@List.getElem?_eq_some_iff
abbrev ah:=@Int.toNat_natCast
abbrev ai:=@List.length_cons
abbrev aj:=@List.mem_cons_of_mem
abbrev al:=@List.mem_cons
abbrev am:=@Sum.elim_inl
abbrev ao:=@Nat.le_of_ble_eq_true
abbrev aq:=@List.length_nil
abbrev ar:=@List.mem_cons_self
abbrev au:=@Array.getElem?_eq_some_iff
abbrev aw:=@List.take_succ_eq_append_getElem
abbrev ax:=@Nat.le_refl
abbrev ay:=@List.getElem_mem
abbrev az:=@Option.map_eq_some_iff
abbrev aA:=@Array.getD_eq_getD_getElem?
abbrev aB:=@List.mem_append_left
abbrev aC:=@List.mem_append_right
abbrev aD:=@Bool.and_self
abbrev aE:=@Array.getElem?_toList
abbrev aF:=@List.cons.inj
abbrev aG:=@List.all_eq_true
abbrev aH:=@List.getElem?_append_left
abbrev aI:=@Bool.and_true
abbrev aJ:=@Nat.mul_le_mul_right
abbrev aK:=@List.length_append
abbrev aL:=@List.mem_range
abbrev aM:=@List.drop_eq_getElem_cons
abbrev aN:=@Option.some.injEq
abbrev aO:=@List.eq_nil_of_length_eq_zero
abbrev aP:=@List.getElem?_append_right
abbrev aQ:=@List.mem_append
abbrev aR:=@List.getD_eq_getElem?_getD
abbrev aS:=@List.append_assoc
abbrev aT:=@List.getElem?_drop
abbrev aU:=@Bool.not_eq_true'
abbrev aV:=@List.getElem?_take_of_lt
abbrev aW:=@List.mem_map
abbrev aX:=@Array.toList_inj
abbrev aY:=@List.length_take
abbrev aZ:=@Int.natCast_nonneg
abbrev ba:=@List.pairwise_cons
abbrev bb:=@List.mem_flatMap
abbrev bc:=@Nat.lt_of_lt_of_le
abbrev bf:=@List.getElem?_of_mem
abbrev bg:=@Nat.ble_eq_true_of_le
abbrev bh:=@Array.getElem?_eq_getElem
abbrev bi:=@List.length_map
abbrev bj:=@Array.length_toList
abbrev bk:=@List.mem_of_getElem?
abbrev bl:=@List.mem_iff_getElem
abbrev bm:=@Option.getD_some
abbrev bn:=@List.mem_filter
abbrev bp:=@Bool.not_true
abbrev bq:=@List.mem_of_mem_take
abbrev bt:=@Sum.elim_inr
abbrev bu:=@Option.map_some
abbrev bv:=@Bool.not_false
abbrev bw:=@Nat.le_trans
abbrev bz:=@List.getElem?_cons_succ
abbrev bA:=@List.length_filter_le
abbrev bB:=@List.map_cons
abbrev bC:=@List.map_append
abbrev bD:=@Bool.or_eq_true
abbrev bE:=@Array.getElem?_setIfInBounds_ne
abbrev bF:=@List.drop_of_length_le
abbrev bG:=@Nat.mul_comm
abbrev bH:=@Nat.add_mul
abbrev bI:=@Option.some.inj
abbrev bJ:=@Option.map_none
abbrev bK:=@List.getElem?_map
abbrev bL:=@Int.eq_ofNat_of_zero_le
abbrev bM:=@List.findSome?_cons
abbrev bN:=@Nat.mod_eq_of_lt
abbrev bO:=@Bool.false_eq_true
abbrev bP:=@List.append_nil
abbrev bQ:=@List.any_eq_true
abbrev bR:=@List.length_drop
abbrev bS:=@List.getElem?_cons_zero
abbrev bT:=@Nat.add_assoc
abbrev bU:=@List.getElem?_eq_none
abbrev bV:=@Array.getElem?_setIfInBounds_self_of_lt
abbrev bW:=@List.filter_append
abbrev bX:=@Nat.pow_le_pow_right
abbrev bY:=@List.mem_of_mem_drop
abbrev bZ:=@Prod.mk.injEq
abbrev ca:=@List.getElem?_set_self
abbrev cd:=@Classical.byContradiction
abbrev ce:=@List.ext_getElem?
abbrev ch:=@List.length_replicate
abbrev ci:=@Bool.eq_iff_iff
abbrev cj:=@Nat.two_pow_pos
abbrev ck:=@List.mem_singleton
abbrev cm:=@Nat.div_eq_of_lt
abbrev cn:=@Bool.and_eq_true_iff
abbrev cp:=@List.all_cons
abbrev cq:=@List.Perm.refl
abbrev ct:=@List.pairwise_iff_getElem
abbrev cv:=@List.take_append_drop
abbrev cx:=@List.getElem?_toArray
abbrev cy:=@Nat.le_add_right
abbrev cz:=@Nat.add_zero
abbrev cA:=@Nat.zero_add
abbrev cB:=@Nat.zero_le
abbrev cC:=@Nat.testBit_or
abbrev cD:=@List.range_eq_range'
abbrev cE:=@List.any_eq_false
abbrev cF:=@List.range_succ
abbrev cG:=@Nat.testBit_two_pow
abbrev cH:=@List.filter_eq_self
abbrev cI:=@List.all_nil
abbrev cJ:=@List.any_cons
abbrev cK:=@Bool.true_and
abbrev cL:=@Nat.shiftRight_eq_div_pow
abbrev cM:=@List.nodup_cons
abbrev cN:=@List.nil_append
abbrev cO:=@List.pairwise_map
abbrev cP:=@Nat.succ_mul
abbrev cQ:=@Nat.or_lt_two_pow
abbrev cR:=@Nat.pow_lt_pow_right
abbrev cT:=@Nat.beq_refl
abbrev cU:=@List.getElem?_set_ne
abbrev cV:=@Option.isSome_iff_exists
abbrev cW:=@List.map_congr_left
abbrev cX:=@List.take_length
abbrev cY:=@List.range'_succ
abbrev cZ:=@Nat.lt_of_le_of_lt
abbrev da:=@List.map_nil
abbrev db:=@List.find?_cons
abbrev dc:=@List.length_set
abbrev dd:=@Nat.mul_add_mod
abbrev dg:=@Nat.testBit_and
abbrev dh:=@Bool.false_or
abbrev dj:=@Nat.mul_assoc
abbrev dm:=@List.size_toArray
abbrev dq:=@Bool.or_eq_false_iff
abbrev dr:=@List.findSome?_eq_none_iff
abbrev dt:=@List.drop_drop
abbrev du:=@Nat.mul_le_mul
abbrev dv:=@Nat.div_lt_of_lt_mul
abbrev dw:=@Array.getElem?_append_left
abbrev dx:=@Array.toArray_toList
abbrev dy:=@Nat.eq_of_testBit_eq
abbrev dz:=@Nat.add_comm
abbrev dA:=@Option.isNone_iff_eq_none
abbrev dB:=@List.takeWhile_cons
abbrev dC:=@List.flatMap_append
abbrev dD:=@List.filterMap_cons
abbrev dE:=@Nat.mul_add_div
abbrev dF:=@Nat.not_lt_zero
abbrev dG:=@Nat.pos_of_ne_zero
abbrev dH:=@Nat.mod_lt
abbrev dI:=@List.findIdx?_cons
abbrev dJ:=@Array.ext_getElem?
abbrev dK:=@List.getElem?_take
abbrev dL:=@Nat.one_mul
abbrev dM:=@List.length_eraseIdx_le
abbrev dN:=@Nat.add_sub_cancel_left
abbrev dO:=@List.getElem?_replicate
abbrev dP:=@Nat.mul_one
abbrev dQ:=@List.exists_of_findSome?_eq_some
abbrev dR:=@List.flatMap_cons
abbrev dS:=@List.nodup_nil
abbrev dT:=@Nat.pow_succ
abbrev dU:=@List.eraseIdx_eq_take_drop_succ
abbrev dV:=@List.pairwise_flatMap
abbrev dX:=@List.perm_append_comm
abbrev dY:=@List.Perm.append_left
abbrev dZ:=@Array.getElem?_append
abbrev ec:=@List.ext_getElem
abbrev ee:=@List.cons_append
abbrev ef:=@List.countP_cons
abbrev eh:=@List.eq_nil_iff_forall_not_mem
abbrev ei:=@Bool.or_false
abbrev ej:=@Array.getElem?_range
abbrev en:=@List.cons.injEq
abbrev eo:=@Nat.min_eq_left
abbrev ep:=@List.mem_map_of_mem
abbrev eq:=@List.perm_ext_iff_of_nodup
abbrev er:=@List.find?_eq_none
abbrev eu:=@List.mem_filterMap
abbrev ew:=@Nat.mod_two_eq_zero_or_one
abbrev ey:=@Array.getElem?_map
abbrev ez:=@List.mem_or_eq_of_mem_set
abbrev eA:=@List.mem_of_find?_eq_some
abbrev eB:=@List.findIdx?_eq_none_iff
abbrev eC:=@List.Pairwise.imp
abbrev eD:=@List.length_range
abbrev eE:=@Option.bind_assoc
abbrev eF:=@List.Pairwise.imp_of_mem
abbrev eG:=@List.mem_of_mem_eraseIdx
abbrev eH:=@List.eq_of_mem_replicate
abbrev eI:=@Prod.ext
abbrev eJ:=@Nat.and_le_right
abbrev eK:=@Array.toList_map
abbrev eL:=@Nat.min_eq_right
abbrev eM:=@Nat.testBit_two_pow_mul
abbrev eN:=@Bool.true_or
abbrev eO:=@List.pairwise_lt_range
abbrev eP:=@Bool.or_true
abbrev eQ:=@List.getElem_cons_zero
abbrev eR:=@List.getElem_cons_drop
abbrev eS:=@Nat.testBit_lt_two_pow
abbrev eU:=@List.any_append
abbrev eV:=@List.find?_some
abbrev eX:=@Classical.choose_spec
abbrev eY:=@List.countP_mono_left
abbrev eZ:=@List.length_singleton
abbrev fa:=@List.pairwise_append
abbrev fb:=@List.map_id
abbrev fc:=@Array.getElem_toList
abbrev fe:=@List.mapM_cons
abbrev ff:=@List.length_eraseIdx
abbrev fg:=@List.dropWhile_cons
abbrev fh:=@List.take_succ_cons
abbrev fj:=@List.drop_succ_cons
abbrev fk:=@List.drop_set_of_lt
abbrev fm:=@List.getElem?_range
abbrev fo:=@List.length_pos_iff
abbrev fq:=@Array.toList_modify
abbrev fr:=@Int.emod_emod
abbrev ft:=@Option.isSome_none
abbrev fu:=@List.map_findSome?
abbrev fx:=@Array.extract_size
abbrev fy:=@Nat.and_lt_two_pow
abbrev fA:=@Option.isSome_some
abbrev fB:=@List.map_map
abbrev fC:=@List.any_nil
abbrev fD:=@Nat.zero_mul
abbrev fE:=@Nat.sub_self
abbrev fF:=@Nat.mul_zero
abbrev fG:=@Nat.mul_pos
abbrev fH:=@Eq.trans
inductive Ty where
 | int (k:IntKind)
 | bool
 | list (e:Ty)
 | nil
 | cons (a b:Ty)
 | map (ak av:Bool) (k v:Ty)
 deriving DecidableEq
def Ty.size:Ty->Nat
 | .int _=>1
 | .bool=>1
 | .list _=>1
 | .nil=>0
 | .cons a b=>a.size+b.size
 | .map _ _ _ _=>1
@[reducible] def Ty.den:Ty->Type
 | .int _=>Int
 | .bool=>Bool
 | .list e=>List e.den
 | .nil=>Unit
 | .cons a b=>a.den×b.den
 | .map _ _ k v=>List (k.den×v.den)
def Ty.flat:Ty->Bool
 | .int _=>true
 | .bool=>true
 | .list _=>false
 | .nil=>true
 | .cons a b=>a.flat&&b.flat
 | .map _ _ _ _=>false
def Ty.eqb:(t:Ty)->t.den->t.den->Bool
 | .int _,x,y=>x==y
 | .bool,x,y=>x==y
 | .list _,_,_=>false
 | .nil,_,_=>true
 | .cons a b,x,y=>a.eqb x.1 y.1&&b.eqb x.2 y.2
 | .map _ _ _ _,_,_=>false
def Ty.lt:(t:Ty)->t.den->t.den->Bool
 | .int _,x,y=>decide (x<y)
 | .bool,x,y=>!x&&y
 | .list _,_,_=>false
 | .nil,_,_=>false
 | .cons a b,x,y=>a.lt x.1 y.1||(a.eqb x.1 y.1&&b.lt x.2 y.2)
 | .map _ _ _ _,_,_=>false
section
variable {β:Type}
def D2 (t:Ty) (l:List (t.den×β)) (k:t.den):Option β:=(l.find? λp=>t.eqb k p.1).map (·.2)
def C9 (t:Ty):List (t.den×β)->t.den->β->List (t.den×β)
 | [],k,v=>[(k,v)]
 | p::r,k,v=>cond (t.eqb k p.1) ((k,v)::r) (cond (t.lt k p.1) ((k,v)::p::r) (p::C9 t r k v))
def H2 (t:Ty) (l:List (t.den×β)) (k:t.den):List (t.den×β):=l.filter λp=>!t.eqb k p.1
def F4 (t:Ty) (l:List (t.den×β)) (k:t.den) (z:β):List (t.den×β):=C9 t l k ((D2 t l k).getD z)
end
inductive OT where
 | arr (e:TypeId) (t:Ty)
 | map (ak av:Bool) (k v:Ty)
 | arrs (e:TypeId) (k:OT)
 | ptr (c:OT)
 | nil
 | cons (a b:OT)
 | opt (k:OT)
 deriving DecidableEq
@[reducible] def OT.den:OT->Type
 | .arr _ t=>List t.den
 | .map _ _ k v=>List (k.den×v.den)
 | .arrs _ k=>List k.den
 | .ptr c=>c.den
 | .nil=>Unit
 | .cons a b=>a.den×b.den
 | .opt k=>Option k.den
def q53:Nat:=1099511627776
def kn (id n:Nat):Nat:=q53+2^id*(2*n+1)
theorem y0y (id n:Nat):q53<=kn id n:=cy _ _
theorem y8d:∀(a b m n:Nat),2^a*(2*m+1)=2^b*(2*n+1)->a=b/\m=n:=by
 intro a
 induction a with
 | zero =>
  intro b m n h;cases b with
  | zero=>simp at h;exact⟨rfl,by omega⟩
  | succ b =>
   rw[dT,Nat.pow_zero,dL,bG (2^b) 2,dj]at h;omega
 | succ a ih =>
  intro b m n h;cases b with
  | zero =>
   rw[dT,Nat.pow_zero,dL,bG (2^a) 2,dj]at h;omega
  | succ b =>
   rw[dT,dT,bG (2^a) 2,bG (2^b) 2,dj,dj]at h;obtain⟨h1,h2⟩:=ih b m n (Nat.eq_of_mul_eq_mul_left (by omega) h);exact⟨by rw[h1],h2⟩
variable {a:Nat}
theorem J6 {b m n:Nat} (h:kn a m=kn b n):a=b/\m=n:=y8d a b m n (Nat.add_left_cancel h)
def enc:List Nat->Nat
 | []=>0
 | i::p=>2^i*(2*enc p+1)
theorem j8o (i:Nat) (p:List Nat):enc (i::p)≠0:=Nat.mul_ne_zero (Nat.ne_of_gt (cj i)) (by omega)
theorem q17:∀{p q:List Nat},enc p=enc q->p=q
 | [],[],_=>rfl
 | [],j::q,h=>absurd h.symm (j8o j q)
 | i::p,[],h=>absurd h (j8o i p)
 | i::p,j::q,h=>by
  obtain⟨h1,h2⟩:=y8d _ _ _ _ h;rw[h1,q17 h2]
def gh (id:Nat):List Nat->Nat
 | []=>id
 | i::p=>kn id (enc (i::p))
def E6 (v:Value):Nat->Option Value:=λc=>if c=0 then some v else none
def RepIn (R:(Nat->Option Value)->Prop) (agg:Bool) (n:Nat) (v:Value):Prop :=
 match agg with
 | true=>∃cs:List Value,v=.agg cs.toArray/\cs.length=n/\(∀c∈cs,c.oneCell'=true)/\R (λc=>cs[c]?)
 | false=>n=1/\v.oneCell'=true/\R (E6 v)
theorem RepIn.imp {R R':(Nat->Option Value)->Prop} (b:∀g,R g->R' g) {a:Bool} {n:Nat} {v:Value} (h:RepIn R a n v):RepIn R' a n v:=by
 cases a with
 | true=>obtain⟨e,i,d,c,f⟩:=h;exact⟨e,i,d,c,b _ f⟩
 | false=>exact⟨h.1,h.2.1,b _ h.2.2⟩
structure EntsOK (tk:Ty) {β:Type} (K:tk.den->Value->Prop) (V:β->Value->Prop) (l:List (tk.den×β)) (es:Array MapEntry) (clock:Nat):Prop where
 flat:tk.flat=true
 rise:l.Pairwise λp q=>tk.lt p.1 q.1=true
 apart:(es.toList.map (·.born)).Nodup
 early:∀x∈es.toList,x.born<clock
 ents:∃p:List (tk.den×β),p.Perm l/\p.length=es.toList.length/\∀(i:Nat) (x:MapEntry) (q:tk.den×β),es.toList[i]? = some x->p[i]? = some q->K q.1 x.key/\V q.2 x.val
theorem EntsOK.imp {b:Ty} {f:Type} {K c:b.den->Value->Prop} {V d:f->Value->Prop} (k:∀x v,K x v->c x v) (j:∀x v,V x v->d x v) {l:List (b.den×f)} {e:Array MapEntry} (h:EntsOK b K V l e a):EntsOK b c d l e a where
 flat:=h.flat
 rise:=h.rise
 apart:=h.apart
 early:=h.early
 ents:=by
  obtain⟨p,m,i,g⟩:=h.ents;grind
def RepAt (w:World) (A:Nat->Prop):(t:Ty)->(get:Nat->Option Value)->t.den->Prop
 | .int k,get,x=>get 0=some (.int k x)
 | .bool,get,x=>get 0=some (.bool x)
 | .list e,get,x=>∃sa len cap,get 0=some (.slice sa len cap)/\len=x.length/\len<=cap /\
  (x≠[]->∃b o,sa=some ⟨b,o,none⟩/\A b /\
   ∀i y,x[i]? = some y->RepAt w A e (λc=>if c<e.size then w.cell? ⟨b,o+(i*e.size+c),none⟩else none) y)
 | .nil,_,_=>True
 | .cons a b,get,x=>RepAt w A a get x.1/\RepAt w A b (λc=>get (a.size+c)) x.2
 | .map ak av k v,get,x=>∃b es clock,get 0=some (.map (some b))/\A b/\w.heap[b]? = some (.map es clock) /\
  EntsOK k (λy u=>RepIn (λg=>RepAt w A k g y) ak k.size u) (λy u=>RepIn (λg=>RepAt w A v g y) av v.size u) x es clock
variable {w:World} {w':World}
theorem q5z {a:Addr} (h:w'.heap[a.block]? = w.heap[a.block]?):w'.cell? a=w.cell? a:=by
 grind[World.cell?]
theorem RepAt.mono {w w':World} {A A':Nat->Prop} (hA:∀b,A b->A' b/\w'.heap[b]? = w.heap[b]?) :
  ∀(t:Ty) (get:Nat->Option Value) (x:t.den),RepAt w A t get x->RepAt w' A' t get x
 | .int _,_,_,h=>h
 | .bool,_,_,h=>h
 | .nil,_,_,_=>trivial
 | .cons a b,get,x,h=>⟨RepAt.mono hA a get x.1 h.1,RepAt.mono hA b _ x.2 h.2⟩
 | .list e,get,x,h=>by
  obtain⟨J,l,s,j,G,B,D⟩:=h;refine⟨J,l,s,j,G,B,λp=>?_⟩;obtain⟨b,o,N,n,q⟩:=D p;obtain⟨d,m⟩:=hA b n;refine⟨b,o,N,d,λi y E=>?_⟩;have:=RepAt.mono hA e _ y (q i y E);have K:(λc=>if c<e.size then w'.cell? ⟨b,o+(i*e.size+c),none⟩else none) =
    (λc=>if c<e.size then w.cell? ⟨b,o+(i*e.size+c),none⟩else none):=by
   funext c;rw[q5z (w:=w) (w':=w') (a:=⟨b,o+(i*e.size+c),none⟩) m]
  rw[K];exact this
 | .map Q O k v,get,x,h=>by
  obtain⟨b,I,f,F,M,H,C⟩:=h;obtain⟨d,m⟩:=hA b M;exact⟨b,I,f,F,d,m.trans H,C.imp (λy u r=>r.imp λg j=>RepAt.mono hA k g y j) (λy u r=>r.imp λg j=>RepAt.mono hA v g y j)⟩
theorem RepAt.congr {w:World} {A:Nat->Prop}:∀(t:Ty) (get d:Nat->Option Value) (x:t.den),
  (∀c,c<t.size->get c=d c)->RepAt w A t get x->RepAt w A t d x
 | .int _,_,_,_,g,h=>by grind[RepAt,Ty.size]
 | .bool,_,_,_,g,h=>by grind[RepAt,Ty.size]
 | .nil,_,_,_,_,_=>trivial
 | .cons a b,get,d,x,g,h =>
  ⟨RepAt.congr a get d x.1 (λc n=>g c (by grind[Ty.size])) h.1,
   RepAt.congr b _ _ x.2 (λc n=>g (a.size+c) (by grind[Ty.size])) h.2⟩
 | .list e,get,d,x,g,h=>by
  obtain⟨l,j,i,m,k⟩:=h;exact⟨l,j,i,by grind[Ty.size],k⟩
 | .map _ _ _ _,get,d,x,g,h=>by
  have m:=g 0 (by simp[Ty.size]);obtain⟨b,p,f,q,o⟩:=h;exact⟨b,p,f,by grind,o⟩
inductive SV where
 | unk
 | sc (t:Ty) (x:t.den)
 | nils
 | own (id:Nat)
 | sub (id:Nat) (off len:Nat)
 | ptr (id off:Nat)
 | eptr (id:Nat) (t:Ty) (i:Nat) (c:Nat)
 | ro (t:Ty) (x:t.den) (c:Nat)
 | fn (f:Nat) (caps:List (Nat×Nat))
 | yld (id:Nat)
 | nilp
 | udf
 | ne (e:Ty) (l:List e.den)
 | nx
 | gl (g:Nat)
 | gp (k:IntKind) (x:Int)
 | cstr (b:ByteArray)
 | bfn (f:Nat) (agg:Bool) (cs:List ((t:Ty)×t.den))
 | bfp (f:Nat) (id off:Nat)
 | mp (id:Nat)
 | mpn
 | stmp (g:Nat)
 | csl (id off len cap:Nat)
 | ifc (T:TypeId) (agg:Bool) (cs:List ((t:Ty)×t.den))
 | nif
 | nilf
 | pan (T:TypeId)
 | ts (id:Nat) (p:List Nat)
 | tp (id:Nat) (p:List Nat) (i:Nat)
inductive AV where
 | one (s:SV)
 | agg (l:List SV)
 | tup (l:List (Bool×List SV))
inductive XK where
 | nrm
 | ex (id:Nat)
 | ret
 | pan (T:TypeId)
def XK.code:XK->Option Code
 | .nrm=>none
 | .ex id=>some (.exit id)
 | .ret=>some .ret
 | .pan _=>none
inductive RS where
 | ready
 | busy
 | left (x:XK)
 | over (x:XK)
def RS.state:RS->LoopState
 | .ready=>.ready
 | .busy=>.busy
 | .left _=>.done
 | .over _=>.exhausted
def RS.pend:RS->Option Code
 | .left x=>x.code
 | .over x=>x.code
 | _=>none
structure RI where
 ρ:Nat->AV
 n:Nat
 ps:List Tmp
 assign:Code
 body:Code
inductive AObj where
 | fresh
 | dead
 | cells (l:List SV)
 | arr (e:TypeId) (t:Ty) (l:List t.den)
 | ice (e:TypeId) (t:Ty) (l:List t.den)
 | lrec (i:RI) (st:RS)
 | mapo (ak av:Bool) (tk tv:Ty) (l:List (tk.den×tv.den))
 | mapp (ak av:Bool) (tk tv:Ty) (l:List (tk.den×tv.den)) (k:tk.den) (g:Nat)
 | mice (ak av:Bool) (tk tv:Ty) (l:List (tk.den×tv.den))
 | iter (ak av:Bool) (tk tv:Ty) (left:List (tk.den×tv.den)) (cur:Option (tk.den×tv.den))
 | kid
 | tree (e:TypeId) (k:OT) (l:List k.den) (f:List (List Nat×Nat))
def D1:Nat:=1048575
def N8 (T:TypeId):AObj:=.cells [.pan T]
def AObj.isMap:AObj->Bool
 | .mapo .. | .mapp .. | .mice ..=>true
 | _=>false
def AObj.live:AObj->Bool
 | .cells _ | .arr .. | .lrec .. | .mapo .. | .mapp .. | .iter .. | .kid | .tree ..=>true
 | _=>false
@[simp] def AObj.Held (o:AObj):Prop:=o≠.fresh/\o≠.kid
abbrev Env:=Nat->AV
abbrev Heap:=Nat->AObj
abbrev A6:=Nat->Option (Nat×(Nat×Nat))
instance:OfNat (Nat×Nat) 0:=⟨(0,0)⟩
def upd {α:Type} (f:Nat->α) (i:Nat) (v:α):Nat->α:=λj=>bif Nat.beq j i then v else f j
theorem A2 {a:Type} (f:Nat->a) (i:Nat) (v:a):upd f i v i=v:=by
 grind[Nat.beq_refl,upd]
theorem A0 {a:Type} (f:Nat->a) {i j:Nat} (v:a) (h:j≠i):upd f i v j=f j:=by
 grind[Nat.eq_of_beq_eq_true,upd]
def OT.row:OT->Nat
 | .cons _ b=>b.row+1
 | _=>0
def inT:(t:OT)->t.den->List Nat->Option Nat
 | .arrs _ _,l,[]=>some l.length
 | .arrs _ k,l,i::p=>(l[i]?).bind λy=>inT k y p
 | .ptr c,_,[]=>some c.row
 | .ptr c,x,i::p=>inT c x (i::p)
 | .cons a _,x,0::p=>inT a x.1 p
 | .cons _ b,x,1::i::p=>inT b x.2 (i::p)
 | _,_,_=>none
def inL (k:OT) (l:List k.den):List Nat->Option Nat
 | []=>some l.length
 | i::p=>(l[i]?).bind λy=>inT k y p
def M1 (f:List (List Nat×Nat)) (i:Nat):List (List Nat×Nat):=f.filterMap λq=>match q with
 | (j::p,g)=>if j=i then some (p,g)else none
 | ([],_)=>none
def A4 (L:Nat->Prop) (κ:A6) (h:Heap) (w:World) (b:Nat):Prop :=
 b<w.heap.size/\¬L b/\∀id c,(h id).live=true->κ id≠some (b,c)
def q08 (κ:A6) (h:Heap) (w:World) (b:Nat):Prop :=
 b<w.heap.size/\∀id c,(h id).live=true->κ id≠some (b,c)
def RepSV (L:Nat->Prop) (κ:A6) (h:Heap) (w:World):SV->Value->Prop
 | .unk,_=>True
 | .sc t x,v=>t.size=1/\v.oneCell'=true/\RepAt w (A4 L κ h w) t (E6 v) x
 | .nils,v=>v=.slice none 0 0
 | .own id,v=>(match h id with
  | .arr _ _ l | .ice _ _ l =>
   (κ id=none/\l=[]/\v=.slice none 0 0) \/
   ∃b cap,κ id=some (b,cap)/\v=.slice (some ⟨b,cap.2,none⟩) l.length cap.1
  | .dead=>True
  | _=>False)/\v.oneCell'=true
 | .sub id off len,v=>(match h id with
  | .arr _ t l | .ice _ t l =>
   off+len<=l.length /\
   ((κ id=none/\v=.slice none 0 0) \/
   ∃b cap o,κ id=some (b,cap)/\v=.slice (some ⟨b,o,none⟩) len (cap.1-off)/\(o=cap.2+off*t.size\/cap.1<=off/\o<=cap.2+cap.1*t.size))
  | .dead=>True
  | _=>False)/\v.oneCell'=true
 | .ptr id off,v=>(h id).Held/\∃b c,κ id=some (b,c)/\v=.pointer (some ⟨b,off,none⟩)
 | .eptr id t i c,v=>(h id).Held/\∃b cap,κ id=some (b,cap)/\v=.pointer (some ⟨b,cap.2+i*t.size+c,none⟩)
 | .ro t x c,v=>∃b o,v=.pointer (some ⟨b,o+c,none⟩)/\q08 κ h w b/\RepAt w (A4 L κ h w) t (λj=>if j<t.size then w.cell? ⟨b,o+j,none⟩else none) x
 | .fn f caps,v=>∃cs:List Value,v=.func (.func f) #[] cs.toArray/\cs.length=caps.length /\
  ∀(i:Nat) (p:Nat×Nat),caps[i]? = some p->(h p.1).Held/\∃b c,κ p.1=some (b,c)/\cs[i]? = some (.pointer (some ⟨b,p.2,none⟩))
 | .yld id,v=>(h id).Held/\∃b c,κ id=some (b,c)/\v=.func (.yield b) #[] #[]
 | .nilp,v=>v=.pointer none
 | .udf,v=>v=undef
 | .ne e l,v=>v.oneCell'=true/\RepAt w (A4 L κ h w) (.list e) (E6 v) l/\∃a len cap,v=.slice (some a) len cap
 | .nx,v=>∃cap,v=.slice none 0 cap
 | .gl g,v=>v=.pointer (some ⟨g,0,none⟩)
 | .gp k x,v=>∃b o,v=.pointer (some ⟨b,o,none⟩)/\q08 κ h w b/\w.cell? ⟨b,o,none⟩=some (.int k x)
 | .cstr b,v=>v=.string b
 | .mp id,v=>(h id).Held/\∃b c,κ id=some (b,c)/\v=.map (some b)
 | .mpn,v=>v=.map none
 | .stmp g,v=>(h g).Held/\∃n c,κ g=some (n,c)/\v=.int .i64 n
 | .csl id off len cap,v=>(h id).Held/\∃b c,κ id=some (b,c)/\v=.slice (some ⟨b,off,none⟩) len cap
 | .nif,v=>v=.nilIface
 | .nilf,v=>v=.nilFunc
 | .pan _,_=>False
 | .ts id p,v=>(match h id with
  | .tree _ k l _=>(p=[]/\κ id=none/\l=[]/\v=.slice none 0 0)\/∃n b cap,inL k l p=some n/\κ (gh id p)=some (b,cap)/\(p=[]\/h (gh id p)=.kid)/\v=.slice (some ⟨b,cap.2,none⟩) n cap.1
  | .dead=>True
  | _=>False)/\v.oneCell'=true
 | .tp id p i,v=>(match h id with
  | .tree _ k l _=>∃n b cap,inL k l p=some n/\κ (gh id p)=some (b,cap)/\(p=[]\/h (gh id p)=.kid)/\v=.pointer (some ⟨b,cap.2+i,none⟩)
  | .dead=>True
  | _=>False)/\v.oneCell'=true
 | .ifc T agg cs,v=>∃us:List Value,v=.iface T (cond agg (.agg us.toArray) (us.headD undef))/\us.length=cs.length/\(agg=false->us.length=1) /\
  ∀(i:Nat) (p:(t:Ty)×t.den) (u:Value),cs[i]? = some p->us[i]? = some u->p.1.size=1/\u.oneCell'=true/\RepAt w (A4 L κ h w) p.1 (E6 u) p.2
 | .bfp f id off,v=>∃u,v=.func (.func f) #[u] #[]/\(h id).Held/\∃b c,κ id=some (b,c)/\u=.pointer (some ⟨b,off,none⟩)
 | .bfn f agg cs,v=>∃us:List Value,v=.func (.func f) #[cond agg (.agg us.toArray) (us.headD undef)] #[]/\us.length=cs.length/\(agg=false->us.length=1) /\
  ∀(i:Nat) (p:(t:Ty)×t.den) (u:Value),cs[i]? = some p->us[i]? = some u->p.1.size=1/\u.oneCell'=true/\RepAt w (A4 L κ h w) p.1 (E6 u) p.2
def RepVal (w:World) (A:Nat->Prop) (agg:Bool) (t:Ty) (v:Value) (x:t.den):Prop:=RepIn (λg=>RepAt w A t g x) agg t.size v
variable {A:Nat->Prop} {A':Nat->Prop}
theorem RepVal.mono (hA:∀b,A b->A' b/\w'.heap[b]? = w.heap[b]?) {a:Bool} {t:Ty} {v:Value} {x:t.den} (h:RepVal w A a t v x):RepVal w' A' a t v x :=
 RepIn.imp (λg c=>RepAt.mono hA t g x c) h
abbrev MapRep (w:World) (A:Nat->Prop) (ak av:Bool) (tk tv:Ty) (l:List (tk.den×tv.den)) (es:Array MapEntry) (clock:Nat):Prop :=
 EntsOK tk (λy u=>RepVal w A ak tk u y) (λy u=>RepVal w A av tv u y) l es clock
theorem MapRep.mono (hA:∀b,A b->A' b/\w'.heap[b]? = w.heap[b]?) {f av:Bool} {d c:Ty} {l:List (d.den×c.den)} {e:Array MapEntry} (h:MapRep w A f av d c l e a):MapRep w' A' f av d c l e a:=EntsOK.imp (λ_ _ h=>h.mono hA) (λ_ _ h=>h.mono hA) h
structure IterRep (w:World) (A:Nat->Prop) (ak av:Bool) (tk tv:Ty) (left:List (tk.den×tv.den)) (cur:Option (tk.den×tv.den)) (m:Option Nat) (since:Nat) (seen:Array Nat) (c0:Nat):Prop where
 map:m=none/\left=[]/\cur=none\/∃b es clock,m=some b/\A b/\w.heap[b]? = some (.map es clock)/\(es.toList.map (·.born)).Nodup/\(∀x∈es.toList,x.born<since)/\since<=c0/\since<=clock /\
  (∃p:List (tk.den×tv.den),p.Perm left/\p.length=(leftOf es seen).toList.length/\∀(i:Nat) (x:MapEntry) (q:tk.den×tv.den),(leftOf es seen).toList[i]? = some x->p[i]? = some q->RepVal w A ak tk x.key q.1/\RepVal w A av tv x.val q.2) /\
  ∀q,cur=some q->c0=clock/\∃x∈es.toList,seen.back? = some x.born/\RepVal w A ak tk x.key q.1/\RepVal w A av tv x.val q.2
theorem IterRep.mono (hA:∀b,A b->A' b/\w'.heap[b]? = w.heap[b]?) {o av:Bool} {g j:Ty} {d:List (g.den×j.den)} {f:Option (g.den×j.den)} {m:Option Nat} {c:Nat} {seen:Array Nat} {l:Nat} (h:IterRep w A o av g j d f m c seen l):IterRep w' A' o av g j d f m c seen l where
 map:=by
  rcases h.map with h | ⟨b,s,e,F,K,G,D,v,B,M,⟨p,y,u,n⟩,H⟩
  ·grind
  ·obtain⟨k,z⟩:=hA b K;refine .inr ⟨b,s,e,F,k,z.trans G,D,v,B,M,⟨p,y,u,λi x q a b=>⟨(n i x q a b).1.mono hA,(n i x q a b).2.mono hA⟩⟩,λq r=>?_⟩;obtain⟨I,x,t,E,C,J⟩:=H q r;exact⟨I,x,t,E,C.mono hA,J.mono hA⟩
def RepCells (L:Nat->Prop) (κ:A6) (h:Heap) (w:World) (l:List SV) (cs:List Value):Prop :=
 cs.length=l.length/\∀(i:Nat) (s:SV) (c:Value),l[i]? = some s->cs[i]? = some c->RepSV L κ h w s c/\c.oneCell'=true
def RepComp (L:Nat->Prop) (κ:A6) (h:Heap) (w:World) (c:Bool×List SV) (v:Value):Prop :=
 match c with
 | (true,l)=>∃cs:List Value,v=.agg cs.toArray/\RepCells L κ h w l cs
 | (false,[s])=>RepSV L κ h w s v
 | (false,_)=>False
def RepAV (L:Nat->Prop) (κ:A6) (h:Heap) (w:World):AV->Value->Prop
 | .one s,v=>RepSV L κ h w s v
 | .agg l,v=>∃cs:List Value,v=.agg cs.toArray/\RepCells L κ h w l cs
 | .tup l,v=>∃vs:List Value,v=.tuple vs.toArray/\vs.length=l.length/\∀(i:Nat) (c:Bool×List SV) (u:Value),l[i]? = some c->vs[i]? = some u->RepComp L κ h w c u
def RepArrP (L:Nat->Prop) (κ:A6) (h:Heap) (w:World) (q:Option (Nat×(Nat×Nat))) (e:TypeId) (t:Ty) (l:List t.den):Prop :=
 (q=none/\l=[]) \/
 ∃b cap cur,q=some (b,cap)/\w.heap[b]? = some (.cells cur e (0,0))/\cap.2+cap.1*t.size<=cur.size/\cap.1<=maxLen/\l.length<=cap.1 /\
  (∀c∈cur.toList,c.oneCell'=true) /\
  ∀i y,l[i]? = some y->RepAt w (A4 L κ h w) t (λc=>if c<t.size then cur[cap.2+i*t.size+c]? else none) y
abbrev RepArr (L:Nat->Prop) (κ:A6) (h:Heap) (w:World) (id:Nat) (e:TypeId) (t:Ty) (l:List t.den):Prop:=RepArrP L κ h w (κ id) e t l
def y92 (L:Nat->Prop) (κ:A6) (h:Heap) (w:World) (q:Option (Nat×(Nat×Nat))) (e:TypeId) (t:Ty) (v:Value) (l:List t.den):Prop :=
 ((q=none/\l=[]/\v=.slice none 0 0)\/∃b cap,q=some (b,cap)/\v=.slice (some ⟨b,cap.2,none⟩) l.length cap.1)/\RepArrP L κ h w q e t l
def y93 (L:Nat->Prop) (κ:A6) (h:Heap) (w:World) (q:Option (Nat×(Nat×Nat))) (ak av:Bool) (k x:Ty) (v:Value) (l:List (k.den×x.den)):Prop :=
 ∃b c es cl,q=some (b,c)/\v=.map (some b)/\w.heap[b]? = some (.map es cl)/\MapRep w (A4 L κ h w) ak av k x l es cl
def O3:List (List Nat×Nat)->Option Nat
 | []=>none
 | ([],g)::_=>some g
 | (_::_,_)::r=>O3 r
def RepO (L:Nat->Prop) (κ:A6) (h:Heap) (w:World):(t:OT)->(pl:List Nat->Option (Nat×(Nat×Nat)))->(o:List (List Nat×Nat))->(get:Nat->Option Value)->t.den->Prop
 | .arr e t,pl,o,get,l=>∃v,get 0=some v/\match O3 o with
  | some g=>RepSV L κ h w (.own g) v/\(h g).Held
  | none=>y92 L κ h w (pl []) e t v l
 | .map ak av k x,pl,o,get,l=>∃v,get 0=some v/\match O3 o with
  | some g=>RepSV L κ h w (.mp g) v
  | none=>y93 L κ h w (pl []) ak av k x v l
 | .opt k,pl,o,get,x=>match x with
  | some y=>RepO L κ h w k pl o get y
  | none=>O3 o=none
 | .arrs e k,pl,o,get,l=>∃v b cap cur,get 0=some v/\pl []=some (b,cap)/\v=.slice (some ⟨b,cap.2,none⟩) l.length cap.1/\w.heap[b]? = some (.cells cur e (0,0))/\cap.2+cap.1<=cur.size/\cap.1<=maxLen/\l.length<=cap.1/\(∀c∈cur.toList,c.oneCell'=true) /\
  ∀i y,l[i]? = some y->RepO L κ h w k (λp=>pl (i::p)) (M1 o i) (λj=>if j=0 then cur[cap.2+i]? else none) y
 | .ptr c,pl,o,get,x=>∃v b cap cs ty,get 0=some v/\pl []=some (b,cap)/\cap.2=0/\v=.pointer (some ⟨b,0,none⟩)/\w.heap[b]? = some (.cells (List.toArray cs) ty (0,0))/\cs.length=c.row/\(∀u∈cs,u.oneCell'=true) /\
  RepO L κ h w c pl o (λj=>cs[j]?) x
 | .nil,_,_,_,_=>True
 | .cons a b,pl,o,get,x=>RepO L κ h w a (λp=>pl (0::p)) (M1 o 0) (λj=>if j=0 then get 0 else none) x.1/\RepO L κ h w b (λp=>pl (1::p)) (M1 o 1) (λj=>get (j+1)) x.2
def RepObj (L:Nat->Prop) (κ:A6) (h:Heap) (w:World) (id:Nat):AObj->Prop
 | .fresh=>True
 | .dead=>True
 | .cells l=>∃b c cs ty,κ id=some (b,c)/\w.heap[b]? = some (.cells (List.toArray cs) ty (0,0))/\RepCells L κ h w l cs
 | .arr e t l=>RepArr L κ h w id e t l
 | .ice e t l=>RepArr L κ h w id e t l/\∀b c,κ id=some (b,c)->A4 L κ h w b
 | .lrec i st=>∃b c r,κ id=some (b,c)/\w.heap[b]? = some (.loop r)/\r.state=st.state/\r.pending=st.pend/\r.params=i.ps.toArray/\r.assign=i.assign/\r.body=i.body /\
  r.tmps.size=i.n/\∀t,RepAV L κ h w (i.ρ t) (r.tmps.getD t undef)
 | .mapo ak av tk tv l=>∃b c es clock,κ id=some (b,c)/\w.heap[b]? = some (.map es clock)/\MapRep w (A4 L κ h w) ak av tk tv l es clock
 | .mapp ak av tk tv l k g=>∃b c es clock,κ id=some (b,c)/\w.heap[b]? = some (.map es clock)/\MapRep w (A4 L κ h w) ak av tk tv l es clock /\
  (h g).Held/\∃n c',κ g=some (n,c')/\∃x∈es.toList,x.born=n/\RepVal w (A4 L κ h w) ak tk x.key k
 | .mice ak av tk tv l=>∃b c es clock,κ id=some (b,c)/\A4 L κ h w b/\w.heap[b]? = some (.map es clock)/\MapRep w (A4 L κ h w) ak av tk tv l es clock
 | .iter ak av tk tv left cur=>∃b c m since seen c0,κ id=some (b,c)/\w.heap[b]? = some (.mapIter m since seen c0)/\IterRep w (A4 L κ h w) ak av tk tv left cur m since seen c0
 | .kid=>True
 | .tree e k l f=>((κ id=none/\l=[]/\f=[])\/∃b cap cur,κ id=some (b,cap)/\w.heap[b]? = some (.cells cur e (0,0))/\cap.2+cap.1<=cur.size/\cap.1<=maxLen/\l.length<=cap.1/\(∀c∈cur.toList,c.oneCell'=true) /\
  ∀i y,l[i]? = some y->RepO L κ h w k (λp=>κ (gh id (i::p))) (M1 f i) (λj=>if j=0 then cur[cap.2+i]? else none) y)
structure Below (B:Nat) (w w':World):Prop where
 os:w'.os=w.os
 tape:w'.tape=w.tape
 output:w'.output=w.output
 size:w.heap.size<=w'.heap.size
 block:∀k,k<B->w'.heap[k]? = w.heap[k]?
 drawn:w.drawn<=w'.drawn
variable {B:Nat}
theorem Below.kit (h:Below B w w'):Go.RowKit.Below B w w':=⟨h.os,h.tape,h.output,h.size,h.block⟩
theorem Below.refl (B:Nat) (w:World):Below B w w:=⟨rfl,rfl,rfl,ax _,λ_ _=>rfl,ax _⟩
theorem Below.trans {a b c:World} (h:Below B a b) (k:Below B b c):Below B a c :=
 ⟨k.os.trans h.os,k.tape.trans h.tape,k.output.trans h.output,bw h.size k.size,λi d=>(k.block i d).trans (h.block i d),bw h.drawn k.drawn⟩
theorem Below.mono (h:Below B w w') (b:a<=B):Below a w w':=⟨h.os,h.tape,h.output,h.size,λk c=>h.block k (bc c b),h.drawn⟩
theorem Below.drew {a:World} (h:Below B a w):Below B a w.drew:=⟨h.os,h.tape,h.output,h.size,h.block,bw h.drawn (Nat.le_succ _)⟩
theorem Below.alloc {a:World} (h:Below B a w) (b:B<=w.heap.size) (o:Obj):Below B a (w.alloc o) :=
 have k:=h.kit.alloc b o
 ⟨k.os,k.tape,k.output,k.size,k.block,h.drawn⟩
structure HeapOK (L:Nat->Prop) (w0:World) (κ:A6) (h:Heap) (w:World):Prop where
 obj:∀id,RepObj L κ h w id (h id)
 inj:∀i j b c c',(h i).live=true->(h j).live=true->κ i=some (b,c)->κ j=some (b,c')->i=j
 own:∀i b c,(h i).live=true->κ i=some (b,c)->w0.heap.size<=b/\b<w.heap.size
 below:Below w0.heap.size w0 w
 outer:∀b,L b->b<w.heap.size/\∀i c,(h i).live=true->κ i≠some (b,c)
 kids:∀id,q53<=id->h id=.kid
structure Ext (L:Nat->Prop) (κ:A6) (h:Heap) (w:World) (κ':A6) (h':Heap) (w':World):Prop where
 place:∀id,(h id).Held->κ' id=κ id
 kid:∀id,h id=.kid->h' id=.kid
 dead:∀id,h id=.dead->h' id=.dead
 cells:∀id l,h id=.cells l->(∃l',h' id=.cells l')\/h' id=.dead
 arr:∀id e t l,h id=.arr e t l->(∃l':List t.den,l'.length=l.length/\(h' id=.arr e t l'\/h' id=.ice e t l'))\/h' id=.dead
 tree:∀id e k l f,h id=.tree e k l f->(∃(l':List k.den) (f':List (List Nat×Nat)),h' id=.tree e k l' f'/\∀p n,inL k l p=some n->inL k l' p=some n/\(h (gh id p)=.kid->κ' (gh id p)=κ (gh id p)))\/h' id=.dead
 ice:∀id e t l,h id=.ice e t l->h' id=.ice e t l\/h' id=.dead
 lrec:∀id i s,h id=.lrec i s->(∃s',h' id=.lrec i s')\/h' id=.dead
 maps:∀id,(h id).isMap=true->(h' id).isMap=true\/h' id=.dead
 iter:∀id ak av tk tv left cur,h id=.iter ak av tk tv left cur->(∃left' cur',h' id=.iter ak av tk tv left' cur')\/h' id=.dead
 still:∀b,q08 κ h w b->q08 κ' h' w' b/\w'.heap[b]? = w.heap[b]?
 size:w.heap.size<=w'.heap.size
 loops:∀(b:Nat) r,w.heap[b]? = some (Obj.loop r)->∃r',w'.heap[b]? = some (Obj.loop r')
 defs:∀b:Nat,w.heap[b]? = some (.deferred (some []))->w'.heap[b]? = some (.deferred (some []))
theorem Ext.refl (L:Nat->Prop) (κ:A6) (h:Heap) (w:World):Ext L κ h w κ h w where
 place _ _:=rfl
 kid _ hk:=hk
 dead _ hd:=hd
 cells _ l hl:=.inl ⟨l,hl⟩
 arr _ _ _ l hl:=.inl ⟨l,rfl,.inl hl⟩
 tree _ _ _ l f hl:=.inl ⟨l,f,hl,λ_ _ h=>⟨h,λ_=>rfl⟩⟩
 ice _ _ _ _ hl:=.inl hl
 lrec _ _ s hl:=.inl ⟨s,hl⟩
 maps _ hm:=.inl hm
 iter _ _ _ _ _ l c hi:=.inl ⟨l,c,hi⟩
 still _ hb:=⟨hb,rfl⟩
 size:=ax _
 loops _ r hr:=⟨r,hr⟩
 defs _ hr:=hr
variable {L:Nat->Prop} {κ:A6} {κ':A6} {h:Heap} {h':Heap}
theorem Ext.keeps (x:Ext L κ h w κ' h' w') {id:Nat} (hf:(h id).Held):(h' id).Held:=by
 cases ho:h id with
 | fresh=>exact absurd ho hf.1
 | kid=>exact absurd ho hf.2
 | tree e k l f=>rcases x.tree id e k l f ho with⟨l',f',e,_⟩ | e<;>rw[e]<;>simp
 | dead=>rw[x.dead id ho];simp
 | cells l=>rcases x.cells id l ho with⟨l',e⟩ | e<;>rw[e]<;>simp
 | arr e t l=>rcases x.arr id e t l ho with⟨l',_,e | e⟩ | e<;>rw[e]<;>simp
 | ice e t l=>rcases x.ice id e t l ho with e | e<;>rw[e]<;>simp
 | lrec i s=>rcases x.lrec id i s ho with⟨s',e⟩ | e<;>rw[e]<;>simp
 | mapo ak av tk tv l=>rcases x.maps id (by rw[ho];rfl)with e | e<;>refine⟨λhe=>?_,λhe=>?_⟩<;>rw[he]at e<;>cases e
 | mapp ak av tk tv l k g=>rcases x.maps id (by rw[ho];rfl)with e | e<;>refine⟨λhe=>?_,λhe=>?_⟩<;>rw[he]at e<;>cases e
 | mice ak av tk tv l=>rcases x.maps id (by rw[ho];rfl)with e | e<;>refine⟨λhe=>?_,λhe=>?_⟩<;>rw[he]at e<;>cases e
 | iter ak av tk tv l c=>rcases x.iter id _ _ _ _ _ _ ho with⟨_,_,e⟩ | e<;>rw[e]<;>simp
theorem Ext.trans {κ'':A6} {h'':Heap} {w'':World} (x:Ext L κ h w κ' h' w') (y:Ext L κ' h' w' κ'' h'' w'') :
  Ext L κ h w κ'' h'' w'' where
 place id hf:=(y.place id (x.keeps hf)).trans (x.place id hf)
 kid id hk:=y.kid id (x.kid id hk)
 tree id e k l f hl:=by
  rcases x.tree id e k l f hl with⟨l',f',h1,h2⟩ | h1
  ·rcases y.tree id e k l' f' h1 with⟨l2,f2,g1,g2⟩ | g1
   ·exact .inl ⟨l2,f2,g1,λp n hn=>⟨(g2 p n (h2 p n hn).1).1,λhk=>((g2 p n (h2 p n hn).1).2 (x.kid _ hk)).trans ((h2 p n hn).2 hk)⟩⟩
   ·exact .inr g1
  ·exact .inr (y.dead id h1)
 dead id hd:=y.dead id (x.dead id hd)
 cells id l hl:=by
  rcases x.cells id l hl with⟨l',e⟩ | e
  ·exact y.cells id l' e
  ·exact .inr (y.dead id e)
 arr id e t l hl:=by
  rcases x.arr id e t l hl with⟨l',hlen,he | he⟩ | he
  ·rcases y.arr id e t l' he with⟨l'',hlen',h2⟩ | h2
   ·exact .inl ⟨l'',hlen'.trans hlen,h2⟩
   ·exact .inr h2
  ·rcases y.ice id e t l' he with h2 | h2
   ·exact .inl ⟨l',hlen,.inr h2⟩
   ·exact .inr h2
  ·exact .inr (y.dead id he)
 ice id e t l hl:=by
  rcases x.ice id e t l hl with he | he
  ·exact y.ice id e t l he
  ·exact .inr (y.dead id he)
 lrec id i s hl:=by
  rcases x.lrec id i s hl with⟨s',e⟩ | e
  ·exact y.lrec id i s' e
  ·exact .inr (y.dead id e)
 maps id hm:=by
  rcases x.maps id hm with e | e
  ·exact y.maps id e
  ·exact .inr (y.dead id e)
 iter id ak av tk tv l c hi:=by
  rcases x.iter id ak av tk tv l c hi with⟨l',c',e⟩ | e
  ·exact y.iter id ak av tk tv l' c' e
  ·exact .inr (y.dead id e)
 size:=bw x.size y.size
 loops b r hr:=by
  obtain⟨r',h1⟩:=x.loops b r hr;exact y.loops b r' h1
 defs b hr:=y.defs b (x.defs b hr)
 still b hb:=⟨(y.still b (x.still b hb).1).1,((y.still b (x.still b hb).1).2).trans (x.still b hb).2⟩
theorem Ext.free (x:Ext L κ h w κ' h' w'):∀b,A4 L κ h w b->A4 L κ' h' w' b/\w'.heap[b]? = w.heap[b]?:=λb a =>
 have c:=x.still b ⟨a.1,a.2.2⟩
 ⟨⟨c.1.1,a.2.1,c.1.2⟩,c.2⟩
theorem RepAt.ext (x:Ext L κ h w κ' h' w') {t:Ty} {get:Nat->Option Value} {v:t.den} (a:RepAt w (A4 L κ h w) t get v):RepAt w' (A4 L κ' h' w') t get v:=a.mono x.free t get v
theorem RepSV.ext (x:Ext L κ h w κ' h' w'):∀(s:SV) (v:Value),RepSV L κ h w s v->RepSV L κ' h' w' s v
 | .unk,_,_=>trivial
 | .sc _ _,_,⟨h1,h2,h3⟩=>⟨h1,h2,RepAt.ext x h3⟩
 | .nils,_,hr=>hr
 | .nilp,_,hr=>hr
 | .udf,_,hr=>hr
 | .ne _ _,_,⟨h1,h2,h3⟩=>⟨h1,RepAt.ext x h2,h3⟩
 | .nx,_,hr=>hr
 | .gl _,_,hr=>hr
 | .gp _ _,_,⟨b,o,h1,h2,h3⟩=>⟨b,o,h1,(x.still b h2).1,by rw[q5z (w:=w) (w':=w') (a:=⟨b,o,none⟩) (x.still b h2).2];exact h3⟩
 | .cstr _,_,hr=>hr
 | .own id,v,hr=>by
  simp only[RepSV]at hr ⊢;refine⟨?_,hr.2⟩;have hr:=hr.1;cases ho:h id with
  | fresh=>simp[ho]at hr
  | cells l=>simp[ho]at hr
  | lrec i s=>simp[ho]at hr
  | mapo _ _ _ _ _=>simp[ho]at hr
  | mapp _ _ _ _ _ _ _=>simp[ho]at hr
  | mice _ _ _ _ _=>simp[ho]at hr
  | iter _ _ _ _ _ _=>simp[ho]at hr
  | kid=>simp[ho]at hr
  | tree _ _ _ _=>simp[ho]at hr
  | dead=>simp[x.dead id ho]
  | arr e t l =>
   simp only[ho]at hr;have hk:κ' id=κ id:=x.place id (by rw[ho];simp);rcases x.arr id e t l ho with⟨l',hlen,he | he⟩ | he
   ·rw[he];simp only[hk];rcases hr with⟨a,b,c⟩ | ⟨b,cap,h1,h2⟩
    ·exact .inl ⟨a,by rw[b]at hlen;exact aO (by simpa using hlen),c⟩
    ·exact .inr ⟨b,cap,h1,by rw[hlen];exact h2⟩
   ·rw[he];simp only[hk];rcases hr with⟨a,b,c⟩ | ⟨b,cap,h1,h2⟩
    ·exact .inl ⟨a,by rw[b]at hlen;exact aO (by simpa using hlen),c⟩
    ·exact .inr ⟨b,cap,h1,by rw[hlen];exact h2⟩
   ·simp[he]
  | ice e t l =>
   simp only[ho]at hr;have hk:κ' id=κ id:=x.place id (by rw[ho];simp);rcases x.ice id e t l ho with he | he
   ·rw[he];simp only[hk];exact hr
   ·simp[he]
 | .sub id off len,v,hr=>by
  simp only[RepSV]at hr ⊢;refine⟨?_,hr.2⟩;have hr:=hr.1;cases ho:h id with
  | fresh=>simp[ho]at hr
  | cells l=>simp[ho]at hr
  | lrec i s=>simp[ho]at hr
  | mapo _ _ _ _ _=>simp[ho]at hr
  | mapp _ _ _ _ _ _ _=>simp[ho]at hr
  | mice _ _ _ _ _=>simp[ho]at hr
  | iter _ _ _ _ _ _=>simp[ho]at hr
  | kid=>simp[ho]at hr
  | tree _ _ _ _=>simp[ho]at hr
  | dead=>simp[x.dead id ho]
  | arr e t l =>
   simp only[ho]at hr;have hk:κ' id=κ id:=x.place id (by rw[ho];simp);rcases x.arr id e t l ho with⟨l',hlen,he | he⟩ | he
   ·rw[he];simp only[hk,hlen];exact hr
   ·rw[he];simp only[hk,hlen];exact hr
   ·simp[he]
  | ice e t l =>
   simp only[ho]at hr;have hk:κ' id=κ id:=x.place id (by rw[ho];simp);rcases x.ice id e t l ho with he | he
   ·rw[he];simp only[hk];exact hr
   ·simp[he]
 | .ptr id off,v,⟨h1,b,c,h2,h3⟩=>⟨x.keeps h1,b,c,(x.place id h1).trans h2,h3⟩
 | .eptr id t i c,v,⟨h1,b,cap,h2,h3⟩=>⟨x.keeps h1,b,cap,(x.place id h1).trans h2,h3⟩
 | .ro t y c,v,⟨b,o,h1,h2,h3⟩=>by
  refine⟨b,o,h1,(x.still b h2).1,?_⟩;have:=RepAt.ext x h3;have hf:(λj=>if j<t.size then w'.cell? ⟨b,o+j,none⟩else none)=(λj=>if j<t.size then w.cell? ⟨b,o+j,none⟩else none):=by
   funext j;rw[q5z (w:=w) (w':=w') (a:=⟨b,o+j,none⟩) (x.still b h2).2]
  rw[hf];exact this
 | .fn f caps,v,⟨cs,h1,h2,h3⟩=>⟨cs,h1,h2,λi p hp=>by
  obtain⟨a,b,c,d,e⟩:=h3 i p hp;exact⟨x.keeps a,b,c,(x.place p.1 a).trans d,e⟩⟩
 | .yld id,v,⟨h1,b,c,h2,h3⟩=>⟨x.keeps h1,b,c,(x.place id h1).trans h2,h3⟩
 | .mp id,v,⟨h1,b,c,h2,h3⟩=>⟨x.keeps h1,b,c,(x.place id h1).trans h2,h3⟩
 | .stmp id,v,⟨h1,b,c,h2,h3⟩=>⟨x.keeps h1,b,c,(x.place id h1).trans h2,h3⟩
 | .csl id _ _ _,v,⟨h1,b,c,h2,h3⟩=>⟨x.keeps h1,b,c,(x.place id h1).trans h2,h3⟩
 | .mpn,_,hr=>hr
 | .nif,_,hr=>hr
 | .nilf,_,hr=>hr
 | .pan _,_,hr=>hr.elim
 | .ts id p,v,hr=>by
  simp only[RepSV]at hr ⊢;refine⟨?_,hr.2⟩;have hr:=hr.1;cases ho:h id with
  | dead=>simp[x.dead id ho]
  | tree e k l f =>
   simp only[ho]at hr;rcases x.tree id e k l f ho with⟨l',f',he,hp⟩ | he
   ·rw[he];simp only;rcases hr with⟨h1,h2,h3,h4⟩ | ⟨n,b,cap,h1,h2,h3,h4⟩
    ·have hk:κ' id=κ id:=x.place id (by rw[ho];simp);have:=(hp [] 0 (by rw[h3];rfl)).1;refine .inl ⟨h1,hk.trans h2,?_,h4⟩;simpa[inL]using this
    ·refine .inr ⟨n,b,cap,(hp p n h1).1,?_,h3.imp_right (x.kid _),h4⟩;rcases h3 with rfl | h3
     ·exact(x.place id (by rw[ho];simp)).trans h2
     ·exact((hp p n h1).2 h3).trans h2
   ·simp[he]
  | _=>simp[ho]at hr
 | .tp id p i,v,hr=>by
  simp only[RepSV]at hr ⊢;refine⟨?_,hr.2⟩;have hr:=hr.1;cases ho:h id with
  | dead=>simp[x.dead id ho]
  | tree e k l f =>
   simp only[ho]at hr;rcases x.tree id e k l f ho with⟨l',f',he,hp⟩ | he
   ·rw[he];obtain⟨n,b,cap,h1,h2,h3,h4⟩:=hr;refine⟨n,b,cap,(hp p n h1).1,?_,h3.imp_right (x.kid _),h4⟩;rcases h3 with rfl | h3
    ·exact(x.place id (by rw[ho];simp)).trans h2
    ·exact((hp p n h1).2 h3).trans h2
   ·simp[he]
  | _=>simp[ho]at hr
 | .ifc T agg cs,v,⟨us,h1,h2,h3,h4⟩=>⟨us,h1,h2,h3,λi p u hp hu=>⟨(h4 i p u hp hu).1,(h4 i p u hp hu).2.1,(h4 i p u hp hu).2.2.ext x⟩⟩
 | .bfp f id off,v,⟨u,h1,h2,b,c,h3,h4⟩=>⟨u,h1,x.keeps h2,b,c,(x.place id h2).trans h3,h4⟩
 | .bfn f agg cs,v,⟨us,h1,h2,h3,h4⟩=>⟨us,h1,h2,h3,λi p u hp hu=>⟨(h4 i p u hp hu).1,(h4 i p u hp hu).2.1,(h4 i p u hp hu).2.2.ext x⟩⟩
theorem RepCells.ext (x:Ext L κ h w κ' h' w') {l:List SV} {cs:List Value} (a:RepCells L κ h w l cs):RepCells L κ' h' w' l cs:=⟨a.1,λi s c d b=>⟨(a.2 i s c d b).1.ext x,(a.2 i s c d b).2⟩⟩
theorem RepComp.ext (x:Ext L κ h w κ' h' w'):∀{c:Bool×List SV} {v:Value},
  RepComp L κ h w c v->RepComp L κ' h' w' c v
 | (true,_),_,⟨e,d,b⟩=>⟨e,d,b.ext x⟩
 | (false,[s]),v,a=>RepSV.ext x s v a
 | (false,[]),_,a=>a.elim
 | (false,_::_::_),_,a=>a.elim
theorem RepAV.ext (x:Ext L κ h w κ' h' w'):∀{v:AV} {u:Value},
  RepAV L κ h w v u->RepAV L κ' h' w' v u
 | .one s,u,k=>RepSV.ext x s u k
 | .agg _,_,⟨f,d,e⟩=>⟨f,d,e.ext x⟩
 | .tup _,_,⟨g,d,e,j⟩=>⟨g,d,e,λi c u a b=>(j i c u a b).ext x⟩
end Go.Abs
