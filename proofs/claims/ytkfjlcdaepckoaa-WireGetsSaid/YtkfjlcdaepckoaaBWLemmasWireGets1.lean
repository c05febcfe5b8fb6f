/- Lemmas on functions of the program, by name. -/
import Derived.Test.YtkfjlcdaepckoaaBWFuns
import Derived.Test.YtkfjlcdaepckoaaAbsSums
namespace Go.Proofs.Try
section
open Go Go.Abs

abbrev Rw:=Int×Int×Int×Unit
abbrev Ky:=Int×Int×Unit
abbrev KT:Ty:=.cons (.int .i64) (.cons (.int .i64) .nil)
abbrev Bg:=List (Ky×Int)
theorem D5:KT.flat=true:=rfl
def B1 (r:Rw):Ky:=(r.1,r.2.1,())
def toE (r:Rw):Ky×Int:=(B1 r,r.2.2.1)
def toR (p:Ky×Int):Rw:=(p.1.1,p.1.2.1,p.2,())
def W (n:Int):Int:=IntKind.i64.wrap n
def nOf (m:Bg) (k:Ky):Int:=(B4 KT m k).getD 0
structure BagIs (m:Bg) (T:Ky->Int):Prop where
 rise:Rise KT m
 num:∀ k,nOf m k=T k
 nz:∀ p∈m,p.2≠0
def U7 (m:Bg) (k:Ky) (n:Int):Bg :=
 cond (nOf (A8 KT (F4 KT m k 0) k (W (nOf m k+n))) k==0) (G6 KT (A8 KT (F4 KT m k 0) k (W (nOf m k+n))) k) (A8 KT (F4 KT m k 0) k (W (nOf m k+n)))
theorem z2d (m:Bg) (k j:Ky) (v:Int):nOf (A8 KT m k v) j=if j=k then v else nOf m j:=by
 unfold nOf
 by_cases h:j=k
 ·subst h;rw[U1 D5,if_pos rfl];rfl
 ·rw[U0 D5 _ _ _ _ h,if_neg h]
theorem j5y {m:Bg} (h:Rise KT m) (k:Ky):Rise KT (F4 KT m k 0):=O2 D5 h
theorem j88 (m:Bg) (k j:Ky):nOf (F4 KT m k 0) j=nOf m j:=by
 unfold F4
 rw[z2d]
 split
 ·rename_i h;subst h;rfl
 ·rfl
theorem j9o {m:Bg} {T:Ky->Int} (h:BagIs m T) (k:Ky) (n:Int):BagIs (U7 m k n) (fun j=>if j=k then W (T k+n)else T j):=by
 have hr:=O2 D5 (k:=k) (v:=W (nOf m k+n)) (j5y h.rise k)
 have hn:∀ j,nOf (A8 KT (F4 KT m k 0) k (W (nOf m k+n))) j=if j=k then W (T k+n)else T j:=fun j=>by
  rw[z2d,j88,h.num,h.num]
 have hmem:∀ p∈A8 KT (F4 KT m k 0) k (W (nOf m k+n)),p=(k,W (T k+n))\/(p∈m/\p.1≠k):=fun p hp=>by
  by_cases hk:p.1=k
  ·have h1:B4 KT (A8 KT (F4 KT m k 0) k (W (nOf m k+n))) p.1=some p.2:=(K4 D5 hr).2 hp
   rw[hk,U1 D5]at h1
   left
   exact Prod.ext hk ((Option.some.inj h1).symm.trans (by rw[h.num]))
  ·have h1:B4 KT (A8 KT (F4 KT m k 0) k (W (nOf m k+n))) p.1=some p.2:=(K4 D5 hr).2 hp
   unfold F4 at h1
   rw[U0 D5 _ _ _ _ hk,U0 D5 _ _ _ _ hk]at h1
   exact .inr ⟨(K4 D5 h.rise).1 h1,hk⟩
 unfold U7
 generalize A8 KT (F4 KT m k 0) k (W (nOf m k+n))=M at hr hn hmem ⊢
 have hz:=hn k
 rw[if_pos rfl]at hz
 rw[hz]
 by_cases h0:W (T k+n)=0
 ·rw[h0]
  simp only[beq_self_eq_true,cond_true]
  refine⟨q6y hr,fun j=>?_,fun p hp=>?_⟩
  ·unfold nOf
   by_cases hj:j=k
   ·subst hj;rw[j7u D5,if_pos rfl];rfl
   ·rw[j7t D5 hr hj,if_neg hj]
    have:=hn j
    rw[if_neg hj]at this
    exact this
  ·have hp1:p∈M/\¬ KT.eqb k p.1=true:=by
    simpa[G6]using hp
   rcases hmem p hp1.1 with h2 | ⟨h2,-⟩
   ·exact absurd ((KT.eqb_iff D5 k p.1).2 (by rw[h2])) hp1.2
   ·exact h.nz p h2
 ·have hb:(W (T k+n)==0)=false:=by simpa using h0
  rw[hb,cond_false]
  refine⟨hr,hn,fun p hp=>?_⟩
  rcases hmem p hp with h2 | ⟨h2,-⟩
  ·rw[h2];exact h0
  ·exact h.nz p h2
theorem q5l {m:Bg} {T:Ky->Int} (h:BagIs m T) (p:Ky×Int):p∈m↔p.2≠0/\T p.1=p.2:=by
 constructor
 ·intro hp
  refine⟨h.nz p hp,?_⟩
  rw[<-h.num]
  unfold nOf
  rw[(K4 D5 h.rise).2 hp];rfl
 ·rintro ⟨h0,h1⟩
  rw[<-h.num]at h1
  unfold nOf at h1
  cases hg:B4 KT m p.1 with
  | none=>rw[hg]at h1;exact absurd h1.symm h0
  | some v =>
   rw[hg]at h1
   have h1:v=p.2:=h1
   subst h1
   exact(K4 D5 h.rise).1 hg
theorem z4s {m:Bg} (h:Rise KT m):m.Nodup:=List.Pairwise.imp (fun {a b} hab e=>hab (by rw[e])) (h.ne D5)
theorem z4q {m m':Bg} {T:Ky->Int} (h:BagIs m T) (h':BagIs m' T):m=m' :=
 j00 D5 h.rise h'.rise ((List.perm_ext_iff_of_nodup (z4s h.rise) (z4s h'.rise)).2 fun p=>(q5l h p).trans (q5l h' p).symm)
def tot:List Rw->(Ky->Int)->(Ky->Int)
 | [],T=>T
 | r::l,T=>tot l (fun j=>if j=B1 r then W (T (B1 r)+r.2.2.1)else T j)
def E9 (l:List Rw) (m:Bg):Bg:=l.foldl (fun m r=>U7 m (B1 r) r.2.2.1) m
theorem q5k:∀ (l:List Rw) {m:Bg} {T:Ky->Int},BagIs m T->BagIs (E9 l m) (tot l T)
 | [],_,_,h=>h
 | r::l,_,_,h=>q5k l (j9o h (B1 r) r.2.2.1)
def P5:List Rw->Rw->List Rw
 | [],r=>[r]
 | p::o,r=>if KT.lt (B1 p) (B1 r)=true then p::P5 o r else if B1 p=B1 r then(p.1,p.2.1,W (p.2.2.1+r.2.2.1),())::o else r::p::o
def InR (n:Int):Prop:=W n=n
theorem q6p (n:Int):InR (W n):=by unfold InR W;rw[IntKind.wrap_i64,IntKind.wrap_i64];omega
structure RowsAre (o:List Rw) (T:Ky->Int):Prop where
 rise:Rise KT (o.map toE)
 num:∀ k,nOf (o.map toE) k=T k
theorem z1t:∀ (o:List Rw) (r:Rw),Rise KT (o.map toE)->InR r.2.2.1->(P5 o r).map toE=A8 KT (o.map toE) (B1 r) (W (nOf (o.map toE) (B1 r)+r.2.2.1))
 | [],r,_,hw=>by
  show [toE r]=[(B1 r,W (0+r.2.2.1))]
  rw[Int.zero_add,hw];rfl
 | p::o,r,h,hw=>by
  obtain⟨h1,h2⟩:=List.pairwise_cons.1 h
  have ih:=z1t o r h2 hw
  unfold P5
  have e1:(List.map toE (p::o))=toE p::o.map toE:=rfl
  by_cases hlt:KT.lt (B1 p) (B1 r)=true
  ·rw[if_pos hlt,e1]
   have hne:B1 r≠B1 p:=fun e=>by rw[e,KT.lt_irr D5]at hlt;cases hlt
   have hng:KT.lt (B1 r) (B1 p)=false:=by
    cases hq:KT.lt (B1 r) (B1 p)with
    | false=>rfl
    | true=>have:=KT.lt_trans D5 _ _ _ hlt hq;rw[KT.lt_irr D5]at this;cases this
   have hn:nOf (toE p::o.map toE) (B1 r)=nOf (o.map toE) (B1 r):=by
    unfold nOf B4
    rw[List.find?_cons,show KT.eqb (B1 r) (toE p).1=false from KT.eqb_false D5 hne]
   rw[hn,List.map_cons,ih]
   show _=A8 KT (toE p::o.map toE) _ _
   rw[A8,show KT.eqb (B1 r) (toE p).1=false from KT.eqb_false D5 hne,cond_false,show KT.lt (B1 r) (toE p).1=false from hng,cond_false]
  ·rw[if_neg hlt,e1]
   by_cases he:B1 p=B1 r
   ·rw[if_pos he]
    have heq:KT.eqb (B1 r) (toE p).1=true:=(KT.eqb_iff D5 _ _).2 he.symm
    have hn:nOf (toE p::o.map toE) (B1 r)=p.2.2.1:=by
     unfold nOf B4
     rw[List.find?_cons,heq];rfl
    rw[hn,A8,heq,cond_true,<-he];rfl
   ·rw[if_neg he]
    have hrp:KT.lt (B1 r) (B1 p)=true:=by
     rcases KT.lt_tri D5 (B1 p) (B1 r)with h3 | h3 | h3
     ·exact absurd h3 hlt
     ·exact absurd h3 he
     ·exact h3
    have heq:KT.eqb (B1 r) (toE p).1=false:=KT.eqb_false D5 (fun e=>he e.symm)
    have hn:nOf (toE p::o.map toE) (B1 r)=0:=by
     unfold nOf
     rw[(X6 D5).2]
     ·rfl
     ·intro q hq e
      rcases List.mem_cons.1 hq with rfl | hq
      ·exact he e
      ·have h4:=h1 q hq
       rw[e]at h4
       have:=KT.lt_trans D5 _ _ _ hrp h4
       rw[KT.lt_irr D5]at this;cases this
    rw[hn,A8,heq,cond_false,show KT.lt (B1 r) (toE p).1=true from hrp,cond_true,Int.zero_add,hw];rfl
theorem j74 {o:List Rw} {T:Ky->Int} (h:RowsAre o T) {r:Rw} (hw:InR r.2.2.1):RowsAre (P5 o r) (fun j=>if j=B1 r then W (T (B1 r)+r.2.2.1)else T j) where
 rise:=by rw[z1t o r h.rise hw];exact O2 D5 h.rise
 num k:=by rw[z1t o r h.rise hw,z2d,h.num,h.num]
def J7 (l:List Rw) (o:List Rw):List Rw:=l.foldl P5 o
theorem j06:∀ (l:List Rw) {o:List Rw} {T:Ky->Int},RowsAre o T->(∀ r∈l,InR r.2.2.1)->RowsAre (J7 l o) (tot l T)
 | [],_,_,h,_=>h
 | r::l,_,_,h,hw=>j06 l (j74 h (hw r List.mem_cons_self)) fun q hq=>hw q (List.mem_cons_of_mem _ hq)
def nzB (r:Rw):Bool:=r.2.2.1 != 0
theorem j6g {o:List Rw} {T:Ky->Int} (h:RowsAre o T):BagIs ((o.filter nzB).map toE) T:=by
 have hm:(o.filter nzB).map toE=(o.map toE).filter fun p=>p.2 != 0:=by
  rw[List.filter_map];rfl
 rw[hm]
 have hr:Rise KT ((o.map toE).filter fun p=>p.2 != 0):=List.Pairwise.filter _ h.rise
 refine⟨hr,fun k=>?_,fun p hp=>by have:=(List.mem_filter.1 hp).2;simpa using this⟩
 rw[<-h.num k]
 unfold nOf
 cases hg:B4 KT (o.map toE) k with
 | none =>
  rw[(X6 D5).2]
  exact fun p hp=>(X6 D5).1 hg p (List.mem_filter.1 hp).1
 | some v =>
  have hmem:=(K4 D5 h.rise).1 hg
  by_cases hv:v=0
  ·subst hv
   rw[(X6 D5).2]
   ·rfl
   ·intro p hp e
    have h1:=List.mem_filter.1 hp
    have h2:=q75 (h.rise.ne D5) h1.1 hmem e
    rw[h2]at h1
    simp at h1
  ·rw[(K4 D5 hr).2 (List.mem_filter.2 ⟨hmem,by simpa using hv⟩)]
theorem y0l {l:List Rw} (hw:∀ r∈l,InR r.2.2.1):(J7 l []).filter nzB=(E9 l []).map toR:=by
 have h0:BagIs [] (fun _=>0):=⟨List.Pairwise.nil,fun _=>rfl,fun p hp=>by cases hp⟩
 have h1:RowsAre [] (fun _=>0):=⟨List.Pairwise.nil,fun _=>rfl⟩
 have h2:=z4q (j6g (j06 l h1 hw)) (q5k l h0)
 rw[<-h2,List.map_map]
 have:toR∘toE=id:=funext fun r=>rfl
 rw[this,List.map_id]
theorem z4t (l:List Rw):Rise KT (E9 l []):=(q5k l (T:=fun _=>0) ⟨List.Pairwise.nil,fun _=>rfl,fun p hp=>by cases hp⟩).rise
theorem j9p (m:Bg) (k:Ky) (n:Int):(U7 m k n).length<=m.length+1:=by
 have key:∀ (m:Bg) (k:Ky) (v:Int),(A8 KT m k v).length<=m.length+1:=by
  intro m
  induction m with
  | nil=>intro k v;simp[A8]
  | cons p r ih =>
   intro k v
   have:=ih k v
   simp only[A8]
   cases KT.eqb k p.1 with
   | true=>simp
   | false =>
    cases KT.lt k p.1 with
    | true=>simp
    | false=>simp only[cond_false,List.length_cons];omega
 have ent:(A8 KT (F4 KT m k 0) k (W (nOf m k+n))).length=(F4 KT m k 0).length:=by
  have k2:∀ (m:Bg) (k:Ky) (v w:Int),(A8 KT (A8 KT m k v) k w).length=(A8 KT m k v).length:=by
   intro m
   induction m with
   | nil=>intro k v w;simp[A8,KT.eqb_self D5]
   | cons p r ih =>
    intro k v w
    simp only[A8]
    cases h1:KT.eqb k p.1 with
    | true=>simp only[cond_true,A8,KT.eqb_self D5];rfl
    | false =>
     cases h2:KT.lt k p.1 with
     | true=>simp only[cond_true,cond_false,A8,KT.eqb_self D5];rfl
     | false=>simp only[cond_false,A8,h1,h2,List.length_cons,ih]
  exact k2 _ _ _ _
 have h1:=key m k ((B4 KT m k).getD 0)
 unfold U7
 cases(nOf (A8 KT (F4 KT m k 0) k (W (nOf m k+n))) k==0)with
 | true =>
  simp only[cond_true]
  refine Nat.le_trans (List.length_filter_le _ _) ?_
  rw[ent];exact h1
 | false =>
  simp only[cond_false]
  rw[ent];exact h1
theorem z4r:∀ (l:List Rw) (m:Bg),(E9 l m).length<=m.length+l.length
 | [],m=>Nat.le_refl _
 | r::l,m=>by
  have h1:=z4r l (U7 m (B1 r) r.2.2.1)
  have h2:=j9p m (B1 r) r.2.2.1
  show(E9 l (U7 m (B1 r) r.2.2.1)).length<=_
  simp only[List.length_cons];omega
end

section
open Go Go.Abs

theorem j5e (v w:Int):q3f (v,w,())=some (if v<w then -1 else if v>w then 1 else 0,()):=by
 unfold q3f q5v
 simp only[N2 rfl,Option.bind_some,cond_false,q9p]
 split
 ·rfl
 ·split<;>rfl
theorem j5j (p q:Int):q5t ([p,q],())=some (if p≠0 then p else q,()):=by
 have f0:q1r ([p,q],()) ((0:Int),())=if p=0 then some (.inl ((1:Int),()))else some (.inr (.inl (p,()))):=by
  unfold q1r
  have g:A9 [p,q] (0:Int)=some p:=rfl
  have d0:decide ((0:Int)<(([p,q]:List Int).length:Int))=true:=rfl
  have w0:IntKind.i64.wrap ((0:Int)+1)=1:=by decide
  simp only[d0,cond_true,g,Option.bind_some,q0n,w0]
 have f1:q1r ([p,q],()) ((1:Int),())=if q=0 then some (.inl ((2:Int),()))else some (.inr (.inl (q,()))):=by
  unfold q1r
  have g:A9 [p,q] (1:Int)=some q:=rfl
  have d0:decide ((1:Int)<(([p,q]:List Int).length:Int))=true:=rfl
  have w0:IntKind.i64.wrap ((1:Int)+1)=2:=by decide
  simp only[d0,cond_true,g,Option.bind_some,q0n,w0]
 have f2:q1r ([p,q],()) ((2:Int),())=some (.inr (.inr (.inl ()))):=rfl
 unfold q5t
 by_cases hp:p=0
 ·rw[if_pos hp]at f0
  rw[H4 f0,if_neg (by simpa using hp)]
  by_cases hq:q=0
  ·rw[if_pos hq]at f1
   rw[H4 f1,C0 f2,hq];rfl
  ·rw[if_neg hq]at f1
   rw[C0 f1];rfl
 ·rw[if_neg hp]at f0
  rw[C0 f0,if_pos hp];rfl
def q5r (x y:Rw):Int:=if x.1<y.1 then -1 else if x.1>y.1 then 1 else if x.2.1<y.2.1 then -1 else if x.2.1>y.2.1 then 1 else 0
theorem j08 (x y:Rw):q1l (x,y,())=some (q5r x y,()):=by
 unfold q1l q5r
 simp only[j5e,Option.bind_some,j5j]
 by_cases h1:x.1<y.1
 ·simp[h1]
 ·by_cases h2:x.1>y.1
  ·simp[h1,h2]
  ·simp[h1,h2]
theorem j5f (x y:Rw):q5r x y<0↔KT.lt (B1 x) (B1 y)=true:=by
 have h:KT.lt (B1 x) (B1 y)=(decide (x.1<y.1)||((x.1==y.1)&&(decide (x.2.1<y.2.1)||((x.2.1==y.2.1)&&false)))):=rfl
 rw[h]
 unfold q5r
 by_cases h1:x.1<y.1
 ·simp[h1]
 ·by_cases h2:x.1>y.1
  ·have h3:¬ x.1=y.1:=by omega
   simp[h1,h2,h3]
  ·have h3:x.1=y.1:=by omega
   by_cases h4:x.2.1<y.2.1
   ·simp[h3,h4]
   ·by_cases h5:x.2.1>y.2.1
    ·simp[h3,h4,h5]
    ·simp[h3,h4,h5]
theorem z4e {E γ:Type} {F:Type} {row:E->F} {b:Nat} {k:((List F×Unit)⊕Empty)->Option γ} {f:List E->E->(List F×Unit)->Option ((List F×Unit)⊕((List F×Unit)⊕Empty))} {g:(List F×Unit)->Option ((List F×Unit)⊕((List F×Unit)⊕Empty))}
  (hf:∀ r e (y:List F),y.length+1<=b->f r e (y,())=some (.inl (y++[row e],()))) (hg:∀ y:List F,g (y,())=some (.inr (.inl (y,())))) {c:γ} :
  ∀ (n:Nat) (l:List E) (y:List F),l.length=n->y.length+n<=b->(∀ ord:List E,ord.Perm l->k (.inl (y++ord.map row,()))=some c)->q0i f g k n l (y,()) c
 | 0,l,y,hl,hb,h=>by
  have:l=[]:=List.eq_nil_of_length_eq_zero hl
  subst this
  refine⟨.inl (y,()),hg y,?_⟩
  have:=h [] (List.Perm.refl _)
  simpa using this
 | n+1,[],y,hl,_,_=>by simp at hl
 | n+1,e::l,y,hl,hb,h=>by
  intro p r hp
  refine .inr ⟨_,hf r p y (by omega),z4e hf hg n r (y++[row p]) ?_ ?_ fun ord ho=>?_⟩
  ·have:=hp.length_eq
   simp only[List.length_cons]at this hl
   omega
  ·simp only[List.length_append,List.length_cons,List.length_nil];omega
  ·have:=h (p::ord) ((ho.cons p).trans hp.symm)
   rw[List.map_cons]at this
   rw[List.append_assoc];exact this
theorem q4y {n:Nat} (h:n<=4000000000000):C1 n 24=true:=by
 unfold C1
 rw[Bool.and_eq_true]
 exact⟨Nat.ble_eq_true_of_le (by omega),Nat.ble_eq_true_of_le (by omega)⟩
theorem y0j {n:Nat} (h:n<=4000000000000):C1 n 1=true:=by
 unfold C1
 rw[Bool.and_eq_true]
 exact⟨Nat.ble_eq_true_of_le (by omega),Nat.ble_eq_true_of_le (by omega)⟩
theorem y0n {m:Bg} (h:Rise KT m) {z:List Rw} (hz:z.Perm (m.map toR)):R0 (fun a b=>(q1l (a,b,())).map fun r=>r.1) z=some (m.map toR):=by
 have hlt:∀ x y:Rw,ltF (fun a b=>(q1l (a,b,())).map fun r=>r.1) x y↔KT.lt (B1 x) (B1 y)=true:=fun x y=>by
  unfold ltF
  simp only[j08,Option.map_some]
  rw[<-j5f]
  exact⟨fun ⟨v,h1,h2⟩=>by cases h1;exact h2,fun h=>⟨_,rfl,h⟩⟩
 have huniq:∀ x∈z,∀ y∈z,B1 x=B1 y->x=y:=by
  intro x hx y hy e
  obtain⟨p,hp,rfl⟩:=List.mem_map.1 (hz.mem_iff.1 hx)
  obtain⟨q,hq,rfl⟩:=List.mem_map.1 (hz.mem_iff.1 hy)
  rw[q75 (h.ne D5) hp hq e]
 refine j13 ⟨fun x _ y _=>⟨_,by rw[j08];rfl⟩,fun x _=>?_,fun x _ y _ w _=>?_,fun x hx y hy h1 h2=>?_⟩ hz.symm ?_
 ·rw[hlt,KT.lt_irr D5];simp
 ·rw[hlt,hlt,hlt];exact KT.lt_trans D5 _ _ _
 ·rw[hlt]at h1 h2
  rcases KT.lt_tri D5 (B1 x) (B1 y)with h3 | h3 | h3
  ·exact absurd h3 h1
  ·exact huniq x hx y hy h3
  ·exact absurd h3 h2
 ·unfold Srt
  rw[List.pairwise_map]
  refine List.Pairwise.imp (fun {a b} hab=>?_) h
  rw[hlt]
  intro hba
  have:KT.lt a.1 a.1=true:=KT.lt_trans D5 _ _ _ hab hba
  rw[KT.lt_irr D5]at this;cases this
theorem y0m {m:Bg} (h:Rise KT m) (hl:m.length<=3000000000000):q39 (m,())=some (m.map toR,()):=by
 unfold q39
 refine z4h ?_
 refine z4e (row:=toR) (b:=4000000000000) (fun r e y hb=>?_) (fun y=>rfl) _ m [] rfl (by simp;omega) fun ord ho=>?_
 ·unfold z4v
  rw[show ∀ x:Rw,([x]:List Rw).length=1 from fun _=>rfl,q4y hb];rfl
 ·have hlen:([]++ord.map toR).length<=4000000000000:=by
   rw[List.nil_append,List.length_map,ho.length_eq];omega
  show cond (C1 ([]++ord.map toR).length 1) _ none=_
  rw[y0j hlen,cond_true,List.nil_append,y0n h (ho.map toR)];rfl
def sc (n:Int) (r:Rw):Rw:=(r.1,r.2.1,W (n*r.2.2.1),())
theorem j4y (l l':List Rw) (m:Bg):E9 (l++l') m=E9 l' (E9 l m):=List.foldl_append
theorem j4z (a:List Rw) (n:Int) (m:Bg) {i:Nat} (h:i<a.length):E9 ((a.take (i+1)).map (sc n)) m=U7 (E9 ((a.take i).map (sc n)) m) (B1 a[i]) (W (n*a[i].2.2.1)):=by
 rw[List.take_succ_eq_append_getElem h,List.map_append,j4y];rfl
end

section
open Go Go.Abs

theorem j3j (p r:Rw):q7v (p,r,())=some (KT.lt (B1 p) (B1 r),()):=by
 have h:KT.lt (B1 p) (B1 r)=(decide (p.1<r.1)||((p.1==r.1)&&(decide (p.2.1<r.2.1)||((p.2.1==r.2.1)&&false)))):=rfl
 rw[h]
 unfold q7v
 simp only[q0n]
 by_cases h1:p.1=r.1
 ·simp[h1]
 ·simp[h1]
def I7:List Rw->Rw->Nat
 | [],_=>0
 | p::s,r=>if KT.lt (B1 p) (B1 r)=true then I7 s r+1 else 0
theorem z99:∀ (o:List Rw) (r:Rw),I7 o r<=o.length
 | [],_=>Nat.le_refl _
 | p::s,r=>by
  have:=z99 s r
  unfold I7
  split
  ·simp only[List.length_cons];omega
  ·omega
theorem z1u:∀ (o:List Rw) (r:Rw),P5 o r=if ∃ p,o[I7 o r]? = some p/\B1 p=B1 r then o.modify (I7 o r) (fun p=>(p.1,p.2.1,W (p.2.2.1+r.2.2.1),()))else o.take (I7 o r)++r::o.drop (I7 o r)
 | [],r=>by simp[P5,I7]
 | p::s,r=>by
  have ih:=z1u s r
  unfold P5 I7
  by_cases hlt:KT.lt (B1 p) (B1 r)=true
  ·simp only[hlt,if_true,List.getElem?_cons_succ,List.take_succ_cons,List.drop_succ_cons,List.cons_append,List.modify_succ_cons,ih]
   split
   ·rfl
   ·rfl
  ·simp only[if_neg hlt,List.getElem?_cons_zero,List.take_zero,List.drop_zero,List.nil_append,List.modify_zero_cons,Option.some.injEq,exists_eq_left']
theorem z6r {n:Int} {v:Rw} {o:List Rw} (hl:o.length<=3000000000000):∀ (suf pre:List Rw),o=pre++suf->A3 (q2h (o,n,()) v) ((pre.length:Int),())=some (.inl (((pre.length+I7 suf v:Nat):Int),()))
 | [],pre,ho=>by
  have hlen:o.length=pre.length:=by rw[ho];simp
  refine C0 ?_
  unfold q2h
  simp only[dcF (show ¬ (pre.length:Int)<(o.length:Int)by omega),cond_false]
  rfl
 | p::s,pre,ho=>by
  have hlen:o.length=pre.length+(s.length+1):=by rw[ho];simp
  have hget:o[pre.length]? = some p:=by rw[ho,List.getElem?_append_right (Nat.le_refl _),Nat.sub_self];rfl
  have hst:q2h (o,n,()) v ((pre.length:Int),())=cond (KT.lt (B1 p) (B1 v)) (some (.inl (((pre.length+1:Nat):Int),()))) (some (.inr (.inl ((pre.length:Int),())))):=by
   unfold q2h
   simp only[dcT (show(pre.length:Int)<(o.length:Int)by omega),cond_true,Q4 (show pre.length<o.length by omega),Int.toNat_natCast,hget,Option.bind_some,j3j,G8 (show pre.length<9223372036854775807 by omega)]
  unfold I7
  cases hlt:KT.lt (B1 p) (B1 v)with
  | true =>
   rw[hlt,cond_true]at hst
   rw[H4 hst]
   have:=z6r (n:=n) (v:=v) hl s (pre++[p]) (by rw[ho];simp)
   rw[List.length_append,List.length_singleton]at this
   rw[this,if_pos rfl]
   rw[show pre.length+1+I7 s v=pre.length+(I7 s v+1)from by omega]
  | false =>
   rw[hlt,cond_false]at hst
   rw[C0 hst,if_neg (by simp)];rfl
theorem z3f {α:Type} (x y:α) (r:List α):∀ (l:List α),(l++x::r).set l.length y=l++y::r
 | []=>rfl
 | a::l=>by
  show a::((l++x::r).set l.length y)=_
  rw[z3f x y r l];rfl
theorem j11 {v:Rw} {o:List Rw} {q:Nat} (hl:o.length<=3000000000000):∀ (d:Nat),q+d<=o.length ->
  A3 (q0z ((q:Int),())) (((q+d:Nat):Int),(o++[v]).take (q+d+1)++o.drop (q+d),())=some (.inl ((o++[v]).take (q+1)++o.drop q,()))
 | 0,h=>by
  refine C0 ?_
  unfold q0z
  simp only[dcF (show ¬ ((q+0:Nat):Int)>(q:Int)by omega),cond_false]
  rfl
 | d+1,h=>by
  have hn:(o++[v]).length=o.length+1:=by simp
  have hlen:((o++[v]).take (q+(d+1)+1)++o.drop (q+(d+1))).length=o.length+1:=by
   rw[List.length_append,List.length_take,List.length_drop,hn];omega
  have hsplit:(o++[v]).take (q+(d+1)+1)=(o++[v]).take (q+(d+1))++[(o++[v])[q+(d+1)]'(by omega)]:=List.take_succ_eq_append_getElem (by omega)
  have htl:((o++[v]).take (q+(d+1))).length=q+(d+1):=by rw[List.length_take,hn];omega
  have g1:((o++[v]).take (q+(d+1)+1)++o.drop (q+(d+1)))[q+d]? = some (o[q+d]'(by omega)):=by
   rw[List.getElem?_append_left (by rw[List.length_take,hn];omega),List.getElem?_take_of_lt (by omega),List.getElem?_append_left (by omega),List.getElem?_eq_getElem (by omega)]
  have g2:∃ w,((o++[v]).take (q+(d+1)+1)++o.drop (q+(d+1)))[q+(d+1)]? = some w:=⟨_,List.getElem?_eq_getElem (by omega)⟩
  obtain⟨w,g2⟩:=g2
  have hset:((o++[v]).take (q+(d+1)+1)++o.drop (q+(d+1))).set (q+(d+1)) (o[q+d]'(by omega))=(o++[v]).take (q+d+1)++o.drop (q+d):=by
   rw[hsplit,List.append_assoc]
   have:=z3f ((o++[v])[q+(d+1)]'(by omega)) (o[q+d]'(by omega)) (o.drop (q+(d+1))) ((o++[v]).take (q+(d+1)))
   rw[htl]at this
   show((o++[v]).take (q+(d+1))++_::o.drop (q+(d+1))).set _ _=_
   rw[this,List.drop_eq_getElem_cons (show q+d<o.length by omega)];rfl
  have hw:IntKind.i64.wrap (((q+(d+1):Nat):Int)-1)=((q+d:Nat):Int):=by
   rw[D7 (by omega) (by omega)];omega
  rw[H4 (s':=(((q+d:Nat):Int),(o++[v]).take (q+d+1)++o.drop (q+d),())) (by
   unfold q0z
   simp only[dcT (show((q+(d+1):Nat):Int)>(q:Int)by omega),cond_true,hw,hlen,Q4 (show q+d<o.length+1 by omega),Q4 (show q+(d+1)<o.length+1 by omega),Int.toNat_natCast,g1,g2,Option.bind_some,hset])]
  exact j11 hl d (by omega)
theorem j7f:z9h=q0z:=rfl
theorem j7g:z9i=q0z:=rfl
theorem z2q {v:Rw} {o:List Rw} (hl:o.length<=3000000000000) {q:Nat} (hq:q<=o.length) {β:Type} (K:List Rw->Option β) :
  (A3 (q0z ((q:Int),())) ((IntKind.i64.wrap (((o++[v]).length:Int)-(1:Int))),(o++[v]),())).bind (Sum.elim (fun z14=>(cond (inB (q:Int) z14.1.length) ((z14.1[((q:Nat):Int).toNat]?).bind fun _=>K (z14.1.set (((q:Nat):Int).toNat) v)) none)) Empty.elim)=K (o.take q++v::o.drop q):=by
 have hn:(o++[v]).length=o.length+1:=by simp
 have hw:IntKind.i64.wrap (((o++[v]).length:Int)-1)=((q+(o.length-q):Nat):Int):=by
  rw[hn,D7 (by omega) (by omega)];omega
 have hs:=j11 (v:=v) hl (o.length-q) (q:=q) (by omega)
 rw[show q+(o.length-q)=o.length from by omega,List.take_of_length_le (by omega),List.drop_of_length_le (Nat.le_refl _),List.append_nil]at hs
 rw[hw,show q+(o.length-q)=o.length from by omega,hs]
 have hlen:((o++[v]).take (q+1)++o.drop q).length=o.length+1:=by
  rw[List.length_append,List.length_take,List.length_drop,hn];omega
 have hsplit:(o++[v]).take (q+1)=o.take q++[(o++[v])[q]'(by omega)]:=by
  rw[List.take_succ_eq_append_getElem (by omega),List.take_append_of_le_length hq]
 have hset:((o++[v]).take (q+1)++o.drop q).set q v=o.take q++v::o.drop q:=by
  rw[hsplit,List.append_assoc]
  have:=z3f ((o++[v])[q]'(by omega)) v (o.drop q) (o.take q)
  rw[List.length_take,show min q o.length=q from by omega]at this
  exact this
 obtain⟨w,g⟩:∃ w,((o++[v]).take (q+1)++o.drop q)[q]? = some w:=⟨_,List.getElem?_eq_getElem (by omega)⟩
 simp only[Option.bind_some,Sum.elim_inl,hlen,Q4 (show q<o.length+1 by omega),cond_true,Int.toNat_natCast,g,hset]
theorem j75 (o:List Rw) (r:Rw):(P5 o r).length<=o.length+1:=by
 rw[z1u]
 split
 ·rw[List.length_modify];omega
 ·rw[List.length_append,List.length_cons,List.length_take,List.length_drop];omega
theorem z38:∀ (l o:List Rw),(J7 l o).length<=o.length+l.length
 | [],o=>Nat.le_refl _
 | r::l,o=>by
  have h1:=z38 l (P5 o r)
  have h2:=j75 o r
  show(J7 l (P5 o r)).length<=_
  simp only[List.length_cons];omega
theorem z8m {α:Type} (f:α->α) (p:α):∀ (o:List α) (q:Nat),o[q]? = some p->o.modify q f=o.set q (f p)
 | [],q,h=>by simp at h
 | a::o,0,h=>by simp at h;subst h;rfl
 | a::o,q+1,h=>by
  show a::o.modify q f=a::o.set q (f p)
  rw[z8m f p o q (by simpa using h)]
theorem y0f {l:List Rw} {o:List Rw} {i:Nat} (hi:i<l.length) (hl:l.length<=3000000000000) (ho:o.length<=2999999999999):q2i (l,()) (o,(i:Int),())=some (.inl (P5 o l[i],((i+1:Nat):Int),())):=by
 have hq:=z99 o l[i]
 have hf:=z6r (n:=(i:Int)) (v:=l[i]) (o:=o) (by omega) o [] rfl
 rw[List.length_nil,Nat.zero_add]at hf
 have hf':A3 (q2h (o,(i:Int),()) l[i]) ((0:Int),())=some (.inl (((I7 o l[i]:Nat):Int),())):=hf
 have hroom:(true&&C1 (o.length+([l[i]]:List Rw).length) 24&&true&&true)=true:=by
  rw[show([l[i]]:List Rw).length=1 from rfl,q4y (by omega)];rfl
 unfold q2i
 simp only[dcT (show(i:Int)<(l.length:Int)by omega),cond_true,I2,List.getElem?_eq_getElem hi,Option.bind_some,hf',Sum.elim_inl,G8 (show i<9223372036854775807 by omega),j7f,j7g,hroom]
 rw[z1u]
 by_cases hlt:I7 o l[i]<o.length
 ·simp only[dcT (show((I7 o l[i]:Nat):Int)<(o.length:Int)by omega),cond_true,Q4 hlt,Int.toNat_natCast,List.getElem?_eq_getElem hlt,Option.bind_some]
  by_cases h1:o[I7 o l[i]].1=l[i].1
  ·by_cases h2:o[I7 o l[i]].2.1=l[i].2.1
   ·have hk:B1 o[I7 o l[i]]=B1 l[i]:=by unfold B1;rw[h1,h2]
    rw[if_pos ⟨_,rfl,hk⟩,z8m _ _ o _ (List.getElem?_eq_getElem hlt),Z0 h1,Z0 h2]
    rfl
   ·have hk:¬ ∃ p,some o[I7 o l[i]]=some p/\B1 p=B1 l[i]:=by
     rintro ⟨p,hp,hk⟩
     cases hp
     unfold B1 at hk
     simp only[Prod.mk.injEq]at hk
     exact h2 hk.2.1
    rw[if_neg hk,Z0 h1,W6 h2,cond_true,cond_false]
    have:=z2q (v:=l[i]) (by omega) hq (fun z=>(some (Sum.inl (z,((i+1:Nat):Int),())):Option ((List Rw×Int×Unit)⊕((List Rw×Unit)⊕Empty))))
    simp only[Int.toNat_natCast]at this
    exact this
  ·have hk:¬ ∃ p,some o[I7 o l[i]]=some p/\B1 p=B1 l[i]:=by
    rintro ⟨p,hp,hk⟩
    cases hp
    unfold B1 at hk
    simp only[Prod.mk.injEq]at hk
    exact h1 hk.1
   rw[if_neg hk,W6 h1,cond_false]
   have:=z2q (v:=l[i]) (by omega) hq (fun z=>(some (Sum.inl (z,((i+1:Nat):Int),())):Option ((List Rw×Int×Unit)⊕((List Rw×Unit)⊕Empty))))
   simp only[Int.toNat_natCast]at this
   exact this
 ·have hnone:o[I7 o l[i]]? = none:=List.getElem?_eq_none (by omega)
  simp only[dcF (show ¬ ((I7 o l[i]:Nat):Int)<(o.length:Int)by omega),cond_false,hnone]
  rw[if_neg (by rintro ⟨p,hp,-⟩;cases hp)]
  have:=z2q (v:=l[i]) (by omega) hq (fun z=>(some (Sum.inl (z,((i+1:Nat):Int),())):Option ((List Rw×Int×Unit)⊕((List Rw×Unit)⊕Empty))))
  simp only[Int.toNat_natCast]at this
  exact this
theorem y0k (l:List Rw) {i:Nat} (h:i<l.length):J7 (l.take (i+1)) []=P5 (J7 (l.take i) []) l[i]:=by
 rw[List.take_succ_eq_append_getElem h]
 unfold J7
 rw[List.foldl_append];rfl
theorem j6h {o:List Rw} {i:Nat} (h:i<o.length):(o.take (i+1)).filter nzB=(o.take i).filter nzB++(if nzB o[i]=true then [o[i]]else []):=by
 rw[List.take_succ_eq_append_getElem h,List.filter_append]
 congr 1
 by_cases hz:nzB o[i]=true
 ·rw[if_pos hz,List.filter_cons_of_pos hz];rfl
 ·rw[if_neg hz,List.filter_cons_of_neg hz];rfl
theorem y02 {l:List Rw} (hl:l.length<=2900000000000):q7e (l,())=some ((J7 l []).filter nzB,()):=by
 have h1:=q6x (f:=q2i (l,())) l.length (fun i=>J7 (l.take i) []) (.inl (J7 l [],())) (fun i hi=>by
  have hlen:=z38 (l.take i) []
  rw[List.length_take,List.length_nil]at hlen
  rw[y0f hi (by omega) (by omega),y0k l hi]) (by
  unfold q2i
  simp only[dcF (show ¬ (l.length:Int)<(l.length:Int)by omega),cond_false,List.take_length])
 have hlen:=z38 l []
 rw[List.length_nil]at hlen
 have h2:=q6x (f:=q4g (J7 l [],())) (J7 l []).length (fun i=>((J7 l []).take i).filter nzB) (.inl ((J7 l []).filter nzB,())) (fun i hi=>by
  have hfl:=List.length_filter_le nzB ((J7 l []).take i)
  rw[List.length_take]at hfl
  unfold q4g
  rw[j6h hi]
  simp only[dcT (show(i:Int)<((J7 l []).length:Int)by omega),cond_true,Q4 hi,Int.toNat_natCast,List.getElem?_eq_getElem hi,Option.bind_some,G8 (show i<9223372036854775807 by omega),show ∀ x:Rw,([x]:List Rw).length=1 from fun _=>rfl,q4y (show(((J7 l []).take i).filter nzB).length+1<=4000000000000 by omega),Bool.and_true]
  unfold nzB
  cases((J7 l [])[i].2.2.1 != 0)with
  | true=>rfl
  | false=>simp only[cond_false,Bool.false_eq_true,if_false,List.append_nil]) (by
  unfold q4g
  simp only[dcF (show ¬ ((J7 l []).length:Int)<((J7 l []).length:Int)by omega),cond_false,List.take_length])
 unfold q7e
 have h1':A3 (q2i (l,())) (([]:List Rw),(0:Int),())=_:=h1
 have h2':A3 (q4g (J7 l [],())) (([]:List Rw),(0:Int),())=_:=h2
 rw[h1']
 simp only[Option.bind_some,Sum.elim_inl]
 rw[h2']
 simp only[Option.bind_some,Sum.elim_inl]
theorem j9q (a b:List Rw) (n:Int) (ha:a.length<=1500000000000) (hb:b.length<=1500000000000):q7l (a,n,b,())=some (a++b.map (sc n),()):=by
 have h1:=q6x (f:=q4l (a,n,b,())) a.length (fun i=>a.take i) (.inl (a,())) (fun i hi=>by
  unfold q4l
  rw[List.take_succ_eq_append_getElem hi]
  have hlen:(a.take i).length=i:=by rw[List.length_take];omega
  simp only[dcT (show(i:Int)<(a.length:Int)by omega),cond_true,I2,List.getElem?_eq_getElem hi,Option.bind_some,G8 (show i<9223372036854775807 by omega),show ∀ x:Rw,([x]:List Rw).length=1 from fun _=>rfl,hlen,q4y (show i+1<=4000000000000 by omega),Bool.and_true]) (by
  unfold q4l
  simp only[dcF (show ¬ (a.length:Int)<(a.length:Int)by omega),cond_false,List.take_length])
 have h2:=q6x (f:=q4m (a,n,b,())) b.length (fun i=>a++(b.take i).map (sc n)) (.inl (a++b.map (sc n),())) (fun i hi=>by
  unfold q4m
  rw[List.take_succ_eq_append_getElem hi,List.map_append,<-List.append_assoc]
  have hlen:(a++(b.take i).map (sc n)).length=a.length+i:=by rw[List.length_append,List.length_map,List.length_take];omega
  simp only[dcT (show(i:Int)<(b.length:Int)by omega),cond_true,I2,List.getElem?_eq_getElem hi,Option.bind_some,G8 (show i<9223372036854775807 by omega),show ∀ x:Rw,([x]:List Rw).length=1 from fun _=>rfl,hlen,q4y (show a.length+i+1<=4000000000000 by omega),Bool.and_true]
  rfl) (by
  unfold q4m
  simp only[dcF (show ¬ (b.length:Int)<(b.length:Int)by omega),cond_false,List.take_length])
 unfold q7l
 have h1':A3 (q4l (a,n,b,())) (([]:List Rw),(0:Int),())=_:=h1
 have h2':A3 (q4m (a,n,b,())) (a,(0:Int),())=some (.inl (a++b.map (sc n),())):=by
  have:=h2
  simp only[List.take_zero,List.map_nil,List.append_nil]at this
  exact this
 rw[h1']
 simp only[Option.bind_some,Sum.elim_inl]
 rw[h2']
 simp only[Option.bind_some,Sum.elim_inl]
end

section
open Go Go.Abs

theorem z6t {β:Type} (p:Nat->Bool) (g:Nat->β) (l:List Nat):(l.findSome? fun i=>cond (p i) (some (g i)) none)=(l.find? p).map g:=by
 induction l with
 | nil=>rfl
 | cons a r ih =>
  rw[List.findSome?_cons,List.find?_cons]
  cases p a with
  | true=>rfl
  | false=>exact ih
theorem j6i {p:Nat->Bool} {n:Nat} (h:(List.range n).find? p=none):∀ i,i<n->p i=false:=fun i hi=>by
 have:=List.find?_eq_none.1 h i (List.mem_range.2 hi)
 simpa using this
theorem z6s {β:Type} (p:Nat->Bool) (b:β) (l:List Nat):(l.findSome? fun r=>cond (p r) (some b) none)=if l.any p=true then some b else none:=by
 induction l with
 | nil=>rfl
 | cons a r ih =>
  rw[List.findSome?_cons,List.any_cons]
  cases p a with
  | true=>rfl
  | false=>rw[cond_false,ih];simp
theorem q23 {α:Type} {l:List α} {i:Int} (d:α) (h0:0<=i) (h1:i<l.length):A9 l i=some (l.getD i.toNat d):=by
 obtain⟨k,rfl⟩:=Int.eq_ofNat_of_zero_le h0
 rw[I2]
 rw[Int.toNat_natCast]
 exact j6r (by omega)
theorem J5 {α:Type} {l:List α} {i:Nat} (h:i<l.length):A9 l (i:Int)=some l[i]:=by
 rw[I2,List.getElem?_eq_getElem h]
theorem O5 {n k:Nat} (h:n<=140737488355328) (h2:n*k<=140737488355328):C1 n k=true:=by
 unfold C1
 rw[Bool.and_eq_true]
 exact⟨Nat.ble_eq_true_of_le h,Nat.ble_eq_true_of_le h2⟩
end

section
open Go Go.Abs

abbrev Op3:=Int×Int×Int×Unit
theorem j4x (l l':List Rw) (m:Bg):E9 (l++l') m=E9 l' (E9 l m):=List.foldl_append
section
variable {op:Op3} {m:Bg} {R:List Rw}
end
theorem j3g (a b:Int):W (W a+b)=W (a+b):=by unfold W;rw[IntKind.wrap_i64,IntKind.wrap_i64,IntKind.wrap_i64];omega
theorem j3h (a b:Int):W (a+W b)=W (a+b):=by unfold W;rw[IntKind.wrap_i64,IntKind.wrap_i64,IntKind.wrap_i64];omega
theorem q93:W 0=0:=by decide
section
variable {op:Op3} {m0:Bg} {R:List Rw}
end
end

section
open Go Go.Abs

def bad (v:Int):Bool:=decide (v<0)||decide (v>1048576)
theorem z4p {β:Type} (v:Int) (b:β) (s:Int×Unit):(cond (decide (v<(0:Int))) (some (Sum.inr b)) (cond (decide (v>(1048576:Int))) (some (Sum.inr b)) (some (Sum.inl s))):Option ((Int×Unit)⊕β))=some (if bad v=true then .inr b else .inl s):=by
 unfold bad
 by_cases h1:v<0
 ·simp[h1]
 ·by_cases h2:v>1048576
  ·simp[h1,h2]
  ·simp[h1,h2]
theorem j4u {v:Int} (h:bad v=false):0<=v/\v<=1048576:=by
 unfold bad at h
 simp at h
 omega
end

section
open Go Go.Abs

def chk (l:List Int):Int:=if l.length=0\/l.length>4 then 1 else if l.any bad=true then 2 else 0
theorem q5p {l:List Int} (h:chk l=0):0<l.length/\l.length<=4/\∀ (i:Nat) (v:Int),l[i]? = some v->0<=v/\v<=1048576:=by
 unfold chk at h
 split at h
 ·cases h
 ·split at h
  ·cases h
  ·rename_i h1 h2
   refine⟨by omega,by omega,fun i v hi=>j4u ?_⟩
   have hm:=List.mem_of_getElem? hi
   cases hb:bad v with
   | false=>rfl
   | true=>exact absurd (List.any_eq_true.2 ⟨v,hm,hb⟩) h2
theorem y40 (l:List Int) (hl:l.length<=4):A3 (q8k (l,())) (0,())=some (if l.any bad=true then Sum.inl (2,())else Sum.inr (Sum.inl ())):=by
 refine z87 l bad (Sum.inl (2,())) (Sum.inr (Sum.inl ())) (fun i v hi=>?_) ?_
 ·have hlt:=(List.getElem?_eq_some_iff.1 hi).1
  have hi':((i:Int)<(l.length:Int)):=by omega
  unfold q8k
  simp only[hi',decide_true,cond_true,I2,hi,Option.bind_some]
  rw[D7 (by omega) (by omega)]
  exact z4p v _ _
 ·simp[q8k]
theorem y05 (l:List Int) (hl:l.length<=4):A3 (q7m (l,())) (0,())=some (if l.any bad=true then Sum.inl (2,())else Sum.inr (Sum.inl ())):=by
 refine z87 l bad (Sum.inl (2,())) (Sum.inr (Sum.inl ())) (fun i v hi=>?_) ?_
 ·have hlt:=(List.getElem?_eq_some_iff.1 hi).1
  have hi':((i:Int)<(l.length:Int)):=by omega
  unfold q7m
  simp only[hi',decide_true,cond_true,I2,hi,Option.bind_some]
  rw[D7 (by omega) (by omega)]
  exact z4p v _ _
 ·simp[q7m]
theorem y3z (l:List Int):q8j (l,())=some (chk l,()):=by
 unfold q8j chk
 by_cases h0:l.length=0
 ·simp[h0]
 ·by_cases h4:l.length>4
  ·have:((l.length:Int)>4):=by omega
   simp[h0,h4,this]
  ·have h5:¬ ((l.length:Int)>4):=by omega
   have h6:((l.length:Int)==0)=false:=by simp;exact fun h=>h0 (by simp[h])
   simp only[h6,cond_false,h5,decide_false]
   have hn:¬ (l.length=0\/l.length>4):=by omega
   rw[y40 l (by omega),if_neg hn]
   split<;>rfl
theorem z9j (l:List Int):q10 (l,())=some (chk l,()):=by
 unfold q10 chk
 by_cases h0:l.length=0
 ·simp[h0]
 ·have h6:¬ ((l.length:Int)<1):=by omega
  by_cases h4:l.length>4
  ·have:((l.length:Int)>4):=by omega
   simp[h4,this,h6]
  ·have h5:¬ ((l.length:Int)>4):=by omega
   simp only[h6,cond_false,h5,decide_false]
   have hn:¬ (l.length=0\/l.length>4):=by omega
   rw[y05 l (by omega),if_neg hn]
   split<;>rfl
end

section
open Go Go.Abs

def C8:List Int->List Int->Int
 | [],[]=>0
 | [],_::_=>-1
 | _::_,[]=>1
 | a::r,b::s=>if a<b then -1 else if a>b then 1 else C8 r s
theorem cmpL_eq:∀ {a b:List Int},C8 a b=0↔a=b
 | [],[]=>by simp[C8]
 | [],_::_=>by simp[C8]
 | _::_,[]=>by simp[C8]
 | a::r,b::s=>by
  have ih:=cmpL_eq (a:=r) (b:=s)
  simp only[C8,List.cons.injEq]
  split
  ·constructor
   ·intro h;omega
   ·intro h;omega
  ·split
   ·constructor
    ·intro h;omega
    ·intro h;omega
   ·rw[ih];constructor
    ·intro h;exact⟨by omega,h⟩
    ·exact fun h=>h.2
theorem q9m:∀ (a b:List Int),C8 b a=- C8 a b
 | [],[]=>rfl
 | [],_::_=>rfl
 | _::_,[]=>rfl
 | a::r,b::s=>by
  have ih:=q9m r s
  simp only[C8]
  by_cases h1:a<b
  ·rw[if_pos h1,if_neg (by omega),if_pos (by omega)];rfl
  ·by_cases h2:a>b
   ·rw[if_pos (show b<a from h2),if_neg h1,if_pos h2]
   ·rw[if_neg h1,if_neg h2,if_neg (by omega),if_neg (by omega),ih]
theorem q3e:∀ {a b c:List Int},C8 a b<0->C8 b c<0->C8 a c<0
 | [],[],c,h,_=>by simp[C8]at h
 | [],_::_,[],_,h=>by simp[C8]at h
 | [],_::_,_::_,_,_=>by simp[C8]
 | _::_,[],_,h,_=>by simp[C8]at h
 | _::_,_::_,[],_,h=>by simp[C8]at h
 | a::r,b::s,c::t,h1,h2=>by
  simp only[C8]at h1 h2 ⊢
  have ih:=q3e (a:=r) (b:=s) (c:=t)
  by_cases hab:a<b
  ·by_cases hbc:b<c
   ·rw[if_pos (by omega)];decide
   ·rw[if_neg hbc]at h2
    by_cases hbc2:b>c
    ·rw[if_pos hbc2]at h2;omega
    ·rw[if_pos (by omega)];decide
  ·rw[if_neg hab]at h1
   by_cases hab2:a>b
   ·rw[if_pos hab2]at h1;omega
   ·rw[if_neg hab2]at h1
    by_cases hbc:b<c
    ·rw[if_pos (by omega)];decide
    ·rw[if_neg hbc]at h2
     by_cases hbc2:b>c
     ·rw[if_pos hbc2]at h2;omega
     ·rw[if_neg hbc2]at h2
      rw[if_neg (by omega),if_neg (by omega)]
      exact ih h1 h2
theorem Z3 (a:List Int):¬ C8 a a<0:=by rw[cmpL_eq.2 rfl];decide
theorem j5i (v w:Int):q5s (v,w,())=some (if v<w then -1 else if v>w then 1 else 0,()):=by
 unfold q5s q5u
 simp only[N2 rfl,Option.bind_some,cond_false,q9p]
 split
 ·rfl
 ·split<;>rfl
theorem y3a {a b:List Int} (ha:a.length<=1000000):q8b (a,b,())=some (C8 a b,()):=by
 have key:∀ k i,i+k=a.length->i<=b.length->(A3 (q16 (a,b,())) ((i:Int),())).bind (Sum.elim (fun z5=>(some z5)) (Sum.elim (fun z6=>(cond (decide ((a.length:Int)<(b.length:Int))) (some ((-1:Int),())) (some ((0:Int),())))) Empty.elim))=some (C8 (a.drop i) (b.drop i),()):=by
  intro k
  induction k with
  | zero =>
   intro i hi hb
   have hi':i=a.length:=by omega
   rw[C0 (b:=.inr (.inl ())) (by
    unfold q16
    simp only[dcF (show ¬ (i:Int)<(a.length:Int)by omega),cond_false])]
   rw[List.drop_of_length_le (by omega)]
   simp only[Option.bind_some,Sum.elim_inl,Sum.elim_inr,q9p]
   by_cases hlt:i<b.length
   ·rw[List.drop_eq_getElem_cons hlt,if_pos (by omega)];rfl
   ·rw[List.drop_of_length_le (by omega),if_neg (by omega)];rfl
  | succ k ih =>
   intro i hi hb
   have hia:i<a.length:=by omega
   by_cases hib:i<b.length
   ·have hst:q16 (a,b,()) ((i:Int),())=cond (C8 [a[i]] [b[i]] != 0) (some (.inr (.inl (C8 [a[i]] [b[i]],())))) (some (.inl (((i+1:Nat):Int),()))):=by
     unfold q16
     simp only[dcT (show(i:Int)<(a.length:Int)by omega),dcF (show ¬ (i:Int)≥(b.length:Int)by omega),cond_true,cond_false,J5 hia,J5 hib,Option.bind_some,j5i,G8 (show i<9223372036854775807 by omega)]
     rfl
    rw[List.drop_eq_getElem_cons hia,List.drop_eq_getElem_cons hib]
    by_cases h1:a[i]<b[i]
    ·have hc:C8 [a[i]] [b[i]]=-1:=by simp only[C8,if_pos h1]
     rw[hc]at hst
     rw[C0 hst];simp only[C8,if_pos h1];rfl
    ·by_cases h2:a[i]>b[i]
     ·have hc:C8 [a[i]] [b[i]]=1:=by simp only[C8,if_neg h1,if_pos h2]
      rw[hc]at hst
      rw[C0 hst];simp only[C8,if_neg h1,if_pos h2];rfl
     ·have hc:C8 [a[i]] [b[i]]=0:=by simp only[C8,if_neg h1,if_neg h2]
      rw[hc]at hst
      rw[H4 hst,ih (i+1) (by omega) (by omega)]
      simp only[C8,if_neg h1,if_neg h2]
   ·have hst:q16 (a,b,()) ((i:Int),())=some (.inr (.inl ((1:Int),()))):=by
     unfold q16
     simp only[dcT (show(i:Int)<(a.length:Int)by omega),dcT (show(i:Int)≥(b.length:Int)by omega),cond_true,J5 hia,Option.bind_some]
    rw[C0 hst,List.drop_eq_getElem_cons hia,List.drop_of_length_le (l:=b) (show b.length<=i by omega)]
    rfl
 unfold q8b
 exact key a.length 0 (by omega) (by omega)
def q29 (a b:List Int):Bool:=decide (a.length=b.length)&&(decide (chk a=0)&&(decide (chk b=0)&&decide (C8 a b<0)))
theorem j7k {a b:List Int} (h:a.length=b.length) (ha:chk a=0) (hb:chk b=0):q29 a b=decide (C8 a b<0):=by
 unfold q29
 rw[decide_eq_true h,decide_eq_true ha,decide_eq_true hb];rfl
theorem y06 (a b:List Int):q7n (a,b,())=some (q29 a b,()):=by
 unfold q7n q29
 simp only[z9j,Option.bind_some,q0n]
 by_cases h:a.length=b.length
 ·rw[if_pos (by omega),decide_eq_true h]
  by_cases h2:chk a=0
  ·rw[if_pos h2,decide_eq_true h2]
   by_cases h3:chk b=0
   ·rw[if_pos h3,decide_eq_true h3]
    have h4:=(q5p h2).2.1
    have key:∀ k i,i+k=a.length->(A3 (q4n (a,b,())) ((i:Int),())).bind (Sum.elim (fun z8=>(some z8)) (Sum.elim (fun z9=>(some (false,()))) Empty.elim))=some (decide (C8 (a.drop i) (b.drop i)<0),()):=by
     intro k
     induction k with
     | zero =>
      intro i hi
      rw[C0 (b:=.inr (.inl ())) (by
       unfold q4n
       simp only[dcF (show ¬ (i:Int)<(a.length:Int)by omega),cond_false])]
      rw[List.drop_of_length_le (by omega),List.drop_of_length_le (by omega)];rfl
     | succ k ih =>
      intro i hi
      have hia:i<a.length:=by omega
      have hib:i<b.length:=by omega
      have hst:q4n (a,b,()) ((i:Int),())=cond (a[i] != b[i]) (some (.inr (.inl (decide (a[i]<b[i]),())))) (some (.inl (((i+1:Nat):Int),()))):=by
       unfold q4n
       simp only[dcT (show(i:Int)<(a.length:Int)by omega),cond_true,J5 hia,J5 hib,Option.bind_some,G8 (show i<9223372036854775807 by omega)]
      rw[List.drop_eq_getElem_cons hia,List.drop_eq_getElem_cons hib]
      by_cases he:a[i]=b[i]
      ·rw[N2 he,cond_false]at hst
       rw[H4 hst,ih (i+1) (by omega)]
       simp only[C8,if_neg (show ¬ a[i]<b[i]by omega),if_neg (show ¬ a[i]>b[i]by omega)]
      ·rw[T3 he,cond_true]at hst
       rw[C0 hst]
       by_cases h1:a[i]<b[i]
       ·simp only[C8,if_pos h1,decide_eq_true h1];rfl
       ·simp only[C8,if_neg h1,if_pos (show a[i]>b[i]by omega),decide_eq_false h1];rfl
    exact key a.length 0 (by omega)
   ·rw[if_neg h3,decide_eq_false h3];rfl
  ·rw[if_neg h2,decide_eq_false h2];rfl
 ·rw[if_neg (by omega),decide_eq_false h];rfl
theorem z2x {a b:List Int} (ha:a.length<=1000000):q2j (a,b,())=some (decide (a=b),()):=by
 unfold q2j
 simp only[q0n]
 by_cases h:a.length=b.length
 ·rw[if_pos (by omega)]
  have key:∀ k i,i+k=a.length->(A3 (q4o (a,b,())) ((i:Int),())).bind (Sum.elim (fun z8=>(some z8)) (Sum.elim (fun z9=>(some (true,()))) Empty.elim))=some (decide (a.drop i=b.drop i),()):=by
   intro k
   induction k with
   | zero =>
    intro i hi
    rw[C0 (b:=.inr (.inl ())) (by
     unfold q4o
     simp only[dcF (show ¬ (i:Int)<(a.length:Int)by omega),cond_false])]
    rw[List.drop_of_length_le (by omega),List.drop_of_length_le (by omega)];rfl
   | succ k ih =>
    intro i hi
    have hia:i<a.length:=by omega
    have hib:i<b.length:=by omega
    have hst:q4o (a,b,()) ((i:Int),())=cond (a[i] != b[i]) (some (.inr (.inl (false,())))) (some (.inl (((i+1:Nat):Int),()))):=by
     unfold q4o
     simp only[dcT (show(i:Int)<(a.length:Int)by omega),cond_true,J5 hia,J5 hib,Option.bind_some,G8 (show i<9223372036854775807 by omega)]
    rw[List.drop_eq_getElem_cons hia,List.drop_eq_getElem_cons hib]
    by_cases he:a[i]=b[i]
    ·rw[N2 he,cond_false]at hst
     rw[H4 hst,ih (i+1) (by omega)]
     exact congrArg (fun x=>some (x,())) (decide_eq_decide.2 (by rw[List.cons.injEq];exact⟨fun h=>⟨he,h⟩,fun h=>h.2⟩))
    ·rw[T3 he,cond_true]at hst
     rw[C0 hst]
     rw[decide_eq_false (fun h=>he (List.cons.inj h).1)];rfl
  exact key a.length 0 (by omega)
 ·rw[if_neg (by omega),decide_eq_false (fun e=>h (by rw[e]))]
end

section
open Go Go.Abs

def q0g (l:List (List Int)):Int :=
 if 64<l.length then 1 else(((List.range l.length).find? fun i=>chk (l.getD i []) != 0).map fun i=>chk (l.getD i [])).getD (if((List.range l.length).any fun i=>((l.getD i []).length:Int) != ((l.getD 0 []).length:Int))=true then 3 else 0)
theorem y41 (l:List (List Int)):q8l (l,())=some (q0g l,()):=by
 unfold q8l q0g
 by_cases h:64<l.length
 ·rw[dcT (show(l.length:Int)>64 by omega),cond_true,if_pos h]
 rw[dcF (show ¬ (l.length:Int)>64 by omega),cond_false,if_neg h]
 have k1:=q6w (f:=q8m (l,())) l.length (fun i=>((i:Int),())) (fun i=>cond (chk (l.getD i []) != 0) (some (chk (l.getD i []),())) none) (.inl ()) (fun i hi=>by
  unfold q8m
  simp only[dcT (show(i:Int)<(l.length:Int)by omega),cond_true,q23 [] (Int.natCast_nonneg i) (show(i:Int)<(l.length:Int)by omega),Int.toNat_natCast,Option.bind_some,y3z]
  rw[G8 (by omega)]
  cases chk (l.getD i []) != 0<;>rfl) (by
  unfold q8m
  simp only[dcF (show ¬ (l.length:Int)<(l.length:Int)by omega),cond_false]) (s0:=((0:Int),())) rfl
 have k2:=q6w (f:=q8n (l,())) l.length (fun i=>((i:Int),())) (fun i=>cond (((l.getD i []).length:Int) != ((l.getD 0 []).length:Int)) (some ((3:Int),())) none) (.inl ()) (fun i hi=>by
  unfold q8n
  simp only[dcT (show(i:Int)<(l.length:Int)by omega),cond_true,q23 [] (Int.natCast_nonneg i) (show(i:Int)<(l.length:Int)by omega),q23 [] (show(0:Int)<=0 by omega) (show(0:Int)<(l.length:Int)by omega),Int.toNat_natCast,Option.bind_some]
  rw[G8 (by omega)]
  show(cond (((l.getD i []).length:Int) != ((l.getD 0 []).length:Int)) _ _)=_
  cases((l.getD i []).length:Int) != ((l.getD 0 []).length:Int)<;>rfl) (by
  unfold q8n
  simp only[dcF (show ¬ (l.length:Int)<(l.length:Int)by omega),cond_false]) (s0:=((0:Int),())) rfl
 rw[z6t (fun i=>chk (l.getD i []) != 0) fun i=>(chk (l.getD i []),())]at k1
 rw[z6s]at k2
 rw[k1]
 cases(List.range l.length).find? fun i=>chk (l.getD i []) != 0 with
 | some i=>rfl
 | none =>
  simp only[Option.map_none,z6l,Option.bind_some,Sum.elim_inr,Sum.elim_inl,k2,Option.getD_none]
  split<;>rfl
theorem y07 (l:List (List Int)):q7o (l,())=some (q0g l,()):=by
 unfold q7o q0g
 by_cases h:64<l.length
 ·rw[dcT (show(l.length:Int)>64 by omega),cond_true,if_pos h]
 rw[dcF (show ¬ (l.length:Int)>64 by omega),cond_false,if_neg h]
 have k1:=q6w (f:=q7p (l,())) l.length (fun i=>((i:Int),())) (fun i=>cond (chk (l.getD i []) != 0) (some (chk (l.getD i []),())) none) (.inl ()) (fun i hi=>by
  unfold q7p
  simp only[dcT (show(i:Int)<(l.length:Int)by omega),cond_true,q23 [] (Int.natCast_nonneg i) (show(i:Int)<(l.length:Int)by omega),Int.toNat_natCast,Option.bind_some,z9j]
  rw[G8 (by omega)]
  cases chk (l.getD i []) != 0<;>rfl) (by
  unfold q7p
  simp only[dcF (show ¬ (l.length:Int)<(l.length:Int)by omega),cond_false]) (s0:=((0:Int),())) rfl
 have k2:=q6w (f:=q7q (l,())) l.length (fun i=>((i:Int),())) (fun i=>cond (((l.getD i []).length:Int) != ((l.getD 0 []).length:Int)) (some ((3:Int),())) none) (.inl ()) (fun i hi=>by
  unfold q7q
  simp only[dcT (show(i:Int)<(l.length:Int)by omega),cond_true,q23 [] (Int.natCast_nonneg i) (show(i:Int)<(l.length:Int)by omega),q23 [] (show(0:Int)<=0 by omega) (show(0:Int)<(l.length:Int)by omega),Int.toNat_natCast,Option.bind_some]
  rw[G8 (by omega)]
  show(cond (((l.getD i []).length:Int) != ((l.getD 0 []).length:Int)) _ _)=_
  cases((l.getD i []).length:Int) != ((l.getD 0 []).length:Int)<;>rfl) (by
  unfold q7q
  simp only[dcF (show ¬ (l.length:Int)<(l.length:Int)by omega),cond_false]) (s0:=((0:Int),())) rfl
 rw[z6t (fun i=>chk (l.getD i []) != 0) fun i=>(chk (l.getD i []),())]at k1
 rw[z6s]at k2
 rw[k1]
 cases(List.range l.length).find? fun i=>chk (l.getD i []) != 0 with
 | some i=>rfl
 | none =>
  simp only[Option.map_none,z6l,Option.bind_some,Sum.elim_inr,Sum.elim_inl,k2,Option.getD_none]
  split<;>rfl
theorem y42 {l:List (List Int)} (h:q0g l=0):l.length<=64/\∀ t∈l,chk t=0/\t.length=(l.getD 0 []).length:=by
 unfold q0g at h
 split at h
 ·cases h
 rename_i h64
 cases hf:(List.range l.length).find? fun i=>chk (l.getD i []) != 0 with
 | some i =>
  rw[hf]at h
  have:=List.find?_some hf
  simp only[bne_iff_ne]at this
  exact absurd h this
 | none =>
  rw[hf]at h
  simp only[Option.map_none,Option.getD_none]at h
  split at h
  ·cases h
  ·rename_i ha
   refine⟨by omega,fun t ht=>?_⟩
   obtain⟨i,hi,rfl⟩:=List.mem_iff_getElem.1 ht
   have hg:l.getD i []=l[i]:=by rw[List.getD_eq_getElem?_getD,List.getElem?_eq_getElem hi];rfl
   have h1:=j6i hf i hi
   have h2:=List.any_eq_false.1 (Bool.eq_false_iff.2 ha) i (List.mem_range.2 hi)
   rw[hg]at h1 h2
   refine⟨by simpa using h1,?_⟩
   simp only[bne_iff_ne,ne_eq,Decidable.not_not]at h2
   omega
end

section
open Go Go.Abs

theorem j5c {t:List Int} (h:t.length<=1000000):q8a (t,())=some (t,()):=by
 unfold q8a
 simp only[List.length_nil,Nat.zero_add,O5 (show t.length<=140737488355328 by omega) (show t.length*8<=140737488355328 by omega),Bool.and_true,cond_true,List.nil_append]
end

end Go.Proofs.Try
