/- The engine, part 11b: maps in memory: what is found, written, taken out. -/
import Derived.Test.YtppblbacbmebfaaGreatDoorAbsFun
import Derived.Test.YtppblbacbmebfaaGreatDoorAbsMapsP
import Derived.MapKept
namespace Go.Abs
open Go Go.RowKit
variable {P:Program} {L:Nat->Prop} {w0:World}
theorem q5c:∀ (t:Ty),(S0 t).length=t.size
 | .int _=>rfl
 | .bool=>rfl
 | .list _=>rfl
 | .map _ _ _ _=>rfl
 | .nil=>rfl
 | .cons a b=>by simp[S0,Ty.size,q5c a,q5c b]
theorem q74 {w w':World} {A A':Nat->Prop}:∀ (t:Ty),t.flat=true->∀ (get d:Nat->Option Value) (x y:t.den),RepAt w A t get x->RepAt w' A' t d y->∀ (c:Nat) (f:Bool),(S0 t)[c]? = some f->q07 f (get c) (d c)
 | .int k,_,get,d,x,y,h,g,c,f,e=>by
  cases c with
  | succ c=>grind[S0]
  | zero=>simp[S0]at e;subst e;exact⟨k,x,y,h,g⟩
 | .bool,_,get,d,x,y,h,g,c,f,e=>by
  cases c with
  | succ c=>grind[S0]
  | zero=>simp[S0]at e;subst e;exact⟨x,y,h,g⟩
 | .nil,_,_,_,_,_,_,_,c,_,e=>by grind[S0]
 | .list _,i,_,_,_,_,_,_,_,_,_=>by grind[Ty.flat]
 | .map _ _ _ _,i,_,_,_,_,_,_,_,_,_=>by grind[Ty.flat]
 | .cons a b,i,get,d,x,y,h,g,c,f,e=>by
  simp[Ty.flat,Bool.and_eq_true]at i
  simp[S0]at e
  by_cases j:c<a.size
  ·rw[List.getElem?_append_left (by rw[q5c];exact j)]at e
   exact q74 a i.1 get d x.1 y.1 h.1 g.1 c f e
  ·rw[List.getElem?_append_right (by rw[q5c];omega),q5c]at e
   have:=q74 b i.2 _ _ x.2 y.2 h.2 g.2 (c-a.size) f e
   rwa [show a.size+(c-a.size)=c from by omega]at this
theorem q51 {w w':World} {A A':Nat->Prop}:∀ (t:Ty),t.flat=true->∀ (get d:Nat->Option Value) (x y:t.den),RepAt w A t get x->RepAt w' A' t d y->(x=y↔∀ c,c<t.size->get c=d c)
 | .int k,_,get,d,x,y,h,f=>by
  have h:get 0=some (.int k x):=h
  have f:d 0=some (.int k y):=f
  grind[Ty.size]
 | .bool,_,get,d,x,y,h,f=>by
  have h:get 0=some (.bool x):=h
  have f:d 0=some (.bool y):=f
  grind[Ty.size]
 | .nil,_,_,_,_,_,_,_=>⟨fun _ c i=>by grind[Ty.size],fun _=>rfl⟩
 | .list _,g,_,_,_,_,_,_=>by grind[Ty.flat]
 | .map _ _ _ _,g,_,_,_,_,_,_=>by grind[Ty.flat]
 | .cons a b,g,get,d,x,y,h,f=>by
  simp[Ty.flat,Bool.and_eq_true]at g
  have n:=q51 a g.1 get d x.1 y.1 h.1 f.1
  have o:=q51 b g.2 _ _ x.2 y.2 h.2 f.2
  constructor
  ·intro e c i
   by_cases j:c<a.size
   ·exact n.1 (by rw[e]) c j
   ·have:=o.1 (by rw[e]) (c-a.size) (by simp[Ty.size]at i;omega)
    rwa [show a.size+(c-a.size)=c from by omega]at this
  ·intro m
   exact Prod.ext (n.2 fun c i=>m c (by simp[Ty.size];omega)) (o.2 fun c i=>m (a.size+c) (by simp[Ty.size];omega))
theorem RepAt.flatMono {w w':World} {A A':Nat->Prop}:∀ (t:Ty),t.flat=true->∀ (get:Nat->Option Value) (x:t.den),RepAt w A t get x->RepAt w' A' t get x
 | .int _,_,_,_,h=>h
 | .bool,_,_,_,h=>h
 | .nil,_,_,_,_=>trivial
 | .list _,c,_,_,_=>by grind[Ty.flat]
 | .map _ _ _ _,c,_,_,_=>by grind[Ty.flat]
 | .cons a b,c,get,x,h=>by
  simp[Ty.flat,Bool.and_eq_true]at c
  exact⟨RepAt.flatMono a c.1 get x.1 h.1,RepAt.flatMono b c.2 _ x.2 h.2⟩
theorem RepVal.flatMono {w w':World} {A A':Nat->Prop} {b:Bool} {a:Ty} (c:a.flat=true) {v:Value} {x:a.den} (h:RepVal w A b a v x):RepVal w' A' b a v x:=by
 cases b with
 | true=>obtain⟨e,i,g,d,f⟩:=h;exact⟨e,i,g,d,RepAt.flatMono a c _ x f⟩
 | false=>exact⟨h.1,h.2.1,RepAt.flatMono a c _ x h.2.2⟩
def z59 (P:Program) (em:Bool) (d:Nat) (t:TypeId) (l:List (Nat×Bool)):Prop :=
 ∀ (w:World) (xs:Array Value) (off:Nat),off+P.cellsOf t<=xs.size->(∀ o∈l,q07 o.2 xs[off+o.1]? xs[off+o.1]?) ->
  ∃ a,(part t xs off).run P w=.ok a w/\(Instr.checkKey em d t a).run P w=.ok () w
theorem j3m {m:Bool} {d:Nat} {g:TypeId->Option (List (Nat×Bool))} {n:Nat} (e:∀ t l,g t=some l->z59 P m d t l) (w:World) (xs:Array Value) (u:n<=xs.size):∀ (b:List Field) (l:List (Nat×Bool)),(∀ f∈b,f.name≠ "_") ->
  O9 g P.cellsOf n (b.map fun f=>(f.offset,f.type))=some l->(∀ o∈l,q07 o.2 xs[o.1]? xs[o.1]?) ->
  (forIn b PUnit.unit (fun(f:Field) (_:PUnit)=>(if f.name≠ "_" then do
    let a <-part f.type xs f.offset
    Instr.checkKey m d f.type a
    pure (ForInStep.yield PUnit.unit)
   else pure (ForInStep.yield PUnit.unit):Sem (ForInStep PUnit)))).run P w=.ok PUnit.unit w
 | [],l,_,h,_=>by simp
 | f::b,l,p,h,k=>by
  simp[List.map_cons,O9]at h
  split at h
  ·rename_i v q r s
   obtain⟨c,h⟩:=P0 h
   have c:=Nat.le_of_ble_eq_true c
   cases h
   obtain⟨a,x,y⟩:=e f.type v r w xs f.offset (by omega) (fun o j=>by
    rw[Nat.add_comm];exact k (o.1+f.offset,o.2) (List.mem_append_left _ (List.mem_map.2 ⟨o,j,rfl⟩)))
   have z:=j3m e w xs u b q (fun g e=>p g (List.mem_cons_of_mem _ e)) s (fun o j=>k o (List.mem_append_right _ j))
   simp_all
  grind
theorem j3n {m:Bool} {d:Nat} {g:TypeId->Option (List (Nat×Bool))} {n:Nat} (q:∀ t l,g t=some l->z59 P m d t l) {e:TypeId} {i:TypeInfo} (hi:P.info? e=some i) (w:World) (xs:Array Value) (v:n<=xs.size):∀ (c:List Nat) (l:List (Nat×Bool)),
  O9 g P.cellsOf n (c.map fun i=>(i*P.cellsOf e,e))=some l->(∀ o∈l,q07 o.2 xs[o.1]? xs[o.1]?) ->
  (forIn c PUnit.unit (fun(i:Nat) (_:PUnit)=>do
   Instr.checkKey m d e (<-part e xs (i*(<-sizeOf e)))
   pure (ForInStep.yield PUnit.unit):Nat->PUnit->Sem (ForInStep PUnit))).run P w=.ok PUnit.unit w
 | [],l,h,_=>by simp
 | j::c,l,h,p=>by
  simp[List.map_cons,O9]at h
  split at h
  ·rename_i z s x y
   obtain⟨b,h⟩:=P0 h
   have b:=Nat.le_of_ble_eq_true b
   cases h
   obtain⟨a,u,r⟩:=q e z x w xs (j*P.cellsOf e) (by omega) (fun o k=>by
    rw[Nat.add_comm];exact p (o.1+j*P.cellsOf e,o.2) (List.mem_append_left _ (List.mem_map.2 ⟨o,k,rfl⟩)))
   have A:=j3n q hi w xs v c s y (fun o k=>p o (List.mem_append_right _ k))
   simp only[List.forIn_cons,Sem.run_bind,run_sizeOf w hi,Result.andThen_ok,u,r,Sem.run_pure]
   omega
  grind
theorem z5z (A:Bool) (d:Nat):∀ (n:Nat) (t:TypeId) (l:List (Nat×Bool)),q0h P n t=some l->z59 P A (d+n) t l
 | 0,_,_,h=>by grind[q0h]
 | n+1,t,l,h=>by
  have F:∀ o∈l,o.1<P.cellsOf t:=(q6w 0 (n+1) t l h).1
  simp only[q0h]at h
  split at h
  ·rename_i c
   obtain⟨H,z⟩:=P0 h
   cases z
   intro w g a u p
   have r:=p (0,true) (by simp)
   simp[Nat.add_zero]at r
   obtain⟨x,y,s,E⟩:=r
   exact⟨.bool x,by simp[part,isAgg,run_underlying c,s],by simp[Instr.checkKey,run_underlying c]⟩
  ·rename_i k c
   obtain⟨H,z⟩:=P0 h
   cases z
   intro w g a u p
   have r:=p (0,false) (by simp)
   simp[Nat.add_zero]at r
   obtain⟨G,x,y,s,E⟩:=r
   exact⟨.int G x,by simp[part,isAgg,run_underlying c,s],by simp[Instr.checkKey,run_underlying c]⟩
  ·rename_i D c
   cases v:(P.stoodInHeld t||D.toList.any fun f=>f.name== "_")with
   | true=>grind
   | false =>
    rw[v,cond_false]at h
    simp only[Bool.or_eq_false_iff,List.any_eq_false,beq_iff_eq]at v
    have B:=fun t l h=>z5z A d n t l h
    intro w g a u p
    obtain⟨i,C⟩:=q58 c
    have j:P.cellsOf t<=(g.extract a (a+P.cellsOf t)).size:=by grind
    have q:=j3m B w (g.extract a (a+P.cellsOf t)) j D.toList l (fun f I=>v.2 f I) h (fun o J=>by
     grind)
    refine⟨.agg (g.extract a (a+P.cellsOf t)),by simp[part,isAgg,run_underlying c,run_sizeOf w C],?_⟩
    rw[show d+(n+1)=(d+n)+1 from rfl,Instr.checkKey]
    simp[Sem.run_bind,run_underlying c,Result.andThen_ok,<-Array.forIn_toList]
    simp_all
  ·rename_i k e c
   obtain⟨m,h⟩:=P0 h
   obtain⟨K,m⟩:=Option.isSome_iff_exists.1 m
   have B:=fun t l h=>z5z A d n t l h
   intro w g a u p
   obtain⟨i,C⟩:=q58 c
   have j:P.cellsOf t<=(g.extract a (a+P.cellsOf t)).size:=by grind
   have q:=j3n B m w (g.extract a (a+P.cellsOf t)) j (List.range k) l h (fun o J=>by
    grind)
   refine⟨.agg (g.extract a (a+P.cellsOf t)),by simp[part,isAgg,run_underlying c,run_sizeOf w C],?_⟩
   rw[show d+(n+1)=(d+n)+1 from rfl,Instr.checkKey]
   simp[Sem.run_bind,run_underlying c,Result.andThen_ok]
   simp[Std.Legacy.Range.forIn_eq_forIn_range',Std.Legacy.Range.size,Nat.sub_zero,Nat.add_one_sub_one,Nat.div_one,<-List.range_eq_range']
   simp_all
  grind
structure KeyTy (P:Program) (K:TypeId) (ak:Bool) (tk:Ty):Prop where
 flat:tk.flat=true
 chk:∀ em w w' A v x,RepVal w' A ak tk v x->(Instr.checkKey em 10000 K v).run P w=.ok () w
 find:∀ (w w':World) A v x (b:MapEntry->Bool) (es:List MapEntry),RepVal w' A ak tk v x->(∀ e∈es,∃ y,RepVal w' A ak tk e.key y/\b e=tk.eqb x y) ->
  (Instr.findKey K v es).run P w=.ok (es.findIdx? b |>.bind fun i=>es[i]?.map fun e=>(i,e.val)) w
 same:∀ w A v v' x,RepVal w A ak tk v x->RepVal w A ak tk v' x->Instr.sameBits 10000 v v'=true
theorem j4z {kind:TypeDesc} {v:Value} {b:MapEntry->Bool}:∀ (c:List MapEntry) (i:Nat),(∀ e∈c,Instr.sameNow kind v e.key=some (b e))->Instr.findNow kind v c i=some (c.findIdx? b |>.bind fun j=>c[j]?.map fun e=>(i+j,e.val))
 | [],i,_=>rfl
 | e::c,i,h=>by
  rw[Instr.findNow,h e List.mem_cons_self]
  cases d:b e with
  | true=>simp[List.findIdx?_cons,d]
  | false =>
   have k:=j4z c (i+1) (fun g f=>h g (List.mem_cons_of_mem _ f))
   simp[k,List.findIdx?_cons,d,Bool.false_eq_true,if_false]
   cases c.findIdx? b with
   | none=>rfl
   | some j=>simp[Option.bind_some,Option.map_some,List.getElem?_cons_succ];cases c[j]? <;> simp;omega
theorem j4y {K:TypeId} {w:World} {v:Value} {b:MapEntry->Bool}:∀ (a:List MapEntry) (i:Nat),(∀ e∈a,(Op.equal K v e.key).run P w=.ok (b e) w)->(Instr.findAsking K v a i).run P w=.ok (a.findIdx? b |>.bind fun j=>a[j]?.map fun e=>(i+j,e.val)) w
 | [],i,_=>rfl
 | e::a,i,h=>by
  rw[Instr.findAsking,Sem.run_bind,h e List.mem_cons_self,Result.andThen_ok]
  cases d:b e with
  | true=>simp[List.findIdx?_cons,d]
  | false =>
   have k:=j4y a (i+1) (fun g f=>h g (List.mem_cons_of_mem _ f))
   simp[Bool.false_eq_true,if_false,k,List.findIdx?_cons,d]
   cases a.findIdx? b with
   | none=>rfl
   | some j=>simp[Option.bind_some,Option.map_some,List.getElem?_cons_succ];cases a[j]? <;> simp;omega
theorem j89 (n:Nat):∀ {a b:Value},(∃ d,q07 d (some a) (some b))->a=b->Instr.sameBits n a b=true:=by
 rintro a b ⟨d,h⟩ rfl
 cases d with
 | false=>obtain⟨k,x,y,e,-⟩:=h;grind[Instr.sameBits]
 | true=>obtain⟨x,y,e,-⟩:=h;grind[Instr.sameBits]
theorem j24 {c:Type}:∀ {l:List c} {a b:c},(a,b)∈l.zip l->a=b/\a∈l
 | [],_,_,h=>by cases h
 | x::r,a,b,h=>by
  rcases List.mem_cons.1 h with h | h
  ·cases h;exact⟨rfl,List.mem_cons_self⟩
  ·exact⟨(j24 h).1,List.mem_cons_of_mem _ (j24 h).2⟩
theorem q7n {K:TypeId} {R:TInfo} (I:R.OK P K) {Y:Bool} {j:Ty} (hk:q5b R Y j=true):KeyTy P K Y j:=by
 simp only[q5b,Bool.and_eq_true,decide_eq_true_eq,beq_iff_eq]at hk
 obtain⟨⟨⟨⟨hty,hag⟩,G⟩,E⟩,hm⟩:=hk
 have E:=Nat.eq_of_beq_eq_true E
 obtain⟨-,d,hd,hagg,-,hint,-⟩:=I.base
 cases Y with
 | false =>
  cases j with
  | int k=>?_
  | _=>grind
  ·have J:P.underlying K=some (.int k):=by grind
   have O:∀ {w A v x},RepVal w A false (.int k) v x->v=.int k x:=fun {w A v x} h=>by
    have:=h.2.2
    grind[RepAt,F7]
   refine⟨rfl,fun em w w' A v x h=>?_,fun w w' A v x b M h C=>?_,fun w A v v' x h Z=>?_⟩
   ·rw[O h,show(10000:Nat)=9999+1 from rfl,Instr.checkKey];simp[run_underlying J]
   ·rw[O h]
    unfold Instr.findKey
    have hn:=j4z (kind:=.int k) (v:=.int k x) (b:=b) M 0 (fun e he=>by
     grind[Instr.sameNow,Ty.eqb])
    rw[Sem.run_bind,run_underlying J,Result.andThen_ok,hn]
    simp
   ·rw[O h,O Z];exact j89 _ ⟨false,k,x,x,rfl,rfl⟩ rfl
 | true =>
  cases B:R.eqo with
  | none=>grind
  | some l=>?_
  ·simp only[B,Bool.and_eq_true,List.all_eq_true,List.any_eq_true,List.mem_range]at hm
   obtain⟨hcov,D⟩:=hm
   have D:∀ p∈l,(S0 j)[p.1]? = some p.2:=fun p hp=>by
    grind
   obtain⟨F,he2,he3,he4⟩:=I.eqT l B
   obtain⟨i,hi⟩:=q58 hd
   have hd':V7 d=true:=by grind
   have g:∀ (w:World) (n:List Value),n.length=j.size->(part K n.toArray 0).run P w=.ok (.agg n.toArray) w:=fun w n hz=>by
    have hex:n.toArray.extract 0 (0+P.cellsOf K)=n.toArray:=by
     grind
    grind[part,Sem.run_bind,q20,Result.andThen_ok,run_sizeOf,Sem.run_pure]
   refine⟨G,fun em w w' A v x h=>?_,fun w w' A v x b M h C=>?_,fun w A v v' x h Z=>?_⟩
   ·obtain⟨m,rfl,hl,-,s⟩:=h
    obtain⟨a,X,W⟩:=z5z em 9980 20 K l F w m.toArray 0 (by grind) (fun o ho=>by
     grind[q74])
    grind
   ·obtain⟨m,rfl,hl,-,s⟩:=h
    have U:∀ e∈M,(Op.equal K (.agg m.toArray) e.key).run P w=.ok (b e) w:=fun e he=>by
     obtain⟨y,⟨N,Q,H,-,z⟩,h2⟩:=C e he
     rw[Q]
     obtain⟨p,q,r,X,W,p3,p4⟩:=(q6w 9980 20 K l F).2 w m.toArray N.toArray 0 (by grind) (by grind) (fun o ho=>by
      grind[q74])
     rw[g w m hl]at X
     rw[g w N H]at W
     cases X;cases W
     have:r=b e:=by
      rw[h2]
      have t:r=true↔x=y:=by
       grind[q51,Nat.eq_of_beq_eq_true]
      cases V:r with
      | true=>exact((j.eqb_iff G x y).2 (t.1 V)).symm
      | false=>exact(j.eqb_false G (fun e=>by grind)).symm
     subst this
     exact p3
    unfold Instr.findKey
    rw[Sem.run_bind,run_underlying hd,Result.andThen_ok]
    cases hes':M with
    | nil=>rfl
    | cons e r =>
     grind[Instr.findNow,Instr.sameNow,j4y]
   ·obtain⟨m,rfl,hl,-,s⟩:=h
    obtain⟨N,rfl,H,-,z⟩:=Z
    have hget:=(q51 j G _ _ x x s z).1 rfl
    have huv:m=N:=by
     apply List.ext_getElem?
     grind
    subst huv
    have S:∀ u∈m,Instr.sameBits 9999 u u=true:=fun u J=>by
     obtain⟨c,hc⟩:=List.getElem?_of_mem J
     have T:c<(S0 j).length:=by grind[q5c]
     have:=q74 j G _ _ x x s s c _ (List.getElem?_eq_getElem T)
     grind[j89]
    rw[show(10000:Nat)=9999+1 from rfl,Instr.sameBits]
    simp only[beq_self_eq_true,Bool.true_and,List.all_eq_true]
    rintro ⟨a,b⟩ hab
    have:a=b/\a∈m:=j24 (by omega)
    grind
end Go.Abs
