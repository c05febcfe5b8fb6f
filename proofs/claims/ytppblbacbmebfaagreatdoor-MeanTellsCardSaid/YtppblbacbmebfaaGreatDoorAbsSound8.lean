/- The engine, part 10b: structs, compared. -/
import Derived.Test.YtppblbacbmebfaaGreatDoorAbsSound7
import Derived.Laws.StructEq
import Derived.ChangeKeysEq
namespace Go.Abs
open Go Go.RowKit
variable {P:Program} {L:Nat->Prop} {w0:World}
theorem P0 {a:Type} {b:Bool} {x:Option a} {y:a} (h:cond b x none=some y):b=true/\x=some y:=by
 grind
def q07 (tv:Bool) (a b:Option Value):Prop:=match tv with
 | false=>∃ k x y,a=some (.int k x)/\b=some (.int k y)
 | true=>∃ x y,a=some (.bool x)/\b=some (.bool y)
def q6d (P:Program) (d:Nat) (t:TypeId) (l:List (Nat×Bool)):Prop :=
 (∀ o∈l,o.1<P.cellsOf t)/\∀ (w:World) (xs ys:Array Value) (off:Nat),off+P.cellsOf t<=xs.size->off+P.cellsOf t<=ys.size->(∀ o∈l,q07 o.2 xs[off+o.1]? ys[off+o.1]?) ->
  ∃ a b r,(part t xs off).run P w=.ok a w/\(part t ys off).run P w=.ok b w/\(Op.equalIn d t a b).run P w=.ok r w/\(r=true↔∀ o∈l,xs[off+o.1]? = ys[off+o.1]?)
theorem v7r {xs:Array Value} {a n j:Nat} (b:j<n) (h:a+n<=xs.size):(xs.extract a (a+n))[j]? = xs[a+j]?:=by
 grind
theorem j49 {P:Program} {d c n:Nat} {t:TypeId} {l1 l2:List (Nat×Bool)} (i:q6d P d t l1) (k:c+P.cellsOf t<=n) {xs e:Array Value} (y:n<=xs.size) (u:n<=e.size) (w:World)
  (l:∀ o∈l1.map (fun p=>(p.1+c,p.2))++l2,q07 o.2 xs[o.1]? e[o.1]?) {rest:Sem Bool} {g:Bool} (v:rest.run P w=.ok g w) (x:g=true↔∀ o∈l2,xs[o.1]? = e[o.1]?) :
  ∃ r,(do
   let a <-part t xs c
   let b <-part t e c
   let r <-Op.equalIn d t a b
   if(!r)=true then pure false else rest:Sem Bool).run P w=.ok r w/\(r=true↔∀ o∈l1.map (fun p=>(p.1+c,p.2))++l2,xs[o.1]? = e[o.1]?):=by
 obtain⟨a,b,r,m,q,s,j⟩:=i.2 w xs e c (by omega) (by omega) (fun o f=>by
  rw[Nat.add_comm];exact l (o.1+c,o.2) (List.mem_append_left _ (List.mem_map.2 ⟨o,f,rfl⟩)))
 simp only[Sem.run_bind,m,q,s,Result.andThen_ok]
 cases r with
 | false =>
  refine⟨false,by simp,iff_of_false (by simp) fun h=>?_⟩
  have:(false:Bool)=true:=j.2 fun o f=>by
   rw[Nat.add_comm];exact h (o.1+c,o.2) (List.mem_append_left _ (List.mem_map.2 ⟨o,f,rfl⟩))
  grind
 | true =>
  refine⟨g,by grind,?_⟩
  constructor
  ·grind
  simp_all
theorem q6m {d:Nat} {g:TypeId->Option (List (Nat×Bool))} {n:Nat} (c:∀ t l,g t=some l->q6d P d t l):∀ (r:List (Nat×TypeId)) (l:List (Nat×Bool)),O9 g P.cellsOf n r=some l->∀ o∈l,o.1<n
 | [],l,h,o,a=>by grind[O9]
 | (j,t)::r,l,h,o,a=>by
  simp[O9]at h
  split at h
  ·rename_i m e f k
   obtain⟨b,h⟩:=P0 h
   have b:=Nat.le_of_ble_eq_true b
   cases h
   rcases List.mem_append.1 a with a | a
   ·obtain⟨q,i,rfl⟩:=List.mem_map.1 a
    have:=(c t m f).1 q i
    omega
   ·exact q6m c r e k o a
  grind
theorem j47 {d:Nat} {g:TypeId->Option (List (Nat×Bool))} {n:Nat} (e:∀ t l,g t=some l->q6d P d t l) (w:World) (xs c:Array Value) (j:n<=xs.size) (i:n<=c.size):∀ (b:List Field) (l:List (Nat×Bool)),(∀ f∈b,f.name≠ "_") ->
  O9 g P.cellsOf n (b.map fun f=>(f.offset,f.type))=some l->(∀ o∈l,q07 o.2 xs[o.1]? c[o.1]?)->∃ r,(Op.eqFields d xs c b).run P w=.ok r w/\(r=true↔∀ o∈l,xs[o.1]? = c[o.1]?)
 | [],l,_,h,_=>by simp[O9]at h;subst h;exact⟨true,by rfl,by simp⟩
 | f::b,l,u,h,k=>by
  simp[List.map_cons,O9]at h
  split at h
  ·rename_i x q v y
   obtain⟨a,h⟩:=P0 h
   have a:=Nat.le_of_ble_eq_true a
   cases h
   obtain⟨B,s,p⟩:=j47 e w xs c j i b q (fun g e=>u g (List.mem_cons_of_mem _ e)) y (fun o m=>k o (List.mem_append_right _ m))
   obtain⟨r,z,A⟩:=j49 (e f.type x v) a j i w k s p
   grind[Op.eqFields]
  grind
theorem j48 {d:Nat} {g:TypeId->Option (List (Nat×Bool))} {n:Nat} (k:∀ t l,g t=some l->q6d P d t l) {e:TypeId} (w:World) (xs b:Array Value) (m:n<=xs.size) (f:n<=b.size):∀ (c:List Nat) (l:List (Nat×Bool)),
  O9 g P.cellsOf n (c.map fun i=>(i*P.cellsOf e,e))=some l->(∀ o∈l,q07 o.2 xs[o.1]? b[o.1]?)->∃ r,(Op.eqItems d e (P.cellsOf e) xs b c).run P w=.ok r w/\(r=true↔∀ o∈l,xs[o.1]? = b[o.1]?)
 | [],l,h,_=>by simp[O9]at h;subst h;exact⟨true,by rfl,by simp⟩
 | i::c,l,h,j=>by
  simp[List.map_cons,O9]at h
  split at h
  ·rename_i y p x s
   obtain⟨a,h⟩:=P0 h
   have a:=Nat.le_of_ble_eq_true a
   cases h
   obtain⟨A,q,u⟩:=j48 k w xs b m f c p s (fun o v=>j o (List.mem_append_right _ v))
   obtain⟨r,z,B⟩:=j49 (k e y x) a m f w j q u
   grind[Op.eqItems]
  grind
theorem q58 {t:TypeId} {d:TypeDesc} (h:P.underlying t=some d):∃ i,P.info? t=some i:=by
 grind[Program.underlying]
theorem q6w (d:Nat):∀ (n:Nat) (t:TypeId) (l:List (Nat×Bool)),q0h P n t=some l->q6d P (d+n) t l
 | 0,_,_,h=>by grind[q0h]
 | n+1,t,l,h=>by
  simp only[q0h]at h
  split at h
  ·rename_i b
   obtain⟨z,B⟩:=P0 h
   cases B
   have z:=Nat.eq_of_beq_eq_true z
   refine⟨fun o H=>by grind,fun w c g a G E v=>?_⟩
   have u:=v (0,true) (by simp)
   simp[Nat.add_zero]at u
   obtain⟨x,y,A,D⟩:=u
   exact⟨_,_,x==y,by simp[part,isAgg,run_underlying b,A],by simp[part,isAgg,run_underlying b,D],run_equalIn_bool' w (d+n) t x y b,by simp_all⟩
  ·rename_i k b
   obtain⟨z,B⟩:=P0 h
   cases B
   have z:=Nat.eq_of_beq_eq_true z
   refine⟨fun o H=>by grind,fun w c g a G E v=>?_⟩
   have u:=v (0,false) (by simp)
   simp[Nat.add_zero]at u
   obtain⟨N,x,y,A,D⟩:=u
   exact⟨_,_,x==y,by simp[part,isAgg,run_underlying b,A],by simp[part,isAgg,run_underlying b,D],run_equalIn_int w (d+n) t N k x y b,by simp_all⟩
  ·rename_i J b
   cases F:(P.stoodInHeld t||J.toList.any fun f=>f.name== "_")with
   | true=>grind
   | false =>
    rw[F,cond_false]at h
    simp only[Bool.or_eq_false_iff,List.any_eq_false,beq_iff_eq]at F
    have p:=fun t l h=>q6w d n t l h
    refine⟨q6m p _ l h,fun w c g a G E v=>?_⟩
    have C:=q6m p _ l h
    obtain⟨i,s⟩:=q58 b
    have I:P.underlying t=some (.struct (P.fieldsOf t)):=by grind[Program.fieldsOf]
    have j:P.cellsOf t<=(c.extract a (a+P.cellsOf t)).size:=by grind
    have m:P.cellsOf t<=(g.extract a (a+P.cellsOf t)).size:=by grind
    obtain⟨r,K,M⟩:=j47 p w (c.extract a (a+P.cellsOf t)) (g.extract a (a+P.cellsOf t)) j m J.toList l (fun f I=>F.2 f I) h (fun o H=>by
     grind)
    refine⟨.agg (c.extract a (a+P.cellsOf t)),.agg (g.extract a (a+P.cellsOf t)),r,by simp[part,isAgg,run_underlying b,run_sizeOf w s],by simp[part,isAgg,run_underlying b,run_sizeOf w s],?_,?_⟩
    all_goals grind[run_equalIn_struct]
  ·rename_i k e b
   obtain⟨q,h⟩:=P0 h
   obtain⟨O,q⟩:=Option.isSome_iff_exists.1 q
   have p:=fun t l h=>q6w d n t l h
   refine⟨q6m p _ l h,fun w c g a G E v=>?_⟩
   have C:=q6m p _ l h
   obtain⟨i,s⟩:=q58 b
   have j:P.cellsOf t<=(c.extract a (a+P.cellsOf t)).size:=by grind
   have m:P.cellsOf t<=(g.extract a (a+P.cellsOf t)).size:=by grind
   obtain⟨r,K,M⟩:=j48 p w (c.extract a (a+P.cellsOf t)) (g.extract a (a+P.cellsOf t)) j m (List.range k) l h (fun o H=>by
    grind)
   refine⟨.agg (c.extract a (a+P.cellsOf t)),.agg (g.extract a (a+P.cellsOf t)),r,by simp[part,isAgg,run_underlying b,run_sizeOf w s],by simp[part,isAgg,run_underlying b,run_sizeOf w s],?_,?_⟩
   all_goals grind[run_equalIn_array]
  grind
theorem z6l {κ:A2} {h:Heap} {w:World} {cs F:List SV} {C vs:List Value} (n:RepCells L κ h w cs C) (m:RepCells L κ h w F vs):∀ (l:List (Nat×Bool)) (b:Bool),q2e cs F l=some b ->
  (∀ o∈l,q07 o.2 C[o.1]? vs[o.1]?)/\(b=true↔∀ o∈l,C[o.1]? = vs[o.1]?)
 | [],b,a=>by
  grind[q2e]
 | (o,H)::r,b,a=>by
  have get:∀ {B:List SV} {i:List Value} {s:SV},RepCells L κ h w B i->B[o]? = some s->∃ v,i[o]? = some v/\RepSV L κ h w s v:=fun {B i s} G I=>by
   have g:o<i.length:=by rw[G.1];grind
   exact⟨i[o],List.getElem?_eq_getElem g,(G.2 o s _ I (List.getElem?_eq_getElem g)).1⟩
  cases H with
  | false =>
   simp[q2e]at a
   split at a
   ·rename_i k x K y q D A t
    split at a
    ·rename_i J _
     subst J
     cases a
     obtain⟨z,E⟩:=z6l n m r q t
     obtain⟨u,j,d⟩:=get n D
     obtain⟨v,f,c⟩:=get m A
     have d:u=.int k x:=H7 (L:=L) (κ:=κ) (h:=h) (w:=w) d
     have c:v=.int k y:=H7 (L:=L) (κ:=κ) (h:=h) (w:=w) c
     subst d;subst c
     refine⟨fun p e=>?_,?_⟩
     ·rcases List.mem_cons.1 e with rfl | e
      ·exact⟨k,x,y,j,f⟩
      ·exact z p e
     ·simp[Bool.and_eq_true,beq_iff_eq,E,List.mem_cons,forall_eq_or_imp,j,f,Option.some.injEq,Value.int.injEq,true_and]
    ·cases a
   ·cases a
  | true =>
   simp[q2e]at a
   split at a
   ·rename_i x y q D A t
    cases a
    obtain⟨z,E⟩:=z6l n m r q t
    obtain⟨u,j,d⟩:=get n D
    obtain⟨v,f,c⟩:=get m A
    have d:u=.bool x:=q0s (L:=L) (κ:=κ) (h:=h) (w:=w) d
    have c:v=.bool y:=q0s (L:=L) (κ:=κ) (h:=h) (w:=w) c
    subst d;subst c
    refine⟨fun p e=>?_,?_⟩
    ·rcases List.mem_cons.1 e with rfl | e
     ·exact⟨x,y,j,f⟩
     ·exact z p e
    ·simp[Bool.and_eq_true,beq_iff_eq,E,List.mem_cons,forall_eq_or_imp,j,f,Option.some.injEq,Value.bool.injEq]
   ·cases a
theorem j8k {o:Oper} {op:BinOp} {T V:TypeId} {x y:Operand} (I:o.op=.binOp op T x y V) {u:TInfo} (s:u.OK P T) {l:List (Nat×Bool)} (R:u.eqo=some l) {ρ:Env} {cs z:List SV}
  (W:ev ρ x=.agg cs) (K:ev ρ y=.agg z) {b:Bool} (Q:q2e cs z l=some b) (J:cs.length=u.size) (M:z.length=u.size) {c:Bool} (B:(op=.eql/\c=b)\/(op=.neq/\c=!b)) (hs:Heap):A6 P L w0 o ρ hs hs (H8 c):=by
 refine D1 (fun c J=>by grind) fun κ a w t ok=>?_
 have f:=t x
 rw[W]at f
 have e:=t y
 rw[K]at e
 obtain⟨j,f,m⟩:=f
 obtain⟨h,e,k⟩:=e
 obtain⟨v,E,U,n⟩:=s.eqT l R
 obtain⟨k1,Y⟩:=z6l m k l b Q
 obtain⟨-,d',A,G,-⟩:=s.base
 obtain⟨i,Z⟩:=q58 A
 have D:j.toArray.size=P.cellsOf T:=by rw[n];simp[m.1,J]
 have C:h.toArray.size=P.cellsOf T:=by rw[n];simp[k.1,M]
 obtain⟨p,q,r,H,F,O,p4⟩:=(q6w 9980 20 T l v).2 w j.toArray h.toArray 0 (by omega) (by omega) (fun o I=>by grind)
 have d:∀ (g:List Value),g.toArray.size=P.cellsOf T->(part T g.toArray 0).run P w=.ok (.agg g.toArray) w:=fun g hz=>by
  have N:g.toArray.extract 0 (0+P.cellsOf T)=g.toArray:=by
   grind
  grind[part,Sem.run_bind,q20,Result.andThen_ok,run_sizeOf,Sem.run_pure]
 rw[d j D]at H
 rw[d h C]at F
 cases H;cases F
 have X:r=b:=by
  grind
 refine⟨.bool c,?_,P6 c⟩
 have S:(Op.equal T (.agg j.toArray) (.agg h.toArray)).run P w=.ok r w:=O
 unfold execOp
 rw[I]
 simp[f,e,Sem.run_bind,run_eqGuard_agg w op T x y _ _ E,Result.andThen_ok]
 rcases B with⟨rfl,rfl⟩ | ⟨rfl,rfl⟩
 ·show((do pure (.bool (<-Op.equal T (.agg j.toArray) (.agg h.toArray))):Sem Value).run P w).andThen _=_
  simp_all
 ·show((do pure (.bool (!(<-Op.equal T (.agg j.toArray) (.agg h.toArray)))):Sem Value).run P w).andThen _=_
  simp_all
end Go.Abs
