/- The engine, part 10b: structs, compared. -/
import Derived.Test.YteeaadgpkammdaaGreatDoorAbsSound7
import Derived.Laws.StructEq
import Derived.ChangeKeysEq
namespace Go.Abs
open Go Go.RowKit
variable {P:Program} {L:Nat->Prop} {w0:World}
theorem N4 {α:Type} {b:Bool} {x:Option α} {y:α} (h:cond b x none=some y):b=true/\x=some y:=by
 cases b with
 | true=>exact⟨rfl,h⟩
 | false=>cases h
def q00 (tv:Bool) (a b:Option Value):Prop:=match tv with
 | false=>∃ k x y,a=some (.int k x)/\b=some (.int k y)
 | true=>∃ x y,a=some (.bool x)/\b=some (.bool y)
def q60 (P:Program) (d:Nat) (t:TypeId) (l:List (Nat×Bool)):Prop :=
 (∀ o∈l,o.1<P.cellsOf t)/\∀ (w:World) (xs ys:Array Value) (off:Nat),off+P.cellsOf t<=xs.size->off+P.cellsOf t<=ys.size->(∀ o∈l,q00 o.2 xs[off+o.1]? ys[off+o.1]?) ->
  ∃ a b r,(part t xs off).run P w=.ok a w/\(part t ys off).run P w=.ok b w/\(Op.equalIn d t a b).run P w=.ok r w/\(r=true↔∀ o∈l,xs[off+o.1]? = ys[off+o.1]?)
theorem Q2 {xs:Array Value} {off n j:Nat} (hj:j<n) (h:off+n<=xs.size):(xs.extract off (off+n))[j]? = xs[off+j]?:=by
 rw[Array.getElem?_extract]
 have:j<min (off+n) xs.size-off:=by omega
 simp[this]
theorem j3j {P:Program} {d off n:Nat} {t:TypeId} {l1 l2:List (Nat×Bool)} (hg:q60 P d t l1) (hle:off+P.cellsOf t<=n) {xs ys:Array Value} (hx:n<=xs.size) (hy:n<=ys.size) (w:World)
  (ha:∀ o∈l1.map (fun p=>(p.1+off,p.2))++l2,q00 o.2 xs[o.1]? ys[o.1]?) {rest:Sem Bool} {r':Bool} (q1:rest.run P w=.ok r' w) (q2:r'=true↔∀ o∈l2,xs[o.1]? = ys[o.1]?) :
  ∃ r,(do
   let a <-part t xs off
   let b <-part t ys off
   let r <-Op.equalIn d t a b
   if(!r)=true then pure false else rest:Sem Bool).run P w=.ok r w/\(r=true↔∀ o∈l1.map (fun p=>(p.1+off,p.2))++l2,xs[o.1]? = ys[o.1]?):=by
 obtain⟨a,b,r,p1,p2,p3,p4⟩:=hg.2 w xs ys off (by omega) (by omega) (fun o ho=>by
  rw[Nat.add_comm];exact ha (o.1+off,o.2) (List.mem_append_left _ (List.mem_map.2 ⟨o,ho,rfl⟩)))
 simp only[Sem.run_bind,p1,p2,p3,Result.andThen_ok]
 cases r with
 | false =>
  refine⟨false,by simp,iff_of_false (by simp) fun h=>?_⟩
  have:(false:Bool)=true:=p4.2 fun o ho=>by
   rw[Nat.add_comm];exact h (o.1+off,o.2) (List.mem_append_left _ (List.mem_map.2 ⟨o,ho,rfl⟩))
  cases this
 | true =>
  refine⟨r',by simpa using q1,?_⟩
  rw[q2]
  have h3:=p4.1 rfl
  constructor
  ·intro h o ho
   rcases List.mem_append.1 ho with ho | ho
   ·obtain⟨q,hq,rfl⟩:=List.mem_map.1 ho
    show xs[q.1+off]? = ys[q.1+off]?
    rw[Nat.add_comm];exact h3 q hq
   ·exact h o ho
  ·intro h o ho
   exact h o (List.mem_append_right _ ho)
theorem q6a {d:Nat} {g:TypeId->Option (List (Nat×Bool))} {n:Nat} (hg:∀ t l,g t=some l->q60 P d t l):∀ (r:List (Nat×TypeId)) (l:List (Nat×Bool)),N3 g P.cellsOf n r=some l->∀ o∈l,o.1<n
 | [],l,h,o,ho=>by simp[N3]at h;subst h;cases ho
 | (off,t)::r,l,h,o,ho=>by
  simp only[N3]at h
  split at h
  ·rename_i l1 l2 h1 h2
   obtain⟨hle,h⟩:=N4 h
   have hle:=Nat.le_of_ble_eq_true hle
   cases h
   rcases List.mem_append.1 ho with ho | ho
   ·obtain⟨q,hq,rfl⟩:=List.mem_map.1 ho
    have:=(hg t l1 h1).1 q hq
    show q.1+off<n
    omega
   ·exact q6a hg r l2 h2 o ho
  ·cases h
theorem j3h {d:Nat} {g:TypeId->Option (List (Nat×Bool))} {n:Nat} (hg:∀ t l,g t=some l->q60 P d t l) (w:World) (xs ys:Array Value) (hx:n<=xs.size) (hy:n<=ys.size):∀ (fs:List Field) (l:List (Nat×Bool)),(∀ f∈fs,f.name≠ "_") ->
  N3 g P.cellsOf n (fs.map fun f=>(f.offset,f.type))=some l->(∀ o∈l,q00 o.2 xs[o.1]? ys[o.1]?)->∃ r,(Op.eqFields d xs ys fs).run P w=.ok r w/\(r=true↔∀ o∈l,xs[o.1]? = ys[o.1]?)
 | [],l,_,h,_=>by simp[N3]at h;subst h;exact⟨true,by simp[Op.eqFields],by simp⟩
 | f::fs,l,hn,h,ha=>by
  simp only[List.map_cons,N3]at h
  split at h
  ·rename_i l1 l2 h1 h2
   obtain⟨hle,h⟩:=N4 h
   have hle:=Nat.le_of_ble_eq_true hle
   cases h
   obtain⟨r',q1,q2⟩:=j3h hg w xs ys hx hy fs l2 (fun g hg=>hn g (List.mem_cons_of_mem _ hg)) h2 (fun o ho=>ha o (List.mem_append_right _ ho))
   obtain⟨r,z1,z2⟩:=j3j (hg f.type l1 h1) hle hx hy w ha q1 q2
   refine⟨r,?_,z2⟩
   rw[<-z1]
   simp only[Op.eqFields,hn f List.mem_cons_self,ne_eq,not_false_eq_true,if_true]
  ·cases h
theorem j3i {d:Nat} {g:TypeId->Option (List (Nat×Bool))} {n:Nat} (hg:∀ t l,g t=some l->q60 P d t l) {e:TypeId} (w:World) (xs ys:Array Value) (hx:n<=xs.size) (hy:n<=ys.size):∀ (is:List Nat) (l:List (Nat×Bool)),
  N3 g P.cellsOf n (is.map fun i=>(i*P.cellsOf e,e))=some l->(∀ o∈l,q00 o.2 xs[o.1]? ys[o.1]?)->∃ r,(Op.eqItems d e (P.cellsOf e) xs ys is).run P w=.ok r w/\(r=true↔∀ o∈l,xs[o.1]? = ys[o.1]?)
 | [],l,h,_=>by simp[N3]at h;subst h;exact⟨true,by simp[Op.eqItems],by simp⟩
 | i::is,l,h,ha=>by
  simp only[List.map_cons,N3]at h
  split at h
  ·rename_i l1 l2 h1 h2
   obtain⟨hle,h⟩:=N4 h
   have hle:=Nat.le_of_ble_eq_true hle
   cases h
   obtain⟨r',q1,q2⟩:=j3i hg w xs ys hx hy is l2 h2 (fun o ho=>ha o (List.mem_append_right _ ho))
   obtain⟨r,z1,z2⟩:=j3j (hg e l1 h1) hle hx hy w ha q1 q2
   refine⟨r,?_,z2⟩
   rw[<-z1]
   simp only[Op.eqItems]
  ·cases h
theorem q4k {t:TypeId} {d:TypeDesc} (h:P.underlying t=some d):∃ i,P.info? t=some i:=by
 unfold Program.underlying at h
 cases hi:P.info? t with
 | none=>simp[hi]at h
 | some i=>exact⟨i,rfl⟩
theorem q6i (d:Nat):∀ (n:Nat) (t:TypeId) (l:List (Nat×Bool)),q07 P n t=some l->q60 P (d+n) t l
 | 0,_,_,h=>by simp[q07]at h
 | n+1,t,l,h=>by
  simp only[q07]at h
  split at h
  ·rename_i hu
   obtain⟨h1,h2⟩:=N4 h
   cases h2
   have h1:=Nat.eq_of_beq_eq_true h1
   refine⟨fun o ho=>by simp at ho;subst ho;rw[h1];exact Nat.one_pos,fun w xs ys off hx hy ha=>?_⟩
   have h0:=ha (0,true) (by simp)
   simp only[Nat.add_zero]at h0
   obtain⟨x,y,e1,e2⟩:=h0
   exact⟨_,_,x==y,by simp[part,isAgg,run_underlying hu,e1],by simp[part,isAgg,run_underlying hu,e2],run_equalIn_bool' w (d+n) t x y hu,by simp[e1,e2]⟩
  ·rename_i k hu
   obtain⟨h1,h2⟩:=N4 h
   cases h2
   have h1:=Nat.eq_of_beq_eq_true h1
   refine⟨fun o ho=>by simp at ho;subst ho;rw[h1];exact Nat.one_pos,fun w xs ys off hx hy ha=>?_⟩
   have h0:=ha (0,false) (by simp)
   simp only[Nat.add_zero]at h0
   obtain⟨k',x,y,e1,e2⟩:=h0
   exact⟨_,_,x==y,by simp[part,isAgg,run_underlying hu,e1],by simp[part,isAgg,run_underlying hu,e2],run_equalIn_int w (d+n) t k' k x y hu,by simp[e1,e2]⟩
  ·rename_i fs hu
   cases hc:(P.stoodInHeld t||fs.toList.any fun f=>f.name== "_")with
   | true=>rw[hc]at h;cases h
   | false =>
    rw[hc,cond_false]at h
    simp only[Bool.or_eq_false_iff,List.any_eq_false,beq_iff_eq]at hc
    have ih:=fun t l h=>q6i d n t l h
    refine⟨q6a ih _ l h,fun w xs ys off hx hy ha=>?_⟩
    have hlt:=q6a ih _ l h
    obtain⟨i,hi⟩:=q4k hu
    have hf:P.underlying t=some (.struct (P.fieldsOf t)):=by simp[Program.fieldsOf,hu]
    have hff:(P.fieldsOf t).toList=fs.toList:=by simp[Program.fieldsOf,hu]
    have hsx:P.cellsOf t<=(xs.extract off (off+P.cellsOf t)).size:=by simp;omega
    have hsy:P.cellsOf t<=(ys.extract off (off+P.cellsOf t)).size:=by simp;omega
    obtain⟨r,q1,q2⟩:=j3h ih w (xs.extract off (off+P.cellsOf t)) (ys.extract off (off+P.cellsOf t)) hsx hsy fs.toList l (fun f hf=>hc.2 f hf) h (fun o ho=>by
     rw[Q2 (hlt o ho) hx,Q2 (hlt o ho) hy];exact ha o ho)
    refine⟨.agg (xs.extract off (off+P.cellsOf t)),.agg (ys.extract off (off+P.cellsOf t)),r,by simp[part,isAgg,run_underlying hu,run_sizeOf w hi],by simp[part,isAgg,run_underlying hu,run_sizeOf w hi],?_,?_⟩
    ·rw[show d+(n+1)=(d+n)+1 from rfl,run_equalIn_struct w (d+n) t _ _ hf hc.1,hff];exact q1
    ·rw[q2]
     constructor
     ·intro h o ho;have:=h o ho;rwa [Q2 (hlt o ho) hx,Q2 (hlt o ho) hy]at this
     ·intro h o ho;rw[Q2 (hlt o ho) hx,Q2 (hlt o ho) hy];exact h o ho
  ·rename_i k e hu
   obtain⟨hie,h⟩:=N4 h
   obtain⟨ie,hie⟩:=Option.isSome_iff_exists.1 hie
   have ih:=fun t l h=>q6i d n t l h
   refine⟨q6a ih _ l h,fun w xs ys off hx hy ha=>?_⟩
   have hlt:=q6a ih _ l h
   obtain⟨i,hi⟩:=q4k hu
   have hsx:P.cellsOf t<=(xs.extract off (off+P.cellsOf t)).size:=by simp;omega
   have hsy:P.cellsOf t<=(ys.extract off (off+P.cellsOf t)).size:=by simp;omega
   obtain⟨r,q1,q2⟩:=j3i ih w (xs.extract off (off+P.cellsOf t)) (ys.extract off (off+P.cellsOf t)) hsx hsy (List.range k) l h (fun o ho=>by
    rw[Q2 (hlt o ho) hx,Q2 (hlt o ho) hy];exact ha o ho)
   refine⟨.agg (xs.extract off (off+P.cellsOf t)),.agg (ys.extract off (off+P.cellsOf t)),r,by simp[part,isAgg,run_underlying hu,run_sizeOf w hi],by simp[part,isAgg,run_underlying hu,run_sizeOf w hi],?_,?_⟩
   ·rw[show d+(n+1)=(d+n)+1 from rfl,run_equalIn_array w (d+n) _ _ hu hie];exact q1
   ·rw[q2]
    constructor
    ·intro h o ho;have:=h o ho;rwa [Q2 (hlt o ho) hx,Q2 (hlt o ho) hy]at this
    ·intro h o ho;rw[Q2 (hlt o ho) hx,Q2 (hlt o ho) hy];exact h o ho
  ·cases h
theorem z6w {κ:A3} {h:Heap} {w:World} {cs ds:List SV} {us vs:List Value} (hu:RepCells L κ h w cs us) (hv:RepCells L κ h w ds vs):∀ (l:List (Nat×Bool)) (b:Bool),q20 cs ds l=some b ->
  (∀ o∈l,q00 o.2 us[o.1]? vs[o.1]?)/\(b=true↔∀ o∈l,us[o.1]? = vs[o.1]?)
 | [],b,he=>by
  simp only[q20,Option.some.injEq]at he
  subst he
  exact⟨(fun o ho=>by cases ho),by simp⟩
 | (o,tv)::r,b,he=>by
  have get:∀ {ls:List SV} {ws:List Value} {s:SV},RepCells L κ h w ls ws->ls[o]? = some s->∃ v,ws[o]? = some v/\RepSV L κ h w s v:=fun {ls ws s} hr hs=>by
   have hlt:o<ws.length:=by rw[hr.1];exact(List.getElem?_eq_some_iff.1 hs).1
   exact⟨ws[o],List.getElem?_eq_getElem hlt,(hr.2 o s _ hs (List.getElem?_eq_getElem hlt)).1⟩
  cases tv with
  | false =>
   simp only[q20]at he
   split at he
   ·rename_i k x k' y q hx hy hq
    split at he
    ·rename_i hk _
     subst hk
     cases he
     obtain⟨h1,h2⟩:=z6w hu hv r q hq
     obtain⟨u,e1,e2⟩:=get hu hx
     obtain⟨v,e3,e4⟩:=get hv hy
     have e2:u=.int k x:=H1 (L:=L) (κ:=κ) (h:=h) (w:=w) e2
     have e4:v=.int k y:=H1 (L:=L) (κ:=κ) (h:=h) (w:=w) e4
     subst e2;subst e4
     refine⟨fun p hp=>?_,?_⟩
     ·rcases List.mem_cons.1 hp with rfl | hp
      ·exact⟨k,x,y,e1,e3⟩
      ·exact h1 p hp
     ·simp only[Bool.and_eq_true,beq_iff_eq,h2,List.mem_cons,forall_eq_or_imp,e1,e3,Option.some.injEq,Value.int.injEq,true_and]
    ·cases he
   ·cases he
  | true =>
   simp only[q20]at he
   split at he
   ·rename_i x y q hx hy hq
    cases he
    obtain⟨h1,h2⟩:=z6w hu hv r q hq
    obtain⟨u,e1,e2⟩:=get hu hx
    obtain⟨v,e3,e4⟩:=get hv hy
    have e2:u=.bool x:=q0j (L:=L) (κ:=κ) (h:=h) (w:=w) e2
    have e4:v=.bool y:=q0j (L:=L) (κ:=κ) (h:=h) (w:=w) e4
    subst e2;subst e4
    refine⟨fun p hp=>?_,?_⟩
    ·rcases List.mem_cons.1 hp with rfl | hp
     ·exact⟨x,y,e1,e3⟩
     ·exact h1 p hp
    ·simp only[Bool.and_eq_true,beq_iff_eq,h2,List.mem_cons,forall_eq_or_imp,e1,e3,Option.some.injEq,Value.bool.injEq]
   ·cases he
theorem j88 {o:Oper} {op:BinOp} {T T':TypeId} {x y:Operand} (ho:o.op=.binOp op T x y T') {ti:TInfo} (hti:ti.OK P T) {l:List (Nat×Bool)} (hl:ti.eqo=some l) {ρ:Env} {cs ds:List SV}
  (hx:ev ρ x=.agg cs) (hy:ev ρ y=.agg ds) {b:Bool} (hb:q20 cs ds l=some b) (hc:cs.length=ti.size) (hd:ds.length=ti.size) {c:Bool} (hop:(op=.eql/\c=b)\/(op=.neq/\c=!b)) (hs:Heap):A8 P L w0 o ρ hs hs (H4 c):=by
 refine D2 (fun c hc=>by rw[ho]at hc;cases hc) fun κ a w hev ok=>?_
 have hxv:=hev x
 rw[hx]at hxv
 have hyv:=hev y
 rw[hy]at hyv
 obtain⟨us,hxv,hus⟩:=hxv
 obtain⟨vs,hyv,hvs⟩:=hyv
 obtain⟨he1,he2,he3,he4⟩:=hti.eqT l hl
 obtain⟨k1,k2⟩:=z6w hus hvs l b hb
 obtain⟨-,d',hd',hagg,-⟩:=hti.base
 obtain⟨i,hi⟩:=q4k hd'
 have hsx:us.toArray.size=P.cellsOf T:=by rw[he4];simp[hus.1,hc]
 have hsy:vs.toArray.size=P.cellsOf T:=by rw[he4];simp[hvs.1,hd]
 obtain⟨p,q,r,p1,p2,p3,p4⟩:=(q6i 9980 20 T l he1).2 w us.toArray vs.toArray 0 (by omega) (by omega) (fun o ho=>by simpa using k1 o ho)
 have whole:∀ (zs:List Value),zs.toArray.size=P.cellsOf T->(part T zs.toArray 0).run P w=.ok (.agg zs.toArray) w:=fun zs hz=>by
  have hg:S5 d'=true:=by rw[hagg];exact he3
  have hex:zs.toArray.extract 0 (0+P.cellsOf T)=zs.toArray:=by
   rw[Nat.zero_add,<-hz];simp
  unfold part
  rw[Sem.run_bind,q1d hd',hg]
  simp only[Result.andThen_ok,if_true,Sem.run_bind,run_sizeOf w hi,Sem.run_pure,hex]
 rw[whole us hsx]at p1
 rw[whole vs hsy]at p2
 cases p1;cases p2
 have hrb:r=b:=by
  have:(r=true)↔(b=true):=by rw[p4,k2];simp
  cases r<;>cases b<;>simp at this ⊢
 subst hrb
 refine⟨.bool c,?_,P5 c⟩
 have heq:(Op.equal T (.agg us.toArray) (.agg vs.toArray)).run P w=.ok r w:=p3
 unfold execOp
 rw[ho]
 simp only[hxv,hyv,Sem.run_bind,run_eqGuard_agg w op T x y _ _ he2,Result.andThen_ok]
 rcases hop with⟨rfl,rfl⟩ | ⟨rfl,rfl⟩
 ·show((do pure (.bool (<-Op.equal T (.agg us.toArray) (.agg vs.toArray))):Sem Value).run P w).andThen _=_
  rw[Sem.run_bind,heq]
  rfl
 ·show((do pure (.bool (!(<-Op.equal T (.agg us.toArray) (.agg vs.toArray)))):Sem Value).run P w).andThen _=_
  rw[Sem.run_bind,heq]
  rfl
end Go.Abs
