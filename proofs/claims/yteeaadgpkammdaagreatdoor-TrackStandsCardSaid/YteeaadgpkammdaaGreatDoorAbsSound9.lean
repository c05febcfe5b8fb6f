/- The engine, part 11b: maps in memory: what is found, written, taken out. -/
import Derived.Test.YteeaadgpkammdaaGreatDoorAbsFun
import Derived.Test.YteeaadgpkammdaaGreatDoorAbsMapsP
import Derived.MapKept
namespace Go.Abs
open Go Go.RowKit
variable {P:Program} {L:Nat->Prop} {w0:World}
theorem q3c:∀ (t:Ty),(Q6 t).length=t.size
 | .int _=>rfl
 | .bool=>rfl
 | .list _=>rfl
 | .map _ _ _ _=>rfl
 | .nil=>rfl
 | .cons a b=>by simp[Q6,Ty.size,q3c a,q3c b]
theorem q6r {w w':World} {A A':Nat->Prop}:∀ (t:Ty),t.flat=true->∀ (get get':Nat->Option Value) (x y:t.den),RepAt w A t get x->RepAt w' A' t get' y->∀ (c:Nat) (tv:Bool),(Q6 t)[c]? = some tv->q00 tv (get c) (get' c)
 | .int k,_,get,get',x,y,h,h',c,tv,hc=>by
  cases c with
  | succ c=>simp[Q6]at hc
  | zero=>simp[Q6]at hc;subst hc;exact⟨k,x,y,h,h'⟩
 | .bool,_,get,get',x,y,h,h',c,tv,hc=>by
  cases c with
  | succ c=>simp[Q6]at hc
  | zero=>simp[Q6]at hc;subst hc;exact⟨x,y,h,h'⟩
 | .nil,_,_,_,_,_,_,_,c,_,hc=>by simp[Q6]at hc
 | .list _,hf,_,_,_,_,_,_,_,_,_=>by simp[Ty.flat]at hf
 | .map _ _ _ _,hf,_,_,_,_,_,_,_,_,_=>by simp[Ty.flat]at hf
 | .cons a b,hf,get,get',x,y,h,h',c,tv,hc=>by
  simp only[Ty.flat,Bool.and_eq_true]at hf
  simp only[Q6]at hc
  by_cases hlt:c<a.size
  ·rw[List.getElem?_append_left (by rw[q3c];exact hlt)]at hc
   exact q6r a hf.1 get get' x.1 y.1 h.1 h'.1 c tv hc
  ·rw[List.getElem?_append_right (by rw[q3c];omega),q3c]at hc
   have:=q6r b hf.2 _ _ x.2 y.2 h.2 h'.2 (c-a.size) tv hc
   rwa [show a.size+(c-a.size)=c from by omega]at this
theorem q4h {w w':World} {A A':Nat->Prop}:∀ (t:Ty),t.flat=true->∀ (get get':Nat->Option Value) (x y:t.den),RepAt w A t get x->RepAt w' A' t get' y->(x=y↔∀ c,c<t.size->get c=get' c)
 | .int k,_,get,get',x,y,h,h'=>by
  have h:get 0=some (.int k x):=h
  have h':get' 0=some (.int k y):=h'
  constructor
  ·intro e c hc
   have:c=0:=by simp[Ty.size]at hc;exact hc
   subst this;rw[h,h',e]
  ·intro hh
   have:=hh 0 (by simp[Ty.size])
   rw[h,h']at this;simpa using this
 | .bool,_,get,get',x,y,h,h'=>by
  have h:get 0=some (.bool x):=h
  have h':get' 0=some (.bool y):=h'
  constructor
  ·intro e c hc
   have:c=0:=by simp[Ty.size]at hc;exact hc
   subst this;rw[h,h',e]
  ·intro hh
   have:=hh 0 (by simp[Ty.size])
   rw[h,h']at this;simpa using this
 | .nil,_,_,_,_,_,_,_=>⟨fun _ c hc=>by simp[Ty.size]at hc,fun _=>rfl⟩
 | .list _,hf,_,_,_,_,_,_=>by simp[Ty.flat]at hf
 | .map _ _ _ _,hf,_,_,_,_,_,_=>by simp[Ty.flat]at hf
 | .cons a b,hf,get,get',x,y,h,h'=>by
  simp only[Ty.flat,Bool.and_eq_true]at hf
  have i1:=q4h a hf.1 get get' x.1 y.1 h.1 h'.1
  have i2:=q4h b hf.2 _ _ x.2 y.2 h.2 h'.2
  constructor
  ·intro e c hc
   by_cases hlt:c<a.size
   ·exact i1.1 (by rw[e]) c hlt
   ·have:=i2.1 (by rw[e]) (c-a.size) (by simp[Ty.size]at hc;omega)
    rwa [show a.size+(c-a.size)=c from by omega]at this
  ·intro hh
   exact Prod.ext (i1.2 fun c hc=>hh c (by simp[Ty.size];omega)) (i2.2 fun c hc=>hh (a.size+c) (by simp[Ty.size];omega))
theorem RepAt.flatMono {w w':World} {A A':Nat->Prop}:∀ (t:Ty),t.flat=true->∀ (get:Nat->Option Value) (x:t.den),RepAt w A t get x->RepAt w' A' t get x
 | .int _,_,_,_,h=>h
 | .bool,_,_,_,h=>h
 | .nil,_,_,_,_=>trivial
 | .list _,hf,_,_,_=>by simp[Ty.flat]at hf
 | .map _ _ _ _,hf,_,_,_=>by simp[Ty.flat]at hf
 | .cons a b,hf,get,x,h=>by
  simp only[Ty.flat,Bool.and_eq_true]at hf
  exact⟨RepAt.flatMono a hf.1 get x.1 h.1,RepAt.flatMono b hf.2 _ x.2 h.2⟩
theorem RepVal.flatMono {w w':World} {A A':Nat->Prop} {ak:Bool} {tk:Ty} (hf:tk.flat=true) {v:Value} {x:tk.den} (h:RepVal w A ak tk v x):RepVal w' A' ak tk v x:=by
 cases ak with
 | true=>obtain⟨us,h1,h2,h3,h4⟩:=h;exact⟨us,h1,h2,h3,RepAt.flatMono tk hf _ x h4⟩
 | false=>exact⟨h.1,h.2.1,RepAt.flatMono tk hf _ x h.2.2⟩
def z5o (P:Program) (em:Bool) (d:Nat) (t:TypeId) (l:List (Nat×Bool)):Prop :=
 ∀ (w:World) (xs:Array Value) (off:Nat),off+P.cellsOf t<=xs.size->(∀ o∈l,q00 o.2 xs[off+o.1]? xs[off+o.1]?) ->
  ∃ a,(part t xs off).run P w=.ok a w/\(Instr.checkKey em d t a).run P w=.ok () w
theorem j2r {em:Bool} {d:Nat} {g:TypeId->Option (List (Nat×Bool))} {n:Nat} (hg:∀ t l,g t=some l->z5o P em d t l) (w:World) (xs:Array Value) (hx:n<=xs.size):∀ (fs:List Field) (l:List (Nat×Bool)),(∀ f∈fs,f.name≠ "_") ->
  N3 g P.cellsOf n (fs.map fun f=>(f.offset,f.type))=some l->(∀ o∈l,q00 o.2 xs[o.1]? xs[o.1]?) ->
  (forIn fs PUnit.unit (fun(f:Field) (_:PUnit)=>(if f.name≠ "_" then do
    let a <-part f.type xs f.offset
    Instr.checkKey em d f.type a
    pure (ForInStep.yield PUnit.unit)
   else pure (ForInStep.yield PUnit.unit):Sem (ForInStep PUnit)))).run P w=.ok PUnit.unit w
 | [],l,_,h,_=>by simp
 | f::fs,l,hn,h,ha=>by
  simp only[List.map_cons,N3]at h
  split at h
  ·rename_i l1 l2 h1 h2
   obtain⟨hle,h⟩:=N4 h
   have hle:=Nat.le_of_ble_eq_true hle
   cases h
   obtain⟨a,p1,p2⟩:=hg f.type l1 h1 w xs f.offset (by omega) (fun o ho=>by
    rw[Nat.add_comm];exact ha (o.1+f.offset,o.2) (List.mem_append_left _ (List.mem_map.2 ⟨o,ho,rfl⟩)))
   have ih:=j2r hg w xs hx fs l2 (fun g hg=>hn g (List.mem_cons_of_mem _ hg)) h2 (fun o ho=>ha o (List.mem_append_right _ ho))
   simp only[List.forIn_cons,Sem.run_bind,hn f List.mem_cons_self,ne_eq,not_false_eq_true,if_true,p1,p2,Result.andThen_ok,Sem.run_pure]
   exact ih
  ·cases h
theorem j2s {em:Bool} {d:Nat} {g:TypeId->Option (List (Nat×Bool))} {n:Nat} (hg:∀ t l,g t=some l->z5o P em d t l) {e:TypeId} {i:TypeInfo} (hi:P.info? e=some i) (w:World) (xs:Array Value) (hx:n<=xs.size):∀ (is:List Nat) (l:List (Nat×Bool)),
  N3 g P.cellsOf n (is.map fun i=>(i*P.cellsOf e,e))=some l->(∀ o∈l,q00 o.2 xs[o.1]? xs[o.1]?) ->
  (forIn is PUnit.unit (fun(i:Nat) (_:PUnit)=>do
   Instr.checkKey em d e (<-part e xs (i*(<-sizeOf e)))
   pure (ForInStep.yield PUnit.unit):Nat->PUnit->Sem (ForInStep PUnit))).run P w=.ok PUnit.unit w
 | [],l,h,_=>by simp
 | j::is,l,h,ha=>by
  simp only[List.map_cons,N3]at h
  split at h
  ·rename_i l1 l2 h1 h2
   obtain⟨hle,h⟩:=N4 h
   have hle:=Nat.le_of_ble_eq_true hle
   cases h
   obtain⟨a,p1,p2⟩:=hg e l1 h1 w xs (j*P.cellsOf e) (by omega) (fun o ho=>by
    rw[Nat.add_comm];exact ha (o.1+j*P.cellsOf e,o.2) (List.mem_append_left _ (List.mem_map.2 ⟨o,ho,rfl⟩)))
   have ih:=j2s hg hi w xs hx is l2 h2 (fun o ho=>ha o (List.mem_append_right _ ho))
   simp only[List.forIn_cons,Sem.run_bind,run_sizeOf w hi,Result.andThen_ok,p1,p2,Sem.run_pure]
   exact ih
  ·cases h
theorem z6j (em:Bool) (d:Nat):∀ (n:Nat) (t:TypeId) (l:List (Nat×Bool)),q07 P n t=some l->z5o P em (d+n) t l
 | 0,_,_,h=>by simp[q07]at h
 | n+1,t,l,h=>by
  have hlt:∀ o∈l,o.1<P.cellsOf t:=(q6i 0 (n+1) t l h).1
  simp only[q07]at h
  split at h
  ·rename_i hu
   obtain⟨h1,h2⟩:=N4 h
   cases h2
   intro w xs off hx ha
   have h0:=ha (0,true) (by simp)
   simp only[Nat.add_zero]at h0
   obtain⟨x,y,e1,e2⟩:=h0
   exact⟨.bool x,by simp[part,isAgg,run_underlying hu,e1],by simp[Instr.checkKey,run_underlying hu]⟩
  ·rename_i k hu
   obtain⟨h1,h2⟩:=N4 h
   cases h2
   intro w xs off hx ha
   have h0:=ha (0,false) (by simp)
   simp only[Nat.add_zero]at h0
   obtain⟨k',x,y,e1,e2⟩:=h0
   exact⟨.int k' x,by simp[part,isAgg,run_underlying hu,e1],by simp[Instr.checkKey,run_underlying hu]⟩
  ·rename_i fs hu
   cases hc:(P.stoodInHeld t||fs.toList.any fun f=>f.name== "_")with
   | true=>rw[hc]at h;cases h
   | false =>
    rw[hc,cond_false]at h
    simp only[Bool.or_eq_false_iff,List.any_eq_false,beq_iff_eq]at hc
    have ih:=fun t l h=>z6j em d n t l h
    intro w xs off hx ha
    obtain⟨i,hi⟩:=q4k hu
    have hsx:P.cellsOf t<=(xs.extract off (off+P.cellsOf t)).size:=by simp;omega
    have q:=j2r ih w (xs.extract off (off+P.cellsOf t)) hsx fs.toList l (fun f hf=>hc.2 f hf) h (fun o ho=>by
     rw[Q2 (hlt o ho) hx];exact ha o ho)
    refine⟨.agg (xs.extract off (off+P.cellsOf t)),by simp[part,isAgg,run_underlying hu,run_sizeOf w hi],?_⟩
    rw[show d+(n+1)=(d+n)+1 from rfl,Instr.checkKey]
    simp only[Sem.run_bind,run_underlying hu,Result.andThen_ok,<-Array.forIn_toList]
    rw[q];rfl
  ·rename_i k e hu
   obtain⟨hie,h⟩:=N4 h
   obtain⟨ie,hie⟩:=Option.isSome_iff_exists.1 hie
   have ih:=fun t l h=>z6j em d n t l h
   intro w xs off hx ha
   obtain⟨i,hi⟩:=q4k hu
   have hsx:P.cellsOf t<=(xs.extract off (off+P.cellsOf t)).size:=by simp;omega
   have q:=j2s ih hie w (xs.extract off (off+P.cellsOf t)) hsx (List.range k) l h (fun o ho=>by
    rw[Q2 (hlt o ho) hx];exact ha o ho)
   refine⟨.agg (xs.extract off (off+P.cellsOf t)),by simp[part,isAgg,run_underlying hu,run_sizeOf w hi],?_⟩
   rw[show d+(n+1)=(d+n)+1 from rfl,Instr.checkKey]
   simp only[Sem.run_bind,run_underlying hu,Result.andThen_ok]
   simp only[Std.Legacy.Range.forIn_eq_forIn_range',Std.Legacy.Range.size,Nat.sub_zero,Nat.add_one_sub_one,Nat.div_one,<-List.range_eq_range']
   rw[q];rfl
  ·cases h
structure KeyTy (P:Program) (K:TypeId) (ak:Bool) (tk:Ty):Prop where
 flat:tk.flat=true
 chk:∀ em w w' A v x,RepVal w' A ak tk v x->(Instr.checkKey em 10000 K v).run P w=.ok () w
 find:∀ (w w':World) A v x (b:MapEntry->Bool) (es:List MapEntry),RepVal w' A ak tk v x->(∀ e∈es,∃ y,RepVal w' A ak tk e.key y/\b e=tk.eqb x y) ->
  (Instr.findKey K v es).run P w=.ok (es.findIdx? b |>.bind fun i=>es[i]?.map fun e=>(i,e.val)) w
 same:∀ w A v v' x,RepVal w A ak tk v x->RepVal w A ak tk v' x->Instr.sameBits 10000 v v'=true
theorem j49 {kind:TypeDesc} {v:Value} {b:MapEntry->Bool}:∀ (es:List MapEntry) (i:Nat),(∀ e∈es,Instr.sameNow kind v e.key=some (b e))->Instr.findNow kind v es i=some (es.findIdx? b |>.bind fun j=>es[j]?.map fun e=>(i+j,e.val))
 | [],i,_=>rfl
 | e::es,i,h=>by
  rw[Instr.findNow,h e List.mem_cons_self]
  cases hb:b e with
  | true=>simp[List.findIdx?_cons,hb]
  | false =>
   have ih:=j49 es (i+1) (fun e' he=>h e' (List.mem_cons_of_mem _ he))
   simp only[ih,List.findIdx?_cons,hb,Bool.false_eq_true,if_false]
   cases es.findIdx? b with
   | none=>rfl
   | some j=>simp only[Option.bind_some,Option.map_some,List.getElem?_cons_succ];cases es[j]? <;> simp;omega
theorem j48 {K:TypeId} {w:World} {v:Value} {b:MapEntry->Bool}:∀ (es:List MapEntry) (i:Nat),(∀ e∈es,(Op.equal K v e.key).run P w=.ok (b e) w)->(Instr.findAsking K v es i).run P w=.ok (es.findIdx? b |>.bind fun j=>es[j]?.map fun e=>(i+j,e.val)) w
 | [],i,_=>rfl
 | e::es,i,h=>by
  rw[Instr.findAsking,Sem.run_bind,h e List.mem_cons_self,Result.andThen_ok]
  cases hb:b e with
  | true=>simp[List.findIdx?_cons,hb]
  | false =>
   have ih:=j48 es (i+1) (fun e' he=>h e' (List.mem_cons_of_mem _ he))
   simp only[Bool.false_eq_true,if_false,ih,List.findIdx?_cons,hb]
   cases es.findIdx? b with
   | none=>rfl
   | some j=>simp only[Option.bind_some,Option.map_some,List.getElem?_cons_succ];cases es[j]? <;> simp;omega
theorem j83 (n:Nat):∀ {a b:Value},(∃ tv,q00 tv (some a) (some b))->a=b->Instr.sameBits n a b=true:=by
 rintro a b ⟨tv,h⟩ rfl
 cases tv with
 | false=>obtain⟨k,x,y,h1,-⟩:=h;cases h1;cases n<;>simp[Instr.sameBits]
 | true=>obtain⟨x,y,h1,-⟩:=h;cases h1;cases n<;>simp[Instr.sameBits]
theorem j1f {α:Type}:∀ {l:List α} {a b:α},(a,b)∈l.zip l->a=b/\a∈l
 | [],_,_,h=>by cases h
 | x::r,a,b,h=>by
  rw[List.zip_cons_cons]at h
  rcases List.mem_cons.1 h with h | h
  ·cases h;exact⟨rfl,List.mem_cons_self⟩
  ·exact⟨(j1f h).1,List.mem_cons_of_mem _ (j1f h).2⟩
theorem q7f {K:TypeId} {ti:TInfo} (hti:ti.OK P K) {ak:Bool} {tk:Ty} (hk:q4m ti ak tk=true):KeyTy P K ak tk:=by
 simp only[q4m,Bool.and_eq_true,decide_eq_true_eq,beq_iff_eq]at hk
 obtain⟨⟨⟨⟨hty,hag⟩,hf⟩,hsz⟩,hm⟩:=hk
 have hsz:=Nat.eq_of_beq_eq_true hsz
 obtain⟨-,d,hd,hagg,-,hint,-⟩:=hti.base
 cases ak with
 | false =>
  cases tk with
  | int k=>?_
  | _=>simp at hm
  ·have hu:P.underlying K=some (.int k):=by rw[hd,hint k hag hty]
   have hv:∀ {w A v x},RepVal w A false (.int k) v x->v=.int k x:=fun {w A v x} h=>by
    have:=h.2.2
    simpa[RepAt,F4]using this
   refine⟨rfl,fun em w w' A v x h=>?_,fun w w' A v x b es h hes=>?_,fun w A v v' x h h'=>?_⟩
   ·rw[hv h,show(10000:Nat)=9999+1 from rfl,Instr.checkKey];simp[run_underlying hu]
   ·rw[hv h]
    unfold Instr.findKey
    have hn:=j49 (kind:=.int k) (v:=.int k x) (b:=b) es 0 (fun e he=>by
     obtain⟨y,h1,h2⟩:=hes e he
     rw[hv h1,h2]
     simp[Instr.sameNow,Ty.eqb])
    rw[Sem.run_bind,run_underlying hu,Result.andThen_ok,hn]
    simp
   ·rw[hv h,hv h'];exact j83 _ ⟨false,k,x,x,rfl,rfl⟩ rfl
 | true =>
  cases heq:ti.eqo with
  | none=>simp[heq]at hm
  | some l=>?_
  ·simp only[heq,Bool.and_eq_true,List.all_eq_true,List.any_eq_true,List.mem_range]at hm
   obtain⟨hcov,hkin⟩:=hm
   have hkin:∀ p∈l,(Q6 tk)[p.1]? = some p.2:=fun p hp=>by
    have:=hkin p hp
    exact of_decide_eq_true (by simpa using this)
   obtain⟨he1,he2,he3,he4⟩:=hti.eqT l heq
   obtain⟨i,hi⟩:=q4k hd
   have hd':S5 d=true:=by rw[hagg];exact he3
   have whole:∀ (w:World) (zs:List Value),zs.length=tk.size->(part K zs.toArray 0).run P w=.ok (.agg zs.toArray) w:=fun w zs hz=>by
    have hex:zs.toArray.extract 0 (0+P.cellsOf K)=zs.toArray:=by
     rw[Nat.zero_add,he4,<-hsz,<-hz];simp
    unfold part
    rw[Sem.run_bind,q1d hd,hd']
    simp only[Result.andThen_ok,if_true,Sem.run_bind,run_sizeOf w hi,Sem.run_pure,hex]
   refine⟨hf,fun em w w' A v x h=>?_,fun w w' A v x b es h hes=>?_,fun w A v v' x h h'=>?_⟩
   ·obtain⟨us,rfl,hl,-,hr⟩:=h
    obtain⟨a,p1,p2⟩:=z6j em 9980 20 K l he1 w us.toArray 0 (by rw[he4];simp;omega) (fun o ho=>by
     have:=q6r tk hf _ _ x x hr hr o.1 o.2 (hkin o ho)
     simpa using this)
    rw[whole w us hl]at p1
    cases p1
    exact p2
   ·obtain⟨us,rfl,hl,-,hr⟩:=h
    have heach:∀ e∈es,(Op.equal K (.agg us.toArray) e.key).run P w=.ok (b e) w:=fun e he=>by
     obtain⟨y,⟨vs,hvs,hl',-,hr'⟩,h2⟩:=hes e he
     rw[hvs]
     obtain⟨p,q,r,p1,p2,p3,p4⟩:=(q6i 9980 20 K l he1).2 w us.toArray vs.toArray 0 (by rw[he4];simp;omega) (by rw[he4];simp;omega) (fun o ho=>by
      have:=q6r tk hf _ _ x y hr hr' o.1 o.2 (hkin o ho)
      simpa using this)
     rw[whole w us hl]at p1
     rw[whole w vs hl']at p2
     cases p1;cases p2
     have:r=b e:=by
      rw[h2]
      have hiff:r=true↔x=y:=by
       rw[p4,q4h tk hf _ _ x y hr hr']
       constructor
       ·intro h c hc
        obtain⟨o,ho,hoc⟩:=hcov c (by omega)
        have:=h o ho
        rw[Nat.eq_of_beq_eq_true hoc]at this
        simpa using this
       ·intro h o ho
        have hlt:o.1<tk.size:=by
         have:=hkin o ho
         rw[<-q3c];exact(List.getElem?_eq_some_iff.1 this).1
        simpa using h o.1 hlt
      cases hr1:r with
      | true=>exact((tk.eqb_iff hf x y).2 (hiff.1 hr1)).symm
      | false=>exact(tk.eqb_false hf (fun e=>by rw[hiff.2 e]at hr1;cases hr1)).symm
     subst this
     exact p3
    unfold Instr.findKey
    rw[Sem.run_bind,run_underlying hd,Result.andThen_ok]
    cases hes':es with
    | nil=>rfl
    | cons e r =>
     have hnone:Instr.findNow d (.agg us.toArray) (e::r) 0=none:=by
      rw[Instr.findNow]
      have:Instr.sameNow d (.agg us.toArray) e.key=none:=by cases d<;>simp[Instr.sameNow]
      rw[this]
     rw[hnone]
     have:=j48 (P:=P) (w:=w) (b:=b) es 0 heach
     rw[hes']at this
     simpa using this
   ·obtain⟨us,rfl,hl,-,hr⟩:=h
    obtain⟨vs,rfl,hl',-,hr'⟩:=h'
    have hget:=(q4h tk hf _ _ x x hr hr').1 rfl
    have huv:us=vs:=by
     apply List.ext_getElem?
     intro c
     by_cases hc:c<tk.size
     ·exact hget c hc
     ·rw[List.getElem?_eq_none (by omega),List.getElem?_eq_none (by omega)]
    subst huv
    have hself:∀ u∈us,Instr.sameBits 9999 u u=true:=fun u hu=>by
     obtain⟨c,hc⟩:=List.getElem?_of_mem hu
     have hlt:c<(Q6 tk).length:=by rw[q3c,<-hl];exact(List.getElem?_eq_some_iff.1 hc).1
     have:=q6r tk hf _ _ x x hr hr c _ (List.getElem?_eq_getElem hlt)
     rw[hc]at this
     exact j83 _ ⟨_,this⟩ rfl
    rw[show(10000:Nat)=9999+1 from rfl,Instr.sameBits]
    simp only[beq_self_eq_true,Bool.true_and,List.all_eq_true]
    rintro ⟨a,b⟩ hab
    have:a=b/\a∈us:=j1f (by simpa using hab)
    obtain⟨rfl,hu⟩:=this
    exact hself a hu
end Go.Abs
