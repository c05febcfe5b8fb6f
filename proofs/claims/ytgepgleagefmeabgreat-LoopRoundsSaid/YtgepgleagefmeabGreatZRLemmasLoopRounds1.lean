/- Lemmas on functions of the program, by name. -/
import Derived.Test.YtgepgleagefmeabGreatZRFuns
import Derived.Test.YtgepgleagefmeabGreatAbsSums
namespace Go.Proofs.Tryz
section
open Go Go.Abs

abbrev Rw:=Int × Int × Int × Unit
abbrev Ky:=Int × Int × Unit
abbrev KT:Ty:=.cons (.int .i64) (.cons (.int .i64) .nil)
abbrev Bg:=List (Ky × Int)
theorem kt_flat:KT.flat=true:=rfl
def kyOf (r:Rw):Ky:=(r.1,r.2.1,())
def toE (r:Rw):Ky × Int:=(kyOf r,r.2.2.1)
def toR (p:Ky × Int):Rw:=(p.1.1,p.1.2.1,p.2,())
def W (n:Int):Int:=IntKind.i64.wrap n
def nOf (m:Bg) (k:Ky):Int:=(mapGet KT m k).getD 0
structure BagIs (m:Bg) (T:Ky→Int):Prop where
  rise:Rise KT m
  num:∀ k,nOf m k=T k
  nz:∀ p∈m,p.2≠0
def pour (m:Bg) (k:Ky) (n:Int):Bg :=
  cond (nOf (mapSet KT (mapEnt KT m k 0) k (W (nOf m k+n))) k == 0) (mapDel KT (mapSet KT (mapEnt KT m k 0) k (W (nOf m k+n))) k) (mapSet KT (mapEnt KT m k 0) k (W (nOf m k+n)))
theorem nOf_set (m:Bg) (k j:Ky) (v:Int):nOf (mapSet KT m k v) j=if j=k then v else nOf m j:=by
  unfold nOf
  by_cases h:j=k
  · subst h; rw [mapGet_self kt_flat,if_pos rfl]; rfl
  · rw [mapGet_other kt_flat _ _ _ _ h,if_neg h]
theorem ent_rise {m:Bg} (h:Rise KT m) (k:Ky):Rise KT (mapEnt KT m k 0):=mapSet_rise kt_flat h
theorem nOf_ent (m:Bg) (k j:Ky):nOf (mapEnt KT m k 0) j=nOf m j:=by
  unfold mapEnt
  rw [nOf_set]
  split
  · rename_i h; subst h; rfl
  · rfl
theorem pour_is {m:Bg} {T:Ky→Int} (h:BagIs m T) (k:Ky) (n:Int):BagIs (pour m k n) (fun j=>if j=k then W (T k+n) else T j):=by
  have hr:=mapSet_rise kt_flat (k:=k) (v:=W (nOf m k+n)) (ent_rise h.rise k)
  have hn:∀ j,nOf (mapSet KT (mapEnt KT m k 0) k (W (nOf m k+n))) j=if j=k then W (T k+n) else T j:=fun j=>by
    rw [nOf_set,nOf_ent,h.num,h.num]
  have hmem:∀ p∈mapSet KT (mapEnt KT m k 0) k (W (nOf m k+n)),p=(k,W (T k+n))∨(p∈m∧p.1≠k):=fun p hp=>by
    by_cases hk:p.1=k
    · have h1:mapGet KT (mapSet KT (mapEnt KT m k 0) k (W (nOf m k+n))) p.1=some p.2:=(mapGet_some kt_flat hr).2 hp
      rw [hk,mapGet_self kt_flat] at h1
      left
      exact Prod.ext hk ((Option.some.inj h1).symm.trans (by rw [h.num]))
    · have h1:mapGet KT (mapSet KT (mapEnt KT m k 0) k (W (nOf m k+n))) p.1=some p.2:=(mapGet_some kt_flat hr).2 hp
      unfold mapEnt at h1
      rw [mapGet_other kt_flat _ _ _ _ hk,mapGet_other kt_flat _ _ _ _ hk] at h1
      exact .inr ⟨(mapGet_some kt_flat h.rise).1 h1,hk⟩
  unfold pour
  generalize mapSet KT (mapEnt KT m k 0) k (W (nOf m k+n))=M at hr hn hmem ⊢
  have hz:=hn k
  rw [if_pos rfl] at hz
  rw [hz]
  by_cases h0:W (T k+n)=0
  · rw [h0]
    simp only [beq_self_eq_true,cond_true]
    refine ⟨mapDel_rise hr,fun j=>?_,fun p hp=>?_⟩
    · unfold nOf
      by_cases hj:j=k
      · subst hj; rw [mapDel_self kt_flat,if_pos rfl]; rfl
      · rw [mapDel_other kt_flat hr hj,if_neg hj]
        have:=hn j
        rw [if_neg hj] at this
        exact this
    · have hp1:p∈M∧¬ KT.eqb k p.1=true:=by
        simpa [mapDel] using hp
      rcases hmem p hp1.1 with h2 | ⟨h2,-⟩
      · exact absurd ((KT.eqb_iff kt_flat k p.1).2 (by rw [h2])) hp1.2
      · exact h.nz p h2
  · have hb:(W (T k+n) == 0)=false:=by simpa using h0
    rw [hb,cond_false]
    refine ⟨hr,hn,fun p hp=>?_⟩
    rcases hmem p hp with h2 | ⟨h2,-⟩
    · rw [h2]; exact h0
    · exact h.nz p h2
theorem bag_mem {m:Bg} {T:Ky→Int} (h:BagIs m T) (p:Ky × Int):p∈m↔p.2≠0∧T p.1=p.2:=by
  constructor
  · intro hp
    refine ⟨h.nz p hp,?_⟩
    rw [←h.num]
    unfold nOf
    rw [(mapGet_some kt_flat h.rise).2 hp]; rfl
  · rintro ⟨h0,h1⟩
    rw [←h.num] at h1
    unfold nOf at h1
    cases hg:mapGet KT m p.1 with
    | none=>rw [hg] at h1; exact absurd h1.symm h0
    | some v =>
      rw [hg] at h1
      have h1:v=p.2:=h1
      subst h1
      exact (mapGet_some kt_flat h.rise).1 hg
theorem bag_nodup {m:Bg} (h:Rise KT m):m.Nodup:=List.Pairwise.imp (fun {a b} hab e=>hab (by rw [e])) (h.ne kt_flat)
theorem bag_ext {m m':Bg} {T:Ky→Int} (h:BagIs m T) (h':BagIs m' T):m=m' :=
  rise_ext kt_flat h.rise h'.rise ((List.perm_ext_iff_of_nodup (bag_nodup h.rise) (bag_nodup h'.rise)).2 fun p=>(bag_mem h p).trans (bag_mem h' p).symm)
def tot:List Rw→(Ky→Int)→(Ky→Int)
  | [],T=>T
  | r :: l,T=>tot l (fun j=>if j=kyOf r then W (T (kyOf r)+r.2.2.1) else T j)
def bagOf (l:List Rw) (m:Bg):Bg:=l.foldl (fun m r=>pour m (kyOf r) r.2.2.1) m
theorem bagOf_is:∀ (l:List Rw) {m:Bg} {T:Ky→Int},BagIs m T→BagIs (bagOf l m) (tot l T)
  | [],_,_,h=>h
  | r :: l,_,_,h=>bagOf_is l (pour_is h (kyOf r) r.2.2.1)
def insR:List Rw→Rw→List Rw
  | [],r=>[r]
  | p :: o,r=>if KT.lt (kyOf p) (kyOf r)=true then p :: insR o r else if kyOf p=kyOf r then (p.1,p.2.1,W (p.2.2.1+r.2.2.1),()) :: o else r :: p :: o
def InR (n:Int):Prop:=W n=n
theorem inR_W (n:Int):InR (W n):=by unfold InR W; rw [IntKind.wrap_i64,IntKind.wrap_i64]; omega
structure RowsAre (o:List Rw) (T:Ky→Int):Prop where
  rise:Rise KT (o.map toE)
  num:∀ k,nOf (o.map toE) k=T k
theorem insR_map:∀ (o:List Rw) (r:Rw),Rise KT (o.map toE)→InR r.2.2.1→(insR o r).map toE=mapSet KT (o.map toE) (kyOf r) (W (nOf (o.map toE) (kyOf r)+r.2.2.1))
  | [],r,_,hw=>by
    show [toE r]=[(kyOf r,W (0+r.2.2.1))]
    rw [Int.zero_add,hw]; rfl
  | p :: o,r,h,hw=>by
    obtain ⟨h1,h2⟩:=List.pairwise_cons.1 h
    have ih:=insR_map o r h2 hw
    unfold insR
    have e1:(List.map toE (p :: o))=toE p :: o.map toE:=rfl
    by_cases hlt:KT.lt (kyOf p) (kyOf r)=true
    · rw [if_pos hlt,e1]
      have hne:kyOf r≠kyOf p:=fun e=>by rw [e,KT.lt_irr kt_flat] at hlt; cases hlt
      have hng:KT.lt (kyOf r) (kyOf p)=false:=by
        cases hq:KT.lt (kyOf r) (kyOf p) with
        | false=>rfl
        | true=>have:=KT.lt_trans kt_flat _ _ _ hlt hq; rw [KT.lt_irr kt_flat] at this; cases this
      have hn:nOf (toE p :: o.map toE) (kyOf r)=nOf (o.map toE) (kyOf r):=by
        unfold nOf mapGet
        rw [List.find?_cons,show KT.eqb (kyOf r) (toE p).1=false from KT.eqb_false kt_flat hne]
      rw [hn,List.map_cons,ih]
      show _=mapSet KT (toE p :: o.map toE) _ _
      rw [mapSet,show KT.eqb (kyOf r) (toE p).1=false from KT.eqb_false kt_flat hne,cond_false,show KT.lt (kyOf r) (toE p).1=false from hng,cond_false]
    · rw [if_neg hlt,e1]
      by_cases he:kyOf p=kyOf r
      · rw [if_pos he]
        have heq:KT.eqb (kyOf r) (toE p).1=true:=(KT.eqb_iff kt_flat _ _).2 he.symm
        have hn:nOf (toE p :: o.map toE) (kyOf r)=p.2.2.1:=by
          unfold nOf mapGet
          rw [List.find?_cons,heq]; rfl
        rw [hn,mapSet,heq,cond_true,←he]; rfl
      · rw [if_neg he]
        have hrp:KT.lt (kyOf r) (kyOf p)=true:=by
          rcases KT.lt_tri kt_flat (kyOf p) (kyOf r) with h3 | h3 | h3
          · exact absurd h3 hlt
          · exact absurd h3 he
          · exact h3
        have heq:KT.eqb (kyOf r) (toE p).1=false:=KT.eqb_false kt_flat (fun e=>he e.symm)
        have hn:nOf (toE p :: o.map toE) (kyOf r)=0:=by
          unfold nOf
          rw [(mapGet_none kt_flat).2]
          · rfl
          · intro q hq e
            rcases List.mem_cons.1 hq with rfl | hq
            · exact he e
            · have h4:=h1 q hq
              rw [e] at h4
              have:=KT.lt_trans kt_flat _ _ _ hrp h4
              rw [KT.lt_irr kt_flat] at this; cases this
        rw [hn,mapSet,heq,cond_false,show KT.lt (kyOf r) (toE p).1=true from hrp,cond_true,Int.zero_add,hw]; rfl
theorem insR_are {o:List Rw} {T:Ky→Int} (h:RowsAre o T) {r:Rw} (hw:InR r.2.2.1):RowsAre (insR o r) (fun j=>if j=kyOf r then W (T (kyOf r)+r.2.2.1) else T j) where
  rise:=by rw [insR_map o r h.rise hw]; exact mapSet_rise kt_flat h.rise
  num k:=by rw [insR_map o r h.rise hw,nOf_set,h.num,h.num]
def rowsOf (l:List Rw) (o:List Rw):List Rw:=l.foldl insR o
theorem rowsOf_are:∀ (l:List Rw) {o:List Rw} {T:Ky→Int},RowsAre o T→(∀ r∈l,InR r.2.2.1)→RowsAre (rowsOf l o) (tot l T)
  | [],_,_,h,_=>h
  | r :: l,_,_,h,hw=>rowsOf_are l (insR_are h (hw r List.mem_cons_self)) fun q hq=>hw q (List.mem_cons_of_mem _ hq)
def nzB (r:Rw):Bool:=r.2.2.1 != 0
theorem filter_is {o:List Rw} {T:Ky→Int} (h:RowsAre o T):BagIs ((o.filter nzB).map toE) T:=by
  have hm:(o.filter nzB).map toE=(o.map toE).filter fun p=>p.2 != 0:=by
    rw [List.filter_map]; rfl
  rw [hm]
  have hr:Rise KT ((o.map toE).filter fun p=>p.2 != 0):=List.Pairwise.filter _ h.rise
  refine ⟨hr,fun k=>?_,fun p hp=>by have:=(List.mem_filter.1 hp).2; simpa using this⟩
  rw [←h.num k]
  unfold nOf
  cases hg:mapGet KT (o.map toE) k with
  | none =>
    rw [(mapGet_none kt_flat).2]
    exact fun p hp=>(mapGet_none kt_flat).1 hg p (List.mem_filter.1 hp).1
  | some v =>
    have hmem:=(mapGet_some kt_flat h.rise).1 hg
    by_cases hv:v=0
    · subst hv
      rw [(mapGet_none kt_flat).2]
      · rfl
      · intro p hp e
        have h1:=List.mem_filter.1 hp
        have h2:=nodup_uniq (h.rise.ne kt_flat) h1.1 hmem e
        rw [h2] at h1
        simp at h1
    · rw [(mapGet_some kt_flat hr).2 (List.mem_filter.2 ⟨hmem,by simpa using hv⟩)]
theorem rows_bag {l:List Rw} (hw:∀ r∈l,InR r.2.2.1):(rowsOf l []).filter nzB=(bagOf l []).map toR:=by
  have h0:BagIs [] (fun _=>0):=⟨List.Pairwise.nil,fun _=>rfl,fun p hp=>by cases hp⟩
  have h1:RowsAre [] (fun _=>0):=⟨List.Pairwise.nil,fun _=>rfl⟩
  have h2:=bag_ext (filter_is (rowsOf_are l h1 hw)) (bagOf_is l h0)
  rw [←h2,List.map_map]
  have:toR∘toE=id:=funext fun r=>rfl
  rw [this,List.map_id]
theorem bag_rise (l:List Rw):Rise KT (bagOf l []):=(bagOf_is l (T:=fun _=>0) ⟨List.Pairwise.nil,fun _=>rfl,fun p hp=>by cases hp⟩).rise
theorem pour_length (m:Bg) (k:Ky) (n:Int):(pour m k n).length≤m.length+1:=by
  have key:∀ (m:Bg) (k:Ky) (v:Int),(mapSet KT m k v).length≤m.length+1:=by
    intro m
    induction m with
    | nil=>intro k v; simp [mapSet]
    | cons p r ih =>
      intro k v
      have:=ih k v
      simp only [mapSet]
      cases KT.eqb k p.1 with
      | true=>simp
      | false =>
        cases KT.lt k p.1 with
        | true=>simp
        | false=>simp only [cond_false,List.length_cons]; omega
  have ent:(mapSet KT (mapEnt KT m k 0) k (W (nOf m k+n))).length=(mapEnt KT m k 0).length:=by
    have k2:∀ (m:Bg) (k:Ky) (v w:Int),(mapSet KT (mapSet KT m k v) k w).length=(mapSet KT m k v).length:=by
      intro m
      induction m with
      | nil=>intro k v w; simp [mapSet,KT.eqb_self kt_flat]
      | cons p r ih =>
        intro k v w
        simp only [mapSet]
        cases h1:KT.eqb k p.1 with
        | true=>simp only [cond_true,mapSet,KT.eqb_self kt_flat]; rfl
        | false =>
          cases h2:KT.lt k p.1 with
          | true=>simp only [cond_true,cond_false,mapSet,KT.eqb_self kt_flat]; rfl
          | false=>simp only [cond_false,mapSet,h1,h2,List.length_cons,ih]
    exact k2 _ _ _ _
  have h1:=key m k ((mapGet KT m k).getD 0)
  unfold pour
  cases (nOf (mapSet KT (mapEnt KT m k 0) k (W (nOf m k+n))) k == 0) with
  | true =>
    simp only [cond_true]
    refine Nat.le_trans (List.length_filter_le _ _) ?_
    rw [ent]; exact h1
  | false =>
    simp only [cond_false]
    rw [ent]; exact h1
theorem bag_length:∀ (l:List Rw) (m:Bg),(bagOf l m).length≤m.length+l.length
  | [],m=>Nat.le_refl _
  | r :: l,m=>by
    have h1:=bag_length l (pour m (kyOf r) r.2.2.1)
    have h2:=pour_length m (kyOf r) r.2.2.1
    show (bagOf l (pour m (kyOf r) r.2.2.1)).length≤_
    simp only [List.length_cons]; omega
end

section
open Go Go.Abs

theorem cmp64 (v w:Int):cmp_Compare_int64 (v,w,())=some (if v < w then -1 else if v > w then 1 else 0,()):=by
  unfold cmp_Compare_int64 cmp_isNaN_int64
  simp only [bneF rfl,Option.bind_some,cond_false,cond_dec]
  split
  · rfl
  · split <;> rfl
theorem cmp_or (p q:Int):cmp_Or_int ([p,q],())=some (if p≠0 then p else q,()):=by
  have f0:cmp_Or_int_l1 ([p,q],()) ((0:Int),())=if p=0 then some (.inl ((1:Int),())) else some (.inr (.inl (p,()))):=by
    unfold cmp_Or_int_l1
    have g:getI [p,q] (0:Int)=some p:=rfl
    have d0:decide ((0:Int) < (([p,q]:List Int).length:Int))=true:=rfl
    have w0:IntKind.i64.wrap ((0:Int)+1)=1:=by decide
    simp only [d0,cond_true,g,Option.bind_some,cond_bne,w0]
  have f1:cmp_Or_int_l1 ([p,q],()) ((1:Int),())=if q=0 then some (.inl ((2:Int),())) else some (.inr (.inl (q,()))):=by
    unfold cmp_Or_int_l1
    have g:getI [p,q] (1:Int)=some q:=rfl
    have d0:decide ((1:Int) < (([p,q]:List Int).length:Int))=true:=rfl
    have w0:IntKind.i64.wrap ((1:Int)+1)=2:=by decide
    simp only [d0,cond_true,g,Option.bind_some,cond_bne,w0]
  have f2:cmp_Or_int_l1 ([p,q],()) ((2:Int),())=some (.inr (.inr (.inl ()))):=rfl
  unfold cmp_Or_int
  by_cases hp:p=0
  · rw [if_pos hp] at f0
    rw [loopM_inl f0,if_neg (by simpa using hp)]
    by_cases hq:q=0
    · rw [if_pos hq] at f1
      rw [loopM_inl f1,loopM_inr f2,hq]; rfl
    · rw [if_neg hq] at f1
      rw [loopM_inr f1]; rfl
  · rw [if_neg hp] at f0
    rw [loopM_inr f0,if_pos hp]; rfl
def cmpK (x y:Rw):Int:=if x.1 < y.1 then -1 else if x.1 > y.1 then 1 else if x.2.1 < y.2.1 then -1 else if x.2.1 > y.2.1 then 1 else 0
theorem rows_cmp (x y:Rw):bags_Bag_Rows_c1 (x,y,())=some (cmpK x y,()):=by
  unfold bags_Bag_Rows_c1 cmpK
  simp only [cmp64,Option.bind_some,cmp_or]
  by_cases h1:x.1 < y.1
  · simp [h1]
  · by_cases h2:x.1 > y.1
    · simp [h1,h2]
    · simp [h1,h2]
theorem cmpK_neg (x y:Rw):cmpK x y < 0↔KT.lt (kyOf x) (kyOf y)=true:=by
  have h:KT.lt (kyOf x) (kyOf y)=(decide (x.1 < y.1) || ((x.1 == y.1) && (decide (x.2.1 < y.2.1) || ((x.2.1 == y.2.1) && false)))):=rfl
  rw [h]
  unfold cmpK
  by_cases h1:x.1 < y.1
  · simp [h1]
  · by_cases h2:x.1 > y.1
    · have h3:¬ x.1=y.1:=by omega
      simp [h1,h2,h3]
    · have h3:x.1=y.1:=by omega
      by_cases h4:x.2.1 < y.2.1
      · simp [h3,h4]
      · by_cases h5:x.2.1 > y.2.1
        · simp [h3,h4,h5]
        · simp [h3,h4,h5]
theorem allN_push {E γ:Type} {F:Type} {row:E→F} {b:Nat} {k:((List F × Unit) ⊕ Empty)→Option γ} {f:List E→E→(List F × Unit)→Option ((List F × Unit) ⊕ ((List F × Unit) ⊕ Empty))} {g:(List F × Unit)→Option ((List F × Unit) ⊕ ((List F × Unit) ⊕ Empty))}
    (hf:∀ r e (y:List F),y.length+1≤b→f r e (y,())=some (.inl (y++[row e],()))) (hg:∀ y:List F,g (y,())=some (.inr (.inl (y,())))) {c:γ} :
    ∀ (n:Nat) (l:List E) (y:List F),l.length=n→y.length+n≤b→(∀ ord:List E,ord.Perm l→k (.inl (y++ord.map row,()))=some c)→AllN f g k n l (y,()) c
  | 0,l,y,hl,hb,h=>by
    have:l=[]:=List.eq_nil_of_length_eq_zero hl
    subst this
    refine ⟨.inl (y,()),hg y,?_⟩
    have:=h [] (List.Perm.refl _)
    simpa using this
  | n+1,[],y,hl,_,_=>by simp at hl
  | n+1,e :: l,y,hl,hb,h=>by
    intro p r hp
    refine .inr ⟨_,hf r p y (by omega),allN_push hf hg n r (y++[row p]) ?_ ?_ fun ord ho=>?_⟩
    · have:=hp.length_eq
      simp only [List.length_cons] at this hl
      omega
    · simp only [List.length_append,List.length_cons,List.length_nil]; omega
    · have:=h (p :: ord) ((ho.cons p).trans hp.symm)
      rw [List.map_cons] at this
      rw [List.append_assoc]; exact this
theorem room24 {n:Nat} (h:n≤4000000000000):roomOk n 24=true:=by
  unfold roomOk
  rw [Bool.and_eq_true]
  exact ⟨Nat.ble_eq_true_of_le (by omega),Nat.ble_eq_true_of_le (by omega)⟩
theorem room1 {n:Nat} (h:n≤4000000000000):roomOk n 1=true:=by
  unfold roomOk
  rw [Bool.and_eq_true]
  exact ⟨Nat.ble_eq_true_of_le (by omega),Nat.ble_eq_true_of_le (by omega)⟩
theorem rows_sort {m:Bg} (h:Rise KT m) {z:List Rw} (hz:z.Perm (m.map toR)):sortP (fun a b=>(bags_Bag_Rows_c1 (a,b,())).map fun r=>r.1) z=some (m.map toR):=by
  have hlt:∀ x y:Rw,ltF (fun a b=>(bags_Bag_Rows_c1 (a,b,())).map fun r=>r.1) x y↔KT.lt (kyOf x) (kyOf y)=true:=fun x y=>by
    unfold ltF
    simp only [rows_cmp,Option.map_some]
    rw [←cmpK_neg]
    exact ⟨fun ⟨v,h1,h2⟩=>by cases h1; exact h2,fun h=>⟨_,rfl,h⟩⟩
  have huniq:∀ x∈z,∀ y∈z,kyOf x=kyOf y→x=y:=by
    intro x hx y hy e
    obtain ⟨p,hp,rfl⟩:=List.mem_map.1 (hz.mem_iff.1 hx)
    obtain ⟨q,hq,rfl⟩:=List.mem_map.1 (hz.mem_iff.1 hy)
    rw [nodup_uniq (h.ne kt_flat) hp hq e]
  refine sortP_eq ⟨fun x _ y _=>⟨_,by rw [rows_cmp]; rfl⟩,fun x _=>?_,fun x _ y _ w _=>?_,fun x hx y hy h1 h2=>?_⟩ hz.symm ?_
  · rw [hlt,KT.lt_irr kt_flat]; simp
  · rw [hlt,hlt,hlt]; exact KT.lt_trans kt_flat _ _ _
  · rw [hlt] at h1 h2
    rcases KT.lt_tri kt_flat (kyOf x) (kyOf y) with h3 | h3 | h3
    · exact absurd h3 h1
    · exact huniq x hx y hy h3
    · exact absurd h3 h2
  · unfold Srt
    rw [List.pairwise_map]
    refine List.Pairwise.imp (fun {a b} hab=>?_) h
    rw [hlt]
    intro hba
    have:KT.lt a.1 a.1=true:=KT.lt_trans kt_flat _ _ _ hab hba
    rw [KT.lt_irr kt_flat] at this; cases this
theorem rows_eq {m:Bg} (h:Rise KT m) (hl:m.length≤3000000000000):bags_Bag_Rows (m,())=some (m.map toR,()):=by
  unfold bags_Bag_Rows
  refine anyX_some ?_
  refine allN_push (row:=toR) (b:=4000000000000) (fun r e y hb=>?_) (fun y=>rfl) _ m [] rfl (by simp; omega) fun ord ho=>?_
  · unfold bags_Bag_Rows_l1
    rw [show ∀ x:Rw,([x]:List Rw).length=1 from fun _=>rfl,room24 hb]; rfl
  · have hlen:([]++ord.map toR).length≤4000000000000:=by
      rw [List.nil_append,List.length_map,ho.length_eq]; omega
    show cond (roomOk ([]++ord.map toR).length 1) _ none=_
    rw [room1 hlen,cond_true,List.nil_append,rows_sort h (ho.map toR)]; rfl
def sc (n:Int) (r:Rw):Rw:=(r.1,r.2.1,W (n*r.2.2.1),())
theorem bagOf_append (l l':List Rw) (m:Bg):bagOf (l++l') m=bagOf l' (bagOf l m):=List.foldl_append
theorem bagOf_take (a:List Rw) (n:Int) (m:Bg) {i:Nat} (h:i < a.length):bagOf ((a.take (i+1)).map (sc n)) m=pour (bagOf ((a.take i).map (sc n)) m) (kyOf a[i]) (W (n*a[i].2.2.1)):=by
  rw [List.take_succ_eq_append_getElem h,List.map_append,bagOf_append]; rfl
end

section
open Go Go.Abs

theorem ahead_eq (p r:Rw):ref_rowsAhead (p,r,())=some (KT.lt (kyOf p) (kyOf r),()):=by
  have h:KT.lt (kyOf p) (kyOf r)=(decide (p.1 < r.1) || ((p.1 == r.1) && (decide (p.2.1 < r.2.1) || ((p.2.1 == r.2.1) && false)))):=rfl
  rw [h]
  unfold ref_rowsAhead
  simp only [cond_bne]
  by_cases h1:p.1=r.1
  · simp [h1]
  · simp [h1]
def posR:List Rw→Rw→Nat
  | [],_=>0
  | p :: s,r=>if KT.lt (kyOf p) (kyOf r)=true then posR s r+1 else 0
theorem posR_le:∀ (o:List Rw) (r:Rw),posR o r≤o.length
  | [],_=>Nat.le_refl _
  | p :: s,r=>by
    have:=posR_le s r
    unfold posR
    split
    · simp only [List.length_cons]; omega
    · omega
theorem insR_pos:∀ (o:List Rw) (r:Rw),insR o r=if ∃ p,o[posR o r]? = some p∧kyOf p=kyOf r then o.modify (posR o r) (fun p=>(p.1,p.2.1,W (p.2.2.1+r.2.2.1),())) else o.take (posR o r)++r :: o.drop (posR o r)
  | [],r=>by simp [insR,posR]
  | p :: s,r=>by
    have ih:=insR_pos s r
    unfold insR posR
    by_cases hlt:KT.lt (kyOf p) (kyOf r)=true
    · simp only [hlt,if_true,List.getElem?_cons_succ,List.take_succ_cons,List.drop_succ_cons,List.cons_append,List.modify_succ_cons,ih]
      split
      · rfl
      · rfl
    · simp only [if_neg hlt,List.getElem?_cons_zero,List.take_zero,List.drop_zero,List.nil_append,List.modify_zero_cons,Option.some.injEq,exists_eq_left']
theorem find_at {n:Int} {v:Rw} {o:List Rw} (hl:o.length≤3000000000000):∀ (suf pre:List Rw),o=pre++suf→loopM (ref_Bag_l1 (o,n,()) v) ((pre.length:Int),())=some (.inl (((pre.length+posR suf v:Nat):Int),()))
  | [],pre,ho=>by
    have hlen:o.length=pre.length:=by rw [ho]; simp
    refine loopM_inr ?_
    unfold ref_Bag_l1
    simp only [dcF (show ¬ (pre.length:Int) < (o.length:Int) by omega),cond_false]
    rfl
  | p :: s,pre,ho=>by
    have hlen:o.length=pre.length+(s.length+1):=by rw [ho]; simp
    have hget:o[pre.length]? = some p:=by rw [ho,List.getElem?_append_right (Nat.le_refl _),Nat.sub_self]; rfl
    have hst:ref_Bag_l1 (o,n,()) v ((pre.length:Int),())=cond (KT.lt (kyOf p) (kyOf v)) (some (.inl (((pre.length+1:Nat):Int),()))) (some (.inr (.inl ((pre.length:Int),())))):=by
      unfold ref_Bag_l1
      simp only [dcT (show (pre.length:Int) < (o.length:Int) by omega),cond_true,inB_T (show pre.length < o.length by omega),Int.toNat_natCast,hget,Option.bind_some,ahead_eq,wrapS (show pre.length < 9223372036854775807 by omega)]
    unfold posR
    cases hlt:KT.lt (kyOf p) (kyOf v) with
    | true =>
      rw [hlt,cond_true] at hst
      rw [loopM_inl hst]
      have:=find_at (n:=n) (v:=v) hl s (pre++[p]) (by rw [ho]; simp)
      rw [List.length_append,List.length_singleton] at this
      rw [this,if_pos rfl]
      rw [show pre.length+1+posR s v=pre.length+(posR s v+1) from by omega]
    | false =>
      rw [hlt,cond_false] at hst
      rw [loopM_inr hst,if_neg (by simp)]; rfl
theorem set_mid {α:Type} (x y:α) (r:List α):∀ (l:List α),(l++x :: r).set l.length y=l++y :: r
  | []=>rfl
  | a :: l=>by
    show a :: ((l++x :: r).set l.length y)=_
    rw [set_mid x y r l]; rfl
theorem shift_eq {v:Rw} {o:List Rw} {q:Nat} (hl:o.length≤3000000000000):∀ (d:Nat),q+d≤o.length →
    loopM (ref_Bag_l2 ((q:Int),())) (((q+d:Nat):Int),(o++[v]).take (q+d+1)++o.drop (q+d),())=some (.inl ((o++[v]).take (q+1)++o.drop q,()))
  | 0,h=>by
    refine loopM_inr ?_
    unfold ref_Bag_l2
    simp only [dcF (show ¬ ((q+0:Nat):Int) > (q:Int) by omega),cond_false]
    rfl
  | d+1,h=>by
    have hn:(o++[v]).length=o.length+1:=by simp
    have hlen:((o++[v]).take (q+(d+1)+1)++o.drop (q+(d+1))).length=o.length+1:=by
      rw [List.length_append,List.length_take,List.length_drop,hn]; omega
    have hsplit:(o++[v]).take (q+(d+1)+1)=(o++[v]).take (q+(d+1))++[(o++[v])[q+(d+1)]'(by omega)]:=List.take_succ_eq_append_getElem (by omega)
    have htl:((o++[v]).take (q+(d+1))).length=q+(d+1):=by rw [List.length_take,hn]; omega
    have g1:((o++[v]).take (q+(d+1)+1)++o.drop (q+(d+1)))[q+d]? = some (o[q+d]'(by omega)):=by
      rw [List.getElem?_append_left (by rw [List.length_take,hn]; omega),List.getElem?_take_of_lt (by omega),List.getElem?_append_left (by omega),List.getElem?_eq_getElem (by omega)]
    have g2:∃ w,((o++[v]).take (q+(d+1)+1)++o.drop (q+(d+1)))[q+(d+1)]? = some w:=⟨_,List.getElem?_eq_getElem (by omega)⟩
    obtain ⟨w,g2⟩:=g2
    have hset:((o++[v]).take (q+(d+1)+1)++o.drop (q+(d+1))).set (q+(d+1)) (o[q+d]'(by omega))=(o++[v]).take (q+d+1)++o.drop (q+d):=by
      rw [hsplit,List.append_assoc]
      have:=set_mid ((o++[v])[q+(d+1)]'(by omega)) (o[q+d]'(by omega)) (o.drop (q+(d+1))) ((o++[v]).take (q+(d+1)))
      rw [htl] at this
      show ((o++[v]).take (q+(d+1))++_ :: o.drop (q+(d+1))).set _ _=_
      rw [this,List.drop_eq_getElem_cons (show q+d < o.length by omega)]; rfl
    have hw:IntKind.i64.wrap (((q+(d+1):Nat):Int) - 1)=((q+d:Nat):Int):=by
      rw [wrap64 (by omega) (by omega)]; omega
    rw [loopM_inl (s':=(((q+d:Nat):Int),(o++[v]).take (q+d+1)++o.drop (q+d),())) (by
      unfold ref_Bag_l2
      simp only [dcT (show ((q+(d+1):Nat):Int) > (q:Int) by omega),cond_true,hw,hlen,inB_T (show q+d < o.length+1 by omega),inB_T (show q+(d+1) < o.length+1 by omega),Int.toNat_natCast,g1,g2,Option.bind_some,hset])]
    exact shift_eq hl d (by omega)
theorem l3_eq:ref_Bag_l3=ref_Bag_l2:=rfl
theorem l4_eq:ref_Bag_l4=ref_Bag_l2:=rfl
theorem open_eq {v:Rw} {o:List Rw} (hl:o.length≤3000000000000) {q:Nat} (hq:q≤o.length) {β:Type} (K:List Rw→Option β) :
    (loopM (ref_Bag_l2 ((q:Int),())) ((IntKind.i64.wrap (((o++[v]).length:Int) - (1:Int))),(o++[v]),())).bind (Sum.elim (fun z14=>(cond (inB (q:Int) z14.1.length) ((z14.1[((q:Nat):Int).toNat]?).bind fun _=>K (z14.1.set (((q:Nat):Int).toNat) v)) none)) Empty.elim)=K (o.take q++v :: o.drop q):=by
  have hn:(o++[v]).length=o.length+1:=by simp
  have hw:IntKind.i64.wrap (((o++[v]).length:Int) - 1)=((q+(o.length - q):Nat):Int):=by
    rw [hn,wrap64 (by omega) (by omega)]; omega
  have hs:=shift_eq (v:=v) hl (o.length - q) (q:=q) (by omega)
  rw [show q+(o.length - q)=o.length from by omega,List.take_of_length_le (by omega),List.drop_of_length_le (Nat.le_refl _),List.append_nil] at hs
  rw [hw,show q+(o.length - q)=o.length from by omega,hs]
  have hlen:((o++[v]).take (q+1)++o.drop q).length=o.length+1:=by
    rw [List.length_append,List.length_take,List.length_drop,hn]; omega
  have hsplit:(o++[v]).take (q+1)=o.take q++[(o++[v])[q]'(by omega)]:=by
    rw [List.take_succ_eq_append_getElem (by omega),List.take_append_of_le_length hq]
  have hset:((o++[v]).take (q+1)++o.drop q).set q v=o.take q++v :: o.drop q:=by
    rw [hsplit,List.append_assoc]
    have:=set_mid ((o++[v])[q]'(by omega)) v (o.drop q) (o.take q)
    rw [List.length_take,show min q o.length=q from by omega] at this
    exact this
  obtain ⟨w,g⟩:∃ w,((o++[v]).take (q+1)++o.drop q)[q]? = some w:=⟨_,List.getElem?_eq_getElem (by omega)⟩
  simp only [Option.bind_some,Sum.elim_inl,hlen,inB_T (show q < o.length+1 by omega),cond_true,Int.toNat_natCast,g,hset]
theorem insR_length (o:List Rw) (r:Rw):(insR o r).length≤o.length+1:=by
  rw [insR_pos]
  split
  · rw [List.length_modify]; omega
  · rw [List.length_append,List.length_cons,List.length_take,List.length_drop]; omega
theorem rowsOf_length:∀ (l o:List Rw),(rowsOf l o).length≤o.length+l.length
  | [],o=>Nat.le_refl _
  | r :: l,o=>by
    have h1:=rowsOf_length l (insR o r)
    have h2:=insR_length o r
    show (rowsOf l (insR o r)).length≤_
    simp only [List.length_cons]; omega
theorem modify_get {α:Type} (f:α→α) (p:α):∀ (o:List α) (q:Nat),o[q]? = some p→o.modify q f=o.set q (f p)
  | [],q,h=>by simp at h
  | a :: o,0,h=>by simp at h; subst h; rfl
  | a :: o,q+1,h=>by
    show a :: o.modify q f=a :: o.set q (f p)
    rw [modify_get f p o q (by simpa using h)]
theorem ref_step {l:List Rw} {o:List Rw} {i:Nat} (hi:i < l.length) (hl:l.length≤3000000000000) (ho:o.length≤2999999999999):ref_Bag_l5 (l,()) (o,(i:Int),())=some (.inl (insR o l[i],((i+1:Nat):Int),())):=by
  have hq:=posR_le o l[i]
  have hf:=find_at (n:=(i:Int)) (v:=l[i]) (o:=o) (by omega) o [] rfl
  rw [List.length_nil,Nat.zero_add] at hf
  have hf':loopM (ref_Bag_l1 (o,(i:Int),()) l[i]) ((0:Int),())=some (.inl (((posR o l[i]:Nat):Int),())):=hf
  have hroom:(true && roomOk (o.length+([l[i]]:List Rw).length) 24 && true && true)=true:=by
    rw [show ([l[i]]:List Rw).length=1 from rfl,room24 (by omega)]; rfl
  unfold ref_Bag_l5
  simp only [dcT (show (i:Int) < (l.length:Int) by omega),cond_true,getI_nat,List.getElem?_eq_getElem hi,Option.bind_some,hf',Sum.elim_inl,wrapS (show i < 9223372036854775807 by omega),l3_eq,l4_eq,hroom]
  rw [insR_pos]
  by_cases hlt:posR o l[i] < o.length
  · simp only [dcT (show ((posR o l[i]:Nat):Int) < (o.length:Int) by omega),cond_true,inB_T hlt,Int.toNat_natCast,List.getElem?_eq_getElem hlt,Option.bind_some]
    by_cases h1:o[posR o l[i]].1=l[i].1
    · by_cases h2:o[posR o l[i]].2.1=l[i].2.1
      · have hk:kyOf o[posR o l[i]]=kyOf l[i]:=by unfold kyOf; rw [h1,h2]
        rw [if_pos ⟨_,rfl,hk⟩,modify_get _ _ o _ (List.getElem?_eq_getElem hlt),beqT h1,beqT h2]
        rfl
      · have hk:¬ ∃ p,some o[posR o l[i]]=some p∧kyOf p=kyOf l[i]:=by
          rintro ⟨p,hp,hk⟩
          cases hp
          unfold kyOf at hk
          simp only [Prod.mk.injEq] at hk
          exact h2 hk.2.1
        rw [if_neg hk,beqT h1,beqF h2,cond_true,cond_false]
        have:=open_eq (v:=l[i]) (by omega) hq (fun z=>(some (Sum.inl (z,((i+1:Nat):Int),())):Option ((List Rw × Int × Unit) ⊕ ((List Rw × Unit) ⊕ Empty))))
        simp only [Int.toNat_natCast] at this
        exact this
    · have hk:¬ ∃ p,some o[posR o l[i]]=some p∧kyOf p=kyOf l[i]:=by
        rintro ⟨p,hp,hk⟩
        cases hp
        unfold kyOf at hk
        simp only [Prod.mk.injEq] at hk
        exact h1 hk.1
      rw [if_neg hk,beqF h1,cond_false]
      have:=open_eq (v:=l[i]) (by omega) hq (fun z=>(some (Sum.inl (z,((i+1:Nat):Int),())):Option ((List Rw × Int × Unit) ⊕ ((List Rw × Unit) ⊕ Empty))))
      simp only [Int.toNat_natCast] at this
      exact this
  · have hnone:o[posR o l[i]]? = none:=List.getElem?_eq_none (by omega)
    simp only [dcF (show ¬ ((posR o l[i]:Nat):Int) < (o.length:Int) by omega),cond_false,hnone]
    rw [if_neg (by rintro ⟨p,hp,-⟩; cases hp)]
    have:=open_eq (v:=l[i]) (by omega) hq (fun z=>(some (Sum.inl (z,((i+1:Nat):Int),())):Option ((List Rw × Int × Unit) ⊕ ((List Rw × Unit) ⊕ Empty))))
    simp only [Int.toNat_natCast] at this
    exact this
theorem rowsOf_take (l:List Rw) {i:Nat} (h:i < l.length):rowsOf (l.take (i+1)) []=insR (rowsOf (l.take i) []) l[i]:=by
  rw [List.take_succ_eq_append_getElem h]
  unfold rowsOf
  rw [List.foldl_append]; rfl
theorem filter_take {o:List Rw} {i:Nat} (h:i < o.length):(o.take (i+1)).filter nzB=(o.take i).filter nzB++(if nzB o[i]=true then [o[i]] else []):=by
  rw [List.take_succ_eq_append_getElem h,List.filter_append]
  congr 1
  by_cases hz:nzB o[i]=true
  · rw [if_pos hz,List.filter_cons_of_pos hz]; rfl
  · rw [if_neg hz,List.filter_cons_of_neg hz]; rfl
theorem ref_Bag_eq {l:List Rw} (hl:l.length≤2900000000000):ref_Bag (l,())=some ((rowsOf l []).filter nzB,()):=by
  have h1:=loopM_fold' (f:=ref_Bag_l5 (l,())) l.length (fun i=>rowsOf (l.take i) []) (.inl (rowsOf l [],())) (fun i hi=>by
    have hlen:=rowsOf_length (l.take i) []
    rw [List.length_take,List.length_nil] at hlen
    rw [ref_step hi (by omega) (by omega),rowsOf_take l hi]) (by
    unfold ref_Bag_l5
    simp only [dcF (show ¬ (l.length:Int) < (l.length:Int) by omega),cond_false,List.take_length])
  have hlen:=rowsOf_length l []
  rw [List.length_nil] at hlen
  have h2:=loopM_fold' (f:=ref_Bag_l6 (rowsOf l [],())) (rowsOf l []).length (fun i=>((rowsOf l []).take i).filter nzB) (.inl ((rowsOf l []).filter nzB,())) (fun i hi=>by
    have hfl:=List.length_filter_le nzB ((rowsOf l []).take i)
    rw [List.length_take] at hfl
    unfold ref_Bag_l6
    rw [filter_take hi]
    simp only [dcT (show (i:Int) < ((rowsOf l []).length:Int) by omega),cond_true,inB_T hi,Int.toNat_natCast,List.getElem?_eq_getElem hi,Option.bind_some,wrapS (show i < 9223372036854775807 by omega),show ∀ x:Rw,([x]:List Rw).length=1 from fun _=>rfl,room24 (show (((rowsOf l []).take i).filter nzB).length+1≤4000000000000 by omega),Bool.and_true]
    unfold nzB
    cases ((rowsOf l [])[i].2.2.1 != 0) with
    | true=>rfl
    | false=>simp only [cond_false,Bool.false_eq_true,if_false,List.append_nil]) (by
    unfold ref_Bag_l6
    simp only [dcF (show ¬ ((rowsOf l []).length:Int) < ((rowsOf l []).length:Int) by omega),cond_false,List.take_length])
  unfold ref_Bag
  have h1':loopM (ref_Bag_l5 (l,())) (([]:List Rw),(0:Int),())=_:=h1
  have h2':loopM (ref_Bag_l6 (rowsOf l [],())) (([]:List Rw),(0:Int),())=_:=h2
  rw [h1']
  simp only [Option.bind_some,Sum.elim_inl]
  rw [h2']
  simp only [Option.bind_some,Sum.elim_inl]
theorem poured_eq (a b:List Rw) (n:Int) (ha:a.length≤1500000000000) (hb:b.length≤1500000000000):ref_Poured (a,n,b,())=some (a++b.map (sc n),()):=by
  have h1:=loopM_fold' (f:=ref_Poured_l1 (a,n,b,())) a.length (fun i=>a.take i) (.inl (a,())) (fun i hi=>by
    unfold ref_Poured_l1
    rw [List.take_succ_eq_append_getElem hi]
    have hlen:(a.take i).length=i:=by rw [List.length_take]; omega
    simp only [dcT (show (i:Int) < (a.length:Int) by omega),cond_true,getI_nat,List.getElem?_eq_getElem hi,Option.bind_some,wrapS (show i < 9223372036854775807 by omega),show ∀ x:Rw,([x]:List Rw).length=1 from fun _=>rfl,hlen,room24 (show i+1≤4000000000000 by omega),Bool.and_true]) (by
    unfold ref_Poured_l1
    simp only [dcF (show ¬ (a.length:Int) < (a.length:Int) by omega),cond_false,List.take_length])
  have h2:=loopM_fold' (f:=ref_Poured_l2 (a,n,b,())) b.length (fun i=>a++(b.take i).map (sc n)) (.inl (a++b.map (sc n),())) (fun i hi=>by
    unfold ref_Poured_l2
    rw [List.take_succ_eq_append_getElem hi,List.map_append,←List.append_assoc]
    have hlen:(a++(b.take i).map (sc n)).length=a.length+i:=by rw [List.length_append,List.length_map,List.length_take]; omega
    simp only [dcT (show (i:Int) < (b.length:Int) by omega),cond_true,getI_nat,List.getElem?_eq_getElem hi,Option.bind_some,wrapS (show i < 9223372036854775807 by omega),show ∀ x:Rw,([x]:List Rw).length=1 from fun _=>rfl,hlen,room24 (show a.length+i+1≤4000000000000 by omega),Bool.and_true]
    rfl) (by
    unfold ref_Poured_l2
    simp only [dcF (show ¬ (b.length:Int) < (b.length:Int) by omega),cond_false,List.take_length])
  unfold ref_Poured
  have h1':loopM (ref_Poured_l1 (a,n,b,())) (([]:List Rw),(0:Int),())=_:=h1
  have h2':loopM (ref_Poured_l2 (a,n,b,())) (a,(0:Int),())=some (.inl (a++b.map (sc n),())):=by
    have:=h2
    simp only [List.take_zero,List.map_nil,List.append_nil] at this
    exact this
  rw [h1']
  simp only [Option.bind_some,Sum.elim_inl]
  rw [h2']
  simp only [Option.bind_some,Sum.elim_inl]
theorem same_eq (m:List Rw) (hl:m.length≤3000000000000):ref_BagsSame (m,m,())=some (true,()):=by
  unfold ref_BagsSame
  rw [bneF rfl,cond_false]
  have h:=loopM_for (f:=ref_BagsSame_l1 (m,m,())) m.length (fun _=>none) (.inr (.inl ())) (fun i hi=>by
    unfold ref_BagsSame_l1
    simp only [dcT (show (i:Int) < (m.length:Int) by omega),cond_true,getI_nat,List.getElem?_eq_getElem hi,Option.bind_some,wrapS (show i < 9223372036854775807 by omega),beq_self_eq_true,Bool.and_self,Bool.not_true,cond_false]) (by
    unfold ref_BagsSame_l1
    simp only [dcF (show ¬ (m.length:Int) < (m.length:Int) by omega),cond_false])
  rw [h]
  have hf:(List.range m.length).findSome? (fun _=>(none:Option ((Bool × Unit) ⊕ (Unit ⊕ Empty))))=none:=List.findSome?_eq_none_iff.2 fun _ _=>rfl
  rw [hf]; rfl
end

section
open Go Go.Abs

theorem find_map {β:Type} (p:Nat→Bool) (g:Nat→β) (l:List Nat):(l.findSome? fun i=>cond (p i) (some (g i)) none)=(l.find? p).map g:=by
  induction l with
  | nil=>rfl
  | cons a r ih =>
    rw [List.findSome?_cons,List.find?_cons]
    cases p a with
    | true=>rfl
    | false=>exact ih
theorem find_none_all {p:Nat→Bool} {n:Nat} (h:(List.range n).find? p=none):∀ i,i < n→p i=false:=fun i hi=>by
  have:=List.find?_eq_none.1 h i (List.mem_range.2 hi)
  simpa using this
theorem find_const {β:Type} (p:Nat→Bool) (b:β) (l:List Nat):(l.findSome? fun r=>cond (p r) (some b) none)=if l.any p=true then some b else none:=by
  induction l with
  | nil=>rfl
  | cons a r ih =>
    rw [List.findSome?_cons,List.any_cons]
    cases p a with
    | true=>rfl
    | false=>rw [cond_false,ih]; simp
theorem getI_D {α:Type} {l:List α} {i:Int} (d:α) (h0:0≤i) (h1:i < l.length):getI l i=some (l.getD i.toNat d):=by
  obtain ⟨k,rfl⟩:=Int.eq_ofNat_of_zero_le h0
  rw [getI_nat]
  rw [Int.toNat_natCast]
  exact getD_get (by omega)
theorem getI_lt {α:Type} {l:List α} {i:Nat} (h:i < l.length):getI l (i:Int)=some l[i]:=by
  rw [getI_nat,List.getElem?_eq_getElem h]
theorem room_ok {n k:Nat} (h:n≤140737488355328) (h2:n*k≤140737488355328):roomOk n k=true:=by
  unfold roomOk
  rw [Bool.and_eq_true]
  exact ⟨Nat.ble_eq_true_of_le h,Nat.ble_eq_true_of_le h2⟩
end

section
open Go Go.Abs

abbrev Op3:=Int × Int × Int × Unit
theorem bagOf_app (l l':List Rw) (m:Bg):bagOf (l++l') m=bagOf l' (bagOf l m):=List.foldl_append
theorem pour_join {β:Type} (m:Bg) (k:Ky) (n:Int) (F:Bg→Option β) :
    (((cond (((mapGet KT (mapSet KT (mapEnt KT m k (0:Int)) k (IntKind.i64.wrap (((mapGet KT m k).getD (0:Int))+n))) k).getD (0:Int)) == (0:Int)) (some (Sum.inl ((mapDel KT (mapSet KT (mapEnt KT m k (0:Int)) k (IntKind.i64.wrap (((mapGet KT m k).getD (0:Int))+n))) k),()))) (some (Sum.inl ((mapSet KT (mapEnt KT m k (0:Int)) k (IntKind.i64.wrap (((mapGet KT m k).getD (0:Int))+n))),())))):Option ((Bg × Unit) ⊕ Empty)).bind (Sum.elim (fun z=>F z.1) Empty.elim))=F (pour m k n):=by
  unfold pour nOf W
  cases hq:(((mapGet KT (mapSet KT (mapEnt KT m k (0:Int)) k (IntKind.i64.wrap (((mapGet KT m k).getD (0:Int))+n))) k).getD (0:Int)) == (0:Int)) with
  | true=>rfl
  | false=>rfl
abbrev LR:=Option ((Int × Bg × Unit) ⊕ ((Bg × Unit) ⊕ Empty))
section
variable {op:Op3} {m:Bg} {R:List Rw}
end
theorem W_add (a b:Int):W (W a+b)=W (a+b):=by unfold W; rw [IntKind.wrap_i64,IntKind.wrap_i64,IntKind.wrap_i64]; omega
theorem W_add' (a b:Int):W (a+W b)=W (a+b):=by unfold W; rw [IntKind.wrap_i64,IntKind.wrap_i64,IntKind.wrap_i64]; omega
theorem W_zero:W 0=0:=by decide
section
variable {op:Op3} {m0:Bg} {R:List Rw}
end
end

section
open Go Go.Abs

def bad (v:Int):Bool:=decide (v < 0) || decide (v > 1048576)
theorem bad_two {β:Type} (v:Int) (b:β) (s:Int × Unit):(cond (decide (v < (0:Int))) (some (Sum.inr b)) (cond (decide (v > (1048576:Int))) (some (Sum.inr b)) (some (Sum.inl s))):Option ((Int × Unit) ⊕ β))=some (if bad v=true then .inr b else .inl s):=by
  unfold bad
  by_cases h1:v < 0
  · simp [h1]
  · by_cases h2:v > 1048576
    · simp [h1,h2]
    · simp [h1,h2]
theorem bad_ok {v:Int} (h:bad v=false):0≤v∧v≤1048576:=by
  unfold bad at h
  simp at h
  omega
end

section
open Go Go.Abs

def chk (l:List Int):Int:=if l.length=0∨l.length > 4 then 1 else if l.any bad=true then 2 else 0
theorem chk_zero {l:List Int} (h:chk l=0):0 < l.length∧l.length≤4∧∀ (i:Nat) (v:Int),l[i]? = some v→0≤v∧v≤1048576:=by
  unfold chk at h
  split at h
  · cases h
  · split at h
    · cases h
    · rename_i h1 h2
      refine ⟨by omega,by omega,fun i v hi=>bad_ok ?_⟩
      have hm:=List.mem_of_getElem? hi
      cases hb:bad v with
      | false=>rfl
      | true=>exact absurd (List.any_eq_true.2 ⟨v,hm,hb⟩) h2
theorem times_Check_loop (l:List Int) (hl:l.length≤4):loopM (times_Check_l1 (l,())) (0,())=some (if l.any bad=true then Sum.inl (2,()) else Sum.inr (Sum.inl ())):=by
  refine loopM_all l bad (Sum.inl (2,())) (Sum.inr (Sum.inl ())) (fun i v hi=>?_) ?_
  · have hlt:=(List.getElem?_eq_some_iff.1 hi).1
    have hi':((i:Int) < (l.length:Int)):=by omega
    unfold times_Check_l1
    simp only [hi',decide_true,cond_true,getI_nat,hi,Option.bind_some]
    rw [wrap64 (by omega) (by omega)]
    exact bad_two v _ _
  · simp [times_Check_l1]
theorem ref_TimesCheck_loop (l:List Int) (hl:l.length≤4):loopM (ref_TimesCheck_l1 (l,())) (0,())=some (if l.any bad=true then Sum.inl (2,()) else Sum.inr (Sum.inl ())):=by
  refine loopM_all l bad (Sum.inl (2,())) (Sum.inr (Sum.inl ())) (fun i v hi=>?_) ?_
  · have hlt:=(List.getElem?_eq_some_iff.1 hi).1
    have hi':((i:Int) < (l.length:Int)):=by omega
    unfold ref_TimesCheck_l1
    simp only [hi',decide_true,cond_true,getI_nat,hi,Option.bind_some]
    rw [wrap64 (by omega) (by omega)]
    exact bad_two v _ _
  · simp [ref_TimesCheck_l1]
theorem times_Check_eq (l:List Int):times_Check (l,())=some (chk l,()):=by
  unfold times_Check chk
  by_cases h0:l.length=0
  · simp [h0]
  · by_cases h4:l.length > 4
    · have:((l.length:Int) > 4):=by omega
      simp [h0,h4,this]
    · have h5:¬ ((l.length:Int) > 4):=by omega
      have h6:((l.length:Int) == 0)=false:=by simp; exact fun h=>h0 (by simp [h])
      simp only [h6,cond_false,h5,decide_false]
      have hn:¬ (l.length=0∨l.length > 4):=by omega
      rw [times_Check_loop l (by omega),if_neg hn]
      split <;> rfl
theorem ref_TimesCheck_eq (l:List Int):ref_TimesCheck (l,())=some (chk l,()):=by
  unfold ref_TimesCheck chk
  by_cases h0:l.length=0
  · simp [h0]
  · have h6:¬ ((l.length:Int) < 1):=by omega
    by_cases h4:l.length > 4
    · have:((l.length:Int) > 4):=by omega
      simp [h4,this,h6]
    · have h5:¬ ((l.length:Int) > 4):=by omega
      simp only [h6,cond_false,h5,decide_false]
      have hn:¬ (l.length=0∨l.length > 4):=by omega
      rw [ref_TimesCheck_loop l (by omega),if_neg hn]
      split <;> rfl
end

section
open Go Go.Abs

def cmpL:List Int→List Int→Int
  | [],[]=>0
  | [],_ :: _=>-1
  | _ :: _,[]=>1
  | a :: r,b :: s=>if a < b then -1 else if a > b then 1 else cmpL r s
theorem cmpL_eq:∀ {a b:List Int},cmpL a b=0↔a=b
  | [],[]=>by simp [cmpL]
  | [],_ :: _=>by simp [cmpL]
  | _ :: _,[]=>by simp [cmpL]
  | a :: r,b :: s=>by
    have ih:=cmpL_eq (a:=r) (b:=s)
    simp only [cmpL,List.cons.injEq]
    split
    · constructor
      · intro h; omega
      · intro h; omega
    · split
      · constructor
        · intro h; omega
        · intro h; omega
      · rw [ih]; constructor
        · intro h; exact ⟨by omega,h⟩
        · exact fun h=>h.2
theorem cmpL_neg:∀ (a b:List Int),cmpL b a=- cmpL a b
  | [],[]=>rfl
  | [],_ :: _=>rfl
  | _ :: _,[]=>rfl
  | a :: r,b :: s=>by
    have ih:=cmpL_neg r s
    simp only [cmpL]
    by_cases h1:a < b
    · rw [if_pos h1,if_neg (by omega),if_pos (by omega)]; rfl
    · by_cases h2:a > b
      · rw [if_pos (show b < a from h2),if_neg h1,if_pos h2]
      · rw [if_neg h1,if_neg h2,if_neg (by omega),if_neg (by omega),ih]
theorem cmpL_trans:∀ {a b c:List Int},cmpL a b < 0→cmpL b c < 0→cmpL a c < 0
  | [],[],c,h,_=>by simp [cmpL] at h
  | [],_ :: _,[],_,h=>by simp [cmpL] at h
  | [],_ :: _,_ :: _,_,_=>by simp [cmpL]
  | _ :: _,[],_,h,_=>by simp [cmpL] at h
  | _ :: _,_ :: _,[],_,h=>by simp [cmpL] at h
  | a :: r,b :: s,c :: t,h1,h2=>by
    simp only [cmpL] at h1 h2 ⊢
    have ih:=cmpL_trans (a:=r) (b:=s) (c:=t)
    by_cases hab:a < b
    · by_cases hbc:b < c
      · rw [if_pos (by omega)]; decide
      · rw [if_neg hbc] at h2
        by_cases hbc2:b > c
        · rw [if_pos hbc2] at h2; omega
        · rw [if_pos (by omega)]; decide
    · rw [if_neg hab] at h1
      by_cases hab2:a > b
      · rw [if_pos hab2] at h1; omega
      · rw [if_neg hab2] at h1
        by_cases hbc:b < c
        · rw [if_pos (by omega)]; decide
        · rw [if_neg hbc] at h2
          by_cases hbc2:b > c
          · rw [if_pos hbc2] at h2; omega
          · rw [if_neg hbc2] at h2
            rw [if_neg (by omega),if_neg (by omega)]
            exact ih h1 h2
theorem cmpL_irr (a:List Int):¬ cmpL a a < 0:=by rw [cmpL_eq.2 rfl]; decide
theorem cmp_Compare_eq (v w:Int):cmp_Compare_int (v,w,())=some (if v < w then -1 else if v > w then 1 else 0,()):=by
  unfold cmp_Compare_int cmp_isNaN_int
  simp only [bneF rfl,Option.bind_some,cond_false,cond_dec]
  split
  · rfl
  · split <;> rfl
theorem slices_Compare_eq {a b:List Int} (ha:a.length≤1000000):slices_Compare_s_int_int (a,b,())=some (cmpL a b,()):=by
  have key:∀ k i,i+k=a.length→i≤b.length→(loopM (slices_Compare_s_int_int_l1 (a,b,())) ((i:Int),())).bind (Sum.elim (fun z5=>(some z5)) (Sum.elim (fun z6=>(cond (decide ((a.length:Int) < (b.length:Int))) (some ((-1:Int),())) (some ((0:Int),())))) Empty.elim))=some (cmpL (a.drop i) (b.drop i),()):=by
    intro k
    induction k with
    | zero =>
      intro i hi hb
      have hi':i=a.length:=by omega
      rw [loopM_inr (b:=.inr (.inl ())) (by
        unfold slices_Compare_s_int_int_l1
        simp only [dcF (show ¬ (i:Int) < (a.length:Int) by omega),cond_false])]
      rw [List.drop_of_length_le (by omega)]
      simp only [Option.bind_some,Sum.elim_inl,Sum.elim_inr,cond_dec]
      by_cases hlt:i < b.length
      · rw [List.drop_eq_getElem_cons hlt,if_pos (by omega)]; rfl
      · rw [List.drop_of_length_le (by omega),if_neg (by omega)]; rfl
    | succ k ih =>
      intro i hi hb
      have hia:i < a.length:=by omega
      by_cases hib:i < b.length
      · have hst:slices_Compare_s_int_int_l1 (a,b,()) ((i:Int),())=cond (cmpL [a[i]] [b[i]] != 0) (some (.inr (.inl (cmpL [a[i]] [b[i]],())))) (some (.inl (((i+1:Nat):Int),()))):=by
          unfold slices_Compare_s_int_int_l1
          simp only [dcT (show (i:Int) < (a.length:Int) by omega),dcF (show ¬ (i:Int) ≥ (b.length:Int) by omega),cond_true,cond_false,getI_lt hia,getI_lt hib,Option.bind_some,cmp_Compare_eq,wrapS (show i < 9223372036854775807 by omega)]
          rfl
        rw [List.drop_eq_getElem_cons hia,List.drop_eq_getElem_cons hib]
        by_cases h1:a[i] < b[i]
        · have hc:cmpL [a[i]] [b[i]]=-1:=by simp only [cmpL,if_pos h1]
          rw [hc] at hst
          rw [loopM_inr hst]; simp only [cmpL,if_pos h1]; rfl
        · by_cases h2:a[i] > b[i]
          · have hc:cmpL [a[i]] [b[i]]=1:=by simp only [cmpL,if_neg h1,if_pos h2]
            rw [hc] at hst
            rw [loopM_inr hst]; simp only [cmpL,if_neg h1,if_pos h2]; rfl
          · have hc:cmpL [a[i]] [b[i]]=0:=by simp only [cmpL,if_neg h1,if_neg h2]
            rw [hc] at hst
            rw [loopM_inl hst,ih (i+1) (by omega) (by omega)]
            simp only [cmpL,if_neg h1,if_neg h2]
      · have hst:slices_Compare_s_int_int_l1 (a,b,()) ((i:Int),())=some (.inr (.inl ((1:Int),()))):=by
          unfold slices_Compare_s_int_int_l1
          simp only [dcT (show (i:Int) < (a.length:Int) by omega),dcT (show (i:Int) ≥ (b.length:Int) by omega),cond_true,getI_lt hia,Option.bind_some]
        rw [loopM_inr hst,List.drop_eq_getElem_cons hia,List.drop_of_length_le (l:=b) (show b.length≤i by omega)]
        rfl
  unfold slices_Compare_s_int_int
  exact key a.length 0 (by omega) (by omega)
def lessB (a b:List Int):Bool:=decide (a.length=b.length) && (decide (chk a=0) && (decide (chk b=0) && decide (cmpL a b < 0)))
theorem lessB_of {a b:List Int} (h:a.length=b.length) (ha:chk a=0) (hb:chk b=0):lessB a b=decide (cmpL a b < 0):=by
  unfold lessB
  rw [decide_eq_true h,decide_eq_true ha,decide_eq_true hb]; rfl
theorem ref_TimesLess_eq (a b:List Int):ref_TimesLess (a,b,())=some (lessB a b,()):=by
  unfold ref_TimesLess lessB
  simp only [ref_TimesCheck_eq,Option.bind_some,cond_bne]
  by_cases h:a.length=b.length
  · rw [if_pos (by omega),decide_eq_true h]
    by_cases h2:chk a=0
    · rw [if_pos h2,decide_eq_true h2]
      by_cases h3:chk b=0
      · rw [if_pos h3,decide_eq_true h3]
        have h4:=(chk_zero h2).2.1
        have key:∀ k i,i+k=a.length→(loopM (ref_TimesLess_l1 (a,b,())) ((i:Int),())).bind (Sum.elim (fun z8=>(some z8)) (Sum.elim (fun z9=>(some (false,()))) Empty.elim))=some (decide (cmpL (a.drop i) (b.drop i) < 0),()):=by
          intro k
          induction k with
          | zero =>
            intro i hi
            rw [loopM_inr (b:=.inr (.inl ())) (by
              unfold ref_TimesLess_l1
              simp only [dcF (show ¬ (i:Int) < (a.length:Int) by omega),cond_false])]
            rw [List.drop_of_length_le (by omega),List.drop_of_length_le (by omega)]; rfl
          | succ k ih =>
            intro i hi
            have hia:i < a.length:=by omega
            have hib:i < b.length:=by omega
            have hst:ref_TimesLess_l1 (a,b,()) ((i:Int),())=cond (a[i] != b[i]) (some (.inr (.inl (decide (a[i] < b[i]),())))) (some (.inl (((i+1:Nat):Int),()))):=by
              unfold ref_TimesLess_l1
              simp only [dcT (show (i:Int) < (a.length:Int) by omega),cond_true,getI_lt hia,getI_lt hib,Option.bind_some,wrapS (show i < 9223372036854775807 by omega)]
            rw [List.drop_eq_getElem_cons hia,List.drop_eq_getElem_cons hib]
            by_cases he:a[i]=b[i]
            · rw [bneF he,cond_false] at hst
              rw [loopM_inl hst,ih (i+1) (by omega)]
              simp only [cmpL,if_neg (show ¬ a[i] < b[i] by omega),if_neg (show ¬ a[i] > b[i] by omega)]
            · rw [bneT he,cond_true] at hst
              rw [loopM_inr hst]
              by_cases h1:a[i] < b[i]
              · simp only [cmpL,if_pos h1,decide_eq_true h1]; rfl
              · simp only [cmpL,if_neg h1,if_pos (show a[i] > b[i] by omega),decide_eq_false h1]; rfl
        exact key a.length 0 (by omega)
      · rw [if_neg h3,decide_eq_false h3]; rfl
    · rw [if_neg h2,decide_eq_false h2]; rfl
  · rw [if_neg (by omega),decide_eq_false h]; rfl
theorem ref_TimesSame_eq {a b:List Int} (ha:a.length≤1000000):ref_TimesSame (a,b,())=some (decide (a=b),()):=by
  unfold ref_TimesSame
  simp only [cond_bne]
  by_cases h:a.length=b.length
  · rw [if_pos (by omega)]
    have key:∀ k i,i+k=a.length→(loopM (ref_TimesSame_l1 (a,b,())) ((i:Int),())).bind (Sum.elim (fun z8=>(some z8)) (Sum.elim (fun z9=>(some (true,()))) Empty.elim))=some (decide (a.drop i=b.drop i),()):=by
      intro k
      induction k with
      | zero =>
        intro i hi
        rw [loopM_inr (b:=.inr (.inl ())) (by
          unfold ref_TimesSame_l1
          simp only [dcF (show ¬ (i:Int) < (a.length:Int) by omega),cond_false])]
        rw [List.drop_of_length_le (by omega),List.drop_of_length_le (by omega)]; rfl
      | succ k ih =>
        intro i hi
        have hia:i < a.length:=by omega
        have hib:i < b.length:=by omega
        have hst:ref_TimesSame_l1 (a,b,()) ((i:Int),())=cond (a[i] != b[i]) (some (.inr (.inl (false,())))) (some (.inl (((i+1:Nat):Int),()))):=by
          unfold ref_TimesSame_l1
          simp only [dcT (show (i:Int) < (a.length:Int) by omega),cond_true,getI_lt hia,getI_lt hib,Option.bind_some,wrapS (show i < 9223372036854775807 by omega)]
        rw [List.drop_eq_getElem_cons hia,List.drop_eq_getElem_cons hib]
        by_cases he:a[i]=b[i]
        · rw [bneF he,cond_false] at hst
          rw [loopM_inl hst,ih (i+1) (by omega)]
          exact congrArg (fun x=>some (x,())) (decide_eq_decide.2 (by rw [List.cons.injEq]; exact ⟨fun h=>⟨he,h⟩,fun h=>h.2⟩))
        · rw [bneT he,cond_true] at hst
          rw [loopM_inr hst]
          rw [decide_eq_false (fun h=>he (List.cons.inj h).1)]; rfl
    exact key a.length 0 (by omega)
  · rw [if_neg (by omega),decide_eq_false (fun e=>h (by rw [e]))]
end

section
open Go Go.Abs

def tlist (l:List (List Int)):Int :=
  if 64 < l.length then 1 else (((List.range l.length).find? fun i=>chk (l.getD i []) != 0).map fun i=>chk (l.getD i [])).getD (if ((List.range l.length).any fun i=>((l.getD i []).length:Int) != ((l.getD 0 []).length:Int))=true then 3 else 0)
theorem times_List_eq (l:List (List Int)):times_List (l,())=some (tlist l,()):=by
  unfold times_List tlist
  by_cases h:64 < l.length
  · rw [dcT (show (l.length:Int) > 64 by omega),cond_true,if_pos h]
  rw [dcF (show ¬ (l.length:Int) > 64 by omega),cond_false,if_neg h]
  have k1:=loopM_exit (f:=times_List_l1 (l,())) l.length (fun i=>((i:Int),())) (fun i=>cond (chk (l.getD i []) != 0) (some (chk (l.getD i []),())) none) (.inl ()) (fun i hi=>by
    unfold times_List_l1
    simp only [dcT (show (i:Int) < (l.length:Int) by omega),cond_true,getI_D [] (Int.natCast_nonneg i) (show (i:Int) < (l.length:Int) by omega),Int.toNat_natCast,Option.bind_some,times_Check_eq]
    rw [wrapS (by omega)]
    cases chk (l.getD i []) != 0 <;> rfl) (by
    unfold times_List_l1
    simp only [dcF (show ¬ (l.length:Int) < (l.length:Int) by omega),cond_false]) (s0:=((0:Int),())) rfl
  have k2:=loopM_exit (f:=times_List_l2 (l,())) l.length (fun i=>((i:Int),())) (fun i=>cond (((l.getD i []).length:Int) != ((l.getD 0 []).length:Int)) (some ((3:Int),())) none) (.inl ()) (fun i hi=>by
    unfold times_List_l2
    simp only [dcT (show (i:Int) < (l.length:Int) by omega),cond_true,getI_D [] (Int.natCast_nonneg i) (show (i:Int) < (l.length:Int) by omega),getI_D [] (show (0:Int)≤0 by omega) (show (0:Int) < (l.length:Int) by omega),Int.toNat_natCast,Option.bind_some]
    rw [wrapS (by omega)]
    show (cond (((l.getD i []).length:Int) != ((l.getD 0 []).length:Int)) _ _)=_
    cases ((l.getD i []).length:Int) != ((l.getD 0 []).length:Int) <;> rfl) (by
    unfold times_List_l2
    simp only [dcF (show ¬ (l.length:Int) < (l.length:Int) by omega),cond_false]) (s0:=((0:Int),())) rfl
  rw [find_map (fun i=>chk (l.getD i []) != 0) fun i=>(chk (l.getD i []),())] at k1
  rw [find_const] at k2
  rw [k1]
  cases (List.range l.length).find? fun i=>chk (l.getD i []) != 0 with
  | some i=>rfl
  | none =>
    simp only [Option.map_none,exitOr_none,Option.bind_some,Sum.elim_inr,Sum.elim_inl,k2,Option.getD_none]
    split <;> rfl
theorem ref_TimesList_eq (l:List (List Int)):ref_TimesList (l,())=some (tlist l,()):=by
  unfold ref_TimesList tlist
  by_cases h:64 < l.length
  · rw [dcT (show (l.length:Int) > 64 by omega),cond_true,if_pos h]
  rw [dcF (show ¬ (l.length:Int) > 64 by omega),cond_false,if_neg h]
  have k1:=loopM_exit (f:=ref_TimesList_l1 (l,())) l.length (fun i=>((i:Int),())) (fun i=>cond (chk (l.getD i []) != 0) (some (chk (l.getD i []),())) none) (.inl ()) (fun i hi=>by
    unfold ref_TimesList_l1
    simp only [dcT (show (i:Int) < (l.length:Int) by omega),cond_true,getI_D [] (Int.natCast_nonneg i) (show (i:Int) < (l.length:Int) by omega),Int.toNat_natCast,Option.bind_some,ref_TimesCheck_eq]
    rw [wrapS (by omega)]
    cases chk (l.getD i []) != 0 <;> rfl) (by
    unfold ref_TimesList_l1
    simp only [dcF (show ¬ (l.length:Int) < (l.length:Int) by omega),cond_false]) (s0:=((0:Int),())) rfl
  have k2:=loopM_exit (f:=ref_TimesList_l2 (l,())) l.length (fun i=>((i:Int),())) (fun i=>cond (((l.getD i []).length:Int) != ((l.getD 0 []).length:Int)) (some ((3:Int),())) none) (.inl ()) (fun i hi=>by
    unfold ref_TimesList_l2
    simp only [dcT (show (i:Int) < (l.length:Int) by omega),cond_true,getI_D [] (Int.natCast_nonneg i) (show (i:Int) < (l.length:Int) by omega),getI_D [] (show (0:Int)≤0 by omega) (show (0:Int) < (l.length:Int) by omega),Int.toNat_natCast,Option.bind_some]
    rw [wrapS (by omega)]
    show (cond (((l.getD i []).length:Int) != ((l.getD 0 []).length:Int)) _ _)=_
    cases ((l.getD i []).length:Int) != ((l.getD 0 []).length:Int) <;> rfl) (by
    unfold ref_TimesList_l2
    simp only [dcF (show ¬ (l.length:Int) < (l.length:Int) by omega),cond_false]) (s0:=((0:Int),())) rfl
  rw [find_map (fun i=>chk (l.getD i []) != 0) fun i=>(chk (l.getD i []),())] at k1
  rw [find_const] at k2
  rw [k1]
  cases (List.range l.length).find? fun i=>chk (l.getD i []) != 0 with
  | some i=>rfl
  | none =>
    simp only [Option.map_none,exitOr_none,Option.bind_some,Sum.elim_inr,Sum.elim_inl,k2,Option.getD_none]
    split <;> rfl
theorem tlist_zero {l:List (List Int)} (h:tlist l=0):l.length≤64∧∀ t∈l,chk t=0∧t.length=(l.getD 0 []).length:=by
  unfold tlist at h
  split at h
  · cases h
  rename_i h64
  cases hf:(List.range l.length).find? fun i=>chk (l.getD i []) != 0 with
  | some i =>
    rw [hf] at h
    have:=List.find?_some hf
    simp only [bne_iff_ne] at this
    exact absurd h this
  | none =>
    rw [hf] at h
    simp only [Option.map_none,Option.getD_none] at h
    split at h
    · cases h
    · rename_i ha
      refine ⟨by omega,fun t ht=>?_⟩
      obtain ⟨i,hi,rfl⟩:=List.mem_iff_getElem.1 ht
      have hg:l.getD i []=l[i]:=by rw [List.getD_eq_getElem?_getD,List.getElem?_eq_getElem hi]; rfl
      have h1:=find_none_all hf i hi
      have h2:=List.any_eq_false.1 (Bool.eq_false_iff.2 ha) i (List.mem_range.2 hi)
      rw [hg] at h1 h2
      refine ⟨by simpa using h1,?_⟩
      simp only [bne_iff_ne,ne_eq,Decidable.not_not] at h2
      omega
end

section
open Go Go.Abs

theorem clone_eq {t:List Int} (h:t.length≤1000000):slices_Clone_s_int_int (t,())=some (t,()):=by
  unfold slices_Clone_s_int_int
  simp only [List.length_nil,Nat.zero_add,room_ok (show t.length≤140737488355328 by omega) (show t.length*8≤140737488355328 by omega),Bool.and_true,cond_true,List.nil_append]
end

end Go.Proofs.Tryz
