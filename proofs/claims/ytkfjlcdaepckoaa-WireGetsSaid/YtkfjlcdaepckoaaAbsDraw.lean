/- The engine, part 14: a region whose order is drawn. -/
import Derived.Test.YtkfjlcdaepckoaaAbsRegion
namespace Go.Abs
open Go Go.RowKit
variable {P:Program} {L:Nat->Prop} {w0:World} {B:Bd}
inductive Bef (ops:Array Oper):Nat->Nat->Prop
 | edge {j:Nat} {o:Oper} {e:Edge} (h:ops[j]? = some o) (he:e∈o.after) (hb:Region.binds .any e=true):Bef ops e.on j
 | step {i j:Nat} {o:Oper} {e:Edge} (h:ops[j]? = some o) (he:e∈o.after) (hb:Region.binds .any e=true) (t:Bef ops i e.on):Bef ops i j
theorem z6v (acc:List Nat) (i:Nat):∀ (l:List Edge) (s:Nat),(l.foldl (fun s e=>match Region.binds .any e with
  | true=>s ||| (2^e.on ||| acc.getD e.on 0)
  | false=>s) s).testBit i=true->s.testBit i=true\/∃ e∈l,Region.binds .any e=true/\(e.on=i\/(acc.getD e.on 0).testBit i=true)
 | [],s,h=>.inl h
 | e::l,s,h=>by
  rw[List.foldl_cons]at h
  rcases z6v acc i l _ h with h1 | ⟨e',he',h1⟩
  ·cases hb:Region.binds .any e with
   | false=>rw[hb]at h1;exact .inl h1
   | true =>
    rw[hb]at h1
    simp only[Nat.testBit_or,Bool.or_eq_true]at h1
    rcases h1 with h1 | h1 | h1
    ·exact .inl h1
    ·exact .inr ⟨e,List.mem_cons_self,hb,.inl (by
      rw[Nat.testBit_two_pow]at h1;simpa using h1)⟩
    ·exact .inr ⟨e,List.mem_cons_self,hb,.inr h1⟩
  ·exact .inr ⟨e',List.mem_cons_of_mem _ he',h1⟩
theorem z8i (ops:Array Oper):∀ (l:List Oper) (acc:List Nat),(∀ (j:Nat) (o:Oper),l[j]? = some o->ops[acc.length+j]? = some o)->(∀ i k,(acc.getD k 0).testBit i=true->Bef ops i k) ->
  ∀ i k,((q2b l acc).getD k 0).testBit i=true->Bef ops i k
 | [],acc,_,ha=>ha
 | o::l,acc,hl,ha=>by
  unfold q2b
  refine z8i ops l _ (fun j o' hj=>?_) (fun i k hk=>?_)
  ·rw[List.length_append,List.length_singleton,show acc.length+1+j=acc.length+(j+1)from by omega]
   exact hl (j+1) o' (by simpa using hj)
  ·rw[List.getD_eq_getElem?_getD]at hk
   by_cases hlt:k<acc.length
   ·rw[List.getElem?_append_left hlt]at hk
    exact ha i k (by rw[List.getD_eq_getElem?_getD];exact hk)
   ·by_cases he:k=acc.length
    ·subst he
     rw[List.getElem?_append_right (Nat.le_refl _),Nat.sub_self]at hk
     simp only[List.getElem?_cons_zero,Option.getD_some]at hk
     have ho:=hl 0 o rfl
     rw[Nat.add_zero]at ho
     rcases z6v acc i _ 0 hk with h | ⟨e,he,hb,h | h⟩
     ·simp at h
     ·subst h;exact .edge ho (by simpa using he) hb
     ·exact .step ho (by simpa using he) hb (ha i _ h)
    ·rw[List.getElem?_append_right (by omega)]at hk
     rw[List.getElem?_eq_none (by simp;omega)]at hk
     simp at hk
theorem z7k {ex:Nat->Nat->Bool} {fps:List FP} {ms:List Nat} {j:Nat} {b:FP} {mj:Nat}:∀ (l:List FP) (i:Nat),q6q ex fps ms j b mj i l=true->∀ (k:Nat) (a:FP),l[k]? = some a->i+k<j->H0 a b=true->mj.testBit (i+k)=true\/ex (i+k) j=true
 | [],_,_,k,a,hk,_,_=>by simp at hk
 | x::l,i,h,k,a,hk,hlt,hc=>by
  simp only[q6q,Bool.and_eq_true,Bool.or_eq_true,Bool.not_eq_true']at h
  cases k with
  | zero =>
   simp at hk;subst hk
   rcases h.1 with((h1 | h1) | h1) | h1
   ·have:=Nat.le_of_ble_eq_true h1;omega
   ·exact .inl h1
   ·rw[hc]at h1;cases h1
   ·exact .inr h1
  | succ k =>
   have:=z7k l (i+1) h.2 k a (by simpa using hk) (by omega) hc
   rw[show i+(k+1)=i+1+k from by omega];exact this
theorem z7l {ex:Nat->Nat->Bool} {fps:List FP} {ms:List Nat}:∀ (l:List FP) (j:Nat),q3w ex fps ms j l=true->∀ (k:Nat) (b:FP),l[k]? = some b->∀ (i:Nat) (a:FP),fps[i]? = some a->i<j+k->H0 a b=true->(ms.getD (j+k) 0).testBit i=true\/ex i (j+k)=true
 | [],_,_,k,b,hk,_,_,_,_,_=>by simp at hk
 | x::l,j,h,k,b,hk,i,a,ha,hlt,hc=>by
  simp only[q3w,Bool.and_eq_true]at h
  cases k with
  | zero =>
   simp at hk;subst hk
   have:=z7k fps 0 h.1 i a ha (by omega) hc
   simpa using this
  | succ k =>
   have:=z7l l (j+1) h.2 k b (by simpa using hk) i a ha (by omega) hc
   rw[show j+(k+1)=j+1+k from by omega];exact this
theorem j4s {ops:Array Oper} (h:q5j ops.toList ops.size=true) {j:Nat} {o:Oper} {e:Edge} (hj:ops[j]? = some o) (he:e∈o.after) (hb:Region.binds .any e=true):e.on<j:=by
 unfold q5j at h
 have:=List.all_eq_true.1 h (o,j) (by
  rw[List.mem_zipIdx_iff_getElem?];simpa using hj)
 have:=List.all_eq_true.1 this e (by simpa using he)
 rw[hb]at this
 simp only[Bool.and_eq_true]at this
 exact Nat.le_of_ble_eq_true this.1
theorem y3j {TI:TypeId->Option TInfo} {ops:Array Oper}:∀ {l:List Oper} {st:St} {qs:List (Bool×Eff)} {st':St},Steps' P L w0 TI ops l st qs st' ->
  ∃ (s:Nat->St) (q:Nat->Eff) (want:Nat->Bool),s 0=st/\s l.length=st'/\qs.length=l.length/\∀ j o,l[j]? = some o->StepOK P L w0 TI ops o (s j) (want j) (q j)/\s (j+1)=(s j).after o (q j)/\qs[j]? = some (want j,q j):=by
 intro l st qs st' h
 induction h with
 | nil st=>exact⟨fun _=>st,fun _=>C3 (.one .unk),fun _=>true,rfl,rfl,rfl,fun j o hj=>by simp at hj⟩
 | cons h t ih =>
  rename_i o rest st want q qs st'
  obtain⟨s,q',w',h1,h2,h3,h4⟩:=ih
  refine⟨fun j=>match j with | 0=>st | j+1=>s j,fun j=>match j with | 0=>q | j+1=>q' j,fun j=>match j with | 0=>want | j+1=>w' j,rfl,h2,by simp[h3],fun j o' hj=>?_⟩
  cases j with
  | zero=>simp at hj;subst hj;exact⟨h,h1,rfl⟩
  | succ j=>exact h4 j o' (by simpa using hj)
theorem z4j:∀ (u:List (Nat×AObj)) (h h':Heap) (id:Nat),id∈u.map (·.1)->A5 u h id=A5 u h' id
 | [],_,_,_,hm=>by simp at hm
 | p::u,h,h',id,hm=>by
  show A5 u (upd h p.1 p.2) id=A5 u (upd h' p.1 p.2) id
  by_cases hu:id∈u.map (·.1)
  ·exact z4j u _ _ id hu
  ·have hn:∀ q∈u,q.1≠id:=fun q hq e=>hu (List.mem_map.2 ⟨q,hq,e⟩)
   rw[q36 u _ id hn,q36 u _ id hn]
   simp only[List.map_cons,List.mem_cons]at hm
   rcases hm with hm | hm
   ·rw[hm,A1,A1]
   ·exact absurd hm hu
section
variable (fp:Nat->FP) (s:Nat->St)
def _root_.Go.Abs.FP.wr (f:FP) (id:Nat):Prop:=(f.all=true/\f.lim<=id)\/id∈f.wo
instance (f:FP) (id:Nat):Decidable (f.wr id):=by unfold FP.wr;infer_instance
def over (x s':St) (f:FP):St :=
 { x with ρ:=fun t=>if t∈f.wt then s'.ρ t else x.ρ t,h:=fun id=>if f.wr id then s'.h id else x.h id }
def mrg (c:Nat->Bool):Nat->St
 | 0=>s 0
 | j+1=>if c j=true then over (mrg c j) (s (j+1)) (fp j)else mrg c j
theorem q49 {c c':Nat->Bool} {t:Nat}:∀ (k:Nat),(∀ j,j<k->t∈(fp j).wt->c j=c' j)->(mrg fp s c k).ρ t=(mrg fp s c' k).ρ t
 | 0,_=>rfl
 | k+1,h=>by
  have ih:=q49 k (fun j hj=>h j (by omega))
  simp only[mrg]
  by_cases ht:t∈(fp k).wt
  ·rw[h k (by omega) ht]
   split
   ·simp only[over,ht,if_true]
   ·exact ih
  ·have h1:∀ b:Bool,(if b=true then over (mrg fp s c k) (s (k+1)) (fp k)else mrg fp s c k).ρ t=(mrg fp s c k).ρ t:=fun b=>by cases b<;>simp[over,ht]
   have h2:∀ b:Bool,(if b=true then over (mrg fp s c' k) (s (k+1)) (fp k)else mrg fp s c' k).ρ t=(mrg fp s c' k).ρ t:=fun b=>by cases b<;>simp[over,ht]
   rw[h1,h2];exact ih
theorem q06 {c c':Nat->Bool} {id:Nat}:∀ (k:Nat),(∀ j,j<k->(fp j).wr id->c j=c' j)->(mrg fp s c k).h id=(mrg fp s c' k).h id
 | 0,_=>rfl
 | k+1,h=>by
  have ih:=q06 k (fun j hj=>h j (by omega))
  simp only[mrg]
  by_cases ht:(fp k).wr id
  ·rw[h k (by omega) ht]
   split
   ·simp only[over,ht,if_true]
   ·exact ih
  ·have h1:∀ b:Bool,(if b=true then over (mrg fp s c k) (s (k+1)) (fp k)else mrg fp s c k).h id=(mrg fp s c k).h id:=fun b=>by cases b<;>simp[over,ht]
   have h2:∀ b:Bool,(if b=true then over (mrg fp s c' k) (s (k+1)) (fp k)else mrg fp s c' k).h id=(mrg fp s c' k).h id:=fun b=>by cases b<;>simp[over,ht]
   rw[h1,h2];exact ih
theorem Q7 {c:Nat->Bool}:∀ (k:Nat),(mrg fp s c k).lt=(s 0).lt/\(mrg fp s c k).lo=(s 0).lo/\(mrg fp s c k).n=(s 0).n
 | 0=>⟨rfl,rfl,rfl⟩
 | k+1=>by
  have ih:=Q7 (c:=c) k
  simp only[mrg]
  split<;>exact ih
end
theorem St.ext_fields {a b:St} (h1:∀ t,a.ρ t=b.ρ t) (h2:∀ id,a.h id=b.h id) (h3:a.lt=b.lt/\a.lo=b.lo/\a.n=b.n):a=b:=by
 cases a;cases b
 obtain⟨rfl,rfl,rfl⟩:=h3
 simp only[St.mk.injEq,and_true]
 exact⟨funext h1,funext h2⟩
theorem z49 {ops:Array Oper} {o:Oper} {q:Eff} {st x:St} (hag:q.full≠none->x.h=st.h) (hfl:∀ H,q.full=some H->∀ id,id<q.lim/\id∉q.ups.map (·.1)->H id=st.h id):x.after o q=over x (st.after o q) (I6 ops o q):=by
 refine St.ext_fields (fun t=>?_) (fun id=>?_) ⟨rfl,rfl,rfl⟩
 ·show put x.ρ o.dst q.av t=if t∈o.dst.toList then put st.ρ o.dst q.av t else x.ρ t
  cases hd:o.dst with
  | none=>simp[put]
  | some d =>
   by_cases ht:t=d
   ·subst ht;simp[put,A1]
   ·simp[put,A0 _ _ ht,ht]
 ·show q.heap x.h id=if(q.full.isSome=true/\q.lim<=id)\/id∈q.ups.map (·.1)then q.heap st.h id else x.h id
  unfold Eff.heap
  cases hf:q.full with
  | some H =>
   have hx:=hag (by rw[hf];simp)
   by_cases hl:q.lim<=id
   ·simp[hl]
   ·simp only[Option.isSome_some,true_and,hl,false_or]
    split
    ·rfl
    ·rename_i hm
     rw[hfl H hf id ⟨by omega,hm⟩,hx]
  | none =>
   by_cases hm:id∈q.ups.map (·.1)
   ·rw[if_pos (.inr hm)];exact z4j _ _ _ _ hm
   ·rw[if_neg (fun h=>by rcases h with h | h;simp at h;exact hm h)]
    exact q36 _ _ _ fun p hp e=>hm (List.mem_map.2 ⟨p,hp,e⟩)
theorem z4z {id:Nat}:∀ (l:List FP) (i j:Nat),q5m id i j l=true->∀ (m:Nat) (f:FP),l[m]? = some f->i<=m->m<j->f.all=false/\id∉f.wo
 | [],_,_,_,m,f,hm,_,_=>by simp at hm
 | g::r,i,j,h,m,f,hm,hi,hj=>by
  simp only[q5m,Bool.and_eq_true]at h
  cases m with
  | zero =>
   simp at hm;subst hm
   have h0:i=0:=by omega
   subst h0
   have h1:=h.1
   simp only[Bool.or_eq_true,Bool.and_eq_true,Bool.not_eq_true']at h1
   rcases h1 with h1 | h1
   ·have:=Nat.eq_of_beq_eq_true h1;omega
   ·exact⟨h1.1,fun hx=>by rw[memb_iff.2 hx]at h1;cases h1.2⟩
  | succ m=>exact z4z r (i-1) (j-1) h.2 m f (by simpa using hm) (by omega) (by omega)
theorem z1e {ops:Array Oper} {fps:List FP} {i j:Nat} (h:q3r ops fps i j=true) :
  ∃ o o' a b T m k m' k' id,ops[i]? = some o/\ops[j]? = some o'/\fps[i]? = some a/\fps[j]? = some b/\o.op=.lookup T m k false/\o'.op=.mapEntry T m' k'/\o.guard=none/\o'.guard=none/\a.ro=[id] /\
   a.all=false/\b.all=false/\H0 { a with ro:=[] } b=false/\∀ (m:Nat) (f:FP),fps[m]? = some f->i+1<=m->m<j->f.all=false/\id∉f.wo:=by
 unfold q3r at h
 split at h
 ·rename_i o o' a b h1 h2 h3 h4
  split at h
  ·rename_i T m k T' m' k' id g1 g2 g3 g4 g5
   simp only[Bool.and_eq_true,Bool.not_eq_true']at h
   obtain⟨⟨⟨⟨hT,ha⟩,hb⟩,hc⟩,hbt⟩:=h
   have hT:=Nat.eq_of_beq_eq_true hT
   subst hT
   exact⟨o,o',a,b,T,m,k,m',k',id,h1,h2,h3,h4,g1,g2,g3,g4,g5,ha,hb,hc,z4z fps (i+1) j hbt⟩
  ·cases h
 ·cases h
theorem y0h {TI:TypeId->Option TInfo} {r:Option Nat} {ops:Array Oper} {m:Nat} {Q:Exit->Act->World->Prop} {st:St} {qs:List (Bool×Eff)} {st':St} (hs:Steps' P L w0 TI ops ops.toList st qs st')
  (hi:q3w (q3r ops ((ops.toList.zip qs).map fun p=>I6 ops p.1 p.2.2)) ((ops.toList.zip qs).map fun p=>I6 ops p.1 p.2.2) (q2b ops.toList []) 0 ((ops.toList.zip qs).map fun p=>I6 ops p.1 p.2.2)=true) (hb:q5j ops.toList ops.size=true)
  {κ:A2} {a:Act} {w:World} (sim:Sim P L w0 B r κ st a w) (hQ:∀ κ' a' w',Sim P L w0 B r κ' st' a' w'->Ext L κ st.h w κ' st'.h w'->Locks st st' a a'->Q .normal a' w')
  (hpb:(∃ p∈qs,∃ T,p.2.av=.one (.pan T))->st.lo B6=false) (hP:q92 P L w0 B r κ st a w qs Q) :
  wpAnyIn (Fr r) m P .any ops Q ops.size (Array.replicate ops.size false) a w:=by
 obtain⟨s,q,want,s0,sn,hql,hst⟩:=y3j hs
 have hops:∀ (j:Nat) (o:Oper),ops.toList[j]? = some o↔ops[j]? = some o:=fun j o=>by simp
 let fp:Nat->FP:=fun j=>I6 ops (ops.getD j default) (q j)
 have hfp:∀ (j:Nat) (o:Oper),ops[j]? = some o->fp j=I6 ops o (q j):=fun j o hj=>by
  simp only[fp,Array.getD_eq_getD_getElem?,hj,Option.getD_some]
 have hfps:∀ (j:Nat) (o:Oper),ops[j]? = some o->((ops.toList.zip qs).map fun p=>I6 ops p.1 p.2.2)[j]? = some (fp j):=fun j o hj=>by
  obtain⟨-,-,h3⟩:=hst j o ((hops j o).2 hj)
  rw[List.getElem?_map,show(ops.toList.zip qs)[j]? = some (o,(want j,q j))from List.getElem?_zip_eq_some.2 ⟨(hops j o).2 hj,h3⟩,hfp j o hj];rfl
 have hlt:∀ j,j<ops.size->∃ o,ops[j]? = some o:=fun j hj=>⟨_,Array.getElem?_eq_getElem hj⟩
 have hgt:∀ (j:Nat) (o:Oper),ops[j]? = some o->j<ops.size:=fun j o hj=>(Array.getElem?_eq_some_iff.1 hj).1
 have ms:=z8i ops ops.toList [] (fun j o hj=>by simpa using hj) (fun i k hk=>by simp at hk)
 let exc:Nat->Nat->Bool:=q3r ops ((ops.toList.zip qs).map fun p=>I6 ops p.1 p.2.2)
 have ord:∀ i j,i<j->j<ops.size->H0 (fp i) (fp j)=true->exc i j=false->Bef ops i j:=by
  intro i j hij hj hc hex
  obtain⟨oi,hoi⟩:=hlt i (by omega)
  obtain⟨oj,hoj⟩:=hlt j hj
  have:=z7l _ 0 hi j (fp j) (hfps j oj hoj) i (fp i) (hfps i oi hoi) (by omega) hc
  rw[Nat.zero_add]at this
  rcases this with this | this
  ·exact ms i j this
  ·rw[show exc i j=true from this]at hex;cases hex
 have dcl:∀ (c:Nat->Bool),(∀ (j:Nat) (o:Oper) (e:Edge),c j=true->ops[j]? = some o->e∈o.after->Region.binds .any e=true->c e.on=true)->∀ i j,Bef ops i j->c j=true->c i=true:=by
  intro c hc i j hb
  induction hb with
  | edge h he hb=>exact fun hj=>hc _ _ _ hj h he hb
  | step h he hb t ih=>exact fun hj=>ih (hc _ _ _ hj h he hb)
 have text:∀ i k,k<=ops.size->mrg fp s (fun j=>decide (j<i)) k=s (min i k):=by
  intro i k
  induction k with
  | zero=>intro _;simp[mrg]
  | succ k ih =>
   intro hk
   have ih:=ih (by omega)
   simp only[mrg]
   by_cases hki:k<i
   ·rw[if_pos (by simpa using hki),ih,show min i k=k from by omega,show min i (k+1)=k+1 from by omega]
    obtain⟨o,ho⟩:=hlt k (by omega)
    obtain⟨h1,h2,-⟩:=hst k o ((hops k o).2 ho)
    rw[hfp k o ho,h2]
    exact(z49 (fun _=>rfl) (fun H hH id hid=>h1.full H hH id (.inr hid))).symm
   ·rw[if_neg (by simpa using hki),ih]
    congr 1;omega
 have hlock:∀ j,j<=ops.size->(s j).lt=st.lt/\(s j).lo=st.lo/\(s j).n=st.n:=by
  intro j hj
  have:=Q7 fp s (c:=fun k=>decide (k<j)) ops.size
  rw[text j ops.size (Nat.le_refl _),show min j ops.size=j from by omega,s0]at this
  exact this
 suffices key:∀ (fuel:Nat) (listed:Array Bool) (κ':A2) (a':Act) (w':World),listed.size=ops.size->((List.range ops.size).filter fun j=>!listed.getD j true).length<=fuel ->
   (∀ (j:Nat) (o:Oper) (e:Edge),listed.getD j false=true->ops[j]? = some o->e∈o.after->Region.binds .any e=true->listed.getD e.on false=true) ->
   Sim P L w0 B r κ' (mrg fp s (fun j=>listed.getD j false) ops.size) a' w'->Ext L κ st.h w κ' (mrg fp s (fun j=>listed.getD j false) ops.size).h w'->Locks st (mrg fp s (fun j=>listed.getD j false) ops.size) a a' ->
   wpAnyIn (Fr r) m P .any ops Q fuel listed a' w' by
  have hnone:∀ j,(Array.replicate ops.size false).getD j false=false:=fun j=>by
   rw[Array.getD_eq_getD_getElem?,Array.getElem?_replicate];split<;>rfl
  have hm0:mrg fp s (fun j=>(Array.replicate ops.size false).getD j false) ops.size=st:=by
   have:(fun j=>(Array.replicate ops.size false).getD j false)=fun j=>decide (j<0):=funext fun j=>by rw[hnone];simp
   rw[this,text 0 ops.size (Nat.le_refl _)];simpa using s0
  refine key ops.size _ κ a w (by simp) (Nat.le_trans (List.length_filter_le _ _) (by simp)) (fun j o e hj=>by rw[hnone]at hj;cases hj) ?_ ?_ ?_
  ·rw[hm0];exact sim
  ·rw[hm0];exact Ext.refl _ _ _ _
  ·rw[hm0];exact Locks.refl _ _
 have ready_of:∀ (listed:Array Bool),listed.size=ops.size->∀ j,j<ops.size->listed.getD j false=false->(∀ (o:Oper) (e:Edge),ops[j]? = some o->e∈o.after->Region.binds .any e=true->listed.getD e.on false=true) ->
   j∈Region.ready .any ops listed:=by
  intro listed hsz j hj hl he
  unfold Region.ready
  rw[List.mem_filter]
  obtain⟨o,ho⟩:=hlt j hj
  refine⟨List.mem_range.2 hj,?_⟩
  have h1:listed.getD j true=false:=by
   rw[Array.getD_eq_getD_getElem?]at hl ⊢
   rw[Array.getElem?_eq_getElem (by omega)]at hl ⊢
   exact hl
  rw[h1,ho]
  simp only[Bool.not_false,Bool.true_and,Option.map_some,Option.getD_some,Array.all_eq_true_iff_forall_mem,Bool.or_eq_true,Bool.not_eq_true']
  intro e hm
  cases hbe:Region.binds .any e with
  | false=>exact .inl rfl
  | true=>exact .inr (he o e ho hm hbe)
 have of_ready:∀ (listed:Array Bool),listed.size=ops.size->∀ j,j∈Region.ready .any ops listed->j<ops.size/\listed.getD j false=false/\∀ (o:Oper) (e:Edge),ops[j]? = some o->e∈o.after->Region.binds .any e=true->listed.getD e.on false=true:=by
  intro listed hsz j hj
  unfold Region.ready at hj
  rw[List.mem_filter]at hj
  have hjl:=List.mem_range.1 hj.1
  obtain⟨o,ho⟩:=hlt j hjl
  have h2:=hj.2
  rw[ho]at h2
  simp only[Bool.and_eq_true,Bool.not_eq_true',Option.map_some,Option.getD_some,Array.all_eq_true_iff_forall_mem,Bool.or_eq_true]at h2
  refine⟨hjl,?_,fun o' e ho' hm hbe=>?_⟩
  ·have h1:=h2.1
   rw[Array.getD_eq_getD_getElem?]at h1 ⊢
   rw[Array.getElem?_eq_getElem (by omega)]at h1 ⊢
   exact h1
  ·rw[ho]at ho';cases ho'
   rcases h2.2 e hm with h | h
   ·rw[hbe]at h;cases h
   ·exact h
 have fin:∀ (listed:Array Bool) (κ':A2) (a':Act) (w':World),listed.size=ops.size->Region.ready .any ops listed=[] ->
   Sim P L w0 B r κ' (mrg fp s (fun j=>listed.getD j false) ops.size) a' w'->Ext L κ st.h w κ' (mrg fp s (fun j=>listed.getD j false) ops.size).h w'->Locks st (mrg fp s (fun j=>listed.getD j false) ops.size) a a'->Q .normal a' w':=by
  intro listed κ' a' w' hsz hr hsim hext hlk
  have all:∀ j,j<ops.size->listed.getD j false=true:=by
   intro j
   induction j using Nat.strongRecOn with
   | _ j ih =>
    intro hj
    cases hl:listed.getD j false with
    | true=>rfl
    | false =>
     have:=ready_of listed hsz j hj hl fun o e ho hm hbe=>by
      have hlt':=j4s hb ho hm hbe
      exact ih e.on hlt' (by omega)
     rw[hr]at this;cases this
  have hm:mrg fp s (fun j=>listed.getD j false) ops.size=st':=by
   have h1:mrg fp s (fun j=>listed.getD j false) ops.size=mrg fp s (fun j=>decide (j<ops.size)) ops.size :=
    St.ext_fields (fun t=>q49 fp s ops.size fun j hj _=>by rw[all j hj];simp[hj]) (fun id=>q06 fp s ops.size fun j hj _=>by rw[all j hj];simp[hj])
     ⟨(Q7 fp s _).1.trans (Q7 fp s _).1.symm,(Q7 fp s _).2.1.trans (Q7 fp s _).2.1.symm,(Q7 fp s _).2.2.trans (Q7 fp s _).2.2.symm⟩
   rw[h1,text ops.size ops.size (Nat.le_refl _),Nat.min_self]
   simpa using sn
  rw[hm]at hsim hext hlk
  exact hQ κ' a' w' hsim hext hlk
 intro fuel
 induction fuel with
 | zero =>
  intro listed κ' a' w' hsz hf hdc hsim hext hlk
  have hr:Region.ready .any ops listed=[]:=by
   apply List.eq_nil_iff_forall_not_mem.2
   intro j hj
   obtain⟨h1,h2,-⟩:=of_ready listed hsz j hj
   have:j∈(List.range ops.size).filter fun j=>!listed.getD j true:=List.mem_filter.2 ⟨List.mem_range.2 h1,by
    rw[Array.getD_eq_getD_getElem?]at h2 ⊢
    rw[Array.getElem?_eq_getElem (by omega)]at h2 ⊢
    simpa using h2⟩
   rw[List.eq_nil_of_length_eq_zero (Nat.le_zero.1 hf)]at this
   cases this
  exact⟨hr,fin listed κ' a' w' hsz hr hsim hext hlk⟩
 | succ fuel ih =>
  intro listed κ' a' w' hsz hf hdc hsim hext hlk
  refine⟨fun hr=>fin listed κ' a' w' hsz hr hsim hext hlk,fun i hir=>?_⟩
  obtain⟨hin,hil,hie⟩:=of_ready listed hsz i hir
  obtain⟨o,ho⟩:=hlt i hin
  obtain⟨hstep,hnext,-⟩:=hst i o ((hops i o).2 ho)
  have hfpi:=hfp i o ho
  have befl:∀ j,Bef ops j i->listed.getD j false=true:=by
   intro j hb
   cases hb with
   | edge h he hbi=>exact hie _ _ h he hbi
   | step h he hbi t=>exact dcl (fun j=>listed.getD j false) (fun j o e h1 h2 h3 h4=>hdc j o e h1 h2 h3 h4) _ _ t (hie _ _ h he hbi)
  have behl:∀ j,Bef ops i j->listed.getD j false=false:=by
   intro j hb
   cases hl:listed.getD j false with
   | false=>rfl
   | true =>
    have:=dcl (fun j=>listed.getD j false) (fun j o e h1 h2 h3 h4=>hdc j o e h1 h2 h3 h4) i j hb hl
    simp only[hil]at this;cases this
  have side:∀ j,j<ops.size->j≠i->(H0 (fp j) (fp i)=true/\H0 (fp i) (fp j)=true)->(j<i->exc j i=false)->(i<j->exc i j=false)->listed.getD j false=decide (j<i):=by
   intro j hj hji hc x1 x2
   rcases Nat.lt_or_gt_of_ne hji with hlt' | hgt'
   ·rw[befl j (ord j i hlt' hin hc.1 (x1 hlt'))];simp[hlt']
   ·rw[behl j (ord i j hgt' hj hc.2 (x2 hgt'))];simp;omega
  have hx:mrg fp s (fun j=>decide (j<i)) ops.size=s i:=by rw[text i ops.size (Nat.le_refl _),show min i ops.size=i from by omega]
  have exf:∀ k l,k<ops.size->l<ops.size->H0 { fp k with ro:=[] } (fp l)=true->exc k l=false:=by
   intro k l hk hl hc
   cases he:exc k l with
   | false=>rfl
   | true =>
    obtain⟨o1,o2,a1,b1,T,m1,k1,m2,k2,id,e1,e2,e3,e4,-,-,-,-,-,-,-,e12,-⟩:=z1e he
    rw[hfps k o1 e1]at e3;cases e3
    rw[hfps l o2 e2]at e4;cases e4
    rw[hc]at e12;cases e12
  have weak:∀ k l,H0 { fp k with ro:=[] } (fp l)=true->H0 (fp k) (fp l)=true:=by
   intro k l hc
   have hm0:∀ (x:List Nat),J2 x []=false:=fun x=>by
    show(!Nat.beq (O3 x &&& 0) 0)=false
    rw[Nat.and_zero];rfl
   simp only[H0,hm0,q22,Bool.or_false,Bool.or_eq_true,Bool.and_eq_true,Bool.or_assoc,Bool.false_or]at hc ⊢
   rcases hc with h | h | h | h | h
   ·exact .inl h
   ·exact .inr (.inl h)
   ·exact .inr (.inr (.inl h))
   ·exact .inr (.inr (.inr (.inr (.inl h))))
   ·exact .inr (.inr (.inr (.inr (.inr ⟨h.1,.inr h.2⟩))))
  have cw:∀ j t,t∈(fp j).wt->t∈(fp i).rt\/t∈(fp i).wt->H0 { fp j with ro:=[] } (fp i)=true/\H0 { fp i with ro:=[] } (fp j)=true:=by
   intro j t h1 h2
   have m1:J2 (fp j).wt ((fp i).rt++(fp i).wt)=true:=by
    cases hm:J2 (fp j).wt ((fp i).rt++(fp i).wt)with
    | true=>rfl
    | false=>exact absurd (List.mem_append.2 h2) (q05 hm t h1)
   constructor
   ·simp[H0,m1]
   ·rcases h2 with h2 | h2
    ·have m2:J2 (fp j).wt (fp i).rt=true:=by
      cases hm:J2 (fp j).wt (fp i).rt with
      | true=>rfl
      | false=>exact absurd h2 (q05 hm t h1)
     simp[H0,m2]
    ·have m2:J2 (fp i).wt ((fp j).rt++(fp j).wt)=true:=by
      cases hm:J2 (fp i).wt ((fp j).rt++(fp j).wt)with
      | true=>rfl
      | false=>exact absurd (List.mem_append.2 (.inr h1)) (q05 hm t h2)
     simp[H0,m2]
  have ne:∀ (id:Nat) (l:List Nat),id∈l->l.isEmpty=false:=fun id l hl=>by cases l with | nil=>cases hl | cons _ _=>rfl
  have co:∀ j id,(fp j).wr id->((fp i).all=true\/id∈(fp i).wo)->H0 { fp j with ro:=[] } (fp i)=true/\H0 { fp i with ro:=[] } (fp j)=true:=by
   intro j id h1 h2
   rcases h1 with h1 | h1
   ·obtain⟨h1,hl⟩:=h1
    rcases h2 with h2 | h2
    ·simp[H0,h1,h2]
    ·simp[H0,h1,ne _ _ h2]
   ·rcases h2 with h2 | h2
    ·simp[H0,h2,ne _ _ h1]
    ·have m1:J2 (fp j).wo ((fp i).ro++(fp i).wo)=true:=by
      cases hm:J2 (fp j).wo ((fp i).ro++(fp i).wo)with
      | true=>rfl
      | false=>exact absurd (List.mem_append.2 (.inr h2)) (q05 hm id h1)
     have m2:J2 (fp i).wo ((fp j).ro++(fp j).wo)=true:=by
      cases hm:J2 (fp i).wo ((fp j).ro++(fp j).wo)with
      | true=>rfl
      | false=>exact absurd (List.mem_append.2 (.inr h1)) (q05 hm id h2)
     simp[H0,m1,m2]
  have cr:∀ j id,(fp j).wr id->id∈(fp i).ro->H0 { fp j with ro:=[] } (fp i)=true/\H0 (fp i) (fp j)=true:=by
   intro j id h1 h2
   rcases h1 with h1 | h1
   ·obtain⟨h1,hl⟩:=h1
    simp[H0,h1,z6z h2 hl]
   ·have m1:J2 (fp j).wo ((fp i).ro++(fp i).wo)=true:=by
     cases hm:J2 (fp j).wo ((fp i).ro++(fp i).wo)with
     | true=>rfl
     | false=>exact absurd (List.mem_append.2 (.inl h2)) (q05 hm id h1)
    have m2:J2 (fp j).wo (fp i).ro=true:=by
     cases hm:J2 (fp j).wo (fp i).ro with
     | true=>rfl
     | false=>exact absurd h2 (q05 hm id h1)
    simp[H0,m1,m2]
  have sideW:∀ j,j<ops.size->j≠i->(H0 { fp j with ro:=[] } (fp i)=true/\H0 { fp i with ro:=[] } (fp j)=true)->listed.getD j false=decide (j<i):=fun j hj hji hc =>
   side j hj hji ⟨weak j i hc.1,weak i j hc.2⟩ (fun _=>exf j i hj hin hc.1) (fun _=>exf i j hin hj hc.2)
  have agT:∀ t,t∈(fp i).rt->(mrg fp s (fun j=>listed.getD j false) ops.size).ρ t=(s i).ρ t:=by
   intro t ht
   rw[<-hx]
   refine q49 fp s ops.size fun j hj hjt=>?_
   by_cases hji:j=i
   ·subst hji;simp only[hil];simp
   ·exact sideW j hj hji (cw j t hjt (.inl ht))
  have agW:∀ id,((fp i).all=true\/id∈(fp i).wo)->(mrg fp s (fun j=>listed.getD j false) ops.size).h id=(s i).h id:=by
   intro id ht
   rw[<-hx]
   refine q06 fp s ops.size fun j hj hjt=>?_
   by_cases hji:j=i
   ·subst hji;simp only[hil];simp
   ·exact sideW j hj hji (co j id hjt ht)
  have agR:(¬ ∃ j id,i<j/\j<ops.size/\exc i j=true/\id∈(fp i).ro/\(fp j).wr id/\listed.getD j false=true)->∀ id,id∈(fp i).ro->(mrg fp s (fun j=>listed.getD j false) ops.size).h id=(s i).h id:=by
   intro hno id ht
   rw[<-hx]
   refine q06 fp s ops.size fun j hj hjt=>?_
   by_cases hji:j=i
   ·subst hji;simp only[hil];simp
   ·have hc:=cr j id hjt ht
    by_cases hex:i<j/\exc i j=true
    ·cases hl:listed.getD j false with
     | true=>exact absurd ⟨j,id,hex.1,hj,hex.2,ht,hjt,hl⟩ hno
     | false=>simp;omega
    ·exact side j hj hji ⟨weak j i hc.1,hc.2⟩ (fun _=>exf j i hj hin hc.1) (fun hij=>by
      cases he:exc i j with
      | false=>rfl
      | true=>exact absurd ⟨hij,he⟩ hex)
  have hevt:∀ x∈o.op.operands,ev (mrg fp s (fun j=>listed.getD j false) ops.size).ρ x=ev (s i).ρ x:=by
   intro x hx'
   cases x with
   | tmp t =>
    refine agT t ?_
    rw[hfpi]
    exact List.mem_append_left _ (List.mem_filterMap.2 ⟨.tmp t,by simpa using hx',rfl⟩)
   | const v=>rfl
   | func f=>rfl
   | global g=>rfl
  have hfull:(q i).full≠none->(mrg fp s (fun j=>listed.getD j false) ops.size).h=(s i).h:=fun hf=>funext fun id=>agW id (.inl (by rw[hfpi];show(q i).full.isSome=true;cases hq:(q i).full with | none=>exact absurd hq hf | some _=>rfl))
  have hop:want i=true->A6 P L w0 o (mrg fp s (fun j=>listed.getD j false) ops.size).ρ (mrg fp s (fun j=>listed.getD j false) ops.size).h ((q i).heap (mrg fp s (fun j=>listed.getD j false) ops.size).h) (q i).av:=by
   intro hw
   by_cases hsp:∃ j id,i<j/\j<ops.size/\exc i j=true/\id∈(fp i).ro/\(fp j).wr id/\listed.getD j false=true
   ·obtain⟨j,id,hij,hj,hex,hro,hwr,hlj⟩:=hsp
    obtain⟨o1,o2,a1,b1,T,lm,lk,em,ek,id1,e1,e2,e3,e4,e5,e6,e7,e8,e9,e10,e11,e12,e13⟩:=z1e hex
    rw[ho]at e1;cases e1
    rw[hfps i o ho]at e3;cases e3
    rw[hfps j o2 e2]at e4;cases e4
    have hid:id=id1:=by rw[e9]at hro;simpa using hro
    subst hid
    obtain⟨hstepj,hnextj,-⟩:=hst j o2 ((hops j o2).2 e2)
    have hwj:want j=true:=hstepj.noguard e8
    have hrd:(q i).rd=[id]:=by rw[<-e9,hfpi];rfl
    obtain⟨l1,l2⟩:=hstep.look hw T lm lk e5 id hrd
    have hwo:id∈(fp j).wo:=by
     rcases hwr with h | h
     ·rw[e11]at h;cases h.1
     ·exact h
    have btw:∀ k,i<k->k<j->¬ (fp k).wr id:=by
     intro k h1 h2 h3
     obtain⟨ok,hok⟩:=hlt k (by omega)
     obtain⟨h4,h5⟩:=e13 k (fp k) (hfps k ok hok) h1 h2
     rcases h3 with h3 | h3
     ·rw[h4]at h3;cases h3.1
     ·exact h5 h3
    have self:¬ (fp i).wr id:=by
     intro h3
     rcases h3 with h3 | h3
     ·rw[e10]at h3;cases h3.1
     ·have:=(co j id hwr (.inr h3)).2
      rw[this]at e12;cases e12
    have hsj:(s j).h id=(s i).h id:=by
     have t1:mrg fp s (fun k=>decide (k<j)) ops.size=s j:=by rw[text j ops.size (Nat.le_refl _),show min j ops.size=j from by omega]
     rw[<-t1,<-hx]
     refine q06 fp s ops.size fun k hk hkw=>?_
     by_cases h1:k<i
     ·simp[h1,show k<j from by omega]
     ·by_cases h2:k<j
      ·by_cases h3:k=i
       ·subst h3;exact absurd hkw self
       ·exact absurd hkw (btw k (by omega) h2)
      ·simp[h1,h2]
    have hmj:(mrg fp s (fun j=>listed.getD j false) ops.size).h id=(s (j+1)).h id:=by
     have t1:mrg fp s (fun k=>decide (k<j+1)) ops.size=s (j+1):=by rw[text (j+1) ops.size (Nat.le_refl _),show min (j+1) ops.size=j+1 from by omega]
     rw[<-t1]
     refine q06 fp s ops.size fun k hk hkw=>?_
     by_cases h3:k=i
     ·subst h3;exact absurd hkw self
     by_cases h4:k=j
     ·subst h4;rw[hlj];simp
     by_cases h1:k<i
     ·have hc:=cr k id hkw hro
      rw[side k hk h3 ⟨weak k i hc.1,hc.2⟩ (fun _=>exf k i hk hin hc.1) (fun h=>by omega)]
      simp[h1,show k<j+1 from by omega]
     by_cases h2:k<j
     ·exact absurd hkw (btw k (by omega) h2)
     ·have hc:=cr k id hkw hro
      have hne:exc i k=false:=by
       cases he:exc i k with
       | false=>rfl
       | true =>
        obtain⟨o3,o4,a3,b3,_,_,_,_,_,id3,f1,f2,f3,f4,-,-,-,-,f9,-,-,-,f13⟩:=z1e he
        rw[hfps i o3 f1]at f3;cases f3
        have:id3=id:=by rw[e9]at f9;simpa using f9.symm
        subst this
        exact absurd hwo (f13 j (fp j) (hfps j o2 e2) (by omega) (by omega)).2
      rw[side k hk h3 ⟨weak k i hc.1,hc.2⟩ (fun h=>by omega) (fun _=>hne)]
      simp;omega
    have hups:id∈(q j).ups.map (·.1):=by
     have:=hwo
     rw[hfp j o2 e2]at this
     exact this
    rcases hstepj.ent hwj T em ek e6 id hups with h1 | h1
    ·rw[hsj]at h1;exact absurd h1 l1
    ·rw[hsj]at h1
     refine l2 _ _ hevt ?_
     rw[hmj,hnextj]
     exact h1
   ·have hag:R6 o.op (q i) (s i).ρ (s i).h (mrg fp s (fun j=>listed.getD j false) ops.size).ρ (mrg fp s (fun j=>listed.getD j false) ops.size).h :=
     ⟨hevt,fun id hm=>agR hsp id (by rw[hfpi];exact hm),fun p hm=>agW p.1 (.inr (by rw[hfpi];exact List.mem_map.2 ⟨p,hm,rfl⟩)),hfull⟩
    exact hstep.run hw _ _ hag
  have hgs:∀ t∈q6m ops o,(mrg fp s (fun j=>listed.getD j false) ops.size).ρ t=(s i).ρ t:=fun t ht=>agT t (by rw[hfpi];exact List.mem_append_right _ ht)
  obtain⟨m1,m2,m3⟩:=Q7 fp s (c:=fun j=>listed.getD j false) ops.size
  obtain⟨l1,l2,l3⟩:=hlock i (by omega)
  have hafter:(mrg fp s (fun j=>listed.getD j false) ops.size).after o (q i)=mrg fp s (fun j=>(listed.setIfInBounds i true).getD j false) ops.size:=by
   have hset:∀ j,(listed.setIfInBounds i true).getD j false=if j=i then true else listed.getD j false:=fun j=>by
    by_cases hji:j=i
    ·subst hji;rw[if_pos rfl,Array.getD_eq_getD_getElem?,Array.getElem?_setIfInBounds_self_of_lt (by omega)];rfl
    ·rw[if_neg hji,Array.getD_eq_getD_getElem?,Array.getElem?_setIfInBounds_ne (Ne.symm hji),<-Array.getD_eq_getD_getElem?]
   rw[z49 (ops:=ops) (st:=s i) hfull (fun H hH id hid=>hstep.full H hH id (.inr hid)),<-hnext,<-hfpi]
   have hx1:mrg fp s (fun j=>decide (j<i+1)) ops.size=s (i+1):=by rw[text (i+1) ops.size (Nat.le_refl _),show min (i+1) ops.size=i+1 from by omega]
   refine St.ext_fields (fun t=>?_) (fun id=>?_) ⟨m1.trans (Q7 fp s _).1.symm,m2.trans (Q7 fp s _).2.1.symm,m3.trans (Q7 fp s _).2.2.symm⟩
   ·simp only[over]
    by_cases ht:t∈(fp i).wt
    ·rw[if_pos ht,<-hx1]
     refine q49 fp s ops.size fun j hj hjt=>?_
     rw[hset]
     by_cases hji:j=i
     ·subst hji;simp
     ·rw[if_neg hji,sideW j hj hji (cw j t hjt (.inr ht))]
      simp;omega
    ·rw[if_neg ht]
     refine q49 fp s ops.size fun j hj hjt=>?_
     rw[hset,if_neg (fun(e:j=i)=>ht (e▸hjt))]
   ·simp only[over]
    by_cases ht:(fp i).wr id
    ·rw[if_pos ht,<-hx1]
     refine q06 fp s ops.size fun j hj hjt=>?_
     rw[hset]
     by_cases hji:j=i
     ·subst hji;simp
     ·rw[if_neg hji,sideW j hj hji (co j id hjt (by rcases ht with h | h;exact .inl h.1;exact .inr h))]
      simp;omega
    ·rw[if_neg ht]
     refine q06 fp s ops.size fun j hj hjt=>?_
     rw[hset,if_neg (fun(e:j=i)=>ht (e▸hjt))]
  refine z3n ho hstep (by rw[m1,l1,s0]) (by rw[m2,l2,s0]) (by rw[m3,l3,s0]) hop hgs (fun H hH id hid=>?_) hsim (fun κ'' a'' w'' g1 g2 g3=>?_) fun hw T hT κ'' w'' g1 g2=>?_
  ·have:=hstep.full H hH id (.inl (by rw[l2,<-s0,<-m2];exact hid))
   rw[this]
   exact(agW id (.inl (by rw[hfpi];show(q i).full.isSome=true;rw[hH];rfl))).symm
  ·rw[hafter]at g1 g2 g3
   have hset:∀ j,(listed.setIfInBounds i true).getD j false=if j=i then true else listed.getD j false:=fun j=>by
    by_cases hji:j=i
    ·subst hji;rw[if_pos rfl,Array.getD_eq_getD_getElem?,Array.getElem?_setIfInBounds_self_of_lt (by omega)];rfl
    ·rw[if_neg hji,Array.getD_eq_getD_getElem?,Array.getElem?_setIfInBounds_ne (Ne.symm hji),<-Array.getD_eq_getD_getElem?]
   refine ih (listed.setIfInBounds i true) κ'' a'' w'' (by simpa using hsz) ?_ (fun j o' e hj ho' he hbe=>?_) g1 (hext.trans g2) (hlk.trans g3)
   ·have hlen:((List.range ops.size).filter fun j=>!(listed.setIfInBounds i true).getD j true).length<((List.range ops.size).filter fun j=>!listed.getD j true).length:=by
     have hsett:∀ j,(listed.setIfInBounds i true).getD j true=if j=i then true else listed.getD j true:=fun j=>by
      by_cases hji:j=i
      ·subst hji;rw[if_pos rfl,Array.getD_eq_getD_getElem?,Array.getElem?_setIfInBounds_self_of_lt (by omega)];rfl
      ·rw[if_neg hji,Array.getD_eq_getD_getElem?,Array.getElem?_setIfInBounds_ne (Ne.symm hji),<-Array.getD_eq_getD_getElem?]
     have hsub:((List.range ops.size).filter fun j=>!(listed.setIfInBounds i true).getD j true)=((List.range ops.size).filter fun j=>!listed.getD j true).filter fun j=>decide (j≠i):=by
      rw[List.filter_filter]
      refine List.filter_congr fun j _=>?_
      rw[hsett]
      by_cases hji:j=i<;>simp[hji]
     rw[hsub]
     refine List.length_filter_lt_length_iff_exists.2 ⟨i,List.mem_filter.2 ⟨List.mem_range.2 hin,?_⟩,by simp⟩
     rw[Array.getD_eq_getD_getElem?]at hil ⊢
     rw[Array.getElem?_eq_getElem (by omega)]at hil ⊢
     simpa using hil
    omega
   ·rw[hset]at hj ⊢
    by_cases hei:e.on=i
    ·rw[if_pos hei]
    ·rw[if_neg hei]
     by_cases hji:j=i
     ·subst hji;exact hie o' e ho' he hbe
     ·rw[if_neg hji]at hj;exact hdc j o' e hj ho' he hbe
  ·obtain⟨H,hH,-⟩:=q4d hstep.pan hT
   have hq:(q i).heap (mrg fp s (fun j=>listed.getD j false) ops.size).h=H:=by unfold Eff.heap;rw[hH]
   rw[hq]at g1 g2
   have hmem:(want i,q i)∈qs:=List.mem_of_getElem? (hst i o ((hops i o).2 ho)).2.2
   obtain⟨p1,p2⟩:=z94 hsim hlk (hpb ⟨_,hmem,T,hT⟩) (fun id hid=>(hstep.full H hH id (.inl (by rw[l2,<-s0,<-m2];exact hid))).trans (agW id (.inl (by rw[hfpi];show(q i).full.isSome=true;rw[hH];rfl))).symm) g1 g2
   exact hP _ hmem T H hT hH κ'' a' w'' p1 (hext.trans g2) p2
theorem j5x {R:Type} {st st':St} {qs:List (Bool×Eff)} {pj:Option Nat} {K:XK->St->Option R} {z:R} (hpi:z44 st'.h qs pj) (he:q64 st st' pj K=some z) :
  (pj=none/\K .nrm st'=some z)\/(∃ j T,pj=some j/\st'.h B6=I9 T/\st.lo B6=false/\K (.pan T) (X8 st st'.h)=some z/\∀ p∈qs,∀ T',p.2.av=.one (.pan T')->T'=T/\p.2.full=some st'.h):=by
 cases pj with
 | none=>exact .inl ⟨rfl,he⟩
 | some j =>
  obtain⟨T,hT,hq⟩:=hpi
  have he:z2t st st' K=some z:=he
  unfold z2t at he
  rw[hT]at he
  have he:cond (!st.lo B6) (K (.pan T) (X8 st st'.h)) none=some z:=he
  obtain⟨hc,he⟩:=A7 he
  exact .inr ⟨j,T,rfl,hT,by simpa using hc,he,hq⟩
theorem j69 {R:Type} {C:Ctx} (hC:CtxOK P L w0 C) (hmix:P.follows .mixedOrders=true) {ib id:Nat} {ops:Array Oper} {draw:Bool} {st:St} {K:XK->St->Option R} {z:R} (he:q6c C ib ops draw st K=some z) :
  ∃ x st',K x st'=some z/\SL st st'/\∀ B r κ a w,Sim P L w0 B r κ st a w->∀ (m:Nat) (Q:Exit->Act->World->Prop),(∀ κ' a' w',Sim P L w0 B r κ' st' a' w'->Ext L κ st.h w κ' st'.h w'->Locks st st' a a'->Q x.exit a' w') ->
   (Code.region id ops draw).wpIn (Fr r) m P Q a w:=by
 unfold q6c at he
 obtain⟨qs,st1,pj,hst,hpi,hk⟩:=q6b hC ops.toList st [] _ z he
 have fin:q64 st st1 pj K=some z->∃ x st',K x st'=some z/\SL st st'/\∀ B r κ a w,∀ (Q:Exit->Act->World->Prop),(∀ κ' a' w',Sim P L w0 B r κ' st' a' w'->Ext L κ st.h w κ' st'.h w'->Locks st st' a a'->Q x.exit a' w') ->
   (∀ κ' a' w',Sim P L w0 B r κ' st1 a' w'->Ext L κ st.h w κ' st1.h w'->Locks st st1 a a'->Q .normal a' w')/\((∃ p∈qs,∃ T,p.2.av=.one (.pan T))->st.lo B6=false)/\q92 P L w0 B r κ st a w qs Q:=fun hk=>by
  rcases j5x hpi hk with⟨hj,hk⟩ | ⟨j,T,hj,hT,hlo,hk,hq⟩
  ·subst hj
   refine⟨.nrm,st1,hk,j24 hst,fun B r κ a w Q hQ=>⟨hQ,fun ⟨p,hp,T,hT⟩=>absurd hT (hpi p hp T),fun p hp T H hT=>absurd hT (hpi p hp T)⟩⟩
  ·refine⟨.pan T,X8 st st1.h,hk,⟨rfl,fun id hid=>?_⟩,fun B r κ a w Q hQ=>⟨fun κ' a' w' sim _ _=>(z7a sim.heap hT).elim,fun _=>hlo,fun p hp T' H hav hH κ' a' w' h1 h2 h3=>?_⟩⟩
   ·have hne:id≠B6:=fun h=>by rw[h,hlo]at hid;cases hid
    show upd st1.h B6 .fresh id=st.h id
    rw[A0 _ _ hne]
    exact(j24 hst).obj id hid
   ·obtain⟨e1,e2⟩:=hq p hp T' hav
    subst e1
    rw[hH]at e2
    cases e2
    exact hQ κ' a' w' h1 h2 h3
 cases draw with
 | false =>
  obtain⟨x,st',h1,h2,h3⟩:=fin hk
  refine⟨x,st',h1,h2,fun B r κ a w sim m Q hQ=>?_⟩
  obtain⟨g1,g2,g3⟩:=h3 B r κ a w Q hQ
  refine wpIn_region ?_
  have:=z2z (r:=r) (m:=m) (Q:=Q) g2 g3 ops.toList 0 st qs st1 hst (fun p hp=>hp) (fun j o hj=>by simpa using hj) κ a w sim (Ext.refl _ _ _ _) (Locks.refl _ _) g1
  rw[List.range_eq_range']
  simpa using this
 | true =>
  obtain⟨hc,hk⟩:=A7 hk
  rw[Bool.and_eq_true,List.nil_append]at hc
  obtain⟨x,st',h1,h2,h3⟩:=fin hk
  refine⟨x,st',h1,h2,fun B r κ a w sim m Q hQ=>?_⟩
  refine wpIn_region_any hmix ?_
  have simd:Sim P L w0 B r κ st a w.drew:=⟨sim.size,fun t=>(sim.env t).ext (S1 κ _ w),q3v sim.heap,sim.defs,sim.rnd⟩
  obtain⟨g1,g2,g3⟩:=h3 B r κ a w.drew Q fun κ' a' w' h1 h2 h3=>hQ κ' a' w' h1 ((S1 κ _ w).trans h2) h3
  exact y0h hst hc.1 hc.2 simd g1 g2 g3
end Go.Abs
