/- The engine, part 11g: a range over a map begins; the entry that came last. -/
import Derived.Test.YteeaadgpkammdaaGreatDoorAbsSound13
import Derived.Test.YteeaadgpkammdaaGreatDoorAbsSound12
import Derived.Maps.RangeRun
namespace Go.Abs
open Go Go.RowKit
variable {P:Program} {L:Nat->Prop} {w0:World}
theorem y7m (es:Array MapEntry):leftOf es #[]=es:=by
 unfold leftOf
 simp
theorem v3z {R:Type} {C:Ctx} (hti:∀ t ti,C.TI t=some ti->ti.OK P t) {o:Oper} {T:TypeId} {x:Operand} (ho:o.op=.range T x) {ρ:Env} {h:Heap} {id':Nat} {K:Eff->Option R} {z:R} (he:z80 C T (ev ρ x) h id' K=some z) :
  ∃ q,K q=some z/\q.full=none/\∀ ρs hs,ev ρs x=ev ρ x->(∀ p∈q.ups,hs p.1=h p.1)->A8 P L w0 o ρs hs (q.heap hs) q.av:=by
 unfold z80 at he
 split at he
 ·rename_i ti hT
  split at he
  ·rename_i kv hmp
   split at he
   ·rename_i ak av tk tv l hx
    unfold I2 at he
    split at he
    rotate_left
    ·cases he
    rename_i hf
    refine⟨_,he,rfl,fun ρs hs e1 hup=>?_⟩
    have hfs:hs id'=.fresh:=(hup (id',.iter ak av tk tv l none) (by simp)).trans hf
    have hu:=(hti T ti hT).mapT kv.1 kv.2 hmp
    show A8 P L w0 o ρs hs (upd hs id' (.iter ak av tk tv l none)) (.one (.ptr id' 0))
    refine I9 (fun c hc=>by rw[ho]at hc;cases hc) fun κ a w hev ok=>?_
    have hv:=hev x
    rw[e1,hx]at hv
    obtain⟨_,_,hrep⟩:=hv
    have fin:∀ (m:Option Nat) (since c0:Nat),(Instr.range T (a.eval x)).run P w=.ok (.pointer (some ⟨w.heap.size,0,none⟩)) (w.alloc (.mapIter m since #[] c0)) ->
      IterRep (w.alloc (.mapIter m since #[] c0)) (A4 L (upd κ id' (some (w.heap.size,0))) (upd hs id' (.iter ak av tk tv l none)) (w.alloc (.mapIter m since #[] c0))) ak av tk tv l none m since #[] c0 ->
      ∃ κ' v w',(execOp a.eval o).run P w=.ok (.value v) w'/\HeapOK L w0 κ' (upd hs id' (.iter ak av tk tv l none)) w'/\RepAV L κ' (upd hs id' (.iter ak av tk tv l none)) w' (.one (.ptr id' 0)) v/\Ext L κ hs w κ' (upd hs id' (.iter ak av tk tv l none)) w':=by
     intro m since c0 hrun hit
     have hx':=Q1 (L:=L) (κ:=κ) (h:=hs) (w:=w) (.mapIter m since #[] c0) (id:=id') (.iter ak av tk tv l none) 0 hfs
     refine⟨_,_,_,by unfold execOp;rw[ho];simp only[Sem.run_bind,hrun,Result.andThen_ok,Sem.run_pure],W9 ok (.mapIter m since #[] c0) (.iter ak av tk tv l none) 0 hfs ⟨w.heap.size,0,m,since,#[],c0,A1 _ _ _,World.alloc_heap_new w _,hit⟩,⟨by rw[A1];simp,w.heap.size,0,A1 _ _ _,rfl⟩,hx'⟩
    obtain⟨b,es,clock,h0,hA,hb,hr⟩:=hrep
    ·have h0:a.eval x=.map (some b):=by simpa[F4]using h0
     have hx':=Q1 (L:=L) (κ:=κ) (h:=hs) (w:=w) (.mapIter (some b) clock #[] clock) (id:=id') (.iter ak av tk tv l none) 0 hfs
     obtain⟨hA',hb'⟩:=hx'.free b hA
     refine fin (some b) clock clock (by rw[h0];exact run_range_map w T _ _ b es clock hu hb) ⟨.inr ⟨b,es,clock,rfl,hA',hb'.trans hb,hr.apart,hr.early,Nat.le_refl _,Nat.le_refl _,?_,fun q hq=>by cases hq⟩⟩
     obtain⟨p,p1,p2,p3⟩:=hr.ents
     rw[y7m]
     exact⟨p,p1,p2,fun i y q a b=>⟨RepVal.mono hx'.free (p3 i y q a b).1,RepVal.mono hx'.free (p3 i y q a b).2⟩⟩
   ·rename_i hx
    unfold I2 at he
    split at he
    rotate_left
    ·cases he
    rename_i hf
    refine⟨_,he,rfl,fun ρs hs e1 hup=>?_⟩
    have hfs:hs id'=.fresh:=(hup (id',.iter false false .bool .bool [] none) (by simp)).trans hf
    show A8 P L w0 o ρs hs (upd hs id' (.iter false false .bool .bool [] none)) (.one (.ptr id' 0))
    refine I9 (fun c hc=>by rw[ho]at hc;cases hc) fun κ a w hev ok=>?_
    have hv:=hev x
    rw[e1,hx]at hv
    have h0:a.eval x=.map none:=hv
    have hx':=Q1 (L:=L) (κ:=κ) (h:=hs) (w:=w) (.mapIter none 0 #[] 0) (id:=id') (.iter false false .bool .bool [] none) 0 hfs
    have hrun:(Instr.range T (a.eval x)).run P w=.ok (.pointer (some ⟨w.heap.size,0,none⟩)) (w.alloc (.mapIter none 0 #[] 0)):=by
     rw[h0]
     exact run_range_nilMap w T _ _ ((hti T ti hT).mapT kv.1 kv.2 hmp)
    refine⟨_,_,_,by unfold execOp;rw[ho];simp only[Sem.run_bind,hrun,Result.andThen_ok,Sem.run_pure],W9 ok (.mapIter none 0 #[] 0) (.iter false false .bool .bool [] none) 0 hfs ⟨w.heap.size,0,none,0,#[],0,A1 _ _ _,World.alloc_heap_new w _,⟨.inl ⟨rfl,rfl,rfl⟩⟩⟩,⟨by rw[A1];simp,w.heap.size,0,A1 _ _ _,rfl⟩,hx'⟩
   ·cases he
  ·cases he
 ·cases he
theorem z5k {κ:A3} {h:Heap} {w:World} {agg:Bool} {t:Ty} {v:Value} {y:t.den} (hr:RepVal w (A4 L κ h w) agg t v y):RepComp L κ h w (agg,q1q agg t y) v:=hr.cells.2
theorem v2d {w:World} (ty:TypeId) {r a b:Nat} {s:Array Nat} (hr:w.heap[r]? = some (.mapIter none a s b)) :
  (Instr.next (.pointer (some ⟨r,0,none⟩)) false ty).run P w=.ok (.tuple #[.bool false]) w:=by
 simp only[Instr.next,getObj,Sem.run_bind,Sem.run,hr,Result.andThen]
 rfl
theorem j5j {es:Array MapEntry} {seen:Array Nat} (hn:(es.toList.map (·.born)).Nodup) {i:Nat} {e:MapEntry} (hi:(leftOf es seen).toList[i]? = some e):(leftOf es (seen.push e.born)).toList=(leftOf es seen).toList.eraseIdx i:=by
 have e1:(leftOf es (seen.push e.born)).toList=(leftOf es seen).toList.filter fun x=>!(x.born==e.born):=by
  unfold leftOf
  rw[Array.toList_filter,Array.toList_filter,List.filter_filter]
  refine List.filter_congr fun x _=>?_
  rw[contains_push]
  cases seen.contains x.born<;>cases(x.born==e.born)<;>rfl
 rw[e1]
 have hsub:((leftOf es seen).toList.map (·.born)).Nodup:=by
  unfold leftOf
  rw[Array.toList_filter]
  exact(List.Sublist.map _ List.filter_sublist).nodup hn
 generalize (leftOf es seen).toList=l at hi hsub
 induction l generalizing i with
 | nil=>simp at hi
 | cons x r ih =>
  simp only[List.map_cons,List.nodup_cons]at hsub
  cases i with
  | zero =>
   simp at hi;subst hi
   rw[List.filter_cons]
   simp only[beq_self_eq_true,Bool.not_true,Bool.false_eq_true,if_false,List.eraseIdx_zero,List.tail_cons]
   refine List.filter_eq_self.2 fun y hy=>?_
   have:y.born≠x.born:=fun h=>hsub.1 (h▸List.mem_map.2 ⟨y,hy,rfl⟩)
   simpa using this
  | succ i =>
   simp only[List.getElem?_cons_succ]at hi
   have hne:x.born≠e.born:=fun h=>hsub.1 (h▸List.mem_map.2 ⟨e,List.mem_of_getElem? hi,rfl⟩)
   rw[List.filter_cons]
   have:(!(x.born==e.born))=true:=by simpa using hne
   rw[if_pos this,List.eraseIdx_cons_succ,ih hi hsub.2]
theorem v09 {α:Type} {l:List α} {i:Nat} {x:α} (h:l[i]? = some x):l.Perm (x::l.eraseIdx i):=by
 induction l generalizing i with
 | nil=>simp at h
 | cons y r ih =>
  cases i with
  | zero=>simp at h;subst h;simp
  | succ i =>
   simp only[List.getElem?_cons_succ]at h
   rw[List.eraseIdx_cons_succ]
   exact((ih h).cons y).trans (List.Perm.swap x y _)
theorem z9c {κ:A3} {h:Heap} {w:World} (ok:HeapOK L w0 κ h w) (ty:TypeId) {it b:Nat} {c:Nat×Nat} {ak av:Bool} {tk tv:Ty} {left:List (tk.den×tv.den)} {cur:Option (tk.den×tv.den)} (hit:h it=.iter ak av tk tv left cur) (hk:κ it=some (b,c)) :
  (left=[]/\(Instr.next (.pointer (some ⟨b,0,none⟩)) false ty).run P w=.ok (.tuple #[.bool false]) w) \/
  ∃ q rest w1 m since seen c0 key val,left.Perm (q::rest)/\(w1=w\/w1=w.drew)/\(Instr.next (.pointer (some ⟨b,0,none⟩)) false ty).run P w=.ok (.tuple #[.bool true,key,val]) (w1.putObj b (.mapIter m since seen c0)) /\
   IterRep w (A4 L κ h w) ak av tk tv rest (some q) m since seen c0/\RepVal w (A4 L κ h w) ak tk key q.1/\RepVal w (A4 L κ h w) av tv val q.2:=by
 have ho:=ok.obj it
 rw[hit]at ho
 obtain⟨b',c',m,since,seen,c0,h1,h2,hr⟩:=ho
 rw[hk]at h1;cases h1
 rcases hr.map with⟨rfl,rfl,rfl⟩ | ⟨bm,es,clock,rfl,hA,hb,hnd,hearly,hsc,hsk,⟨p,p1,p2,p3⟩,hcur⟩
 ·exact .inl ⟨rfl,v2d ty h2⟩
 ·rcases run_next_at (P:=P) w ty b bm since c0 seen es clock h2 hb hearly hsc with⟨z1,z2⟩ | ⟨e,he,w1,hw1,hrun⟩
  ·left
   have hp:p=[]:=List.eq_nil_of_length_eq_zero (by rw[p2];simpa using z1)
   subst hp
   exact⟨List.nil_perm.1 p1,z2⟩
  ·right
   obtain⟨i,hi,hie⟩:=List.getElem_of_mem he
   have hi':(leftOf es seen).toList[i]? = some e:=by rw[List.getElem?_eq_getElem hi,hie]
   have hip:i<p.length:=by rw[p2];exact hi
   have hpq:p[i]? = some p[i]:=List.getElem?_eq_getElem hip
   obtain⟨r1,r2⟩:=p3 i e p[i] hi' hpq
   refine⟨p[i],p.eraseIdx i,w1,some bm,since,seen.push e.born,clock,e.key,e.val,p1.symm.trans (v09 hpq),hw1,hrun,⟨.inr ⟨bm,es,clock,rfl,hA,hb,hnd,hearly,hsk,hsk,⟨p.eraseIdx i,List.Perm.refl _,?_,fun j x q hj hq=>?_⟩,fun q hq=>?_⟩⟩,r1,r2⟩
   ·rw[j5j hnd hi',List.length_eraseIdx,List.length_eraseIdx,p2]
   ·rw[j5j hnd hi',List.getElem?_eraseIdx]at hj
    rw[List.getElem?_eraseIdx]at hq
    by_cases hji:j<i
    ·rw[if_pos hji]at hj hq
     exact p3 j x q hj hq
    ·rw[if_neg hji]at hj hq
     exact p3 (j+1) x q hj hq
   ·cases hq
    exact⟨rfl,e,(mem_left he).1,Array.back?_push,r1,r2⟩
theorem v3y {R:Type} {o:Oper} {x:Operand} (ho:o.op=.next x false) {ρ:Env} {h:Heap} {K:Eff->Option R} {z:R} (he:z7v (ev ρ x) h K=some z) :
  ∃ q,K q=some z/\q.full=none/\∀ ρs hs,ev ρs x=ev ρ x->(∀ id∈q.rd,hs id=h id)->A8 P L w0 o ρs hs (q.heap hs) q.av:=by
 unfold z7v at he
 split at he
 ·rename_i id hx
  split at he
  ·rename_i ak av tk tv hid
   refine⟨_,he,rfl,fun ρs hs e1 hrd=>?_⟩
   have hids:hs id=.iter ak av tk tv [] none:=(hrd id (by simp)).trans hid
   refine D2 (fun c hc=>by rw[ho]at hc;cases hc) fun κ a w hev ok=>?_
   have hv:=hev x
   rw[e1,hx]at hv
   obtain⟨_,r,c,hk,hv⟩:=hv
   rcases z9c (P:=P) ok o.type hids hk with⟨_,hrun⟩ | ⟨q,rest,w1,m,since,seen,c0,key,val,hp,-⟩
   ·have hrun':(Instr.next (a.eval x) false o.type).run P w=.ok (.tuple #[.bool false]) w:=by rw[hv];exact hrun
    refine⟨.tuple #[.bool false],by unfold execOp;rw[ho];simp only[Sem.run_bind,hrun',Result.andThen_ok,Sem.run_pure],?_⟩
    refine⟨[.bool false],rfl,rfl,fun j cc uu hj hu=>?_⟩
    match j,hj,hu with
    | 0,hj,hu=>cases hj;cases hu;exact⟨rfl,rfl,rfl⟩
    | n+1,hj,_=>simp at hj
   ·exact absurd hp.length_eq (by simp)
  ·cases he
 ·cases he
theorem v3h {R:Type} {o:Oper} {x:Operand} (ho:o.op=.entry x) {ρ:Env} {h:Heap} {K:Eff->Option R} {z:R} (he:z7n (ev ρ x) h K=some z) :
  ∃ q,K q=some z/\q.full=none/\∀ ρs hs,ev ρs x=ev ρ x->(∀ id∈q.rd,hs id=h id)->A8 P L w0 o ρs hs (q.heap hs) q.av:=by
 unfold z7n at he
 split at he
 ·rename_i id hx
  split at he
  ·rename_i ak av tk tv left q hid
   refine⟨_,he,rfl,fun ρs hs e1 hrd=>?_⟩
   have hids:hs id=.iter ak av tk tv left (some q):=(hrd id (by simp[E4])).trans hid
   refine D2 (fun c hc=>by rw[ho]at hc;cases hc) fun κ a w hev ok=>?_
   have hv:=hev x
   rw[e1,hx]at hv
   obtain⟨_,r,c,hk,hv⟩:=hv
   have hob:=ok.obj id
   rw[hids]at hob
   obtain⟨r2,c2,m,since,seen,c0,hk2,hr,hit⟩:=hob
   rw[hk]at hk2;cases hk2
   rcases hit.map with⟨_,_,hc⟩ | ⟨b,es,clock,rfl,-,hb,hnd,-,-,-,-,hcur⟩
   ·cases hc
   ·obtain⟨hcl,y,hy,hback,hky,hvy⟩:=hcur q rfl
    subst hcl
    have hrun:(Instr.entry (a.eval x)).run P w=.ok (.tuple #[y.key,y.val]) w:=by
     have hf:es.find? (·.born==y.born)=some y:=by rw[<-Array.find?_toList];exact find_born y es.toList hnd hy
     rw[hv]
     simp only[Instr.entry,getObj,Sem.run_bind,Sem.run,hr,hb,Result.andThen,hback,bne_self_eq_false,Bool.false_eq_true,if_false,hf]
     rfl
    refine⟨.tuple #[y.key,y.val],by unfold execOp;rw[ho];simp only[Sem.run_bind,hrun,Result.andThen_ok,Sem.run_pure],?_⟩
    refine⟨[y.key,y.val],rfl,rfl,fun j cc uu hj hu=>?_⟩
    match j,hj,hu with
    | 0,hj,hu=>cases hj;cases hu;exact z5k hky
    | 1,hj,hu=>cases hj;cases hu;exact z5k hvy
    | n+2,hj,_=>simp at hj
  ·cases he
 ·cases he
structure CloneF (P:Program) (F:FuncId):Prop where
 fn:∃ fn,P.funcs[F]? = some fn/\fn.body.isSome=true/\(fn.name== "runtime.NumGoroutine")=false
 run:∀ (b:Nat) (es:Array MapEntry) (clock:Nat) (w:World),w.heap[b]? = some (.map es clock)->Calls P F #[.map (some b)] w fun e w'=>e=.returned (.map (some w.heap.size))/\w'=w.alloc (.map es clock)
def q1v (P:Program) (F:FuncId):Nat->Prop
 | 0=>CloneF P F
 | k+1=>SortN P F (k+1)
theorem v37 {R:Type} {F:FuncId} (hS:CloneF P F) {o:Oper} {g:Operand} {args:Array Operand} {Ts:Array TypeId} (ho:o.op=.call { callee:=.value g,args:=args,argTypes:=Ts })
  {ρ:Env} (hg:ev ρ g=.one (.fn F [])) {h:Heap} {id':Nat} {K:Eff->Option R} {z:R} (he:z79 (args.toList.map (ev ρ)) h id' K=some z) :
  ∃ q,K q=some z/\q.full=none/\∀ ρs hs,(∀ x,x=g\/x∈args.toList->ev ρs x=ev ρ x)->(∀ p∈q.ups,hs p.1=h p.1)->A8 P L w0 o ρs hs (q.heap hs) q.av:=by
 unfold z79 at he
 split at he
 ·rename_i ak av tk tv l hargs
  obtain⟨s,hax,hs'⟩:∃ s,args=#[s]/\ev ρ s=.one (.sc (.map ak av tk tv) l):=by
   obtain⟨l',hl⟩:∃ l',args.toList=l':=⟨_,rfl⟩
   rw[hl]at hargs
   match l',hargs with
   | [s],h=>simp only[List.map_cons,List.map_nil,List.cons.injEq,and_true]at h;exact⟨s,Array.toList_inj.1 hl,h⟩
   | [],h=>simp at h
   | _::_::_,h=>simp at h
  subst hax
  unfold I2 at he
  split at he
  rotate_left
  ·cases he
  rename_i hf
  refine⟨_,he,rfl,fun ρs hs ha hup=>?_⟩
  have hfs:hs id'=.fresh:=(hup (id',.mapo ak av tk tv l) (by simp)).trans hf
  show A8 P L w0 o ρs hs (upd hs id' (.mapo ak av tk tv l)) (.one (.mp id'))
  intro r κ a w henv ok m K' Q hK
  have hev:=O4 henv
  have hgv:=hev g
  rw[(ha g (.inl rfl)).trans hg]at hgv
  obtain⟨cs,hgv,hcl,-⟩:=hgv
  have hcs:cs=[]:=List.eq_nil_of_length_eq_zero hcl
  subst hcs
  have hsv:=hev s
  rw[(ha s (.inr (by simp))).trans hs']at hsv
  obtain⟨_,_,b,es,clock,h0,hA,hb,hr⟩:=hsv
  have h0:a.eval s=.map (some b):=by simpa[F4]using h0
  obtain⟨fn,hf1,hf2,hf3⟩:=hS.fn
  have hrun:=q36 (P:=P) ho hgv hf1 hf2 hf3 w
  have harr:(#[]++#[s].map a.eval++([]:List Value).toArray)=#[.map (some b)]:=by simp[h0]
  rw[harr]at hrun
  have hcall:=(callsIn_wide (n:=m-1)).2 (hS.run b es clock w hb)
  refine q0q (fun c hc=>by rw[ho]at hc;cases hc) hrun hcall fun e' w' ⟨he',hw⟩=>⟨_,he',?_⟩
  subst hw
  have hx':=Q1 (L:=L) (κ:=κ) (h:=hs) (w:=w) (.map es clock) (id:=id') (.mapo ak av tk tv l) 0 hfs
  exact hK _ _ _ (W9 ok (.map es clock) (.mapo ak av tk tv l) 0 hfs ⟨w.heap.size,0,es,clock,A1 _ _ _,World.alloc_heap_new w _,MapRep.mono hx'.free hr⟩) ⟨by rw[A1];simp,w.heap.size,0,A1 _ _ _,rfl⟩ hx'
 ·cases he
theorem setRow_self {w:World} {b:Nat} {cs:Array Value} {ty:TypeId} {fr:Nat×Nat} (h:w.heap[b]? = some (.cells cs ty fr)):w.setRow b cs=w:=by
 have key:(w.setRow b cs).heap=w.heap:=by
  apply Array.ext_getElem?
  intro i
  by_cases hi:i=b
  ·subst hi
   rw[setRow_heap w i cs _ ty fr h,h]
  ·exact setRow_other w b i cs hi
 have h2:w.setRow b cs={ w with heap:=(w.setRow b cs).heap }:=rfl
 rw[h2,key]
theorem j37 {t:Ty} {m:List t.den}:∀ {l r:List SV} {i:Nat},q48 t m i l=some r->r.length=l.length/\∀ (j:Nat) (s:SV),l[j]? = some s->∃ y,s=.sc t y/\r[j]? = some (.sc t ((m[i+j]?).getD y))
 | [],r,i,h=>by
  simp only[q48,Option.some.injEq]at h
  subst h
  exact⟨rfl,fun j s hj=>by simp at hj⟩
 | s0::l,r,i,h=>by
  cases s0 with
  | sc t' y =>
   simp only[q48]at h
   split at h
   ·rename_i y' r' hy hr
    cases h
    obtain⟨he,hy⟩:=H5 hy
    subst he;subst hy
    obtain⟨h1,h2⟩:=j37 hr
    refine⟨by simp[h1],fun j s hj=>?_⟩
    cases j with
    | zero=>simp at hj;subst hj;exact⟨_,rfl,rfl⟩
    | succ j =>
     obtain⟨z,h3,h4⟩:=h2 j s (by simpa using hj)
     exact⟨z,h3,by rw[List.getElem?_cons_succ,h4,show i+1+j=i+(j+1)from by omega]⟩
   ·cases h
  | _=>simp[q48]at h
theorem v2y {R:Type} {o:Oper} {T T' e:TypeId} {s x:Operand} {ti te:TInfo} (hti:ti.OK P T) (hel:ti.elem=some e) (hte:te.OK P e)
  (ho:o.op=.call { callee:=.builtin .copy,args:=#[s,x],argTypes:=#[T,T'] }) {ρ:Env} {h:Heap} {id off len cap:Nat} (hs':ev ρ s=.one (.csl id off len cap)) {K:Eff->Option R} {z:R} (he:z7b te h id off len (ev ρ x) K=some z) :
  ∃ q,K q=some z/\q.full=none/\∀ ρs hs,ev ρs s=ev ρ s->ev ρs x=ev ρ x->(∀ id∈q.rd,hs id=h id)->(∀ p∈q.ups,hs p.1=h p.1)->A8 P L w0 o ρs hs (q.heap hs) q.av:=by
 unfold z7b at he
 split at he
 rotate_left
 ·cases he
 rename_i sx l hx' hid
 split at he
 rotate_left
 ·cases he
 rename_i m hm
 split at he
 rotate_left
 ·cases he
 rename_i mid hmid
 obtain⟨hc,he2⟩:=q47 he
 simp only[Bool.and_eq_true]at hc
 obtain⟨⟨c0,c1⟩,c2⟩:=hc
 have c0:=Nat.le_of_ble_eq_true c0
 have hs1:=Nat.eq_of_beq_eq_true c1
 have ht1:=Nat.eq_of_beq_eq_true c2
 refine⟨_,he2,rfl,fun ρs hs g1 g2 g3 g4=>?_⟩
 have hid':hs id=.cells l:=(g4 (id,.cells (D5 l off mid)) (by simp)).trans hid
 have hl:B8 hs te.ty sx=some m:=(q7i te.ty sx g3).trans hm
 show A8 P L w0 o ρs hs (upd hs id (.cells (D5 l off mid))) (E8 .i64 (Nat.min m.length len:Nat))
 refine I9 (fun c hc=>by rw[ho]at hc;cases hc) fun κ a w hev ok=>?_
 have hsv:=hev s
 rw[g1,hs']at hsv
 obtain⟨_,b,c,hk,hv⟩:=hsv
 have hxv:=hev x
 rw[g2,hx']at hxv
 obtain⟨sa,xcap,hxe,hxc⟩:=z1o ok hxv hl
 have hob:=ok.obj id
 rw[hid']at hob
 obtain⟨b',c',cs,ty,hk',hheap,hcs⟩:=hob
 rw[hk]at hk';simp at hk';obtain⟨rfl,rfl⟩:=hk'
 obtain⟨-,d,hd,-,hde,-⟩:=hti.base
 have ht:P.underlying T=some (.slice e):=by
  rcases hde with hde | ⟨e',he',hde⟩
  ·rw[hel]at hde;cases hde
  ·rw[hel]at he';cases he';rw[hd,hde]
 obtain⟨i,zz,hi,hisz,-⟩:=hte.zero_one (L:=L)
 have hlive:(hs id).live=true:=by rw[hid'];rfl
 have hown:=ok.own id b c hlive hk
 obtain⟨m1,m2⟩:=j37 hmid
 have hmidl:mid.length=len:=by rw[m1,List.length_take,List.length_drop];omega
 have hmget:∀ j,j<len->∃ y,l[off+j]? = some (.sc te.ty y)/\mid[j]? = some (.sc te.ty ((m[j]?).getD y)):=fun j hj=>by
  have hlj:((l.drop off).take len)[j]? = some (l[off+j]'(by omega)):=by
   rw[List.getElem?_take_of_lt hj,List.getElem?_drop,List.getElem?_eq_getElem (by omega)]
  obtain⟨y,h3,h4⟩:=m2 j _ hlj
  rw[Nat.zero_add]at h4
  exact⟨y,by rw[<-h3,List.getElem?_eq_getElem (by omega)],h4⟩
 have fin:∀ (us:List Value) (w':World),RepCells L κ hs w mid us->(Builtin.copy_ #[T,T'] o.type #[a.eval s,a.eval x]).run P w=.ok (goInt (Nat.min m.length len)) w'->w'=w.setRow b (D5 cs off us).toArray ->
   ∃ κ' v w',(execOp a.eval o).run P w=.ok (.value v) w'/\HeapOK L w0 κ' (upd hs id (.cells (D5 l off mid))) w'/\RepAV L κ' (upd hs id (.cells (D5 l off mid))) w' (E8 .i64 (Nat.min m.length len:Nat)) v/\Ext L κ hs w κ' (upd hs id (.cells (D5 l off mid))) w':=by
  intro us w' hrep hrun hw
  subst hw
  have hlike:(hs id).like (.cells (D5 l off mid)):=by rw[hid'];trivial
  have hsize:(w.setRow b (D5 cs off us).toArray).heap.size=w.heap.size:=by simp
  have hoth:∀ b',b'≠b->(w.setRow b (D5 cs off us).toArray).heap[b']? = w.heap[b']?:=fun b' hne=>setRow_other w b b' _ hne
  have hx2:=R8 (L:=L) (κ:=κ) (h:=hs) hk hlike (.inl (.inl ⟨_,_,_,hheap⟩)) hsize hoth
  exact⟨κ,_,_,z8f ho hrun,U3 ok hk hlike hsize hoth (q32 _ ok.below hown.1) ⟨b,c,_,ty,hk,setRow_heap w b _ _ ty (0,0) hheap,(j0p hcs hrep (by rw[hmidl];exact c0)).ext hx2⟩,I3 _ _,hx2⟩
 have old:∀ j,j<len->∃ u,cs[off+j]? = some u/\u.oneCell'=true/\∀ y,l[off+j]? = some (.sc te.ty y)->RepSV L κ hs w (.sc te.ty y) u:=fun j hj=>by
  have hlt:off+j<cs.length:=by rw[hcs.1];omega
  obtain⟨y,hy,-⟩:=hmget j hj
  have hg:=List.getElem?_eq_getElem hlt
  obtain⟨r1,r2⟩:=hcs.2 (off+j) _ _ hy hg
  refine⟨_,hg,r2,fun y' hy'=>?_⟩
  rw[hy]at hy'
  cases hy'
  exact r1
 by_cases hmin:Nat.min m.length len=0
 ·have hsame:RepCells L κ hs w mid ((cs.drop off).take len):=by
   refine⟨by rw[List.length_take,List.length_drop,hcs.1,hmidl];omega,fun j sv u hj hu=>?_⟩
   have hjl:j<len:=by rw[<-hmidl];exact(List.getElem?_eq_some_iff.1 hj).1
   obtain⟨y,hy1,hy2⟩:=hmget j hjl
   rw[hy2]at hj;cases hj
   have hnone:m[j]? = none:=by
    refine List.getElem?_eq_none ?_
    rcases Nat.le_total m.length len with h5 | h5
    ·have:Nat.min m.length len=m.length:=Nat.min_eq_left h5
     omega
    ·have:Nat.min m.length len=len:=Nat.min_eq_right h5
     omega
   obtain⟨u',h6,h7,h8⟩:=old j hjl
   rw[List.getElem?_take_of_lt hjl,List.getElem?_drop,h6]at hu
   cases hu
   rw[hnone]
   exact⟨h8 y hy1,h7⟩
  have hsp:D5 cs off ((cs.drop off).take len)=cs:=by
   unfold D5
   have hll:((cs.drop off).take len).length=len:=by rw[List.length_take,List.length_drop,hcs.1];omega
   rw[hll,List.append_assoc,<-List.drop_drop,List.take_append_drop,List.take_append_drop]
  refine fin _ w hsame ?_ ?_
  ·rw[hv,hxe,hmin]
   exact j81 ht hi w sa _ m.length xcap len cap hmin
  ·rw[hsp]
   exact(setRow_self hheap).symm
 ·rcases hxc with⟨-,hm0⟩ | ⟨ad,ms,rfl,e1,e2,e3,e4⟩
  ·subst hm0;exact absurd (by simp) hmin
  have e1:ms.length=m.length:=by rw[e1,ht1,Nat.mul_one]
  have hn1:Nat.min m.length len<=m.length:=Nat.min_le_left _ _
  have hn2:Nat.min m.length len<=len:=Nat.min_le_right _ _
  generalize hn:Nat.min m.length len=n at hn1 hn2 hmin fin ⊢
  have htl:(ms.take n).length=n:=by rw[List.length_take];omega
  have hr:=run_copy_row P w T T' o.type e b off len cap ad m.length xcap cs.toArray ty (ms.take n) ht (by rw[hi];simp only[Option.map_some,hisz,hs1]) hheap (by rw[htl];exact hn.symm)
   (fun j v hj=>by
    have hjn:j<n:=by have:=(List.getElem?_eq_some_iff.1 hj).1;omega
    rw[List.getElem?_take_of_lt hjn]at hj
    exact e2 j v hj) (by rw[htl];simp only[List.size_toArray,hcs.1];omega) (fun v hv=>e3 v (List.mem_of_mem_take hv))
  rw[htl]at hr
  refine fin (ms.take n++(cs.drop (off+n)).take (len-n)) _ ⟨?_,fun j sv u hj hu=>?_⟩ (by rw[hv,hxe];exact hr) ?_
  ·rw[List.length_append,htl,List.length_take,List.length_drop,hcs.1,hmidl];omega
  ·have hjl:j<len:=by rw[<-hmidl];exact(List.getElem?_eq_some_iff.1 hj).1
   obtain⟨y,hy1,hy2⟩:=hmget j hjl
   rw[hy2]at hj;cases hj
   by_cases hjn:j<n
   ·rw[List.getElem?_append_left (by omega),List.getElem?_take_of_lt hjn]at hu
    have hmj:m[j]? = some (m[j]'(by omega)):=List.getElem?_eq_getElem (by omega)
    rw[hmj]
    have h9:=e3 u (List.mem_of_getElem? hu)
    refine⟨⟨ht1,h9,RepAt.congr te.ty _ _ _ (fun q hq=>?_) (e4 j _ hmj)⟩,h9⟩
    have hq0:q=0:=by omega
    subst hq0
    rw[if_pos hq,ht1,Nat.mul_one,Nat.add_zero,hu];rfl
   ·have hml:m.length<=j:=by
     rcases Nat.le_total m.length len with h5 | h5
     ·have:Nat.min m.length len=m.length:=Nat.min_eq_left h5
      omega
     ·have:Nat.min m.length len=len:=Nat.min_eq_right h5
      omega
    obtain⟨u',h6,h7,h8⟩:=old j hjl
    rw[List.getElem?_append_right (by omega),htl,List.getElem?_take_of_lt (by omega),List.getElem?_drop,show off+n+(j-n)=off+j from by omega,h6]at hu
    cases hu
    rw[List.getElem?_eq_none hml]
    exact⟨h8 y hy1,h7⟩
  ·congr 1
   apply Array.toList_inj.1
   unfold D5
   have hll:(ms.take n++(cs.drop (off+n)).take (len-n)).length=len:=by
    rw[List.length_append,htl,List.length_take,List.length_drop,hcs.1];omega
   rw[hll]
   simp only[List.append_assoc]
   congr 2
   have h10:cs.drop (off+len)=(cs.drop (off+n)).drop (len-n):=by rw[List.drop_drop];congr 1;omega
   rw[h10,List.take_append_drop]
theorem v48 {o:Oper} {T e:TypeId} {n:Nat} {x:Operand} {ti te:TInfo} (hti:ti.OK P T) (hpa:ti.arr=some (n,e)) (hte:te.OK P e) (ho:o.op=.slice T x none none none) {ρs:Env} {id off:Nat} (hx:ev ρs x=.one (.ptr id off)) (hs:Heap) :
  A8 P L w0 o ρs hs hs (.one (.csl id off n n)):=by
 refine D2 (fun c hc=>by rw[ho]at hc;cases hc) fun κ a w hev ok=>?_
 have hxv:=hev x
 rw[hx]at hxv
 obtain⟨h0,b,c,hk,hv⟩:=hxv
 obtain⟨u1,-⟩:=hti.arrT n e hpa
 obtain⟨i,z,hi,hisz,-⟩:=hte.zero_one (L:=L)
 refine⟨.slice (some ⟨b,off,none⟩) n n,?_,h0,b,c,hk,rfl⟩
 unfold execOp
 rw[ho]
 simp only[hv]
 simp[Instr.sliceAt,run_underlying u1,Instr.sliceBounds,Instr.sureAddr,R0 hi,Addr.add]
end Go.Abs
