/- The engine, part 11g: a range over a map begins; the entry that came last. -/
import Derived.Test.YtppblbacbmebfaaGreatDoorAbsSound13
import Derived.Test.YtppblbacbmebfaaGreatDoorAbsSound12
import Derived.Maps.RangeRun
namespace Go.Abs
open Go Go.RowKit
variable {P:Program} {L:Nat->Prop} {w0:World}
theorem y7q (a:Array MapEntry):leftOf a #[]=a:=by
 unfold leftOf
 simp
theorem v5v {R:Type} {C:Ctx} (N:∀ t O,C.TI t=some O->O.OK P t) {o:Oper} {T:TypeId} {x:Operand} (ho:o.op=.range T x) {ρ:Env} {h:Heap} {id':Nat} {K:Eff->Option R} {z:R} (A:z7y C T (ev ρ x) h id' K=some z) :
  ∃ q,K q=some z/\q.full=none/\∀ j f,ev j x=ev ρ x->(∀ p∈q.ups,f p.1=h p.1)->A6 P L w0 o j f (q.heap f) q.av:=by
 unfold z7y at A
 split at A
 ·rename_i O hT
  split at A
  ·rename_i Q I
   split at A
   ·rename_i r s n u l W
    unfold H5 at A
    split at A
    rotate_left
    ·grind
    rename_i hf
    refine⟨_,A,rfl,fun j f U G=>?_⟩
    have k:f id'=.fresh:=(G (id',.iter r s n u l none) (by simp)).trans hf
    have hu:=(N T O hT).mapT Q.1 Q.2 I
    show A6 P L w0 o j f (upd f id' (.iter r s n u l none)) (.one (.ptr id' 0))
    refine I4 (fun c hc=>by grind) fun κ a w D ok=>?_
    have H:=D x
    rw[U,W]at H
    obtain⟨_,_,M⟩:=H
    have Z:∀ (m:Option Nat) (d B:Nat),(Instr.range T (a.eval x)).run P w=.ok (.pointer (some ⟨w.heap.size,0,none⟩)) (w.alloc (.mapIter m d #[] B)) ->
      IterRep (w.alloc (.mapIter m d #[] B)) (A3 L (upd κ id' (some (w.heap.size,0))) (upd f id' (.iter r s n u l none)) (w.alloc (.mapIter m d #[] B))) r s n u l none m d #[] B ->
      ∃ F v S,(execOp a.eval o).run P w=.ok (.value v) S/\HeapOK L w0 F (upd f id' (.iter r s n u l none)) S/\RepAV L F (upd f id' (.iter r s n u l none)) S (.one (.ptr id' 0)) v/\Ext L κ f w F (upd f id' (.iter r s n u l none)) S:=by
     intro m d B J hit
     have g:=R3 (L:=L) (κ:=κ) (h:=f) (w:=w) (.mapIter m d #[] B) (id:=id') (.iter r s n u l none) 0 k
     refine⟨_,_,_,by grind[execOp,Sem.run_bind,Result.andThen_ok,Sem.run_pure],V4 ok (.mapIter m d #[] B) (.iter r s n u l none) 0 k ⟨w.heap.size,0,m,d,#[],B,A1 _ _ _,World.alloc_heap_new w _,hit⟩,⟨by rw[A1];simp,w.heap.size,0,A1 _ _ _,rfl⟩,g⟩
    obtain⟨b,es,e,V,hA,hb,hr⟩:=M
    ·have V:a.eval x=.map (some b):=by grind[F7]
     have g:=R3 (L:=L) (κ:=κ) (h:=f) (w:=w) (.mapIter (some b) e #[] e) (id:=id') (.iter r s n u l none) 0 k
     obtain⟨X,Y⟩:=g.free b hA
     refine Z (some b) e e (by grind[run_range_map]) ⟨.inr ⟨b,es,e,rfl,X,Y.trans hb,hr.apart,hr.early,Nat.le_refl _,Nat.le_refl _,?_,fun q hq=>by grind⟩⟩
     obtain⟨p,p1,p2,p3⟩:=hr.ents
     rw[y7q]
     exact⟨p,p1,p2,fun i y q a b=>⟨RepVal.mono g.free (p3 i y q a b).1,RepVal.mono g.free (p3 i y q a b).2⟩⟩
   ·rename_i W
    unfold H5 at A
    split at A
    rotate_left
    ·grind
    rename_i hf
    refine⟨_,A,rfl,fun j f U G=>?_⟩
    have k:f id'=.fresh:=(G (id',.iter false false .bool .bool [] none) (by simp)).trans hf
    show A6 P L w0 o j f (upd f id' (.iter false false .bool .bool [] none)) (.one (.ptr id' 0))
    refine I4 (fun c hc=>by grind) fun κ a w D ok=>?_
    have H:=D x
    rw[U,W]at H
    have V:a.eval x=.map none:=H
    have g:=R3 (L:=L) (κ:=κ) (h:=f) (w:=w) (.mapIter none 0 #[] 0) (id:=id') (.iter false false .bool .bool [] none) 0 k
    have J:(Instr.range T (a.eval x)).run P w=.ok (.pointer (some ⟨w.heap.size,0,none⟩)) (w.alloc (.mapIter none 0 #[] 0)):=by
     rw[V]
     exact run_range_nilMap w T _ _ ((N T O hT).mapT Q.1 Q.2 I)
    refine⟨_,_,_,by grind[execOp,Sem.run_bind,Result.andThen_ok,Sem.run_pure],V4 ok (.mapIter none 0 #[] 0) (.iter false false .bool .bool [] none) 0 k ⟨w.heap.size,0,none,0,#[],0,A1 _ _ _,World.alloc_heap_new w _,⟨.inl ⟨rfl,rfl,rfl⟩⟩⟩,⟨by rw[A1];simp,w.heap.size,0,A1 _ _ _,rfl⟩,g⟩
   grind
  grind
 grind
theorem j1y {κ:A2} {h:Heap} {w:World} {a:Bool} {t:Ty} {v:Value} {y:t.den} (b:RepVal w (A3 L κ h w) a t v y):RepComp L κ h w (a,q28 a t y) v:=b.cells.2
theorem v3o {w:World} (ty:TypeId) {r a b:Nat} {s:Array Nat} (d:w.heap[r]? = some (.mapIter none a s b)) :
  (Instr.next (.pointer (some ⟨r,0,none⟩)) false ty).run P w=.ok (.tuple #[.bool false]) w:=by
 simp only[Instr.next,getObj,Sem.run_bind,Sem.run,d,Result.andThen]
 rfl
theorem j63 {a:Array MapEntry} {seen:Array Nat} (d:(a.toList.map (·.born)).Nodup) {i:Nat} {e:MapEntry} (hi:(leftOf a seen).toList[i]? = some e):(leftOf a (seen.push e.born)).toList=(leftOf a seen).toList.eraseIdx i:=by
 have c:(leftOf a (seen.push e.born)).toList=(leftOf a seen).toList.filter fun x=>!(x.born==e.born):=by
  grind[leftOf,List.filter_filter,List.filter_congr]
 rw[c]
 have b:((leftOf a seen).toList.map (·.born)).Nodup:=by
  grind[leftOf]
 generalize (leftOf a seen).toList=l at hi b
 induction l generalizing i with
 | nil=>rfl
 | cons x r f =>
  grind[List.tail_cons,List.filter_eq_self]
theorem v1h {a:Type} {l:List a} {i:Nat} {x:a} (h:l[i]? = some x):l.Perm (x::l.eraseIdx i):=by
 induction l generalizing i with
 | nil=>grind
 | cons y r b =>
  cases i with
  | zero=>simp_all
  | succ i =>
   exact((b h).cons y).trans (List.Perm.swap x y _)
theorem j07 {κ:A2} {h:Heap} {w:World} (ok:HeapOK L w0 κ h w) (ty:TypeId) {D b:Nat} {c:Nat×Nat} {C av:Bool} {s u:Ty} {g:List (s.den×u.den)} {K:Option (s.den×u.den)} (F:h D=.iter C av s u g K) (hk:κ D=some (b,c)) :
  (g=[]/\(Instr.next (.pointer (some ⟨b,0,none⟩)) false ty).run P w=.ok (.tuple #[.bool false]) w) \/
  ∃ q k w1 m a seen B t v,g.Perm (q::k)/\(w1=w\/w1=w.drew)/\(Instr.next (.pointer (some ⟨b,0,none⟩)) false ty).run P w=.ok (.tuple #[.bool true,t,v]) (w1.putObj b (.mapIter m a seen B)) /\
   IterRep w (A3 L κ h w) C av s u k (some q) m a seen B/\RepVal w (A3 L κ h w) C s t q.1/\RepVal w (A3 L κ h w) av u v q.2:=by
 have N:=ok.obj D
 rw[F]at N
 obtain⟨b',c',m,a,seen,B,Q,W,hr⟩:=N
 rw[hk]at Q;cases Q
 rcases hr.map with⟨rfl,rfl,rfl⟩ | ⟨J,G,d,rfl,Y,U,l,f,I,y,⟨p,V,p2,X⟩,R⟩
 ·grind[v3o]
 ·rcases run_next_at (P:=P) w ty b J a B seen G d W U f I with⟨z1,z2⟩ | ⟨e,O,w1,H,z⟩
  ·simp_all
  ·right
   obtain⟨i,hi,Z⟩:=List.getElem_of_mem O
   have n:(leftOf G seen).toList[i]? = some e:=by grind
   have E:i<p.length:=by omega
   have A:p[i]? = some p[i]:=List.getElem?_eq_getElem E
   obtain⟨T,S⟩:=X i e p[i] n A
   refine⟨p[i],p.eraseIdx i,w1,some J,a,seen.push e.born,d,e.key,e.val,V.symm.trans (v1h A),H,z,⟨.inr ⟨J,G,d,rfl,Y,U,l,f,y,y,⟨p.eraseIdx i,List.Perm.refl _,?_,fun j x q hj M=>?_⟩,fun q M=>?_⟩⟩,T,S⟩
   ·rw[j63 l n,List.length_eraseIdx,List.length_eraseIdx,p2]
   ·rw[j63 l n,List.getElem?_eraseIdx]at hj
    grind
   ·cases M
    exact⟨rfl,e,(mem_left O).1,Array.back?_push,T,S⟩
theorem v5t {R:Type} {o:Oper} {x:Operand} (Q:o.op=.next x false) {ρ:Env} {h:Heap} {K:Eff->Option R} {z:R} (g:z7u (ev ρ x) h K=some z) :
  ∃ q,K q=some z/\q.full=none/\∀ b d,ev b x=ev ρ x->(∀ id∈q.rd,d id=h id)->A6 P L w0 o b d (q.heap d) q.av:=by
 unfold z7u at g
 split at g
 ·rename_i id E
  split at g
  ·rename_i H A C B k
   refine⟨_,g,rfl,fun b d y t=>?_⟩
   have e:d id=.iter H A C B [] none:=(t id (by simp)).trans k
   refine D1 (fun c O=>by grind) fun U a w i G=>?_
   have l:=i x
   rw[y,E]at l
   obtain⟨_,r,c,F,l⟩:=l
   rcases j07 (P:=P) G o.type e F with⟨_,u⟩ | ⟨q,v,S,m,p,seen,N,I,D,J,-⟩
   ·refine⟨.tuple #[.bool false],by grind[execOp,Sem.run_bind,Result.andThen_ok,Sem.run_pure],?_⟩
    refine⟨[.bool false],rfl,rfl,fun j M T f s=>?_⟩
    match j,f,s with
    | 0,f,s=>cases f;cases s;exact⟨rfl,rfl,rfl⟩
    | n+1,f,_=>grind
   simp_all
  grind
 grind
theorem v59 {R:Type} {o:Oper} {x:Operand} (ho:o.op=.entry x) {ρ:Env} {h:Heap} {K:Eff->Option R} {z:R} (t:z7j (ev ρ x) h K=some z) :
  ∃ q,K q=some z/\q.full=none/\∀ d g,ev d x=ev ρ x->(∀ id∈q.rd,g id=h id)->A6 P L w0 o d g (q.heap g) q.av:=by
 unfold z7j at t
 split at t
 ·rename_i id N
  split at t
  ·rename_i U X M J i q u
   refine⟨_,t,rfl,fun d g O D=>?_⟩
   have l:g id=.iter U X M J i (some q):=(D id (by simp[E9])).trans u
   refine D1 (fun c W=>by grind) fun κ a w C ok=>?_
   have s:=C x
   rw[O,N]at s
   obtain⟨_,r,c,I,s⟩:=s
   have n:=ok.obj id
   rw[l]at n
   obtain⟨r2,c2,m,v,seen,c0,p,Q,B⟩:=n
   rw[I]at p;cases p
   rcases B.map with⟨_,_,W⟩ | ⟨b,Y,E,rfl,-,H,S,-,-,-,-,k⟩
   ·grind
   ·obtain⟨A,y,Z,f,T,G⟩:=k q rfl
    subst A
    have F:(Instr.entry (a.eval x)).run P w=.ok (.tuple #[y.key,y.val]) w:=by
     have V:Y.find? (·.born==y.born)=some y:=by rw[<-Array.find?_toList];grind[find_born]
     rw[s]
     simp only[Instr.entry,getObj,Sem.run_bind,Sem.run,Q,H,Result.andThen,f,bne_self_eq_false,Bool.false_eq_true,if_false,V]
     rfl
    refine⟨.tuple #[y.key,y.val],by grind[execOp,Sem.run_bind,Result.andThen_ok,Sem.run_pure],?_⟩
    refine⟨[y.key,y.val],rfl,rfl,fun j cc uu hj hu=>?_⟩
    grind[j1y]
  grind
 grind
structure CloneF (P:Program) (F:FuncId):Prop where
 fn:∃ fn,P.funcs[F]? = some fn/\fn.body.isSome=true/\(fn.name== "runtime.NumGoroutine")=false
 run:∀ (b:Nat) (es:Array MapEntry) (clock:Nat) (w:World),w.heap[b]? = some (.map es clock)->Calls P F #[.map (some b)] w fun e w'=>e=.returned (.map (some w.heap.size))/\w'=w.alloc (.map es clock)
structure CodeF (P:Program) (gl:L4) (F:FuncId) (T:Nat):Prop where
 fn:∃ fn,P.funcs[F]? = some fn/\fn.body.isSome=true/\(fn.name== "runtime.NumGoroutine")=false
 nil:∀ w:World,GlobOK gl w->Calls P F #[.nilIface] w fun e w'=>e=.returned (.int .i64 0)/\Below w.heap.size w w'
 hit:∀ (w:World) (v:Int),GlobOK gl w->Calls P F #[.iface T (.agg #[.int .i64 v])] w fun e w'=>e=.returned (.int .i64 v)/\Below w.heap.size w w'
def q0b (P:Program) (gl:L4) (F:FuncId):Nat->Prop
 | 0=>CloneF P F
 | k+1=>cond (Nat.ble 1048575 k) (CodeF P gl F (k-1048575)) (SortN P F (k+1))
theorem v4r {R:Type} {F:FuncId} {S:L4} {T:Nat} (hS:CodeF P S F T) (U:GlobOK S w0) {o:Oper} {g:Operand} {args:Array Operand} {Ts:Array TypeId} (ho:o.op=.call { callee:=.value g,args:=args,argTypes:=Ts })
  {ρ:Env} (hg:ev ρ g=.one (.fn F [])) {K:Eff->Option R} {z:R} (N:z7b T (args.toList.map (ev ρ)) K=some z) :
  ∃ q,K q=some z/\q.full=none/\∀ b j,(∀ x,x=g\/x∈args.toList->ev b x=ev ρ x)->A6 P L w0 o b j (q.heap j) q.av:=by
 have J:∀ (s:Operand),args=#[s]->∀ (y:Int),(∀ (b:Env),ev b s=ev ρ s->∀ (G:A2) (j:Heap) (w:World) (a:Act),(∀ x,RepAV L G j w (ev b x) (a.eval x))->∀ (p:World),GlobOK S p->Calls P F #[a.eval s] p fun e w'=>e=.returned (.int .i64 y)/\Below p.heap.size p w') ->
   ∀ b j,(∀ x,x=g\/x∈args.toList->ev b x=ev ρ x)->A6 P L w0 o b j j (F0 .i64 y):=by
  intro s i y C b j ha
  subst i
  intro r G a w I ok m K' Q hK _
  have f:=N7 I
  have k:=f g
  rw[(ha g (.inl rfl)).trans hg]at k
  obtain⟨cs,k,V,-⟩:=k
  have Y:cs=[]:=List.eq_nil_of_length_eq_zero V
  subst Y
  obtain⟨fn,X,hf2,W⟩:=hS.fn
  have l:=q2g (P:=P) ho k X hf2 W w
  have M:(#[]++#[s].map a.eval++([]:List Value).toArray)=#[a.eval s]:=by simp
  rw[M]at l
  have A:=(callsIn_wide (n:=m-1)).2 (C b (ha s (.inr (by simp))) G j w a f w (U.below ok.below))
  refine q13 (fun c hc=>by grind) l A fun e' w' ⟨Z,hw⟩=>⟨_,Z,?_⟩
  exact hK G _ w' (q1m ok hw) (H6 _ _) (q0i hw)
 unfold z7b at N
 split at N
 ·rename_i d
  obtain⟨s,i,D⟩:∃ s,args=#[s]/\ev ρ s=.one .nif:=by
   obtain⟨t,hl⟩:∃ t,args.toList=t:=⟨_,rfl⟩
   rw[hl]at d
   match t,d with
   | [s],h=>grind
   | [],h=>grind
   | _::_::_,h=>grind
  refine⟨_,N,rfl,J s i 0 fun b E G j w a f p B=>?_⟩
  have H:=f s
  rw[E,D]at H
  rw[H]
  exact hS.nil p B
 ·rename_i T' v d
  cases O:Nat.beq T' T with
  | false=>grind
  | true =>
  rw[O,cond_true]at N
  have hT:=Nat.eq_of_beq_eq_true O
  subst hT
  obtain⟨s,i,D⟩:∃ s,args=#[s]/\ev ρ s=.one (.ifc T' true [⟨.int .i64,v⟩]):=by
   obtain⟨t,hl⟩:∃ t,args.toList=t:=⟨_,rfl⟩
   match t,d with
   | [s],h=>grind
   | [],h=>grind
   | _::_::_,h=>grind
  refine⟨_,N,rfl,J s i v fun b E G j w a f p B=>?_⟩
  have H:=f s
  rw[E,D]at H
  obtain⟨us,h1,h2,-,h4⟩:=H
  match us,h2 with
  | [u],_ =>
   obtain⟨-,h5,h6⟩:=h4 0 _ u rfl rfl
   have h6:F7 u 0=some (.int .i64 v):=h6
   have hu:u=.int .i64 v:=by grind[F7]
   rw[h1,hu]
   exact hS.hit p v B
 grind
theorem v4q {R:Type} {F:FuncId} (Z:CloneF P F) {o:Oper} {g:Operand} {args:Array Operand} {Ts:Array TypeId} (ho:o.op=.call { callee:=.value g,args:=args,argTypes:=Ts })
  {ρ:Env} (hg:ev ρ g=.one (.fn F [])) {h:Heap} {id':Nat} {K:Eff->Option R} {z:R} (I:z6t (args.toList.map (ev ρ)) h id' K=some z) :
  ∃ q,K q=some z/\q.full=none/\∀ e j,(∀ x,x=g\/x∈args.toList->ev e x=ev ρ x)->(∀ p∈q.ups,j p.1=h p.1)->A6 P L w0 o e j (q.heap j) q.av:=by
 unfold z6t at I
 split at I
 ·rename_i H C D B l t
  obtain⟨s,Y,U⟩:∃ s,args=#[s]/\ev ρ s=.one (.sc (.map H C D B) l):=by
   obtain⟨M,hl⟩:∃ M,args.toList=M:=⟨_,rfl⟩
   match M,t with
   | [s],h=>grind
   | [],h=>grind
   | _::_::_,h=>grind
  subst Y
  unfold H5 at I
  split at I
  rotate_left
  ·grind
  rename_i hf
  refine⟨_,I,rfl,fun e j ha S=>?_⟩
  have G:j id'=.fresh:=(S (id',.mapo H C D B l) (by simp)).trans hf
  show A6 P L w0 o e j (upd j id' (.mapo H C D B l)) (.one (.mp id'))
  intro r κ a w E ok m K' Q hK _
  have y:=N7 E
  have f:=y g
  rw[(ha g (.inl rfl)).trans hg]at f
  obtain⟨cs,f,O,-⟩:=f
  have W:cs=[]:=List.eq_nil_of_length_eq_zero O
  subst W
  have v:=y s
  rw[(ha s (.inr (by simp))).trans U]at v
  obtain⟨_,_,b,J,d,h0,hA,hb,hr⟩:=v
  have h0:a.eval s=.map (some b):=by grind[F7]
  obtain⟨fn,N,X,V⟩:=Z.fn
  have i:=q2g (P:=P) ho f N X V w
  have A:(#[]++#[s].map a.eval++([]:List Value).toArray)=#[.map (some b)]:=by grind
  rw[A]at i
  have k:=(callsIn_wide (n:=m-1)).2 (Z.run b J d w hb)
  refine q13 (fun c hc=>by grind) i k fun e' w' ⟨T,hw⟩=>⟨_,T,?_⟩
  subst hw
  have u:=R3 (L:=L) (κ:=κ) (h:=j) (w:=w) (.map J d) (id:=id') (.mapo H C D B l) 0 G
  exact hK _ _ _ (V4 ok (.map J d) (.mapo H C D B l) 0 G ⟨w.heap.size,0,J,d,A1 _ _ _,World.alloc_heap_new w _,MapRep.mono u.free hr⟩) ⟨by rw[A1];simp,w.heap.size,0,A1 _ _ _,rfl⟩ u
 grind
theorem setRow_self {w:World} {b:Nat} {cs:Array Value} {ty:TypeId} {c:Nat×Nat} (h:w.heap[b]? = some (.cells cs ty c)):w.setRow b cs=w:=by
 have a:(w.setRow b cs).heap=w.heap:=by
  apply Array.ext_getElem?
  grind[setRow_heap,setRow_other]
 have d:w.setRow b cs={ w with heap:=(w.setRow b cs).heap }:=rfl
 rw[d,a]
theorem j3u {t:Ty} {m:List t.den}:∀ {l r:List SV} {i:Nat},q4o t m i l=some r->r.length=l.length/\∀ (j:Nat) (s:SV),l[j]? = some s->∃ y,s=.sc t y/\r[j]? = some (.sc t ((m[i+j]?).getD y))
 | [],r,i,h=>by
  grind[q4o]
 | c::l,r,i,h=>by
  cases c with
  | sc o y =>
   simp[q4o]at h
   split at h
   ·rename_i q p a k
    cases h
    obtain⟨n,a⟩:=H2 a
    subst n;subst a
    obtain⟨e,g⟩:=j3u k
    refine⟨by simp[e],fun j s b=>?_⟩
    cases j with
    | zero=>simp at b;subst b;exact⟨_,rfl,rfl⟩
    | succ j =>
     obtain⟨z,f,d⟩:=g j s (by simpa using b)
     exact⟨z,f,by rw[List.getElem?_cons_succ,d,show i+1+j=i+(j+1)from by omega]⟩
   ·cases h
  | _=>simp[q4o]at h
theorem v4i {R:Type} {o:Oper} {T T' e:TypeId} {s x:Operand} {ti te:TInfo} (hti:ti.OK P T) (hel:ti.elem=some e) (hte:te.OK P e)
  (ho:o.op=.call { callee:=.builtin .copy,args:=#[s,x],argTypes:=#[T,T'] }) {ρ:Env} {h:Heap} {id off len cap:Nat} (hs':ev ρ s=.one (.csl id off len cap)) {K:Eff->Option R} {z:R} (he:z6v te h id off len (ev ρ x) K=some z) :
  ∃ q,K q=some z/\q.full=none/\∀ ρs hs,ev ρs s=ev ρ s->ev ρs x=ev ρ x->(∀ id∈q.rd,hs id=h id)->(∀ p∈q.ups,hs p.1=h p.1)->A6 P L w0 o ρs hs (q.heap hs) q.av:=by
 unfold z6v at he
 split at he
 rotate_left
 ·cases he
 rename_i sx l hx' hid
 split at he
 rotate_left
 ·cases he
 rename_i m hm
 split at he
 rotate_left
 ·cases he
 rename_i mid hmid
 obtain⟨hc,he2⟩:=q3i he
 simp only[Bool.and_eq_true]at hc
 obtain⟨⟨c0,c1⟩,c2⟩:=hc
 have c0:=Nat.le_of_ble_eq_true c0
 have hs1:=Nat.eq_of_beq_eq_true c1
 have ht1:=Nat.eq_of_beq_eq_true c2
 refine⟨_,he2,rfl,fun ρs hs g1 g2 g3 g4=>?_⟩
 have hid':hs id=.cells l:=(g4 (id,.cells (C9 l off mid)) (by simp)).trans hid
 have hl:B7 hs te.ty sx=some m:=(q7u te.ty sx g3).trans hm
 show A6 P L w0 o ρs hs (upd hs id (.cells (C9 l off mid))) (F0 .i64 (Nat.min m.length len:Nat))
 refine I4 (fun c hc=>by rw[ho]at hc;cases hc) fun κ a w hev ok=>?_
 have hsv:=hev s
 rw[g1,hs']at hsv
 obtain⟨_,b,c,hk,hv⟩:=hsv
 have hxv:=hev x
 rw[g2,hx']at hxv
 obtain⟨sa,xcap,hxe,hxc⟩:=z1x ok hxv hl
 have hob:=ok.obj id
 rw[hid']at hob
 obtain⟨b',c',cs,ty,hk',hheap,hcs⟩:=hob
 rw[hk]at hk';simp at hk';obtain⟨rfl,rfl⟩:=hk'
 obtain⟨-,d,hd,-,hde,-⟩:=hti.base
 have ht:P.underlying T=some (.slice e):=by
  rcases hde with hde | ⟨e',he',hde⟩
  ·rw[hel]at hde;cases hde
  ·rw[hel]at he';cases he';rw[hd,hde]
 obtain⟨i,zz,hi,hisz,-⟩:=hte.zero_one (L:=L)
 have hlive:(hs id).live=true:=by rw[hid'];rfl
 have hown:=ok.own id b c hlive hk
 obtain⟨m1,m2⟩:=j3u hmid
 have hmidl:mid.length=len:=by rw[m1,List.length_take,List.length_drop];omega
 have hmget:∀ j,j<len->∃ y,l[off+j]? = some (.sc te.ty y)/\mid[j]? = some (.sc te.ty ((m[j]?).getD y)):=fun j hj=>by
  have hlj:((l.drop off).take len)[j]? = some (l[off+j]'(by omega)):=by
   rw[List.getElem?_take_of_lt hj,List.getElem?_drop,List.getElem?_eq_getElem (by omega)]
  obtain⟨y,h3,h4⟩:=m2 j _ hlj
  rw[Nat.zero_add]at h4
  exact⟨y,by rw[<-h3,List.getElem?_eq_getElem (by omega)],h4⟩
 have fin:∀ (us:List Value) (w':World),RepCells L κ hs w mid us->(Builtin.copy_ #[T,T'] o.type #[a.eval s,a.eval x]).run P w=.ok (goInt (Nat.min m.length len)) w'->w'=w.setRow b (C9 cs off us).toArray ->
   ∃ κ' v w',(execOp a.eval o).run P w=.ok (.value v) w'/\HeapOK L w0 κ' (upd hs id (.cells (C9 l off mid))) w'/\RepAV L κ' (upd hs id (.cells (C9 l off mid))) w' (F0 .i64 (Nat.min m.length len:Nat)) v/\Ext L κ hs w κ' (upd hs id (.cells (C9 l off mid))) w':=by
  intro us w' hrep hrun hw
  subst hw
  have hlike:(hs id).like (.cells (C9 l off mid)):=by rw[hid'];trivial
  have hsize:(w.setRow b (C9 cs off us).toArray).heap.size=w.heap.size:=by simp
  have hoth:∀ b',b'≠b->(w.setRow b (C9 cs off us).toArray).heap[b']? = w.heap[b']?:=fun b' hne=>setRow_other w b b' _ hne
  have hx2:=P3 (L:=L) (κ:=κ) (h:=hs) hk hlike (.inl (.inl ⟨_,_,_,hheap⟩)) hsize hoth
  exact⟨κ,_,_,z8k ho hrun,Q4 ok hk hlike hsize hoth (X0 _ ok.below hown.1) ⟨b,c,_,ty,hk,setRow_heap w b _ _ ty (0,0) hheap,(j1h hcs hrep (by rw[hmidl];exact c0)).ext hx2⟩,H6 _ _,hx2⟩
 have old:∀ j,j<len->∃ u,cs[off+j]? = some u/\u.oneCell'=true/\∀ y,l[off+j]? = some (.sc te.ty y)->RepSV L κ hs w (.sc te.ty y) u:=fun j hj=>by
  have hlt:off+j<cs.length:=by rw[hcs.1];omega
  obtain⟨y,hy,-⟩:=hmget j hj
  have hg:=List.getElem?_eq_getElem hlt
  obtain⟨r1,r2⟩:=hcs.2 (off+j) _ _ hy hg
  refine⟨_,hg,r2,fun y' hy'=>?_⟩
  rw[hy]at hy'
  cases hy'
  exact r1
 by_cases hmin:Nat.min m.length len=0
 ·have hsame:RepCells L κ hs w mid ((cs.drop off).take len):=by
   refine⟨by rw[List.length_take,List.length_drop,hcs.1,hmidl];omega,fun j sv u hj hu=>?_⟩
   have hjl:j<len:=by rw[<-hmidl];exact(List.getElem?_eq_some_iff.1 hj).1
   obtain⟨y,hy1,hy2⟩:=hmget j hjl
   rw[hy2]at hj;cases hj
   have hnone:m[j]? = none:=by
    refine List.getElem?_eq_none ?_
    rcases Nat.le_total m.length len with h5 | h5
    ·have:Nat.min m.length len=m.length:=Nat.min_eq_left h5
     omega
    ·have:Nat.min m.length len=len:=Nat.min_eq_right h5
     omega
   obtain⟨u',h6,h7,h8⟩:=old j hjl
   rw[List.getElem?_take_of_lt hjl,List.getElem?_drop,h6]at hu
   cases hu
   rw[hnone]
   exact⟨h8 y hy1,h7⟩
  have hsp:C9 cs off ((cs.drop off).take len)=cs:=by
   unfold C9
   have hll:((cs.drop off).take len).length=len:=by rw[List.length_take,List.length_drop,hcs.1];omega
   rw[hll,List.append_assoc,<-List.drop_drop,List.take_append_drop,List.take_append_drop]
  refine fin _ w hsame ?_ ?_
  ·rw[hv,hxe,hmin]
   exact j86 ht hi w sa _ m.length xcap len cap hmin
  ·rw[hsp]
   exact(setRow_self hheap).symm
 ·rcases hxc with⟨-,hm0⟩ | ⟨ad,ms,rfl,e1,e2,e3,e4⟩
  ·subst hm0;exact absurd (by simp) hmin
  have e1:ms.length=m.length:=by rw[e1,ht1,Nat.mul_one]
  have hn1:Nat.min m.length len<=m.length:=Nat.min_le_left _ _
  have hn2:Nat.min m.length len<=len:=Nat.min_le_right _ _
  generalize hn:Nat.min m.length len=n at hn1 hn2 hmin fin ⊢
  have htl:(ms.take n).length=n:=by rw[List.length_take];omega
  have hr:=run_copy_row P w T T' o.type e b off len cap ad m.length xcap cs.toArray ty (ms.take n) ht (by rw[hi];simp only[Option.map_some,hisz,hs1]) hheap (by rw[htl];exact hn.symm)
   (fun j v hj=>by
    have hjn:j<n:=by have:=(List.getElem?_eq_some_iff.1 hj).1;omega
    rw[List.getElem?_take_of_lt hjn]at hj
    exact e2 j v hj) (by rw[htl];simp only[List.size_toArray,hcs.1];omega) (fun v hv=>e3 v (List.mem_of_mem_take hv))
  rw[htl]at hr
  refine fin (ms.take n++(cs.drop (off+n)).take (len-n)) _ ⟨?_,fun j sv u hj hu=>?_⟩ (by rw[hv,hxe];exact hr) ?_
  ·rw[List.length_append,htl,List.length_take,List.length_drop,hcs.1,hmidl];omega
  ·have hjl:j<len:=by rw[<-hmidl];exact(List.getElem?_eq_some_iff.1 hj).1
   obtain⟨y,hy1,hy2⟩:=hmget j hjl
   rw[hy2]at hj;cases hj
   by_cases hjn:j<n
   ·rw[List.getElem?_append_left (by omega),List.getElem?_take_of_lt hjn]at hu
    have hmj:m[j]? = some (m[j]'(by omega)):=List.getElem?_eq_getElem (by omega)
    rw[hmj]
    have h9:=e3 u (List.mem_of_getElem? hu)
    refine⟨⟨ht1,h9,RepAt.congr te.ty _ _ _ (fun q hq=>?_) (e4 j _ hmj)⟩,h9⟩
    have hq0:q=0:=by omega
    subst hq0
    rw[if_pos hq,ht1,Nat.mul_one,Nat.add_zero,hu];rfl
   ·have hml:m.length<=j:=by
     rcases Nat.le_total m.length len with h5 | h5
     ·have:Nat.min m.length len=m.length:=Nat.min_eq_left h5
      omega
     ·have:Nat.min m.length len=len:=Nat.min_eq_right h5
      omega
    obtain⟨u',h6,h7,h8⟩:=old j hjl
    rw[List.getElem?_append_right (by omega),htl,List.getElem?_take_of_lt (by omega),List.getElem?_drop,show off+n+(j-n)=off+j from by omega,h6]at hu
    cases hu
    rw[List.getElem?_eq_none hml]
    exact⟨h8 y hy1,h7⟩
  ·congr 1
   apply Array.toList_inj.1
   unfold C9
   have hll:(ms.take n++(cs.drop (off+n)).take (len-n)).length=len:=by
    rw[List.length_append,htl,List.length_take,List.length_drop,hcs.1];omega
   rw[hll]
   simp only[List.append_assoc]
   congr 2
   have h10:cs.drop (off+len)=(cs.drop (off+n)).drop (len-n):=by rw[List.drop_drop];congr 1;omega
   rw[h10,List.take_append_drop]
theorem v5z {o:Oper} {T e:TypeId} {n:Nat} {x:Operand} {ti te:TInfo} (hti:ti.OK P T) (hpa:ti.arr=some (n,e)) (hte:te.OK P e) (ho:o.op=.slice T x none none none) {ρs:Env} {id off:Nat} (hx:ev ρs x=.one (.ptr id off)) (hs:Heap) :
  A6 P L w0 o ρs hs hs (.one (.csl id off n n)):=by
 refine D1 (fun c hc=>by rw[ho]at hc;cases hc) fun κ a w hev ok=>?_
 have hxv:=hev x
 rw[hx]at hxv
 obtain⟨h0,b,c,hk,hv⟩:=hxv
 obtain⟨u1,-⟩:=hti.arrT n e hpa
 obtain⟨i,z,hi,hisz,-⟩:=hte.zero_one (L:=L)
 refine⟨.slice (some ⟨b,off,none⟩) n n,?_,h0,b,c,hk,rfl⟩
 unfold execOp
 rw[ho]
 simp only[hv]
 simp[Instr.sliceAt,run_underlying u1,Instr.sliceBounds,Instr.sureAddr,S6 hi,Addr.add]
end Go.Abs
