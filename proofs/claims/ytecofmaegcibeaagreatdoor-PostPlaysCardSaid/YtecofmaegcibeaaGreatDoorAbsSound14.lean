/- The engine, part 11g: a range over a map begins; the entry that came last. -/
import Derived.Test.YtecofmaegcibeaaGreatDoorAbsSound13
import Derived.Test.YtecofmaegcibeaaGreatDoorAbsSound12
import Derived.Maps.RangeRun
namespace Go.Abs
open Go Go.RowKit
variable {P:Program} {L:Nat->Prop} {w0:World}
theorem v6k (a:Array MapEntry):leftOf a #[]=a:=by
 unfold leftOf;simp
variable {R:Type} {o:Oper} {T:TypeId} {x:Operand} {ρ:Env} {h:Heap} {K:Eff->Option R} {z:R}
theorem k2t {C:Ctx} (N:∀t O,C.TI t=some O->O.OK P t) (ho:o.op=.range T x) {id':Nat} (A:j1j C T (ev ρ x) h id' K=some z) :
  ∃q,K q=some z/\q.full=none/\∀j f,ev j x=ev ρ x->(∀p∈q.ups,f p.1=h p.1)->A9 P L w0 o j f (q.heap f) q.av:=by
 unfold j1j at A;split at A
 ·rename_i O hT;split at A
  ·rename_i Q I;split at A
   ·rename_i r s n u l W;unfold I3 at A;split at A
    rotate_left
    ·grind
    rename_i hf;refine⟨_,A,rfl,λj f U G=>?_⟩;have k:f id'=.fresh:=(G (id',.iter r s n u l none) (by simp)).trans hf;have hu:=(N T O hT).mapT Q.1 Q.2 I;show A9 P L w0 o j f (upd f id' (.iter r s n u l none)) (.one (.ptr id' 0));refine M7 (λc hc=>by grind) λκ a w D ok=>?_;have H:=D x;rw[U,W]at H;obtain⟨_,_,M⟩:=H;have Z:∀(m:Option Nat) (d B:Nat),(Instr.range T (a.eval x)).run P w=.ok (.pointer (some ⟨w.heap.size,0,none⟩)) (w.alloc (.mapIter m d #[] B)) ->
      IterRep (w.alloc (.mapIter m d #[] B)) (A4 L (upd κ id' (some (w.heap.size,0))) (upd f id' (.iter r s n u l none)) (w.alloc (.mapIter m d #[] B))) r s n u l none m d #[] B ->
      ∃F v S,(execOp a.eval o).run P w=.ok (.value v) S/\HeapOK L w0 F (upd f id' (.iter r s n u l none)) S/\RepAV L F (upd f id' (.iter r s n u l none)) S (.one (.ptr id' 0)) v/\Ext L κ f w F (upd f id' (.iter r s n u l none)) S:=by
     intro m d B J hit;have g:=X0 (L:=L) (κ:=κ) (h:=f) (w:=w) (.mapIter m d #[] B) (id:=id') (.iter r s n u l none) 0 k;refine⟨_,_,_,by grind[execOp,Sem.run_bind,Result.andThen_ok,Sem.run_pure],q1c ok (.mapIter m d #[] B) (.iter r s n u l none) 0 k ⟨w.heap.size,0,m,d,#[],B,A2 _ _ _,World.alloc_heap_new w _,hit⟩,⟨by rw[A2];simp,w.heap.size,0,A2 _ _ _,rfl⟩,g⟩
    obtain⟨b,es,e,V,hA,hb,hr⟩:=M
    ·have V:a.eval x=.map (some b):=by grind[E6]
     have g:=X0 (L:=L) (κ:=κ) (h:=f) (w:=w) (.mapIter (some b) e #[] e) (id:=id') (.iter r s n u l none) 0 k;obtain⟨X,Y⟩:=g.free b hA;refine Z (some b) e e (by grind[run_range_map]) ⟨.inr ⟨b,es,e,rfl,X,Y.trans hb,hr.apart,hr.early,ax _,ax _,?_,λq hq=>by grind⟩⟩;obtain⟨p,p1,p2,p3⟩:=hr.ents;rw[v6k];exact⟨p,p1,p2,λi y q a b=>⟨RepVal.mono g.free (p3 i y q a b).1,RepVal.mono g.free (p3 i y q a b).2⟩⟩
   ·rename_i W;unfold I3 at A;split at A
    rotate_left
    ·grind
    rename_i hf;refine⟨_,A,rfl,λj f U G=>?_⟩;have k:f id'=.fresh:=(G (id',.iter false false .bool .bool [] none) (by simp)).trans hf;show A9 P L w0 o j f (upd f id' (.iter false false .bool .bool [] none)) (.one (.ptr id' 0));refine M7 (λc hc=>by grind) λκ a w D ok=>?_;have H:=D x;rw[U,W]at H;have V:a.eval x=.map none:=H;have g:=X0 (L:=L) (κ:=κ) (h:=f) (w:=w) (.mapIter none 0 #[] 0) (id:=id') (.iter false false .bool .bool [] none) 0 k;have J:(Instr.range T (a.eval x)).run P w=.ok (.pointer (some ⟨w.heap.size,0,none⟩)) (w.alloc (.mapIter none 0 #[] 0)):=by
     rw[V];exact run_range_nilMap w T _ _ ((N T O hT).mapT Q.1 Q.2 I)
    refine⟨_,_,_,by grind[execOp,Sem.run_bind,Result.andThen_ok,Sem.run_pure],q1c ok (.mapIter none 0 #[] 0) (.iter false false .bool .bool [] none) 0 k ⟨w.heap.size,0,none,0,#[],0,A2 _ _ _,World.alloc_heap_new w _,⟨.inl ⟨rfl,rfl,rfl⟩⟩⟩,⟨by rw[A2];simp,w.heap.size,0,A2 _ _ _,rfl⟩,g⟩
   grind
  grind
 grind
variable {w:World}
theorem j63 {κ:A6} {a:Bool} {t:Ty} {v:Value} {y:t.den} (b:RepVal w (A4 L κ h w) a t v y):RepComp L κ h w (a,q2y a t y) v:=b.cells.2
variable {b:Nat}
theorem k1f (ty:TypeId) {r a:Nat} {s:Array Nat} (d:w.heap[r]? = some (.mapIter none a s b)) :
  (Instr.next (.pointer (some ⟨r,0,none⟩)) false ty).run P w=.ok (.tuple #[.bool false]) w:=by
 simp only[Instr.next,getObj,Sem.run_bind,Sem.run,d,Result.andThen];rfl
theorem y1e {a:Array MapEntry} {seen:Array Nat} (d:(a.toList.map (·.born)).Nodup) {i:Nat} {e:MapEntry} (hi:(leftOf a seen).toList[i]? = some e):(leftOf a (seen.push e.born)).toList=(leftOf a seen).toList.eraseIdx i:=by
 have c:(leftOf a (seen.push e.born)).toList=(leftOf a seen).toList.filter λx=>!(x.born==e.born):=by
  grind[leftOf,List.filter_filter,List.filter_congr]
 rw[c];have b:((leftOf a seen).toList.map (·.born)).Nodup:=by
  grind[leftOf]
 generalize (leftOf a seen).toList=l at hi b
 induction l generalizing i with
 | nil=>rfl
 | cons x r f =>
  grind[List.tail_cons,List.filter_eq_self]
theorem v9m {a:Type} {l:List a} {i:Nat} {x:a} (h:l[i]? = some x):l.Perm (x::l.eraseIdx i):=by
 induction l generalizing i with
 | nil=>grind
 | cons y r b =>
  cases i with
  | zero=>simp_all
  | succ i =>
   exact((b h).cons y).trans (List.Perm.swap x y _)
theorem j3i {κ:A6} (ok:HeapOK L w0 κ h w) (ty:TypeId) {D:Nat} {c:Nat×Nat} {C av:Bool} {s u:Ty} {g:List (s.den×u.den)} {K:Option (s.den×u.den)} (F:h D=.iter C av s u g K) (hk:κ D=some (b,c)) :
  (g=[]/\(Instr.next (.pointer (some ⟨b,0,none⟩)) false ty).run P w=.ok (.tuple #[.bool false]) w) \/
  ∃q k w1 m a seen B t v,g.Perm (q::k)/\(w1=w\/w1=w.drew)/\(Instr.next (.pointer (some ⟨b,0,none⟩)) false ty).run P w=.ok (.tuple #[.bool true,t,v]) (w1.putObj b (.mapIter m a seen B)) /\
   IterRep w (A4 L κ h w) C av s u k (some q) m a seen B/\RepVal w (A4 L κ h w) C s t q.1/\RepVal w (A4 L κ h w) av u v q.2:=by
 have N:=ok.obj D;rw[F]at N;obtain⟨b',c',m,a,seen,B,Q,W,hr⟩:=N;rw[hk]at Q;cases Q;rcases hr.map with⟨rfl,rfl,rfl⟩ | ⟨J,G,d,rfl,Y,U,l,f,I,y,⟨p,V,p2,X⟩,R⟩
 ·grind[k1f]
 ·rcases run_next_at (P:=P) w ty b J a B seen G d W U f I with⟨z1,z2⟩ | ⟨e,O,w1,H,z⟩
  ·simp_all
  ·right;obtain⟨i,hi,Z⟩:=List.getElem_of_mem O;have n:(leftOf G seen).toList[i]? = some e:=by grind
   have E:i<p.length:=by omega
   have A:p[i]? = some p[i]:=af E;obtain⟨T,S⟩:=X i e p[i] n A;refine⟨p[i],p.eraseIdx i,w1,some J,a,seen.push e.born,d,e.key,e.val,V.symm.trans (v9m A),H,z,⟨.inr ⟨J,G,d,rfl,Y,U,l,f,y,y,⟨p.eraseIdx i,cq _,?_,λj x q hj M=>?_⟩,λq M=>?_⟩⟩,T,S⟩
   ·rw[y1e l n,ff,ff,p2]
   ·rw[y1e l n,List.getElem?_eraseIdx]at hj;grind
   ·cases M;exact⟨rfl,e,(mem_left O).1,Array.back?_push,T,S⟩
theorem k2r (Q:o.op=.next x false) (g:j1f (ev ρ x) h K=some z) :
  ∃q,K q=some z/\q.full=none/\∀b d,ev b x=ev ρ x->(∀id∈q.rd,d id=h id)->A9 P L w0 o b d (q.heap d) q.av:=by
 unfold j1f at g;split at g
 ·rename_i id E;split at g
  ·rename_i H A C B k;refine⟨_,g,rfl,λb d y t=>?_⟩;have e:d id=.iter H A C B [] none:=(t id (by simp)).trans k;refine E7 (λc O=>by grind) λU a w i G=>?_;have l:=i x;rw[y,E]at l;obtain⟨_,r,c,F,l⟩:=l;rcases j3i (P:=P) G o.type e F with⟨_,u⟩ | ⟨q,v,S,m,p,seen,N,I,D,J,-⟩
   ·refine⟨.tuple #[.bool false],by grind[execOp,Sem.run_bind,Result.andThen_ok,Sem.run_pure],?_⟩;refine⟨[.bool false],rfl,rfl,λj M T f s=>?_⟩
    match j,f,s with
    | 0,f,s=>cases f;cases s;exact⟨rfl,rfl,rfl⟩
    | n+1,f,_=>grind
   simp_all
  grind
 grind
theorem k2d (ho:o.op=.entry x) (t:j1a (ev ρ x) h K=some z) :
  ∃q,K q=some z/\q.full=none/\∀d g,ev d x=ev ρ x->(∀id∈q.rd,g id=h id)->A9 P L w0 o d g (q.heap g) q.av:=by
 unfold j1a at t;split at t
 ·rename_i id N;split at t
  ·rename_i U X M J i q u;refine⟨_,t,rfl,λd g O D=>?_⟩;have l:g id=.iter U X M J i (some q):=(D id (by simp[E1])).trans u;refine E7 (λc W=>by grind) λκ a w C ok=>?_;have s:=C x;rw[O,N]at s;obtain⟨_,r,c,I,s⟩:=s;have n:=ok.obj id;rw[l]at n;obtain⟨r2,c2,m,v,seen,c0,p,Q,B⟩:=n;rw[I]at p;cases p;rcases B.map with⟨_,_,W⟩ | ⟨b,Y,E,rfl,-,H,S,-,-,-,-,k⟩
   ·grind
   ·obtain⟨A,y,Z,f,T,G⟩:=k q rfl;subst A;have F:(Instr.entry (a.eval x)).run P w=.ok (.tuple #[y.key,y.val]) w:=by
     have V:Y.find? (·.born==y.born)=some y:=by rw[<-Array.find?_toList];grind[find_born]
     rw[s];simp only[Instr.entry,getObj,Sem.run_bind,Sem.run,Q,H,Result.andThen,f,bne_self_eq_false,bO,if_false,V];rfl
    refine⟨.tuple #[y.key,y.val],by grind[execOp,Sem.run_bind,Result.andThen_ok,Sem.run_pure],?_⟩;refine⟨[y.key,y.val],rfl,rfl,λj cc uu hj hu=>?_⟩;grind[j63]
  grind
 grind
structure CloneF (P:Program) (F:FuncId):Prop where
 fn:∃fn,P.funcs[F]? = some fn/\fn.body.isSome=true/\(fn.name== "runtime.NumGoroutine")=false
 run:∀(b:Nat) (es:Array MapEntry) (clock:Nat) (w:World),w.heap[b]? = some (.map es clock)->Calls P F #[.map (some b)] w λe w'=>e=.returned (.map (some w.heap.size))/\w'=w.alloc (.map es clock)
structure DelN (P:Program) (F:FuncId) (k:Nat):Prop where
 fn:∃fn,P.funcs[F]? = some fn/\fn.body.isSome=true/\(fn.name== "runtime.NumGoroutine")=false
 run:∀(b off n cap i j:Nat) (cur:Array Value) (ty:TypeId) (w:World),w.heap[b]? = some (.cells cur ty (0,0))->off+cap*k<=cur.size->cap<=maxLen->n<=cap->i<j->j<=n->(∀c∈cur.toList,c.oneCell'=true) ->
  Calls P F #[.slice (some ⟨b,off,none⟩) n cap,.int .i64 i,.int .i64 j] w λe w'=>e=.returned (.slice (some ⟨b,off,none⟩) (n-(j-i)) cap) /\
   Below b w w'/\w'.heap.size=w.heap.size/\(∀b',b'≠b->w'.heap[b']? = w.heap[b']?)/\∃cur':Array Value,w'.heap[b]? = some (.cells cur' ty (0,0))/\cur'.size=cur.size/\(∀c∈cur'.toList,c.oneCell'=true) /\
    (∀q,q<i*k->cur'[off+q]? = cur[off+q]?)/\∀q,i*k<=q->q<(n-(j-i))*k->cur'[off+q]? = cur[off+(q+(j-i)*k)]?
def q20 (P:Program) (_:W5) (F:FuncId):Nat->Prop
 | 0=>CloneF P F
 | k+1=>cond (Nat.ble 1048575 k) (DelN P F (k-1048575)) (SortN P F (k+1))
theorem k25 {F:FuncId} {k:Nat} (hS:DelN P F k) {g:Operand} {args:Array Operand} {Ts:Array TypeId} (ho:o.op=.call { callee:=.value g,args:=args,argTypes:=Ts }) (hg:ev ρ g=.one (.fn F [])) {id':Nat} (he:j13 k (args.toList.map (ev ρ)) h id' K=some z) :
  ∃q,K q=some z/\q.full=none/\∀ρs hs,(∀x,x=g\/x∈args.toList->ev ρs x=ev ρ x)->(∀p∈q.ups,hs p.1=h p.1)->A9 P L w0 o ρs hs (q.heap hs) q.av:=by
 unfold j13 at he;split at he
 rotate_left
 ·cases he
 rename_i id i j hargs;obtain⟨s,x,y,hax,hs',hx',hy'⟩:∃s x y,args=#[s,x,y]/\ev ρ s=.one (.own id)/\ev ρ x=.one (.sc (.int .i64) i)/\ev ρ y=.one (.sc (.int .i64) j):=by
  obtain⟨l,hl⟩:∃l,args.toList=l:=⟨_,rfl⟩;rw[hl]at hargs
  match l,hargs with
  | [s,x,y],h=>simp only[bB,da,en,and_true]at h;exact⟨s,x,y,aX.1 hl,h⟩
  | [],h=>simp at h
  | [_],h=>simp at h
  | [_,_],h=>simp at h
  | _::_::_::_::_,h=>simp at h
 subst hax;split at he
 rotate_left
 ·cases he
 rename_i e t l hid;unfold I3 at he;split at he
 rotate_left
 ·cases he
 rename_i hf;obtain⟨hc,he⟩:=q4m he;simp only[ac,decide_eq_true_eq]at hc;obtain⟨⟨⟨c1,c2⟩,c3⟩,c4⟩:=hc;have c1:=ab c1;refine⟨_,he,rfl,λρs hs ha hup=>?_⟩;have hids:hs id=.arr e t l:=(hup (id,.dead) (by simp)).trans hid;have hfs:hs id'=.fresh:=(hup (id',.arr e t (l.take i.toNat++l.drop j.toNat)) (by simp)).trans hf;obtain⟨i,rfl⟩:∃n:Nat,(i:Int)=n:=bL c2;obtain⟨j,rfl⟩:∃n:Nat,(j:Int)=n:=bL (Int.le_trans c2 (Int.le_of_lt c3));show A9 P L w0 o ρs hs (upd (upd hs id .dead) id' (.arr e t (l.take i++l.drop j))) (.one (.own id'));have hij:i<j:=Int.ofNat_lt.1 c3;have hjl:j<=l.length:=Int.ofNat_le.1 c4;intro r κ a w henv ok m K' Q hK _;have hev:=R5 henv;have hgv:=hev g;rw[(ha g (.inl rfl)).trans hg]at hgv;obtain⟨cs,hgv,hcl,-⟩:=hgv;have hcs:cs=[]:=aO hcl;subst hcs;obtain⟨fn,hf1,hf2,hf3⟩:=hS.fn;have hrun:=q4q (P:=P) ho hgv hf1 hf2 hf3 w;have hxv:=hev x;rw[(ha x (.inr (by simp))).trans hx']at hxv;have hyv:=hev y;rw[(ha y (.inr (by simp))).trans hy']at hyv;have harr:(#[]++#[s,x,y].map a.eval++([]:List Value).toArray)=#[a.eval s,.int .i64 i,.int .i64 j]:=by
  simp[K1 hxv,K1 hyv]
 rw[harr]at hrun;have hsv:=hev s;rw[(ha s (.inr (by simp))).trans hs']at hsv;have hsv:=hsv.1;rw[hids]at hsv;rcases hsv with⟨-,hnil,-⟩ | ⟨b,cap,hk,hv⟩
 ·subst hnil;simp at hjl;omega
 have hlive:(hs id).live=true:=by rw[hids];rfl
 have hobj:=ok.obj id;rw[hids]at hobj;rcases hobj with⟨hk',_⟩ | ⟨b',cap',cur,hk',hheap,hcsz,hcm,hll,hone,hel⟩
 ·rw[hk]at hk';cases hk'
 rw[hk]at hk';simp at hk';obtain⟨rfl,rfl⟩:=hk';have hown:=ok.own id b cap hlive hk;rw[hv]at hrun;subst c1;have hcall:=(callsIn_wide (n:=m-1)).2 (hS.run b cap.2 l.length cap.1 i j cur e w hheap hcsz hcm hll hij hjl hone);refine q30 (λc hc=>by rw[ho]at hc;cases hc) hrun hcall λe' w' ⟨he',hbel,hsz,hoth,cur',d1,d2,d3,d4,d5⟩=>⟨_,he',?_⟩;have hlen:(l.take i++l.drop j).length=l.length-(j-i):=by simp;omega
 have hx:=q4r (L:=L) (κ:=κ) (h:=hs) (c':=cap) (obj':=.arr e t (l.take i++l.drop j)) hlive (by rw[hids];simp) hk hfs (.inl (.inl ⟨_,_,_,hheap⟩)) hsz hoth;refine hK _ _ w' (q6e ok hlive (by rw[hids];simp) hk hfs (.inl (.inl ⟨_,_,_,hheap⟩)) hsz hoth (ok.below.trans (hbel.mono hown.1)) (.inr ⟨b,cap,cur',A2 _ _ _,d1,by rw[d2];exact hcsz,hcm,by omega,d3,λq z hz=>?_⟩)) ⟨?_,rfl⟩ hx
 ·by_cases hq:q<i
  ·rw[aH (by simp;omega),aV hq]at hz;refine RepAt.congr t _ _ z (λc hc=>?_) (RepAt.ext hx (hel q z hz));simp only[hc,if_true];have:=d4 (q*t.size+c) (by
    have:(q+1)*t.size<=i*t.size:=aJ _ (by omega);rw[bH,dL]at this;omega)
   rw[bT,this]
  ·have hlt:q<l.length-(j-i):=by rw[<-hlen];exact(ag.1 hz).1
   rw[aP (by simp;omega),aY,eo (by omega),aT]at hz;refine RepAt.congr t _ _ z (λc hc=>?_) (RepAt.ext hx (hel _ z hz));simp only[hc,if_true];have h1:i*t.size<=q*t.size:=aJ _ (by omega);have:=d5 (q*t.size+c) (by omega) (by
    have:(q+1)*t.size<=(l.length-(j-i))*t.size:=aJ _ (by omega);rw[bH,dL]at this;omega)
   have h2:(j+(q-i))*t.size=q*t.size+(j-i)*t.size:=by rw[<-bH];congr 1;omega
   rw[show cap.2+q*t.size+c=cap.2+(q*t.size+c)from bT _ _ _,this,h2];congr 1;omega
 ·rw[A2];exact .inr ⟨b,cap,A2 _ _ _,by rw[hlen]⟩
theorem setRow_self {cs:Array Value} {ty:TypeId} {c:Nat×Nat} (h:w.heap[b]? = some (.cells cs ty c)):w.setRow b cs=w:=by
 have a:(w.setRow b cs).heap=w.heap:=by
  apply dJ;grind[setRow_heap,setRow_other]
 have d:w.setRow b cs={ w with heap:=(w.setRow b cs).heap }:=rfl;rw[d,a]
theorem j8f {t:Ty} {m:List t.den}:∀{l r:List SV} {i:Nat},q63 t m i l=some r->r.length=l.length/\∀(j:Nat) (s:SV),l[j]? = some s->∃y,s=.sc t y/\r[j]? = some (.sc t ((m[i+j]?).getD y))
 | [],r,i,h=>by
  grind[q63]
 | c::l,r,i,h=>by
  cases c with
  | sc o y =>
   simp[q63]at h;split at h
   ·rename_i q p a k;cases h;obtain⟨n,a⟩:=H9 a;subst n;subst a;obtain⟨e,g⟩:=j8f k;refine⟨by simp[e],λj s b=>?_⟩;cases j with
    | zero=>simp at b;subst b;exact⟨_,rfl,rfl⟩
    | succ j =>
     obtain⟨z,f,d⟩:=g j s (by simpa using b);exact⟨z,f,by rw[bz,d,show i+1+j=i+(j+1)from by omega]⟩
   ·cases h
  | _=>simp[q63]at h
theorem k1y {T' e:TypeId} {s:Operand} {ti te:TInfo} (hti:ti.OK P T) (hel:ti.elem=some e) (hte:te.OK P e) (ho:o.op=.call { callee:=.builtin .copy,args:=#[s,x],argTypes:=#[T,T'] }) {id off len cap:Nat} (hs':ev ρ s=.one (.csl id off len cap)) (he:j0z te h id off len (ev ρ x) K=some z) :
  ∃q,K q=some z/\q.full=none/\∀ρs hs,ev ρs s=ev ρ s->ev ρs x=ev ρ x->(∀id∈q.rd,hs id=h id)->(∀p∈q.ups,hs p.1=h p.1)->A9 P L w0 o ρs hs (q.heap hs) q.av:=by
 unfold j0z at he;split at he
 rotate_left
 ·cases he
 rename_i sx l hx' hid;split at he
 rotate_left
 ·cases he
 rename_i m hm;split at he
 rotate_left
 ·cases he
 rename_i mid hmid;obtain⟨hc,he2⟩:=q4m he;simp only[ac]at hc;obtain⟨⟨c0,c1⟩,c2⟩:=hc;have c0:=ao c0;have hs1:=ab c1;have ht1:=ab c2;refine⟨_,he2,rfl,λρs hs g1 g2 g3 g4=>?_⟩;have hid':hs id=.cells l:=(g4 (id,.cells (splice l off mid)) (by simp)).trans hid;have hl:C2 hs te.ty sx=some m:=(z5j te.ty sx g3).trans hm;show A9 P L w0 o ρs hs (upd hs id (.cells (splice l off mid))) (G7 .i64 (Nat.min m.length len:Nat));refine M7 (λc hc=>by rw[ho]at hc;cases hc) λκ a w hev ok=>?_;have hsv:=hev s;rw[g1,hs']at hsv;obtain⟨_,b,c,hk,hv⟩:=hsv;have hxv:=hev x;rw[g2,hx']at hxv;obtain⟨sa,xcap,hxe,hxc⟩:=j36 ok hxv hl;have hob:=ok.obj id;rw[hid']at hob;obtain⟨b',c',cs,ty,hk',hheap,hcs⟩:=hob;rw[hk]at hk';simp at hk';obtain⟨rfl,rfl⟩:=hk';obtain⟨-,d,hd,-,hde,-⟩:=hti.base;have ht:P.underlying T=some (.slice e):=by
  rcases hde with hde | ⟨e',he',hde⟩
  ·rw[hel]at hde;cases hde
  ·rw[hel]at he';cases he';rw[hd,hde]
 obtain⟨i,zz,hi,hisz,-⟩:=hte.zero_one (L:=L);have hlive:(hs id).live=true:=by rw[hid'];rfl
 have hown:=ok.own id b c hlive hk;obtain⟨m1,m2⟩:=j8f hmid;have hmidl:mid.length=len:=by rw[m1,aY,bR];omega
 have hmget:∀j,j<len->∃y,l[off+j]? = some (.sc te.ty y)/\mid[j]? = some (.sc te.ty ((m[j]?).getD y)):=λj hj=>by
  have hlj:((l.drop off).take len)[j]? = some (l[off+j]'(by omega)):=by
   rw[aV hj,aT,af (by omega)]
  obtain⟨y,h3,h4⟩:=m2 j _ hlj;rw[cA]at h4;exact⟨y,by rw[<-h3,af (by omega)],h4⟩
 have fin:∀(us:List Value) (w':World),RepCells L κ hs w mid us->(Builtin.copy_ #[T,T'] o.type #[a.eval s,a.eval x]).run P w=.ok (goInt (Nat.min m.length len)) w'->w'=w.setRow b (splice cs off us).toArray ->
   ∃κ' v w',(execOp a.eval o).run P w=.ok (.value v) w'/\HeapOK L w0 κ' (upd hs id (.cells (splice l off mid))) w'/\RepAV L κ' (upd hs id (.cells (splice l off mid))) w' (G7 .i64 (Nat.min m.length len:Nat)) v/\Ext L κ hs w κ' (upd hs id (.cells (splice l off mid))) w':=by
  intro us w' hrep hrun hw;subst hw;have hlike:(hs id).like (.cells (splice l off mid)):=by rw[hid'];trivial
  have hsize:(w.setRow b (splice cs off us).toArray).heap.size=w.heap.size:=by simp
  have hoth:∀b',b'≠b->(w.setRow b (splice cs off us).toArray).heap[b']? = w.heap[b']?:=λb' hne=>setRow_other w b b' _ hne;have hx2:=U9 (L:=L) (κ:=κ) (h:=hs) hk hlike (.inl (.inl ⟨_,_,_,hheap⟩)) hsize hoth;exact⟨κ,_,_,v4g ho hrun,X4 ok hk hlike hsize hoth (q0y _ ok.below hown.1) ⟨b,c,_,ty,hk,setRow_heap w b _ _ ty (0,0) hheap,(j58 hcs hrep (by rw[hmidl];exact c0)).ext hx2⟩,M2 _ _,hx2⟩
 have old:∀j,j<len->∃u,cs[off+j]? = some u/\u.oneCell'=true/\∀y,l[off+j]? = some (.sc te.ty y)->RepSV L κ hs w (.sc te.ty y) u:=λj hj=>by
  have hlt:off+j<cs.length:=by rw[hcs.1];omega
  obtain⟨y,hy,-⟩:=hmget j hj;have hg:=af hlt;obtain⟨r1,r2⟩:=hcs.2 (off+j) _ _ hy hg;refine⟨_,hg,r2,λy' hy'=>?_⟩;rw[hy]at hy';cases hy';exact r1
 by_cases hmin:Nat.min m.length len=0
 ·have hsame:RepCells L κ hs w mid ((cs.drop off).take len):=by
   refine⟨by rw[aY,bR,hcs.1,hmidl];omega,λj sv u hj hu=>?_⟩;have hjl:j<len:=by rw[<-hmidl];exact(ag.1 hj).1
   obtain⟨y,hy1,hy2⟩:=hmget j hjl;rw[hy2]at hj;cases hj;have hnone:m[j]? = none:=by
    refine bU ?_;rcases Nat.le_total m.length len with h5 | h5
    ·have:Nat.min m.length len=m.length:=eo h5;omega
    ·have:Nat.min m.length len=len:=eL h5;omega
   obtain⟨u',h6,h7,h8⟩:=old j hjl;rw[aV hjl,aT,h6]at hu;cases hu;rw[hnone];exact⟨h8 y hy1,h7⟩
  have hsp:splice cs off ((cs.drop off).take len)=cs:=by
   unfold splice;have hll:((cs.drop off).take len).length=len:=by rw[aY,bR,hcs.1];omega
   rw[hll,aS,<-dt,cv,cv]
  refine fin _ w hsame ?_ ?_
  ·rw[hv,hxe,hmin];exact k1e ht hi w sa _ m.length xcap len cap hmin
  ·rw[hsp];exact(setRow_self hheap).symm
 ·rcases hxc with⟨-,hm0⟩ | ⟨ad,ms,rfl,e1,e2,e3,e4⟩
  ·subst hm0;exact absurd (by simp) hmin
  have e1:ms.length=m.length:=by rw[e1,ht1,dP]
  have hn1:Nat.min m.length len<=m.length:=Nat.min_le_left _ _;have hn2:Nat.min m.length len<=len:=Nat.min_le_right _ _;generalize hn:Nat.min m.length len=n at hn1 hn2 hmin fin ⊢;have htl:(ms.take n).length=n:=by rw[aY];omega
  have hr:=run_copy_row P w T T' o.type e b off len cap ad m.length xcap cs.toArray ty (ms.take n) ht (by rw[hi];simp only[bu,hisz,hs1]) hheap (by rw[htl];exact hn.symm)
   (λj v hj=>by
    have hjn:j<n:=by have:=(ag.1 hj).1;omega
    rw[aV hjn]at hj;exact e2 j v hj) (by rw[htl];simp only[dm,hcs.1];omega) (λv hv=>e3 v (bq hv))
  rw[htl]at hr;refine fin (ms.take n++(cs.drop (off+n)).take (len-n)) _ ⟨?_,λj sv u hj hu=>?_⟩ (by rw[hv,hxe];exact hr) ?_
  ·rw[aK,htl,aY,bR,hcs.1,hmidl];omega
  ·have hjl:j<len:=by rw[<-hmidl];exact(ag.1 hj).1
   obtain⟨y,hy1,hy2⟩:=hmget j hjl;rw[hy2]at hj;cases hj;by_cases hjn:j<n
   ·rw[aH (by omega),aV hjn]at hu;have hmj:m[j]? = some (m[j]'(by omega)):=af (by omega);rw[hmj];have h9:=e3 u (bk hu);refine⟨⟨ht1,h9,RepAt.congr te.ty _ _ _ (λq hq=>?_) (e4 j _ hmj)⟩,h9⟩;have hq0:q=0:=by omega
    subst hq0;rw[if_pos hq,ht1,dP,cz,hu];rfl
   ·have hml:m.length<=j:=by
     rcases Nat.le_total m.length len with h5 | h5
     ·have:Nat.min m.length len=m.length:=eo h5;omega
     ·have:Nat.min m.length len=len:=eL h5;omega
    obtain⟨u',h6,h7,h8⟩:=old j hjl;rw[aP (by omega),htl,aV (by omega),aT,show off+n+(j-n)=off+j from by omega,h6]at hu;cases hu;rw[bU hml];exact⟨h8 y hy1,h7⟩
  ·congr 1;apply aX.1;unfold splice;have hll:(ms.take n++(cs.drop (off+n)).take (len-n)).length=len:=by
    rw[aK,htl,aY,bR,hcs.1];omega
   rw[hll];simp only[aS];congr 2;have h10:cs.drop (off+len)=(cs.drop (off+n)).drop (len-n):=by rw[dt];congr 1;omega
   rw[h10,cv]
theorem k2v {e:TypeId} {n:Nat} {ti te:TInfo} (hti:ti.OK P T) (hpa:ti.arr=some (n,e)) (hte:te.OK P e) (ho:o.op=.slice T x none none none) {ρs:Env} {id off:Nat} (hx:ev ρs x=.one (.ptr id off)) (hs:Heap) :
  A9 P L w0 o ρs hs hs (.one (.csl id off n n)):=by
 refine E7 (λc hc=>by rw[ho]at hc;cases hc) λκ a w hev ok=>?_;have hxv:=hev x;rw[hx]at hxv;obtain⟨h0,b,c,hk,hv⟩:=hxv;obtain⟨u1,-⟩:=hti.arrT n e hpa;obtain⟨i,z,hi,hisz,-⟩:=hte.zero_one (L:=L);refine⟨.slice (some ⟨b,off,none⟩) n n,?_,h0,b,c,hk,rfl⟩;unfold execOp;rw[ho];simp only[hv];simp[Instr.sliceAt,run_underlying u1,Instr.sliceBounds,Instr.sureAddr,q1t hi,Addr.add]
end Go.Abs
