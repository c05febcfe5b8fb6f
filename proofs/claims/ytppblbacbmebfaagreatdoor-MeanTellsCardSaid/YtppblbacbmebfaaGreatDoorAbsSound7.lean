/- The engine, part 10: struct and slice literals, make, lengths. -/
import Derived.Test.YtppblbacbmebfaaGreatDoorAbsSound6
import Derived.Great.BuildSlice
namespace Go.Abs
open Go Go.RowKit Go.Great
variable {P:Program} {L:Nat->Prop} {w0:World}
theorem y5v {a:Array Value} {b:Nat} {d:List Value} (h:b+d.length<=a.size) :
  (d.toArray.zipIdx.foldl (fun e (c,j)=>e.setIfInBounds (b+j) c) a)=(C9 a.toList b d).toArray:=by
 obtain⟨f,g⟩:=foldl_set b d 0 a
 apply Array.ext_getElem?
 grind[q0w]
theorem z8o {κ:A2} {h:Heap} {w:World} {ρ:Env} {a:Act} (m:∀ x,RepAV L κ h w (ev ρ x) (a.eval x)) {f:List FI} {place:Nat->Option (Nat×Nat)}
  (y:∀ (i:Nat) (d:FI),f[i]? = some d->place i=some (d.off,d.size)):∀ (b:List (Nat×Operand)) (cs:List SV) (j:List Value) (c:List SV),RepCells L κ h w cs j ->
  X3 f (ev ρ) b cs=some c->∃ e:List Value,Instr.fill place j.toArray (b.map fun(i,x)=>(i,a.eval x))=some e.toArray/\RepCells L κ h w c e
 | [],cs,j,c,n,l=>by
  simp[X3,Option.some.injEq]at l
  subst l
  exact⟨j,rfl,n⟩
 | (i,x)::r,cs,j,c,n,l=>by
  simp[X3]at l
  split at l
  ·rename_i d o q u
   cases t:(Nat.beq o.length d.size&&o.all SV.known&&Nat.ble (d.off+o.length) cs.length)with
   | false=>grind
   | true =>
    rw[t,cond_true]at l
    simp only[Bool.and_eq_true]at t
    obtain⟨⟨p,B⟩,s⟩:=t
    have p:=Nat.eq_of_beq_eq_true p
    have s:=Nat.le_of_ble_eq_true s
    obtain⟨A,v,g⟩:=q3h (m x) u B
    have z:d.off+A.length<=j.length:=by rw[g.1,n.1];omega
    obtain⟨e,D,C⟩:=z8o m y r (C9 cs d.off o) (C9 j d.off A) c (j1h n g s) l
    refine⟨e,?_,C⟩
    simp only[List.map_cons,Instr.fill,y i d q,v,List.size_toArray]
    rw[if_neg (by simp[g.1,p];rw[n.1,<-p];omega),y5v (by omega)]
    omega
  grind
theorem v1i {m:TInfo} {g:Array Field} (q:g.size=m.flds.length)
  (n:∀ (f:Nat) (a:FI),m.flds[f]? = some a->∃ c d o,g[f]? = some c/\c.offset=a.off/\P.info? c.type=some d/\d.size=a.size/\P.underlying c.type=some o/\V7 o=a.agg) :
  ∃ b:List (Nat×Nat),g.toList.mapM (fun f=>(P.info? f.type).map fun i=>(f.offset,i.size))=some b/\∀ (i:Nat) (a:FI),m.flds[i]? = some a->b.toArray[i]? = some (a.off,a.size):=by
 have e:∀ (l:List Field) (k:List FI),l.length=k.length->(∀ (j:Nat) (a:FI),k[j]? = some a->∃ c d,l[j]? = some c/\c.offset=a.off/\P.info? c.type=some d/\d.size=a.size) ->
   l.mapM (fun f=>(P.info? f.type).map fun i=>(f.offset,i.size))=some (k.map fun a=>(a.off,a.size)):=by
  intro l
  induction l with
  | nil=>grind
  | cons f l p =>
   intro k s h
   cases k with
   | nil=>grind
   | cons a k =>
    obtain⟨c,d,y,v,t,w⟩:=h 0 a rfl
    have x:=p k (by grind) (fun j a r=>h (j+1) a (by grind))
    grind
 refine⟨_,e g.toList m.flds (by omega) (fun j a r=>?_),fun i a u=>?_⟩
 all_goals grind
theorem v3z {o:Oper} {T:TypeId} {b:Array (Nat×Operand)} {k:TInfo} (l:k.OK P T) (j:k.str=true) (I:o.op=.build T b) {ρs:Env} {cs:List SV}
  (E:X3 k.flds (ev ρs) b.toList k.zeros=some cs) (hs:Heap):A6 P L w0 o ρs hs hs (.agg cs):=by
 refine D1 (fun c J=>by grind) fun u a w q O=>?_
 obtain⟨i,z,N,s,r,A,C,v,g,t⟩:=l.zero_one (L:=L)
 obtain⟨-,d,K,B,-,-,m⟩:=l.base
 obtain⟨H,y,p,h⟩:=m j
 obtain⟨e,D,f⟩:=v1i p h
 obtain⟨n,M,F⟩:=z8o q (place:=(e.toArray[·]?)) f b.toList k.zeros z.cells.toList cs (g u hs w) E
 refine⟨.agg n.toArray,?_,n,rfl,F⟩
 have G:P.built T (b.map fun(i,x)=>(i,a.eval x)).toList=some n.toArray:=by
  unfold Program.built
  simp_all
 grind[execOp,Sem.run_bind,run_build,Result.andThen_ok,Sem.run_pure]
theorem v42 {o:Oper} {T:TypeId} {b:Array (Nat×Operand)} {g:TInfo} (h:g.OK P T) {n:Nat} {e:TypeId} (f:g.arr=some (n,e)) (E:o.op=.build T b) {ρs:Env} {cs:List SV}
  (A:X3 g.flds (ev ρs) b.toList g.zeros=some cs) (hs:Heap):A6 P L w0 o ρs hs hs (.agg cs):=by
 refine D1 (fun c K=>by grind) fun s a w l N=>?_
 obtain⟨i,z,G,p,r,y,t,B,d,m⟩:=h.zero_one (L:=L)
 obtain⟨D,q,M,u,-,v⟩:=h.arrT n e f
 obtain⟨k,F,C⟩:=z8o l (place:=fun i=>some (i*q.size,q.size)) (fun j I J=>by grind) b.toList g.zeros z.cells.toList cs (d s hs w) A
 refine⟨.agg k.toArray,?_,k,rfl,C⟩
 have H:P.built T (b.map fun(i,x)=>(i,a.eval x)).toList=some k.toArray:=by
  unfold Program.built
  simp_all
 grind[execOp,Sem.run_bind,run_build,Result.andThen_ok,Sem.run_pure]
theorem q62 {t:Ty}:∀ {cs:List SV} {l:List t.den},q05 t cs=some l->cs.length=l.length/\∀ (j:Nat) (y:t.den),l[j]? = some y->cs[j]? = some (.sc t y)
 | [],l,h=>by cases h;grind
 | s::r,l,h=>by
  cases s with
  | sc k x =>
   simp[q05]at h
   split at h
   ·rename_i y i g a
    cases h
    obtain⟨e,f⟩:=H2 g
    cases e
    subst f
    obtain⟨d,c⟩:=q62 a
    refine⟨by simp[d],fun j y b=>?_⟩
    cases j with
    | zero=>simp at b;subst b;rfl
    | succ j=>exact c j y (by simpa using b)
   ·cases h
  | _=>simp[q05]at h
theorem v4y {o:Oper} {T e:TypeId} {x i:Operand} {n:Nat} {G f:TInfo} (D:G.OK P T) (p:G.arr=some (n,e)) (E:f.OK P e) (t:f.agg=false) (C:f.size=1) (N:o.op=.index T x i) {ρs:Env} {cs:List SV} {l:List f.ty.den} {I:IntKind} {k:Int} {y:f.ty.den}
  (O:ev ρs x=.agg cs) (hi:ev ρs i=.one (.sc (.int I) k)) (J:q05 f.ty cs=some l) (H:cs.length=n) (u:A7 l k=some y) (hs:Heap):A6 P L w0 o ρs hs hs (.one (.sc f.ty y)):=by
 refine D1 (fun c F=>by grind) fun κ a w j ok=>?_
 have h:=j x
 rw[O]at h
 obtain⟨W,M,z⟩:=h
 have q:=j i
 rw[hi]at q
 obtain⟨R,Z,de,r,S,-⟩:=D.arrT n e p
 obtain⟨⟨U,X,m,b,-⟩,Y,v,g,-⟩:=E.base
 rw[r]at m;cases m
 obtain⟨V,K⟩:=q62 J
 unfold A7 at u
 obtain⟨d,u⟩:=(show decide (0<=k)=true/\l[k.toNat]? = some y by
  grind)
 have d:=of_decide_eq_true d
 have Q:=(List.getElem?_eq_some_iff.1 u).1
 obtain⟨c,F,s,_⟩:=W3 z (K _ y u)
 refine⟨c,?_,s⟩
 have A:k<(n:Int):=by omega
 unfold execOp
 simp[N,M,H7 q,Instr.index,asIntOf,Sem.run_bind,Sem.run_pure,Result.andThen_ok,run_underlying R]
 rw[if_pos ⟨d,A⟩]
 simp[part,Sem.run_bind,Result.andThen_ok,S6 r,q20 v,g,t,Bool.false_eq_true,if_false,b,C,Nat.mul_one]
 simp[F]
theorem y7u {h:Heap} {e:Ty} {s:SV} {l:List e.den} (a:B7 (fun _=>.fresh) e s=some l):B7 h e s=some l/\G9 s=[]:=by
 cases s with
 | own id=>cases a
 | sub id o n=>cases a
 | mp id=>cases a
 | _=>exact⟨a,rfl⟩
theorem y8h {h:Heap} {b av:Bool} {k v:Ty} {s:SV} {l:List (k.den×v.den)} (a:O1 (fun _=>.fresh) b av k v s=some l):O1 h b av k v s=some l/\G9 s=[]:=by
 cases s with
 | own id=>cases a
 | sub id o n=>cases a
 | mp id=>cases a
 | _=>exact⟨a,rfl⟩
theorem j1s {h:Heap}:∀ (t:Ty) (cs:List SV) (y:t.den) (r:List SV),D2 (fun _=>.fresh) t cs=some (y,r)->D2 h t cs=some (y,r)/\∃ p,cs=p++r/\F9 p=[]
 | .int k,cs,y,r,c=>by
  cases cs with
  | nil=>grind[D2]
  | cons s q =>
   cases s with
   | sc t z =>
    obtain⟨d,rfl⟩:=W1 c
    exact⟨c,[.sc t z],rfl,rfl⟩
   | _=>grind[D2]
 | .bool,cs,y,r,c=>by
  cases cs with
  | nil=>grind[D2]
  | cons s q =>
   cases s with
   | sc t z =>
    obtain⟨d,rfl⟩:=W1 c
    exact⟨c,[.sc t z],rfl,rfl⟩
   | _=>grind[D2]
 | .list e,cs,y,r,c=>by
  cases cs with
  | nil=>grind[D2]
  | cons s q =>
   simp only[D2]at c ⊢
   obtain⟨d,rfl⟩:=W1 c
   obtain⟨f,w⟩:=y7u (h:=h) d
   rw[f]
   exact⟨rfl,[s],rfl,by grind[F9]⟩
 | .map E D k v,cs,y,r,c=>by
  cases cs with
  | nil=>grind[D2]
  | cons s q =>
   simp only[D2]at c ⊢
   obtain⟨d,rfl⟩:=W1 c
   obtain⟨f,w⟩:=y8h (h:=h) d
   rw[f]
   exact⟨rfl,[s],rfl,by grind[F9]⟩
 | .nil,cs,y,r,c=>by
  simp only[D2,Option.some.injEq,Prod.mk.injEq]at c ⊢
  exact⟨c,[],c.2,rfl⟩
 | .cons a b,cs,y,r,c=>by
  simp[D2]at c ⊢
  split at c
  ·rename_i A l i
   split at c
   ·rename_i u C g
    cases c
    obtain⟨d,n,B,m⟩:=j1s (h:=h) a cs A l i
    obtain⟨f,o,x,j⟩:=j1s (h:=h) b l u r g
    rw[d]
    simp only[f]
    refine⟨trivial,n++o,by rw[List.append_assoc,<-x,B],?_⟩
    unfold F9 at m j ⊢
    rw[List.flatMap_append,m,j];rfl
   ·cases c
  ·cases c
theorem j8e {t:Ty}:∀ {n:Nat} {cs:List SV} {l:List t.den},q9a t n cs=some l->l.length=n/\∀ (j:Nat) (y:t.den),l[j]? = some y->D2 (fun _=>.fresh) t ((cs.drop (j*t.size)).take t.size)=some (y,[])
 | 0,[],l,h=>by cases h;grind
 | 0,_::_,l,h=>by cases h
 | n+1,cs,l,h=>by
  simp[q9a]at h
  split at h
  ·rename_i y f
   obtain⟨g,c,rfl⟩:=Option.map_eq_some_iff.1 h
   obtain⟨e,d⟩:=j8e c
   refine⟨by simp[e],fun j z b=>?_⟩
   cases j with
   | zero=>simp at b;subst b;rw[Nat.zero_mul,List.drop_zero];exact f
   | succ j =>
    have:=d j z (by simpa using b)
    rw[List.drop_drop]at this
    rw[Nat.add_mul,Nat.one_mul,Nat.add_comm];exact this
  ·cases h
theorem v4x {o:Oper} {T e:TypeId} {x i:Operand} {n:Nat} {M b:TInfo} (J:M.OK P T) (t:M.arr=some (n,e)) (K:b.OK P e) (A:b.agg=true) (G:b.size=b.ty.size) (W:o.op=.index T x i) {ρs:Env} {cs:List SV} {l:List b.ty.den} {N:IntKind} {k:Int} {y:b.ty.den}
  (Y:ev ρs x=.agg cs) (hi:ev ρs i=.one (.sc (.int N) k)) (Q:q9a b.ty n cs=some l) (B:A7 l k=some y) (hs:Heap):A6 P L w0 o ρs hs hs (.agg (F6 b.ty y)):=by
 refine D1 (fun c S=>by grind) fun κ a w q ok=>?_
 have m:=q x
 rw[Y]at m
 obtain⟨C,V,F⟩:=m
 have u:=q i
 rw[hi]at u
 obtain⟨hd,ie,de,v,O,-⟩:=J.arrT n e t
 obtain⟨⟨i2,z2,r,d,-⟩,d2,I,g,-⟩:=K.base
 rw[v]at r;cases r
 obtain⟨g1,Z⟩:=j8e Q
 unfold A7 at B
 obtain⟨f,B⟩:=(show decide (0<=k)=true/\l[k.toNat]? = some y by
  grind)
 have f:=of_decide_eq_true f
 have X:=(List.getElem?_eq_some_iff.1 B).1
 have D:k<(n:Int):=by omega
 obtain⟨t1,p,hp,po⟩:=j1s (h:=hs) _ _ _ _ (Z _ y B)
 have z:=U2 (L:=L) (w0:=w0) ok (Ext.refl L κ hs w) b.ty _ (fun c=>((C.drop (k.toNat*b.ty.size)).take b.ty.size)[c]?) y [] (fun j s hj=>by
  grind[W3]) (fun id R=>by grind) t1
 obtain⟨U,-,r3⟩:=z
 have E:((C.drop (k.toNat*b.ty.size)).take b.ty.size).length=b.ty.size:=by
  rw[List.length_take,List.length_drop]at U ⊢
  rw[F.1];omega
 refine⟨.agg ((C.drop (k.toNat*b.ty.size)).take b.ty.size).toArray,?_,(C.drop (k.toNat*b.ty.size)).take b.ty.size,rfl,by grind[R2],fun j s c hj S=>?_⟩
 ·unfold execOp
  simp[W,V,H7 u,Instr.index,asIntOf,Sem.run_bind,Sem.run_pure,Result.andThen_ok,run_underlying hd]
  rw[if_pos ⟨f,D⟩]
  simp only[part,Sem.run_bind,Result.andThen_ok,S6 v,q20 I,g,A,if_true,d,G,Sem.run_pure]
  grind
 grind[T2]
theorem j67 {κ:A2} {h h':Heap} {w w':World} {ρ:Env} {a:Act} (E:HeapOK L w0 κ h w) (x:Ext L κ h w κ h' w') (o:∀ x,RepAV L κ h w (ev ρ x) (a.eval x)) {t:Ty} (p:0<t.size) :
  ∀ (d:List (Nat×Operand)) (n:Nat) (l:List t.den) (ids:List Nat),Q6 h t (ev ρ) n d=some (l,ids) ->
  (∀ id∈ids,q2a (h id)->∀ b c,κ id=some (b,c)->A3 L κ h' w' b/\w'.heap[b]? = w.heap[b]?) ->
  d.map (fun(i,x)=>(i,a.eval x))=(((d.map fun q=>a.eval q.2).zipIdx n).map fun x=>(x.2,x.1))/\l.length=d.length /\
  (∀ v∈d.map (fun q=>a.eval q.2),v.cells.size=t.size/\∀ c∈v.cells.toList,c.oneCell'=true) /\
  ∀ (i:Nat) (y:t.den),l[i]? = some y->∃ v,(d.map fun q=>a.eval q.2)[i]? = some v/\RepAt w' (A3 L κ h' w') t (fun c=>if c<t.size then v.cells[c]? else none) y
 | [],n,l,ids,f,_=>by
  simp[Q6,Option.some.injEq,Prod.mk.injEq]at f
  simp_all
 | (i,q)::r,n,l,ids,f,k=>by
  simp[Q6]at f
  cases e:Nat.beq i n with
  | false=>grind
  | true =>
   rw[e,cond_true]at f
   have e:=Nat.eq_of_beq_eq_true e
   subst e
   split at f
   ·rename_i F A
    cases z:F.all SV.known with
    | false=>grind
    | true=>?_
    rw[z,cond_true]at f
    split at f
    ·rename_i y M m I B
     simp[Option.some.injEq,Prod.mk.injEq]at f
     obtain⟨rfl,rfl⟩:=f
     obtain⟨D,H,g⟩:=q3h (o q) A z
     obtain⟨U,O,N⟩:=U2 E x t F (fun c=>D[c]?) y [] (fun j s J=>W3 g J) (fun id C=>k id (List.mem_append_left _ C)) I
     have K:D.length=t.size:=by
      rw[g.1]
      have:=congrArg List.length O
      grind
     obtain⟨S,T,V,R⟩:=j67 E x o p r (i+1) M m B (fun id C=>k id (List.mem_append_right _ C))
     refine⟨?_,by grind,fun v W=>?_,fun j u G=>?_⟩
     ·simp_all
     ·grind[q34]
     ·cases j with
      | zero =>
       simp at G;subst G
       refine⟨a.eval q,rfl,RepAt.congr t _ _ y (fun c Q=>?_) N⟩
       grind
      | succ j=>grind
    grind
   grind
theorem j3d {o:Oper} {T e:TypeId} {len:Nat} {parts:Array (Nat×Operand)} {ti te:TInfo} (hti:ti.OK P T) (hel:ti.elem=some e) (hte:te.OK P e) (ho:o.op=.buildSlice T len parts) {ρs:Env} {hs:Heap}
  {l:List te.ty.den} {ids:List Nat} (hl:Q6 hs te.ty (ev ρs) 0 parts.toList=some (l,ids)) (hlen:l.length=len) (hbig:len*te.size<=16777216) (hpos:1<=te.size) (hsz:te.ty.size=te.size)
  {κ:A2} {a:Act} {w:World} (hev:∀ x,RepAV L κ hs w (ev ρs x) (a.eval x)) (ok:HeapOK L w0 κ hs w) :
  ∃ cs:List Value,cs.length=len*te.ty.size/\(execOp a.eval o).run P w=.ok (.value (.slice (some ⟨w.heap.size,0,none⟩) len len)) (w.alloc (.cells cs.toArray e))/\(∀ u∈cs,u.oneCell'=true) /\
   (∀ j y,l[j]? = some y->RepAt w (A3 L κ (A5 (B3 hs ids) hs) w) te.ty (fun c=>if c<te.ty.size then cs[j*te.ty.size+c]? else none) y) /\
   ∀ (j:Nat) (q:Nat×Operand) (c:Nat),parts.toList[j]? = some q->c<te.ty.size->cs[j*te.ty.size+c]? = (a.eval q.2).cells[c]?:=by
 obtain⟨i,z,hi,hisz,hiby,hiz,hzs,-,-,hz1⟩:=hte.zero_one (L:=L)
 have hu:=q1d hti hel
 obtain⟨okI,extI,freeI⟩:=R8 ids ok
 obtain⟨h1,h2,h3,h4⟩:=j67 ok extI hev (by omega) parts.toList 0 l ids hl (fun id hm hh b c hk=>⟨freeI id hm hh b c hk,rfl⟩)
 let vs:=parts.toList.map fun q=>a.eval q.2
 have hvl:vs.length=len:=by simp only[vs,List.length_map];rw[<-h2];exact hlen
 have hfl:∀ k,(vs.flatMap fun v=>v.cells.toList)[k]? = (vs[k / te.ty.size]?).bind (fun v=>v.cells[k % te.ty.size]?):=flat_get (by omega) vs (fun v hv=>(h3 v hv).1)
 have hlf:(vs.flatMap fun v=>v.cells.toList).length=vs.length*te.ty.size:=by
  have:∀ (us:List Value),(∀ v∈us,v.cells.size=te.ty.size)->(us.flatMap fun v=>v.cells.toList).length=us.length*te.ty.size:=by
   intro us
   induction us with
   | nil=>intro _;simp
   | cons u us ih=>intro hh;simp only[List.flatMap_cons,List.length_append,Array.length_toList,hh u List.mem_cons_self,ih (fun v hv=>hh v (List.mem_cons_of_mem _ hv)),List.length_cons,Nat.succ_mul];omega
  exact this vs (fun v hv=>(h3 v hv).1)
 have hrun:(Instr.buildSlice T len (parts.map fun(i,x)=>(i,a.eval x))).run P w=.ok (.slice (some ⟨w.heap.size,0,none⟩) len len) (w.alloc (.cells (vs.flatMap fun v=>v.cells.toList).toArray e)):=by
  have hfill:∀ cells:Array Value,vs.length*i.size=cells.size->Instr.fill (fun j=>some (j*i.size,i.size)) cells (parts.map fun(i,x)=>(i,a.eval x)).toList=some (vs.flatMap fun v=>v.cells.toList).toArray:=by
   intro cells hcs
   have hf':=fill_whole (s:=i.size) (by omega) vs cells (fun v hv=>by rw[(h3 v hv).1,hisz,hsz]) hcs
   rw[Array.toList_map,h1]
   exact hf'
  by_cases h0:len=0
  ·have hv0:vs=[]:=List.eq_nil_of_length_eq_zero (by omega)
   have hp0:parts.toList=[]:=by simpa[vs]using hv0
   rw[hv0]
   simp only[Instr.buildSlice,Sem.run_bind,run_underlying hu,S6 hi,Result.andThen_ok,h0,Nat.zero_mul]
   simp[newRow,hp0,Instr.fill]
   have hr0:∀ f:Nat->Value,Array.map f (Array.range 0)=#[]:=fun f=>by apply Array.toList_inj.1;simp
   rw[hr0]
  ·exact run_buildSlice w T e len _ _ i z hu hi hiz (by rw[hisz];omega) (by rw[hisz];exact Nat.mul_ne_zero h0 (by omega)) (hfill _ (by simp[hvl]))
 have e1:∀ j c,c<te.ty.size->(j*te.ty.size+c) / te.ty.size=j:=fun j c hc=>by
  rw[Nat.add_comm,Nat.add_mul_div_right _ _ (by omega),Nat.div_eq_of_lt hc];omega
 have e2:∀ j c,c<te.ty.size->(j*te.ty.size+c) % te.ty.size=c:=fun j c hc=>by
  rw[Nat.add_comm,Nat.add_mul_mod_self_right,Nat.mod_eq_of_lt hc]
 refine⟨_,by rw[hlf,hvl],?_,fun u hu=>?_,fun j y hy=>?_,fun j q c hq hc=>?_⟩
 ·unfold execOp
  simp only[ho,Sem.run_bind,hrun,Result.andThen_ok,Sem.run_pure]
 ·obtain⟨v,hv,huv⟩:=List.mem_flatMap.1 hu
  exact(h3 v hv).2 u huv
 ·obtain⟨v,hv1,hv2⟩:=h4 j y hy
  refine RepAt.congr te.ty _ _ y (fun c hc=>?_) hv2
  simp only[hc,if_true]
  have hv1':vs[j]? = some v:=hv1
  rw[hfl,e1 j c hc,e2 j c hc,hv1'];rfl
 ·rw[hfl,e1 j c hc,e2 j c hc]
  simp only[vs,List.getElem?_map,hq,Option.map_some,Option.bind_some]
theorem v4b {o:Oper} {T e:TypeId} {len:Nat} {parts:Array (Nat×Operand)} {ti te:TInfo} (hti:ti.OK P T) (hel:ti.elem=some e) (hte:te.OK P e) (ho:o.op=.buildSlice T len parts) {ρs:Env} {hs:Heap} {id':Nat} (hf:hs id'=.fresh)
  {l:List te.ty.den} {ids:List Nat} (hl:Q6 hs te.ty (ev ρs) 0 parts.toList=some (l,ids)) (hlen:l.length=len) (hbig:len*te.size<=16777216) (hpos:1<=te.size) (hsz:te.ty.size=te.size)
  (hni:id'∉ids) :
  A6 P L w0 o ρs hs (A5 (B3 hs ids++[(id',.arr e te.ty l)]) hs) (.one (.own id')):=by
 refine I4 (fun c hc=>by rw[ho]at hc;cases hc) fun κ a w hev ok=>?_
 obtain⟨okI,extI,-⟩:=R8 ids ok
 obtain⟨cs,c1,c2,c3,c4,-⟩:=j3d hti hel hte ho hl hlen hbig hpos hsz hev ok
 have hfI:A5 (B3 hs ids) hs id'=.fresh:=(V5 hni).trans hf
 have hx:=R3 (L:=L) (κ:=κ) (h:=A5 (B3 hs ids) hs) (w:=w) (.cells cs.toArray e) (AObj.arr e te.ty l) (len,0) hfI
 have hap:A5 (B3 hs ids++[(id',.arr e te.ty l)]) hs=upd (A5 (B3 hs ids) hs) id' (.arr e te.ty l):=by rw[I9];rfl
 rw[hap]
 have:len<=len*te.size:=Nat.le_mul_of_pos_right _ (by omega)
 refine⟨_,_,_,c2,V4 okI _ _ (len,0) hfI (j7s (A1 _ _ _) (heap_alloc_new w _) c1 (by simp only[maxLen];omega) (by omega) c3 fun j y hy=>RepAt.ext hx (c4 j y hy)),⟨?_,rfl⟩,extI.trans hx⟩
 rw[A1]
 exact .inr ⟨w.heap.size,(len,0),A1 _ _ _,by rw[hlen]⟩
theorem v5j {o:Oper} {T e:TypeId} {x y:Operand} {I b:TInfo} (D:I.OK P T) (B:I.elem=some e) (p:b.OK P e) (ho:o.op=.makeSlice T x y) {ρs:Env} {hs:Heap} {id':Nat} (H:hs id'=.fresh) {n c:Int}
  (U:ev ρs x=.one (.sc (.int .i64) n)) (m:ev ρs y=.one (.sc (.int .i64) c)) {z:b.ty.den} (R:D2 hs b.ty b.zeros=some (z,[])) (h0:0<=n) (C:n<=c) (d:C2 c.toNat b.bytes=true) (E:c<=9223372036854775807)
  (M:1<=b.size) (hsz:b.ty.size=b.size) (W:F9 b.zeros=[]):A6 P L w0 o ρs hs (upd hs id' (.arr e b.ty (List.replicate n.toNat z))) (.one (.own id')):=by
 refine I4 (fun c E=>by grind) fun κ a w l N=>?_
 obtain⟨i,f,Y,J,F,v,V,O,k,S⟩:=p.zero_one (L:=L)
 have hu:=q1d D B
 have A:=l x
 rw[U]at A
 have u:=l y
 rw[m]at u
 obtain⟨X,Z⟩:=q5y d
 have G:=run_make (P:=P) w T e i f hu Y v .i64 .i64 n c h0 C (by
  grind) E
 have g:=R3 (L:=L) (κ:=κ) (h:=hs) (w:=w) (.cells (madeCells f.cells (c.toNat*i.size)) e) (AObj.arr e b.ty (List.replicate n.toNat z)) (c.toNat,0) H
 obtain⟨-,-,r⟩:=U2 N (Ext.refl _ _ _ _) b.ty b.zeros (fun j=>f.cells[j]?) z [] (fun j s Q=>by
  have:=W3 (k κ hs w) Q;grind) (fun id hm=>by grind) R
 have K:∀ j,j<c.toNat*i.size->(madeCells f.cells (c.toNat*i.size))[j]? = f.cells[j % i.size]?:=by
  grind[Nat.mod_lt,madeCells]
 refine⟨_,.slice (some ⟨w.heap.size,0,none⟩) n.toNat c.toNat,_,?_,V4 N _ _ (c.toNat,0) H (j7s (cs:=(madeCells f.cells (c.toNat*i.size)).toList) (A1 _ _ _) (by simpa using heap_alloc_new w _) ?_ ?_ ?_ ?_ ?_),⟨?_,rfl⟩,g⟩
 ·grind[execOp,H7,Sem.run_bind,Result.andThen_ok,Sem.run_pure]
 ·grind[size_madeCells]
 ·grind[maxLen]
 ·grind
 ·grind[List.getElem?_of_mem,size_madeCells]
 ·intro j y m
  have t:j<n.toNat:=by grind
  rw[List.getElem?_replicate,if_pos t]at m
  cases m
  refine RepAt.congr b.ty _ _ z (fun q hq=>?_) (RepAt.ext g r)
  have h3:(j+1)*b.ty.size<=c.toNat*b.ty.size:=Nat.mul_le_mul_right _ (by omega)
  grind[Nat.add_mul_mod_self_right,Nat.mod_eq_of_lt]
 grind[A1]
theorem q3l {a:Act} {o:Oper} {x:Operand} {T e:TypeId} {f:TInfo} (d:f.OK P T) (b:f.elem=some e) (i:o.op=.call { callee:=.builtin .len,args:=#[x],argTypes:=#[T] }) {g:Option Addr} {n c:Nat} (j:a.eval x=.slice g n c) (w:World) :
  (execOp a.eval o).run P w=.ok (.value (.int .i64 n)) w:=by
 have h:=q1d d b
 unfold execOp
 simp[i,resolve,invoke,builtin,j,Builtin.len_,run_underlying h,goInt]
theorem q64 {o:Oper} {x:Operand} {T e:TypeId} {z:TInfo} (u:z.OK P T) (v:z.elem=some e) (H:o.op=.call { callee:=.builtin .len,args:=#[x],argTypes:=#[T] }) {ρs:Env} {hs:Heap} {s:SV} (C:ev ρs x=.one s) {n:Nat}
  (D:(s=.nils/\n=0)\/(∃ id,s=.own id/\∃ e t l,(hs id=.arr e t l\/hs id=.ice e t l)/\n=l.length)\/(∃ id g,s=.sub id g n/\∃ e t l,(hs id=.arr e t l\/hs id=.ice e t l))\/∃ t l,s=.sc (.list t) l/\n=l.length) :
  A6 P L w0 o ρs hs hs (F0 .i64 n):=by
 refine D1 (fun c N=>by grind) fun k a w q F=>⟨.int .i64 n,?_,H6 _ _⟩
 have f:=q x
 rw[C]at f
 rcases D with⟨rfl,rfl⟩ | ⟨id,rfl,A,t,l,h,rfl⟩ | ⟨id,g,rfl,A,t,l,h⟩ | ⟨t,l,rfl,rfl⟩
 ·exact q3l u v H f w
 ·have j:(k id=none/\l=[]/\a.eval x=.slice none 0 0)\/∃ b d,k id=some (b,d)/\a.eval x=.slice (some ⟨b,d.2,none⟩) l.length d.1:=by
   have m:=f.1
   grind
  grind[q3l]
 ·have j:g+n<=l.length/\((k id=none/\a.eval x=.slice none 0 0)\/∃ b d r,k id=some (b,d)/\a.eval x=.slice (some ⟨b,r,none⟩) n (d.1-g)/\(n≠0->r=d.2+g*t.size)):=by
   have m:=f.1
   grind
  have p:RepArr L k hs w id A t l:=by
   have:=F.obj id
   rcases h with h | h<;>rw[h]at this
   ·exact this
   ·exact this.1
  obtain⟨G,j⟩:=j
  rcases j with⟨Q,j⟩ | ⟨b,d,r,_,j,_⟩
  ·rcases p with⟨_,K⟩ | ⟨M,y,J,E,_⟩
   all_goals grind[q3l]
  grind[q3l]
 ·obtain⟨_,_,O,len,d,I,B,_⟩:=f
  grind[F7,q3l]
theorem v5s {o:Oper} {x y:Operand} {i:Array TypeId} (h:o.op=.call { callee:=.builtin .min,args:=#[x,y],argTypes:=i }) {ρs:Env} {k:IntKind} {p q:Int} (f:ev ρs x=.one (.sc (.int k) p)) (g:ev ρs y=.one (.sc (.int k) q)) (hs:Heap) :
  A6 P L w0 o ρs hs hs (F0 k (if q<p then q else p)):=by
 refine D1 (fun c m=>by grind) fun j a w e l=>⟨_,?_,H6 _ _⟩
 have d:=e x
 rw[f]at d
 have b:=e y
 rw[g]at b
 unfold execOp
 simp[h,resolve,invoke,builtin,H7 d,H7 b,Builtin.min_,Builtin.min2]
theorem v5r {o:Oper} {x y:Operand} {i:Array TypeId} (h:o.op=.call { callee:=.builtin .max,args:=#[x,y],argTypes:=i }) {ρs:Env} {k:IntKind} {p q:Int} (f:ev ρs x=.one (.sc (.int k) p)) (g:ev ρs y=.one (.sc (.int k) q)) (hs:Heap) :
  A6 P L w0 o ρs hs hs (F0 k (if q>p then q else p)):=by
 refine D1 (fun c m=>by grind) fun j a w e l=>⟨_,?_,H6 _ _⟩
 have d:=e x
 rw[f]at d
 have b:=e y
 rw[g]at b
 unfold execOp
 simp[h,resolve,invoke,builtin,H7 d,H7 b,Builtin.max_,Builtin.max2]
theorem j5e {a:Type} {l:List a} {k:Int} {y:a} (h:A7 l k=some y):0<=k/\l[k.toNat]? = some y:=by
 grind[A7]
theorem v76 {b:ByteArray} {n:Nat} {y:Int} (h:(z4x b)[n]? = some y):∃ u:UInt8,b[n]? = some u/\y=(u.toNat:Int):=by
 unfold z4x at h
 rw[List.getElem?_map,Option.map_eq_some_iff]at h
 obtain⟨u,d,rfl⟩:=h
 refine⟨u,?_,rfl⟩
 obtain⟨c,e⟩:=List.getElem?_eq_some_iff.1 d
 have a:n<b.size:=by simpa using c
 show(if h:n<b.size then some b[n]else none)=some u
 rw[dif_pos a]
 congr 1
theorem v6d {o:Oper} {T:TypeId} {x i:Operand} {m:TInfo} {b:ByteArray} (h:m.OK P T) (l:m.strg=true) (p:o.op=.index T x i) {ρs:Env} {n:IntKind} {k y:Int}
  (q:ev ρs x=.one (.cstr b)) (hi:ev ρs i=.one (.sc (.int n) k)) (j:A7 (z4x b) k=some y) (hs:Heap):A6 P L w0 o ρs hs hs (F0 .u8 y):=by
 refine D1 (fun c t=>by grind) fun z a w f v=>?_
 have d:=f x
 rw[q]at d
 have d:a.eval x=.string b:=d
 have e:=f i
 rw[hi]at e
 obtain⟨A,j⟩:=j5e j
 obtain⟨u,s,rfl⟩:=v76 j
 have r:=h.strT l
 refine⟨.int .u8 u.toNat,?_,H6 _ _⟩
 unfold execOp
 simp[p,d,H7 e,Instr.index,asIntOf,Sem.run_bind,Sem.run_pure,Result.andThen_ok,run_underlying r]
 simp_all
theorem v4u {o:Oper} {T e:TypeId} {x i:Operand} {n:Nat} {H F:TInfo} (B:H.OK P T) (s:H.arr=some (n,e)) (E:F.OK P e) (A:F.size=1) (_h2:2<=n) (W:o.op=.indexAddr T x i) {ρs:Env} {g:Nat} {l:List Int} {z J:IntKind} {k y:Int}
  (O:ev ρs x=.one (.gl g)) (hi:ev ρs i=.one (.sc (.int J) k)) (I:l.length=n) (t:A7 l k=some y) (C:∀ (i:Nat) (y:Int),l[i]? = some y->w0.cell? ⟨g,i,none⟩=some (.int z y)) (hs:Heap):A6 P L w0 o ρs hs hs (.one (.gp z y)):=by
 refine D1 (fun c G=>by grind) fun κ a w q D=>?_
 have b:=q x
 rw[O]at b
 have b:a.eval x=.pointer (some ⟨g,0,none⟩):=b
 have j:=q i
 rw[hi]at j
 obtain⟨U,t⟩:=j5e t
 obtain⟨N,X,de,r,S,-⟩:=B.arrT n e s
 obtain⟨⟨Y,z2,p,h,-⟩,Z,K,v,-⟩:=E.base
 rw[r]at p;cases p
 have V:=(List.getElem?_eq_some_iff.1 t).1
 have u:k<(n:Int):=by omega
 have M:=C _ y t
 have d:g<w0.heap.size:=by
  grind[World.cell?]
 have G:w.cell? ⟨g,k.toNat,none⟩=some (.int z y):=by
  rw[q4i (w:=w0) (w':=w) (a:=⟨g,k.toNat,none⟩) (D.below.block g d)];omega
 refine⟨.pointer (some ⟨g,k.toNat,none⟩),?_,g,k.toNat,rfl,⟨Nat.lt_of_lt_of_le d D.below.size,fun id c R Q=>by have:=(D.own id g c R Q).1;omega⟩,G⟩
 have m:0<=k/\k<(n:Int):=⟨U,u⟩
 unfold execOp
 simp[W,b,H7 j,Instr.indexAt,Instr.sureAddr,asIntOf,run_underlying N,m,S6 r,h,A,Q0]
theorem v4d {o:Oper} {T e:TypeId} {x i:Operand} {n:Nat} {y z:TInfo} (s:y.OK P T) (q:y.arr=some (n,e)) (v:z.OK P e) (r:z.size=1) (G:o.op=.indexAddr T x i) {ρs:Env} {id d:Nat} {A:IntKind} {k:Int}
  (B:ev ρs x=.one (.ptr id d)) (hi:ev ρs i=.one (.sc (.int A) k)) (u:inB k n=true) (hs:Heap):A6 P L w0 o ρs hs hs (.one (.ptr id (d+k.toNat))):=by
 refine D1 (fun c M=>by grind) fun S a w h O=>?_
 have m:=h x
 rw[B]at m
 obtain⟨F,b,c,E,I⟩:=m
 have p:=h i
 rw[hi]at p
 obtain⟨D,J,R,j,H,-⟩:=s.arrT n e q
 obtain⟨⟨Q,N,l,g,-⟩,K,C,t,-⟩:=v.base
 rw[j]at l;cases l
 unfold inB at u
 rw[Bool.and_eq_true,decide_eq_true_eq,decide_eq_true_eq]at u
 refine⟨.pointer (some ⟨b,d+k.toNat,none⟩),?_,F,b,c,E,rfl⟩
 unfold execOp
 simp[G,I,H7 p,Instr.indexAt,Instr.sureAddr,asIntOf,run_underlying D,u,S6 j,g,r,Q0]
end Go.Abs
