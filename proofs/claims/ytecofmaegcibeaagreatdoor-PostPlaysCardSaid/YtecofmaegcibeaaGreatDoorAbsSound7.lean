/- The engine, part 10: struct and slice literals, make, lengths. -/
import Derived.Test.YtecofmaegcibeaaGreatDoorAbsSound6
import Derived.Great.BuildSlice
namespace Go.Abs
open Go Go.RowKit Go.Great
variable {P:Program} {L:Nat->Prop} {w0:World}
theorem v4l {a:Array Value} {b:Nat} {d:List Value} (h:b+d.length<=a.size) :
  (d.toArray.zipIdx.foldl (λe (c,j)=>e.setIfInBounds (b+j) c) a)=(splice a.toList b d).toArray:=by
 obtain⟨f,g⟩:=foldl_set b d 0 a;apply dJ;grind[q5h]
theorem j1z {κ:A6} {h:Heap} {w:World} {ρ:Env} {a:Act} (m:∀x,RepAV L κ h w (ev ρ x) (a.eval x)) {f:List FI} {place:Nat->Option (Nat×Nat)} (y:∀(i:Nat) (d:FI),f[i]? = some d->place i=some (d.off,d.size)):∀(b:List (Nat×Operand)) (cs:List SV) (j:List Value) (c:List SV),RepCells L κ h w cs j ->
  q0e f (ev ρ) b cs=some c->∃e:List Value,Instr.fill place j.toArray (b.map fun(i,x)=>(i,a.eval x))=some e.toArray/\RepCells L κ h w c e
 | [],cs,j,c,n,l=>by
  simp[q0e,aN]at l;subst l;exact⟨j,rfl,n⟩
 | (i,x)::r,cs,j,c,n,l=>by
  simp[q0e]at l;split at l
  ·rename_i d o q u;cases t:(Nat.beq o.length d.size&&o.all SV.known&&Nat.ble (d.off+o.length) cs.length)with
   | false=>grind
   | true =>
    rw[t,cond_true]at l;simp only[ac]at t;obtain⟨⟨p,B⟩,s⟩:=t;have p:=ab p;have s:=ao s;obtain⟨A,v,g⟩:=q60 (m x) u B;have z:d.off+A.length<=j.length:=by rw[g.1,n.1];omega
    obtain⟨e,D,C⟩:=j1z m y r (splice cs d.off o) (splice j d.off A) c (j58 n g s) l;refine⟨e,?_,C⟩;simp only[bB,Instr.fill,y i d q,v,dm];rw[if_neg (by simp[g.1,p];rw[n.1,<-p];omega),v4l (by omega)];omega
  grind
theorem v9o {m:TInfo} {g:Array Field} (q:g.size=m.flds.length) (n:∀(f:Nat) (a:FI),m.flds[f]? = some a->∃c d o,g[f]? = some c/\c.offset=a.off/\P.info? c.type=some d/\d.size=a.size/\P.underlying c.type=some o/\X5 o=a.agg) :
  ∃b:List (Nat×Nat),g.toList.mapM (λf=>(P.info? f.type).map λi=>(f.offset,i.size))=some b/\∀(i:Nat) (a:FI),m.flds[i]? = some a->b.toArray[i]? = some (a.off,a.size):=by
 have e:∀(l:List Field) (k:List FI),l.length=k.length->(∀(j:Nat) (a:FI),k[j]? = some a->∃c d,l[j]? = some c/\c.offset=a.off/\P.info? c.type=some d/\d.size=a.size) ->
   l.mapM (λf=>(P.info? f.type).map λi=>(f.offset,i.size))=some (k.map λa=>(a.off,a.size)):=by
  intro l
  induction l with
  | nil=>grind
  | cons f l p =>
   intro k s h;cases k with
   | nil=>grind
   | cons a k =>
    obtain⟨c,d,y,v,t,w⟩:=h 0 a rfl;have x:=p k (by grind) (λj a r=>h (j+1) a (by grind));grind
 refine⟨_,e g.toList m.flds (by omega) (λj a r=>?_),λi a u=>?_⟩
 all_goals grind
variable {o:Oper} {T:TypeId} {ρs:Env}
theorem k1s {b:Array (Nat×Operand)} {k:TInfo} (l:k.OK P T) (j:k.str=true) (I:o.op=.build T b) {cs:List SV} (E:q0e k.flds (ev ρs) b.toList k.zeros=some cs) (hs:Heap):A9 P L w0 o ρs hs hs (.agg cs):=by
 refine E7 (λc J=>by grind) λu a w q O=>?_;obtain⟨i,z,N,s,r,A,C,v,g,t⟩:=l.zero_one (L:=L);obtain⟨-,d,K,B,-,-,m⟩:=l.base;obtain⟨H,y,p,h⟩:=m j;obtain⟨e,D,f⟩:=v9o p h;obtain⟨n,M,F⟩:=j1z q (place:=(e.toArray[·]?)) f b.toList k.zeros z.cells.toList cs (g u hs w) E;refine⟨.agg n.toArray,?_,n,rfl,F⟩;have G:P.built T (b.map fun(i,x)=>(i,a.eval x)).toList=some n.toArray:=by
  unfold Program.built;simp_all
 grind[execOp,Sem.run_bind,run_build,Result.andThen_ok,Sem.run_pure]
variable {n:Nat} {e:TypeId}
theorem k1t {b:Array (Nat×Operand)} {g:TInfo} (h:g.OK P T) (f:g.arr=some (n,e)) (E:o.op=.build T b) {cs:List SV} (A:q0e g.flds (ev ρs) b.toList g.zeros=some cs) (hs:Heap):A9 P L w0 o ρs hs hs (.agg cs):=by
 refine E7 (λc K=>by grind) λs a w l N=>?_;obtain⟨i,z,G,p,r,y,t,B,d,m⟩:=h.zero_one (L:=L);obtain⟨D,q,M,u,-,v⟩:=h.arrT n e f;obtain⟨k,F,C⟩:=j1z l (place:=λi=>some (i*q.size,q.size)) (λj I J=>by grind) b.toList g.zeros z.cells.toList cs (d s hs w) A;refine⟨.agg k.toArray,?_,k,rfl,C⟩;have H:P.built T (b.map fun(i,x)=>(i,a.eval x)).toList=some k.toArray:=by
  unfold Program.built;simp_all
 grind[execOp,Sem.run_bind,run_build,Result.andThen_ok,Sem.run_pure]
theorem y57 {t:Ty}:∀{cs:List SV} {l:List t.den},z1l t cs=some l->cs.length=l.length/\∀(j:Nat) (y:t.den),l[j]? = some y->cs[j]? = some (.sc t y)
 | [],l,h=>by cases h;grind
 | s::r,l,h=>by
  cases s with
  | sc k x =>
   simp[z1l]at h;split at h
   ·rename_i y i g a;cases h;obtain⟨e,f⟩:=H9 g;cases e;subst f;obtain⟨d,c⟩:=y57 a;refine⟨by simp[d],λj y b=>?_⟩;cases j with
    | zero=>simp at b;subst b;rfl
    | succ j=>exact c j y (by simpa using b)
   ·cases h
  | _=>simp[z1l]at h
theorem y1j {κ:A6} {h h':Heap} {w w':World} {ρ:Env} {a:Act} (E:HeapOK L w0 κ h w) (x:Ext L κ h w κ h' w') (o:∀x,RepAV L κ h w (ev ρ x) (a.eval x)) {t:Ty} (p:0<t.size) :
  ∀(d:List (Nat×Operand)) (n:Nat) (l:List t.den) (ids:List Nat),q1f h t (ev ρ) n d=some (l,ids) ->
  (∀id∈ids,q4f (h id)->∀b c,κ id=some (b,c)->A4 L κ h' w' b/\w'.heap[b]? = w.heap[b]?) ->
  d.map (fun(i,x)=>(i,a.eval x))=(((d.map λq=>a.eval q.2).zipIdx n).map λx=>(x.2,x.1))/\l.length=d.length /\
  (∀v∈d.map (λq=>a.eval q.2),v.cells.size=t.size/\∀c∈v.cells.toList,c.oneCell'=true) /\
  ∀(i:Nat) (y:t.den),l[i]? = some y->∃v,(d.map λq=>a.eval q.2)[i]? = some v/\RepAt w' (A4 L κ h' w') t (λc=>if c<t.size then v.cells[c]? else none) y
 | [],n,l,ids,f,_=>by
  simp[q1f,aN,bZ]at f;simp_all
 | (i,q)::r,n,l,ids,f,k=>by
  simp[q1f]at f;cases e:Nat.beq i n with
  | false=>grind
  | true =>
   rw[e,cond_true]at f;have e:=ab e;subst e;split at f
   ·rename_i F A;cases z:F.all SV.known with
    | false=>grind
    | true=>?_
    rw[z,cond_true]at f;split at f
    ·rename_i y M m I B;simp[aN,bZ]at f;obtain⟨rfl,rfl⟩:=f;obtain⟨D,H,g⟩:=q60 (o q) A z;obtain⟨U,O,N⟩:=q1x E x t F (λc=>D[c]?) y [] (λj s J=>q1o g J) (λid C=>k id (aB _ C)) I;have K:D.length=t.size:=by
      rw[g.1];have:=congrArg List.length O;grind
     obtain⟨S,T,V,R⟩:=y1j E x o p r (i+1) M m B (λid C=>k id (aC _ C));refine⟨?_,by grind,λv W=>?_,λj u G=>?_⟩
     ·simp_all
     ·grind[q42]
     ·cases j with
      | zero =>
       simp at G;subst G;refine⟨a.eval q,rfl,RepAt.congr t _ _ y (λc Q=>?_) N⟩;grind
      | succ j=>grind
    grind
   grind
variable {a:Act} {κ:A6} {w:World} {ti:TInfo} {hs:Heap}
theorem v2e {len:Nat} {parts:Array (Nat×Operand)} {te:TInfo} (hti:ti.OK P T) (hel:ti.elem=some e) (hte:te.OK P e) (ho:o.op=.buildSlice T len parts) {l:List te.ty.den} {ids:List Nat} (hl:q1f hs te.ty (ev ρs) 0 parts.toList=some (l,ids)) (hlen:l.length=len) (hbig:len*te.size<=16777216) (hpos:1<=te.size) (hsz:te.ty.size=te.size) (hev:∀x,RepAV L κ hs w (ev ρs x) (a.eval x)) (ok:HeapOK L w0 κ hs w) :
  ∃cs:List Value,cs.length=len*te.ty.size/\(execOp a.eval o).run P w=.ok (.value (.slice (some ⟨w.heap.size,0,none⟩) len len)) (w.alloc (.cells cs.toArray e))/\(∀u∈cs,u.oneCell'=true) /\
   (∀j y,l[j]? = some y->RepAt w (A4 L κ (A3 (B4 hs ids) hs) w) te.ty (λc=>if c<te.ty.size then cs[j*te.ty.size+c]? else none) y) /\
   ∀(j:Nat) (q:Nat×Operand) (c:Nat),parts.toList[j]? = some q->c<te.ty.size->cs[j*te.ty.size+c]? = (a.eval q.2).cells[c]?:=by
 obtain⟨i,z,hi,hisz,hiby,hiz,hzs,-,-,hz1⟩:=hte.zero_one (L:=L);have hu:=q38 hti hel;obtain⟨okI,extI,freeI⟩:=V2 ids ok;obtain⟨h1,h2,h3,h4⟩:=y1j ok extI hev (by omega) parts.toList 0 l ids hl (λid hm hh b c hk=>⟨freeI id hm hh b c hk,rfl⟩)
 let vs:=parts.toList.map λq=>a.eval q.2
 have hvl:vs.length=len:=by simp only[vs,bi];rw[<-h2];exact hlen
 have hfl:∀k,(vs.flatMap λv=>v.cells.toList)[k]? = (vs[k / te.ty.size]?).bind (λv=>v.cells[k % te.ty.size]?):=flat_get (by omega) vs (λv hv=>(h3 v hv).1);have hlf:(vs.flatMap λv=>v.cells.toList).length=vs.length*te.ty.size:=by
  have:∀(us:List Value),(∀v∈us,v.cells.size=te.ty.size)->(us.flatMap λv=>v.cells.toList).length=us.length*te.ty.size:=by
   intro us
   induction us with
   | nil=>intro _;simp
   | cons u us ih=>intro hh;simp only[dR,aK,bj,hh u ar,ih (λv hv=>hh v (aj _ hv)),ai,cP];omega
  exact this vs (λv hv=>(h3 v hv).1)
 have hrun:(Instr.buildSlice T len (parts.map fun(i,x)=>(i,a.eval x))).run P w=.ok (.slice (some ⟨w.heap.size,0,none⟩) len len) (w.alloc (.cells (vs.flatMap λv=>v.cells.toList).toArray e)):=by
  have hfill:∀cells:Array Value,vs.length*i.size=cells.size->Instr.fill (λj=>some (j*i.size,i.size)) cells (parts.map fun(i,x)=>(i,a.eval x)).toList=some (vs.flatMap λv=>v.cells.toList).toArray:=by
   intro cells hcs;have hf':=fill_whole (s:=i.size) (by omega) vs cells (λv hv=>by rw[(h3 v hv).1,hisz,hsz]) hcs;rw[eK,h1];exact hf'
  by_cases h0:len=0
  ·have hv0:vs=[]:=aO (by omega);have hp0:parts.toList=[]:=by simpa[vs]using hv0
   rw[hv0];simp only[Instr.buildSlice,Sem.run_bind,run_underlying hu,q1t hi,Result.andThen_ok,h0,fD];simp[newRow,hp0,Instr.fill];have hr0:∀f:Nat->Value,Array.map f (Array.range 0)=#[]:=λf=>by apply aX.1;simp
   rw[hr0]
  ·exact run_buildSlice w T e len _ _ i z hu hi hiz (by rw[hisz];omega) (by rw[hisz];exact Nat.mul_ne_zero h0 (by omega)) (hfill _ (by simp[hvl]))
 have e1:∀j c,c<te.ty.size->(j*te.ty.size+c) / te.ty.size=j:=λj c hc=>by
  rw[dz,Nat.add_mul_div_right _ _ (by omega),cm hc];omega
 have e2:∀j c,c<te.ty.size->(j*te.ty.size+c) % te.ty.size=c:=λj c hc=>by
  rw[dz,Nat.add_mul_mod_self_right,bN hc]
 refine⟨_,by rw[hlf,hvl],?_,λu hu=>?_,λj y hy=>?_,λj q c hq hc=>?_⟩
 ·unfold execOp;simp only[ho,Sem.run_bind,hrun,Result.andThen_ok,Sem.run_pure]
 ·obtain⟨v,hv,huv⟩:=bb.1 hu;exact(h3 v hv).2 u huv
 ·obtain⟨v,hv1,hv2⟩:=h4 j y hy;refine RepAt.congr te.ty _ _ y (λc hc=>?_) hv2;simp only[hc,if_true];have hv1':vs[j]? = some v:=hv1;rw[hfl,e1 j c hc,e2 j c hc,hv1'];rfl
 ·rw[hfl,e1 j c hc,e2 j c hc];simp only[vs,bK,hq,bu,aa]
theorem k1u {len:Nat} {parts:Array (Nat×Operand)} {te:TInfo} (hti:ti.OK P T) (hel:ti.elem=some e) (hte:te.OK P e) (ho:o.op=.buildSlice T len parts) {id':Nat} (hf:hs id'=.fresh) {l:List te.ty.den} {ids:List Nat} (hl:q1f hs te.ty (ev ρs) 0 parts.toList=some (l,ids)) (hlen:l.length=len) (hbig:len*te.size<=16777216) (hpos:1<=te.size) (hsz:te.ty.size=te.size) (hni:id'∉ids) :
  A9 P L w0 o ρs hs (A3 (B4 hs ids++[(id',.arr e te.ty l)]) hs) (.one (.own id')):=by
 refine M7 (λc hc=>by rw[ho]at hc;cases hc) λκ a w hev ok=>?_;obtain⟨okI,extI,-⟩:=V2 ids ok;obtain⟨cs,c1,c2,c3,c4,-⟩:=v2e hti hel hte ho hl hlen hbig hpos hsz hev ok;have hfI:A3 (B4 hs ids) hs id'=.fresh:=(q0g hni).trans hf;have hx:=X0 (L:=L) (κ:=κ) (h:=A3 (B4 hs ids) hs) (w:=w) (.cells cs.toArray e) (AObj.arr e te.ty l) (len,0) hfI;have hap:A3 (B4 hs ids++[(id',.arr e te.ty l)]) hs=upd (A3 (B4 hs ids) hs) id' (.arr e te.ty l):=by rw[M4];rfl
 rw[hap];have:len<=len*te.size:=Nat.le_mul_of_pos_right _ (by omega);refine⟨_,_,_,c2,q1c okI _ _ (len,0) hfI (y4e (A2 _ _ _) (heap_alloc_new w _) c1 (by simp only[maxLen];omega) (by omega) c3 λj y hy=>RepAt.ext hx (c4 j y hy)),⟨?_,rfl⟩,extI.trans hx⟩;rw[A2];exact .inr ⟨w.heap.size,(len,0),A2 _ _ _,by rw[hlen]⟩
variable {x:Operand} {y:Operand}
theorem k2j {I b:TInfo} (D:I.OK P T) (B:I.elem=some e) (p:b.OK P e) (ho:o.op=.makeSlice T x y) {id':Nat} (H:hs id'=.fresh) {n c:Int} (U:ev ρs x=.one (.sc (.int .i64) n)) (m:ev ρs y=.one (.sc (.int .i64) c)) {z:b.ty.den} (R:F0 hs b.ty b.zeros=some (z,[])) (h0:0<=n) (C:n<=c) (d:A8 c.toNat b.bytes=true) (E:c<=9223372036854775807) (M:1<=b.size) (hsz:b.ty.size=b.size) (W:G4 b.zeros=[]):A9 P L w0 o ρs hs (upd hs id' (.arr e b.ty (List.replicate n.toNat z))) (.one (.own id')):=by
 refine M7 (λc E=>by grind) λκ a w l N=>?_;obtain⟨i,f,Y,J,F,v,V,O,k,S⟩:=p.zero_one (L:=L);have hu:=q38 D B;have A:=l x;rw[U]at A;have u:=l y;rw[m]at u;obtain⟨X,Z⟩:=q7d d;have G:=run_make (P:=P) w T e i f hu Y v .i64 .i64 n c h0 C (by
  grind) E
 have g:=X0 (L:=L) (κ:=κ) (h:=hs) (w:=w) (.cells (madeCells f.cells (c.toNat*i.size)) e) (AObj.arr e b.ty (List.replicate n.toNat z)) (c.toNat,0) H;obtain⟨-,-,r⟩:=q1x N (Ext.refl _ _ _ _) b.ty b.zeros (λj=>f.cells[j]?) z [] (λj s Q=>by
  have:=q1o (k κ hs w) Q;grind) (λid hm=>by grind) R
 have K:∀j,j<c.toNat*i.size->(madeCells f.cells (c.toNat*i.size))[j]? = f.cells[j % i.size]?:=by
  grind[Nat.mod_lt,madeCells]
 refine⟨_,.slice (some ⟨w.heap.size,0,none⟩) n.toNat c.toNat,_,?_,q1c N _ _ (c.toNat,0) H (y4e (cs:=(madeCells f.cells (c.toNat*i.size)).toList) (A2 _ _ _) (by simpa using heap_alloc_new w _) ?_ ?_ ?_ ?_ ?_),⟨?_,rfl⟩,g⟩
 ·grind[execOp,K1,Sem.run_bind,Result.andThen_ok,Sem.run_pure]
 ·grind[size_madeCells]
 ·grind[maxLen]
 ·grind
 ·grind[List.getElem?_of_mem,size_madeCells]
 ·intro j y m;have t:j<n.toNat:=by grind
  rw[dO,if_pos t]at m;cases m;refine RepAt.congr b.ty _ _ z (λq hq=>?_) (RepAt.ext g r);have h3:(j+1)*b.ty.size<=c.toNat*b.ty.size:=aJ _ (by omega);grind[Nat.add_mul_mod_self_right,Nat.mod_eq_of_lt]
 grind[A2]
theorem q3b {f:TInfo} (d:f.OK P T) (b:f.elem=some e) (i:o.op=.call { callee:=.builtin .len,args:=#[x],argTypes:=#[T] }) {g:Option Addr} {c:Nat} (j:a.eval x=.slice g n c) (w:World) :
  (execOp a.eval o).run P w=.ok (.value (.int .i64 n)) w:=by
 have h:=q38 d b;unfold execOp;simp[i,resolve,invoke,builtin,j,Builtin.len_,run_underlying h,goInt]
theorem q7g {e:TypeId} (hti:ti.OK P T) (hel:ti.elem=some e) (ho:o.op=.call { callee:=.builtin .len,args:=#[x],argTypes:=#[T] }) {s:SV} (hx:ev ρs x=.one s) (hn:(s=.nils/\n=0)\/(∃id,s=.own id/\∃e t l,(hs id=.arr e t l\/hs id=.ice e t l)/\n=l.length)\/(∃id off,s=.sub id off n/\∃e t l,(hs id=.arr e t l\/hs id=.ice e t l))\/∃t l,s=.sc (.list t) l/\n=l.length) :
  A9 P L w0 o ρs hs hs (G7 .i64 n):=by
 refine E7 (λc hc=>by rw[ho]at hc;cases hc) λκ a w hev ok=>⟨.int .i64 n,?_,M2 _ _⟩;have hxv:=hev x;rw[hx]at hxv;rcases hn with⟨rfl,rfl⟩ | ⟨id,rfl,e',t,l,hid,rfl⟩ | ⟨id,off,rfl,e',t,l,hid⟩ | ⟨t,l,rfl,rfl⟩
 ·exact q3b hti hel ho hxv w
 ·have hv:(κ id=none/\l=[]/\a.eval x=.slice none 0 0)\/∃b cap,κ id=some (b,cap)/\a.eval x=.slice (some ⟨b,cap.2,none⟩) l.length cap.1:=by
   have hxv':=hxv.1;rcases hid with hid | hid<;>rw[hid]at hxv'<;>exact hxv'
  rcases hv with⟨_,hl,hv⟩ | ⟨b,cap,_,hv⟩
  ·subst hl;exact q3b hti hel ho hv w
  ·exact q3b hti hel ho hv w
 ·have hv:off+n<=l.length/\((κ id=none/\a.eval x=.slice none 0 0)\/∃b cap o',κ id=some (b,cap)/\a.eval x=.slice (some ⟨b,o',none⟩) n (cap.1-off)/\(o'=cap.2+off*t.size\/cap.1<=off/\o'<=cap.2+cap.1*t.size)):=by
   have hxv':=hxv.1;rcases hid with hid | hid<;>rw[hid]at hxv'<;>exact hxv'
  have hrep:RepArr L κ hs w id e' t l:=by
   have:=ok.obj id;rcases hid with hid | hid<;>rw[hid]at this
   ·exact this
   ·exact this.1
  obtain⟨hle,hv⟩:=hv;rcases hv with⟨hk,hv⟩ | ⟨b,cap,o',_,hv,_⟩
  ·rcases hrep with⟨_,hl⟩ | ⟨b',cap',cur,hk',_⟩
   ·subst hl;have:n=0:=by simp at hle;omega
    subst this;exact q3b hti hel ho hv w
   ·rw[hk]at hk';cases hk'
  ·exact q3b hti hel ho hv w
 ·obtain⟨_,_,sa,len,cap,hg0,hlen,_⟩:=hxv;simp[E6]at hg0;subst hlen;exact q3b hti hel ho hg0 w
theorem k2q {i:Array TypeId} (h:o.op=.call { callee:=.builtin .min,args:=#[x,y],argTypes:=i }) {k:IntKind} {p q:Int} (f:ev ρs x=.one (.sc (.int k) p)) (g:ev ρs y=.one (.sc (.int k) q)) (hs:Heap) :
  A9 P L w0 o ρs hs hs (G7 k (if q<p then q else p)):=by
 refine E7 (λc m=>by grind) λj a w e l=>⟨_,?_,M2 _ _⟩;have d:=e x;rw[f]at d;have b:=e y;rw[g]at b;unfold execOp;simp[h,resolve,invoke,builtin,K1 d,K1 b,Builtin.min_,Builtin.min2]
theorem k2p {i:Array TypeId} (h:o.op=.call { callee:=.builtin .max,args:=#[x,y],argTypes:=i }) {k:IntKind} {p q:Int} (f:ev ρs x=.one (.sc (.int k) p)) (g:ev ρs y=.one (.sc (.int k) q)) (hs:Heap) :
  A9 P L w0 o ρs hs hs (G7 k (if q>p then q else p)):=by
 refine E7 (λc m=>by grind) λj a w e l=>⟨_,?_,M2 _ _⟩;have d:=e x;rw[f]at d;have b:=e y;rw[g]at b;unfold execOp;simp[h,resolve,invoke,builtin,K1 d,K1 b,Builtin.max_,Builtin.max2]
theorem v5a {a:Type} {l:List a} {k:Int} {y:a} (h:A5 l k=some y):0<=k/\l[k.toNat]? = some y:=by
 grind[A5]
theorem k29 {i:Operand} {H F:TInfo} (B:H.OK P T) (s:H.arr=some (n,e)) (E:F.OK P e) (A:F.size=1) (_h2:2<=n) (W:o.op=.indexAddr T x i) {g:Nat} {l:List Int} {z J:IntKind} {k y:Int} (O:ev ρs x=.one (.gl g)) (hi:ev ρs i=.one (.sc (.int J) k)) (I:l.length=n) (t:A5 l k=some y) (C:∀(i:Nat) (y:Int),l[i]? = some y->w0.cell? ⟨g,i,none⟩=some (.int z y)) (hs:Heap):A9 P L w0 o ρs hs hs (.one (.gp z y)):=by
 refine E7 (λc G=>by grind) λκ a w q D=>?_;have b:=q x;rw[O]at b;have b:a.eval x=.pointer (some ⟨g,0,none⟩):=b;have j:=q i;rw[hi]at j;obtain⟨U,t⟩:=v5a t;obtain⟨N,X,de,r,S,-⟩:=B.arrT n e s;obtain⟨⟨Y,z2,p,h,-⟩,Z,K,v,-⟩:=E.base;rw[r]at p;cases p;have V:=(ag.1 t).1;have u:k<(n:Int):=by omega
 have M:=C _ y t;have d:g<w0.heap.size:=by
  grind[World.cell?]
 have G:w.cell? ⟨g,k.toNat,none⟩=some (.int z y):=by
  rw[q5z (w:=w0) (w':=w) (a:=⟨g,k.toNat,none⟩) (D.below.block g d)];omega
 refine⟨.pointer (some ⟨g,k.toNat,none⟩),?_,g,k.toNat,rfl,⟨bc d D.below.size,λid c R Q=>by have:=(D.own id g c R Q).1;omega⟩,G⟩;have m:0<=k/\k<(n:Int):=⟨U,u⟩;unfold execOp;simp[W,b,K1 j,Instr.indexAt,Instr.sureAddr,asIntOf,run_underlying N,m,q1t r,h,A,U5]
end Go.Abs
