/- The engine, part 6: stores and new objects. -/
import Derived.Test.YtppblbacbmebfaaGreatDoorAbsSound2
namespace Go.Abs
open Go Go.RowKit
variable {P:Program} {L:Nat->Prop} {w0:World}
theorem q0w {b:Type} (cs:List b) (a:Nat) (vs:List b) (h:a+vs.length<=cs.length) (i:Nat) :
  (C9 cs a vs)[i]? = if i<a then cs[i]? else if i<a+vs.length then vs[i-a]? else cs[i]?:=by
 unfold C9
 grind
theorem q21 {b:Type} (cs:List b) (a:Nat) (vs:List b) (h:a+vs.length<=cs.length):(C9 cs a vs).length=cs.length:=by
 grind[C9]
theorem j61 {κ:A2} {h:Heap} {w:World} {s:SV} {v:Value} (q:s.known=true) (d:RepSV L κ h w s v):v.oneCell'=true:=by
 cases s with
 | unk=>cases q
 | udf=>cases q
 | ne e l=>exact d.1
 | nx=>obtain⟨c,z⟩:=d;rw[z];rfl
 | sc t x=>exact d.2.1
 | nils=>rw[show v=_ from d];rfl
 | nilp=>rw[show v=_ from d];rfl
 | gl g=>rw[show v=_ from d];rfl
 | cstr b=>rw[show v=_ from d];rfl
 | bfn f m r=>obtain⟨u,j,_⟩:=d;rw[j];rfl
 | bfp f id n=>obtain⟨u,j,_⟩:=d;rw[j];rfl
 | ifc T m r=>obtain⟨u,j,_⟩:=d;rw[j];rfl
 | nif=>rw[show v=_ from d];rfl
 | nilf=>rw[show v=_ from d];rfl
 | pan _=>exact d.elim
 | gp k x=>obtain⟨b,o,j,_⟩:=d;rw[j];rfl
 | own id=>exact d.2
 | sub id a b=>exact d.2
 | ptr id n=>obtain⟨_,b,c,_,j⟩:=d;rw[j];rfl
 | eptr id t i c=>obtain⟨_,b,y,_,j⟩:=d;rw[j];rfl
 | ro t x c=>obtain⟨b,o,j,_⟩:=d;rw[j];rfl
 | fn f p=>obtain⟨r,j,_⟩:=d;rw[j];rfl
 | yld id=>obtain⟨_,b,c,_,j⟩:=d;rw[j];rfl
 | mp id=>obtain⟨_,b,c,_,j⟩:=d;rw[j];rfl
 | mpn=>rw[show v=_ from d];rfl
 | stmp id=>obtain⟨_,b,c,_,j⟩:=d;rw[j];rfl
 | csl id _ _ _=>obtain⟨_,b,c,_,j⟩:=d;rw[j];rfl
theorem j3k {v:Value} (h:v.oneCell'=true):v.cells=#[v]:=by
 cases v<;>first | rfl | grind[Value.oneCell']
theorem q3h {κ:A2} {h:Heap} {w:World} {av:AV} {v:Value} (e:RepAV L κ h w av v) {vs:List SV} (a:cellsOf av=some vs) (j:vs.all SV.known=true) :
  ∃ b:List Value,v.cells=b.toArray/\RepCells L κ h w vs b:=by
 cases av with
 | one s =>
  simp[cellsOf]at a;subst a
  simp at j
  have g:=j61 j e
  refine⟨[v],j3k g,rfl,fun i n c k f=>?_⟩
  cases i with
  | zero=>simp at k f;subst k;subst f;exact⟨e,g⟩
  | succ i=>grind
 | agg l =>
  simp[cellsOf]at a;subst a
  obtain⟨b,m,d⟩:=e
  exact⟨b,by rw[m];rfl,d⟩
 | tup l=>cases a
theorem W3 {κ:A2} {h:Heap} {w:World} {vs:List SV} {cs:List Value} (b:RepCells L κ h w vs cs) {i:Nat} {s:SV} (hi:vs[i]? = some s) :
  ∃ c,cs[i]? = some c/\RepSV L κ h w s c/\c.oneCell'=true:=by
 have a:i<cs.length:=by rw[b.1];grind
 exact⟨cs[i],List.getElem?_eq_getElem a,b.2 i s _ hi (List.getElem?_eq_getElem a)⟩
theorem q34 {κ:A2} {h:Heap} {w:World} {vs:List SV} {cs:List Value} (b:RepCells L κ h w vs cs):∀ c∈cs,c.oneCell'=true:=by
 intro c d
 obtain⟨i,e⟩:=List.getElem?_of_mem d
 have a:i<vs.length:=by rw[<-b.1];grind
 exact(b.2 i _ c (List.getElem?_eq_getElem a) e).2
theorem j1h {κ:A2} {h:Heap} {w:World} {l vs:List SV} {cs j:List Value} {a:Nat} (g:RepCells L κ h w l cs) (k:RepCells L κ h w vs j)
  (f:a+vs.length<=l.length):RepCells L κ h w (C9 l a vs) (C9 cs a j):=by
 have e:a+j.length<=cs.length:=by rw[k.1,g.1];omega
 refine⟨by rw[q21 _ _ _ f,q21 _ _ _ e,g.1],fun i s c d b=>?_⟩
 rw[q0w _ _ _ f]at d
 rw[q0w _ _ _ e,k.1]at b
 by_cases n:i<a
 ·rw[if_pos n]at d b;exact g.2 i s c d b
 ·rw[if_neg n]at d b
  by_cases m:i<a+vs.length
  ·rw[if_pos m]at d b;exact k.2 _ s c d b
  ·rw[if_neg m]at d b;exact g.2 i s c d b
theorem q4w {a:Act} {o:Oper} {T:TypeId} {x y:Operand} {c:Addr} (e:o.op=.store T x y) (d:a.eval x=.pointer (some c)) (w w':World)
  (h:(storeVar T c (a.eval y)).run P w=.ok () w'):(execOp a.eval o).run P w=.ok .skip w':=by
 unfold execOp
 rw[e]
 simp[Instr.storeAt,Instr.sureAddr,d,h]
theorem z4n {T:TypeId} {i:TypeInfo} (hi:P.info? T=some i) {v:Value} {d:List Value} (g:v.cells=d.toArray) (f:d.length=i.size) {w:World} {b o:Nat} {a:Array Value} {ty:TypeId}
  (hh:w.heap[b]? = some (.cells a ty (0,0))) (e:o+d.length<=a.size) (h1:∀ c∈d,c.oneCell'=true) :
  (storeVar T ⟨b,o,none⟩ v).run P w=.ok () (w.setRow b (C9 a.toList o d).toArray):=by
 grind[storeVar,run_storeCells_at,Sem.run_bind,S6,Result.andThen_ok,List.size_toArray,C9]
theorem X0 {w:World} {B b:Nat} (cs:Array Value) (h:Below B w0 w) (a:B<=b):Below B w0 (w.setRow b cs) :=
 h.trans ⟨rfl,rfl,rfl,by simp,fun k c=>setRow_other w b k cs (by omega),Nat.le_refl _⟩
theorem j8t {o:Oper} {T:TypeId} {x y:Operand} {Q:TInfo} (K:Q.OK P T) (S:o.op=.store T x y) {ρs:Env} {hs:Heap} {id f:Nat} {l vs:List SV}
  (V:ev ρs x=.one (.ptr id f)) (n:hs id=.cells l) (U:cellsOf (ev ρs y)=some vs) (X:vs.all SV.known=true) (I:vs.length=Q.size) (J:f+vs.length<=l.length) :
  A6 P L w0 o ρs hs (upd hs id (.cells (C9 l f vs))) (.one .unk):=by
 refine q0n (fun c Z=>by grind) fun κ a w r E=>?_
 obtain⟨⟨i,z,W,u,-⟩,-⟩:=K.base
 have B:=r x
 rw[V]at B
 obtain⟨_,b,c,j,R⟩:=B
 obtain⟨N,G,e⟩:=q3h (r y) U X
 have D:=E.obj id
 rw[n]at D
 obtain⟨q,Y,M,O,s,d,A⟩:=D
 rw[j]at s;obtain⟨rfl,rfl⟩:=s
 have F:=z4n (P:=P) W (v:=a.eval y) G (by rw[e.1,I,u]) d (by simp[e.1,A.1];omega) (q34 e)
 have p:(hs id).live=true:=by rw[n];rfl
 have C:=E.own id b c p j
 have g:(hs id).like (.cells (C9 l f vs)):=by rw[n];trivial
 have k:(w.setRow b (C9 M.toArray.toList f N).toArray).heap.size=w.heap.size:=by simp
 have m:∀ q,q≠b->(w.setRow b (C9 M.toArray.toList f N).toArray).heap[q]? = w.heap[q]?:=fun q H=>setRow_other w b q _ H
 have t:=P3 (L:=L) (κ:=κ) (h:=hs) j g (.inl (.inl ⟨_,_,_,d⟩)) k m
 refine⟨κ,_,q4w S R w _ F,Q4 E j g k m (X0 _ E.below C.1) ⟨b,c,_,O,j,setRow_heap w b _ _ O (0,0) d,?_⟩,t⟩
 exact(j1h A e J).ext t
theorem q8i:∀ (t:Ty) (y:t.den),F9 (F6 t y)=[]
 | .map _ _ _ _,_=>rfl
 | .int _,_=>rfl
 | .bool,_=>rfl
 | .list _,_=>rfl
 | .nil,_=>rfl
 | .cons a b,y=>by
  have d:=q8i a y.1
  have c:=q8i b y.2
  unfold F9 at d c ⊢
  simp[F6,List.flatMap_append,d,c,List.append_nil]
theorem j0n {cs vs:List SV} {d:Nat} {j:Nat} (e:F9 cs=[]) (a:j∈F9 (C9 cs d vs)):j∈F9 vs:=by
 unfold F9 C9 at *
 simp only[List.flatMap_append,List.mem_append]at a
 rcases a with(a | a) | a
 ·obtain⟨s,c,b⟩:=List.mem_flatMap.1 a
  have:j∈cs.flatMap G9:=List.mem_flatMap.2 ⟨s,List.mem_of_mem_take c,b⟩
  grind
 ·omega
 ·obtain⟨s,c,b⟩:=List.mem_flatMap.1 a
  have:j∈cs.flatMap G9:=List.mem_flatMap.2 ⟨s,List.mem_of_mem_drop c,b⟩
  grind
theorem I9 (a b:List (Nat×AObj)) (h:Heap):A5 (a++b) h=A5 b (A5 a h):=by
 simp[A5]
theorem V5 {h:Heap} {id:Nat}:∀ {ids:List Nat} {h1:Heap},id∉ids->A5 (B3 h ids) h1 id=h1 id
 | [],_,_=>rfl
 | j::ids,h1,f=>by
  have b:id≠j:=fun e=>f (by simp[e])
  have a:id∉ids:=fun e=>f (by simp[e])
  cases d:h j with
  | arr e t l =>
   have c:A5 (B3 h (j::ids)) h1=A5 (B3 h ids) (upd h1 j (.ice e t l)):=by simp[B3,d,A5]
   rw[c,V5 a,A0 _ _ b]
  | mapo k i m g l =>
   have c:A5 (B3 h (j::ids)) h1=A5 (B3 h ids) (upd h1 j (.mice k i m g l)):=by simp[B3,d,A5]
   rw[c,V5 a,A0 _ _ b]
  | _ =>
   have c:A5 (B3 h (j::ids)) h1=A5 (B3 h ids) h1:=by simp[B3,d]
   rw[c,V5 a]
theorem v6c {o:Oper} {T:TypeId} {x y:Operand} {ti:TInfo} (hti:ti.OK P T) (ho:o.op=.store T x y) {ρs:Env} {hs:Heap} {id i c:Nat} {e:TypeId} {t:Ty} {l:List t.den} {vs:List SV} {z z':t.den}
  (hx:ev ρs x=.one (.eptr id t i c)) (F:hs id=.arr e t l) (hy:cellsOf (ev ρs y)=some vs) (hk:vs.all SV.known=true) (hsz:vs.length=ti.size)
  (hz:l[i]? = some z) (hd:D2 hs t (C9 (F6 t z) c vs)=some (z',[])) (G:(F9 vs).all (fun j=>!Nat.beq j id)=true) (hfit:c+vs.length<=t.size) :
  A6 P L w0 o ρs hs (A5 (B3 hs (F9 vs)++[(id,.arr e t (l.set i z'))]) hs) (.one .unk):=by
 refine q0n (fun c hc=>by grind) fun κ a w V ok=>?_
 obtain⟨⟨ii,_,hi,Q,-⟩,-⟩:=hti.base
 have Z:=V x
 rw[hx]at Z
 obtain⟨_,b,d,n,hv⟩:=Z
 obtain⟨K,hus,f⟩:=q3h (V y) hy hk
 have hob:=ok.obj id
 rw[F]at hob
 rcases hob with⟨A,_⟩ | ⟨M,cap',k,A,g,hcsz,hcm,hll,h1,S⟩
 ·grind
 rw[n]at A;simp at A;obtain⟨rfl,rfl⟩:=A
 obtain⟨okI,N,J⟩:=R8 (F9 vs) ok
 have W:id∉F9 vs:=fun hm=>by
  have:=List.all_eq_true.1 G id hm
  simp_all
 have X:A5 (B3 hs (F9 vs)) hs id=.arr e t l:=(V5 W).trans F
 have Y:i<l.length:=(List.getElem?_eq_some_iff.1 hz).1
 have hcap:(i+1)*t.size<=d.1*t.size:=Nat.mul_le_mul_right _ (by omega)
 have hsucc:(i+1)*t.size=i*t.size+t.size:=Nat.succ_mul _ _
 have O:d.2+i*t.size+c+K.length<=k.size:=by rw[f.1];omega
 have hst:=z4n (P:=P) hi (v:=a.eval y) hus (by rw[f.1,hsz,Q]) g O (q34 f)
 have I:(hs id).live=true:=by rw[F];rfl
 have hown:=ok.own id b d I n
 let U:=w.setRow b (C9 k.toList (d.2+i*t.size+c) K).toArray
 have p:(A5 (B3 hs (F9 vs)) hs id).like (.arr e t (l.set i z')):=by rw[X];exact⟨rfl,rfl,by simp⟩
 have m:U.heap.size=w.heap.size:=by simp[U]
 have D:∀ M,M≠b->U.heap[M]? = w.heap[M]?:=fun M G=>setRow_other w b M _ G
 have C:=P3 (L:=L) (κ:=κ) (h:=A5 (B3 hs (F9 vs)) hs) n p (.inl (.inl ⟨_,_,_,g⟩)) m D
 have hX:=N.trans C
 have B:U.heap[b]? = some (.cells (C9 k.toList (d.2+i*t.size+c) K).toArray e (0,0)):=setRow_heap w b _ _ e (0,0) g
 have r:∀ q:Nat,(C9 k.toList (d.2+i*t.size+c) K).toArray[q]? = if q<d.2+i*t.size+c then k[q]? else if q<d.2+i*t.size+c+K.length then K[q-(d.2+i*t.size+c)]? else k[q]?:=by
  grind[q0w]
 rw[I9]
 refine⟨κ,U,q4w ho hv w _ hst,Q4 okI n p m D (X0 _ ok.below hown.1) (.inr ⟨b,d,_,n,B,?_,hcm,by grind,?_,?_⟩),hX⟩
 ·grind[q21]
 ·intro q E
  obtain⟨j,hj⟩:=List.getElem?_of_mem E
  have hj':=r j
  grind[q34]
 ·intro j u hu
  by_cases R:j=i
  ·subst R
   rw[List.getElem?_set_self Y]at hu
   cases hu
   refine(U2 ok hX t (C9 (F6 t z) c vs) _ z' [] (fun q s E=>?_) (fun j' hm ho' b2 c2 hk2=>?_) hd).2.2
   ·have hel':=T2 t _ z (S j z hz)
    have H:c+vs.length<=(F6 t z).length:=by grind[R2]
    have hqlt:q<t.size:=by
     grind[q21,R2]
    simp only[hqlt,if_true]
    rw[q0w _ _ _ H]at E
    rw[r (d.2+j*t.size+q)]
    by_cases q1:q<c
    ·grind
    ·rw[if_neg q1]at E
     rw[if_neg (by omega)]
     by_cases q2:q<c+vs.length
     ·grind[W3]
     ·rw[if_neg q2]at E
      rw[if_neg (by rw[f.1];omega)]
      grind
   ·have hm':=j0n (q8i t z) hm
    have hf:=J j' hm' ho' b2 c2 hk2
    exact C.free b2 hf
  ·rw[List.getElem?_set_ne (Ne.symm R)]at hu
   refine RepAt.congr t _ _ u (fun q E=>?_) (RepAt.ext hX (S j u hu))
   simp only[E,if_true]
   rw[r (d.2+j*t.size+q)]
   rcases Nat.lt_or_ge j i with hlt | hge
   ·have h2:(j+1)*t.size<=i*t.size:=Nat.mul_le_mul_right _ hlt
    grind
   ·have h2:(i+1)*t.size<=j*t.size:=Nat.mul_le_mul_right _ (by omega)
    rw[if_neg (by omega),if_neg (by rw[f.1];omega)]
end Go.Abs
