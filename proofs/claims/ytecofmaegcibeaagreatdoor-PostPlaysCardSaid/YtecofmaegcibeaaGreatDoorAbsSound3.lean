/- The engine, part 6: stores and new objects. -/
import Derived.Test.YtecofmaegcibeaaGreatDoorAbsSound2
namespace Go.Abs
open Go Go.RowKit
variable {P:Program} {L:Nat->Prop} {w0:World}
theorem q5h {b:Type} (cs:List b) (a:Nat) (vs:List b) (h:a+vs.length<=cs.length) (i:Nat) :
  (splice cs a vs)[i]? = if i<a then cs[i]? else if i<a+vs.length then vs[i-a]? else cs[i]?:=by
 unfold splice;grind
theorem splice_length {b:Type} (cs:List b) (a:Nat) (vs:List b) (h:a+vs.length<=cs.length):(splice cs a vs).length=cs.length:=by
 grind[splice]
variable {κ:A6} {h:Heap} {w:World} {v:Value}
theorem y14 {s:SV} (hk:s.known=true) (hr:RepSV L κ h w s v):v.oneCell'=true:=by
 cases s with
 | unk=>cases hk
 | udf=>cases hk
 | ne e l=>exact hr.1
 | nx=>obtain⟨c,hc⟩:=hr;rw[hc];rfl
 | sc t x=>exact hr.2.1
 | nils=>rw[show v=_ from hr];rfl
 | nilp=>rw[show v=_ from hr];rfl
 | gl g=>rw[show v=_ from hr];rfl
 | cstr b=>rw[show v=_ from hr];rfl
 | bfn f agg cs=>obtain⟨us,hv,_⟩:=hr;rw[hv];rfl
 | bfp f id off=>obtain⟨us,hv,_⟩:=hr;rw[hv];rfl
 | ifc T agg cs=>obtain⟨us,hv,_⟩:=hr;rw[hv];rfl
 | nif=>rw[show v=_ from hr];rfl
 | nilf=>rw[show v=_ from hr];rfl
 | pan _=>exact hr.elim
 | gp k x=>obtain⟨b,o,hv,_⟩:=hr;rw[hv];rfl
 | own id=>exact hr.2
 | sub id a b=>exact hr.2
 | ptr id off=>obtain⟨_,b,c,_,hv⟩:=hr;rw[hv];rfl
 | eptr id t i c=>obtain⟨_,b,cap,_,hv⟩:=hr;rw[hv];rfl
 | ro t x c=>obtain⟨b,o,hv,_⟩:=hr;rw[hv];rfl
 | fn f caps=>obtain⟨cs,hv,_⟩:=hr;rw[hv];rfl
 | yld id=>obtain⟨_,b,c,_,hv⟩:=hr;rw[hv];rfl
 | mp id=>obtain⟨_,b,c,_,hv⟩:=hr;rw[hv];rfl
 | mpn=>rw[show v=_ from hr];rfl
 | stmp id=>obtain⟨_,b,c,_,hv⟩:=hr;rw[hv];rfl
 | csl id _ _ _=>obtain⟨_,b,c,_,hv⟩:=hr;rw[hv];rfl
 | ts _ _=>exact hr.2
 | tp _ _ _=>exact hr.2
theorem j7u (h:v.oneCell'=true):v.cells=#[v]:=by
 cases v<;>first | rfl | grind[Value.oneCell']
variable {vs:List SV}
theorem q60 {av:AV} (e:RepAV L κ h w av v) (a:cellsOf av=some vs) (j:vs.all SV.known=true) :
  ∃b:List Value,v.cells=b.toArray/\RepCells L κ h w vs b:=by
 cases av with
 | one s =>
  simp[cellsOf]at a;subst a;simp at j;have g:=y14 j e;refine⟨[v],j7u g,rfl,λi n c k f=>?_⟩;cases i with
  | zero=>simp at k f;subst k;subst f;exact⟨e,g⟩
  | succ i=>grind
 | agg l =>
  simp[cellsOf]at a;subst a;obtain⟨b,m,d⟩:=e;exact⟨b,by rw[m];rfl,d⟩
 | tup l=>cases a
variable {cs:List Value}
theorem q1o (b:RepCells L κ h w vs cs) {i:Nat} {s:SV} (hi:vs[i]? = some s) :
  ∃c,cs[i]? = some c/\RepSV L κ h w s c/\c.oneCell'=true:=by
 have a:i<cs.length:=by rw[b.1];grind
 exact⟨cs[i],af a,b.2 i s _ hi (af a)⟩
theorem q42 {cs:List Value} (b:RepCells L κ h w vs cs):∀c∈cs,c.oneCell'=true:=by
 intro c d;obtain⟨i,e⟩:=bf d;have a:i<vs.length:=by rw[<-b.1];grind
 exact(b.2 i _ c (af a) e).2
theorem j58 {l:List SV} {j:List Value} {a:Nat} (g:RepCells L κ h w l cs) (k:RepCells L κ h w vs j) (f:a+vs.length<=l.length):RepCells L κ h w (splice l a vs) (splice cs a j):=by
 have e:a+j.length<=cs.length:=by rw[k.1,g.1];omega
 refine⟨by rw[splice_length _ _ _ f,splice_length _ _ _ e,g.1],λi s c d b=>?_⟩;rw[q5h _ _ _ f]at d;rw[q5h _ _ _ e,k.1]at b;by_cases n:i<a
 ·rw[if_pos n]at d b;exact g.2 i s c d b
 ·rw[if_neg n]at d b;by_cases m:i<a+vs.length
  ·rw[if_pos m]at d b;exact k.2 _ s c d b
  ·rw[if_neg m]at d b;exact g.2 i s c d b
variable {o:Oper} {T:TypeId} {x:Operand} {y:Operand}
theorem q8j {a:Act} {c:Addr} (e:o.op=.store T x y) (d:a.eval x=.pointer (some c)) (w w':World) (h:(storeVar T c (a.eval y)).run P w=.ok () w'):(execOp a.eval o).run P w=.ok .skip w':=by
 unfold execOp;rw[e];simp[Instr.storeAt,Instr.sureAddr,d,h]
theorem j4j {i:TypeInfo} (hi:P.info? T=some i) {d:List Value} (g:v.cells=d.toArray) (f:d.length=i.size) {b o:Nat} {a:Array Value} {ty:TypeId} (hh:w.heap[b]? = some (.cells a ty (0,0))) (e:o+d.length<=a.size) (h1:∀c∈d,c.oneCell'=true) :
  (storeVar T ⟨b,o,none⟩ v).run P w=.ok () (w.setRow b (splice a.toList o d).toArray):=by
 grind[storeVar,run_storeCells_at,Sem.run_bind,q1t,Result.andThen_ok,List.size_toArray,splice]
theorem q0y {B b:Nat} (cs:Array Value) (h:Below B w0 w) (a:B<=b):Below B w0 (w.setRow b cs) :=
 h.trans ⟨rfl,rfl,rfl,by simp,λk c=>setRow_other w b k cs (by omega),ax _⟩
theorem k33 {Q:TInfo} (K:Q.OK P T) (S:o.op=.store T x y) {ρs:Env} {hs:Heap} {id f:Nat} {l:List SV} (V:ev ρs x=.one (.ptr id f)) (n:hs id=.cells l) (U:cellsOf (ev ρs y)=some vs) (X:vs.all SV.known=true) (I:vs.length=Q.size) (J:f+vs.length<=l.length) :
  A9 P L w0 o ρs hs (upd hs id (.cells (splice l f vs))) (.one .unk):=by
 refine q55 (λc Z=>by grind) λκ a w r E=>?_;obtain⟨⟨i,z,W,u,-⟩,-⟩:=K.base;have B:=r x;rw[V]at B;obtain⟨_,b,c,j,R⟩:=B;obtain⟨N,G,e⟩:=q60 (r y) U X;have D:=E.obj id;rw[n]at D;obtain⟨q,Y,M,O,s,d,A⟩:=D;rw[j]at s;obtain⟨rfl,rfl⟩:=s;have F:=j4j (P:=P) W (v:=a.eval y) G (by rw[e.1,I,u]) d (by simp[e.1,A.1];omega) (q42 e);have p:(hs id).live=true:=by rw[n];rfl
 have C:=E.own id b c p j;have g:(hs id).like (.cells (splice l f vs)):=by rw[n];trivial
 have k:(w.setRow b (splice M.toArray.toList f N).toArray).heap.size=w.heap.size:=by simp
 have m:∀q,q≠b->(w.setRow b (splice M.toArray.toList f N).toArray).heap[q]? = w.heap[q]?:=λq H=>setRow_other w b q _ H;have t:=U9 (L:=L) (κ:=κ) (h:=hs) j g (.inl (.inl ⟨_,_,_,d⟩)) k m;refine⟨κ,_,q8j S R w _ F,X4 E j g k m (q0y _ E.below C.1) ⟨b,c,_,O,j,setRow_heap w b _ _ O (0,0) d,?_⟩,t⟩;exact(j58 A e J).ext t
theorem z6c:∀(t:Ty) (y:t.den),G4 (H1 t y)=[]
 | .map _ _ _ _,_=>rfl
 | .int _,_=>rfl
 | .bool,_=>rfl
 | .list _,_=>rfl
 | .nil,_=>rfl
 | .cons a b,y=>by
  have d:=z6c a y.1;have c:=z6c b y.2;unfold G4 at d c ⊢;simp[H1,dC,d,c,bP]
theorem y3d {cs:List SV} {d:Nat} {j:Nat} (e:G4 cs=[]) (a:j∈G4 (splice cs d vs)):j∈G4 vs:=by
 unfold G4 splice at *
 simp only[dC,aQ]at a;rcases a with(a | a) | a
 ·obtain⟨s,c,b⟩:=bb.1 a;have:j∈cs.flatMap H3:=bb.2 ⟨s,bq c,b⟩;grind
 ·omega
 ·obtain⟨s,c,b⟩:=bb.1 a;have:j∈cs.flatMap H3:=bb.2 ⟨s,bY c,b⟩;grind
theorem M4 (a b:List (Nat×AObj)) (h:Heap):A3 (a++b) h=A3 b (A3 a h):=by
 simp[A3]
theorem q0g {h:Heap} {id:Nat}:∀{ids:List Nat} {h1:Heap},id∉ids->A3 (B4 h ids) h1 id=h1 id
 | [],_,_=>rfl
 | j::ids,h1,f=>by
  have b:id≠j:=λe=>f (by simp[e]);have a:id∉ids:=λe=>f (by simp[e]);cases d:h j with
  | arr e t l =>
   have c:A3 (B4 h (j::ids)) h1=A3 (B4 h ids) (upd h1 j (.ice e t l)):=by simp[B4,d,A3]
   rw[c,q0g a,A0 _ _ b]
  | mapo k i m g l =>
   have c:A3 (B4 h (j::ids)) h1=A3 (B4 h ids) (upd h1 j (.mice k i m g l)):=by simp[B4,d,A3]
   rw[c,q0g a,A0 _ _ b]
  | _ =>
   have c:A3 (B4 h (j::ids)) h1=A3 (B4 h ids) h1:=by simp[B4,d]
   rw[c,q0g a]
theorem k32 {ti:TInfo} (hti:ti.OK P T) (ho:o.op=.store T x y) {ρs:Env} {hs:Heap} {id i c:Nat} {e:TypeId} {t:Ty} {l:List t.den} {z z':t.den} (hx:ev ρs x=.one (.eptr id t i c)) (F:hs id=.arr e t l) (hy:cellsOf (ev ρs y)=some vs) (hk:vs.all SV.known=true) (hsz:vs.length=ti.size) (hz:l[i]? = some z) (hd:F0 hs t (splice (H1 t z) c vs)=some (z',[])) (G:(G4 vs).all (λj=>!Nat.beq j id)=true) (hfit:c+vs.length<=t.size) :
  A9 P L w0 o ρs hs (A3 (B4 hs (G4 vs)++[(id,.arr e t (l.set i z'))]) hs) (.one .unk):=by
 refine q55 (λc hc=>by grind) λκ a w V ok=>?_;obtain⟨⟨ii,_,hi,Q,-⟩,-⟩:=hti.base;have Z:=V x;rw[hx]at Z;obtain⟨_,b,d,n,hv⟩:=Z;obtain⟨K,hus,f⟩:=q60 (V y) hy hk;have hob:=ok.obj id;rw[F]at hob;rcases hob with⟨A,_⟩ | ⟨M,cap',k,A,g,hcsz,hcm,hll,h1,S⟩
 ·grind
 rw[n]at A;simp at A;obtain⟨rfl,rfl⟩:=A;obtain⟨okI,N,J⟩:=V2 (G4 vs) ok;have W:id∉G4 vs:=λhm=>by
  have:=aG.1 G id hm;simp_all
 have X:A3 (B4 hs (G4 vs)) hs id=.arr e t l:=(q0g W).trans F;have Y:i<l.length:=(ag.1 hz).1;have hcap:(i+1)*t.size<=d.1*t.size:=aJ _ (by omega);have hsucc:(i+1)*t.size=i*t.size+t.size:=cP _ _;have O:d.2+i*t.size+c+K.length<=k.size:=by rw[f.1];omega
 have hst:=j4j (P:=P) hi (v:=a.eval y) hus (by rw[f.1,hsz,Q]) g O (q42 f);have I:(hs id).live=true:=by rw[F];rfl
 have hown:=ok.own id b d I n
 let U:=w.setRow b (splice k.toList (d.2+i*t.size+c) K).toArray
 have p:(A3 (B4 hs (G4 vs)) hs id).like (.arr e t (l.set i z')):=by rw[X];exact⟨rfl,rfl,by simp⟩
 have m:U.heap.size=w.heap.size:=by simp[U]
 have D:∀M,M≠b->U.heap[M]? = w.heap[M]?:=λM G=>setRow_other w b M _ G;have C:=U9 (L:=L) (κ:=κ) (h:=A3 (B4 hs (G4 vs)) hs) n p (.inl (.inl ⟨_,_,_,g⟩)) m D;have hX:=N.trans C;have B:U.heap[b]? = some (.cells (splice k.toList (d.2+i*t.size+c) K).toArray e (0,0)):=setRow_heap w b _ _ e (0,0) g;have r:∀q:Nat,(splice k.toList (d.2+i*t.size+c) K).toArray[q]? = if q<d.2+i*t.size+c then k[q]? else if q<d.2+i*t.size+c+K.length then K[q-(d.2+i*t.size+c)]? else k[q]?:=by
  grind[q5h]
 rw[M4];refine⟨κ,U,q8j ho hv w _ hst,X4 okI n p m D (q0y _ ok.below hown.1) (.inr ⟨b,d,_,n,B,?_,hcm,by grind,?_,?_⟩),hX⟩
 ·grind[splice_length]
 ·intro q E;obtain⟨j,hj⟩:=bf E;have hj':=r j;grind[q42]
 ·intro j u hu;by_cases R:j=i
  ·subst R;rw[ca Y]at hu;cases hu;refine(q1x ok hX t (splice (H1 t z) c vs) _ z' [] (λq s E=>?_) (λj' hm ho' b2 c2 hk2=>?_) hd).2.2
   ·have hel':=q26 t _ z (S j z hz);have H:c+vs.length<=(H1 t z).length:=by grind[q16]
    have hqlt:q<t.size:=by
     grind[splice_length,q16]
    simp only[hqlt,if_true];rw[q5h _ _ _ H]at E;rw[r (d.2+j*t.size+q)];by_cases q1:q<c
    ·grind
    ·rw[if_neg q1]at E;rw[if_neg (by omega)];by_cases q2:q<c+vs.length
     ·grind[q1o]
     ·rw[if_neg q2]at E;rw[if_neg (by rw[f.1];omega)];grind
   ·have hm':=y3d (z6c t z) hm;have hf:=J j' hm' ho' b2 c2 hk2;exact C.free b2 hf
  ·rw[cU (Ne.symm R)]at hu;refine RepAt.congr t _ _ u (λq E=>?_) (RepAt.ext hX (S j u hu));simp only[E,if_true];rw[r (d.2+j*t.size+q)];rcases Nat.lt_or_ge j i with hlt | hge
   ·have h2:(j+1)*t.size<=i*t.size:=aJ _ hlt;grind
   ·have h2:(i+1)*t.size<=j*t.size:=aJ _ (by omega);rw[if_neg (by omega),if_neg (by rw[f.1];omega)]
end Go.Abs
