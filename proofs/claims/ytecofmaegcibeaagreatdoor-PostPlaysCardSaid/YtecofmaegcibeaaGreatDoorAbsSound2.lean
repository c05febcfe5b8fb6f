/- The engine, part 5: loads, stores, new objects. -/
import Derived.Test.YtecofmaegcibeaaGreatDoorAbsSound1
namespace Go.Abs
open Go Go.RowKit
variable {P:Program} {L:Nat->Prop} {w0:World}
variable {h:Heap} {hs:Heap}
theorem z5j (e:Ty) (s:SV) (hh:∀id∈H3 s,hs id=h id):C2 hs e s=C2 h e s:=by
 cases s<;>simp[C2,H3]at hh ⊢<;>rw[hh]
theorem v6p {e:Ty} {s:SV} {l:List e.den} (f:C2 h e s=some l):∀id∈H3 s,∃a t b,h id=.arr a t b\/h id=.ice a t b:=by
 cases s with
 | own j =>
  grind[H3,C2]
 | sub j d c =>
  grind[H3,C2]
 | mp j=>grind[C2]
 | _=>grind[H3]
theorem v7b (a av:Bool) (k v:Ty) (s:SV) (hh:∀id∈H3 s,hs id=h id):S3 hs a av k v s=S3 h a av k v s:=by
 cases s<;>simp[S3,H3]at hh ⊢<;>rw[hh]
theorem v7c {c av:Bool} {k v:Ty} {s:SV} {l:List (k.den×v.den)} (g:S3 h c av k v s=some l):∀id∈H3 s,∃c av d e f,h id=.mapo c av d e f\/h id=.mice c av d e f:=by
 cases s with
 | mp j =>
  grind[H3,S3]
 | own j=>grind[S3]
 | sub j a b=>grind[S3]
 | _=>grind[H3]
variable {κ:A6} {w:World}
theorem y1q {h':Heap} {w':World} (O:HeapOK L w0 κ h w) (x:Ext L κ h w κ h' w') (n av:Bool) (g j:Ty) (s:SV) (v:Value) (C:RepSV L κ h w s v) {l:List (g.den×j.den)} (e:S3 h n av g j s=some l) (r:∀id∈H3 s,∀b c,κ id=some (b,c)->A4 L κ h' w' b/\w'.heap[b]? = w.heap[b]?):RepAt w' (A4 L κ h' w') (.map n av g j) (E6 v) l:=by
 cases s with
 | mpn =>
  grind[S3]
 | sc t y =>
  simp[S3]at e;obtain⟨m,q⟩:=H9 e;subst m;subst q;exact RepAt.ext x C.2.2
 | mp id =>
  obtain⟨Q,b,c,H,I⟩:=C;subst I;obtain⟨d,a⟩:=r id (by simp[H3]) b c H;have E:∀i f (k:List (g.den×j.den)),w.heap[b]? = some (.map i f)->MapRep w (A4 L κ h w) n av g j k i f->RepAt w' (A4 L κ h' w') (.map n av g j) (E6 (.map (some b))) k :=
   λi f k G M=>⟨b,i,f,rfl,d,a.trans G,M.mono x.free⟩
  simp[S3]at e;have o:=O.obj id;cases B:h id with
  | mapo u A p z k =>
   rw[B]at e o;obtain⟨m,q⟩:=H9 e;cases m;obtain⟨D,J,i,f,N,F,K⟩:=o;grind
  | mice u A p z k =>
   rw[B]at e o;obtain⟨m,q⟩:=H9 e;cases m;obtain⟨D,J,i,f,N,_,F,K⟩:=o;grind
  | _=>grind
 | _=>grind[S3]
theorem q3n {b d:Type} {o:Option b} {c:d} {y:b} {r:d} (h:o.map (·,c)=some (y,r)):o=some y/\r=c:=by
 cases o with
 | none=>grind
 | some a=>grind
theorem q0s {h hs:Heap}:∀(t:Ty) (cs:List SV),(∀id∈G4 cs,hs id=h id)->F0 hs t cs=F0 h t cs
 | .int k,cs,_=>by cases cs with | nil=>rfl | cons s r=>cases s<;>rfl
 | .bool,cs,_=>by cases cs with | nil=>rfl | cons s r=>cases s<;>rfl
 | .nil,cs,_=>by rfl
 | .list e,cs,f=>by
  cases cs with
  | nil=>rfl
  | cons s r=>grind[F0,z5j,G4]
 | .map u o k v,cs,f=>by
  cases cs with
  | nil=>rfl
  | cons s r=>grind[F0,v7b,G4]
 | .cons a b,cs,f=>by
  have A:=q0s a cs f;have d:∀(t:Ty) (cs:List SV) y r,F0 h t cs=some (y,r)->∃p,cs=p++r:=by
   intro t
   induction t with
   | int k=>intro cs y r c;cases cs with
    | nil=>simp[F0]at c
    | cons s q=>cases s with
     | sc t z=>exact⟨[_],by rw[(q3n c).2];rfl⟩
     | _=>simp[F0]at c
   | bool=>intro cs y r c;cases cs with
    | nil=>simp[F0]at c
    | cons s q=>cases s with
     | sc t z=>exact⟨[_],by rw[(q3n c).2];rfl⟩
     | _=>simp[F0]at c
   | nil=>intro cs y r c;cases cs<;>simp[F0]at c<;>simp[c]
   | list e=>intro cs y r c;cases cs with
    | nil=>simp[F0]at c
    | cons s q=>exact⟨[s],by rw[(q3n c).2];rfl⟩
   | map u o k v _ _=>intro cs y r c;cases cs with
    | nil=>simp[F0]at c
    | cons s q=>exact⟨[s],by rw[(q3n c).2];rfl⟩
   | cons a b j l =>
    intro cs y r c;simp[F0]at c;split at c
    ·rename_i x m i;split at c
     ·rename_i w n B;obtain⟨p,g⟩:=j cs x m i;obtain⟨q,C⟩:=l m w n B;simp at c;exact⟨p++q,by rw[g,C,<-c.2];simp⟩
     ·cases c
    ·cases c
  simp[F0,A];split
  ·rename_i x r i;obtain⟨p,g⟩:=d a cs x r i;rw[q0s b r (λid D=>f id (by rw[g];simp only[G4,dC,aQ];exact .inr D))]
  ·rfl
theorem q1x {κ:A6} {h h':Heap} {w w':World} (u:HeapOK L w0 κ h w) (x:Ext L κ h w κ h' w'):∀(t:Ty) (cs:List SV) (get:Nat->Option Value) (y:t.den) (r:List SV),
  (∀(i:Nat) (s:SV),cs[i]? = some s->∃c,get i=some c/\RepSV L κ h w s c/\c.oneCell'=true) ->
  (∀id∈G4 cs,q4f (h id)->∀b c,κ id=some (b,c)->A4 L κ h' w' b/\w'.heap[b]? = w.heap[b]?)->F0 h t cs=some (y,r) ->
  t.size<=cs.length/\r=cs.drop t.size/\RepAt w' (A4 L κ h' w') t get y
 | .int k,cs,get,y,r,g,_,d=>by
  cases cs with
  | nil=>grind[F0]
  | cons s q =>
   cases s with
   | sc t z=>?_
   | _=>grind[F0]
   obtain⟨j,rfl⟩:=q3n d;obtain⟨A,o⟩:=H9 j;cases A;change z=y at o;subst o;obtain⟨c,n,l,_⟩:=g 0 _ rfl;refine⟨by simp[Ty.size],by rfl,?_⟩;have:=K1 l;subst this;exact n
 | .bool,cs,get,y,r,g,_,d=>by
  cases cs with
  | nil=>grind[F0]
  | cons s q =>
   cases s with
   | sc t z=>?_
   | _=>grind[F0]
   obtain⟨j,rfl⟩:=q3n d;obtain⟨A,o⟩:=H9 j;cases A;change z=y at o;subst o;obtain⟨c,n,l,_⟩:=g 0 _ rfl;refine⟨by simp[Ty.size],by rfl,?_⟩;have:=q1p l;subst this;exact n
 | .nil,cs,get,y,r,g,_,d=>by
  have:r=cs:=by grind[F0]
  exact⟨by simp[Ty.size],by grind[Ty.size],trivial⟩
 | .list e,cs,get,y,r,g,f,d=>by
  cases cs with
  | nil=>grind[F0]
  | cons s q =>
   obtain⟨j,rfl⟩:=q3n d;obtain⟨c,n,l,_⟩:=g 0 s rfl;refine⟨by simp[Ty.size],by rfl,?_⟩;have:=y1g u x e s c l j (λid p=>f id (by grind[G4]) (.inl (v6p j id p)));grind[RepAt.congr,Ty.size,E6]
 | .map K B k v,cs,get,y,r,g,f,d=>by
  cases cs with
  | nil=>grind[F0]
  | cons s q =>
   obtain⟨j,rfl⟩:=q3n d;obtain⟨c,n,l,_⟩:=g 0 s rfl;refine⟨by simp[Ty.size],by rfl,?_⟩;have:=y1q u x K B k v s c l j (λid p=>f id (by grind[G4]) (.inr (v7c j id p)));grind[RepAt.congr,Ty.size,E6]
 | .cons a b,cs,get,y,r,g,f,d=>by
  simp[F0]at d;split at d
  ·rename_i C H j;split at d
   ·rename_i I D M;simp[aN,bZ]at d;obtain⟨J,l⟩:=d;subst l;subst J;obtain⟨O,G,N⟩:=q1x u x a cs get C H g f j;subst G;obtain⟨R,E,F⟩:=q1x u x b (cs.drop a.size) (λc=>get (a.size+c)) I D (λi s Q=>g (a.size+i) s (by grind))
     (λid p=>f id (by
      grind[G4])) M
    refine⟨by grind[Ty.size],by rw[E];simp[Ty.size],N,F⟩
   grind
  grind
variable {t:TypeId}
theorem q7e {d:TypeDesc} (h:P.underlying t=some d) (w:World):(isAgg t).run P w=.ok (X5 d) w:=by
 unfold isAgg;rw[Sem.run_bind,run_underlying h];cases d<;>rfl
theorem j4k {i:TypeInfo} (h:P.info? t=some i) (w:World):(typeInfo t).run P w=.ok i w:=by
 unfold typeInfo;simp[h]
theorem q1t {i:TypeInfo} (h:P.info? t=some i) (w:World):(sizeOf t).run P w=.ok i.size w:=by
 unfold sizeOf;simp[j4k h]
theorem U5 (b o j:Nat):(⟨b,o,none⟩:Addr).add j=⟨b,o+j,none⟩:=by
 grind[Addr.add]
variable {T:TypeId}
theorem q70 {R:Type} {k:TInfo} (p:k.OK P T) {cs:List SV} {a:Nat} {K:AV->Option R} {x:R} (l:U1 k cs a K=some x) :
  ∃y,K y=some x/\∀(n:A6) (h:Heap) (w:World) (b o:Nat),
   (∀(i:Nat) (s:SV),cs[i]? = some s->∃v,w.cell? ⟨b,o+i,none⟩=some v/\RepSV L n h w s v/\v.oneCell'=true) ->
   ∃v,(loadVar T ⟨b,o+a,none⟩).run P w=.ok v w/\RepAV L n h w y v:=by
 obtain⟨⟨i,z,H,B,-⟩,d,r,e,-⟩:=p.base;unfold U1 at l;split at l
 ·rename_i g;cases m:Nat.ble (a+k.size) cs.length with
  | false=>grind
  | true =>
   rw[m]at l;have t:=ao m;refine⟨_,l,λn h w b o q=>?_⟩;have E:∀j,j<k.size->∃v,w.cell? ⟨b,o+(a+j),none⟩=some v/\∃s,cs[a+j]? = some s/\RepSV L n h w s v/\v.oneCell'=true:=by
    intro j D;obtain⟨v,u,A⟩:=q (a+j) (cs[a+j]'(by omega)) (af (by omega));grind
   let f:Nat->Value:=λj=>(w.cell? ⟨b,o+(a+j),none⟩).getD undef
   have G:∀j,j<k.size->w.cell? ((⟨b,o+a,none⟩:Addr).add j)=some (f j):=by
    grind[U5]
   refine⟨.agg ((List.range k.size).map f).toArray,?_,(List.range k.size).map f,rfl,by grind,λj s c D F=>?_⟩
   ·unfold loadVar;rw[Sem.run_bind,q7e r,e,g];grind[Result.andThen_ok,Sem.run_bind,q1t,run_loadCells,Sem.run_pure]
   grind
 ·rename_i g;split at l
  ·rename_i s C;refine⟨_,l,λn h w b o q=>?_⟩;obtain⟨v,u,A,_⟩:=q a s C;refine⟨v,?_,A⟩;unfold loadVar;rw[Sem.run_bind,q7e r,e,g];simp[u]
  grind
variable {b:Nat}
theorem j7t {l:List SV} {cs:List Value} {ty:TypeId} {f:Nat×Nat} (hh:w.heap[b]? = some (.cells cs.toArray ty f)) (c:RepCells L κ h w l cs):∀(i:Nat) (s:SV),l[i]? = some s->∃v,w.cell? ⟨b,0+i,none⟩=some v/\RepSV L κ h w s v/\v.oneCell'=true:=by
 intro i s e;have a:i<cs.length:=by rw[c.1];grind
 have d:cs[i]? = some cs[i]:=af a;refine⟨cs[i],?_,c.2 i s _ e d⟩;grind[World.cell?]
theorem j01 {id:Nat} {e:TypeId} {t:Ty} {l:List t.den} (k:RepArr L κ h w id e t l) {i:Nat} {cap:Nat×Nat} {y:t.den} (n:κ id=some (b,cap)) (m:l[i]? = some y) :
  RepAt w (A4 L κ h w) t (λj=>if j<t.size then w.cell? ⟨b,cap.2+i*t.size+j,none⟩else none) y:=by
 rcases k with⟨c,_⟩ | ⟨o,d,f,c,a,_,_,_,_,g⟩
 all_goals grind[World.cell?]
theorem j8n {t:Ty} {y:t.den} {o:Nat} (a:RepAt w (A4 L κ h w) t (λj=>if j<t.size then w.cell? ⟨b,o+j,none⟩else none) y) :
  ∀(i:Nat) (s:SV),(H1 t y)[i]? = some s->∃v,w.cell? ⟨b,o+i,none⟩=some v/\RepSV L κ h w s v/\v.oneCell'=true:=by
 grind[q26]
theorem q3c {a:Act} {o:Oper} {x:Operand} {c:Addr} (e:o.op=.load T x) (d:a.eval x=.pointer (some c)) (w:World) {v:Value} (h:(loadVar T c).run P w=.ok v w):(execOp a.eval o).run P w=.ok (.value v) w:=by
 unfold execOp;rw[e];simp[Instr.loadAt,Instr.sureAddr,d,h]
theorem k2f {R:Type} {o:Oper} {x:Operand} {V:TInfo} (B:V.OK P T) (Q:o.op=.load T x) {ρ:Env} {K:Eff->Option R} {z:R} (A:j1b V h (ev ρ x) K=some z):∃e,K e=some z/\e.full=none/\∀f g,ev f x=ev ρ x->(∀id∈e.rd,g id=h id)->A9 P L w0 o f g (e.heap g) e.av:=by
 have q:∀c,o.op≠.defer c:=λc hc=>by grind
 unfold j1b at A;split at A
 ·rename_i id off E;split at A
  ·rename_i l u;obtain⟨J,F,H⟩:=q70 (L:=L) B A;refine⟨_,F,rfl,λf g m N=>E7 q λC a w p O=>?_⟩;have d:=p x;rw[m,E]at d;obtain⟨_,b,c,U,D⟩:=d;have r:=O.obj id;rw[N id (by simp[E1]),u]at r;obtain⟨b',c',cs,ty,I,G,hcs⟩:=r;rw[U]at I;simp at I;obtain⟨rfl,rfl⟩:=I;obtain⟨v,j,n⟩:=H C g w b 0 (j7t G hcs);rw[cA]at j;exact⟨v,q3c Q D w j,n⟩
  grind
 ·rename_i id t i c E;have key:∀(S:TypeId) (l:List t.den),(h id=.arr S t l\/h id=.ice S t l)->((l[i]?).bind λy=>U1 V (H1 t y) c λJ=>K (E1 J [id]))=some z ->
    ∃e,K e=some z/\e.full=none/\∀f g,ev f x=ev ρ x->(∀id∈e.rd,g id=h id)->A9 P L w0 o f g (e.heap g) e.av:=by
   intro S l u Y;cases hy:l[i]? with
   | none=>grind
   | some y =>
    rw[hy]at Y;simp[aa]at Y;obtain⟨J,F,H⟩:=q70 (L:=L) B Y;refine⟨_,F,rfl,λf g m N=>E7 q λC a w p O=>?_⟩;have d:=p x;rw[m,E]at d;obtain⟨_,b,W,U,D⟩:=d;have r:=O.obj id;have M:RepArr L C g w id S t l:=by
     rcases u with u | u<;>rw[N id (by simp[E1]),u]at r
     ·exact r
     ·exact r.1
    obtain⟨v,j,n⟩:=H C g w b (W.2+i*t.size) (j8n (j01 M U hy));exact⟨v,q3c Q D w j,n⟩
  split at A
  ·split at A
   ·rename_i Z _;subst Z;grind
   grind
  ·split at A
   ·rename_i Z _;subst Z;grind
   grind
  grind
 ·rename_i t y c E;obtain⟨J,F,H⟩:=q70 (L:=L) B A;refine⟨_,F,rfl,λf g m N=>E7 q λC a w p O=>?_⟩;have d:=p x;rw[m,E]at d;obtain⟨b,X,D,hf,hr⟩:=d;obtain⟨v,j,n⟩:=H C g w b X (j8n hr);exact⟨v,q3c Q D w j,n⟩
 ·rename_i k y E;obtain⟨J,F,H⟩:=q70 (L:=L) B A;refine⟨_,F,rfl,λf g m N=>E7 q λC a w p O=>?_⟩;have d:=p x;rw[m,E]at d;obtain⟨b,X,D,hst,hc⟩:=d;obtain⟨v,j,n⟩:=H C g w b X (λi s hi=>by
   cases i with
   | zero =>
    simp[bS,aN]at hi;subst hi;exact⟨_,hc,⟨rfl,rfl,rfl⟩,rfl⟩
   | succ i=>grind)
  exact⟨v,q3c Q D w (by omega),n⟩
 grind
end Go.Abs
