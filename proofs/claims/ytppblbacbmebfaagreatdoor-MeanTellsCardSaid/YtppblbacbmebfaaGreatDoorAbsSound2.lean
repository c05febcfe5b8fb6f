/- The engine, part 5: loads, stores, new objects. -/
import Derived.Test.YtppblbacbmebfaaGreatDoorAbsSound1
namespace Go.Abs
open Go Go.RowKit
variable {P:Program} {L:Nat->Prop} {w0:World}
theorem q7u {h hs:Heap} (e:Ty) (s:SV) (hh:∀ id∈G9 s,hs id=h id):B7 hs e s=B7 h e s:=by
 cases s<;>simp[B7,G9]at hh ⊢<;>rw[hh]
theorem y7v {h:Heap} {e:Ty} {s:SV} {l:List e.den} (f:B7 h e s=some l):∀ id∈G9 s,∃ a t b,h id=.arr a t b\/h id=.ice a t b:=by
 cases s with
 | own j =>
  grind[G9,B7]
 | sub j d c =>
  grind[G9,B7]
 | mp j=>grind[B7]
 | _=>grind[G9]
theorem y8g {h hs:Heap} (a av:Bool) (k v:Ty) (s:SV) (hh:∀ id∈G9 s,hs id=h id):O1 hs a av k v s=O1 h a av k v s:=by
 cases s<;>simp[O1,G9]at hh ⊢<;>rw[hh]
theorem y8i {h:Heap} {c av:Bool} {k v:Ty} {s:SV} {l:List (k.den×v.den)} (g:O1 h c av k v s=some l):∀ id∈G9 s,∃ c av d e f,h id=.mapo c av d e f\/h id=.mice c av d e f:=by
 cases s with
 | mp j =>
  grind[G9,O1]
 | own j=>grind[O1]
 | sub j a b=>grind[O1]
 | _=>grind[G9]
theorem j6f {κ:A2} {h h':Heap} {w w':World} (O:HeapOK L w0 κ h w) (x:Ext L κ h w κ h' w') (n av:Bool) (g j:Ty) (s:SV) (v:Value) (C:RepSV L κ h w s v)
  {l:List (g.den×j.den)} (e:O1 h n av g j s=some l)
  (r:∀ id∈G9 s,∀ b c,κ id=some (b,c)->A3 L κ h' w' b/\w'.heap[b]? = w.heap[b]?):RepAt w' (A3 L κ h' w') (.map n av g j) (F7 v) l:=by
 cases s with
 | mpn =>
  grind[O1]
 | sc t y =>
  simp[O1]at e
  obtain⟨m,q⟩:=H2 e
  subst m;subst q
  exact RepAt.ext x C.2.2
 | mp id =>
  obtain⟨Q,b,c,H,I⟩:=C
  subst I
  obtain⟨d,a⟩:=r id (by simp[G9]) b c H
  have E:∀ i f (k:List (g.den×j.den)),w.heap[b]? = some (.map i f)->MapRep w (A3 L κ h w) n av g j k i f->RepAt w' (A3 L κ h' w') (.map n av g j) (F7 (.map (some b))) k :=
   fun i f k G M=>⟨b,i,f,rfl,d,a.trans G,M.mono x.free⟩
  simp[O1]at e
  have o:=O.obj id
  cases B:h id with
  | mapo u A p z k =>
   rw[B]at e o
   obtain⟨m,q⟩:=H2 e
   cases m
   obtain⟨D,J,i,f,N,F,K⟩:=o
   grind
  | mice u A p z k =>
   rw[B]at e o
   obtain⟨m,q⟩:=H2 e
   cases m
   obtain⟨D,J,i,f,N,_,F,K⟩:=o
   grind
  | _=>grind
 | _=>grind[O1]
theorem W1 {b d:Type} {o:Option b} {c:d} {y:b} {r:d} (h:o.map (·,c)=some (y,r)):o=some y/\r=c:=by
 cases o with
 | none=>grind
 | some a=>grind
theorem U1 {h hs:Heap}:∀ (t:Ty) (cs:List SV),(∀ id∈F9 cs,hs id=h id)->D2 hs t cs=D2 h t cs
 | .int k,cs,_=>by cases cs with | nil=>rfl | cons s r=>cases s<;>rfl
 | .bool,cs,_=>by cases cs with | nil=>rfl | cons s r=>cases s<;>rfl
 | .nil,cs,_=>by rfl
 | .list e,cs,f=>by
  cases cs with
  | nil=>rfl
  | cons s r=>grind[D2,q7u,F9]
 | .map u o k v,cs,f=>by
  cases cs with
  | nil=>rfl
  | cons s r=>grind[D2,y8g,F9]
 | .cons a b,cs,f=>by
  have A:=U1 a cs f
  have d:∀ (t:Ty) (cs:List SV) y r,D2 h t cs=some (y,r)->∃ p,cs=p++r:=by
   intro t
   induction t with
   | int k=>intro cs y r c;cases cs with
    | nil=>simp[D2]at c
    | cons s q=>cases s with
     | sc t z=>exact⟨[_],by rw[(W1 c).2];rfl⟩
     | _=>simp[D2]at c
   | bool=>intro cs y r c;cases cs with
    | nil=>simp[D2]at c
    | cons s q=>cases s with
     | sc t z=>exact⟨[_],by rw[(W1 c).2];rfl⟩
     | _=>simp[D2]at c
   | nil=>intro cs y r c;cases cs<;>simp[D2]at c<;>simp[c]
   | list e=>intro cs y r c;cases cs with
    | nil=>simp[D2]at c
    | cons s q=>exact⟨[s],by rw[(W1 c).2];rfl⟩
   | map u o k v _ _=>intro cs y r c;cases cs with
    | nil=>simp[D2]at c
    | cons s q=>exact⟨[s],by rw[(W1 c).2];rfl⟩
   | cons a b j l =>
    intro cs y r c
    simp[D2]at c
    split at c
    ·rename_i x m i
     split at c
     ·rename_i w n B
      obtain⟨p,g⟩:=j cs x m i
      obtain⟨q,C⟩:=l m w n B
      simp at c
      exact⟨p++q,by rw[g,C,<-c.2];simp⟩
     ·cases c
    ·cases c
  simp[D2,A]
  split
  ·rename_i x r i
   obtain⟨p,g⟩:=d a cs x r i
   rw[U1 b r (fun id D=>f id (by rw[g];simp only[F9,List.flatMap_append,List.mem_append];exact .inr D))]
  ·rfl
theorem U2 {κ:A2} {h h':Heap} {w w':World} (u:HeapOK L w0 κ h w) (x:Ext L κ h w κ h' w'):∀ (t:Ty) (cs:List SV) (get:Nat->Option Value) (y:t.den) (r:List SV),
  (∀ (i:Nat) (s:SV),cs[i]? = some s->∃ c,get i=some c/\RepSV L κ h w s c/\c.oneCell'=true) ->
  (∀ id∈F9 cs,q2a (h id)->∀ b c,κ id=some (b,c)->A3 L κ h' w' b/\w'.heap[b]? = w.heap[b]?)->D2 h t cs=some (y,r) ->
  t.size<=cs.length/\r=cs.drop t.size/\RepAt w' (A3 L κ h' w') t get y
 | .int k,cs,get,y,r,g,_,d=>by
  cases cs with
  | nil=>grind[D2]
  | cons s q =>
   cases s with
   | sc t z=>?_
   | _=>grind[D2]
   obtain⟨j,rfl⟩:=W1 d
   obtain⟨A,o⟩:=H2 j
   cases A
   change z=y at o
   subst o
   obtain⟨c,n,l,_⟩:=g 0 _ rfl
   refine⟨by simp[Ty.size],by rfl,?_⟩
   have:=H7 l
   subst this
   exact n
 | .bool,cs,get,y,r,g,_,d=>by
  cases cs with
  | nil=>grind[D2]
  | cons s q =>
   cases s with
   | sc t z=>?_
   | _=>grind[D2]
   obtain⟨j,rfl⟩:=W1 d
   obtain⟨A,o⟩:=H2 j
   cases A
   change z=y at o
   subst o
   obtain⟨c,n,l,_⟩:=g 0 _ rfl
   refine⟨by simp[Ty.size],by rfl,?_⟩
   have:=q0s l
   subst this
   exact n
 | .nil,cs,get,y,r,g,_,d=>by
  have:r=cs:=by grind[D2]
  exact⟨by simp[Ty.size],by grind[Ty.size],trivial⟩
 | .list e,cs,get,y,r,g,f,d=>by
  cases cs with
  | nil=>grind[D2]
  | cons s q =>
   obtain⟨j,rfl⟩:=W1 d
   obtain⟨c,n,l,_⟩:=g 0 s rfl
   refine⟨by simp[Ty.size],by rfl,?_⟩
   have:=j64 u x e s c l j (fun id p=>f id (by grind[F9]) (.inl (y7v j id p)))
   grind[RepAt.congr,Ty.size,F7]
 | .map K B k v,cs,get,y,r,g,f,d=>by
  cases cs with
  | nil=>grind[D2]
  | cons s q =>
   obtain⟨j,rfl⟩:=W1 d
   obtain⟨c,n,l,_⟩:=g 0 s rfl
   refine⟨by simp[Ty.size],by rfl,?_⟩
   have:=j6f u x K B k v s c l j (fun id p=>f id (by grind[F9]) (.inr (y8i j id p)))
   grind[RepAt.congr,Ty.size,F7]
 | .cons a b,cs,get,y,r,g,f,d=>by
  simp[D2]at d
  split at d
  ·rename_i C H j
   split at d
   ·rename_i I D M
    simp[Option.some.injEq,Prod.mk.injEq]at d
    obtain⟨J,l⟩:=d
    subst l;subst J
    obtain⟨O,G,N⟩:=U2 u x a cs get C H g f j
    subst G
    obtain⟨R,E,F⟩:=U2 u x b (cs.drop a.size) (fun c=>get (a.size+c)) I D (fun i s Q=>g (a.size+i) s (by grind))
     (fun id p=>f id (by
      grind[F9])) M
    refine⟨by grind[Ty.size],by rw[E];simp[Ty.size],N,F⟩
   grind
  grind
theorem q20 {t:TypeId} {d:TypeDesc} (h:P.underlying t=some d) (w:World):(isAgg t).run P w=.ok (V7 d) w:=by
 unfold isAgg
 rw[Sem.run_bind,run_underlying h]
 cases d<;>rfl
theorem q61 {t:TypeId} {i:TypeInfo} (h:P.info? t=some i) (w:World):(typeInfo t).run P w=.ok i w:=by
 unfold typeInfo
 simp[h]
theorem S6 {t:TypeId} {i:TypeInfo} (h:P.info? t=some i) (w:World):(sizeOf t).run P w=.ok i.size w:=by
 unfold sizeOf
 simp[q61 h]
theorem Q0 (b o j:Nat):(⟨b,o,none⟩:Addr).add j=⟨b,o+j,none⟩:=by
 grind[Addr.add]
theorem q5j {R:Type} {k:TInfo} {T:TypeId} (p:k.OK P T) {cs:List SV} {a:Nat} {K:AV->Option R} {x:R} (l:Z0 k cs a K=some x) :
  ∃ y,K y=some x/\∀ (n:A2) (h:Heap) (w:World) (b o:Nat),
   (∀ (i:Nat) (s:SV),cs[i]? = some s->∃ v,w.cell? ⟨b,o+i,none⟩=some v/\RepSV L n h w s v/\v.oneCell'=true) ->
   ∃ v,(loadVar T ⟨b,o+a,none⟩).run P w=.ok v w/\RepAV L n h w y v:=by
 obtain⟨⟨i,z,H,B,-⟩,d,r,e,-⟩:=p.base
 unfold Z0 at l
 split at l
 ·rename_i g
  cases m:Nat.ble (a+k.size) cs.length with
  | false=>grind
  | true =>
   rw[m]at l
   have t:=Nat.le_of_ble_eq_true m
   refine⟨_,l,fun n h w b o q=>?_⟩
   have E:∀ j,j<k.size->∃ v,w.cell? ⟨b,o+(a+j),none⟩=some v/\∃ s,cs[a+j]? = some s/\RepSV L n h w s v/\v.oneCell'=true:=by
    intro j D
    obtain⟨v,u,A⟩:=q (a+j) (cs[a+j]'(by omega)) (List.getElem?_eq_getElem (by omega))
    grind
   let f:Nat->Value:=fun j=>(w.cell? ⟨b,o+(a+j),none⟩).getD undef
   have G:∀ j,j<k.size->w.cell? ((⟨b,o+a,none⟩:Addr).add j)=some (f j):=by
    grind[Q0]
   refine⟨.agg ((List.range k.size).map f).toArray,?_,(List.range k.size).map f,rfl,by grind,fun j s c D F=>?_⟩
   ·unfold loadVar
    rw[Sem.run_bind,q20 r,e,g]
    grind[Result.andThen_ok,Sem.run_bind,S6,run_loadCells,Sem.run_pure]
   grind
 ·rename_i g
  split at l
  ·rename_i s C
   refine⟨_,l,fun n h w b o q=>?_⟩
   obtain⟨v,u,A,_⟩:=q a s C
   refine⟨v,?_,A⟩
   unfold loadVar
   rw[Sem.run_bind,q20 r,e,g]
   simp[u]
  grind
theorem j3j {κ:A2} {h:Heap} {w:World} {l:List SV} {cs:List Value} {b:Nat} {ty:TypeId} {f:Nat×Nat} (hh:w.heap[b]? = some (.cells cs.toArray ty f))
  (c:RepCells L κ h w l cs):∀ (i:Nat) (s:SV),l[i]? = some s->∃ v,w.cell? ⟨b,0+i,none⟩=some v/\RepSV L κ h w s v/\v.oneCell'=true:=by
 intro i s e
 have a:i<cs.length:=by rw[c.1];grind
 have d:cs[i]? = some cs[i]:=List.getElem?_eq_getElem a
 refine⟨cs[i],?_,c.2 i s _ e d⟩
 grind[World.cell?]
theorem z5m {κ:A2} {h:Heap} {w:World} {id:Nat} {e:TypeId} {t:Ty} {l:List t.den} (k:RepArr L κ h w id e t l) {b i:Nat} {cap:Nat×Nat} {y:t.den} (n:κ id=some (b,cap)) (m:l[i]? = some y) :
  RepAt w (A3 L κ h w) t (fun j=>if j<t.size then w.cell? ⟨b,cap.2+i*t.size+j,none⟩else none) y:=by
 rcases k with⟨c,_⟩ | ⟨o,d,f,c,a,_,_,_,_,g⟩
 all_goals grind[World.cell?]
theorem j43 {κ:A2} {h:Heap} {w:World} {t:Ty} {y:t.den} {b o:Nat}
  (a:RepAt w (A3 L κ h w) t (fun j=>if j<t.size then w.cell? ⟨b,o+j,none⟩else none) y) :
  ∀ (i:Nat) (s:SV),(F6 t y)[i]? = some s->∃ v,w.cell? ⟨b,o+i,none⟩=some v/\RepSV L κ h w s v/\v.oneCell'=true:=by
 grind[T2]
theorem q3m {a:Act} {o:Oper} {T:TypeId} {x:Operand} {c:Addr} (e:o.op=.load T x) (d:a.eval x=.pointer (some c)) (w:World) {v:Value}
  (h:(loadVar T c).run P w=.ok v w):(execOp a.eval o).run P w=.ok (.value v) w:=by
 unfold execOp
 rw[e]
 simp[Instr.loadAt,Instr.sureAddr,d,h]
theorem j8n {R:Type} {o:Oper} {T:TypeId} {x:Operand} {V:TInfo} (B:V.OK P T) (Q:o.op=.load T x) {ρ:Env} {h:Heap} {K:Eff->Option R} {z:R}
  (A:q6z V h (ev ρ x) K=some z):∃ e,K e=some z/\e.full=none/\∀ f g,ev f x=ev ρ x->(∀ id∈e.rd,g id=h id)->A6 P L w0 o f g (e.heap g) e.av:=by
 have q:∀ c,o.op≠.defer c:=fun c hc=>by grind
 unfold q6z at A
 split at A
 ·rename_i id off E
  split at A
  ·rename_i l u
   obtain⟨J,F,H⟩:=q5j (L:=L) B A
   refine⟨_,F,rfl,fun f g m N=>D1 q fun C a w p O=>?_⟩
   have d:=p x
   rw[m,E]at d
   obtain⟨_,b,c,U,D⟩:=d
   have r:=O.obj id
   rw[N id (by simp[E9]),u]at r
   obtain⟨b',c',cs,ty,I,G,hcs⟩:=r
   rw[U]at I;simp at I;obtain⟨rfl,rfl⟩:=I
   obtain⟨v,j,n⟩:=H C g w b 0 (j3j G hcs)
   rw[Nat.zero_add]at j
   exact⟨v,q3m Q D w j,n⟩
  grind
 ·rename_i id t i c E
  have key:∀ (S:TypeId) (l:List t.den),(h id=.arr S t l\/h id=.ice S t l)->((l[i]?).bind fun y=>Z0 V (F6 t y) c fun J=>K (E9 J [id]))=some z ->
    ∃ e,K e=some z/\e.full=none/\∀ f g,ev f x=ev ρ x->(∀ id∈e.rd,g id=h id)->A6 P L w0 o f g (e.heap g) e.av:=by
   intro S l u Y
   cases hy:l[i]? with
   | none=>grind
   | some y =>
    rw[hy]at Y
    simp[Option.bind_some]at Y
    obtain⟨J,F,H⟩:=q5j (L:=L) B Y
    refine⟨_,F,rfl,fun f g m N=>D1 q fun C a w p O=>?_⟩
    have d:=p x
    rw[m,E]at d
    obtain⟨_,b,W,U,D⟩:=d
    have r:=O.obj id
    have M:RepArr L C g w id S t l:=by
     rcases u with u | u<;>rw[N id (by simp[E9]),u]at r
     ·exact r
     ·exact r.1
    obtain⟨v,j,n⟩:=H C g w b (W.2+i*t.size) (j43 (z5m M U hy))
    exact⟨v,q3m Q D w j,n⟩
  split at A
  ·split at A
   ·rename_i Z _;subst Z;grind
   grind
  ·split at A
   ·rename_i Z _;subst Z;grind
   grind
  grind
 ·rename_i t y c E
  obtain⟨J,F,H⟩:=q5j (L:=L) B A
  refine⟨_,F,rfl,fun f g m N=>D1 q fun C a w p O=>?_⟩
  have d:=p x
  rw[m,E]at d
  obtain⟨b,X,D,hf,hr⟩:=d
  obtain⟨v,j,n⟩:=H C g w b X (j43 hr)
  exact⟨v,q3m Q D w j,n⟩
 ·rename_i k y E
  obtain⟨J,F,H⟩:=q5j (L:=L) B A
  refine⟨_,F,rfl,fun f g m N=>D1 q fun C a w p O=>?_⟩
  have d:=p x
  rw[m,E]at d
  obtain⟨b,X,D,hst,hc⟩:=d
  obtain⟨v,j,n⟩:=H C g w b X (fun i s hi=>by
   cases i with
   | zero =>
    simp[List.getElem?_cons_zero,Option.some.injEq]at hi
    subst hi
    exact⟨_,hc,⟨rfl,rfl,rfl⟩,rfl⟩
   | succ i=>grind)
  exact⟨v,q3m Q D w (by omega),n⟩
 grind
end Go.Abs
