/- Lemmas on functions of the program, by name. -/
import Derived.Test.YtecofmaegcibeaaGreatDoorPQFuns
import Derived.Test.YtecofmaegcibeaaGreatDoorAbsSums
import Derived.Test.YtecofmaegcibeaaGreatDoorPQLemmasPostPlays3
namespace Go.Proofs.Tryz
section
open Go Go.Abs

abbrev H8:=Int×(Stp×Unit)
abbrev Nw:=Nat×List Mk×List Mk
def B9 {α:Type} (f:Nat->α) (k:Nat) (v:α):Nat->α:=λc=>if c=k then v else f c
variable {α:Type}
theorem q19 (f:Nat->α) (k:Nat) (v:α):B9 f k v k=v:=if_pos rfl
theorem q8l (f:Nat->α) {k c:Nat} (v:α) (h:c≠k):B9 f k v c=f c:=if_neg h
theorem K0 (f:Nat->α) (k:Nat):B9 f k (f k)=f:=by
 funext c;unfold B9;split
 ·rename_i h;rw[h]
 ·rfl
theorem R2 (n:Nat) (f:Nat->α) (k:Nat) (v:α):(tab n f).set k v=tab n (B9 f k v):=q1v ..
def ofN (v:Nat) (G:List Nw):List Nw:=G.filter λx=>decide (x.1=v)
variable {v:Nat}
theorem y2j {x:Nw} {l:List Nw} (h:x.1=v):ofN v (x::l)=x::ofN v l:=by simp[ofN,h]
theorem y2i {x:Nw} {l:List Nw} (h:x.1≠v):ofN v (x::l)=ofN v l:=by simp[ofN,h]
theorem j3o (v:Nat) (l:List Nw) (y:Nw):ofN v (l++[y])=ofN v l++if y.1=v then [y]else []:=by
 unfold ofN;rw[bW];by_cases h:y.1=v<;>simp[h]
def L9 (K:Nat->Nat) (w:Nat):(Nat->Nat)->List Nw->List Mk
 | _,[]=>[]
 | c,x::r=>(if c x.1<K x.1\/x.1=w then x.2.2 else [])++L9 K w (B9 c x.1 (c x.1+1)) r
theorem j32 {K:Nat->Nat} {w:Nat} {y:Nw}:∀(l:List Nw) (c:Nat->Nat),L9 K w c (l++[y])=L9 K w c l++if c y.1+(ofN y.1 l).length<K y.1\/y.1=w then y.2.2 else []
 | [],c=>bP _
 | x::l,c=>by
  rw[ee,L9,L9,j32 l,aS];by_cases h:x.1=y.1
  ·rw[y2j h,h,q19,ai,show c y.1+1+(ofN y.1 l).length=c y.1+((ofN y.1 l).length+1)by omega]
  ·rw[y2i h,q8l _ _ (Ne.symm h)]
theorem y13 {K:Nat->Nat} {v w:Nat}:∀(l:List Nw) (c:Nat->Nat),K v<c v->L9 (B9 K v (K v+1)) w c l=L9 K w c l
 | [],_,_=>rfl
 | x::l,c,h=>by
  have hc:K v<B9 c x.1 (c x.1+1) v:=by
   unfold B9;split
   ·rename_i e;rw[<-e];omega
   ·exact h
  rw[L9,L9,y13 l _ hc];congr 1;by_cases e:x.1=v
  ·rw[e,q19];by_cases hw:v=w
   ·simp[hw]
   ·rw[if_neg (by omega),if_neg (by omega)]
  ·rw[q8l _ _ e]
theorem j31 {K:Nat->Nat} {v w:Nat} (hv:v≠w):∀(l:List Nw) (c:Nat->Nat) (x:Nw),c v<=K v->(ofN v l)[K v-c v]? = some x->(L9 (B9 K v (K v+1)) w c l).Perm (L9 K w c l++x.2.2)
 | [],c,x,_,h=>by simp[ofN]at h
 | y::l,c,x,hc,h=>by
  by_cases e:y.1=v
  ·rw[y2j e]at h;rw[L9,L9,e,q19];by_cases h0:c v=K v
   ·rw[h0,fE]at h;cases h;rw[if_pos (by omega),if_neg (by omega),y13 l _ (by rw[q19];omega),cN];exact dX
   ·rw[if_pos (by omega),if_pos (by omega),aS];refine dY _ (j31 hv l _ x (by rw[q19];omega) ?_);rw[q19];rw[show K v-c v=K v-(c v+1)+1 by omega,bz]at h;exact h
  ·rw[y2i e]at h;rw[L9,L9,q8l _ _ e,aS];refine dY _ (j31 hv l _ x (by rw[q8l _ _ (Ne.symm e)];exact hc) ?_);rw[q8l _ _ (Ne.symm e)];exact h
theorem y0z {K:Nat->Nat} {w:Nat} {r:Mk}:∀(l:List Nw) (c:Nat->Nat),r∈L9 K w c l->∃x∈l,r∈x.2.2
 | [],_,h=>by cases h
 | y::l,c,h=>by
  rw[L9]at h;rcases aQ.1 h with h | h
  ·split at h
   ·exact⟨y,ar,h⟩
   ·cases h
  ·obtain⟨x,h1,h2⟩:=y0z l _ h;exact⟨x,aj _ h1,h2⟩
theorem j30 {K:Nat->Nat} {w b:Nat}:∀(l:List Nw) (c:Nat->Nat),(∀x∈l,x.2.2.length<=b)->(L9 K w c l).length<=l.length*b
 | [],_,_=>cB _
 | y::l,c,h=>by
  have h1:=h y ar;have h2:=j30 (K:=K) (w:=w) l (B9 c y.1 (c y.1+1)) λx hx=>h x (aj _ hx);rw[L9,aK,ai,cP];split
  ·omega
  ·simp only[aq];omega
def G3 (F:List Mk) (K:Nat->Nat) (w:Nat) (G:List Nw):List Mk:=F++L9 K w (λ_=>0) G
theorem v5o (k:KyK) (a:Int) (x y:Mk):K4 k (K4 k a x) y=K4 k (K4 k a y) x:=by
 unfold K4;by_cases hx:kyM x=k<;>by_cases hy:kyM y=k<;>simp only[hx,hy,if_true,if_false];unfold Wk;rw[y8t,y8t];congr 1;omega
variable {L:List Mk}
theorem k42 {L':List Mk} (h:L.Perm L') (k:KyK):G5 L k=G5 L' k:=by
 have key:∀{L L':List Mk},L.Perm L'->∀a,L.foldl (K4 k) a=L'.foldl (K4 k) a:=by
  intro L L' h
  induction h with
  | nil=>intro a;rfl
  | cons x _ ih=>intro a;exact ih _
  | swap x y l=>intro a;simp only[List.foldl_cons,v5o]
  | trans _ _ i1 i2=>intro a;rw[i1,i2]
 exact key h 0
variable {m:BgK}
theorem z3h (h:BagK m (G5 L)) (l:List Mk):BagK (G9 l m) (G5 (L++l)):=by
 have:=j08 l h;have e:z2g l (G5 L)=G5 (L++l):=by
  funext k;rw[j5u];unfold G5;rw[List.foldl_append]
 rwa [e]at this
theorem j7g {L':List Mk} (h:BagK m (G5 L)) (hp:L.Perm L'):BagK m (G5 L'):=by
 have e:G5 L=G5 L':=funext λk=>k42 hp k
 rwa [<-e]
theorem j7f:BagK [] (G5 []):=⟨List.Pairwise.nil,λ_=>rfl,λ_ h=>by cases h⟩
theorem v2b (h:BagK m (G5 L)):m=G9 L []:=v2a h (by simpa using z3h j7f L)
end

section
open Go Go.Abs

abbrev Rw:=Option BgK×(Option (List Stp)×(List (List (List Mk))×Unit))
abbrev St6:=Int×(Int×(Int×(Stp×(Bool×(List H8×Unit)))))
def wkF (n:Nat) (M:Nat->BgK) (A:Nat->List Stp) (Q:Nat->Nat->List (List Mk)):Nat->Rw:=λw=>(some (M w),some (A w),tab n (Q w),())
def wk (n:Nat) (M:Nat->BgK) (A:Nat->List Stp) (Q:Nat->Nat->List (List Mk)):List Rw:=tab n (wkF n M A Q)
theorem O8 (n:Nat) (M:Nat->BgK) (A:Nat->List Stp) (Q:Nat->Nat->List (List Mk)):(wk n M A Q).length=n:=E8 ..
theorem q04 {n k:Nat} (M:Nat->BgK) (A:Nat->List Stp) (Q:Nat->Nat->List (List Mk)) (h:k<n):(wk n M A Q)[k]? = some (some (M k),some (A k),tab n (Q k),()):=H7 _ h
theorem q4e (n k:Nat) (M:Nat->BgK) (A:Nat->List Stp) (Q:Nat->Nat->List (List Mk)) (m:BgK) (a:List Stp) (q:Nat->List (List Mk)):(wk n M A Q).set k (some m,some a,tab n q,())=wk n (B9 M k m) (B9 A k a) (B9 Q k q):=by
 unfold wk;rw[R2];grind[M3,wkF,B9]
theorem y8p (n k:Nat) (M:Nat->BgK) (A:Nat->List Stp) (Q:Nat->Nat->List (List Mk)) (a:List Stp):(wk n M A Q).set k (some (M k),some a,tab n (Q k),())=wk n M (B9 A k a) Q:=by grind[q4e,K0]
theorem y8q (n k v:Nat) (M:Nat->BgK) (A:Nat->List Stp) (Q:Nat->Nat->List (List Mk)) (q:List (List Mk)):(wk n M A Q).set k (some (M k),some (A k),(tab n (Q k)).set v q,())=wk n M A (B9 Q k (B9 (Q k) v q)):=by grind[R2,q4e,K0]
theorem j64 (n k:Nat) (M:Nat->BgK) (A:Nat->List Stp) (Q:Nat->Nat->List (List Mk)):(wk n M A Q).set k (some (M k),some (A k),tab n (Q k),())=wk n M A Q:=by grind[q4e,K0]
theorem q1k {α R:Type} (x:α) (a:Option R) (f:α->Option R):P7 (some x) a f=f x:=rfl
noncomputable def thX (l:List Int) (m:Int):(Int×Unit)->Option ((Int×Unit)⊕((Int×Unit)⊕(Unit)⊕Empty)):=λy62 =>
 (cond (decide (y62.1<(l.length:Int))) (cond (inB y62.1 l.length) ((l[y62.1.toNat]?).bind λv63=>(cond (decide (v63<(0:Int))) (some (Sum.inr (Sum.inl y62))) (cond (decide (v63≥m)) (some (Sum.inr (Sum.inl y62))) (some (Sum.inl ((IntKind.i64.wrap (y62.1+(1:Int))),())))))) none) (some (Sum.inr (Sum.inr (Sum.inl ())))))
theorem j5p (l:List Int) (m:Int) {i:Nat} (hi:i<l.length) (a:l.length<=100):thX l m ((i:Int),())=some (if l[i]<0\/m<=l[i]then .inr (.inl ((i:Int),()))else .inl (((i+1:Nat):Int),())):=by
 grind[thX,C3,B2]
theorem y80 (l:List Int) (m:Int):thX l m ((l.length:Int),())=some (.inr (.inr (.inl ()))):=by
 grind[thX]
theorem th1 (v m:Int):A1 (thX [v] m) ((0:Int),())=some (if v<0\/m<=v then .inl ((0:Int),())else .inr (.inl ())):=by
 have h:=j5p [v] m (i:=0) (by simp) (by simp);simp[eQ]at h;by_cases a:v<0\/m<=v
 ·grind[D9]
 ·rw[if_neg a]at h ⊢;exact(H4 h).trans (D9 (y80 [v] m))
theorem th2 (v w m:Int):∃i:Nat,A1 (thX [v,w] m) ((0:Int),())=some (if(v<0\/m<=v)\/w<0\/m<=w then .inl ((i:Int),())else .inr (.inl ())):=by
 have h:=j5p [v,w] m (i:=0) (by simp) (by simp);have a:=j5p [v,w] m (i:=1) (by simp) (by simp);simp[eQ,List.getElem_cons_succ]at h a;by_cases c:v<0\/m<=v
 ·exact⟨0,by grind[D9]⟩
 ·rw[if_neg c]at h;by_cases b:w<0\/m<=w
  ·rw[if_pos b]at a;exact⟨1,by rw[if_pos (.inr b)];exact(H4 h).trans (D9 a)⟩
  ·rw[if_neg b]at a;exact⟨0,by rw[if_neg (by omega)];exact(H4 h).trans ((H4 a).trans (D9 (y80 [v,w] m)))⟩
theorem k1g {t u:List Int} (h1:t.length<=4) (b:t.length=u.length) (a0:(t[0]?).getD 0=(u[0]?).getD 0) (a1:(t[1]?).getD 0=(u[1]?).getD 0) (a2:(t[2]?).getD 0=(u[2]?).getD 0) (a:(t[3]?).getD 0=(u[3]?).getD 0):t=u:=by
 grind[List.ext_getElem]
theorem y8a {s s':Stp} (h1:s.2.1.length<=4):z2l (s,s',())=some (decide (s=s'),()):=by
 unfold z2l q2u;simp[aa];congr 2;grind[k1g]
theorem j48 {s s':Stp} (h1:s.2.1.length<=4):q76 (s,s',())=some (decide (s=s'),()):=by
 obtain⟨a,t,⟨⟩⟩:=s;obtain⟨b,u,⟨⟩⟩:=s';unfold q76;simp[q41 (show t.length<=1000000 by grind),aa,q0b];by_cases h:a=b
 all_goals simp_all
theorem v4n (A:List Stp) (s:St6) (d:∀x∈A,x.2.1.length<=4) (j:A.length<=1000000) :
  (s.2.2.2.1∉A/\A1 (q3w A s) ((0:Int),())=some (.inr (.inl ())))\/∃(i:Nat) (h:i<A.length),A[i]=s.2.2.2.1/\A1 (q3w A s) ((0:Int),())=some (.inl ((i:Int),())):=by
 have b:=P5 (f:=q3w A s) A.length (λi=>((i:Int),())) (fun(i:Nat)=>if A[i]? = some s.2.2.2.1 then some ((i:Int),())else none) (.inl ()) (λi a=>by
  unfold q3w;simp (disch:=omega) only [dcT,cond_true,C3 a,ah,af a,aa,y8a (d _ (ay a)),B2,q36,aN];split<;>rfl) (by
  grind[q3w]) (s0:=((0:Int),())) rfl
 rw[b];cases c:(List.range A.length).findSome? fun(i:Nat)=>if A[i]? = some s.2.2.2.1 then some (((i:Int),()):Int×Unit)else none with
 | none =>
  refine .inl ⟨λg=>?_,rfl⟩;grind[List.mem_iff_getElem]
 | some p =>
  obtain⟨i,a,h⟩:=dQ c;have a:=aL.1 a;split at h
  ·rename_i e;cases h;rw[af a]at e;exact .inr ⟨i,a,bI e,rfl⟩
  grind
end

section
open Go Go.Abs

def I9 (n:Nat) (N:List B5) (g:H8):Int:=if g.1<0\/(n:Int)<=g.1 then 2 else L2 N g.2.1.1 g.2.1.2.1
def q1e (P:Tb) (t s:Stp):Bool:=(P t.1.toNat s.1.toNat).any (λx=>W9 x t.2.1 s.2.1)&&!decide (t=s)
def K8 (n:Nat) (N:List B5) (P:Tb) (t:Stp) (g:H8):Int:=if I9 n N g=0 then(if q1e P t g.2.1=true then 0 else 11)else I9 n N g
def q4t (f:H8->Int) (l:List H8):Option Int:=l.findSome? λg=>if f g=0 then none else some (f g)
def q1b (n:Nat) (N:List B5) (P:Tb) (t:Stp) (g:H8):Option (Int×Unit):=if K8 n N P t g=0 then none else some (K8 n N P t g,())
def G2 (A:Nat->List Stp) (l:List H8):Nat->List Stp:=l.foldl (λA g=>B9 A g.1.toNat (A g.1.toNat++[g.2.1])) A
def gmk (g:H8):Mk:=(g.2.1.1,g.2.1.2.1,1,())
def OkS (N:List B5) (s:Stp):Prop:=∃k:Nat,s.1=(k:Int)/\k<N.length/\chk s.2.1=0/\s.2.1.length=B0 N k
def OkM (N:List B5) (r:Mk):Prop:=∃k:Nat,r.1=(k:Int)/\k<N.length/\chk r.2.1=0/\r.2.1.length=B0 N k
theorem OkS.le {N:List B5} {s:Stp} (h:OkS N s):s.2.1.length<=4:=by
 obtain⟨_,_,_,h,_⟩:=h;grind[U7]
theorem y02 {A H:Nat->List Stp}:∀(l:List H8) {A H:Nat->List Stp},(∀w,(A w).Perm (H w))->∀w,(G2 A l w).Perm (G2 H l w)
 | [],_,_,h=>h
 | g::l,A,H,h=>y02 (A:=A) (H:=H) l (λw=>by
  grind[B9])
theorem q4x (w:Nat):∀(l:List H8) (A:Nat->List Stp),(G2 A l w).length<=(A w).length+l.length
 | [],_=>ax _
 | g::l,A=>by
  have h:=q4x w l (B9 A g.1.toNat (A g.1.toNat++[g.2.1]));refine bw h ?_;unfold B9;split
  ·rename_i e;rw[e,aK,ai,ai];simp[aq];omega
  ·rw[ai];omega
theorem j2b {w:Nat} {s:Stp}:∀(l:List H8) (A:Nat->List Stp),s∈G2 A l w->s∈A w\/∃g∈l,g.2.1=s
 | [],_,h=>.inl h
 | g::l,A,h=>by
  rcases j2b l _ h with h | ⟨b,a,c⟩
  ·replace h:s∈B9 A g.1.toNat (A g.1.toNat++[g.2.1]) w:=h;unfold B9 at h;split at h
   ·rename_i e;rcases aQ.1 h with h | h
    ·exact .inl (e▸h)
    ·exact .inr ⟨g,ar,by simpa using Eq.symm (ck.1 h)⟩
   ·exact .inl h
  ·exact .inr ⟨b,aj _ a,c⟩
theorem z4m (A:Nat->List Stp) {l:List H8} {i:Nat} (hi:i<l.length):G2 A (l.take (i+1))=B9 (G2 A (l.take i)) l[i].1.toNat (G2 A (l.take i) l[i].1.toNat++[l[i].2.1]):=by
 unfold G2;grind[List.take_succ_eq_append_getElem]
section
variable {N:List B5} {E:List Edge} {n:Nat}
theorem q1a (a:N.all D5=true) {g:H8} (h:I9 n N g=0):(∃k:Nat,g.1=(k:Int)/\k<n)/\OkS N g.2.1:=by
 unfold I9 at h;split at h
 ·omega
 ·exact⟨⟨g.1.toNat,by omega,by omega⟩,y7h a h⟩
theorem y1b (g:GR N.length (B0 N) (B3 N) (edN E)) {P:Tb} (hP:PF N.length (B0 N) (B3 N) (edN E) P) (hb:∀u v,∀x∈P u v,bx x) {t s:Stp} (ht:OkS N t) (hs:OkS N s) :
  z2k (((N,E,()),sq N.length P,()),t,s,())=some (q1e P t s,())/\z07 ((N,E,()),sq N.length P,t,s,())=some (q1e P t s,()):=by
 have h4:=ht.le;obtain⟨a,t,⟨⟩⟩:=t;obtain⟨b,u,⟨⟩⟩:=s;obtain⟨u0,e1,hu,hcu,hlu⟩:=ht;obtain⟨v0,e2,hv,hcv,hlv⟩:=hs;simp only at e1 e2 hcu hlu hcv hlv h4;subst e1;subst e2;obtain⟨c2,c1⟩:=k0p g hP hb hu hv hcu hlu hcv hlv;have hn:=g.n12;have e3:q1e P ((u0:Int),t,()) ((v0:Int),u,())=((P u0 v0).any (λs=>W9 s t u)&&!decide ((((u0:Int),t,()):Stp)=((v0:Int),u,()))):=rfl;rw[e3];generalize (P u0 v0).any (λs=>W9 s t u)=q at *
 have c1':∀x:((List B5×List Edge×Unit)×(List (List Sm)×Unit))×Stp×Stp×Unit,x.2.1.2.1=t->x.2.2.1.2.1=u->A1 (j5v x (P u0 v0)) ((0:Int),(false,()),())=some (if q=true then .inl ((true,()),())else .inr (.inl ((false,()),()))):=λx e1 e2=>by
  have:j5v x (P u0 v0)=q85 t u (P u0 v0):=by rw[<-e1,<-e2];rfl
  rw[this];exact c1
 constructor
 ·unfold z2k;simp only[q4z hu hv (show N.length<=16 by omega),z8t P hu hv,aa];rw[c1' _ rfl rfl];cases q with
  | true =>
   simp only[if_true,aa,am,cond_true,cK];rw[y8a (s:=((u0:Int),t,())) h4];rfl
  | false=>rfl
 ·unfold z07;rw[c2];simp only[aa];rw[j48 (s:=((u0:Int),t,())) h4];cases q<;>rfl
theorem v5b (g:GR N.length (B0 N) (B3 N) (edN E)) {P:Tb} (hN:N.all D5=true) (hP:PF N.length (B0 N) (B3 N) (edN E) P) (hb:∀u v,∀x∈P u v,bx x) {Fi:List H8} {S:List St6} (s:St6) (hs:OkS N s.2.2.2.1) (hl:s.2.2.2.2.2.1.length<=1000) (W:List Rw) (hW:W.length=n) (i:Int) (cs:List Int) (z1:List (List Stp×(List Mk×(List (List (List Int))×(List Int×Unit))))) :
  A1 (z6e ((N,E,()),(n:Int),Fi,S,()) s (i,cs,z1,(),W,()) (sq N.length P,())) ((0:Int),())=some (O1 ((q4t (K8 n N P s.2.2.2.1) s.2.2.2.2.2.1).map λc=>(c,())) (.inl ())):=by
 have e:(q4t (K8 n N P s.2.2.2.1) s.2.2.2.2.2.1).map (λc=>(c,()))=(List.range s.2.2.2.2.2.1.length).findSome? (λi=>q1b n N P s.2.2.2.1 (s.2.2.2.2.2.1.getD i (0,(0,[],()),()))):=by
  refine fH ?_ (y3v ((0,(0,[],()),()):H8) (q1b n N P s.2.2.2.1) s.2.2.2.2.2.1).symm;unfold q4t;rw[fu];refine congrArg (λf=>List.findSome? f s.2.2.2.2.2.1) (funext λg=>?_);show((if _ then none else some _:Option Int).map λc=>(c,()))=q1b ..
  unfold q1b;split<;>rfl
 rw[e];refine P5 _ (λi=>((i:Int),())) _ _ (λj hj=>?_) ?_ rfl
 ·unfold z6e q1b;rw[aR,af hj,bm];generalize hg:s.2.2.2.2.2.1[j]=w;have ht:A1 (y3l w (i,cs,z1,(),W,())) ((0:Int),())=some (if w.1<0\/(n:Int)<=w.1 then .inl ((0:Int),())else .inr (.inl ())):=by rw[<-hW];exact th1 _ _
  simp (disch:=omega) only [dcT,cond_true,C6 hj,hg,aa,ht,B2];have hc:q2l ((N,E,()),w.2.1,())=some (L2 N w.2.1.1 w.2.1.2.1,()):=j44 _ _;by_cases h1:w.1<0\/(n:Int)<=w.1
  ·have e1:K8 n N P s.2.2.2.1 w=2:=by unfold K8 I9;rw[if_pos h1];rfl
   rw[if_pos h1,e1];rfl
  ·have e1:I9 n N w=L2 N w.2.1.1 w.2.1.2.1:=by unfold I9;rw[if_neg h1]
   rw[if_neg h1];simp (disch:=omega) only [aa,bt,am,dcF,bv,bp,cond_false,hc,O0];by_cases h2:L2 N w.2.1.1 w.2.1.2.1=0
   ·have hl:=(y1b g hP hb hs (q1a (n:=n) hN (g:=w) (by rw[e1,h2])).2).1;have hl':z2k (((N,E,()),sq N.length P,()),s.2.2.2.1,w.2.1,())=some (q1e P s.2.2.2.1 w.2.1,()):=hl;have e2:K8 n N P s.2.2.2.1 w=if q1e P s.2.2.2.1 w.2.1=true then 0 else 11:=by unfold K8;rw[e1,if_pos h2]
    rw[if_pos h2,hl',e2];cases q1e P s.2.2.2.1 w.2.1<;>rfl
   ·have e2:K8 n N P s.2.2.2.1 w=L2 N w.2.1.1 w.2.1.2.1:=by unfold K8;rw[e1,if_neg h2]
    rw[if_neg h2,e2,if_neg h2];rfl
 ·unfold z6e;simp (disch:=omega) only [dcF,cond_false]
end
end

section
open Go Go.Abs

theorem j24 {α:Type} (f:Nat->α) (k:Nat) (a b:α):B9 (B9 f k a) k b=B9 f k b:=by
 funext c;unfold B9;split<;>rfl
theorem z9s (m:BgK) (a:Int) (t:List Int) (v:Int):((q2u (a,t,())).bind λb=>(cond (((D2 KK (C9 KK (F4 KK m b.1 (0:Int)) b.1 (IntKind.i64.wrap (((D2 KK m b.1).getD (0:Int))+v))) b.1).getD (0:Int))==(0:Int)) (some (Sum.inl ((H2 KK (C9 KK (F4 KK m b.1 (0:Int)) b.1 (IntKind.i64.wrap (((D2 KK m b.1).getD (0:Int))+v))) b.1),()))) (some (Sum.inl ((C9 KK (F4 KK m b.1 (0:Int)) b.1 (IntKind.i64.wrap (((D2 KK m b.1).getD (0:Int))+v))),()))):Option ((BgK×Unit)⊕Empty)))=some (.inl (Q0 m (a,E0 t) v,())):=by
 have c:∀M:BgK,(cond (((D2 KK M (a,E0 t)).getD (0:Int))==(0:Int)) (some (Sum.inl (H2 KK M (a,E0 t),()))) (some (Sum.inl (M,()))):Option ((BgK×Unit)⊕Empty)) =
   some (.inl (cond (J7 M (a,E0 t)==0) (H2 KK M (a,E0 t)) M,())):=λM=>by
  show cond (J7 M (a,E0 t)==0) _ _=_;cases J7 M (a,E0 t)==0<;>rfl
 exact c _
theorem k4v {n:Nat} {M:Nat->BgK} {A:Nat->List Stp} {Q Q':Nat->Nat->List (List Mk)} (h:∀w,w<n->Q w=Q' w):wk n M A Q=wk n M A Q':=M3 λw a=>by grind[wkF]
theorem j7e {l:List Mk} {i:Nat} (hi:i<l.length) (m:BgK):G9 (l.take (i+1)) m=Q0 (G9 (l.take i) m) (kyM l[i]) l[i].2.2.1:=by
 grind[G9,List.take_succ_eq_append_getElem]
variable {k:Nat}
section
variable {N:List B5} {E:List Edge} {n:Nat} {M:Nat->BgK} {A:Nat->List Stp} {Q:Nat->Nat->List (List Mk)}
theorem y1d (pn:List Mk) (e:pn.length<=1000) (b:List Rw) (s:St6) (c:k<n) (hs:s.2.1=(k:Int)):A1 (q9x (pn,b,()) s) ((0:Int),wk n M A Q,())=some (.inl (wk n (B9 M k (G9 pn (M k))) A Q,())):=by
 have d:A1 (q9x (pn,b,()) s) ((0:Int),wk n M A Q,())=some (.inl (wk n (B9 M k (G9 (pn.take pn.length) (M k))) A Q,())):=by
  refine D3 pn.length (λi=>((i:Int),wk n (B9 M k (G9 (pn.take i) (M k))) A Q,())) _ (λi a=>?_) ?_ (by exact congrArg (λz=>((0:Int),wk n z A Q,())) (K0 M k))
  ·rw[j7e a];unfold q9x;simp (disch:=omega) only [dcT,cond_true,C3 a,ah,af a,aa,hs,q04 _ _ _ c,q1k,q19];refine(congrArg (λo=>Option.bind o _) (z9s ..)).trans ?_;simp (disch:=omega) only [aa,am,B2];rw[q4e,j24,K0,K0];rfl
  grind[q9x]
 grind
theorem v6g (pn:List Mk) (f:pn.length<=1000) (b:Bool) (a:List Rw) (s:St6) (d:k<n) (hs:s.2.1=(k:Int)):A1 (q9y (pn,b,a,()) s) ((0:Int),wk n M A Q,())=some (.inl (wk n (B9 M k (G9 pn (M k))) A Q,())):=by
 have e:A1 (q9y (pn,b,a,()) s) ((0:Int),wk n M A Q,())=some (.inl (wk n (B9 M k (G9 (pn.take pn.length) (M k))) A Q,())):=by
  refine D3 pn.length (λi=>((i:Int),wk n (B9 M k (G9 (pn.take i) (M k))) A Q,())) _ (λi c=>?_) ?_ (by exact congrArg (λz=>((0:Int),wk n z A Q,())) (K0 M k))
  ·rw[j7e c];unfold q9y;simp (disch:=omega) only [dcT,cond_true,C6 c,ah,aa,hs,q04 _ _ _ d,q1k,q19];refine(congrArg (λo=>Option.bind o _) (z9s ..)).trans ?_;simp (disch:=omega) only [aa,am,B2];rw[q4e,j24,K0,K0];rfl
  grind[q9y]
 grind
theorem y5j (pn:List Mk) (c:List Rw) (b:c.length=n) (m:n<=1000) (s:St6) (d:k<n) (hs:s.2.1=(k:Int)) (l:∀w,(Q w k).length<=1000):A1 (z6f (c,()) s) (pn,(0:Int),wk n M A Q,())=some (.inl (wk n M A (λw=>if w=k then Q w else B9 (Q w) k (Q w k++[pn])),())):=by
 refine D3 n (λi=>(pn,(i:Int),wk n M A (λw=>if w<i/\w≠k then B9 (Q w) k (Q w k++[pn])else Q w),())) _ (λi e=>?_) ?_ ?_
 ·have f:∀w,(if w<i+1/\w≠k then B9 (Q w) k (Q w k++[pn])else Q w)=B9 (λw=>if w<i/\w≠k then B9 (Q w) k (Q w k++[pn])else Q w) i (if i=k then Q i else B9 (Q i) k (Q i k++[pn])) w:=λw=>by
   show _=if w=i then _ else _
   grind
  have j:(λw=>if w<i+1/\w≠k then B9 (Q w) k (Q w k++[pn])else Q w)=_:=funext f
  have a:¬(i<i/\i≠k):=by omega
  have g:=l i;unfold z6f;simp (disch:=omega) only [b,dcT,cond_true,O8,C3 e,aD,ah,q04 _ _ _ e,aa,hs,O0,B2,if_neg a];by_cases h:i=k
  ·grind[K0]
  ·simp (disch:=omega) only [E8,C3 d,aD,cond_true,H7 _ d,aa,ai,aq,D4,aI,cp,cI,U0];grind[R2,q4e,K0]
 all_goals grind[z6f,k4v]
theorem y04 (e:N.all D5=true) (s:St6) (r:s.2.2.2.2.2.1.length<=1000) (c:∀g∈s.2.2.2.2.2.1,I9 n N g=0) {K:List Mk} (q:K.length<=1000) (hA:∀w,(A w).length<=2000) :
  A1 (q9w s) (K,(0:Int),wk n M A Q,())=some (.inl (K++s.2.2.2.2.2.1.map gmk,wk n M (G2 A s.2.2.2.2.2.1) Q,())):=by
 generalize f:s.2.2.2.2.2.1=L at *
 have j:A1 (q9w s) (K,(0:Int),wk n M A Q,())=some (.inl (K++(L.take L.length).map gmk,wk n M (G2 A (L.take L.length)) Q,())):=by
  refine D3 L.length (λi=>(K++(L.take i).map gmk,(i:Int),wk n M (G2 A (L.take i)) Q,())) _ (λi b=>?_) ?_ (by simp[G2])
  ·obtain⟨⟨k,o,a⟩,m⟩:=q1a e (c _ (ay b));have p:=m.le;have d:=q4x k (L.take i) A;have h:=hA k;have l:(K++(L.take i).map gmk).length<=2000:=by grind
   rw[aY]at d;rw[z4m A b,aw b,bC,<-aS];unfold q9w;simp (disch:=omega) only [f,dcT,cond_true,C6 b,aa,o,O8,C3 a,aD,ah,q04 _ _ _ a,q1k,j0e (show L[i].2.1.2.1.length<=1000000 by omega),ai,aq,D4,aI,cp,cI,U0,B2];rw[q4e,K0,K0];rfl
  grind[q9w]
 grind
end
end

section
open Go Go.Abs

def q54 (H:List Stp) (t:Stp):Nat->Int
 | 0=>-1
 | i+1=>if H[i]? = some t then(i:Int)else q54 H t i
theorem y1a (H:List Stp) (t:Stp):∀i,i<=H.length->(q54 H t i=-1/\∀j,j<i->H[j]?≠some t)\/∃j,j<i/\H[j]? = some t/\q54 H t i=(j:Int)
 | 0,_=>.inl ⟨rfl,λj d=>by omega⟩
 | i+1,f=>by
  unfold q54;by_cases h:H[i]? = some t
  ·rw[if_pos h];exact .inr ⟨i,by omega,h,rfl⟩
  ·rw[if_neg h];rcases y1a H t i (by omega)with⟨b,a⟩ | ⟨j,b,a,c⟩
   ·refine .inl ⟨b,λj d=>?_⟩;by_cases e:j=i
    ·rw[e];exact h
    ·exact a j (by omega)
   ·exact .inr ⟨j,by omega,a,c⟩
theorem v6f (H:List Stp) (s:St6) (b:∀x∈H,x.2.1.length<=4) (a:H.length<=1000000):∃j:Int,A1 (z6w H s) ((-1:Int),(0:Int),())=some (.inl (j,())) /\
  ((s.2.2.2.1∉H/\j=-1)\/∃(i:Nat) (h:i<H.length),H[i]=s.2.2.2.1/\j=(i:Int)):=by
 refine⟨q54 H s.2.2.2.1 H.length,D3 H.length (λi=>(q54 H s.2.2.2.1 i,(i:Int),())) _ (λi c=>?_) ?_ rfl,?_⟩
 ·grind[q54,z6w,C3,j48,B2]
 all_goals grind[z6w,y1a,List.mem_iff_getElem]
theorem v6m {H:List Stp} {i j:Nat} (hi:i<H.length):(H.take (i+1)).eraseIdx j=(H.take i).eraseIdx j++if i=j then []else [H[i]]:=by
 rw[aw hi];grind[List.eraseIdx_append_of_length_le,List.eraseIdx_of_length_le]
theorem v6l (H:List Stp) (j:Nat) (d:H.length<=1000000):A1 (z0g H ((j:Int),())) (([]:List Stp),(0:Int),())=some (.inl (H.eraseIdx j,())):=by
 have c:A1 (z0g H ((j:Int),())) (([]:List Stp),(0:Int),())=some (.inl ((H.take H.length).eraseIdx j,())):=by
  refine D3 H.length (λi=>((H.take i).eraseIdx j,(i:Int),())) _ (λi b=>?_) ?_ (by simp)
  ·have a:((H.take i).eraseIdx j).length<=1000000:=bw (dM ..) (by grind);rw[v6m b];generalize (H.take i).eraseIdx j=R at *
   grind[z0g,C3,B2,D4]
  grind[z0g]
 grind
def nwD (x:Nw):Int×(List Mk×Unit):=((x.1:Int),x.2.2,())
section
variable {N:List B5} {E:List Edge} {n:Nat}
theorem y03 {P:Tb} {t:Stp} {w:H8} (h:w.1<0\/(n:Int)<=w.1):K8 n N P t w=2:=by grind[K8,I9]
theorem k13 (g:GR N.length (B0 N) (B3 N) (edN E)) {P:Tb} (C:N.all D5=true) (q:PF N.length (B0 N) (B3 N) (edN E) P) (A:∀u v,∀x∈P u v,bx x) {Fi:List H8} {S:List St6} (s:St6) (hs:OkS N s.2.2.2.1) (o:s.2.2.2.2.2.1.length<=1000)
  (y:Int×List Int×List (List Stp×(List Mk×(List (List (List Int))×(List Int×Unit))))×Unit×List (List Stp)×List (Int×(List Mk×Unit))×Unit×List (List Int)×Unit) (p:y.2.2.2.2.1.length=n) :
  A1 (z0f ((N,E,()),(n:Int),Fi,S,()) s y (sq N.length P,())) (([]:List Mk),(0:Int),())=some (O1 ((q4t (K8 n N P s.2.2.2.1) s.2.2.2.2.2.1).map λc=>(c,())) (.inl (s.2.2.2.2.2.1.map gmk,()))):=by
 have e:(q4t (K8 n N P s.2.2.2.1) s.2.2.2.2.2.1).map (λc=>(c,()))=(List.range s.2.2.2.2.2.1.length).findSome? (λi=>q1b n N P s.2.2.2.1 (s.2.2.2.2.2.1.getD i (0,(0,[],()),()))):=by
  refine fH ?_ (y3v ((0,(0,[],()),()):H8) (q1b n N P s.2.2.2.1) s.2.2.2.2.2.1).symm;unfold q4t;rw[fu];refine congrArg (λf=>List.findSome? f s.2.2.2.2.2.1) (funext λg=>?_);grind[q1b]
 have z:=P5 (f:=z0f ((N,E,()),(n:Int),Fi,S,()) s y (sq N.length P,())) s.2.2.2.2.2.1.length (λi=>((s.2.2.2.2.2.1.take i).map gmk,(i:Int),())) (λi=>q1b n N P s.2.2.2.1 (s.2.2.2.2.2.1.getD i (0,(0,[],()),()))) (.inl ((s.2.2.2.2.2.1.take s.2.2.2.2.2.1.length).map gmk,())) (λj d=>by
  unfold z0f q1b;rw[aR,af d,bm,aw d,bC];have r:((s.2.2.2.2.2.1.take j).map gmk).length<=1000:=by grind
  generalize B:s.2.2.2.2.2.1[j]=w;have t:q5a ((N,E,()),w.2.1.1,w.2.1.2.1,())=some (L2 N w.2.1.1 w.2.1.2.1,()):=q3z _ _;simp (disch:=omega) only [dcT,cond_true,C6 d,B,aa,B2,p,q36,t,O0];by_cases a:w.1<0
  ·have b:K8 n N P s.2.2.2.1 w=2:=y03 (.inl a);rw[if_pos a,b];rfl
  ·by_cases m:w.1≥(n:Int)
   ·have b:K8 n N P s.2.2.2.1 w=2:=y03 (.inr m);rw[if_neg a,if_pos m,b];rfl
   ·have b:I9 n N w=L2 N w.2.1.1 w.2.1.2.1:=by grind[I9]
    rw[if_neg a,if_neg m];by_cases h:L2 N w.2.1.1 w.2.1.2.1=0
    ·have o:=(y1b g q A hs (q1a (n:=n) C (g:=w) (by omega)).2).2;have l:z07 ((N,E,()),sq N.length P,s.2.2.2.1,w.2.1,())=some (q1e P s.2.2.2.1 w.2.1,()):=o;have k:K8 n N P s.2.2.2.1 w=if q1e P s.2.2.2.1 w.2.1=true then 0 else 11:=by grind[K8]
     rw[if_pos h,l,k];cases q1e P s.2.2.2.1 w.2.1 with
     | true =>
      simp (disch:=omega) only [aa,bp,cond_false,ai,aq,D4,aI,cond_true];rfl
     | false=>rfl
    ·have k:K8 n N P s.2.2.2.1 w=L2 N w.2.1.1 w.2.1.2.1:=by grind[K8]
     rw[if_neg h,k,if_neg h];rfl) (by
  grind[z0f]) (s0:=(([]:List Mk),(0:Int),())) (by simp)
 grind
theorem y4l (h:N.all D5=true) (s:St6) (p:s.2.2.2.2.2.1.length<=1000) (d:∀g∈s.2.2.2.2.2.1,I9 n N g=0) {H:Nat->List Stp} (e:∀w,(H w).length<=2000) :
  A1 (z0h s) ((0:Int),tab n H,())=some (.inl (tab n (G2 H s.2.2.2.2.2.1),())):=by
 generalize f:s.2.2.2.2.2.1=L at *
 have j:A1 (z0h s) ((0:Int),tab n H,())=some (.inl (tab n (G2 H (L.take L.length)),())):=by
  refine D3 L.length (λi=>((i:Int),tab n (G2 H (L.take i)),())) _ (λi c=>?_) ?_ (by rfl)
  ·obtain⟨⟨k,m,a⟩,o⟩:=q1a h (d _ (ay c));have b:=q4x k (L.take i) H;have l:=e k;rw[aY]at b;rw[z4m H c];unfold z0h;simp (disch:=omega) only [f,dcT,cond_true,C6 c,aa,m,E8,C3 a,aD,ah,H7 _ a,ai,aq,D4,aI,cp,cI,U0,B2,R2]
  grind[z0h]
 grind
theorem j3p {G:List Nw} {i:Nat} (hi:i<G.length) (v:Nat):ofN v (G.take (i+1))=ofN v (G.take i)++if G[i].1=v then [G[i]]else []:=by
 grind[List.take_succ_eq_append_getElem,j3o]
theorem k36 (G:List Nw) (d:G.length<=1000) (v:Nat) (s:St6) (hs:s.2.2.1=(v:Int))
  (y:Int×List Int×List (List Stp×(List Mk×(List (List (List Int))×(List Int×Unit))))×Unit×List (List Stp)×List (Int×(List Mk×Unit))×Unit×List (List Int)×Unit) (e:y.2.2.2.2.2.1=G.map nwD) :
  A1 (z0i y s) ((0:Int),(0:Int),())=some (.inl (((ofN v G).length:Int),())):=by
 have c:A1 (z0i y s) ((0:Int),(0:Int),())=some (.inl (((ofN v (G.take G.length)).length:Int),())):=by
  refine D3 G.length (λi=>(((ofN v (G.take i)).length:Int),(i:Int),())) _ (λi b=>?_) ?_ (by rfl)
  ·have a:(ofN v (G.take i)).length<=1000:=bw (bA ..) (by grind);rw[j3p b];unfold z0i;grind[C3,nwD,B2]
  grind[z0i]
 grind
end
end

section
open Go Go.Abs

structure PInv (N:List B5) (n:Nat) (F:List Mk) (i:Nat) (G:List Nw) (Kn:Nat->Nat->Nat) (H A:Nat->List Stp) (M:Nat->BgK) (Q:Nat->Nat->List (List Mk)):Prop where
 bag:∀w,BagK (M w) (G5 (G3 F (Kn w) w G))
 perm:∀w,(A w).Perm (H w)
 que:∀w v,Q w v=if v=w then []else((ofN v G).drop (Kn w v)).map (·.2.1)
 kle:∀w v,Kn w v<=(ofN v G).length
 kself:∀w,Kn w w=0
 new:∀x∈G,x.1<n/\x.2.1.Perm x.2.2/\x.2.2.length<=5/\∀r∈x.2.2,OkM N r
 held:∀w,∀s∈H w,OkS N s
 glen:G.length<=i
 hlen:∀w,(H w).length<=64+4*i
def kt (n:Nat) (Kn:Nat->Nat->Nat):List (List Int):=tab n λw=>tab n λv=>(Kn w v:Int)
section
variable {N:List B5} {E:List Edge} {n:Nat} {F:List Mk} {i:Nat} {G:List Nw} {Kn:Nat->Nat->Nat} {H A:Nat->List Stp} {M:Nat->BgK} {Q:Nat->Nat->List (List Mk)}
theorem PInv.next (I:PInv N n F i G Kn H A M Q):PInv N n F (i+1) G Kn H A M Q:=⟨I.bag,I.perm,I.que,I.kle,I.kself,I.new,I.held,by have:=I.glen;omega,λw=>by have:=I.hlen w;omega⟩
theorem PInv.a4 (I:PInv N n F i G Kn H A M Q) (w:Nat):(∀s∈A w,s.2.1.length<=4)/\(∀s∈H w,s.2.1.length<=4)/\(A w).length=(H w).length :=
 ⟨λs a=>(I.held w s ((I.perm w).mem_iff.1 a)).le,λs a=>(I.held w s a).le,(I.perm w).length_eq⟩
theorem j8e:∀{l:List Stp} {a:Nat} (b:a<l.length),(l[a]::l.eraseIdx a).Perm l
 | x::l,0,_=>cq _
 | x::l,a+1,b=>(List.Perm.swap x _ _).trans ((j8e (l:=l) (a:=a) (by grind)).cons x)
theorem j0u {A H:List Stp} (c:A.Perm H) {a b:Nat} (d:a<A.length) (f:b<H.length) (e:A[a]=H[b]):(A.eraseIdx a).Perm (H.eraseIdx b):=by
 grind[j8e,List.Perm.cons_inv]
theorem PInv.act (I:PInv N n F i G Kn H A M Q) (E:N.all D5=true) {k:Nat} (D:k<n) {t:Stp} (z:OkS N t) {gs:List H8} (C:gs.length<=4) (j:∀g∈gs,I9 n N g=0) {A' a:List Stp} (u:A'.Perm a) (y:a.length<=(H k).length) (B:∀s∈a,OkS N s) {pn dn:List Mk} (c:pn.Perm dn) (p:dn.length<=5) (m:∀r∈dn,OkM N r) :
  PInv N n F (i+1) (G++[(k,pn,dn)]) Kn (G2 (B9 H k a) gs) (G2 (B9 A k A') gs) (B9 M k (G9 pn (M k))) (λw=>if w=k then Q w else B9 (Q w) k (Q w k++[pn])) where
 bag w:=by
  have b:G3 F (Kn w) w (G++[(k,pn,dn)])=G3 F (Kn w) w G++if k=w then dn else []:=by
   unfold G3;rw[j32,<-aS];have:=I.kle w k;grind
  rw[b];unfold B9;by_cases h:w=k
  ·subst h;rw[if_pos rfl,if_pos rfl];exact j7g (z3h (I.bag w) pn) (c.append_left _)
  ·rw[if_neg h,if_neg (Ne.symm h),bP];exact I.bag w
 perm:=y02 (A:=A) (H:=H) gs λw=>by
  unfold B9;split
  ·omega
  ·exact I.perm w
 que w v:=by
  have d:=I.que w v;rw[j3o];by_cases h:w=k
  ·grind
  ·rw[if_neg h];unfold B9;by_cases l:v=k
   ·subst l;rw[if_pos rfl,d,if_neg (Ne.symm h),if_neg (Ne.symm h),if_pos rfl,List.drop_append_of_le_length (I.kle w v),bC];rfl
   grind
 kle w v:=by
  have:=I.kle w v;grind[j3o]
 kself:=I.kself
 new x e:=by
  rcases aQ.1 e with h | h
  ·exact I.new x h
  grind
 held w s f:=by
  rcases j2b _ _ f with h | ⟨g,o,q⟩
  ·unfold B9 at h;split at h
   ·grind
   ·exact I.held w s h
  grind[q1a]
 glen:=by have:=I.glen;grind
 hlen w:=by
  have o:=q4x w gs (B9 H k a);have q:(B9 H k a w).length<=64+4*i:=by
   have:=I.hlen k;unfold B9;split
   ·omega
   ·exact I.hlen w
  omega
theorem PInv.come (I:PInv N n F i G Kn H A M Q) {w v:Nat} (b:v≠w) {q:List Mk} {r:List (List Mk)} (h:Q w v=q::r) :
  PInv N n F (i+1) G (B9 Kn w (B9 (Kn w) v (Kn w v+1))) H A (B9 M w (G9 q (M w))) (B9 Q w (B9 (Q w) v r)):=by
 have f:=I.que w v;rw[if_neg b,h]at f;have d:Kn w v<(ofN v G).length:=by
  grind[List.drop_of_length_le]
 rw[aM d,bB]at f;obtain⟨l,m⟩:=aF f;have j:(ofN v G)[Kn w v]∈G:=(bn.1 (ay d)).1;refine⟨λu=>?_,I.perm,λu y=>?_,λu y=>?_,λu=>?_,I.new,I.held,by have:=I.glen;omega,λu=>by have:=I.hlen u;omega⟩
 ·unfold B9;by_cases a:u=w
  ·subst a;rw[if_pos rfl,if_pos rfl];have k:=j31 (K:=Kn u) b G (λ_=>0) _ (cB _) (af (show Kn u v-0<_ by omega));have g:(G3 F (Kn u) u G++q).Perm (G3 F (λc=>if c=v then Kn u v+1 else Kn u c) u G):=by
    unfold G3;rw[aS];refine dY _ ?_;rw[l];exact((I.new _ j).2.1.append_left _).trans k.symm
   exact j7g (z3h (I.bag u) q) g
  ·rw[if_neg a,if_neg a];exact I.bag u
 ·unfold B9;by_cases a:u=w
  ·subst a;rw[if_pos rfl,if_pos rfl];by_cases e:y=v
   ·grind
   ·rw[if_neg e,if_neg e];exact I.que u y
  ·rw[if_neg a,if_neg a];exact I.que u y
 ·unfold B9;by_cases a:u=w
  ·subst a;rw[if_pos rfl];by_cases e:y=v
   ·grind
   ·rw[if_neg e];exact I.kle u y
  ·rw[if_neg a];exact I.kle u y
 ·unfold B9;by_cases a:u=w
  ·subst a;rw[if_pos rfl,if_neg (Ne.symm b)];exact I.kself u
  ·rw[if_neg a];exact I.kself u
end
end

section
open Go Go.Abs

abbrev Wo:=List Stp×(List Mk×(List (List (List Int))×(List Int×Unit)))
section
variable {N:List B5} {E:List Edge} {n:Nat} {F:List Mk} {i:Nat} {G:List Nw} {Kn:Nat->Nat->Nat} {H A:Nat->List Stp} {M:Nat->BgK} {Q:Nat->Nat->List (List Mk)} {P:Tb} {Fi:List H8} {S:List St6} {cs:List Int} {z1:List Wo}
def z2v (N:List B5) (E:List Edge) (n:Nat) (Fi:List H8) (S:List St6) (P:Tb) (F:List Mk) (i:Nat) (cs:List Int) (z1:List Wo) (G:List Nw) (Kn:Nat->Nat->Nat) (H A:Nat->List Stp) (M:Nat->BgK) (Q:Nat->Nat->List (List Mk)):Prop :=
 ∃(c:Int) (G':List Nw) (Kn':Nat->Nat->Nat) (H' A':Nat->List Stp) (M':Nat->BgK) (Q':Nat->Nat->List (List Mk)),PInv N n F (i+1) G' Kn' H' A' M' Q' /\
  P9 ((N,E,()),(n:Int),Fi,S,()) (sq N.length P,()) ((i:Int),cs,z1,(),wk n M A Q,())=some (.inl (((i+1:Nat):Int),cs++[c],z1,(),wk n M' A' Q',())) /\
  O5 ((N,E,()),(n:Int),Fi,S,()) (sq N.length P,()) ((i:Int),cs,z1,(),tab n H,G.map nwD,(),kt n Kn,())=some (.inl (((i+1:Nat):Int),cs++[c],z1,(),tab n H',G'.map nwD,(),kt n Kn',()))
theorem k3u (I:PInv N n F i G Kn H A M Q) (g:GR N.length (B0 N) (B3 N) (edN E)) (hN:N.all D5=true) (hP:PF N.length (B0 N) (B3 N) (edN E) P) (hb:∀u v,∀x∈P u v,bx x) (hn:n<=4) (hi:i<S.length) (hS:S.length<=60) (hcs:cs.length<=60) (hk:S[i].1=1) :
  z2v N E n Fi S P F i cs z1 G Kn H A M Q:=by
 generalize hs:S[i]=s at *
 have hroom:A8 (cs.length+(0+1)) 8=true:=D4 (by omega) (by omega);have hwi:=B2 (show i<9223372036854775807 by omega);have ht:A1 (y3p s ((i:Int),cs,z1,(),wk n M A Q,())) ((0:Int),())=some (if s.2.1<0\/((wk n M A Q).length:Int)<=s.2.1 then .inl ((0:Int),())else .inr (.inl ())):=th1 _ _
 rw[O8]at ht;by_cases h1:s.2.1<0\/(n:Int)<=s.2.1
 ·refine⟨2,G,Kn,H,A,M,Q,I.next,?_,?_⟩
  ·unfold P9;simp (disch:=omega) only [dcT,cond_true,C6 hi,hs,aa,J5 hk,am,ai,aq,hroom,aI,aD,bp,bv,hwi,ht,if_pos h1]
  ·by_cases h2:s.2.1<0
   ·unfold O5;simp (disch:=omega) only [dcT,cond_true,C6 hi,hs,aa,J5 hk,am,ai,aq,hroom,aI,aD,hwi,E8]
   ·unfold O5;simp (disch:=omega) only [dcT,cond_true,cond_false,C6 hi,hs,aa,J5 hk,am,ai,aq,hroom,aI,aD,hwi,E8,dcF h2]
 obtain⟨k,hk0,hkn⟩:∃k:Nat,s.2.1=(k:Int)/\k<n:=⟨s.2.1.toNat,by omega,by omega⟩;rw[if_neg h1]at ht;by_cases h2:s.2.2.2.2.2.1.length>4
 ·refine⟨1,G,Kn,H,A,M,Q,I.next,?_,?_⟩
  ·unfold P9;simp (disch:=omega) only [dcT,cond_true,cond_false,C6 hi,hs,aa,J5 hk,am,bt,ai,aq,hroom,aI,aD,bp,bv,hwi,ht,dcF]
  ·unfold O5;simp (disch:=omega) only [dcT,cond_true,cond_false,C6 hi,hs,aa,J5 hk,am,ai,aq,hroom,aI,aD,hwi,E8,dcF]
 have hc:q2l ((N,E,()),s.2.2.2.1,())=some (L2 N s.2.2.2.1.1 s.2.2.2.1.2.1,()):=j44 _ _;by_cases h3:L2 N s.2.2.2.1.1 s.2.2.2.1.2.1=0
 rotate_left
 ·refine⟨L2 N s.2.2.2.1.1 s.2.2.2.1.2.1,G,Kn,H,A,M,Q,I.next,?_,?_⟩
  ·unfold P9;simp (disch:=omega) only [dcT,cond_true,cond_false,C6 hi,hs,aa,J5 hk,am,bt,ai,aq,hroom,aI,aD,bp,bv,hwi,ht,dcF,hc,q4i h3]
  ·unfold O5;simp (disch:=omega) only [dcT,cond_true,cond_false,C6 hi,hs,aa,J5 hk,am,ai,aq,hroom,aI,aD,hwi,E8,dcF,q3z,q4i h3]
 have hst:OkS N s.2.2.2.1:=y7h hN h3;obtain⟨ha4,hh4,hlen⟩:=I.a4 k;have hhl:=I.hlen k;have hgl:=I.glen;have hil:i<60:=by omega
 obtain⟨j,hlast,hj⟩:=v6f (H k) s hh4 (by omega);have hfind:=v4n (A k) s ha4 (by omega);by_cases h4:s.2.2.2.1∈H k
 rotate_left
 ·have hA:s.2.2.2.1∉A k:=λh=>h4 ((I.perm k).mem_iff.1 h);have hf:A1 (q3w (A k) s) ((0:Int),())=some (.inr (.inl ())):=by
   rcases hfind with⟨_,h⟩ | ⟨a,ha,e,_⟩
   ·exact h
   ·exact absurd (e▸ay ha) hA
  have hj:j=-1:=by
   rcases hj with⟨_,h⟩ | ⟨a,ha,e,_⟩
   ·exact h
   ·exact absurd (e▸ay ha) h4
  subst hj;refine⟨10,G,Kn,H,A,M,Q,I.next,?_,?_⟩
  ·unfold P9;simp (disch:=omega) only [dcT,cond_true,cond_false,C6 hi,hs,aa,J5 hk,am,bt,ai,aq,hroom,aI,aD,bp,bv,hwi,ht,dcF,hc,K3 h3,hk0,O8,C3 hkn,ah,q04 _ _ _ hkn,q1k,hf,j64]
  ·unfold O5;simp (disch:=omega) only [dcT,cond_true,cond_false,C6 hi,hs,aa,J5 hk,am,ai,aq,hroom,aI,aD,hwi,E8,hk0,dcF,q3z,K3 h3,C3 hkn,ah,H7 _ hkn,hlast,R2,K0]
 obtain⟨a,ha,ea,hf⟩:∃(a:Nat) (h:a<(A k).length),(A k)[a]=s.2.2.2.1/\A1 (q3w (A k) s) ((0:Int),())=some (.inl ((a:Int),())):=by
  rcases hfind with⟨h,_⟩ | h
  ·exact absurd ((I.perm k).mem_iff.2 h4) h
  ·exact h
 obtain⟨b,hbl,eb,hj⟩:∃(b:Nat) (h:b<(H k).length),(H k)[b]=s.2.2.2.1/\j=(b:Int):=by
  rcases hj with⟨h,_⟩ | h
  ·exact absurd h4 h
  ·exact h
 subst hj;have hgc:=v5b (n:=n) (Fi:=Fi) (S:=S) g hN hP hb s hst (by omega) (wk n M A Q) (O8 ..) (i:Int) cs z1;have hrc:=k13 (n:=n) (Fi:=Fi) (S:=S) g hN hP hb s hst (by omega) ((i:Int),cs,z1,(),tab n H,G.map nwD,(),kt n Kn,()) (E8 ..);cases hfc:q4t (K8 n N P s.2.2.2.1) s.2.2.2.2.2.1 with
 | some c =>
  rw[hfc]at hgc hrc;refine⟨c,G,Kn,H,A,M,Q,I.next,?_,?_⟩
  ·unfold P9;simp (disch:=omega) only [dcT,cond_true,cond_false,C6 hi,hs,aa,J5 hk,am,bt,ai,aq,hroom,aI,aD,bp,bv,hwi,ht,dcF,hc,K3 h3,hk0,O8,C3 hkn,ah,q04 _ _ _ hkn,q1k,hf,hgc,bu,z4e,j64]
  ·unfold O5;simp (disch:=omega) only [dcT,cond_true,cond_false,C6 hi,hs,aa,J5 hk,am,ai,aq,hroom,aI,aD,hwi,E8,hk0,dcF,q3z,K3 h3,C3 hkn,ah,H7 _ hkn,hlast,hrc,bu,z4e,R2,K0]
 | none =>
  rw[hfc]at hgc hrc;have hok:∀q∈s.2.2.2.2.2.1,I9 n N q=0:=λq hq=>by
   have h:=dr.1 hfc q hq;apply cd;intro h0;have e:K8 n N P s.2.2.2.1 q=I9 n N q:=by unfold K8;rw[if_neg h0]
   rw[e,if_neg h0]at h;cases h
  have hgm:∀r∈s.2.2.2.2.2.1.map gmk,OkM N r:=λr hr=>by
   obtain⟨q,hq,rfl⟩:=aW.1 hr;exact(q1a hN (hok q hq)).2
  have hql:∀w,(Q w k).length<=1000:=λw=>by
   rw[I.que w k];split
   ·simp
   ·rw[bi,bR];have:(ofN k G).length<=G.length:=bA ..;omega
  cases hkeep:s.2.2.2.2.1 with
  | true =>
   have hpl:(([]:List Mk)++s.2.2.2.2.2.1.map gmk).length<=1000:=by rw[cN,bi];omega
   refine⟨0,_,_,_,_,_,_,I.act hN hkn hst (gs:=s.2.2.2.2.2.1) (by omega) hok (I.perm k) (ax _) (I.held k) (pn:=[]++s.2.2.2.2.2.1.map gmk) (dn:=s.2.2.2.2.2.1.map gmk) (cq _) (by rw[bi];omega) hgm,?_,?_⟩
   ·rw[K0];unfold P9;simp (disch:=omega) only [dcT,cond_true,cond_false,C6 hi,hs,aa,J5 hk,am,bt,ai,aq,hroom,aI,aD,bp,bv,hwi,ht,dcF,hc,K3 h3,hk0,O8,C3 hkn,ah,q04 _ _ _ hkn,q1k,hf,hgc,bJ,q0c,hkeep,j64,y04 hN s (show s.2.2.2.2.2.1.length<=1000 by omega) hok (show([]:List Mk).length<=1000 by simp) (λw=>show(A w).length<=2000 by have:=I.hlen w;have:=(I.a4 w).2.2;omega),y1d _ hpl _ s hkn hk0,y5j _ _ (O8 ..) (show n<=1000 by omega) s hkn hk0 hql]
   ·rw[K0];unfold O5;simp (disch:=omega) only [dcT,cond_true,cond_false,C6 hi,hs,aa,J5 hk,am,bt,ai,aq,hroom,aI,aD,bp,hwi,E8,hk0,dcF,q3z,K3 h3,C3 hkn,ah,H7 _ hkn,hlast,hrc,bJ,q0c,R2,K0,hkeep,y4l hN s (show s.2.2.2.2.2.1.length<=1000 by omega) hok (λw=>show(H w).length<=2000 by have:=I.hlen w;omega),bi,D4,bC,bB,da,nwD]
  | false =>
   have hpl:(([(s.2.2.2.1.1,s.2.2.2.1.2.1,(-1:Int),())]:List Mk)++s.2.2.2.2.2.1.map gmk).length<=1000:=by rw[aK,bi];simp only[ai,aq];omega
   have hel:((A k).take a++(A k).drop (a+1))=(A k).eraseIdx a:=(dU ..).symm;have hal:((A k).eraseIdx a).length<=(A k).length:=dM ..;have hbl':((H k).eraseIdx b).length<=(H k).length:=dM ..;have hdl:(s.2.2.2.2.2.1.map gmk++([(s.2.2.2.1.1,s.2.2.2.1.2.1,(-1:Int),())]:List Mk)).length<=5:=by rw[aK,bi];simp only[ai,aq];omega
   have hwa:=B2 (show a<9223372036854775807 by omega);refine⟨0,_,_,_,_,_,_,I.act hN hkn hst (gs:=s.2.2.2.2.2.1) (by omega) hok (j0u (I.perm k) ha hbl (ea.trans eb.symm)) hbl' (λq hq=>I.held k q (eG hq)) (pn:=[(s.2.2.2.1.1,s.2.2.2.1.2.1,(-1:Int),())]++s.2.2.2.2.2.1.map gmk) (dn:=s.2.2.2.2.2.1.map gmk++[(s.2.2.2.1.1,s.2.2.2.1.2.1,(-1:Int),())]) dX hdl (λr hr=>?_),?_,?_⟩
   ·rcases aQ.1 hr with h | h
    ·exact hgm r h
    ·rw[ck.1 h];exact hst
   ·unfold P9;simp (disch:=omega) only [dcT,cond_true,cond_false,C6 hi,hs,aa,J5 hk,am,bt,ai,aq,hroom,aI,aD,bp,bv,hwi,ht,dcF,hc,K3 h3,hk0,O8,C3 hkn,ah,q04 _ _ _ hkn,q1k,hf,hgc,bJ,q0c,hkeep,U0,hwa,cp,cI,D4,hel,y8p,y04 (A:=B9 A k ((A k).eraseIdx a)) hN s (show s.2.2.2.2.2.1.length<=1000 by omega) hok (show([(s.2.2.2.1.1,s.2.2.2.1.2.1,(-1:Int),())]:List Mk).length<=1000 by simp) (λw=>show(B9 A k ((A k).eraseIdx a) w).length<=2000 by have h1:=I.hlen w;have h2:=(I.a4 w).2.2;unfold B9;split<;>omega),y1d _ hpl _ s hkn hk0,y5j _ _ (O8 ..) (show n<=1000 by omega) s hkn hk0 hql]
   ·unfold O5;simp only[dcT (show(i:Int)<(S.length:Int)by omega),cond_true,cond_false,C6 hi,hs,aa,J5 hk,am,bt,ai,aq,hroom,aI,aD,bv,hwi,E8,hk0,dcF (show ¬(k:Int)<0 by omega),dcF (show ¬(k:Int)≥(n:Int)by omega),dcF (show ¬(s.2.2.2.2.2.1.length:Int)>4 by omega),q3z,K3 h3,C3 hkn,ah,H7 _ hkn,hlast,dcF (show ¬(b:Int)<0 by omega),hrc,bJ,q0c,R2,K0,hkeep,U0,v6l (H k) b (by omega),D4 (show(s.2.2.2.2.2.1.map gmk).length+(0+1)<=140737488355328 by rw[bi];omega) (show((s.2.2.2.2.2.1.map gmk).length+(0+1))*40<=140737488355328 by rw[bi];omega),y4l (H:=B9 H k ((H k).eraseIdx b)) hN s (show s.2.2.2.2.2.1.length<=1000 by omega) hok (λw=>show(B9 H k ((H k).eraseIdx b) w).length<=2000 by have h1:=I.hlen w;unfold B9;split<;>omega),D4 (show(G.map nwD).length+(0+1)<=140737488355328 by rw[bi];omega) (show((G.map nwD).length+(0+1))*32<=140737488355328 by rw[bi];omega),bC,bB,da,nwD]
end
end

section
open Go Go.Abs

section
variable {N:List B5} {E:List Edge} {n:Nat} {F:List Mk} {i:Nat} {G:List Nw} {Kn:Nat->Nat->Nat} {H A:Nat->List Stp} {M:Nat->BgK} {Q:Nat->Nat->List (List Mk)} {P:Tb} {Fi:List H8} {S:List St6} {cs:List Int} {z1:List Wo}
theorem q9c {w:Nat} (h:w<n) (Kn:Nat->Nat->Nat):(kt n Kn)[w]? = some (tab n λv=>(Kn w v:Int)):=H7 _ h
theorem z5e (Kn:Nat->Nat->Nat):(kt n Kn).length=n:=E8 ..
theorem v6a (w v:Nat) (Kn:Nat->Nat->Nat) (a:Nat):(kt n Kn).set w ((tab n λv=>(Kn w v:Int)).set v (a:Int))=kt n (B9 Kn w (B9 (Kn w) v a)):=by
 unfold kt;rw[R2,R2];refine M3 λc _=>?_;unfold B9;by_cases h:c=w
 ·rw[if_pos h,if_pos h];grind
 grind
theorem q9d (w:Nat) (Kn:Nat->Nat->Nat):(kt n Kn).set w (tab n λv=>(Kn w v:Int))=kt n Kn:=by
 grind[kt,R2,K0]
theorem k3w (I:PInv N n F i G Kn H A M Q) (hn:n<=4) (hi:i<S.length) (hS:S.length<=60) (hcs:cs.length<=60) (z:S[i].1=2) :
  z2v N E n Fi S P F i cs z1 G Kn H A M Q:=by
 generalize y:S[i]=s at *
 have a:A8 (cs.length+(0+1)) 8=true:=D4 (by omega) (by omega);have g:=B2 (show i<9223372036854775807 by omega);obtain⟨e,o⟩:∃e:Nat,A1 (y3m s ((i:Int),cs,z1,(),wk n M A Q,())) ((0:Int),())=some (if(s.2.1<0\/((wk n M A Q).length:Int)<=s.2.1)\/s.2.2.1<0\/((wk n M A Q).length:Int)<=s.2.2.1 then .inl ((e:Int),())else .inr (.inl ())):=th2 _ _ _
 rw[O8]at o;by_cases R:(s.2.1<0\/(n:Int)<=s.2.1)\/s.2.2.1<0\/(n:Int)<=s.2.2.1
 ·rw[if_pos R]at o;refine⟨2,G,Kn,H,A,M,Q,I.next,?_,?_⟩
  ·unfold P9;grind[C6,List.length_cons]
  grind[O5,C6,E8]
 rw[if_neg R]at o;obtain⟨w,d,b⟩:∃k:Nat,s.2.1=(k:Int)/\k<n:=⟨s.2.1.toNat,by omega,by omega⟩;obtain⟨v,f,c⟩:∃k:Nat,s.2.2.1=(k:Int)/\k<n:=⟨s.2.2.1.toNat,by omega,by omega⟩;have u:=dcF (show ¬(w:Int)<0 by omega);have B:=dcF (show ¬(w:Int)≥(n:Int)by omega);have t:=dcF (show ¬(v:Int)<0 by omega);have p:=dcF (show ¬(v:Int)≥(n:Int)by omega);have l:=dcF (show ¬(-1:Int)≥0 by omega);by_cases O:w=v
 ·subst O;refine⟨2,G,Kn,H,A,M,Q,I.next,?_,?_⟩
  ·unfold P9;simp (disch:=omega) only [dcT,cond_true,cond_false,C6 hi,y,aa,am,bt,ai,aq,a,aI,aD,bp,bv,g,U6,J5 z,o,l,d,f,beq_self_eq_true]
  ·unfold O5;grind[C6,List.length_nil,E8,q9c,q9d]
 have j:=U6 (show ¬(w:Int)=(v:Int)by omega);have W:=I.glen;have C:=I.que w v;rw[if_neg (Ne.symm O)]at C;have X:=I.kle w v;have V:(ofN v G).length<=G.length:=bA ..;have h:=k36 G (show G.length<=1000 by omega) v s f ((i:Int),cs,z1,(),tab n H,G.map nwD,(),kt n Kn,()) rfl;cases x:Q w v with
 | nil =>
  rw[x]at C;have m:Kn w v=(ofN v G).length:=by
   grind[List.length_nil]
  refine⟨5,G,Kn,H,A,M,Q,I.next,?_,?_⟩
  ·have D:(wk n M A Q).set w (some (M w),some (A w),(tab n (Q w)).set v [],())=wk n M A Q:=by grind[y8q,K0]
   unfold P9;simp (disch:=omega) only [dcT,cond_true,cond_false,C6 hi,y,aa,am,bt,ai,aq,a,aI,aD,bp,bv,g,U6,J5 z,o,l,d,f,j,O8,C3 b,ah,q04 _ _ _ b,E8,C3 c,H7 _ c,x,D,J5 (show((0:Nat):Int)=0 from rfl)]
  ·unfold O5;simp (disch:=omega) only [dcT,cond_true,cond_false,C6 hi,y,aa,am,ai,aq,a,aI,aD,g,U6,K3 z,E8,d,f,u,B,t,p,ah,q9c b,z5e,j,C3 b,U0,C3 c,H7 _ c,h,J5 (show(Kn w v:Int)=((ofN v G).length:Int)by omega),q9d]
 | cons q r =>
  have m:Kn w v<(ofN v G).length:=by
   grind
  have J:q.length<=1000:=by
   rw[x,aM m,bB]at C;have U:(ofN v G)[Kn w v]∈G:=(bn.1 (ay m)).1;have Y:=I.new _ U;rw[(aF C).1];have:=Y.2.1.length_eq;omega
  have Z:decide ((0:Int)<=1)=true:=rfl;have hd2:=dcT (show(1:Int)<=((r.length+1:Nat):Int)by omega);have K:Nat.beq (1+(r.length+1-1)) (r.length+1)=true:=by
   grind[Nat.beq_refl]
  refine⟨0,_,_,_,_,_,_,I.come (Ne.symm O) x,?_,?_⟩
  ·unfold P9;simp (disch:=omega) only [dcT,cond_true,cond_false,C6 hi,y,aa,am,bt,ai,aq,a,aI,aD,bp,bv,g,U6,J5 z,o,l,d,f,j,O8,C3 b,ah,q04 _ _ _ b,E8,C3 c,H7 _ c,x,U0,show inB (0:Int) (r.length+1)=true from C3 (i:=0) (by omega),show(0:Int).toNat=0 from rfl,bS,K,cp,cI,show(1:Int).toNat=1 from rfl,fj,List.drop_zero,y8q,v6g q J _ _ s b d]
  ·unfold O5;simp (disch:=omega) only [dcT,cond_true,cond_false,C6 hi,y,aa,am,ai,aq,a,aI,aD,g,U6,K3 z,E8,d,f,u,B,t,p,ah,q9c b,z5e,j,C3 b,U0,C3 c,H7 _ c,h,B2,v6a]
theorem k3x (I:PInv N n F i G Kn H A M Q) (hi:i<S.length) (h:S.length<=60) (d:cs.length<=60) (c:S[i].1≠1) (f:S[i].1≠2) :
  z2v N E n Fi S P F i cs z1 G Kn H A M Q:=by
 generalize j:S[i]=s at *
 have a:A8 (cs.length+(0+1)) 8=true:=D4 (by omega) (by omega);have b:=B2 (show i<9223372036854775807 by omega);have e:j42 (s,())=some ((17:Int),()):=rfl;refine⟨17,G,Kn,H,A,M,Q,I.next,?_,?_⟩
 all_goals grind[P9,C6,O5]
theorem y5a (g:GR N.length (B0 N) (B3 N) (edN E)) (q:N.all D5=true) (r:PF N.length (B0 N) (B3 N) (edN E) P) (z:∀u v,∀x∈P u v,bx x) (w:n<=4) (s:S.length<=60):∀(m i:Nat),i+m=S.length->∀{cs:List Int} {G:List Nw} {Kn:Nat->Nat->Nat} {H A:Nat->List Stp} {M:Nat->BgK} {Q:Nat->Nat->List (List Mk)},cs.length=i->PInv N n F i G Kn H A M Q ->
  ∃(a:List Int) (j:List Nw) (b:Nat->Nat->Nat) (f e:Nat->List Stp) (l:Nat->BgK) (h:Nat->Nat->List (List Mk)),a.length<=60/\PInv N n F S.length j b f e l h /\
   A1 (P9 ((N,E,()),(n:Int),Fi,S,()) (sq N.length P,())) ((i:Int),cs,z1,(),wk n M A Q,())=some (.inl (a,z1,(),wk n l e h,())) /\
   A1 (O5 ((N,E,()),(n:Int),Fi,S,()) (sq N.length P,())) ((i:Int),cs,z1,(),tab n H,G.map nwD,(),kt n Kn,())=some (.inl (a,z1,(),tab n f,j.map nwD,(),kt n b,()))
 | 0,i,p,cs,G,Kn,H,A,M,Q,k,I=>by
  subst p;refine⟨cs,G,Kn,H,A,M,Q,by omega,I,D9 ?_,D9 ?_⟩
  all_goals grind[P9,O5]
 | m+1,i,p,cs,G,Kn,H,A,M,Q,k,I=>by
  have o:z2v N E n Fi S P F i cs z1 G Kn H A M Q:=by
   grind[k3u,k3w,k3x]
  obtain⟨c,j,b,f,e,l,h,y,R,K⟩:=o;obtain⟨a,C,t,U,J,B,D,T,O,W,V⟩:=y5a g q r z w s m (i+1) (by omega) (cs:=cs++[c]) (by grind) y;grind[H4]
end
end

section
open Go Go.Abs

section
variable {N:List B5} {E:List Edge} {n:Nat} {M:Nat->BgK} {A:Nat->List Stp} {Q:Nat->Nat->List (List Mk)} {Fi:List H8} {S:List St6}
theorem k4u {M':Nat->BgK} (h:∀w,w<n->M w=M' w):wk n M A Q=wk n M' A Q:=M3 λw a=>by grind[wkF]
theorem v73 (b:n<=4) (h1:1<=n):A1 (q72 ((N,E,()),(n:Int),Fi,S,())) ((0:Int),([]:List Rw),(),())=some (.inl (wk n (λ_=>[]) (λ_=>[]) (λ_ _=>[]),(),())):=by
 have a:A1 (q72 ((N,E,()),(n:Int),Fi,S,())) ((0:Int),([]:List Rw),(),())=some (.inl (tab n (λ_=>((some ([]:BgK),some ([]:List Stp),List.replicate n ([]:List (List Mk)),()):Rw)),(),())):=by
  refine D3 n (λi=>((i:Int),tab i (λ_=>((some ([]:BgK),some ([]:List Stp),List.replicate n ([]:List (List Mk)),()):Rw)),(),())) _ (λi c=>?_) ?_ rfl
  ·unfold q72;grind[D4,Nat.ble_eq_true_of_le,E8,q49,B2]
  grind[q72]
 grind[wk,M3,wkF,q0o]
theorem y9d (y:Int×List Int×List Wo×Unit×List Rw×Unit) (e:List Rw) (g:e.length=n) (q:H8) (a:Rw) (b:List Stp) (c:List Int×Unit) (i:y.2.2.2.2.1.set q.1.toNat (a.1,some (b++[(q.2.1.1,c.1,())]),a.2.2.1,())=e) (k:n<=4) :
  A1 (z6h y q a b c) ((0:Int),wk n M A Q,())=some (.inl (wk n (λw=>Q0 (M w) (kyM (gmk q)) 1) A Q,())):=by
 rw[k4u (M:=λw=>Q0 (M w) (kyM (gmk q)) 1) (M':=λw=>if w<n then Q0 (M w) (kyM (gmk q)) 1 else M w) λw f=>(if_pos f).symm]
 refine D3 n (λj=>((j:Int),wk n (λw=>if w<j then Q0 (M w) (kyM (gmk q)) 1 else M w) A Q,())) _ (λj d=>?_) ?_ ?_
 ·have h:(λw=>if w<j+1 then Q0 (M w) (kyM (gmk q)) 1 else M w)=B9 (λw=>if w<j then Q0 (M w) (kyM (gmk q)) 1 else M w) j (Q0 (M j) (kyM (gmk q)) 1):=by
   grind[B9]
  rw[h];unfold z6h;rw[i,g];simp (disch:=omega) only [dcT,cond_true,O8,C3 d,aD,ah,q04 _ _ _ d,aa,q1k,if_neg (Nat.lt_irrefl j)];refine(congrArg (λo=>Option.bind o _) (z9s ..)).trans ?_;simp (disch:=omega) only [aa,am,B2];rw[q4e,K0,K0];rfl
 all_goals grind[z6h]
def q2a (n:Nat) (N:List B5) {T:Type} (f:Int->Nat->T) (Fi:List H8) (i:Nat):Option T:=if I9 n N (Fi.getD i (0,(0,[],()),()))=0 then none else some (f (I9 n N (Fi.getD i (0,(0,[],()),()))) i)
theorem v4o (t:N.all D5=true) (y:Fi.length<=64) (w:n<=4) (W:Nat->List Rw) (v:∀i,W i=wk n (λ_=>G9 ((Fi.take i).map gmk) []) (G2 (λ_=>[]) (Fi.take i)) (λ_ _=>[])) :
  A1 (q3v ((N,E,()),(n:Int),Fi,S,())) ((0:Int),([]:List Int),([]:List Wo),(),W 0,()) =
   some (O1 ((List.range Fi.length).findSome? (q2a n N (λc i=>(c,([]:List Int),([]:List Wo),(),W i,())) Fi)) (.inl (([]:List Int),([]:List Wo),(),W Fi.length,()))):=by
 refine P5 _ (λi=>((i:Int),([]:List Int),([]:List Wo),(),W i,())) _ _ (λi h=>?_) ?_ rfl
 ·unfold q2a;rw[aR,af h,bm];generalize l:Fi[i]=q;have m:A1 (y3o q ((i:Int),([]:List Int),([]:List Wo),(),W i,())) ((0:Int),())=some (if q.1<0\/((W i).length:Int)<=q.1 then .inl ((0:Int),())else .inr (.inl ())):=th1 _ _
  have f:(W i).length=n:=by grind[O8]
  rw[f]at m;have s:q2l ((N,E,()),q.2.1,())=some (L2 N q.2.1.1 q.2.1.2.1,()):=j44 _ _;by_cases r:q.1<0\/(n:Int)<=q.1
  ·have d:I9 n N q=2:=by grind[I9]
   rw[d];unfold q3v;simp (disch:=omega) only [dcT,cond_true,C6 h,l,aa,m,if_pos r,am,bp,bv,q4i];rfl
  ·have d:I9 n N q=L2 N q.2.1.1 q.2.1.2.1:=by grind[I9]
   by_cases j:L2 N q.2.1.1 q.2.1.2.1=0
   ·obtain⟨⟨k,x,o⟩,u⟩:=q1a t (d.trans j);have B:=u.le;have z:(G2 (λ_=>[]) (Fi.take i) k).length<=64:=by
     grind[q4x]
    have b:(W i).set k (some (G9 ((Fi.take i).map gmk) []),some (G2 (λ_=>[]) (Fi.take i) k++[q.2.1]),tab n (λ_=>[]),())=wk n (λ_=>G9 ((Fi.take i).map gmk) []) (G2 (λ_=>[]) (Fi.take (i+1))) (λ_ _=>[]):=by
     grind[z4m,y8p]
    have g:=y9d (M:=λ_=>G9 ((Fi.take i).map gmk) []) (A:=G2 (λ_=>[]) (Fi.take (i+1))) (Q:=λ_ _=>[]) ((i:Int),([]:List Int),([]:List Wo),(),W i,()) _ (O8 n (λ_=>G9 ((Fi.take i).map gmk) []) (G2 (λ_=>[]) (Fi.take (i+1))) (λ_ _=>[])) q (some (G9 ((Fi.take i).map gmk) []),some (G2 (λ_=>[]) (Fi.take i) k),tab n (λ_=>[]),()) (G2 (λ_=>[]) (Fi.take i) k) (q.2.1.2.1,()) (by grind) w;have p:W (i+1)=wk n (λ_=>Q0 (G9 ((Fi.take i).map gmk) []) (kyM (gmk q)) 1) (G2 (λ_=>[]) (Fi.take (i+1))) (λ_ _=>[]):=by
     rw[v,aw h,bC,l];unfold G9;rw[List.foldl_append];rfl
    have e:(W i)[k]? = some (some (G9 ((Fi.take i).map gmk) []),some (G2 (λ_=>[]) (Fi.take i) k),tab n (λ_=>[]),()):=by grind[q04]
    have a:(W i).set k (some (G9 ((Fi.take i).map gmk) []),some (G2 (λ_=>[]) (Fi.take i) k++[(q.2.1.1,q.2.1.2.1,())]),tab n (λ_=>[]),())=_:=b;rw[if_pos (d.trans j)];unfold q3v;simp (disch:=omega) only [dcT,cond_true,cond_false,C6 h,l,aa,m,if_neg (show ¬((k:Int)<0\/(n:Int)<=(k:Int))by omega),am,bt,dcF,bp,bv,s,K3 j,x,f,C3 o,aD,ah,e,q1k,j0e (show q.2.1.2.1.length<=1000000 by omega),ai,aq,D4,aI,cp,cI,U0,a,g,B2];rw[<-p];rfl
   ·rw[d,if_neg j];unfold q3v;simp (disch:=omega) only [dcT,cond_true,cond_false,C6 h,l,aa,m,if_neg r,am,bt,dcF,bp,bv,s,q4i j];rfl
 grind[q3v]
theorem k15 (b:n<=4) (h1:1<=n):A1 (z6t ((N,E,()),(n:Int),Fi,S,())) ((0:Int),([]:List (Int×(List Mk×Unit))),([]:List Mk),([]:List (List Int)),(),())=some (.inl ([],[],kt n (λ_ _=>0),(),())):=by
 have a:A1 (z6t ((N,E,()),(n:Int),Fi,S,())) ((0:Int),([]:List (Int×(List Mk×Unit))),([]:List Mk),([]:List (List Int)),(),())=some (.inl ([],[],tab n (λ_=>List.replicate n (0:Int)),(),())):=by
  refine D3 n (λi=>((i:Int),[],[],tab i (λ_=>List.replicate n (0:Int)),(),())) _ (λi c=>?_) ?_ rfl
  all_goals grind[z6t,D4,E8,Nat.ble,q49,B2]
 grind[kt,q0o]
theorem k11 (h:N.all D5=true) (o:Fi.length<=64) (r:n<=4) :
  A1 (q3y ((N,E,()),(n:Int),Fi,S,())) ((0:Int),([]:List Int),([]:List Wo),(),List.replicate n ([]:List Stp),([]:List Mk),(),()) =
   some (O1 ((List.range Fi.length).findSome? (q2a n N (λc i=>(c,([]:List Int),([]:List Wo),(),tab n (G2 (λ_=>[]) (Fi.take i)),(Fi.take i).map gmk,(),())) Fi)) (.inl (([]:List Int),([]:List Wo),(),tab n (G2 (λ_=>[]) (Fi.take Fi.length)),(Fi.take Fi.length).map gmk,(),()))):=by
 refine P5 _ (λi=>((i:Int),([]:List Int),([]:List Wo),(),tab n (G2 (λ_=>[]) (Fi.take i)),(Fi.take i).map gmk,(),())) _ _ (λi b=>?_) ?_ (by rw[q0o];rfl)
 ·unfold q2a;rw[aR,af b,bm];generalize d:Fi[i]=q;have l:((Fi.take i).map gmk).length<=64:=by grind
  by_cases g:q.1<0
  ·have a:I9 n N q=2:=by grind[I9]
   rw[a];unfold q3y;simp (disch:=omega) only [dcT,cond_true,C6 b,d,aa];rfl
  by_cases m:q.1≥(n:Int)
  ·have a:I9 n N q=2:=by grind[I9]
   rw[a];unfold q3y;simp (disch:=omega) only [dcT,cond_true,cond_false,C6 b,d,aa,dcF g];rfl
  have a:I9 n N q=L2 N q.2.1.1 q.2.1.2.1:=by grind[I9]
  by_cases e:L2 N q.2.1.1 q.2.1.2.1=0
  ·obtain⟨⟨k,j,f⟩,s⟩:=q1a h (a.trans e);have p:(G2 (λ_=>[]) (Fi.take i) k).length<=64:=by
    grind[q4x]
   rw[if_pos (a.trans e),z4m _ b,aw b,bC,d];unfold q3y;simp (disch:=omega) only [dcT,cond_true,cond_false,C6 b,d,aa,j,dcF,q3z,K3 e,E8,C3 f,aD,ah,H7 _ f,ai,aq,D4,aI,cp,cI,U0,R2,B2];rfl
  ·rw[a,if_neg e];unfold q3y;simp (disch:=omega) only [dcT,cond_true,cond_false,C6 b,d,aa,dcF g,dcF m,q3z,q4i e];rfl
 grind[q3y]
theorem PInv.start (c:N.all D5=true) (i:Fi.length<=64) (a:∀q∈Fi,I9 n N q=0):PInv N n (Fi.map gmk) 0 [] (λ_ _=>0) (G2 (λ_=>[]) Fi) (G2 (λ_=>[]) Fi) (λ_=>G9 (Fi.map gmk) []) (λ_ _=>[]) where
 bag w:=by
  have h:=z3h j7f (Fi.map gmk);show BagK _ (G5 (Fi.map gmk++[]));grind
 perm w:=cq _
 que w v:=by split<;>rfl
 kle w v:=cB _
 kself w:=rfl
 new x d:=by grind
 held w s b:=by
  rcases j2b _ _ b with h | ⟨g,e,f⟩
  all_goals grind[q1a]
 glen:=ax _
 hlen w:=by
  grind[q4x]
end
end

section
open Go Go.Abs

def smk (s:Stp):Mk:=(s.1,s.2.1,1,())
def mks (r:Mk):Stp:=(r.1,r.2.1,())
def O2 (R:List Mk):List Stp:=R.flatMap λr=>List.replicate r.2.2.1.toNat (mks r)
theorem y0c {s:Stp}:∀{R:List Mk},(∀r∈R,mks r≠s)->(O2 R).count s=0
 | R,h=>List.count_eq_zero.2 λa=>by
  obtain⟨r,b,c⟩:=bb.1 a;grind
theorem y0d {s:Stp} {r0:Mk} (b:mks r0=s):∀{R:List Mk},R.Pairwise (λx y=>mks x≠mks y)->r0∈R->(O2 R).count s=r0.2.2.1.toNat
 | [],_,h=>by grind
 | r::R,a,h=>by
  have a:=ba.1 a;show(List.replicate r.2.2.1.toNat (mks r)++O2 R).count s=_;rw[List.count_append];rcases al.1 h with e | h
  ·subst e;rw[y0c (R:=R) λq c e=>a.1 q c (b.trans e.symm),b,List.count_replicate_self,cz]
  ·rw[y0d b a.2 h,List.count_replicate,if_neg (by
    intro e;exact a.1 r0 h ((beq_iff_eq.1 e).trans b.symm)),cA]
section
variable {N:List B5} {E:List Edge}
theorem y7t {H:List Stp} (a:∀x∈H,x.2.1.length<=4) (j:H.length<=1000) {s:Stp} (hs:s.2.1.length<=4):G5 (H.map smk) (s.1,E0 s.2.1)=(H.count s:Int):=by
 have b:∀(l:List Stp) (c:Nat),(∀x∈l,x.2.1.length<=4)->c+l.length<=1000->(l.map smk).foldl (K4 (s.1,E0 s.2.1)) (c:Int)=((c+l.count s:Nat):Int):=by
  intro l
  induction l with
  | nil=>grind
  | cons x l i =>
   intro c a g;rw[ai]at g;rw[bB,List.foldl_cons];by_cases e:x=s
   ·have:K4 (s.1,E0 s.2.1) (c:Int) (smk x)=((c+1:Nat):Int):=by
     unfold K4;rw[if_pos (by rw[e];rfl)];exact B2 (show c<9223372036854775807 by omega)
    rw[this,i (c+1) (λy f=>a y (aj _ f)) (by omega),e,List.count_cons_self];omega
   ·have:K4 (s.1,E0 s.2.1) (c:Int) (smk x)=(c:Int):=by
     unfold K4;rw[if_neg λh=>e ?_];have m:x.1=s.1:=congrArg (λz=>z.1) h;have k:=y0x (a x ar) hs (congrArg (λz=>z.2) h);grind
    grind
 have h:=b H 0 a (by omega);rw[cA]at h;exact h
theorem y5o {H:List Stp} (h:∀s∈H,OkS N s):OkL N.length (B0 N) (H.map smk):=λr b=>by
 obtain⟨s,c,rfl⟩:=aW.1 b;obtain⟨k,a,e,_,d⟩:=h s c;exact⟨k,a,e,d⟩
theorem y7j {H:List Stp} {n:Nat} {r:Mk} (a:r∈D6 n (H.map smk)):∃s∈H,mks r=s/\r.2.2.1=G5 (H.map smk) (s.1,E0 s.2.1):=by
 obtain⟨v,g,a⟩:=bb.1 a;obtain⟨t,e,h,rfl⟩:=mem_rowsAt.1 a;obtain⟨q,f,b,c⟩:=mem_timesAt.1 e;obtain⟨s,d,rfl⟩:=aW.1 f;have b:s.1=(v:Int):=b;have c:s.2.1=t:=c;exact⟨s,d,eI b.symm (eI c.symm rfl),by grind⟩
theorem y0e {H:List Stp} (h:∀s∈H,OkS N s) (j:H.length<=1000):(O2 (D6 N.length (H.map smk))).Perm H:=by
 have n:=y5o h;have c:(D6 N.length (H.map smk)).Pairwise λx y=>mks x≠mks y:=(j5d n).imp λ{x y} f e=>by
  have q:x.1=y.1:=congrArg (λz:Stp=>z.1) e;have g:x.2.1=y.2.1:=congrArg (λz:Stp=>z.2.1) e;rcases (q0a x y).1 f with h | ⟨_,h⟩
  ·omega
  ·rw[g]at h;exact S9 _ h
 refine List.perm_iff_count.2 λs=>?_;by_cases d:s∈H
 ·obtain⟨k,l,m,o,p⟩:=h s d;have a:=y7t (λx i=>(h x i).le) j (h s d).le;have b:((s.1,s.2.1,G5 (H.map smk) (s.1,E0 s.2.1),()):Mk)∈D6 N.length (H.map smk):=by
   refine bb.2 ⟨k,aL.2 m,mem_rowsAt.2 ⟨s.2.1,mem_timesAt.2 ⟨smk s,aW.2 ⟨s,d,rfl⟩,l,rfl⟩,?_,?_⟩⟩
   all_goals grind
  rw[y0d (s:=s) (r0:=(s.1,s.2.1,G5 (H.map smk) (s.1,E0 s.2.1),())) rfl c b,a];rfl
 grind[y0c,y7j]
theorem y7z {x y:Stp} (h:x.2.1.length<=1000000):(λa b=>(q73 (a,b,())).map λr=>r.1) x y=some (M5 (smk x) (smk y)):=by
 grind[q73,M5,smk,j81,z8g,j82]
theorem v5n {A H:List Stp} (j:A.Perm H) (h:∀s∈H,OkS N s) (D:H.length<=1000):O6 (λa b=>(q73 (a,b,())).map λr=>r.1) A=some (O2 (D6 N.length (H.map smk))):=by
 have z:=j.trans (y0e h D).symm;have g:∀x∈A,x.2.1.length<=1000000:=λx f=>by
  have:=(h x (j.mem_iff.1 f)).le;omega
 have i:∀x∈A,∀y:Stp,ltF (λa b=>(q73 (a,b,())).map λr=>r.1) x y↔M5 (smk x) (smk y)<0:=λx f y=>by
  grind[ltF,y7z]
 have m:∀x:Mk,¬M5 x x<0:=λx h=>by
  rcases (q0a x x).1 h with h | ⟨_,h⟩
  ·omega
  ·exact S9 _ h
 have v:∀x y w:Mk,M5 x y<0->M5 y w<0->M5 x w<0:=λx y w d c=>by
  rw[q0a]at d c ⊢;rcases d with d | ⟨d,o⟩<;>rcases c with c | ⟨c,n⟩
  ·omega
  ·omega
  ·omega
  ·exact .inr ⟨by omega,q11 o n⟩
 refine z8i ⟨λx f y _=>⟨_,y7z (g x f)⟩,λx f=>?_,λx f y t w F=>?_,λx f y t d c=>?_⟩ z.symm ?_
 ·grind
 ·grind
 ·rw[i x f]at d;rw[i y t]at c;rw[q0a]at d c;have e:x.1=y.1:=by
   have C:¬x.1<y.1:=λh=>d (.inl h);have B:¬y.1<x.1:=λh=>c (.inl h);omega
  have C:¬B6 x.2.1 y.2.1<0:=λh=>d (.inr ⟨e,h⟩);have B:¬B6 y.2.1 x.2.1<0:=λh=>c (.inr ⟨e.symm,h⟩);grind[T0,cmpL_eq]
 ·have l:(O2 (D6 N.length (H.map smk))).Pairwise λa b=>¬M5 (smk b) (smk a)<0:=by
   unfold O2;rw[dV];constructor
   ·grind
   ·refine(j5d (y5o h)).imp λ{x y} k p j q u=>?_;rw[eH j,eH u]
    exactλh=>m _ (v _ _ _ h k)
  refine l.imp_of_mem λ{a b} _ G E=>?_;grind
end
end

section
open Go Go.Abs

section
variable {N:List B5} {E:List Edge} {n:Nat} {M:Nat->BgK} {A H:Nat->List Stp} {Q:Nat->Nat->List (List Mk)} {P:Tb} {Fi:List H8} {S:List St6}
theorem y1x {m:BgK} {L:List Mk} (a:BagK m (G5 L)) (d:∀r∈L,OkM N r) (b:∀k,k<N.length->B0 N k<=4) (c:L.length<=1000):z2j (m,())=some (D6 N.length L,()):=by
 rw[v2b a];exact y8w (λr e=>by obtain⟨k,h,g,_,f⟩:=d r e;grind) b c
theorem k3n {R:List Mk} (c:R.length<=1000000):A1 (z2h (R,())) (([]:List Stp),(0:Int),())=some (.inl (q01 R,())):=by
 have a:A1 (z2h (R,())) (([]:List Stp),(0:Int),())=some (.inl (((R.take R.length).filterMap q47),())):=by
  refine D3 R.length (λi=>((R.take i).filterMap q47,(i:Int),())) _ (λi b=>?_) ?_ (by simp)
  ·rw[j20 _ b];grind[q47,z2h,C3,B2,D4]
  grind[z2h]
 rw[cX]at a;exact a
theorem j5i {L:List Mk} (c:∀r∈L,OkM N r):∀s∈q01 (D6 N.length L),OkS N s:=λs e=>by
 obtain⟨q,b,a⟩:=eu.1 e;unfold q47 at a;split at a
 ·cases a;obtain⟨v,n,b⟩:=bb.1 b;obtain⟨t,f,l,rfl⟩:=mem_rowsAt.1 b;obtain⟨r,d,g,j⟩:=mem_timesAt.1 f;obtain⟨k,a,h,m,i⟩:=c r d;exact⟨k,g.symm.trans a,h,by grind,by grind⟩
 grind
theorem z8w {L:List Mk} (c:∀r∈L,OkM N r) (d:∀k,k<N.length->B0 N k<=4):(D6 N.length L).length<=L.length:=by
 have a:=j06 L [];rw[j7h (λr b=>by obtain⟨k,a,f,_,e⟩:=c r b;grind) d,bi]at a;grind
theorem j9q (g:GR N.length (B0 N) (B3 N) (edN E)) (j:PF N.length (B0 N) (B3 N) (edN E) P) (e:∀u v,∀x∈P u v,bx x) {m:BgK} {L:List Mk} (f:BagK m (G5 L)) (a:∀r∈L,OkM N r) (d:L.length<=1000) :
  z99 (m,((N,E,()),sq N.length P,()),())=some (tab N.length (P1 P (q01 (D6 N.length L))),()) /\
  z0k ((N,E,()),sq N.length P,q01 (D6 N.length L),())=some (tab N.length (P1 P (q01 (D6 N.length L))),()):=by
 have o:=g.n12;have c:∀k,k<N.length->B0 N k<=4:=λk i=>(g.d1 k i).2;have h:=z8w a c;have b:(q01 (D6 N.length L)).length<=1000:=bw (y7q _) (by omega);obtain⟨n,l⟩:=v4u (L0:=m) g j e b (j5i a);refine⟨?_,l⟩;unfold z99;simp (disch:=omega) only [y1x f a c d,aa,k3n (R:=D6 N.length L) (by omega),am,ah,dcT,D4,aD,cond_true,n]
theorem v9l (a:Nat) (p q:List Nat):E5 (a::p) (a::q)=E5 p q:=by
 grind[E5,Nat.beq_refl]
def q2p (n:Nat) (M:Nat->BgK) (A:Nat->List Stp) (Q:Nat->Nat->List (List Mk)) (i:Nat):Nat->Rw:=λw=>if w<i then(none,none,tab n (Q w),())else wkF n M A Q w
theorem k1a (i:Nat):B9 (q2p n M A Q i) i (none,none,tab n (Q i),())=q2p n M A Q (i+1):=by
 grind[B9,q2p]
theorem k4r {R:Nat->Rw} {i:Nat} (hi:i<n) (k:n<=4) {a:Option BgK} {b:Option (List Stp)} (h:R i=(a,b,tab n (Q i),())) (c:Rw) (e:c.2.2.1.length=n) (y:Int×List Wo×Unit×List Rw×Unit) (j:y.1=(i:Int)) (f:List Stp) :
  A1 (z6g c y) ((0:Int),tab n R,([]:List Int),(f,()),())=some (.inl (tab n R,tab n (λv=>((Q i v).length:Int)),(f,()),())):=by
 refine D3 n (λv=>((v:Int),tab n R,tab v (λv=>((Q i v).length:Int)),(f,()),())) _ (λv g=>?_) ?_ rfl
 ·unfold z6g;have d:(tab n R).set i (a,b,(tab n (Q i)).set v (Q i v),())=tab n R:=by
   grind[R2,K0]
  simp (disch:=omega) only [e,j,dcT,cond_true,ah,H7 _ hi,h,aa,E8,C3 g,aD,H7 _ g,ai,aq,D4,d,q49,B2]
 grind[z6g]
noncomputable def V9 (N:List B5) (n:Nat) (P:Tb) (H:Nat->List Stp) (L:Nat->List Mk) (Q:Nat->Nat->List (List Mk)) (w:Nat):Wo :=
 (O2 (D6 N.length ((H w).map smk)),D6 N.length (L w),tab N.length (P1 P (q01 (D6 N.length (L w)))),tab n (λv=>((Q w v).length:Int)),())
theorem k4b (g:GR N.length (B0 N) (B3 N) (edN E)) (hP:PF N.length (B0 N) (B3 N) (edN E) P) (hb:∀u v,∀x∈P u v,bx x) (hn:n<=4) {L:Nat->List Mk} (hm:∀w,BagK (M w) (G5 (L w))) (hok:∀w,∀r∈L w,OkM N r) (hL:∀w,(L w).length<=1000) (hp:∀w,(A w).Perm (H w)) (hH:∀w,∀s∈H w,OkS N s) (hHl:∀w,(H w).length<=1000) (cs:List Int) (z1:List Wo) (hz:z1=[]) :
  A1 (q9z ((N,E,()),(n:Int),Fi,S,()) (cs,z1,(),wk n M A Q,()) (sq N.length P,())) ((0:Int),z1,(),wk n M A Q,())=some (.inl (tab n (V9 N n P H L Q),(),tab n (q2p n M A Q n),())):=by
 subst hz;have h0:wk n M A Q=tab n (q2p n M A Q 0):=M3 λw _=>(if_neg (dF w)).symm;refine D3 n (λi=>((i:Int),tab i (V9 N n P H L Q),(),tab n (q2p n M A Q i),())) _ (λi hi=>?_) ?_ (by rw[<-h0];rfl)
 ·have hd:∀k,k<N.length->B0 N k<=4:=λk hk=>(g.d1 k hk).2;have hr:q2p n M A Q i i=(some (M i),some (A i),tab n (Q i),()):=if_neg (Nat.lt_irrefl i);have hk:=y1x (hm i) (hok i) hd (hL i);have hf:=(j9q g hP hb (hm i) (hok i) (hL i)).1;have hs:=v5n (hp i) (hH i) (hHl i);have hAl:(A i).length<=1000:=by have:=(hp i).length_eq;have:=hHl i;omega
  have hw:=k4r (Q:=Q) (R:=B9 (B9 (q2p n M A Q i) i (some (M i),none,tab n (Q i),())) i (none,none,tab n (Q i),())) hi hn (a:=none) (b:=none) (q19 ..) (some (M i),some (A i),tab n (Q i),()) (E8 ..) ((i:Int),tab i (V9 N n P H L Q),(),tab n (q2p n M A Q i),()) rfl (O2 (D6 N.length ((H i).map smk)));unfold q9z;simp (disch:=omega) only [O8,dcT,cond_true,E8,C3 hi,aD,ah,H7 _ hi,hr,aa,q1k,cp,cI,v9l,U0,show E5 [0] [1,0]=false from rfl,show E5 [1,0] [0]=false from rfl,bv,hk,hf,D4,hs,show Nat.beq 39936 40960=false from rfl,R2,q19,hw,am,ai,aq,B2];rw[j24,k1a];rw[<-q49 i (V9 N n P H L Q)];rfl
 ·unfold q9z;simp (disch:=omega) only [O8,dcF,cond_false]
end
end

section
open Go Go.Abs

section
variable {N:List B5} {E:List Edge} {n:Nat} {F:List Mk} {G:List Nw} {Kn:Nat->Nat->Nat} {H A:Nat->List Stp} {M:Nat->BgK} {Q:Nat->Nat->List (List Mk)} {P:Tb} {Fi:List H8} {S:List St6}
theorem r9 {l:List Stp} (d:l.length<=1000):A1 (z0j l) (([]:List Mk),(0:Int),())=some (.inl (l.map smk,())):=by
 have b:A1 (z0j l) (([]:List Mk),(0:Int),())=some (.inl ((l.take l.length).map smk,())):=by
  refine D3 l.length (λi=>((l.take i).map smk,(i:Int),())) _ (λi a=>?_) ?_ (by simp)
  ·have c:((l.take i).map smk).length<=1000:=by grind
   rw[aw a,bC];unfold z0j;simp (disch:=omega) only [dcT,cond_true,C3 a,ah,af a,aa,ai,aq,D4,aI,B2];rfl
  grind[z0j]
 grind
theorem r10 {r:Mk} (b:r.2.2.1<=1000) {K:List Stp} (c:K.length<=1000000) (z:List Mk×List (List (List Int))×Unit):A1 (z6u r) ((0:Int),K,z,())=some (.inl (K++List.replicate r.2.2.1.toNat (mks r),z,())):=by
 refine D3 r.2.2.1.toNat (λi=>((i:Int),K++List.replicate i (mks r),z,())) _ (λi a=>?_) ?_ (by simp)
 ·grind[mks,List.replicate_succ',z6u,D4,B2]
 grind[z6u]
theorem v5m {R:List Mk} (a:∀r∈R,r.2.2.1<=1000):(O2 R).length<=R.length*1000:=by
 refine j23 λr b=>?_;grind
theorem r11 {R:List Mk} (f:R.length<=1000) (b:∀r∈R,r.2.2.1<=1000):A1 (z09 (R,())) ((0:Int),([]:List Stp),([]:List Int),(([]:List Mk),([]:List (List (List Int))),()),())=some (.inl (O2 R,[],([],[],()),())):=by
 have a:A1 (z09 (R,())) ((0:Int),([]:List Stp),([]:List Int),(([]:List Mk),([]:List (List (List Int))),()),())=some (.inl (O2 (R.take R.length),[],([],[],()),())):=by
  refine D3 R.length (λi=>((i:Int),O2 (R.take i),[],([],[],()),())) _ (λi e=>?_) ?_ (by rfl)
  ·have c:(O2 (R.take i)).length<=1000000:=by
    grind[v5m]
   have d:O2 (R.take (i+1))=O2 (R.take i)++List.replicate R[i].2.2.1.toNat (mks R[i]):=by
    grind[O2,List.take_succ_eq_append_getElem]
   grind[z09,C3,r10,B2]
  grind[z09]
 grind
theorem r12 (c:F.length<=1000) (z:List Int×List Wo×Unit×List (List Stp)×List Mk×Unit×Unit) (d:z.2.2.2.2.1=F):A1 (z0a z) (([]:List Mk),(0:Int),())=some (.inl (F,())):=by
 have b:A1 (z0a z) (([]:List Mk),(0:Int),())=some (.inl (F.take F.length,())):=by
  refine D3 F.length (λi=>(F.take i,(i:Int),())) _ (λi a=>?_) ?_ (by simp)
  ·rw[aw a];grind[z0a,C3,D4,B2]
  grind[z0a]
 grind
theorem r13 (x:Nw) (d:x.2.2.length<=1000) {K:List Mk} (c:K.length<=1000000):A1 (z0b (nwD x)) (K,(0:Int),())=some (.inl (K++x.2.2,())):=by
 have a:A1 (z0b (nwD x)) (K,(0:Int),())=some (.inl (K++x.2.2.take x.2.2.length,())):=by
  refine D3 x.2.2.length (λi=>(K++x.2.2.take i,(i:Int),())) _ (λi b=>?_) ?_ (by simp)
  ·grind[List.take_succ_eq_append_getElem,z0b,nwD,C6,D4,B2]
  grind[z0b,nwD]
 grind
abbrev j6h:=List (List Sm)×Int×List Wo×Unit×List (List Stp)×List (List Int)×Unit
abbrev z2y:=List Int×List Wo×Unit×List (List Stp)×List (Int×(List Mk×Unit))×Unit×List (List Int)×Unit
theorem r15 (B:F.length<=1000) (C:G.length<=1000) (a:∀x∈G,x.1<n/\x.2.2.length<=5) {w:Nat} (j:w<n) (z:z2y) (o:z.2.2.2.2.1=G.map nwD) (y:j6h) (u:y.2.1=(w:Int)) (m:y.2.2.2.2.1.length=n) :
  A1 (z0c z y) (F,(0:Int),kt n Kn,List.replicate n (0:Int),())=some (.inl (G3 F (Kn w) w G,kt n Kn,tab n (λv=>((ofN v G).length:Int)),())):=by
 have s:A1 (z0c z y) (F,(0:Int),kt n Kn,List.replicate n (0:Int),())=some (.inl (G3 F (Kn w) w (G.take G.length),kt n Kn,tab n (λv=>((ofN v (G.take G.length)).length:Int)),())):=by
  refine D3 G.length (λi=>(G3 F (Kn w) w (G.take i),(i:Int),kt n Kn,tab n (λv=>((ofN v (G.take i)).length:Int)),())) _ (λi l=>?_) ?_ (by grind[q0o,G3,L9,ofN])
  ·obtain⟨k,q⟩:=a _ (ay l);have e:(G3 F (Kn w) w (G.take i)).length<=1000000:=by
    have:=j30 (K:=Kn w) (w:=w) (b:=5) (G.take i) (λ_=>0) λx t=>(a x (bq t)).2;grind[G3]
   have p:(ofN G[i].1 (G.take i)).length<=1000:=bw (bA ..) (by grind);have r:G3 F (Kn w) w (G.take (i+1))=G3 F (Kn w) w (G.take i)++if(ofN G[i].1 (G.take i)).length<Kn w G[i].1\/G[i].1=w then G[i].2.2 else []:=by
    grind[G3,List.take_succ_eq_append_getElem,j32]
   have A:tab n (λv=>((ofN v (G.take (i+1))).length:Int))=tab n (B9 (λv=>((ofN v (G.take i)).length:Int)) G[i].1 (((ofN G[i].1 (G.take i)).length+1:Nat):Int)):=M3 λv _=>by
    grind[j3p,B9]
   have f:(kt n Kn).set w (tab n λv=>(Kn w v:Int))=kt n Kn:=q9d w Kn;have g:(G.map nwD)[i]? = some (nwD G[i]):=by grind
   have h:(nwD G[i]).1=(G[i].1:Int):=rfl;have c:=r13 G[i] (by omega) e;have d:A1 (y46 (nwD G[i])) (G3 F (Kn w) w (G.take i),(0:Int),())=_:=c;unfold z0c;simp (disch:=omega) only [o,bi,dcT,cond_true,C3 l,ah,g,aa,h,E8,C3 k,H7 _ k,u,z5e,C3 j,aD,q9c j,q36,q0b,c,d,am,f,B2,R2];grind
  grind[z0c]
 grind
theorem r16 (f:G.length<=1000) (v:Nat) (z:z2y) (d:z.2.2.2.2.1=G.map nwD) (y:Int×List (List Int)×List Int×(List Mk×Unit)×Unit) (e:y.1=(v:Int)) :
  A1 (z0d z y) ((0:Int),(0:Int),())=some (.inl (((ofN v G).length:Int),())):=by
 have c:A1 (z0d z y) ((0:Int),(0:Int),())=some (.inl (((ofN v (G.take G.length)).length:Int),())):=by
  refine D3 G.length (λi=>(((ofN v (G.take i)).length:Int),(i:Int),())) _ (λi b=>?_) ?_ (by rfl)
  ·have a:(ofN v (G.take i)).length<=1000:=bw (bA ..) (by grind);rw[j3p b];unfold z0d;grind[C3,nwD,B2]
  grind[z0d]
 grind
theorem r17 {i:Nat} (I:PInv N n F i G Kn H A M Q) (hi:i<=60) (o:n<=4) {w:Nat} (b:w<n) (z:z2y) (m:z.2.2.2.2.1=G.map nwD) (y:j6h) (g:y.2.1=(w:Int)) (a:y.2.2.2.2.1.length=n) (r:List Mk×Unit) :
  A1 (z6v y z) ((0:Int),kt n Kn,([]:List Int),r,())=some (.inl (kt n Kn,tab n (λv=>((Q w v).length:Int)),r,())):=by
 have j:G.length<=1000:=by have:=I.glen;omega
 refine D3 n (λv=>((v:Int),kt n Kn,tab v (λv=>((Q w v).length:Int)),r,())) _ (λv d=>?_) ?_ rfl
 ·have c:=I.que w v;have k:=r16 j v z m ((v:Int),kt n Kn,tab v (λv=>((Q w v).length:Int)),r,()) rfl;have e:=I.kle w v;have l:(ofN v G).length<=G.length:=bA ..;unfold z6v;simp (disch:=omega) only [a,dcT,cond_true,g,ah,q9c b,aa,O0,B2];by_cases h:v=w
  ·grind[E8,D4,q9d,q49]
  ·rw[if_neg (show ¬(v:Int)=(w:Int)by omega)];rw[if_neg h]at c;have f:((Q w v).length:Int)=IntKind.i64.wrap (((ofN v G).length:Int)-(Kn w v:Int)):=by
    rw[c,bi,bR,F6 (by omega) (by omega)];omega
   simp (disch:=omega) only [k,aa,am,z5e,C3 b,aD,cond_true,U0,E8,C3 d,H7 _ d,ai,aq,D4,q9d,<-f];rw[q49 v (λv=>((Q w v).length:Int))]
 grind[z6v]
end
end

section
open Go Go.Abs

variable {i:Nat}
section
variable {N:List B5} {E:List Edge} {n:Nat} {F:List Mk} {G:List Nw} {Kn:Nat->Nat->Nat} {H A:Nat->List Stp} {M:Nat->BgK} {Q:Nat->Nat->List (List Mk)} {P:Tb} {Fi:List H8} {S:List St6}
theorem z5d (I:PInv N n F i G Kn H A M Q) (hi:i<=60) (f:F.length<=64) (d:∀r∈F,OkM N r) (w:Nat):(∀r∈G3 F (Kn w) w G,OkM N r)/\(G3 F (Kn w) w G).length<=1000:=by
 constructor
 ·intro r c;rcases aQ.1 c with h | h
  ·grind
  ·obtain⟨x,a,h⟩:=y0z _ _ h;exact(I.new x a).2.2.2 r h
 ·have e:=j30 (K:=Kn w) (w:=w) (b:=5) G (λ_=>0) λx a=>(I.new x a).2.2.1;have:=I.glen;grind[G3]
theorem k1b (I:PInv N n F i G Kn H A M Q) (hi:i<=60) (W:F.length<=64) (m:∀r∈F,OkM N r) (g:GR N.length (B0 N) (B3 N) (edN E)) (X:PF N.length (B0 N) (B3 N) (edN E) P) (V:∀u v,∀x∈P u v,bx x) (U:n<=4) (a:List Int×List Wo×Unit×List (List Stp)×List Mk×Unit×Unit) (d:a.2.2.2.2.1=F) (z:z2y) (O:z.2.2.2.2.1=G.map nwD) :
  A1 (z0e ((N,E,()),(n:Int),Fi,S,()) a z) (sq N.length P,(0:Int),([]:List Wo),(),tab n H,kt n Kn,())=some (.inl (tab n (V9 N n P H (λw=>G3 F (Kn w) w G) Q),(),tab n H,kt n Kn,())):=by
 have j:∀k,k<N.length->B0 N k<=4:=λk hk=>(g.d1 k hk).2;have T:=I.glen;refine D3 n (λi=>(sq N.length P,(i:Int),tab i (V9 N n P H (λw=>G3 F (Kn w) w G) Q),(),tab n H,kt n Kn,())) _ (λw h=>?_) ?_ rfl
 ·have b:(H w).length<=1000:=by have:=I.hlen w;omega
  have Y:=r9 b;have y:=y7i (N:=N) (E:=E) ((H w).map smk) (by grind) g.n12 (λr e=>by
   obtain⟨s,c,rfl⟩:=aW.1 e;exact I.held w s c) j
  have C:(D6 N.length ((H w).map smk)).length<=1000:=by
   have:=z8w (N:=N) (L:=(H w).map smk) (λr e=>by
    obtain⟨s,c,rfl⟩:=aW.1 e;exact I.held w s c) j
   grind
  have B:=r11 C λr e=>by
   obtain⟨s,c,e1,Z⟩:=y7j e;rw[Z,y7t (λx l=>(I.held w x l).le) b (I.held w s c).le];grind
  have o:=r12 (F:=F) (by omega) a d;have J:=r15 (n:=n) (Kn:=Kn) (F:=F) (by omega) (show G.length<=1000 by omega) (λx l=>⟨(I.new x l).1,(I.new x l).2.2.1⟩) h z O (sq N.length P,(w:Int),tab w (V9 N n P H (λw=>G3 F (Kn w) w G) Q),(),tab n H,kt n Kn,()) rfl (E8 ..);obtain⟨D,K⟩:=z5d I hi W m w;have f:=y7i (N:=N) (E:=E) (G3 F (Kn w) w G) K g.n12 D j;have hss:=z8w D j;have t:=y95 (R:=D6 N.length (G3 F (Kn w) w G)) (by omega);have p:=(j9q g X V (I.bag w) D K).2;have q:=r17 I hi U h z O (sq N.length P,(w:Int),tab w (V9 N n P H (λw=>G3 F (Kn w) w G) Q),(),tab n H,kt n Kn,()) rfl (E8 ..) (D6 N.length (G3 F (Kn w) w G),());unfold z0e;simp (disch:=omega) only [dcT,cond_true,E8,C3 h,aD,ah,H7 _ h,aa,Y,am,y,B,o,D4,J,f,t,p,q,ai,aq,R2,K0,B2];grind[q49,V9]
 grind[z0e]
theorem j8c {l:List Int} (b:l.length<=1000000):z6k (l,l,())=some (true,()):=by
 unfold z6k;have a:A1 (j46 (l,l,())) ((0:Int),())=some (if(List.range l.length).any (λ_=>false)=true then .inl (false,())else .inr (.inl ())):=by
  refine q0h l.length () _ _ _ (λi c=>?_) ?_
  all_goals grind[j46,C6,B2]
 grind
theorem k3o {l:List Stp} (b:l.length<=100000000) (c:∀s∈l,s.2.1.length<=4):z73 (l,l,())=some (true,()):=by
 unfold z73;have a:A1 (j49 (l,l,())) ((0:Int),())=some (if(List.range l.length).any (λ_=>false)=true then .inl (false,())else .inr (.inl ())):=by
  refine q0h l.length () _ _ _ (λi d=>?_) ?_
  all_goals grind[j49,C6,j48,B2]
 grind
theorem k4y (g:GR N.length (B0 N) (B3 N) (edN E)) (m:PF N.length (B0 N) (B3 N) (edN E) P) (o:∀u v,∀x∈P u v,bx x) (I:PInv N n F i G Kn H A M Q) (hi:i<=60) (O:F.length<=64) (h:∀r∈F,OkM N r) (Z:n<=4) (w:Nat) :
  z1g (V9 N n P H (λw=>G3 F (Kn w) w G) Q w,V9 N n P H (λw=>G3 F (Kn w) w G) Q w,())=some (true,()):=by
 have K:∀k,k<N.length->B0 N k<=4:=λk J=>(g.d1 k J).2;obtain⟨c,V⟩:=z5d I hi O h w;have y:(H w).length<=1000:=by have:=I.hlen w;omega
 have a:=y0e (I.held w) y;have S:=k3o (l:=O2 (D6 N.length ((H w).map smk))) (by rw[a.length_eq];omega) λs C=>(I.held w s (a.mem_iff.1 C)).le;have U:=z8w c K;have e:∀r∈D6 N.length (G3 F (Kn w) w G),r.2.1.length<=1000000:=λr j=>by
  obtain⟨v,_,hv,X,_⟩:=j5c (d:=B0 N) (λr j=>by obtain⟨k,Y,h2,_,W⟩:=c r j;grind) j;grind
 have z:=y8x (R:=D6 N.length (G3 F (Kn w) w G)) (by omega) e;have p:(q01 (D6 N.length (G3 F (Kn w) w G))).length<=1000:=bw (y7q _) (by omega);have q:∀u v,(P u v).length<=154700:=λu v=>q33 (m.an u v) (o u v);have T:=v4v (n:=N.length) (f:=P1 P (q01 (D6 N.length (G3 F (Kn w) w G)))) g.n12 λb D=>by
  obtain⟨S,z,T⟩:=q0r (K2 P b (q01 (D6 N.length (G3 F (Kn w) w G))));unfold P1;rw[j9p (q81 g m o (j5i c))];have:=z3b q b p;refine⟨bw (bA _ _) (by omega),λt B=>?_⟩;have:=(q81 g m o (j5i c) t ((z t).1 (bn.1 B).1)).2;grind
 grind[q41,E8,z1g,V9]
end
end

end Go.Proofs.Tryz
