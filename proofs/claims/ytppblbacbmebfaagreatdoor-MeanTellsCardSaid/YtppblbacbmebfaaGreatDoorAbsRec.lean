/- The engine: a function that calls itself. What it sees of the heap is told in a form; what it comes to is a plain function of a plain function, to a fixed depth. -/
import Derived.Test.YtppblbacbmebfaaGreatDoorAbsTi
import Derived.Test.YtppblbacbmebfaaGreatDoorAbsSoundD
namespace Go.Abs
open Go Go.RowKit
variable {P:Program} {L:Nat->Prop} {w0:World}
inductive RC where
 | v (t:Ty)
 | fn (f:Nat) (caps:List (Nat×Nat))
 | arr (k:Nat) (e:TypeId) (t:Ty)
 | mp (id:Nat)
inductive RO where
 | cel (id:Nat) (cs:List RC)
 | map (id:Nat) (ak av:Bool) (tk tv:Ty)
inductive PF where
 | v (t:Ty)
 | ptr (id off:Nat)
@[reducible] def M6:List PF->Type
 | []=>Unit
 | .v t::r=>t.den×M6 r
 | .ptr _ _::r=>M6 r
@[reducible] def N5:List RC->Type
 | []=>Unit
 | .v t::r=>t.den×N5 r
 | .fn _ _::r=>N5 r
 | .arr _ _ t::r=>List t.den×N5 r
 | .mp _::r=>N5 r
@[reducible] def G3:List RO->Type
 | []=>Unit
 | .cel _ cs::r=>N5 cs×G3 r
 | .map _ _ _ tk tv::r=>List (tk.den×tv.den)×G3 r
@[reducible] def L1:List Ty->Type
 | []=>Unit
 | t::r=>t.den×L1 r
structure RecI where
 f:FuncId
 ib:Nat
 ps:List PF
 rs:List Ty
 os:List RO
 pan:TypeId
def J3:(ps:List PF)->M6 ps->List AV
 | [],_=>[]
 | .v t::r,y=>.one (.sc t y.1)::J3 r y.2
 | .ptr id off::r,y=>.one (.ptr id off)::J3 r y
def N2:(rs:List Ty)->L1 rs->List AV
 | [],_=>[]
 | t::r,y=>.one (.sc t y.1)::N2 r y.2
def F2 (s:Nat):(cs:List RC)->N5 cs->List SV
 | [],_=>[]
 | .v t::r,y=>.sc t y.1::F2 s r y.2
 | .fn f caps::r,y=>.fn f caps::F2 s r y
 | .arr k _ _::r,y=>.own (s+k)::F2 s r y.2
 | .mp id::r,y=>.mp id::F2 s r y
def J6 (s:Nat):(cs:List RC)->N5 cs->List (Nat×AObj)
 | [],_=>[]
 | .v _::r,y=>J6 s r y.2
 | .fn _ _::r,y=>J6 s r y
 | .arr k e t::r,y=>(s+k,.arr e t y.1)::J6 s r y.2
 | .mp _::r,y=>J6 s r y
def B2 (s:Nat):(os:List RO)->G3 os->List (Nat×AObj)
 | [],_=>[]
 | .cel id cs::r,y=>(id,.cells (F2 s cs y.1))::(J6 s cs y.1++B2 s r y.2)
 | .map id ak av tk tv::r,y=>(id,.mapo ak av tk tv y.1)::B2 s r y.2
def C3:List (Nat×AObj)->Heap->Heap
 | [],h=>h
 | p::r,h=>upd (C3 r h) p.1 p.2
def C5:List RO->List Nat
 | []=>[]
 | .cel id _::r=>id::C5 r
 | .map id _ _ _ _::r=>id::C5 r
def M7:List RC->List Nat
 | []=>[]
 | .arr k _ _::r=>k::M7 r
 | _::r=>M7 r
def F3:List RO->List Nat
 | []=>[]
 | .cel _ cs::r=>M7 cs++F3 r
 | .map ..::r=>F3 r
def T1:List RC->List Nat
 | []=>[]
 | .fn _ caps::r=>caps.map (·.1)++T1 r
 | .mp id::r=>id::T1 r
 | _::r=>T1 r
def M9:List RO->List Nat
 | []=>[]
 | .cel _ cs::r=>T1 cs++M9 r
 | .map ..::r=>M9 r
def K1 (s:Nat):List RO->List Nat
 | []=>[]
 | .cel id cs::r=>id::((M7 cs).map (s+·)++K1 s r)
 | .map id _ _ _ _::r=>id::K1 s r
def q3x:List PF->List Nat
 | []=>[]
 | .ptr id _::r=>id::q3x r
 | .v _::r=>q3x r
def wfR (ri:RecI):Bool :=
 O3 (K1 0 ri.os)&&(C5 ri.os++F3 ri.os).all (fun i=>Nat.blt i T7)&&q3a (M9 ri.os) (C5 ri.os)&&q3a (q3x ri.ps) (C5 ri.os)
section
variable {R:Type}
def inP (h:Heap):(ps:List PF)->List AV->(M6 ps->List Nat->Option R)->Option R
 | [],[],K=>K () []
 | .v t::r,a::l,K=>(match F5 h [(false,t)] [a]with
  | some (y,ids)=>inP h r l fun ys i2=>K (y.1,ys) (ids++i2)
  | none=>none)
 | .ptr id off::r,.one (.ptr id' off')::l,K=>cond (Nat.beq id id'&&Nat.beq off off') (inP h r l K) none
 | _,_,_=>none
def q7f (h:Heap):(rs:List Ty)->List AV->(L1 rs->List Nat->Option R)->Option R
 | [],[],K=>K () []
 | t::r,a::l,K=>(match F5 h [(false,t)] [a]with
  | some (y,ids)=>q7f h r l fun ys i2=>K (y.1,ys) (ids++i2)
  | none=>none)
 | _,_,_=>none
def z06:List (Nat×Nat)->List (Nat×Nat)->Bool
 | [],[]=>true
 | (a,b)::r,(c,d)::l=>Nat.beq a c&&Nat.beq b d&&z06 r l
 | _,_=>false
def inC (h:Heap):(cs:List RC)->List SV->(N5 cs->List (Nat×Option Nat)->Option R)->Option R
 | [],[],K=>K () []
 | .v t::r,.sc t' x::l,K=>(match G2 t' t x with
  | some y=>inC h r l fun ys m=>K (y,ys) m
  | none=>none)
 | .v (.list _)::r,.nils::l,K=>inC h r l fun ys m=>K ([],ys) m
 | .fn f caps::r,.fn f' caps'::l,K=>cond (Nat.beq f f'&&z06 caps caps') (inC h r l K) none
 | .arr k e t::r,.own j::l,K=>(match h j with
  | .arr e' t' x=>(match G2 (.list t') (.list t) x with
   | some x'=>cond (Nat.beq e e') (inC h r l fun ys m=>K (x',ys) ((k,some j)::m)) none
   | none=>none)
  | _=>none)
 | .arr k _ _::r,.nils::l,K=>inC h r l fun ys m=>K ([],ys) ((k,none)::m)
 | .mp id::r,.mp id'::l,K=>cond (Nat.beq id id') (inC h r l K) none
 | _,_,_=>none
def inO (h:Heap):(os:List RO)->(G3 os->List (Nat×Option Nat)->Option R)->Option R
 | [],K=>K () []
 | .cel id cs::r,K=>(match h id with
  | .cells l=>inC h cs l fun y m=>inO h r fun ys m2=>K (y,ys) (m++m2)
  | _=>none)
 | .map id ak av tk tv::r,K=>q7x h id ak av tk tv fun x=>inO h r fun ys m=>K (x,ys) m
end
def I2 (l:List Nat) (h:Heap):Heap:=fun id=>cond (E4 l id) .dead (h id)
noncomputable def j7l (ri:RecI) (rec:M6 ri.ps×G3 ri.os->Option (Option (L1 ri.rs)×G3 ri.os)) (x:M6 ri.ps) (h:Heap) (lo:Nat->Bool) (s:Nat) (R:Type) (K:AV->Heap->Option R):Option R :=
 inO h ri.os fun y m =>
  cond (O3 (E2 m)&&q1s lo (C5 ri.os)&&q1s lo (E2 m)&&q75 h lo ((F3 ri.os).map (s+·))&&O3 (K1 s ri.os))
   ((rec (x,y)).bind fun z=>P5 z.1 (q3k lo ri.pan (C3 (B2 s ri.os z.2) (I2 (E2 m) h)) K) fun r=>K (q1z (N2 ri.rs r)) (C3 (B2 s ri.os z.2) (I2 (E2 m) h))) none
noncomputable def j0t (ri:RecI) (rec:M6 ri.ps×G3 ri.os->Option (Option (L1 ri.rs)×G3 ri.os)) (args:List AV) (h:Heap) (lo:Nat->Bool) (s:Nat) (R:Type) (K:AV->Heap->Option R):Option R :=
 cond (wfR ri) (inP h ri.ps args fun x ids=>cond (q1s lo ids) (j7l ri rec x (A5 (B3 h ids) h) lo s R K) none) none
theorem z3l {id:Nat}:∀ (l:List (Nat×AObj)) (h:Heap),(∀ p∈l,p.1≠id)->C3 l h id=h id
 | [],_,_=>rfl
 | p::r,h,a=>by
  simp[C3]
  rw[A0 _ _ (fun e=>a p List.mem_cons_self e.symm)]
  exact z3l r h fun q b=>a q (List.mem_cons_of_mem _ b)
theorem q01 {p:Nat×AObj}:∀ (l:List (Nat×AObj)) (h:Heap),(l.map (·.1)).Nodup->p∈l->C3 l h p.1=p.2
 | q::r,h,b,a=>by
  simp[C3]
  rw[List.map_cons,List.nodup_cons]at b
  rcases List.mem_cons.1 a with rfl | a
  ·exact A1 _ _ _
  ·rw[A0 _ _ (fun e=>b.1 (by rw[<-e];exact List.mem_map_of_mem a))]
   exact q01 r h b.2 a
theorem j08:∀ {l:List Nat},O3 l=true->l.Nodup
 | [],_=>List.nodup_nil
 | x::r,h=>by
  obtain⟨a,b⟩:=j6v h
  exact List.nodup_cons.2 ⟨a,j08 b⟩
def FixS (S:List Nat):SV->Prop
 | .fn _ caps=>∀ p∈caps,p.1∈S
 | .mp id=>id∈S
 | _=>False
theorem FixS.mono {S b:List Nat} (a:∀ i∈S,i∈b) {s:SV} (h:FixS S s):FixS b s:=by
 cases s<;>first | exact h.elim | exact a _ h | exact fun p c=>a _ (h p c)
theorem FixS.rep {S:List Nat} {s:SV} (a:FixS S s) {L':Nat->Prop} {κ κ':A2} {h h':Heap} {w w':World} {u:Value} (e:RepSV L κ h w s u) (hh:∀ i∈S,(h' i).Held/\κ' i=κ i):RepSV L' κ' h' w' s u:=by
 cases s with
 | fn f g =>
  obtain⟨n,q,o,r⟩:=e
  refine⟨n,q,o,fun i p k=>?_⟩
  obtain⟨j,d⟩:=hh _ (a p (List.mem_of_getElem? k))
  grind
 | mp id =>
  obtain⟨_,b,c,m,l⟩:=e
  obtain⟨j,d⟩:=hh _ a
  exact⟨j,b,c,d.trans m,l⟩
 | _=>exact a.elim
def MatchR (S:List Nat) (O:List (Nat×AObj)) (h:Heap) (m:List (Nat×Option Nat)) (s0 s:SV):Prop :=
 (∃ t x,s0=.sc t x/\s=.sc t x)\/(∃ e,s0=.sc (.list e) []/\s=.nils)\/(s=s0/\FixS S s0) \/
 ∃ k e t l,s0=.own k/\(k,AObj.arr e t l)∈O/\((∃ j,s=.own j/\(k,some j)∈m/\h j=.arr e t l)\/(s=.nils/\(k,none)∈m/\l=[]))
def j26 (S:List Nat) (O:List (Nat×AObj)) (h:Heap) (m:List (Nat×Option Nat)) (l0 l:List SV):Prop:=l.length=l0.length/\∀ (i:Nat) (s0 s:SV),l0[i]? = some s0->l[i]? = some s->MatchR S O h m s0 s
def WasR (O:List (Nat×AObj)) (h:Heap) (m:List (Nat×Option Nat)) (os:List RO) (p:Nat×AObj):Prop :=
 (p.1∈C5 os/\∃ l0 l,p.2=.cells l0/\h p.1=.cells l/\j26 (M9 os) O h m l0 l) \/
 (p.1∈C5 os/\∃ ak av tk tv l,p.2=.mapo ak av tk tv l/\h p.1=p.2) \/
 (p.1∈F3 os/\∃ e t l,p.2=.arr e t l/\((∃ j,(p.1,some j)∈m/\h j=.arr e t l)\/((p.1,none)∈m/\l=[])))
theorem MatchR.mono {S f:List Nat} {O d:List (Nat×AObj)} {h:Heap} {m n:List (Nat×Option Nat)} (o:∀ i∈S,i∈f) (q:∀ p∈O,p∈d) (g:∀ p∈m,p∈n) {s0 s:SV}:MatchR S O h m s0 s->MatchR f d h n s0 s
 | .inl x=>.inl x
 | .inr (.inl x)=>.inr (.inl x)
 | .inr (.inr (.inl ⟨a,b⟩))=>.inr (.inr (.inl ⟨a,b.mono o⟩))
 | .inr (.inr (.inr ⟨k,e,t,l,a,b,c⟩))=>.inr (.inr (.inr ⟨k,e,t,l,a,q _ b,c.imp (fun ⟨j,x,y,z⟩=>⟨j,x,g _ y,z⟩) fun ⟨x,y,z⟩=>⟨x,g _ y,z⟩⟩))
theorem WasR.mono {O n:List (Nat×AObj)} {h:Heap} {m k:List (Nat×Option Nat)} {os f:List RO} (r:∀ p∈O,p∈n) (g:∀ p∈m,p∈k) (v:∀ i∈M9 os,i∈M9 f) (h1:∀ i∈C5 os,i∈C5 f) (u:∀ i∈F3 os,i∈F3 f) {p:Nat×AObj}:WasR O h m os p->WasR n h k f p
 | .inl ⟨a,q,l,b,c,d,e⟩=>.inl ⟨h1 _ a,q,l,b,c,d,fun i o s x y=>(e i o s x y).mono v r g⟩
 | .inr (.inl ⟨a,b⟩)=>.inr (.inl ⟨h1 _ a,b⟩)
 | .inr (.inr ⟨a,e,t,l,b,c⟩)=>.inr (.inr ⟨u _ a,e,t,l,b,c.imp (fun ⟨j,x,y⟩=>⟨j,g _ x,y⟩) fun ⟨x,y⟩=>⟨g _ x,y⟩⟩)
theorem j3f:∀ {a b:List (Nat×Nat)},z06 a b=true->a=b
 | [],[],_=>rfl
 | [],_::_,h=>by cases h
 | _::_,[],h=>by cases h
 | (a,b)::r,(c,d)::l,h=>by
  simp only[z06,Bool.and_eq_true]at h
  rw[Nat.eq_of_beq_eq_true h.1.1,Nat.eq_of_beq_eq_true h.1.2,j3f h.2]
theorem q3p {R:Type} {h:Heap}:∀ (cs:List RC) (l:List SV) (K:N5 cs->List (Nat×Option Nat)->Option R) (z:R),inC h cs l K=some z ->
  ∃ y m,K y m=some z/\m.map (·.1)=M7 cs/\j26 (T1 cs) (J6 0 cs y) h m (F2 0 cs y) l/\(∀ p∈J6 0 cs y,p.1∈M7 cs/\∃ e t l,p.2=.arr e t l/\((∃ j,(p.1,some j)∈m/\h j=.arr e t l)\/((p.1,none)∈m/\l=[])))
 | cs,l,K,z,q=>by
  unfold inC at q
  split at q
  ·exact⟨(),[],q,rfl,⟨rfl,fun i o s a _=>by grind⟩,fun p g=>by grind[J6]⟩
  ·rename_i t r J x u K
   split at q
   ·rename_i y O
    obtain⟨F,D⟩:=H2 O
    subst F
    have D:x=y:=D
    subst D
    obtain⟨d,m,v,C,c,B⟩:=q3p r u _ z q
    refine⟨(x,d),m,v,C,⟨by simp[F2,c.1],fun i o s a b=>?_⟩,B⟩
    cases i with
    | zero=>simp[F2]at a b;exact .inl ⟨_,x,a.symm,b.symm⟩
    | succ i=>exact(c.2 i o s (by grind[F2]) (by grind)).mono (fun i E=>by grind[T1]) (fun _ h=>h) fun _ h=>h
   grind
  ·rename_i e r u K
   obtain⟨d,m,v,C,c,B⟩:=q3p r u _ z q
   refine⟨(([]:List e.den),d),m,v,C,⟨by simp[F2,c.1],fun i o s a b=>?_⟩,B⟩
   cases i with
   | zero=>simp[F2]at a b;exact .inr (.inl ⟨e,a.symm,b.symm⟩)
   | succ i=>exact(c.2 i o s (by grind[F2]) (by grind)).mono (fun i E=>by grind[T1]) (fun _ h=>h) fun _ h=>h
  ·rename_i f I r U G u K
   obtain⟨w,A⟩:=A8 q
   rw[Bool.and_eq_true]at w
   have Q:=Nat.eq_of_beq_eq_true w.1
   have T:=j3f w.2
   subst Q;subst T
   obtain⟨d,m,v,C,c,B⟩:=q3p (h:=h) r u _ z A
   refine⟨d,m,v,C,⟨by simp[F2,c.1],fun i o s a b=>?_⟩,B⟩
   cases i with
   | zero=>simp[F2]at a b;exact .inr (.inr (.inl ⟨b.symm.trans a,by rw[<-a];exact fun p g=>by grind[T1]⟩))
   | succ i=>exact(c.2 i o s (by grind[F2]) (by grind)).mono (fun i E=>by grind[T1]) (fun _ h=>h) fun _ h=>h
  ·rename_i k e t r j u K
   split at q
   ·rename_i V J x N
    split at q
    ·rename_i S H
     obtain⟨F,D⟩:=H2 H
     cases F
     have D:x=S:=D
     subst D
     obtain⟨w,A⟩:=A8 q
     have w:=Nat.eq_of_beq_eq_true w
     subst w
     obtain⟨d,m,v,C,c,B⟩:=q3p (h:=h) r u _ z A
     have n:∀ p∈J6 0 r d,p∈J6 0 (.arr k e t::r) ((x,d):List t.den×N5 r):=fun p g=>List.mem_cons_of_mem _ g
     refine⟨((x,d):List t.den×N5 r),(k,some j)::m,v,by grind[M7],⟨by simp[F2,c.1],fun i o s a b=>?_⟩,fun p g=>?_⟩
     ·cases i with
      | zero =>
       simp[F2]at a b
       exact .inr (.inr (.inr ⟨k,e,t,x,a.symm,by simp[J6],.inl ⟨j,b.symm,List.mem_cons_self,N⟩⟩))
      | succ i=>exact(c.2 i o s (by grind[F2]) (by grind)).mono (fun i E=>by grind[T1]) n fun p g=>List.mem_cons_of_mem _ g
     ·rcases List.mem_cons.1 g with rfl | g
      all_goals grind[M7]
    grind
   grind
  ·rename_i k e t r u K
   obtain⟨d,m,v,C,c,B⟩:=q3p r u _ z q
   have n:∀ p∈J6 0 r d,p∈J6 0 (.arr k e t::r) ((([]:List t.den),d):List t.den×N5 r):=fun p g=>List.mem_cons_of_mem _ g
   refine⟨((([]:List t.den),d):List t.den×N5 r),(k,none)::m,v,by grind[M7],⟨by simp[F2,c.1],fun i o s a b=>?_⟩,fun p g=>?_⟩
   ·cases i with
    | zero =>
     simp[F2]at a b
     exact .inr (.inr (.inr ⟨k,e,t,[],a.symm,by simp[J6],.inr ⟨b.symm,List.mem_cons_self,rfl⟩⟩))
    | succ i=>exact(c.2 i o s (by grind[F2]) (by grind)).mono (fun i E=>by grind[T1]) n fun p g=>List.mem_cons_of_mem _ g
   ·rcases List.mem_cons.1 g with rfl | g
    all_goals grind[M7]
  ·rename_i id r M u K
   obtain⟨w,A⟩:=A8 q
   have w:=Nat.eq_of_beq_eq_true w
   subst w
   obtain⟨d,m,v,C,c,B⟩:=q3p (h:=h) r u _ z A
   refine⟨d,m,v,C,⟨by simp[F2,c.1],fun i o s a b=>?_⟩,B⟩
   cases i with
   | zero=>simp[F2]at a b;exact .inr (.inr (.inl ⟨b.symm.trans a,by rw[<-a];exact List.mem_cons_self⟩))
   | succ i=>exact(c.2 i o s (by grind[F2]) (by grind)).mono (fun i E=>by grind[T1]) (fun _ h=>h) fun _ h=>h
  grind
theorem z1r {R:Type} {h:Heap}:∀ (os:List RO) (K:G3 os->List (Nat×Option Nat)->Option R) (z:R),inO h os K=some z ->
  ∃ y m,K y m=some z/\m.map (·.1)=F3 os/\∀ p∈B2 0 os y,WasR (B2 0 os y) h m os p
 | [],K,z,e=>⟨(),[],e,rfl,fun p d=>by grind[B2]⟩
 | .cel id g::r,K,z,e=>by
  simp[inO]at e
  split at e
  ·rename_i l C
   obtain⟨y,m,e,J,u,H⟩:=q3p g l _ z e
   obtain⟨k,o,e,v,n⟩:=z1r r _ z e
   have F:∀ p∈J6 0 g y,p∈B2 0 (.cel id g::r) ((y,k):N5 g×G3 r):=fun p d=>List.mem_cons_of_mem _ (List.mem_append_left _ d)
   refine⟨((y,k):N5 g×G3 r),m++o,e,by grind[F3],fun p d=>?_⟩
   rcases List.mem_cons.1 d with rfl | d
   ·exact .inl ⟨by simp[C5],_,l,rfl,C,u.1,fun i B s a b=>(u.2 i B s a b).mono (fun i f=>by grind[M9]) F fun p d=>List.mem_append_left _ d⟩
   ·rcases List.mem_append.1 d with d | d
    ·obtain⟨a,E,A,I,b,c⟩:=H p d
     exact .inr (.inr ⟨by grind[F3],E,A,I,b,c.imp (fun ⟨j,x,y⟩=>⟨j,List.mem_append_left _ x,y⟩) fun ⟨x,y⟩=>⟨List.mem_append_left _ x,y⟩⟩)
    ·exact(n p d).mono (fun p d=>List.mem_cons_of_mem _ (List.mem_append_right _ d)) (fun p d=>List.mem_append_right _ d) (fun i f=>by grind[M9]) (fun i f=>by grind[C5]) fun i f=>by grind[F3]
  grind
 | .map id G w q t::r,K,z,e=>by
  obtain⟨x,D,e⟩:=z9x e
  obtain⟨k,o,e,v,n⟩:=z1r r _ z e
  refine⟨((x,k):List (q.den×t.den)×G3 r),o,e,by simp[F3,v],fun p d=>?_⟩
  rcases List.mem_cons.1 d with rfl | d
  ·exact .inr (.inl ⟨by simp[C5],G,w,q,t,x,rfl,D⟩)
  ·exact(n p d).mono (fun p d=>List.mem_cons_of_mem _ d) (fun p d=>d) (fun i f=>by simpa[M9]using f) (fun i f=>by exact List.mem_cons_of_mem _ f) fun i f=>by simpa[F3]using f
theorem R9 (s:Nat):∀ (os:List RO) (y:G3 os),(B2 s os y).map (·.1)=K1 s os
 | [],_=>rfl
 | .cel id a::r,y=>by
  have g:∀ (a:List RC) (y:N5 a),(J6 s a y).map (·.1)=(M7 a).map (s+·):=by
   intro a
   induction a with
   | nil=>intro _;rfl
   | cons c a b =>
    intro y
    cases c with
    | v t=>exact b y.2
    | fn f d=>exact b y
    | arr k e t=>simp[J6,M7,List.map_cons];rw[b y.2]
    | mp id=>exact b y
  simp[B2,K1,List.map_cons,List.map_append]
  rw[g,R9 s r y.2]
 | .map id j h l i::r,y=>by simp[B2,K1,List.map_cons];rw[R9 s r y.2]
theorem keys_cases {s i:Nat}:∀ {os:List RO},i∈K1 s os↔i∈C5 os\/∃ k∈F3 os,i=s+k
 | []=>by grind[K1,C5,F3]
 | .cel id e::r=>by
  have c:=keys_cases (s:=s) (i:=i) (os:=r)
  simp[K1,C5,F3,List.mem_cons,List.mem_append,List.mem_map,c]
  constructor
  ·rintro (h | ⟨k,a,b⟩ | h | ⟨k,a,b⟩)
   ·exact .inl (.inl h)
   ·exact .inr ⟨k,.inl a,b.symm⟩
   ·exact .inl (.inr h)
   ·exact .inr ⟨k,.inr a,b⟩
  ·rintro ((h | h) | ⟨k,a | a,b⟩)
   ·exact .inl h
   ·exact .inr (.inr (.inl h))
   ·exact .inr (.inl ⟨k,a,b.symm⟩)
   ·exact .inr (.inr (.inr ⟨k,a,b⟩))
 | .map id g f d j::r=>by
  have c:=keys_cases (s:=s) (i:=i) (os:=r)
  simp[K1,C5,F3,List.mem_cons,c]
  constructor
  ·rintro (h | h | h)
   ·exact .inl (.inl h)
   ·exact .inl (.inr h)
   ·exact .inr h
  ·rintro ((h | h) | h)
   ·exact .inl h
   ·exact .inr (.inl h)
   ·exact .inr (.inr h)
theorem q7p {s:Nat}:∀ {os:List RO},(K1 s os).Nodup->∀ i∈C5 os,∀ k∈F3 os,i≠s+k
 | [],_=>fun i b=>by cases b
 | .cel id l::r,c=>fun i b k a=>by
  simp only[K1,List.nodup_cons,List.nodup_append,List.mem_append,not_or]at c
  obtain⟨⟨f,d⟩,j,h,g⟩:=c
  simp[C5,F3,List.mem_cons,List.mem_append]at b a
  rcases b with rfl | b<;>rcases a with a | a
  ·exact fun e=>f (e▸List.mem_map_of_mem a)
  ·exact fun e=>d (keys_cases.2 (.inr ⟨k,a,e⟩))
  ·exact fun e=>g _ (List.mem_map_of_mem a) i (keys_cases.2 (.inl b)) e.symm
  ·exact q7p h i b k a
 | .map id n m p o::r,c=>fun i b k a=>by
  simp[K1,List.nodup_cons]at c
  simp[C5,F3,List.mem_cons]at b a
  rcases b with rfl | b
  ·exact fun e=>c.1 (keys_cases.2 (.inr ⟨k,a,e⟩))
  ·exact q7p c.2 i b k a
theorem z2o:∀ {os:List RO},(K1 0 os).Nodup->(F3 os).Nodup
 | [],_=>List.nodup_nil
 | .cel id m::r,c=>by
  simp[K1,List.nodup_cons,List.nodup_append,Nat.zero_add,List.map_id',List.mem_append,not_or]at c
  obtain⟨⟨j,i⟩,f,d,e⟩:=c
  exact List.nodup_append.2 ⟨f,z2o d,fun a g b h=>e a g b (keys_cases.2 (.inr ⟨b,h,(Nat.zero_add b).symm⟩))⟩
 | .map id k l o n::r,c=>by
  simp[K1,List.nodup_cons]at c
  exact z2o (os:=r) c.2
theorem q5f:∀ {m:List (Nat×Option Nat)} {i:Nat} {o:Option Nat},(m.map (·.1)).Nodup->(i,o)∈m->B9 i m=some o
 | (a,b)::r,i,o,c,e=>by
  rw[List.map_cons,List.nodup_cons]at c
  simp[B9]
  rcases List.mem_cons.1 e with h | h
  ·cases h;rw[Nat.beq_refl];rfl
  ·have:Nat.beq a i=false:=by
    cases g:Nat.beq a i with
    | false=>rfl
    | true=>exact absurd (List.mem_map_of_mem (f:=(·.1)) h) (Nat.eq_of_beq_eq_true g▸c.1)
   rw[this]
   exact q5f c.2 h
theorem z9u:∀ {m:List (Nat×Option Nat)} {i:Nat},i∉m.map (·.1)->B9 i m=none
 | [],_,_=>rfl
 | (a,b)::r,i,c=>by
  simp only[List.map_cons,List.mem_cons,not_or]at c
  simp[B9]
  have:Nat.beq a i=false:=by
   cases e:Nat.beq a i with
   | false=>rfl
   | true=>exact absurd (Nat.eq_of_beq_eq_true e).symm c.1
  rw[this]
  exact z9u c.2
def M5 (os:List RO) (m:List (Nat×Option Nat)) (κ:A2):A2:=fun id=>match B9 id m with
 | some (some j)=>κ j
 | some none=>none
 | none=>cond (E4 (C5 os) id) (κ id) none
def q22 (m:List (Nat×Option Nat)) (id:Nat):Nat:=match B9 id m with
 | some (some j)=>j
 | _=>id
theorem q45 {s:Nat}:∀ {os:List RO} {y:G3 os} {i:Nat},i∈C5 os->∃ o,(i,o)∈B2 s os y/\o.Held
 | .cel id e::r,y,i,a=>by
  simp[C5,List.mem_cons]at a
  rcases a with rfl | a
  ·exact⟨_,List.mem_cons_self,by simp⟩
  ·obtain⟨o,b,c⟩:=q45 (s:=s) (y:=y.2) a
   exact⟨o,List.mem_cons_of_mem _ (List.mem_append_right _ b),c⟩
 | .map id g f d h::r,y,i,a=>by
  simp[C5,List.mem_cons]at a
  rcases a with rfl | a
  ·exact⟨_,List.mem_cons_self,by simp⟩
  ·obtain⟨o,b,c⟩:=q45 (s:=s) (y:=y.2) a
   exact⟨o,List.mem_cons_of_mem _ b,c⟩
theorem RepArr.atL {L':Nat->Prop} {κ κ1:A2} {h h1:Heap} {w:World} (s:∀ b,A3 L κ h w b->A3 L' κ1 h1 w b) {n g:Nat} (f:κ1 n=κ g) {e:TypeId} {t:Ty} {l:List t.den} (q:RepArr L κ h w g e t l):RepArr L' κ1 h1 w n e t l:=by
 rcases q with⟨a,b⟩ | ⟨b,c,d,k,j,v,r,u,m,o⟩
 ·exact .inl ⟨f.trans a,b⟩
 ·exact .inr ⟨b,c,d,f.trans k,j,v,r,u,m,fun i y p=>RepAt.mono (fun b x=>⟨s b x,rfl⟩) t _ y (o i y p)⟩
theorem z9b {κ:A2} {h:Heap} {w:World} (C:HeapOK L w0 κ h w) {os:List RO} {y:G3 os} {m:List (Nat×Option Nat)} (hk:m.map (·.1)=F3 os) (hw:∀ p∈B2 0 os y,WasR (B2 0 os y) h m os p) (hnd:(K1 0 os).Nodup)
  (hb:∀ i,i∈C5 os\/i∈F3 os->i<T7) (G:∀ i∈M9 os,i∈C5 os) (hs:O3 (E2 m)=true) {L':Nat->Prop} (h2:∀ b,L' b->L b\/∃ i c,(h i).live=true/\κ i=some (b,c)/\i∉C5 os/\i∉E2 m) :
  HeapOK L' w0 (M5 os m κ) (C3 (B2 0 os y) E7) w/\(∀ b,A3 L κ h w b->A3 L' (M5 os m κ) (C3 (B2 0 os y) E7) w b)/\(∀ b,N6 κ h w b->N6 (M5 os m κ) (C3 (B2 0 os y) E7) w b) /\
   (∀ i b c,(C3 (B2 0 os y) E7 i).live=true->M5 os m κ i=some (b,c)->∃ Z,(h Z).live=true/\κ Z=some (b,c)/\(Z∈C5 os\/Z∈E2 m))/\∀ i∈C5 os,M5 os m κ i=κ i:=by
 have X:((B2 0 os y).map (·.1)).Nodup:=by grind[R9]
 have hap:=q7p hnd
 have hnn:(m.map (·.1)).Nodup:=by grind[z2o]
 have stn:∀ i∈C5 os,B9 i m=none:=fun i n=>z9u (by grind)
 have v:∀ i∈C5 os,M5 os m κ i=κ i:=fun i n=>by grind[M5,memb_iff]
 have K:∀ i j,(i,some j)∈m->M5 os m κ i=κ j/\q22 m i=j/\B9 i m=some (some j):=fun i j hm=>by
  grind[q5f,M5,q22]
 have J:∀ i,(i,none)∈m->M5 os m κ i=none:=fun i hm=>by grind[M5,q5f]
 have H:∀ id,(∃ o,(id,o)∈B2 0 os y/\C3 (B2 0 os y) E7 id=o)\/((∀ p∈B2 0 os y,p.1≠id)/\C3 (B2 0 os y) E7 id=E7 id):=fun id=>by
  by_cases R:∃ p∈B2 0 os y,p.1=id
  ·obtain⟨p,r,rfl⟩:=R
   grind[q01]
  grind[z3l]
 have off:∀ id,(∀ p∈B2 0 os y,p.1≠id)->(id∉C5 os/\id∉F3 os):=fun id R=>by
  have:id∉K1 0 os:=by grind[R9]
  grind[keys_cases]
 have offp:∀ id,(∀ p∈B2 0 os y,p.1≠id)->M5 os m κ id=none:=fun id R=>by
  grind[z9u,memb_iff,M5]
 have live:∀ id b c,(C3 (B2 0 os y) E7 id).live=true->M5 os m κ id=some (b,c)->(h (q22 m id)).live=true/\κ (q22 m id)=some (b,c) /\
   ((id∈C5 os/\q22 m id=id/\∀ e t l,h id≠.arr e t l)\/(B9 id m=some (some (q22 m id))/\∃ e t l,h (q22 m id)=.arr e t l)):=fun id b c M r=>by
  rcases H id with⟨o,ho,he⟩ | ⟨R,_⟩
  ·have hst:id∈C5 os->q22 m id=id:=fun n=>by grind[q22]
   rcases hw _ ho with⟨a,l0,l,f,D,_⟩ | ⟨a,ak,av,tk,tv,l,f,D⟩ | ⟨a,e,t,l,f,D⟩
   ·have:=hst a
    rw[v id a]at r
    exact⟨by rw[this,D];rfl,by grind,.inl ⟨a,this,fun e t l h=>by grind⟩⟩
   all_goals grind
  grind
 have B:∀ b,N6 κ h w b->N6 (M5 os m κ) (C3 (B2 0 os y) E7) w b:=fun b Q=>⟨Q.1,fun i c M r=>by
  obtain⟨a,b',_⟩:=live i b c M r
  exact Q.2 _ c a b'⟩
 have nl:∀ id b c,(C3 (B2 0 os y) E7 id).live=true->M5 os m κ id=some (b,c)->¬ L' b:=fun id b c M r g=>by
  obtain⟨a,b',cc⟩:=live id b c M r
  rcases h2 b g with U | ⟨i,E,W,S,i3,i4⟩
  ·exact(C.outer b U).2 _ c a b'
  ·have:=C.inj i _ b E c W a S b'
   grind[X7]
 have A:∀ b,A3 L κ h w b->A3 L' (M5 os m κ) (C3 (B2 0 os y) E7) w b:=fun b V=>⟨V.1,fun g=>by
  rcases h2 b g with U | ⟨i,E,W,S,_,_⟩
  ·exact V.2.1 U
  ·exact V.2.2 i E W S,(B b ⟨V.1,V.2.2⟩).2⟩
 have fm:∀ b,A3 L κ h w b->A3 L' (M5 os m κ) (C3 (B2 0 os y) E7) w b/\w.heap[b]? = w.heap[b]?:=fun b hb=>⟨A b hb,rfl⟩
 have N:∀ i∈C5 os,(C3 (B2 0 os y) E7 i).Held:=fun i n=>by
  obtain⟨o,h1,h2⟩:=q45 (s:=0) (y:=y) n
  rw[q01 (p:=(i,o)) _ _ X h1];omega
 refine⟨⟨fun id=>?_,fun i j b c E n hj hpi hpj=>?_,fun i b c n r=>?_,C.below,fun b g=>⟨?_,fun i c M r=>nl i b c M r g⟩,fun id hid=>?_⟩,A,B,fun i b c M r=>?_,v⟩
 ·rcases H id with⟨o,ho,he⟩ | ⟨R,he⟩
  ·rw[he]
   rcases hw _ ho with⟨a,l0,l,f,D,e3⟩ | ⟨a,ak,av,tk,tv,l,f,D⟩ | ⟨a,e,t,l,f,D⟩
   ·have f:o=.cells l0:=f
    subst f
    have d:=C.obj id
    rw[D]at d
    obtain⟨b,c,cs,ty,r1,r2,r3,r4⟩:=d
    refine⟨b,c,cs,ty,(v id a).trans r1,r2,r3.trans e3.1,fun i s0 u n hu=>?_⟩
    obtain⟨s,T⟩:∃ s,l[i]? = some s:=⟨l[i]'(by grind),List.getElem?_eq_getElem _⟩
    obtain⟨F,t2⟩:=r4 i s u T hu
    refine⟨?_,t2⟩
    rcases e3.2 i s0 s n T with⟨t,x,z,q⟩ | ⟨e,z,q⟩ | ⟨z,q⟩ | ⟨k,e,t,x,z,q,q3⟩
    ·subst z;subst q
     exact⟨F.1,F.2.1,RepAt.mono fm t _ x F.2.2⟩
    ·subst z;subst q
     have:u=.slice none 0 0:=F
     subst this
     exact⟨rfl,rfl,none,0,0,rfl,rfl,Nat.le_refl _,fun h=>absurd rfl h⟩
    ·subst z
     exact q.rep F fun i n=>⟨N _ (G _ n),v _ (G _ n)⟩
    ·subst z
     have hk':C3 (B2 0 os y) E7 k=.arr e t x:=q01 (p:=(k,.arr e t x)) _ _ X q
     refine⟨?_,t2⟩
     rw[hk']
     rcases q3 with⟨j,rfl,O,g2⟩ | ⟨rfl,O,rfl⟩
     ·have F:=F.1
      grind
     ·have:u=.slice none 0 0:=F
      grind
   ·have f:o=.mapo ak av tk tv l:=f
    subst f
    have d:=C.obj id
    rw[show h id=.mapo ak av tk tv l from D]at d
    obtain⟨b,c,es,cl,r1,r2,r3⟩:=d
    exact⟨b,c,es,cl,(v id a).trans r1,r2,r3.mono fm⟩
   ·have f:o=.arr e t l:=f
    subst f
    rcases D with⟨j,O,g2⟩ | ⟨O,rfl⟩
    ·have d:=C.obj j
     rw[g2]at d
     exact RepArr.atL A (K id j O).1 d
    ·exact .inl ⟨J id O,rfl⟩
  ·rw[he];unfold E7;cases Nat.ble T7 id<;>trivial
 ·obtain⟨a1,a2,a3⟩:=live i b c n hpi
  obtain⟨b1,b2,b3⟩:=live j b E hj hpj
  have e:=C.inj _ _ b c E a1 b1 a2 b2
  rcases a3 with⟨p1,Y,p3⟩ | ⟨p1,e4,t4,l4,Y⟩<;>rcases b3 with⟨z,q,q3⟩ | ⟨z,e5,t5,l5,q⟩
  ·rw[Y,q]at e;exact e
  ·rw[Y]at e;exact absurd (e▸q) (p3 _ _ _)
  ·rw[q]at e;exact absurd (e▸Y) (q3 _ _ _)
  ·rw[<-e]at z;exact z25 hs p1 z
 ·obtain⟨a1,a2,_⟩:=live i b c n r
  exact C.own _ b c a1 a2
 ·rcases h2 b g with U | ⟨i,E,W,S,_,_⟩
  ·exact(C.outer b U).1
  ·exact(C.own i b E W S).2
 all_goals grind[j6t,R9,List.mem_map_of_mem,keys_cases,X7]
def SameR (s:Nat) (os:List RO) (O:List (Nat×AObj)) (i0:Nat) (o0:AObj) (i:Nat) (o:AObj):Prop :=
 (i∈C5 os/\i0=i/\∃ l0 l,o0=.cells l0/\o=.cells l/\l.length=l0.length/\∀ (j:Nat) (s0 s1:SV),l0[j]? = some s0->l[j]? = some s1->(s1=s0/\((∃ t x,s0=.sc t x)\/FixS (M9 os) s0))\/∃ k e t x,s0=.own k/\s1=.own (s+k)/\k∈F3 os/\(k,AObj.arr e t x)∈O) \/
 (i∈C5 os/\i0=i/\o0=o/\∃ ak av tk tv l,o=.mapo ak av tk tv l) \/
 ((∃ k∈F3 os,i0=k/\i=s+k)/\o0=o/\∃ e t l,o=.arr e t l)
theorem SameR.mono {s:Nat} {os g:List RO} {O h:List (Nat×AObj)} (A:∀ p∈O,p∈h) (D:∀ i∈M9 os,i∈M9 g) (h1:∀ i∈C5 os,i∈C5 g) (q:∀ i∈F3 os,i∈F3 g) {m i:Nat} {n o:AObj}:SameR s os O m n i o->SameR s g h m n i o
 | .inl ⟨a,b,C,l,c,d,e,f⟩=>.inl ⟨h1 _ a,b,C,l,c,d,e,fun j B r x y=>(f j B r x y).imp (fun ⟨x,y⟩=>⟨x,y.imp (fun z=>z) (·.mono D)⟩) fun ⟨k,e,t,x,u,v,w,z⟩=>⟨k,e,t,x,u,v,q _ w,A _ z⟩⟩
 | .inr (.inl ⟨a,b⟩)=>.inr (.inl ⟨h1 _ a,b⟩)
 | .inr (.inr ⟨⟨k,a,b⟩,c⟩)=>.inr (.inr ⟨⟨k,q _ a,b⟩,c⟩)
theorem q6n (s:Nat):∀ (cs:List RC) (y:N5 cs),(F2 s cs y).length=(F2 0 cs y).length/\(∀ (j:Nat) (m n:SV),(F2 0 cs y)[j]? = some m->(F2 s cs y)[j]? = some n->(n=m/\((∃ t x,m=.sc t x)\/FixS (T1 cs) m))\/∃ k e t x,m=.own k/\n=.own (s+k)/\k∈M7 cs/\(k,AObj.arr e t x)∈J6 0 cs y) /\
  ∀ i o,(i,o)∈J6 s cs y->∃ k∈M7 cs,i=s+k/\(k,o)∈J6 0 cs y/\∃ e t l,o=.arr e t l
 | [],_=>⟨rfl,fun j m n a _=>by grind[F2],fun i o h=>by grind[J6]⟩
 | .v t::r,y=>by
  obtain⟨a,b,c⟩:=q6n s r y.2
  refine⟨by simp[F2,a],fun j m n d g=>?_,c⟩
  cases j with
  | zero=>simp[F2]at d g;exact .inl ⟨by rw[<-d,<-g],.inl ⟨t,y.1,d.symm⟩⟩
  | succ j=>exact b j m n (by simpa[F2]using d) (by simpa[F2]using g)
 | .fn f C::r,y=>by
  obtain⟨a,b,c⟩:=q6n s r y
  refine⟨by simp[F2,a],fun j m n d g=>?_,c⟩
  cases j with
  | zero=>simp[F2]at d g;exact .inl ⟨by rw[<-d,<-g],.inr (by rw[<-d];exact fun p F=>by exact List.mem_append_left _ (List.mem_map_of_mem F))⟩
  | succ j =>
   rcases b j m n (by simpa[F2]using d) (by simpa[F2]using g)with⟨x,y | y⟩ | x
   ·exact .inl ⟨x,.inl y⟩
   ·exact .inl ⟨x,.inr (y.mono fun i A=>by exact List.mem_append_right _ A)⟩
   ·exact .inr x
 | .mp id::r,y=>by
  obtain⟨a,b,c⟩:=q6n s r y
  refine⟨by simp[F2,a],fun j m n d g=>?_,c⟩
  cases j with
  | zero=>simp[F2]at d g;exact .inl ⟨by rw[<-d,<-g],.inr (by rw[<-d];exact List.mem_cons_self)⟩
  | succ j =>
   rcases b j m n (by simpa[F2]using d) (by simpa[F2]using g)with⟨x,y | y⟩ | x
   ·exact .inl ⟨x,.inl y⟩
   ·exact .inl ⟨x,.inr (y.mono fun i A=>by exact List.mem_cons_of_mem _ A)⟩
   ·exact .inr x
 | .arr k e t::r,y=>by
  obtain⟨a,b,c⟩:=q6n s r y.2
  refine⟨by simp[F2,a],fun j m n d g=>?_,fun i o h=>?_⟩
  ·cases j with
   | zero=>simp[F2]at d g;exact .inr ⟨k,e,t,y.1,d.symm,g.symm,by simp[M7],by simp[J6]⟩
   | succ j =>
    rcases b j m n (by simpa[F2]using d) (by simpa[F2]using g)with x | ⟨q,G,D,E,w,z,u,B⟩
    ·exact .inl x
    ·exact .inr ⟨q,G,D,E,w,z,by simp[M7,u],List.mem_cons_of_mem _ B⟩
  ·rcases List.mem_cons.1 h with h | h
   ·cases h;exact⟨k,by simp[M7],rfl,by simp[J6],e,t,y.1,rfl⟩
   ·obtain⟨q,w,z,u,B⟩:=c i o h
    exact⟨q,by simp[M7,w],z,List.mem_cons_of_mem _ u,B⟩
theorem j0c (s:Nat):∀ (os:List RO) (y:G3 os) (i:Nat) (o:AObj),(i,o)∈B2 s os y->∃ d f,(d,f)∈B2 0 os y/\SameR s os (B2 0 os y) d f i o
 | [],_,i,o,h=>by grind[B2]
 | .cel id l::r,y,i,o,h=>by
  obtain⟨F,J,E⟩:=q6n s l y.1
  have G:∀ p∈J6 0 l y.1,p∈B2 0 (.cel id l::r) y:=fun p g=>List.mem_cons_of_mem _ (List.mem_append_left _ g)
  rcases List.mem_cons.1 h with h | h
  ·cases h
   refine⟨id,_,List.mem_cons_self,.inl ⟨by simp[C5],rfl,_,_,rfl,rfl,F,fun j w A a b=>?_⟩⟩
   rcases J j w A a b with⟨x,z | z⟩ | ⟨k,e,t,x,I,u,q,v⟩
   ·grind
   ·exact .inl ⟨x,.inr (z.mono fun i c=>by grind[M9])⟩
   grind[F3]
  ·rcases List.mem_append.1 h with h | h
   ·obtain⟨k,I,u,q,v⟩:=E i o h
    exact⟨k,o,G _ q,.inr (.inr ⟨⟨k,by grind[F3],rfl,u⟩,rfl,v⟩)⟩
   ·obtain⟨d,f,m,n⟩:=j0c s r y.2 i o h
    exact⟨d,f,List.mem_cons_of_mem _ (List.mem_append_right _ m),n.mono (fun p g=>List.mem_cons_of_mem _ (List.mem_append_right _ g)) (fun i c=>by grind[M9]) (fun i c=>by grind[C5]) fun i c=>by grind[F3]⟩
 | .map id H D B C::r,y,i,o,h=>by
  rcases List.mem_cons.1 h with h | h
  ·cases h
   exact⟨id,_,List.mem_cons_self,.inr (.inl ⟨by simp[C5],rfl,rfl,H,D,B,C,y.1,rfl⟩)⟩
  ·obtain⟨d,f,m,n⟩:=j0c s r y.2 i o h
   exact⟨d,f,List.mem_cons_of_mem _ m,n.mono (fun p g=>List.mem_cons_of_mem _ g) (fun i c=>by simpa[M9]using c) (fun i c=>by exact List.mem_cons_of_mem _ c) fun i c=>by simpa[F3]using c⟩
def q4b (L:Nat->Prop) (κ:A2) (h:Heap) (os:List RO) (m:List (Nat×Option Nat)) (b:Nat):Prop:=L b\/∃ i c,(h i).live=true/\κ i=some (b,c)/\i∉C5 os/\i∉E2 m
structure XR (os:List RO) (κ:A2) (h:Heap) (w:World) (κ':A2) (h':Heap) (w':World):Prop where
 place:∀ i∈C5 os,κ' i=κ i
 still:∀ b,N6 κ h w b->N6 κ' h' w' b/\w'.heap[b]? = w.heap[b]?
 size:w.heap.size<=w'.heap.size
 loops:∀ (b:Nat) r,w.heap[b]? = some (Obj.loop r)->∃ r',w'.heap[b]? = some (Obj.loop r')
 defs:∀ b:Nat,w.heap[b]? = some (.deferred (some []))->w'.heap[b]? = some (.deferred (some []))
def O7 (s:Nat) (os:List RO) (κ κ':A2):A2:=fun id=>cond (E4 (C5 os) id) (κ id) (cond (E4 ((F3 os).map (s+·)) id) (κ' (id-s)) (κ id))
theorem z5w:∀ {os:List RO} {y z:G3 os},∀ i∈C5 os,∃ c,(i,c)∈B2 0 os y/\∃ b,(i,b)∈B2 0 os z/\((∃ l,c=.cells l)/\(∃ l,b=.cells l)\/(∃ g e f d l,c=.mapo g e f d l)/\∃ g e f d l,b=.mapo g e f d l)
 | [],_,_,i,a=>by cases a
 | .cel id m::r,y,z,i,a=>by
  simp[C5,List.mem_cons]at a
  rcases a with rfl | a
  ·exact⟨_,List.mem_cons_self,_,List.mem_cons_self,.inl ⟨⟨_,rfl⟩,⟨_,rfl⟩⟩⟩
  ·obtain⟨c,h,b,k,j⟩:=z5w (y:=y.2) (z:=z.2) i a
   exact⟨c,List.mem_cons_of_mem _ (List.mem_append_right _ h),b,List.mem_cons_of_mem _ (List.mem_append_right _ k),j⟩
 | .map id g e f d::r,y,z,i,a=>by
  simp[C5,List.mem_cons]at a
  rcases a with rfl | a
  ·exact⟨_,List.mem_cons_self,_,List.mem_cons_self,.inr ⟨⟨_,_,_,_,_,rfl⟩,⟨_,_,_,_,_,rfl⟩⟩⟩
  ·obtain⟨c,h,b,k,j⟩:=z5w (y:=y.2) (z:=z.2) i a
   exact⟨c,List.mem_cons_of_mem _ h,b,List.mem_cons_of_mem _ k,j⟩
theorem v0y {κ:A2} {h:Heap} {w:World} (ok:HeapOK L w0 κ h w) {os:List RO} {y:G3 os} {m:List (Nat×Option Nat)} (hk:m.map (·.1)=F3 os) (hw:∀ p∈B2 0 os y,WasR (B2 0 os y) h m os p) (hnd:(K1 0 os).Nodup)
  (hb:∀ i,i∈C5 os\/i∈F3 os->i<T7) (M:∀ i∈M9 os,i∈C5 os) (hs:O3 (E2 m)=true) {κ':A2} {w':World} {z:G3 os} (K:HeapOK (q4b L κ h os m) w0 κ' (C3 (B2 0 os z) E7) w')
  (x:XR os (M5 os m κ) (C3 (B2 0 os y) E7) w κ' (C3 (B2 0 os z) E7) w') {s:Nat} (hfr:∀ k∈F3 os,h (s+k)=.fresh) (hns:(K1 s os).Nodup) :
  HeapOK L w0 (O7 s os κ κ') (C3 (B2 s os z) (I2 (E2 m) h)) w'/\Ext L κ h w (O7 s os κ κ') (C3 (B2 s os z) (I2 (E2 m) h)) w' /\
   ∀ b,A3 (q4b L κ h os m) κ' (C3 (B2 0 os z) E7) w' b->A3 L (O7 s os κ κ') (C3 (B2 s os z) (I2 (E2 m) h)) w' b:=by
 obtain⟨okI,freeI,stillI,liveI,pstI⟩:=z9b ok hk hw hnd hb M hs (L':=q4b L κ h os m) (fun b hb=>hb)
 have hkz:((B2 0 os z).map (·.1)).Nodup:=by grind[R9]
 have hky:((B2 0 os y).map (·.1)).Nodup:=by grind[R9]
 have hks:((B2 s os z).map (·.1)).Nodup:=by grind[R9]
 have hap:=q7p hnd
 have haps:=q7p hns
 have hnn:(m.map (·.1)).Nodup:=by grind[z2o]
 have hstat:∀ i∈C5 os,(∃ l,h i=.cells l)\/∃ U V W R l,h i=.mapo U V W R l:=fun i E=>by
  obtain⟨o,h1,h2⟩:=q45 (s:=0) (y:=y) E
  rcases hw _ h1 with⟨a,l0,l,I,O,_⟩ | ⟨a,U,V,W,R,l,I,O⟩ | ⟨a,e,t,l,I,O⟩
  all_goals grind
 have hsrc:∀ j∈E2 m,∃ e t l,h j=.arr e t l:=fun j hj=>by
  obtain⟨q,hq,hq2⟩:=List.mem_filterMap.1 hj
  obtain⟨k,o⟩:=q
  have hq2:o=some j:=hq2
  subst hq2
  have hkm:k∈F3 os:=by grind
  have:k∈(B2 0 os y).map (·.1):=by grind[R9,keys_cases]
  obtain⟨p,v,hp2⟩:=List.mem_map.1 this
  have hp2:p.1=k:=hp2
  rcases hw _ v with⟨a,_⟩ | ⟨a,_⟩ | ⟨a,e,t,l,I,O⟩
  ·grind
  ·grind
  ·rw[hp2]at O
   have C:=q5f hnn hq
   rcases O with⟨j',D,F⟩ | ⟨D,_⟩
   ·rw[q5f hnn D]at C;grind
   ·rw[q5f hnn D]at C;grind
 have nst:∀ i∈E2 m,i∉C5 os:=fun i E hst=>by
  grind
 have mf:∀ {b:List Nat} {i:Nat},i∉b->E4 b i=false:=fun {b i} hn=>by
  grind[memb_iff]
 have κst:∀ i∈C5 os,O7 s os κ κ' i=κ i:=fun i E=>by grind[O7]
 have κnew:∀ k∈F3 os,O7 s os κ κ' (s+k)=κ' k:=fun k hk'=>by
  grind[memb_iff,O7,Nat.add_sub_cancel_left]
 have κoff:∀ i,i∉C5 os->(∀ k∈F3 os,i≠s+k)->O7 s os κ κ' i=κ i:=fun i h1 h2=>by
  grind[O7]
 have X:∀ id,(∃ o,(id,o)∈B2 s os z/\C3 (B2 s os z) (I2 (E2 m) h) id=o)\/((id∉C5 os/\∀ k∈F3 os,id≠s+k)/\C3 (B2 s os z) (I2 (E2 m) h) id=I2 (E2 m) h id):=fun id=>by
  by_cases hx:∃ p∈B2 s os z,p.1=id
  ·obtain⟨p,v,rfl⟩:=hx
   grind[q01]
  ·have hx':∀ p∈B2 s os z,p.1≠id:=fun p v e=>hx ⟨p,v,e⟩
   have:id∉K1 s os:=by grind[R9]
   grind[keys_cases,z3l]
 have kill:∀ id,(I2 (E2 m) h id=.dead/\id∈E2 m)\/(I2 (E2 m) h id=h id/\id∉E2 m):=fun id=>by
  grind[I2,memb_iff]
 have T:∀ id o,(id,o)∈B2 s os z->∃ d o0,C3 (B2 0 os z) E7 d=o0/\SameR s os (B2 0 os z) d o0 id o/\O7 s os κ κ' id=κ' d:=fun id o Y=>by
  obtain⟨d,o0,D,F⟩:=j0c s os z id o Y
  refine⟨d,o0,q01 (p:=(d,o0)) _ _ hkz D,F,?_⟩
  rcases F with⟨a,b,_⟩ | ⟨a,b,_⟩ | ⟨⟨k,a,b,c⟩,_⟩
  ·rw[κst id a,b,x.place id a,pstI id a]
  ·rw[κst id a,b,x.place id a,pstI id a]
  grind
 have g:∀ id b c,(C3 (B2 s os z) (I2 (E2 m) h) id).live=true->O7 s os κ κ' id=some (b,c) ->
   (∃ d,(C3 (B2 0 os z) E7 d).live=true/\κ' d=some (b,c)/\((id∈C5 os/\d=id)\/∃ k∈F3 os,d=k/\id=s+k))\/((h id).live=true/\κ id=some (b,c)/\id∉C5 os/\id∉E2 m):=fun id b c C v=>by
  rcases X id with⟨o,Y,he⟩ | ⟨⟨h1,h2⟩,he⟩
  ·obtain⟨d,o0,D,F,g3⟩:=T id o Y
   refine .inl ⟨d,?_,by grind,?_⟩
   ·rw[D]
    rw[he]at C
    rcases F with⟨_,_,l0,l,I,O,_⟩ | ⟨_,_,I,_⟩ | ⟨_,I,_⟩
    ·rw[I];rfl
    all_goals grind
   ·rcases F with⟨a,b,_⟩ | ⟨a,b,_⟩ | ⟨a,_⟩
    all_goals grind
  ·rw[he]at C
   rcases kill id with⟨J,S⟩ | ⟨J,S⟩
   ·rw[J]at C;cases C
   grind
 have frame:∀ i b c,(h i).live=true->κ i=some (b,c)->i∉C5 os->i∉E2 m->w'.heap[b]? = w.heap[b]?:=fun i b c C v h1 h2=>by
  refine(x.still b ⟨(ok.own i b c C v).2,fun j c' hj hkj=>?_⟩).2
  obtain⟨i',G,A,a3⟩:=liveI j b c' hj hkj
  have:=ok.inj i i' b c c' C G v A
  grind
 have Q:∀ b,N6 κ h w b->N6 (O7 s os κ κ') (C3 (B2 s os z) (I2 (E2 m) h)) w' b/\w'.heap[b]? = w.heap[b]?:=fun b hbs=>by
  obtain⟨G,A⟩:=x.still b (stillI b hbs)
  refine⟨⟨G.1,fun i c C v=>?_⟩,A⟩
  rcases g i b c C v with⟨d,D,F,_⟩ | ⟨D,F,_⟩
  ·exact G.2 d c D F
  ·exact hbs.2 i c D F
 have free:∀ b,A3 (q4b L κ h os m) κ' (C3 (B2 0 os z) E7) w' b->A3 L (O7 s os κ κ') (C3 (B2 s os z) (I2 (E2 m) h)) w' b:=fun b hf=>⟨hf.1,fun hL=>hf.2.1 (.inl hL),fun i c C v=>by
  rcases g i b c C v with⟨d,D,F,_⟩ | ⟨D,F,g3,g4⟩
  ·exact hf.2.2 d c D F
  ·exact hf.2.1 (.inr ⟨i,c,D,F,g3,g4⟩)⟩
 have fm:∀ b,A3 (q4b L κ h os m) κ' (C3 (B2 0 os z) E7) w' b->A3 L (O7 s os κ κ') (C3 (B2 s os z) (I2 (E2 m) h)) w' b/\w'.heap[b]? = w'.heap[b]?:=fun b hb=>⟨free b hb,rfl⟩
 have kind:∀ id,(h id).Held->(id∈C5 os/\((∃ l,h id=.cells l)/\(∃ l,C3 (B2 s os z) (I2 (E2 m) h) id=.cells l)\/(h id).isMap=true/\(C3 (B2 s os z) (I2 (E2 m) h) id).isMap=true/\∃ U V W R l,h id=.mapo U V W R l))\/(C3 (B2 s os z) (I2 (E2 m) h) id=.dead/\∃ e t l,h id=.arr e t l)\/C3 (B2 s os z) (I2 (E2 m) h) id=h id:=fun id hh=>by
  rcases X id with⟨o,Y,he⟩ | ⟨⟨h1,h2⟩,he⟩
  ·obtain⟨d,o0,D,F,g3⟩:=T id o Y
   have key:id∈C5 os->∃ oy oz,WasR (B2 0 os y) h m os (id,oy)/\C3 (B2 0 os z) E7 id=oz/\((∃ l,oy=.cells l)/\(∃ l,oz=.cells l)\/(∃ U V W R l,oy=.mapo U V W R l)/\∃ U V W R l,oz=.mapo U V W R l):=fun a=>by
    obtain⟨oy,J,oz,S,q3⟩:=z5w (y:=y) (z:=z) id a
    exact⟨oy,oz,hw _ J,q01 (p:=(id,oz)) _ _ hkz S,q3⟩
   rcases F with⟨a,b,l0,l,I,O,_⟩ | ⟨a,b,I,U,V,W,R,l,O⟩ | ⟨⟨k,a,b,c⟩,_⟩
   ·refine .inl ⟨a,.inl ⟨?_,l,by grind⟩⟩
    obtain⟨oy,oz,k1,k2,k3⟩:=key a
    subst b
    rw[D,I]at k2
    subst k2
    rcases k3 with⟨⟨ly,k3⟩,_⟩ | ⟨_,_,_,_,_,_,k3⟩
    ·subst k3
     rcases k1 with⟨_,_,l2,_,e4,_⟩ | ⟨_,_,_,_,_,_,e3,_⟩ | ⟨_,_,_,_,e3,_⟩
     all_goals grind
    grind
   ·refine .inl ⟨a,.inr ?_⟩
    obtain⟨oy,oz,k1,k2,k3⟩:=key a
    subst b
    rw[D,I,O]at k2
    subst k2
    rcases k3 with⟨_,_,k3⟩ | ⟨⟨ak2,av2,tk2,tv2,l2,k3⟩,_⟩
    ·grind
    ·subst k3
     rcases k1 with⟨_,_,_,e3,_⟩ | ⟨_,_,_,_,_,_,e3,e4⟩ | ⟨_,_,_,_,e3,_⟩
     ·grind
     ·have e4:h d=.mapo ak2 av2 tk2 tv2 l2:=e4
      exact⟨by rw[e4];rfl,by rw[he,O];rfl,_,_,_,_,_,e4⟩
     grind
   simp_all
  grind
 have notNew:∀ id,h id≠.fresh->∀ k∈F3 os,id≠s+k:=fun id hid k hk' e=>hid (by grind)
 have hκ:∀ id,h id≠.fresh->O7 s os κ κ' id=κ id:=fun id hid=>by
  grind
 have other:∀ id,h id≠.fresh->(∀ l,h id≠.cells l)->(∀ U V W R l,h id≠.mapo U V W R l)->(∀ e t l,h id≠.arr e t l)->C3 (B2 s os z) (I2 (E2 m) h) id=h id:=fun id h0 h1 h2 h3=>by
  grind[R9,List.mem_map_of_mem,keys_cases]
 have hext:Ext L κ h w (O7 s os κ κ') (C3 (B2 s os z) (I2 (E2 m) h)) w':=by
  refine⟨fun id hh=>hκ id hh.1,fun id r=>?_,fun id r=>?_,fun id l r=>?_,fun id e t l r=>?_,fun id e t l f r=>?_,fun id e t c t1 l k f r=>?_,fun id e t l r=>?_,fun id ri rs r=>?_,fun id r=>?_,fun id U V W R le cu r=>?_,Q,x.size,x.loops,x.defs⟩
  ·grind
  ·grind
  ·rcases kind id (by rw[r];simp)with⟨_,⟨_,a⟩ | ⟨a,_⟩⟩ | ⟨a,_⟩ | a
   all_goals grind
  ·rcases kind id (by rw[r];simp)with⟨_,⟨⟨l',a⟩,_⟩ | ⟨a,_⟩⟩ | ⟨a,_⟩ | a
   all_goals grind
  ·grind
  ·grind
  ·grind
  ·grind
  ·have hh:(h id).Held:=⟨(fun e=>by rw[e]at r;cases r),(fun e=>by rw[e]at r;cases r)⟩
   rcases kind id hh with⟨_,⟨⟨l',a⟩,_⟩ | ⟨_,a,_⟩⟩ | ⟨a,_⟩ | a
   ·rw[a]at r;cases r
   all_goals grind
  grind
 have hheld:∀ i∈C5 os,(C3 (B2 s os z) (I2 (E2 m) h) i).Held:=fun i E=>by
  obtain⟨o,h1,h2⟩:=q45 (s:=s) (y:=z) E
  rw[q01 (p:=(i,o)) _ _ hks h1];omega
 have H:∀ i,T7<=i->i∉C5 os/\i∉E2 m/\∀ k∈F3 os,i≠s+k:=fun i E=>by
  have Z:=ok.kids i E
  grind
 refine⟨⟨fun id=>?_,fun i j b c c' E hj hpi hpj=>?_,fun i b c E v=>?_,K.below,fun b hL=>⟨(K.outer b (.inl hL)).1,fun i c C v=>?_⟩,fun id hid=>?_⟩,hext,free⟩
 ·rcases X id with⟨o,Y,he⟩ | ⟨⟨h1,h2⟩,he⟩
  ·rw[he]
   obtain⟨d,o0,D,F,g3⟩:=T id o Y
   have B:=K.obj d
   rw[D]at B
   rcases F with⟨a,b,l0,l,I,O,e3,e4⟩ | ⟨a,b,I,U,V,W,R,l,O⟩ | ⟨⟨k,a,b,c⟩,I,e,t,l,O⟩
   ·subst I;subst O
    obtain⟨b',c',cs,ty,r1,r2,r3,r4⟩:=B
    refine⟨b',c',cs,ty,g3.trans r1,r2,r3.trans e3.symm,fun i s1 u E hu=>?_⟩
    obtain⟨s0,hs0⟩:∃ s0,l0[i]? = some s0:=⟨l0[i]'(by rw[<-e3];exact(List.getElem?_eq_some_iff.1 E).1),List.getElem?_eq_getElem _⟩
    obtain⟨t1,t2⟩:=r4 i s0 u hs0 hu
    refine⟨?_,t2⟩
    rcases e4 i s0 s1 hs0 E with⟨rfl,⟨t,x',rfl⟩ | hcp⟩ | ⟨k,e,t,x',rfl,rfl,J,S⟩
    ·exact⟨t1.1,t1.2.1,RepAt.mono fm t _ x' t1.2.2⟩
    ·exact hcp.rep t1 fun i E=>⟨hheld _ (M _ E),by rw[κst _ (M _ E),<-pstI _ (M _ E),<-x.place _ (M _ E)]⟩
    ·have hzk:C3 (B2 0 os z) E7 k=.arr e t x':=q01 (p:=(k,.arr e t x')) _ _ hkz S
     have hsk:C3 (B2 s os z) (I2 (E2 m) h) (s+k)=.arr e t x':=by
      rcases X (s+k)with⟨o2,ho2,he2⟩ | ⟨⟨_,hn2⟩,_⟩
      ·obtain⟨i2,o3,y1,y2,_⟩:=T (s+k) o2 ho2
       rcases y2 with⟨A,_⟩ | ⟨A,_⟩ | ⟨⟨k2,A,b2,c2⟩,y3,_⟩
       ·exact absurd rfl (haps _ A k J)
       ·exact absurd rfl (haps _ A k J)
       ·have:k=k2:=by omega
        subst this;subst b2
        rw[he2,<-y3,<-y1,hzk]
      ·exact absurd rfl (hn2 k J)
     refine⟨?_,t2⟩
     have t1:=t1.1
     simp[hzk]at t1
     simp[hsk,κnew k J]
     exact t1
   ·subst I;subst O
    obtain⟨b',c',es,cl,r1,r2,r3⟩:=B
    exact⟨b',c',es,cl,g3.trans r1,r2,r3.mono fm⟩
   ·subst I;subst O
    exact RepArr.atL free g3 B
  ·rw[he]
   rcases kill id with⟨J,S⟩ | ⟨J,S⟩
   ·rw[J];trivial
   ·rw[J]
    by_cases r:h id=.dead\/h id=.fresh\/h id=.kid
    ·rcases r with r | r | r<;>rw[r]<;>trivial
    ·have n0:h id≠.fresh:=fun e=>r (.inr (.inl e))
     refine RepObj.ext hext (hκ id n0) (fun b c v=>?_) (fun n=>?_) (fun n b c v=>?_) (ok.obj id)
     ·by_cases C:(h id).live=true
      ·exact frame id b c C v h1 S
      ·have B:=ok.obj id
       cases Y:h id with
       | ice e t l=>rw[Y]at B;exact(Q b ⟨(B.2 b c v).1,(B.2 b c v).2.2⟩).2
       | mice U V W R l =>
        rw[Y]at B
        obtain⟨b3,c3,es,cl,r1,r2,-⟩:=B
        rw[v]at r1;cases r1
        exact(Q b ⟨r2.1,r2.2.2⟩).2
       | dead=>exact absurd (.inl Y) r
       | fresh=>exact absurd Y n0
       | _=>rw[Y]at C;exact absurd rfl C
     ·have:=H _ (z1u id n)
      exact κoff _ this.1 this.2.2
     ·have:=H _ (z1u id n)
      exact frame _ b c (Q5 ok id n) v this.1 this.2.1
 ·rcases g i b c E hpi with⟨d,G,A,a3⟩ | ⟨G,A,a3,a4⟩<;>rcases g j b c' hj hpj with⟨j0,b1,b2,b3⟩ | ⟨b1,b2,b3,b4⟩
  ·have e:=K.inj _ _ b c c' G b1 A b2
   rcases a3 with⟨p1,p2⟩ | ⟨k,p1,p2,p3⟩<;>rcases b3 with⟨J,S⟩ | ⟨k',J,S,q3⟩
   ·rw[<-p2,<-S];exact e
   ·exact absurd (by rw[<-p2,e,S,Nat.zero_add]) (hap i p1 k' J)
   ·exact absurd (by rw[<-S,<-e,p2,Nat.zero_add]) (hap j J k p1)
   ·rw[p3,q3,<-p2,<-S,e]
  ·exact absurd A ((K.outer b (.inr ⟨j,c',b1,b2,b3,b4⟩)).2 d c G)
  ·exact absurd b2 ((K.outer b (.inr ⟨i,c,G,A,a3,a4⟩)).2 j0 c' b1)
  ·exact ok.inj i j b c c' G b1 A b2
 ·rcases g i b c E v with⟨d,G,A,_⟩ | ⟨G,A,_⟩
  ·exact K.own d b c G A
  ·have:=ok.own i b c G A;have:=x.size;omega
 ·rcases g i b c C v with⟨d,G,A,_⟩ | ⟨G,A,_⟩
  ·exact(K.outer b (.inl hL)).2 d c G A
  ·exact(ok.outer b hL).2 i c G A
 ·have Z:=ok.kids id hid
  rw[other id (by rw[Z];simp) (fun l=>by rw[Z];simp) (fun _ _ _ _ l=>by rw[Z];simp) (fun _ _ l=>by rw[Z];simp)]
  exact Z
theorem z9a {R:Type} {h:Heap}:∀ (ps:List PF) (l:List AV) (K:M6 ps->List Nat->Option R) (z:R),inP h ps l K=some z->∃ x e,K x e=some z/\(J3 ps x).length=l.length /\
  ∀ f w k (d:List Value),HeapOK L w0 f h w->Ext L f h w f k w->(∀ id∈e,q2a (h id)->∀ b c,f id=some (b,c)->A3 L f k w b)->d.length=l.length->(∀ (i:Nat) (a:AV) (v:Value),l[i]? = some a->d[i]? = some v->RepAV L f h w a v) ->
   ∀ (i:Nat) (a:AV) (v:Value),(J3 ps x)[i]? = some a->d[i]? = some v->RepAV L f k w a v
 | ps,l,K,z,n=>by
  unfold inP at n
  split at n
  ·grind[J3]
  ·rename_i t r O q K
   split at n
   ·rename_i y e N
    obtain⟨B,u,m,o,F⟩:=z9a r q _ z n
    refine⟨(y.1,B),e++u,m,by grind[J3],fun f w k d p x g j G i a v A s=>?_⟩
    match d,j with
    | [],j=>grind
    | I::C,j =>
     cases i with
     | zero =>
      simp[J3]at A s
      subst A;subst s
      exact(q2b p x [(false,t)] [O] [I] y e rfl (fun i a v m o=>by
       grind) N fun id D=>g id (List.mem_append_left _ D)).1
     | succ i=>exact F f w k C p x (fun id D=>g id (List.mem_append_right _ D)) (by grind) (fun i a v m o=>G (i+1) a v (by grind) (by grind)) i a v (by grind[J3]) (by grind)
   grind
  ·rename_i id M r J H q K
   obtain⟨Q,E⟩:=A8 n
   obtain⟨B,u,m,o,F⟩:=z9a r q _ z E
   refine⟨B,u,m,by grind[J3],fun f w k d p x g j G i a v A s=>?_⟩
   match d,j with
   | [],j=>grind
   | I::C,j =>
    cases i with
    | zero =>
     grind[J3,Nat.eq_of_beq_eq_true,RepAV.ext]
    | succ i=>exact F f w k C p x g (by grind) (fun i a v m o=>G (i+1) a v (by grind) (by grind)) i a v (by grind[J3]) (by grind)
  grind
theorem j5s {R:Type} {h:Heap}:∀ (rs:List Ty) (l:List AV) (K:L1 rs->List Nat->Option R) (z:R),q7f h rs l K=some z->∃ x e,K x e=some z/\(N2 rs x).length=l.length /\
  ∀ f w j (d:List Value),HeapOK L w0 f h w->Ext L f h w f j w->(∀ id∈e,q2a (h id)->∀ b c,f id=some (b,c)->A3 L f j w b)->d.length=l.length->(∀ (i:Nat) (a:AV) (v:Value),l[i]? = some a->d[i]? = some v->RepAV L f h w a v) ->
   ∀ (i:Nat) (a:AV) (v:Value),(N2 rs x)[i]? = some a->d[i]? = some v->RepAV L f j w a v
 | rs,l,K,z,k=>by
  unfold q7f at k
  split at k
  ·grind[N2]
  ·rename_i t r B A K
   split at k
   ·rename_i y e D
    obtain⟨G,C,m,q,F⟩:=j5s r A _ z k
    refine⟨(y.1,G),e++C,m,by grind[N2],fun f w j d u x g o H i a v s p=>?_⟩
    match d,o with
    | [],o=>grind
    | I::E,o =>
     cases i with
     | zero =>
      simp[N2]at s p
      subst s;subst p
      exact(q2b u x [(false,t)] [B] [I] y e rfl (fun i a v m q=>by
       grind) D fun id n=>g id (List.mem_append_left _ n)).1
     | succ i=>exact F f w j E u x (fun id n=>g id (List.mem_append_right _ n)) (by grind) (fun i a v m q=>H (i+1) a v (by grind) (by grind)) i a v (by grind[N2]) (by grind)
   grind
  grind
def q9t (L:Nat->Prop) (w0:World) (ri:RecI) (r:Option (L1 ri.rs)) (z:G3 ri.os) (κ:A2) (h:Heap) (w:World) (e:Ending) (w':World):Prop :=
 ∃ κ',HeapOK L w0 κ' (C3 (B2 0 ri.os z) E7) w'/\XR ri.os κ h w κ' (C3 (B2 0 ri.os z) E7) w' /\
  match r with
  | some r=>∃ v,e=.returned v/\RepAV L κ' (C3 (B2 0 ri.os z) E7) w' (q1z (N2 ri.rs r)) v
  | none=>e=.panicked [pv ri.pan]
def q3e (P:Program) (gl:L4) (ri:RecI) (rec:M6 ri.ps×G3 ri.os->Option (Option (L1 ri.rs)×G3 ri.os)):Prop :=
 ∀ x y r z,rec (x,y)=some (r,z)->∀ (w0:World),GlobOK gl w0->∀ (L:Nat->Prop) κ w (vals:List Value),HeapOK L w0 κ (C3 (B2 0 ri.os y) E7) w->vals.length=(J3 ri.ps x).length ->
  (∀ (i:Nat) (a:AV) (v:Value),(J3 ri.ps x)[i]? = some a->vals[i]? = some v->RepAV L κ (C3 (B2 0 ri.os y) E7) w a v) ->
  ∀ m,CallsIn (Fr none) m P ri.f vals.toArray w (q9t L w0 ri r z κ (C3 (B2 0 ri.os y) E7) w)
theorem z5j:∀ {ps:List PF} {x:M6 ps} {i:Nat} {a:AV},(J3 ps x)[i]? = some a->(∃ t v,a=.one (.sc t v))\/∃ id b,a=.one (.ptr id b)/\id∈q3x ps
 | [],_,i,a,h=>by grind[J3]
 | .v t::r,x,i,a,h=>by
  cases i with
  | zero=>simp[J3]at h;exact .inl ⟨t,x.1,h.symm⟩
  | succ i=>exact z5j (ps:=r) (x:=x.2) (i:=i) (by simpa[J3]using h)
 | .ptr id b::r,x,i,a,h=>by
  cases i with
  | zero=>simp[J3]at h;exact .inr ⟨id,b,h.symm,by simp[q3x]⟩
  | succ i =>
   rcases z5j (ps:=r) (x:=x) (i:=i) (by simpa[J3]using h)with h | ⟨d,c,f,e⟩
   ·exact .inl h
   ·exact .inr ⟨d,c,f,by simp[q3x,e]⟩
theorem j7y {L':Nat->Prop} {κ κ':A2} {h h':Heap} {w w':World} (j:∀ b,A3 L' κ h w b->A3 L κ' h' w' b/\w'.heap[b]? = w.heap[b]?) {rs:List Ty} {x:L1 rs} {v:Value} (e:RepAV L' κ h w (q1z (N2 rs x)) v):RepAV L κ' h' w' (q1z (N2 rs x)) v:=by
 have g:∀ (rs:List Ty) (x:L1 rs),∀ a∈N2 rs x,∃ t y,a=.one (.sc t y):=by
  intro rs
  induction rs with
  | nil=>grind[N2]
  | cons t r p =>
   grind[N2]
 have d:=g rs x
 generalize N2 rs x=l at e d
 have one:∀ a∈l,∀ u,RepComp L' κ h w (q4n a) u->RepComp L κ' h' w' (q4n a) u:=fun a m u f=>by
  obtain⟨t,y,rfl⟩:=d a m
  exact⟨f.1,f.2.1,RepAt.mono j t _ y f.2.2⟩
 have tup:RepAV L' κ h w (.tup (l.map q4n)) v->RepAV L κ' h' w' (.tup (l.map q4n)) v:=fun ⟨n,o,k,q⟩=>⟨n,o,k,fun i c u s f=>by
  grind⟩
 match l,e,d,tup with
 | [],e,_,tup=>exact tup e
 | [a],e,d,_ =>
  obtain⟨t,y,rfl⟩:=d a (by simp)
  exact⟨e.1,e.2.1,RepAt.mono j t _ y e.2.2⟩
 | _::_::_,e,_,tup=>exact tup e
theorem y0x {a:RecI} (h:wfR a=true):(K1 0 a.os).Nodup/\(∀ i,i∈C5 a.os\/i∈F3 a.os->i<T7)/\(∀ i∈M9 a.os,i∈C5 a.os)/\∀ i∈q3x a.ps,i∈C5 a.os:=by
 unfold wfR at h
 simp only[Bool.and_eq_true]at h
 obtain⟨⟨⟨f,d⟩,b⟩,c⟩:=h
 refine⟨j08 f,fun i e=>?_,q46 b,q46 c⟩
 have:=List.all_eq_true.1 d i (List.mem_append.2 e)
 simp_all
theorem j69 {a:RecI} {h:Heap} {lo:Nat->Bool} {s:Nat} {m:List (Nat×Option Nat)} (c:∀ i∈C5 a.os,lo i=false) (e:∀ i∈E2 m,lo i=false) (b:∀ i∈(F3 a.os).map (s+·),h i=.fresh/\lo i=false) (d:G3 a.os) {id:Nat} (f:lo id=true) :
  C3 (B2 s a.os d) (I2 (E2 m) h) id=h id:=by
 grind[z3l,I2,memb_iff,R9,List.mem_map_of_mem,keys_cases]
theorem v1x {gl:L4} {f:RecI} {J:M6 f.ps×G3 f.os->Option (Option (L1 f.rs)×G3 f.os)} (M:q3e P gl f J) (hG:GlobOK gl w0) (Z:wfR f=true) {x:M6 f.ps} {h:Heap} {lo:Nat->Bool} {s:Nat} {R:Type} {K:AV->Heap->Option R} {z:R} (n:j7l f J x h lo s R K=some z) :
  ∃ av W,K av W=some z/\(∀ id,lo id=true->W id=h id) /\
  ∀ u w (d:List Value),d.length=(J3 f.ps x).length->(∀ (i:Nat) (a:AV) (v:Value),(J3 f.ps x)[i]? = some a->d[i]? = some v->RepAV L u h w a v)->HeapOK L w0 u h w ->
   ∀ m,CallsIn (Fr none) m P f.f d.toArray w (EndOK L w0 u h w W av):=by
 obtain⟨k1,k2,k3,k4⟩:=y0x Z
 obtain⟨y,m,n,hk,hw⟩:=z1r _ _ _ n
 obtain⟨hc,n⟩:=A8 n
 simp[Bool.and_eq_true]at hc
 obtain⟨⟨⟨⟨hs,B⟩,C⟩,g⟩,G⟩:=hc
 have B:=q3t B
 have C:=q3t C
 have g:=z8s g
 have G:=j08 G
 obtain⟨⟨r,F⟩,hr,n⟩:=Option.bind_eq_some_iff.1 n
 have V:((B2 0 f.os y).map (·.1)).Nodup:=by grind[R9]
 have D:∀ u w (d:List Value),d.length=(J3 f.ps x).length->(∀ (i:Nat) (a:AV) (v:Value),(J3 f.ps x)[i]? = some a->d[i]? = some v->RepAV L u h w a v)->HeapOK L w0 u h w ->
   ∀ E,CallsIn (Fr none) E P f.f d.toArray w fun e I=>∃ j,HeapOK L w0 j (C3 (B2 s f.os F) (I2 (E2 m) h)) I/\Ext L u h w j (C3 (B2 s f.os F) (I2 (E2 m) h)) I /\
    match r with
    | some r=>∃ v,e=.returned v/\RepAV L j (C3 (B2 s f.os F) (I2 (E2 m) h)) I (q1z (N2 f.rs r)) v
    | none=>e=.panicked [pv f.pan]:=fun u w d hvl hv ok E=>by
  obtain⟨okI,H,Q,U,N⟩:=z9b ok hk hw k1 k2 k3 hs (L':=q4b L u h f.os m) (fun b hb=>hb)
  refine CallsIn.mono (M x y r F hr w0 hG _ _ w d okI hvl (fun i a v ha X=>?_) E) fun e I ⟨j,S,Y,T⟩=>?_
  ·have l:=hv i a v ha X
   rcases z5j ha with⟨t,q,rfl⟩ | ⟨id,off,rfl,A⟩
   ·exact⟨l.1,l.2.1,RepAt.mono (fun b hb=>⟨H b hb,rfl⟩) t _ q l.2.2⟩
   ·obtain⟨g1,b,c,g2,g3⟩:=l
    have O:=k4 id A
    obtain⟨o,o1,o2⟩:=q45 (s:=0) (y:=y) O
    exact⟨by rw[q01 (p:=(id,o)) _ _ V o1];omega,b,c,(N id O).trans g2,g3⟩
  ·obtain⟨g1,g2,g3⟩:=v0y ok hk hw k1 k2 k3 hs S Y (fun k hk'=>(g (s+k) (List.mem_map_of_mem hk')).1) G
   grind[j7y]
 cases r with
 | some r=>exact⟨_,_,n,fun id A=>j69 B C g F A,fun u w d a b c E=>CallsIn.mono (D u w d a b c E) fun e I ⟨j,h1,S,v,T,Y⟩=>.inl ⟨v,j,T,h1,Y,S⟩⟩
 | none =>
  have n:q3k lo f.pan (C3 (B2 s f.os F) (I2 (E2 m) h)) K=some z:=n
  unfold q3k at n
  split at n
  ·obtain⟨hlo,n⟩:=A8 n
   refine⟨_,_,n,fun id A=>?_,fun u w d a b c E=>CallsIn.mono (D u w d a b c E) fun e I ⟨j,h1,S,T⟩=>.inr ⟨f.pan,j,rfl,T,?_,?_⟩⟩
   ·rw[A0 _ _ (fun e=>by grind)]
    exact j69 B C g F A
   all_goals grind[q11,j1w]
  grind
theorem v1w {G:L4} {n:RecI} {u:M6 n.ps×G3 n.os->Option (Option (L1 n.rs)×G3 n.os)} (r:q3e P G n u) (M:GlobOK G w0) {args:List AV} {h:Heap} {lo:Nat->Bool} {s:Nat} {R:Type} {K:AV->Heap->Option R} {z:R} (j:j0t n u args h lo s R K=some z) :
  ∃ y q,K y q=some z/\(∀ id,lo id=true->q id=h id) /\
  ∀ p w (f:List Value),f.length=args.length->(∀ (i:Nat) (a:AV) (v:Value),args[i]? = some a->f[i]? = some v->RepAV L p h w a v)->HeapOK L w0 p h w ->
   ∀ m,CallsIn (Fr none) m P n.f f.toArray w (EndOK L w0 p h w q y):=by
 obtain⟨A,j⟩:=A8 j
 obtain⟨x,C,j,H,k⟩:=z9a (L:=L) (w0:=w0) _ _ _ _ j
 obtain⟨t,j⟩:=A8 j
 have t:=q3t t
 obtain⟨y,q,O,N,J⟩:=v1x (L:=L) (w0:=w0) r M A j
 refine⟨y,q,O,fun id D=>(N id D).trans (V5 fun Q=>by grind),fun p w f B I F m=>?_⟩
 obtain⟨E,g,o⟩:=R8 C F
 refine CallsIn.mono (J p w f (by omega) (k p w _ f F g o B I) E m) fun e S j=>?_
 rcases j with⟨v,l,a,b,c,d⟩ | ⟨T,l,a,b,c,d⟩
 ·exact .inl ⟨v,l,a,b,c,g.trans d⟩
 ·exact .inr ⟨T,l,a,b,c,g.trans d⟩
def q1k {α β:Type} (F:(α->Option β)->α->Option β):Nat->α->Option β
 | 0,_=>none
 | n+1,y=>F (q1k F n) y
open Classical in
noncomputable def q1p {α β:Type} (F:(α->Option β)->α->Option β) (y:α):Option β:=if h:∃ n,(q1k F n y).isSome=true then q1k F h.choose y else none
theorem y7t {a b:Type} {F:(a->Option b)->a->Option b} {y:a} {z:b} (h:q1p F y=some z):∃ n,q1k F n y=some z:=by
 unfold q1p at h
 split at h
 all_goals grind
theorem y7r {b a:Type} {F:(b->Option a)->b->Option a} {y:b} {Q:a->Prop} (h:∃ n,(q1k F n y).isSome=true) (c:∀ n z,q1k F n y=some z->Q z):∃ z,q1p F y=some z/\Q z:=by
 unfold q1p
 cases d:q1k F h.choose y with
 | none=>grind
 | some z=>grind
noncomputable def q5l (T:Tables) (ri:RecI) (rec:M6 ri.ps×G3 ri.os->Option (Option (L1 ri.rs)×G3 ri.os)):Tables:={ T with ov:=fun f=>cond (Nat.beq f ri.f) (some (j0t ri rec)) none }
noncomputable def q9i (T:Tables):Ctx:=T.ctx (J7 T 32).ic (J7 T 32).yc
def q8o (ri:RecI) (r:Option (L1 ri.rs)) (h:Heap):Option (Option (L1 ri.rs)×G3 ri.os):=inO h ri.os fun z m=>cond (O3 (E2 m)) (some (r,z)) none
noncomputable def q8n (T:Tables) (ri:RecI) (fn:Func) (an:Ann) (rec:M6 ri.ps×G3 ri.os->Option (Option (L1 ri.rs)×G3 ri.os)) (y:M6 ri.ps×G3 ri.os):Option (Option (L1 ri.rs)×G3 ri.os) :=
 match fn.body with
 | none=>none
 | some c=>cond (wfR ri&&Nat.ble (J3 ri.ps y.1).length fn.ntmps)
  (J1 (q9i (q5l T ri rec)) ri.ib c an _ { ρ:=q0k 0 (J3 ri.ps y.1),h:=C3 (B2 0 ri.os y.2) E7,lt:=fun _=>false,lo:=fun _=>false,n:=fn.ntmps } fun k st=>match k with
   | .ex _=>none
   | .pan X=>cond (Nat.beq X ri.pan) (q8o ri none st.h) none
   | _=>q03 (q9i (q5l T ri rec)) st fn.results.toList fun avs=>q7f st.h ri.rs avs fun r ids=>q8o ri (some r) (A5 (B3 st.h ids) st.h)) none
structure TabOK (P:Program) (T:Tables):Prop where
 ti:∀ t ti,T.TI t=some ti->ti.OK P t
 sp:∀ f s,T.sp f=some s->FunOK' P T.gl f s
 sr:∀ f,T.srt f=true->Sort1 P f
 sn:∀ f k,T.srn f=some k->q0b P T.gl f k
 ifc:∀ t,T.ifc t=true->∃ ms,P.underlying t=some (.interface ms)
 me:∀ t n f,T.meth t n=some f->q0a P t n f
 df:∀ f di,T.dfr f=some di->DefF P di
 inl:∀ f,T.inl f=true->∃ fn,P.funcs[f]? = some fn/\fn.body.isSome=true/\(fn.name== "runtime.NumGoroutine")=false
 bd:∀ f ib fn an,T.bd f ib=some (fn,an)->P.funcs[f]? = some fn/\fn.body.isSome=true/\(fn.name== "runtime.NumGoroutine")=false
theorem j7m {T:Tables} (a:TabOK P T) (d:P.follows .mixedOrders=true) {b:RecI} {c:M6 b.ps×G3 b.os->Option (Option (L1 b.rs)×G3 b.os)} (e:q3e P T.gl b c) (L:Nat->Prop) (w0:World) (i:GlobOK T.gl w0):CtxOK P L w0 (q9i (q5l T b c)):=by
 have l:=j3e (T:=q5l T b c) a.ti a.sp a.sr a.sn a.ifc a.me (fun f g h=>by
  change cond (Nat.beq f b.f) (some (j0t b c)) none=some g at h
  cases k:Nat.beq f b.f with
  | false=>grind
  | true =>
  rw[k]at h
  cases h
  have n:=Nat.eq_of_beq_eq_true k
  subst n
  exact fun L w0 i j h p o R K z m=>v1w e i m) a.df a.inl a.bd d 32 L w0 i
 exact⟨a.ti,a.sp,i,l.1,l.2,a.sr,a.sn,a.ifc,a.me⟩
theorem v1v {T:Tables} (hT:TabOK P T) (G:P.follows .mixedOrders=true) {a:RecI} {fn:Func} (hfn:P.funcs[a.f]? = some fn) {an:Ann} {Q:M6 a.ps×G3 a.os->Option (Option (L1 a.rs)×G3 a.os)} (Y:q3e P T.gl a Q):q3e P T.gl a (q8n T a fn an Q):=by
 intro x y r z he w0 hG L κ w vals ok hvl hv mm
 have hC:=j7m hT G Y L w0 hG
 unfold q8n at he
 split at he
 ·grind
 ·rename_i c hc
  obtain⟨Z,he⟩:=A8 he
  rw[Bool.and_eq_true]at Z
  obtain⟨hwf,hn⟩:=Z
  obtain⟨k1,k2,k3,k4⟩:=y0x hwf
  have hn:=Nat.le_of_ble_eq_true hn
  obtain⟨k,q,hk,sl,U⟩:=P1 hC G a.ib c an _ _ _ _ he
  refine callsIn_of_wp_marks hfn hc trivial ?_
  refine U ⟨w.heap.size,[]⟩ none mm κ _ w _ (z1y hvl hv ok hn) fun d N w1 C f lk=>?_
  have hky:((B2 0 a.os y).map (·.1)).Nodup:=by grind[R9]
  have S:∀ (V:Heap) (r':Option (L1 a.rs)) d v,q8o a r' V=some (r,z)->HeapOK L w0 d V v->Ext L κ (C3 (B2 0 a.os y) E7) w d V v->r'=r/\∃ j,HeapOK L w0 j (C3 (B2 0 a.os z) E7) v/\XR a.os κ (C3 (B2 0 a.os y) E7) w j (C3 (B2 0 a.os z) E7) v/\∀ b,A3 L d V v b->A3 L j (C3 (B2 0 a.os z) E7) v b:=fun V r' d v n l f=>by
   unfold q8o at n
   obtain⟨z',m,I,hk',hw⟩:=z1r _ _ _ n
   obtain⟨hs,I⟩:=A8 I
   cases I
   obtain⟨A,e,stillI,liveI,pstI⟩:=z9b l hk' hw k1 k2 k3 hs (L':=L) (fun b hb=>.inl hb)
   refine⟨rfl,_,A,⟨fun i hi=>?_,fun b hb=>?_,f.size,f.loops,f.defs⟩,e⟩
   ·obtain⟨o,o1,o2⟩:=q45 (s:=0) (y:=y) hi
    rw[pstI i hi]
    exact f.place i (by rw[q01 (p:=(i,o)) _ _ hky o1];omega)
   ·obtain⟨f1,f2⟩:=f.still b hb
    grind
  have E:(q03 (q9i (q5l T a Q)) q fn.results.toList fun avs=>q7f q.h a.rs avs fun r D=>q8o a (some r) (A5 (B3 q.h D) q.h))=some (r,z)->LeavesInM (Fr none) mm P fn N.tmps (q9t L w0 a r z κ (C3 (B2 0 a.os y) E7) w) N.defers .returning w1:=fun n=>by
   obtain⟨avs,I,h2⟩:=q5v (P:=P) (L:=L) (w0:=w0) (fun t ti h=>hC.ti t ti h) fn.results.toList _ _ n
   obtain⟨r',D,I,hrl,havs⟩:=j5s (L:=L) (w0:=w0) _ _ _ _ I
   obtain⟨v,l,avE,O,H,g⟩:=X6 (P:=P) (fn:=fn) (tmps:=N.tmps) (m:=mm) (u:=.returning) (R:=q9t L w0 a r z κ (C3 (B2 0 a.os y) E7) w) (B:=⟨w.heap.size,[]⟩) ok.below.size (by grind) N.defers w1 C.defs C.heap
   obtain⟨J,g1,g2,g3,g4⟩:=h2 d N v (fun t=>avE _ _ (C.env t)) l
   have W:=q1i f O H
   obtain⟨okC,F,M⟩:=R8 D l
   obtain⟨e1,j,A,K,e⟩:=S _ _ d v I okC (W.trans F)
   subst e1
   refine g ⟨_,z4h g1,j,A,K,_,rfl,?_⟩
   refine j7y (fun b hb=>⟨e b hb,rfl⟩) (j7x (κ:=d) (h:=A5 (B3 q.h D) q.h) (by omega) ?_ (havs d v _ J l F M g2 g4))
   have all:∀ (rs:List Ty) (x:L1 rs),(N2 rs x).all z2q=true:=by
    intro rs
    induction rs with
    | nil=>intro x;rfl
    | cons t r ih=>grind[N2,z2q]
   grind
  cases k with
  | nrm=>exact E hk
  | ret=>exact E hk
  | ex i=>grind
  | pan X =>
   obtain⟨K,hk2⟩:=A8 hk
   have K:=Nat.eq_of_beq_eq_true K
   subst K
   obtain⟨v,l,avE,O,H,g⟩:=X6 (P:=P) (fn:=fn) (tmps:=N.tmps) (m:=mm) (u:=.panicking [pv a.pan]) (R:=q9t L w0 a r z κ (C3 (B2 0 a.os y) E7) w) (B:=⟨w.heap.size,[]⟩) ok.below.size (by grind) N.defers w1 C.defs C.heap
   obtain⟨e1,j,A,K,e⟩:=S _ _ d v hk2 l (q1i f O H)
   cases e1
   exact g ⟨j,A,K,rfl⟩
theorem j53 {T:Tables} (e:TabOK P T) (a:P.follows .mixedOrders=true) {d:RecI} {fn:Func} (b:P.funcs[d.f]? = some fn) {an:Ann}:∀ n,q3e P T.gl d (q1k (q8n T d fn an) n)
 | 0=>fun x y r z c=>by cases c
 | n+1=>fun x y r z c=>v1v e a b (j53 e a b n) x y r z c
theorem y7s {T:Tables} (f:TabOK P T) (a:P.follows .mixedOrders=true) {c:RecI} {fn:Func} (b:P.funcs[c.f]? = some fn) {an:Ann}:q3e P T.gl c (q1p (q8n T c fn an)):=fun x y r z e=>by
 obtain⟨n,d⟩:=y7t e
 exact j53 f a b n x y r z d
noncomputable def j6q (ti:List (Nat×TInfo)) (sp:List (Nat×Spec)) (bd:S8) (rd:q16) (gl:List (Nat×(IntKind×Nat×List Int))) (pu:List Nat) (nb:List (Nat×Nat)) (sr:List Nat) (sn:List (Nat×Nat)) (ifs:List Nat) (ms:List (Nat×(String×Nat))) (dp:List (Nat×KTy)) (fz:List (Nat×List Nat)) (ri:RecI) (fn:Func) (an:Ann) (df:List (Nat×DefI)):Ctx :=
 q9i (q5l (j04 ti sp bd rd gl pu nb sr sn ifs ms dp fz df) ri (q1p (q8n (j04 ti sp bd rd gl pu nb sr sn ifs ms dp fz df) ri fn an)))
theorem y93 {d:List (Nat×TInfo)} {u:List (Nat×Spec)} {e:S8} {G:q16} {g:List (Nat×(IntKind×Nat×List Int))} {D:List Nat} {H:List (Nat×Nat)} {q:List Nat} {r:List (Nat×Nat)} {c:List Nat} {z:List (Nat×(String×Nat))} {F:List (Nat×KTy)} {E:List (Nat×List Nat)} {I:RecI} {fn:Func} {an:Ann} {C:List (Nat×DefI)} (a:P.follows .mixedOrders=true) (M:q10 P (d.map (·.1))=d.map fun p=>(p.1,some p.2)) (y:∀ p∈u,FunOK' P (look g) p.1 p.2)
  (j:∀ p∈e,q08 P p.1 p.2.2.1) (v:∀ f∈q,Sort1 P f) (w:∀ p∈r,q0b P (look g) p.1 p.2) (o:∀ t∈c,∃ l,P.underlying t=some (.interface l)) (m:∀ p∈z,q0a P p.1 p.2.1 p.2.2) (A:q08 P I.f fn) (B:∀ p∈C,DefF P p.2):∀ L w0,GlobOK (look g) w0->CtxOK P L w0 (j6q d u e G g D H q r c z F E I fn an C):=fun L w0 K =>
 have N:∀ t i,look d t=some i->i.OK P t:=fun t i h=>by
  have R:=S2 h
  have Q:(t,some i)∈q10 P (d.map (·.1)):=by grind
  grind[q10,y0l]
 have J:TabOK P (j04 d u e G g D H q r c z F E C):=⟨N,fun f s h=>y (f,s) (S2 h),fun f h=>v f (memb_iff.1 h),fun f k h=>w (f,k) (S2 h),fun t h=>o t (memb_iff.1 h),fun t n f h=>m (t,(n,f)) (j03 h),(fun f O h=>B (f,O) (S2 h)),fun f h=>by
  cases x:look e f with
  | none=>change (look e f).isSome=true at h;grind
  | some p=>exact⟨p.2.1,j (f,p) (S2 x)⟩,fun f S fn an h=>by
  obtain⟨b,x⟩:=z9t h
  exact j _ x⟩
 j7m J a (y7s J a A.1) L w0 K
end Go.Abs
