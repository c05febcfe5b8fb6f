/- The engine: a function that calls itself. What it sees of the heap is told in a form; what it comes to is a plain function of a plain function, to a fixed depth. -/
import Derived.Test.YteeaadgpkammdaaDoorAbsTi
import Derived.Test.YteeaadgpkammdaaDoorAbsSoundD
namespace Go.Abs
open Go Go.RowKit
variable {P:Program} {L:Nat→Prop} {w0:World}
inductive RC where
  | v (t:Ty)
  | fn (f:Nat) (caps:List (Nat × Nat))
  | arr (k:Nat) (e:TypeId) (t:Ty)
inductive RO where
  | cel (id:Nat) (cs:List RC)
  | map (id:Nat) (ak av:Bool) (tk tv:Ty)
inductive PF where
  | v (t:Ty)
  | ptr (id off:Nat)
@[reducible] def PsDen:List PF→Type
  | []=>Unit
  | .v t :: r=>t.den × PsDen r
  | .ptr _ _ :: r=>PsDen r
@[reducible] def RcDen:List RC→Type
  | []=>Unit
  | .v t :: r=>t.den × RcDen r
  | .fn _ _ :: r=>RcDen r
  | .arr _ _ t :: r=>List t.den × RcDen r
@[reducible] def OsDen:List RO→Type
  | []=>Unit
  | .cel _ cs :: r=>RcDen cs × OsDen r
  | .map _ _ _ tk tv :: r=>List (tk.den × tv.den) × OsDen r
@[reducible] def RsDen:List Ty→Type
  | []=>Unit
  | t :: r=>t.den × RsDen r
structure RecI where
  f:FuncId
  ib:Nat
  ps:List PF
  rs:List Ty
  os:List RO
  fuel:Nat
def argsR:(ps:List PF)→PsDen ps→List AV
  | [],_=>[]
  | .v t :: r,y=>.one (.sc t y.1) :: argsR r y.2
  | .ptr id off :: r,y=>.one (.ptr id off) :: argsR r y
def resR:(rs:List Ty)→RsDen rs→List AV
  | [],_=>[]
  | t :: r,y=>.one (.sc t y.1) :: resR r y.2
def celR (s:Nat):(cs:List RC)→RcDen cs→List SV
  | [],_=>[]
  | .v t :: r,y=>.sc t y.1 :: celR s r y.2
  | .fn f caps :: r,y=>.fn f caps :: celR s r y
  | .arr k _ _ :: r,y=>.own (s+k) :: celR s r y.2
def arrsR (s:Nat):(cs:List RC)→RcDen cs→List (Nat × AObj)
  | [],_=>[]
  | .v _ :: r,y=>arrsR s r y.2
  | .fn _ _ :: r,y=>arrsR s r y
  | .arr k e t :: r,y=>(s+k,.arr e t y.1) :: arrsR s r y.2
def objsR (s:Nat):(os:List RO)→OsDen os→List (Nat × AObj)
  | [],_=>[]
  | .cel id cs :: r,y=>(id,.cells (celR s cs y.1)) :: (arrsR s cs y.1++objsR s r y.2)
  | .map id ak av tk tv :: r,y=>(id,.mapo ak av tk tv y.1) :: objsR s r y.2
def putR:List (Nat × AObj)→Heap→Heap
  | [],h=>h
  | p :: r,h=>upd (putR r h) p.1 p.2
def statC:List RO→List Nat
  | []=>[]
  | .cel id _ :: r=>id :: statC r
  | .map id _ _ _ _ :: r=>id :: statC r
def arrC:List RC→List Nat
  | []=>[]
  | .arr k _ _ :: r=>k :: arrC r
  | _ :: r=>arrC r
def newC:List RO→List Nat
  | []=>[]
  | .cel _ cs :: r=>arrC cs++newC r
  | .map .. :: r=>newC r
def capsC:List RC→List Nat
  | []=>[]
  | .fn _ caps :: r=>caps.map (·.1)++capsC r
  | _ :: r=>capsC r
def capC:List RO→List Nat
  | []=>[]
  | .cel _ cs :: r=>capsC cs++capC r
  | .map .. :: r=>capC r
def keysR (s:Nat):List RO→List Nat
  | []=>[]
  | .cel id cs :: r=>id :: ((arrC cs).map (s+·)++keysR s r)
  | .map id _ _ _ _ :: r=>id :: keysR s r
def ptrC:List PF→List Nat
  | []=>[]
  | .ptr id _ :: r=>id :: ptrC r
  | .v _ :: r=>ptrC r
def wfR (ri:RecI):Bool :=
  nodupB (keysR 0 ri.os) && (statC ri.os++newC ri.os).all (fun i=>Nat.blt i kidBase) && subB (capC ri.os) (statC ri.os) && subB (ptrC ri.ps) (statC ri.os)
section
variable {R:Type}
def inP:(ps:List PF)→List AV→(PsDen ps→Option R)→Option R
  | [],[],K=>K ()
  | .v t :: r,.one (.sc t' x) :: l,K=>(match castTy t' t x with
    | some y=>inP r l fun ys=>K (y,ys)
    | none=>none)
  | .ptr id off :: r,.one (.ptr id' off') :: l,K=>cond (Nat.beq id id' && Nat.beq off off') (inP r l K) none
  | _,_,_=>none
def inRs:(rs:List Ty)→List AV→(RsDen rs→Option R)→Option R
  | [],[],K=>K ()
  | t :: r,.one (.sc t' x) :: l,K=>(match castTy t' t x with
    | some y=>inRs r l fun ys=>K (y,ys)
    | none=>none)
  | _,_,_=>none
def capsB:List (Nat × Nat)→List (Nat × Nat)→Bool
  | [],[]=>true
  | (a,b) :: r,(c,d) :: l=>Nat.beq a c && Nat.beq b d && capsB r l
  | _,_=>false
def inC (h:Heap):(cs:List RC)→List SV→(RcDen cs→List (Nat × Option Nat)→Option R)→Option R
  | [],[],K=>K () []
  | .v t :: r,.sc t' x :: l,K=>(match castTy t' t x with
    | some y=>inC h r l fun ys m=>K (y,ys) m
    | none=>none)
  | .v (.list _) :: r,.nils :: l,K=>inC h r l fun ys m=>K ([],ys) m
  | .fn f caps :: r,.fn f' caps' :: l,K=>cond (Nat.beq f f' && capsB caps caps') (inC h r l K) none
  | .arr k e t :: r,.own j :: l,K=>(match h j with
    | .arr e' t' x=>(match castTy (.list t') (.list t) x with
      | some x'=>cond (Nat.beq e e') (inC h r l fun ys m=>K (x',ys) ((k,some j) :: m)) none
      | none=>none)
    | _=>none)
  | .arr k _ _ :: r,.nils :: l,K=>inC h r l fun ys m=>K ([],ys) ((k,none) :: m)
  | _,_,_=>none
def inO (h:Heap):(os:List RO)→(OsDen os→List (Nat × Option Nat)→Option R)→Option R
  | [],K=>K () []
  | .cel id cs :: r,K=>(match h id with
    | .cells l=>inC h cs l fun y m=>inO h r fun ys m2=>K (y,ys) (m++m2)
    | _=>none)
  | .map id ak av tk tv :: r,K=>mapIn h id ak av tk tv fun x=>inO h r fun ys m=>K (x,ys) m
end
def killR (l:List Nat) (h:Heap):Heap:=fun id=>cond (memb l id) .dead (h id)
noncomputable def recCall (ri:RecI) (rec:PsDen ri.ps × OsDen ri.os→Option (RsDen ri.rs × OsDen ri.os)) (args:List AV) (h:Heap) (lo:Nat→Bool) (s:Nat) (R:Type) (K:AV→Heap→Option R):Option R :=
  cond (wfR ri) (inP ri.ps args fun x=>inO h ri.os fun y m =>
    cond (nodupB (sources m) && noneOf lo (statC ri.os) && noneOf lo (sources m) && freeIds h lo ((newC ri.os).map (s+·)) && nodupB (keysR s ri.os))
      ((rec (x,y)).bind fun z=>K (resTup (resR ri.rs z.1)) (putR (objsR s ri.os z.2) (killR (sources m) h))) none) none
theorem putR_other {id:Nat}:∀ (l:List (Nat × AObj)) (h:Heap),(∀ p∈l,p.1≠id)→putR l h id=h id
  | [],_,_=>rfl
  | p :: r,h,hn=>by
    simp only [putR]
    rw [upd_other _ _ (fun e=>hn p List.mem_cons_self e.symm)]
    exact putR_other r h fun q hq=>hn q (List.mem_cons_of_mem _ hq)
theorem putR_mem {p:Nat × AObj}:∀ (l:List (Nat × AObj)) (h:Heap),(l.map (·.1)).Nodup→p∈l→putR l h p.1=p.2
  | q :: r,h,hn,hp=>by
    simp only [putR]
    rw [List.map_cons,List.nodup_cons] at hn
    rcases List.mem_cons.1 hp with rfl | hp
    · exact upd_same _ _ _
    · rw [upd_other _ _ (fun e=>hn.1 (by rw [←e]; exact List.mem_map_of_mem hp))]
      exact putR_mem r h hn.2 hp
theorem nodupB_iff:∀ {l:List Nat},nodupB l=true→l.Nodup
  | [],_=>List.nodup_nil
  | x :: r,h=>by
    obtain ⟨h1,h2⟩:=nodupB_cons h
    exact List.nodup_cons.2 ⟨h1,nodupB_iff h2⟩
def MatchR (S:List Nat) (O:List (Nat × AObj)) (h:Heap) (m:List (Nat × Option Nat)) (s0 s:SV):Prop :=
  (∃ t x,s0=.sc t x∧s=.sc t x)∨(∃ e,s0=.sc (.list e) []∧s=.nils)∨(∃ f caps,s0=.fn f caps∧s=.fn f caps∧∀ p∈caps,p.1∈S) ∨
  ∃ k e t l,s0=.own k∧(k,AObj.arr e t l)∈O∧((∃ j,s=.own j∧(k,some j)∈m∧h j=.arr e t l)∨(s=.nils∧(k,none)∈m∧l=[]))
def CelsR (S:List Nat) (O:List (Nat × AObj)) (h:Heap) (m:List (Nat × Option Nat)) (l0 l:List SV):Prop:=l.length=l0.length∧∀ (i:Nat) (s0 s:SV),l0[i]? = some s0→l[i]? = some s→MatchR S O h m s0 s
def WasR (O:List (Nat × AObj)) (h:Heap) (m:List (Nat × Option Nat)) (os:List RO) (p:Nat × AObj):Prop :=
  (p.1∈statC os∧∃ l0 l,p.2=.cells l0∧h p.1=.cells l∧CelsR (capC os) O h m l0 l) ∨
  (p.1∈statC os∧∃ ak av tk tv l,p.2=.mapo ak av tk tv l∧h p.1=p.2) ∨
  (p.1∈newC os∧∃ e t l,p.2=.arr e t l∧((∃ j,(p.1,some j)∈m∧h j=.arr e t l)∨((p.1,none)∈m∧l=[])))
theorem MatchR.mono {S S':List Nat} {O O':List (Nat × AObj)} {h:Heap} {m m':List (Nat × Option Nat)} (hS:∀ i∈S,i∈S') (hO:∀ p∈O,p∈O') (hm:∀ p∈m,p∈m') {s0 s:SV}:MatchR S O h m s0 s→MatchR S' O' h m' s0 s
  | .inl x=>.inl x
  | .inr (.inl x)=>.inr (.inl x)
  | .inr (.inr (.inl ⟨f,caps,a,b,c⟩))=>.inr (.inr (.inl ⟨f,caps,a,b,fun p hp=>hS _ (c p hp)⟩))
  | .inr (.inr (.inr ⟨k,e,t,l,a,b,c⟩))=>.inr (.inr (.inr ⟨k,e,t,l,a,hO _ b,c.imp (fun ⟨j,x,y,z⟩=>⟨j,x,hm _ y,z⟩) fun ⟨x,y,z⟩=>⟨x,hm _ y,z⟩⟩))
theorem WasR.mono {O O':List (Nat × AObj)} {h:Heap} {m m':List (Nat × Option Nat)} {os os':List RO} (hO:∀ p∈O,p∈O') (hm:∀ p∈m,p∈m') (h0:∀ i∈capC os,i∈capC os') (h1:∀ i∈statC os,i∈statC os') (h2:∀ i∈newC os,i∈newC os') {p:Nat × AObj}:WasR O h m os p→WasR O' h m' os' p
  | .inl ⟨a,l0,l,b,c,d,e⟩=>.inl ⟨h1 _ a,l0,l,b,c,d,fun i s0 s x y=>(e i s0 s x y).mono h0 hO hm⟩
  | .inr (.inl ⟨a,b⟩)=>.inr (.inl ⟨h1 _ a,b⟩)
  | .inr (.inr ⟨a,e,t,l,b,c⟩)=>.inr (.inr ⟨h2 _ a,e,t,l,b,c.imp (fun ⟨j,x,y⟩=>⟨j,hm _ x,y⟩) fun ⟨x,y⟩=>⟨hm _ x,y⟩⟩)
theorem capsB_eq:∀ {a b:List (Nat × Nat)},capsB a b=true→a=b
  | [],[],_=>rfl
  | [],_ :: _,h=>by cases h
  | _ :: _,[],h=>by cases h
  | (a,b) :: r,(c,d) :: l,h=>by
    simp only [capsB,Bool.and_eq_true] at h
    rw [Nat.eq_of_beq_eq_true h.1.1,Nat.eq_of_beq_eq_true h.1.2,capsB_eq h.2]
theorem inC_sound {R:Type} {h:Heap}:∀ (cs:List RC) (l:List SV) (K:RcDen cs→List (Nat × Option Nat)→Option R) (z:R),inC h cs l K=some z →
    ∃ y m,K y m=some z∧m.map (·.1)=arrC cs∧CelsR (capsC cs) (arrsR 0 cs y) h m (celR 0 cs y) l∧(∀ p∈arrsR 0 cs y,p.1∈arrC cs∧∃ e t l,p.2=.arr e t l∧((∃ j,(p.1,some j)∈m∧h j=.arr e t l)∨((p.1,none)∈m∧l=[])))
  | cs,l,K,z,he=>by
    unfold inC at he
    split at he
    · exact ⟨(),[],he,rfl,⟨rfl,fun i s0 s a _=>by simp [celR] at a⟩,fun p hp=>by simp [arrsR] at hp⟩
    · rename_i t r t' x l' K
      split at he
      · rename_i y hy
        obtain ⟨ht,hx⟩:=castTy_some hy
        subst ht
        have hx:x=y:=hx
        subst hx
        obtain ⟨ys,m,h1,h2,h3,h4⟩:=inC_sound r l' _ z he
        refine ⟨(x,ys),m,h1,h2,⟨by simp [celR,h3.1],fun i s0 s a b=>?_⟩,h4⟩
        cases i with
        | zero=>simp [celR] at a b; exact .inl ⟨_,x,a.symm,b.symm⟩
        | succ i=>exact (h3.2 i s0 s (by simpa [celR] using a) (by simpa using b)).mono (fun i hi=>by simpa [capsC] using hi) (fun _ h=>h) fun _ h=>h
      · cases he
    · rename_i e r l' K
      obtain ⟨ys,m,h1,h2,h3,h4⟩:=inC_sound r l' _ z he
      refine ⟨(([]:List e.den),ys),m,h1,h2,⟨by simp [celR,h3.1],fun i s0 s a b=>?_⟩,h4⟩
      cases i with
      | zero=>simp [celR] at a b; exact .inr (.inl ⟨e,a.symm,b.symm⟩)
      | succ i=>exact (h3.2 i s0 s (by simpa [celR] using a) (by simpa using b)).mono (fun i hi=>by simpa [capsC] using hi) (fun _ h=>h) fun _ h=>h
    · rename_i f caps r f' caps' l' K
      obtain ⟨hc,he2⟩:=cond_some he
      rw [Bool.and_eq_true] at hc
      have e1:=Nat.eq_of_beq_eq_true hc.1
      have e2:=capsB_eq hc.2
      subst e1; subst e2
      obtain ⟨ys,m,h1,h2,h3,h4⟩:=inC_sound (h:=h) r l' _ z he2
      refine ⟨ys,m,h1,h2,⟨by simp [celR,h3.1],fun i s0 s a b=>?_⟩,h4⟩
      cases i with
      | zero=>simp [celR] at a b; exact .inr (.inr (.inl ⟨f,caps,a.symm,b.symm,fun p hp=>by simp only [capsC]; exact List.mem_append_left _ (List.mem_map_of_mem hp)⟩))
      | succ i=>exact (h3.2 i s0 s (by simpa [celR] using a) (by simpa using b)).mono (fun i hi=>by simp only [capsC]; exact List.mem_append_right _ hi) (fun _ h=>h) fun _ h=>h
    · rename_i k e t r j l' K
      split at he
      · rename_i e' t' x hj
        split at he
        · rename_i x' hx'
          obtain ⟨ht,hx⟩:=castTy_some hx'
          cases ht
          have hx:x=x':=hx
          subst hx
          obtain ⟨hc,he2⟩:=cond_some he
          have hc:=Nat.eq_of_beq_eq_true hc
          subst hc
          obtain ⟨ys,m,h1,h2,h3,h4⟩:=inC_sound (h:=h) r l' _ z he2
          have hmono:∀ p∈arrsR 0 r ys,p∈arrsR 0 (.arr k e t :: r) ((x,ys):List t.den × RcDen r):=fun p hp=>List.mem_cons_of_mem _ hp
          refine ⟨((x,ys):List t.den × RcDen r),(k,some j) :: m,h1,by simp [arrC,h2],⟨by simp [celR,h3.1],fun i s0 s a b=>?_⟩,fun p hp=>?_⟩
          · cases i with
            | zero =>
              simp [celR] at a b
              exact .inr (.inr (.inr ⟨k,e,t,x,a.symm,by simp [arrsR],.inl ⟨j,b.symm,List.mem_cons_self,hj⟩⟩))
            | succ i=>exact (h3.2 i s0 s (by simpa [celR] using a) (by simpa using b)).mono (fun i hi=>by simpa [capsC] using hi) hmono fun p hp=>List.mem_cons_of_mem _ hp
          · rcases List.mem_cons.1 hp with rfl | hp
            · exact ⟨by simp [arrC],e,t,x,rfl,.inl ⟨j,by simp,hj⟩⟩
            · obtain ⟨a,e2,t2,l2,b,c⟩:=h4 p hp
              exact ⟨by simp [arrC,a],e2,t2,l2,b,c.imp (fun ⟨j,x,y⟩=>⟨j,List.mem_cons_of_mem _ x,y⟩) fun ⟨x,y⟩=>⟨List.mem_cons_of_mem _ x,y⟩⟩
        · cases he
      · cases he
    · rename_i k e t r l' K
      obtain ⟨ys,m,h1,h2,h3,h4⟩:=inC_sound r l' _ z he
      have hmono:∀ p∈arrsR 0 r ys,p∈arrsR 0 (.arr k e t :: r) ((([]:List t.den),ys):List t.den × RcDen r):=fun p hp=>List.mem_cons_of_mem _ hp
      refine ⟨((([]:List t.den),ys):List t.den × RcDen r),(k,none) :: m,h1,by simp [arrC,h2],⟨by simp [celR,h3.1],fun i s0 s a b=>?_⟩,fun p hp=>?_⟩
      · cases i with
        | zero =>
          simp [celR] at a b
          exact .inr (.inr (.inr ⟨k,e,t,[],a.symm,by simp [arrsR],.inr ⟨b.symm,List.mem_cons_self,rfl⟩⟩))
        | succ i=>exact (h3.2 i s0 s (by simpa [celR] using a) (by simpa using b)).mono (fun i hi=>by simpa [capsC] using hi) hmono fun p hp=>List.mem_cons_of_mem _ hp
      · rcases List.mem_cons.1 hp with rfl | hp
        · exact ⟨by simp [arrC],e,t,[],rfl,.inr ⟨by simp,rfl⟩⟩
        · obtain ⟨a,e2,t2,l2,b,c⟩:=h4 p hp
          exact ⟨by simp [arrC,a],e2,t2,l2,b,c.imp (fun ⟨j,x,y⟩=>⟨j,List.mem_cons_of_mem _ x,y⟩) fun ⟨x,y⟩=>⟨List.mem_cons_of_mem _ x,y⟩⟩
    · cases he
theorem inO_sound {R:Type} {h:Heap}:∀ (os:List RO) (K:OsDen os→List (Nat × Option Nat)→Option R) (z:R),inO h os K=some z →
    ∃ y m,K y m=some z∧m.map (·.1)=newC os∧∀ p∈objsR 0 os y,WasR (objsR 0 os y) h m os p
  | [],K,z,he=>⟨(),[],he,rfl,fun p hp=>by simp [objsR] at hp⟩
  | .cel id cs :: r,K,z,he=>by
    simp only [inO] at he
    split at he
    · rename_i l hl
      obtain ⟨y,m,he,h2,h3,h4⟩:=inC_sound cs l _ z he
      obtain ⟨ys,m2,he,g2,g3⟩:=inO_sound r _ z he
      have hO:∀ p∈arrsR 0 cs y,p∈objsR 0 (.cel id cs :: r) ((y,ys):RcDen cs × OsDen r):=fun p hp=>List.mem_cons_of_mem _ (List.mem_append_left _ hp)
      refine ⟨((y,ys):RcDen cs × OsDen r),m++m2,he,by simp [newC,h2,g2],fun p hp=>?_⟩
      simp only [objsR] at hp
      rcases List.mem_cons.1 hp with rfl | hp
      · exact .inl ⟨by simp [statC],_,l,rfl,hl,h3.1,fun i s0 s a b=>(h3.2 i s0 s a b).mono (fun i hi=>by simp only [capC]; exact List.mem_append_left _ hi) hO fun p hp=>List.mem_append_left _ hp⟩
      · rcases List.mem_append.1 hp with hp | hp
        · obtain ⟨a,e2,t2,l2,b,c⟩:=h4 p hp
          exact .inr (.inr ⟨by simp [newC,a],e2,t2,l2,b,c.imp (fun ⟨j,x,y⟩=>⟨j,List.mem_append_left _ x,y⟩) fun ⟨x,y⟩=>⟨List.mem_append_left _ x,y⟩⟩)
        · exact (g3 p hp).mono (fun p hp=>List.mem_cons_of_mem _ (List.mem_append_right _ hp)) (fun p hp=>List.mem_append_right _ hp) (fun i hi=>by simp only [capC]; exact List.mem_append_right _ hi) (fun i hi=>by simp only [statC]; exact List.mem_cons_of_mem _ hi) fun i hi=>by simp [newC,hi]
    · cases he
  | .map id ak av tk tv :: r,K,z,he=>by
    simp only [inO] at he
    obtain ⟨x,hx,he⟩:=mapIn_some he
    obtain ⟨ys,m2,he,g2,g3⟩:=inO_sound r _ z he
    refine ⟨((x,ys):List (tk.den × tv.den) × OsDen r),m2,he,by simp [newC,g2],fun p hp=>?_⟩
    simp only [objsR] at hp
    rcases List.mem_cons.1 hp with rfl | hp
    · exact .inr (.inl ⟨by simp [statC],ak,av,tk,tv,x,rfl,hx⟩)
    · exact (g3 p hp).mono (fun p hp=>List.mem_cons_of_mem _ hp) (fun p hp=>hp) (fun i hi=>by simpa [capC] using hi) (fun i hi=>by simp only [statC]; exact List.mem_cons_of_mem _ hi) fun i hi=>by simpa [newC] using hi
theorem keys_objs (s:Nat):∀ (os:List RO) (y:OsDen os),(objsR s os y).map (·.1)=keysR s os
  | [],_=>rfl
  | .cel id cs :: r,y=>by
    have ha:∀ (cs:List RC) (y:RcDen cs),(arrsR s cs y).map (·.1)=(arrC cs).map (s+·):=by
      intro cs
      induction cs with
      | nil=>intro _; rfl
      | cons c cs ih =>
        intro y
        cases c with
        | v t=>exact ih y.2
        | fn f caps=>exact ih y
        | arr k e t=>simp only [arrsR,arrC,List.map_cons]; rw [ih y.2]
    simp only [objsR,keysR,List.map_cons,List.map_append]
    rw [ha,keys_objs s r y.2]
  | .map id ak av tk tv :: r,y=>by simp only [objsR,keysR,List.map_cons]; rw [keys_objs s r y.2]
theorem keys_cases {s i:Nat}:∀ {os:List RO},i∈keysR s os↔i∈statC os∨∃ k∈newC os,i=s+k
  | []=>by simp [keysR,statC,newC]
  | .cel id cs :: r=>by
    have ih:=keys_cases (s:=s) (i:=i) (os:=r)
    simp only [keysR,statC,newC,List.mem_cons,List.mem_append,List.mem_map,ih]
    constructor
    · rintro (h | ⟨k,h1,h2⟩ | h | ⟨k,h1,h2⟩)
      · exact .inl (.inl h)
      · exact .inr ⟨k,.inl h1,h2.symm⟩
      · exact .inl (.inr h)
      · exact .inr ⟨k,.inr h1,h2⟩
    · rintro ((h | h) | ⟨k,h1 | h1,h2⟩)
      · exact .inl h
      · exact .inr (.inr (.inl h))
      · exact .inr (.inl ⟨k,h1,h2.symm⟩)
      · exact .inr (.inr (.inr ⟨k,h1,h2⟩))
  | .map id ak av tk tv :: r=>by
    have ih:=keys_cases (s:=s) (i:=i) (os:=r)
    simp only [keysR,statC,newC,List.mem_cons,ih]
    constructor
    · rintro (h | h | h)
      · exact .inl (.inl h)
      · exact .inl (.inr h)
      · exact .inr h
    · rintro ((h | h) | h)
      · exact .inl h
      · exact .inr (.inl h)
      · exact .inr (.inr h)
theorem keys_apart {s:Nat}:∀ {os:List RO},(keysR s os).Nodup→∀ i∈statC os,∀ k∈newC os,i≠s+k
  | [],_=>fun i hi=>by cases hi
  | .cel id cs :: r,hn=>fun i hi k hk=>by
    simp only [keysR,List.nodup_cons,List.nodup_append,List.mem_append,not_or] at hn
    obtain ⟨⟨n1,n2⟩,n3,n4,n5⟩:=hn
    simp only [statC,newC,List.mem_cons,List.mem_append] at hi hk
    rcases hi with rfl | hi <;> rcases hk with hk | hk
    · exact fun e=>n1 (e ▸ List.mem_map_of_mem hk)
    · exact fun e=>n2 (keys_cases.2 (.inr ⟨k,hk,e⟩))
    · exact fun e=>n5 _ (List.mem_map_of_mem hk) i (keys_cases.2 (.inl hi)) e.symm
    · exact keys_apart n4 i hi k hk
  | .map id ak av tk tv :: r,hn=>fun i hi k hk=>by
    simp only [keysR,List.nodup_cons] at hn
    simp only [statC,newC,List.mem_cons] at hi hk
    rcases hi with rfl | hi
    · exact fun e=>hn.1 (keys_cases.2 (.inr ⟨k,hk,e⟩))
    · exact keys_apart hn.2 i hi k hk
theorem news_nodup:∀ {os:List RO},(keysR 0 os).Nodup→(newC os).Nodup
  | [],_=>List.nodup_nil
  | .cel id cs :: r,hn=>by
    simp only [keysR,List.nodup_cons,List.nodup_append,Nat.zero_add,List.map_id',List.mem_append,not_or] at hn
    obtain ⟨⟨n1,n2⟩,n3,n4,n5⟩:=hn
    exact List.nodup_append.2 ⟨n3,news_nodup n4,fun a ha b hb=>n5 a ha b (keys_cases.2 (.inr ⟨b,hb,(Nat.zero_add b).symm⟩))⟩
  | .map id ak av tk tv :: r,hn=>by
    simp only [keysR,List.nodup_cons] at hn
    exact news_nodup (os:=r) hn.2
theorem lookm_mem:∀ {m:List (Nat × Option Nat)} {i:Nat} {o:Option Nat},(m.map (·.1)).Nodup→(i,o)∈m→lookm i m=some o
  | (a,b) :: r,i,o,hn,hm=>by
    rw [List.map_cons,List.nodup_cons] at hn
    simp only [lookm]
    rcases List.mem_cons.1 hm with h | h
    · cases h; rw [Nat.beq_refl]; rfl
    · have:Nat.beq a i=false:=by
        cases hb:Nat.beq a i with
        | false=>rfl
        | true=>exact absurd (List.mem_map_of_mem (f:=(·.1)) h) (Nat.eq_of_beq_eq_true hb ▸ hn.1)
      rw [this]
      exact lookm_mem hn.2 h
theorem lookm_none:∀ {m:List (Nat × Option Nat)} {i:Nat},i ∉ m.map (·.1)→lookm i m=none
  | [],_,_=>rfl
  | (a,b) :: r,i,hn=>by
    simp only [List.map_cons,List.mem_cons,not_or] at hn
    simp only [lookm]
    have:Nat.beq a i=false:=by
      cases hb:Nat.beq a i with
      | false=>rfl
      | true=>exact absurd (Nat.eq_of_beq_eq_true hb).symm hn.1
    rw [this]
    exact lookm_none hn.2
def placeR (os:List RO) (m:List (Nat × Option Nat)) (κ:Place):Place:=fun id=>match lookm id m with
  | some (some j)=>κ j
  | some none=>none
  | none=>cond (memb (statC os) id) (κ id) none
def srcR (m:List (Nat × Option Nat)) (id:Nat):Nat:=match lookm id m with
  | some (some j)=>j
  | _=>id
theorem stat_obj {s:Nat}:∀ {os:List RO} {y:OsDen os} {i:Nat},i∈statC os→∃ o,(i,o)∈objsR s os y∧o.Held
  | .cel id cs :: r,y,i,hi=>by
    simp only [statC,List.mem_cons] at hi
    rcases hi with rfl | hi
    · exact ⟨_,List.mem_cons_self,by simp⟩
    · obtain ⟨o,h1,h2⟩:=stat_obj (s:=s) (y:=y.2) hi
      exact ⟨o,List.mem_cons_of_mem _ (List.mem_append_right _ h1),h2⟩
  | .map id ak av tk tv :: r,y,i,hi=>by
    simp only [statC,List.mem_cons] at hi
    rcases hi with rfl | hi
    · exact ⟨_,List.mem_cons_self,by simp⟩
    · obtain ⟨o,h1,h2⟩:=stat_obj (s:=s) (y:=y.2) hi
      exact ⟨o,List.mem_cons_of_mem _ h1,h2⟩
theorem RepArr.atL {L':Nat→Prop} {κ κ1:Place} {h h1:Heap} {w:World} (hf:∀ b,Free L κ h w b→Free L' κ1 h1 w b) {n g:Nat} (hk:κ1 n=κ g) {e:TypeId} {t:Ty} {l:List t.den} (hr:RepArr L κ h w g e t l):RepArr L' κ1 h1 w n e t l:=by
  rcases hr with ⟨a,b⟩ | ⟨b,cap,cur,r1,r2,r3,r4,r5,r6,r7⟩
  · exact .inl ⟨hk.trans a,b⟩
  · exact .inr ⟨b,cap,cur,hk.trans r1,r2,r3,r4,r5,r6,fun i y hy=>RepAt.mono (fun b hb=>⟨hf b hb,rfl⟩) t _ y (r7 i y hy)⟩
theorem inR_ok {κ:Place} {h:Heap} {w:World} (ok:HeapOK L w0 κ h w) {os:List RO} {y:OsDen os} {m:List (Nat × Option Nat)} (hk:m.map (·.1)=newC os) (hw:∀ p∈objsR 0 os y,WasR (objsR 0 os y) h m os p) (hnd:(keysR 0 os).Nodup)
    (hb:∀ i,i∈statC os∨i∈newC os→i < kidBase) (hcap:∀ i∈capC os,i∈statC os) (hs:nodupB (sources m)=true) {L':Nat→Prop} (h2:∀ b,L' b→L b∨∃ i c,(h i).live=true∧κ i=some (b,c)∧i ∉ statC os∧i ∉ sources m) :
    HeapOK L' w0 (placeR os m κ) (putR (objsR 0 os y) noHeap) w∧(∀ b,Free L κ h w b→Free L' (placeR os m κ) (putR (objsR 0 os y) noHeap) w b)∧(∀ b,Still κ h w b→Still (placeR os m κ) (putR (objsR 0 os y) noHeap) w b) ∧
      (∀ i b c,(putR (objsR 0 os y) noHeap i).live=true→placeR os m κ i=some (b,c)→∃ i',(h i').live=true∧κ i'=some (b,c)∧(i'∈statC os∨i'∈sources m))∧∀ i∈statC os,placeR os m κ i=κ i:=by
  have hkn:((objsR 0 os y).map (·.1)).Nodup:=by rw [keys_objs]; exact hnd
  have hap:=keys_apart hnd
  have hnn:(m.map (·.1)).Nodup:=by rw [hk]; exact news_nodup hnd
  have stn:∀ i∈statC os,lookm i m=none:=fun i hi=>lookm_none (by rw [hk]; exact fun hm=>hap i hi i hm (Nat.zero_add i).symm)
  have pst:∀ i∈statC os,placeR os m κ i=κ i:=fun i hi=>by simp only [placeR,stn i hi,memb_iff.2 hi,cond_true]
  have psome:∀ i j,(i,some j)∈m→placeR os m κ i=κ j∧srcR m i=j∧lookm i m=some (some j):=fun i j hm=>by
    have:=lookm_mem hnn hm
    exact ⟨by simp only [placeR,this],by simp only [srcR,this],this⟩
  have pnone:∀ i,(i,none)∈m→placeR os m κ i=none:=fun i hm=>by simp only [placeR,lookm_mem hnn hm]
  have what:∀ id,(∃ o,(id,o)∈objsR 0 os y∧putR (objsR 0 os y) noHeap id=o)∨((∀ p∈objsR 0 os y,p.1≠id)∧putR (objsR 0 os y) noHeap id=noHeap id):=fun id=>by
    by_cases hx:∃ p∈objsR 0 os y,p.1=id
    · obtain ⟨p,hp,rfl⟩:=hx
      exact .inl ⟨p.2,hp,putR_mem _ _ hkn hp⟩
    · have hx':∀ p∈objsR 0 os y,p.1≠id:=fun p hp e=>hx ⟨p,hp,e⟩
      exact .inr ⟨hx',putR_other _ _ hx'⟩
  have off:∀ id,(∀ p∈objsR 0 os y,p.1≠id)→(id ∉ statC os∧id ∉ newC os):=fun id hx=>by
    have:id ∉ keysR 0 os:=by rw [←keys_objs 0 os y]; exact fun hm=>by obtain ⟨p,h1,h2⟩:=List.mem_map.1 hm; exact hx p h1 h2
    exact ⟨fun hm=>this (keys_cases.2 (.inl hm)),fun hm=>this (keys_cases.2 (.inr ⟨id,hm,(Nat.zero_add id).symm⟩))⟩
  have offp:∀ id,(∀ p∈objsR 0 os y,p.1≠id)→placeR os m κ id=none:=fun id hx=>by
    obtain ⟨a,b⟩:=off id hx
    have e1:lookm id m=none:=lookm_none (by rw [hk]; exact b)
    have e2:memb (statC os) id=false:=by
      cases hq:memb (statC os) id with
      | false=>rfl
      | true=>exact absurd (memb_iff.1 hq) a
    simp only [placeR,e1,e2,cond_false]
  have live:∀ id b c,(putR (objsR 0 os y) noHeap id).live=true→placeR os m κ id=some (b,c)→(h (srcR m id)).live=true∧κ (srcR m id)=some (b,c) ∧
      ((id∈statC os∧srcR m id=id∧∀ e t l,h id≠.arr e t l)∨(lookm id m=some (some (srcR m id))∧∃ e t l,h (srcR m id)=.arr e t l)):=fun id b c hl hp=>by
    rcases what id with ⟨o,ho,he⟩ | ⟨hx,_⟩
    · have hst:id∈statC os→srcR m id=id:=fun hi=>by simp only [srcR,stn id hi]
      rcases hw _ ho with ⟨a,l0,l,e1,e2,_⟩ | ⟨a,ak,av,tk,tv,l,e1,e2⟩ | ⟨a,e,t,l,e1,e2⟩
      · have:=hst a
        rw [pst id a] at hp
        exact ⟨by rw [this,e2]; rfl,by rw [this]; exact hp,.inl ⟨a,this,fun e t l h=>by rw [e2] at h; cases h⟩⟩
      · have:=hst a
        rw [pst id a] at hp
        have e2:h id=.mapo ak av tk tv l:=by rw [←e1]; exact e2
        exact ⟨by rw [this,e2]; rfl,by rw [this]; exact hp,.inl ⟨a,this,fun e t l h=>by rw [e2] at h; cases h⟩⟩
      · rcases e2 with ⟨j,g1,g2⟩ | ⟨g1,g2⟩
        · obtain ⟨q1,q2,q3⟩:=psome id j g1
          rw [q1] at hp
          rw [q2]
          exact ⟨by rw [g2]; rfl,hp,.inr ⟨q3,e,t,l,g2⟩⟩
        · rw [pnone id g1] at hp; cases hp
    · rw [offp id hx] at hp; cases hp
  have still:∀ b,Still κ h w b→Still (placeR os m κ) (putR (objsR 0 os y) noHeap) w b:=fun b hbs=>⟨hbs.1,fun i c hl hp=>by
    obtain ⟨a,b',_⟩:=live i b c hl hp
    exact hbs.2 _ c a b'⟩
  have nl:∀ id b c,(putR (objsR 0 os y) noHeap id).live=true→placeR os m κ id=some (b,c)→¬ L' b:=fun id b c hl hp hLb=>by
    obtain ⟨a,b',cc⟩:=live id b c hl hp
    rcases h2 b hLb with hL | ⟨i,c',i1,i2,i3,i4⟩
    · exact (ok.outer b hL).2 _ c a b'
    · have:=ok.inj i _ b c' c i1 a i2 b'
      subst this
      rcases cc with ⟨q1,q2,_⟩ | ⟨q1,_⟩
      · exact i3 (by rw [q2]; exact q1)
      · exact i4 (look_source q1)
  have free:∀ b,Free L κ h w b→Free L' (placeR os m κ) (putR (objsR 0 os y) noHeap) w b:=fun b hf=>⟨hf.1,fun hLb=>by
    rcases h2 b hLb with hL | ⟨i,c',i1,i2,_,_⟩
    · exact hf.2.1 hL
    · exact hf.2.2 i c' i1 i2,(still b ⟨hf.1,hf.2.2⟩).2⟩
  have fm:∀ b,Free L κ h w b→Free L' (placeR os m κ) (putR (objsR 0 os y) noHeap) w b∧w.heap[b]? = w.heap[b]?:=fun b hb=>⟨free b hb,rfl⟩
  have hheld:∀ i∈statC os,(putR (objsR 0 os y) noHeap i).Held:=fun i hi=>by
    obtain ⟨o,h1,h2⟩:=stat_obj (s:=0) (y:=y) hi
    rw [putR_mem (p:=(i,o)) _ _ hkn h1]; exact h2
  refine ⟨⟨fun id=>?_,fun i j b c c' hi hj hpi hpj=>?_,fun i b c hi hp=>?_,ok.below,fun b hLb=>⟨?_,fun i c hl hp=>nl i b c hl hp hLb⟩,fun id hid=>?_⟩,free,still,fun i b c hl hp=>?_,pst⟩
  · rcases what id with ⟨o,ho,he⟩ | ⟨hx,he⟩
    · rw [he]
      rcases hw _ ho with ⟨a,l0,l,e1,e2,e3⟩ | ⟨a,ak,av,tk,tv,l,e1,e2⟩ | ⟨a,e,t,l,e1,e2⟩
      · have e1:o=.cells l0:=e1
        subst e1
        have hro:=ok.obj id
        rw [e2] at hro
        obtain ⟨b,c,cs,ty,r1,r2,r3,r4⟩:=hro
        refine ⟨b,c,cs,ty,(pst id a).trans r1,r2,r3.trans e3.1,fun i s0 u hi hu=>?_⟩
        obtain ⟨s,hsi⟩:∃ s,l[i]? = some s:=⟨l[i]'(by rw [e3.1]; exact (List.getElem?_eq_some_iff.1 hi).1),List.getElem?_eq_getElem _⟩
        obtain ⟨t1,t2⟩:=r4 i s u hsi hu
        refine ⟨?_,t2⟩
        rcases e3.2 i s0 s hi hsi with ⟨t,x,q1,q2⟩ | ⟨e,q1,q2⟩ | ⟨f,caps,q1,q2,q3⟩ | ⟨k,e,t,x,q1,q2,q3⟩
        · subst q1; subst q2
          exact ⟨t1.1,t1.2.1,RepAt.mono fm t _ x t1.2.2⟩
        · subst q1; subst q2
          have:u=.slice none 0 0:=t1
          subst this
          exact ⟨rfl,rfl,none,0,0,rfl,rfl,Nat.le_refl _,fun h=>absurd rfl h⟩
        · subst q1; subst q2
          obtain ⟨cs',z1,z2,z3⟩:=t1
          refine ⟨cs',z1,z2,fun i p hp=>?_⟩
          obtain ⟨g1,b2,c2,g2,g3⟩:=z3 i p hp
          have hst:=hcap _ (q3 p (List.mem_of_getElem? hp))
          exact ⟨hheld _ hst,b2,c2,(pst _ hst).trans g2,g3⟩
        · subst q1
          have hk':putR (objsR 0 os y) noHeap k=.arr e t x:=putR_mem (p:=(k,.arr e t x)) _ _ hkn q2
          refine ⟨?_,t2⟩
          rw [hk']
          rcases q3 with ⟨j,rfl,g1,g2⟩ | ⟨rfl,g1,rfl⟩
          · have t1:=t1.1
            simp only [g2] at t1
            simp only [(psome k j g1).1]
            exact t1
          · have:u=.slice none 0 0:=t1
            exact .inl ⟨pnone k g1,rfl,this⟩
      · have e1:o=.mapo ak av tk tv l:=e1
        subst e1
        have hro:=ok.obj id
        rw [show h id=.mapo ak av tk tv l from e2] at hro
        obtain ⟨b,c,es,cl,r1,r2,r3⟩:=hro
        exact ⟨b,c,es,cl,(pst id a).trans r1,r2,r3.mono fm⟩
      · have e1:o=.arr e t l:=e1
        subst e1
        rcases e2 with ⟨j,g1,g2⟩ | ⟨g1,rfl⟩
        · have hro:=ok.obj j
          rw [g2] at hro
          exact RepArr.atL free (psome id j g1).1 hro
        · exact .inl ⟨pnone id g1,rfl⟩
    · rw [he]; unfold noHeap; cases Nat.ble kidBase id <;> trivial
  · obtain ⟨a1,a2,a3⟩:=live i b c hi hpi
    obtain ⟨b1,b2,b3⟩:=live j b c' hj hpj
    have e:=ok.inj _ _ b c c' a1 b1 a2 b2
    rcases a3 with ⟨p1,p2,p3⟩ | ⟨p1,e4,t4,l4,p2⟩ <;> rcases b3 with ⟨q1,q2,q3⟩ | ⟨q1,e5,t5,l5,q2⟩
    · rw [p2,q2] at e; exact e
    · rw [p2] at e; exact absurd (e ▸ q2) (p3 _ _ _)
    · rw [q2] at e; exact absurd (e ▸ p2) (q3 _ _ _)
    · rw [←e] at q1; exact look_inj hs p1 q1
  · obtain ⟨a1,a2,_⟩:=live i b c hi hp
    exact ok.own _ b c a1 a2
  · rcases h2 b hLb with hL | ⟨i,c',i1,i2,_,_⟩
    · exact (ok.outer b hL).1
    · exact (ok.own i b c' i1 i2).2
  · rw [putR_other _ _ fun p hp e=>?_]
    · exact noHeap_kid id hid
    · have hm:p.1∈keysR 0 os:=by rw [←keys_objs 0 os y]; exact List.mem_map_of_mem hp
      rcases keys_cases.1 hm with hm | ⟨k,hm,hk⟩
      · have:=hb _ (.inl hm); omega
      · have:=hb _ (.inr hm); omega
  · obtain ⟨a1,a2,a3⟩:=live i b c hl hp
    refine ⟨_,a1,a2,?_⟩
    rcases a3 with ⟨p1,p2,p3⟩ | ⟨p1,_⟩
    · exact .inl (by rw [p2]; exact p1)
    · exact .inr (look_source p1)
def SameR (s:Nat) (os:List RO) (O:List (Nat × AObj)) (i0:Nat) (o0:AObj) (i:Nat) (o:AObj):Prop :=
  (i∈statC os∧i0=i∧∃ l0 l,o0=.cells l0∧o=.cells l∧l.length=l0.length∧∀ (j:Nat) (s0 s1:SV),l0[j]? = some s0→l[j]? = some s1→(s1=s0∧((∃ t x,s0=.sc t x)∨∃ f caps,s0=.fn f caps∧∀ p∈caps,p.1∈capC os))∨∃ k e t x,s0=.own k∧s1=.own (s+k)∧k∈newC os∧(k,AObj.arr e t x)∈O) ∨
  (i∈statC os∧i0=i∧o0=o∧∃ ak av tk tv l,o=.mapo ak av tk tv l) ∨
  ((∃ k∈newC os,i0=k∧i=s+k)∧o0=o∧∃ e t l,o=.arr e t l)
theorem SameR.mono {s:Nat} {os os':List RO} {O O':List (Nat × AObj)} (hO:∀ p∈O,p∈O') (h0:∀ i∈capC os,i∈capC os') (h1:∀ i∈statC os,i∈statC os') (h2:∀ i∈newC os,i∈newC os') {i0 i:Nat} {o0 o:AObj}:SameR s os O i0 o0 i o→SameR s os' O' i0 o0 i o
  | .inl ⟨a,b,l0,l,c,d,e,f⟩=>.inl ⟨h1 _ a,b,l0,l,c,d,e,fun j s0 s1 x y=>(f j s0 s1 x y).imp (fun ⟨x,y⟩=>⟨x,y.imp (fun z=>z) fun ⟨f,caps,u,v⟩=>⟨f,caps,u,fun p hp=>h0 _ (v p hp)⟩⟩) fun ⟨k,e,t,x,u,v,w,z⟩=>⟨k,e,t,x,u,v,h2 _ w,hO _ z⟩⟩
  | .inr (.inl ⟨a,b⟩)=>.inr (.inl ⟨h1 _ a,b⟩)
  | .inr (.inr ⟨⟨k,a,b⟩,c⟩)=>.inr (.inr ⟨⟨k,h2 _ a,b⟩,c⟩)
theorem cels_same (s:Nat):∀ (cs:List RC) (y:RcDen cs),(celR s cs y).length=(celR 0 cs y).length∧(∀ (j:Nat) (s0 s1:SV),(celR 0 cs y)[j]? = some s0→(celR s cs y)[j]? = some s1→(s1=s0∧((∃ t x,s0=.sc t x)∨∃ f caps,s0=.fn f caps∧∀ p∈caps,p.1∈capsC cs))∨∃ k e t x,s0=.own k∧s1=.own (s+k)∧k∈arrC cs∧(k,AObj.arr e t x)∈arrsR 0 cs y) ∧
    ∀ i o,(i,o)∈arrsR s cs y→∃ k∈arrC cs,i=s+k∧(k,o)∈arrsR 0 cs y∧∃ e t l,o=.arr e t l
  | [],_=>⟨rfl,fun j s0 s1 a _=>by simp [celR] at a,fun i o h=>by simp [arrsR] at h⟩
  | .v t :: r,y=>by
    obtain ⟨a,b,c⟩:=cels_same s r y.2
    refine ⟨by simp [celR,a],fun j s0 s1 h1 h2=>?_,c⟩
    cases j with
    | zero=>simp [celR] at h1 h2; exact .inl ⟨by rw [←h1,←h2],.inl ⟨t,y.1,h1.symm⟩⟩
    | succ j=>exact b j s0 s1 (by simpa [celR] using h1) (by simpa [celR] using h2)
  | .fn f caps :: r,y=>by
    obtain ⟨a,b,c⟩:=cels_same s r y
    refine ⟨by simp [celR,a],fun j s0 s1 h1 h2=>?_,c⟩
    cases j with
    | zero=>simp [celR] at h1 h2; exact .inl ⟨by rw [←h1,←h2],.inr ⟨f,caps,h1.symm,fun p hp=>by simp only [capsC]; exact List.mem_append_left _ (List.mem_map_of_mem hp)⟩⟩
    | succ j =>
      rcases b j s0 s1 (by simpa [celR] using h1) (by simpa [celR] using h2) with ⟨x,y | ⟨f',caps',z,u⟩⟩ | x
      · exact .inl ⟨x,.inl y⟩
      · exact .inl ⟨x,.inr ⟨f',caps',z,fun p hp=>by simp only [capsC]; exact List.mem_append_right _ (u p hp)⟩⟩
      · exact .inr x
  | .arr k e t :: r,y=>by
    obtain ⟨a,b,c⟩:=cels_same s r y.2
    refine ⟨by simp [celR,a],fun j s0 s1 h1 h2=>?_,fun i o h=>?_⟩
    · cases j with
      | zero=>simp [celR] at h1 h2; exact .inr ⟨k,e,t,y.1,h1.symm,h2.symm,by simp [arrC],by simp [arrsR]⟩
      | succ j =>
        rcases b j s0 s1 (by simpa [celR] using h1) (by simpa [celR] using h2) with x | ⟨k',e',t',x',u1,u2,u3,u4⟩
        · exact .inl x
        · exact .inr ⟨k',e',t',x',u1,u2,by simp [arrC,u3],List.mem_cons_of_mem _ u4⟩
    · simp only [arrsR] at h
      rcases List.mem_cons.1 h with h | h
      · cases h; exact ⟨k,by simp [arrC],rfl,by simp [arrsR],e,t,y.1,rfl⟩
      · obtain ⟨k',u1,u2,u3,u4⟩:=c i o h
        exact ⟨k',by simp [arrC,u1],u2,List.mem_cons_of_mem _ u3,u4⟩
theorem objs_same (s:Nat):∀ (os:List RO) (y:OsDen os) (i:Nat) (o:AObj),(i,o)∈objsR s os y→∃ i0 o0,(i0,o0)∈objsR 0 os y∧SameR s os (objsR 0 os y) i0 o0 i o
  | [],_,i,o,h=>by simp [objsR] at h
  | .cel id cs :: r,y,i,o,h=>by
    obtain ⟨c1,c2,c3⟩:=cels_same s cs y.1
    simp only [objsR] at h
    have hO:∀ p∈arrsR 0 cs y.1,p∈objsR 0 (.cel id cs :: r) y:=fun p hp=>List.mem_cons_of_mem _ (List.mem_append_left _ hp)
    rcases List.mem_cons.1 h with h | h
    · cases h
      refine ⟨id,_,List.mem_cons_self,.inl ⟨by simp [statC],rfl,_,_,rfl,rfl,c1,fun j s0 s1 a b=>?_⟩⟩
      rcases c2 j s0 s1 a b with ⟨x,z | ⟨f,caps,u,v⟩⟩ | ⟨k,e,t,x,u1,u2,u3,u4⟩
      · exact .inl ⟨x,.inl z⟩
      · exact .inl ⟨x,.inr ⟨f,caps,u,fun p hp=>by simp only [capC]; exact List.mem_append_left _ (v p hp)⟩⟩
      · exact .inr ⟨k,e,t,x,u1,u2,by simp [newC,u3],hO _ u4⟩
    · rcases List.mem_append.1 h with h | h
      · obtain ⟨k,u1,u2,u3,u4⟩:=c3 i o h
        exact ⟨k,o,hO _ u3,.inr (.inr ⟨⟨k,by simp [newC,u1],rfl,u2⟩,rfl,u4⟩)⟩
      · obtain ⟨i0,o0,g1,g2⟩:=objs_same s r y.2 i o h
        exact ⟨i0,o0,List.mem_cons_of_mem _ (List.mem_append_right _ g1),g2.mono (fun p hp=>List.mem_cons_of_mem _ (List.mem_append_right _ hp)) (fun i hi=>by simp only [capC]; exact List.mem_append_right _ hi) (fun i hi=>by simp only [statC]; exact List.mem_cons_of_mem _ hi) fun i hi=>by simp [newC,hi]⟩
  | .map id ak av tk tv :: r,y,i,o,h=>by
    simp only [objsR] at h
    rcases List.mem_cons.1 h with h | h
    · cases h
      exact ⟨id,_,List.mem_cons_self,.inr (.inl ⟨by simp [statC],rfl,rfl,ak,av,tk,tv,y.1,rfl⟩)⟩
    · obtain ⟨i0,o0,g1,g2⟩:=objs_same s r y.2 i o h
      exact ⟨i0,o0,List.mem_cons_of_mem _ g1,g2.mono (fun p hp=>List.mem_cons_of_mem _ hp) (fun i hi=>by simpa [capC] using hi) (fun i hi=>by simp only [statC]; exact List.mem_cons_of_mem _ hi) fun i hi=>by simpa [newC] using hi⟩
def OutR (L:Nat→Prop) (κ:Place) (h:Heap) (os:List RO) (m:List (Nat × Option Nat)) (b:Nat):Prop:=L b∨∃ i c,(h i).live=true∧κ i=some (b,c)∧i ∉ statC os∧i ∉ sources m
structure XR (os:List RO) (κ:Place) (h:Heap) (w:World) (κ':Place) (h':Heap) (w':World):Prop where
  place:∀ i∈statC os,κ' i=κ i
  still:∀ b,Still κ h w b→Still κ' h' w' b∧w'.heap[b]? = w.heap[b]?
  size:w.heap.size≤w'.heap.size
  loops:∀ (b:Nat) r,w.heap[b]? = some (Obj.loop r)→∃ r',w'.heap[b]? = some (Obj.loop r')
  defs:∀ b:Nat,w.heap[b]? = some (.deferred (some []))→w'.heap[b]? = some (.deferred (some []))
def backR (s:Nat) (os:List RO) (κ κ':Place):Place:=fun id=>cond (memb (statC os) id) (κ id) (cond (memb ((newC os).map (s+·)) id) (κ' (id - s)) (κ id))
theorem both_obj:∀ {os:List RO} {y z:OsDen os},∀ i∈statC os,∃ oy,(i,oy)∈objsR 0 os y∧∃ oz,(i,oz)∈objsR 0 os z∧((∃ l,oy=.cells l)∧(∃ l,oz=.cells l)∨(∃ ak av tk tv l,oy=.mapo ak av tk tv l)∧∃ ak av tk tv l,oz=.mapo ak av tk tv l)
  | [],_,_,i,hi=>by cases hi
  | .cel id cs :: r,y,z,i,hi=>by
    simp only [statC,List.mem_cons] at hi
    rcases hi with rfl | hi
    · exact ⟨_,List.mem_cons_self,_,List.mem_cons_self,.inl ⟨⟨_,rfl⟩,⟨_,rfl⟩⟩⟩
    · obtain ⟨oy,q1,oz,q2,q3⟩:=both_obj (y:=y.2) (z:=z.2) i hi
      exact ⟨oy,List.mem_cons_of_mem _ (List.mem_append_right _ q1),oz,List.mem_cons_of_mem _ (List.mem_append_right _ q2),q3⟩
  | .map id ak av tk tv :: r,y,z,i,hi=>by
    simp only [statC,List.mem_cons] at hi
    rcases hi with rfl | hi
    · exact ⟨_,List.mem_cons_self,_,List.mem_cons_self,.inr ⟨⟨_,_,_,_,_,rfl⟩,⟨_,_,_,_,_,rfl⟩⟩⟩
    · obtain ⟨oy,q1,oz,q2,q3⟩:=both_obj (y:=y.2) (z:=z.2) i hi
      exact ⟨oy,List.mem_cons_of_mem _ q1,oz,List.mem_cons_of_mem _ q2,q3⟩
theorem outR_ok {κ:Place} {h:Heap} {w:World} (ok:HeapOK L w0 κ h w) {os:List RO} {y:OsDen os} {m:List (Nat × Option Nat)} (hk:m.map (·.1)=newC os) (hw:∀ p∈objsR 0 os y,WasR (objsR 0 os y) h m os p) (hnd:(keysR 0 os).Nodup)
    (hb:∀ i,i∈statC os∨i∈newC os→i < kidBase) (hcap:∀ i∈capC os,i∈statC os) (hs:nodupB (sources m)=true) {κ':Place} {w':World} {z:OsDen os} (ok':HeapOK (OutR L κ h os m) w0 κ' (putR (objsR 0 os z) noHeap) w')
    (x:XR os (placeR os m κ) (putR (objsR 0 os y) noHeap) w κ' (putR (objsR 0 os z) noHeap) w') {s:Nat} (hfr:∀ k∈newC os,h (s+k)=.fresh) (hns:(keysR s os).Nodup) :
    HeapOK L w0 (backR s os κ κ') (putR (objsR s os z) (killR (sources m) h)) w'∧Ext L κ h w (backR s os κ κ') (putR (objsR s os z) (killR (sources m) h)) w' ∧
      ∀ b,Free (OutR L κ h os m) κ' (putR (objsR 0 os z) noHeap) w' b→Free L (backR s os κ κ') (putR (objsR s os z) (killR (sources m) h)) w' b:=by
  obtain ⟨okI,freeI,stillI,liveI,pstI⟩:=inR_ok ok hk hw hnd hb hcap hs (L':=OutR L κ h os m) (fun b hb=>hb)
  have hkz:((objsR 0 os z).map (·.1)).Nodup:=by rw [keys_objs]; exact hnd
  have hky:((objsR 0 os y).map (·.1)).Nodup:=by rw [keys_objs]; exact hnd
  have hks:((objsR s os z).map (·.1)).Nodup:=by rw [keys_objs]; exact hns
  have hap:=keys_apart hnd
  have haps:=keys_apart hns
  have hnn:(m.map (·.1)).Nodup:=by rw [hk]; exact news_nodup hnd
  have hstat:∀ i∈statC os,(∃ l,h i=.cells l)∨∃ ak av tk tv l,h i=.mapo ak av tk tv l:=fun i hi=>by
    obtain ⟨o,h1,h2⟩:=stat_obj (s:=0) (y:=y) hi
    rcases hw _ h1 with ⟨a,l0,l,e1,e2,_⟩ | ⟨a,ak,av,tk,tv,l,e1,e2⟩ | ⟨a,e,t,l,e1,e2⟩
    · exact .inl ⟨l,e2⟩
    · exact .inr ⟨ak,av,tk,tv,l,e2.trans e1⟩
    · exact absurd (Nat.zero_add i).symm (hap i hi i a)
  have hsrc:∀ j∈sources m,∃ e t l,h j=.arr e t l:=fun j hj=>by
    obtain ⟨q,hq,hq2⟩:=List.mem_filterMap.1 hj
    obtain ⟨k,o⟩:=q
    have hq2:o=some j:=hq2
    subst hq2
    have hkm:k∈newC os:=by rw [←hk]; exact List.mem_map_of_mem (f:=(·.1)) hq
    have:k∈(objsR 0 os y).map (·.1):=by rw [keys_objs]; exact keys_cases.2 (.inr ⟨k,hkm,(Nat.zero_add k).symm⟩)
    obtain ⟨p,hp,hp2⟩:=List.mem_map.1 this
    have hp2:p.1=k:=hp2
    rcases hw _ hp with ⟨a,_⟩ | ⟨a,_⟩ | ⟨a,e,t,l,e1,e2⟩
    · exact absurd (by rw [hp2]; exact (Nat.zero_add k).symm) (hap _ a k hkm)
    · exact absurd (by rw [hp2]; exact (Nat.zero_add k).symm) (hap _ a k hkm)
    · rw [hp2] at e2
      have hl:=lookm_mem hnn hq
      rcases e2 with ⟨j',g1,g2⟩ | ⟨g1,_⟩
      · rw [lookm_mem hnn g1] at hl; cases hl; exact ⟨e,t,l,g2⟩
      · rw [lookm_mem hnn g1] at hl; cases hl
  have nst:∀ i∈sources m,i ∉ statC os:=fun i hi hst=>by
    obtain ⟨e,t,l,h1⟩:=hsrc i hi
    rcases hstat i hst with ⟨l',h2⟩ | ⟨_,_,_,_,l',h2⟩ <;> rw [h1] at h2 <;> cases h2
  have mf:∀ {b:List Nat} {i:Nat},i ∉ b→memb b i=false:=fun {b i} hn=>by
    cases hq:memb b i with
    | false=>rfl
    | true=>exact absurd (memb_iff.1 hq) hn
  have κst:∀ i∈statC os,backR s os κ κ' i=κ i:=fun i hi=>by simp only [backR,memb_iff.2 hi,cond_true]
  have κnew:∀ k∈newC os,backR s os κ κ' (s+k)=κ' k:=fun k hk'=>by
    have h1:memb (statC os) (s+k)=false:=mf fun hm=>haps _ hm k hk' rfl
    have h2:memb ((newC os).map (s+·)) (s+k)=true:=memb_iff.2 (List.mem_map_of_mem hk')
    simp only [backR,h1,h2,cond_true,cond_false,Nat.add_sub_cancel_left]
  have κoff:∀ i,i ∉ statC os→(∀ k∈newC os,i≠s+k)→backR s os κ κ' i=κ i:=fun i h1 h2=>by
    have g1:memb (statC os) i=false:=mf h1
    have g2:memb ((newC os).map (s+·)) i=false:=mf fun hm=>by obtain ⟨k,a,b⟩:=List.mem_map.1 hm; exact h2 k a b.symm
    simp only [backR,g1,g2,cond_false]
  have what:∀ id,(∃ o,(id,o)∈objsR s os z∧putR (objsR s os z) (killR (sources m) h) id=o)∨((id ∉ statC os∧∀ k∈newC os,id≠s+k)∧putR (objsR s os z) (killR (sources m) h) id=killR (sources m) h id):=fun id=>by
    by_cases hx:∃ p∈objsR s os z,p.1=id
    · obtain ⟨p,hp,rfl⟩:=hx
      exact .inl ⟨p.2,hp,putR_mem _ _ hks hp⟩
    · have hx':∀ p∈objsR s os z,p.1≠id:=fun p hp e=>hx ⟨p,hp,e⟩
      have:id ∉ keysR s os:=by rw [←keys_objs s os z]; exact fun hm=>by obtain ⟨p,h1,h2⟩:=List.mem_map.1 hm; exact hx' p h1 h2
      exact .inr ⟨⟨fun hm=>this (keys_cases.2 (.inl hm)),fun k hk' e=>this (keys_cases.2 (.inr ⟨k,hk',e⟩))⟩,putR_other _ _ hx'⟩
  have kill:∀ id,(killR (sources m) h id=.dead∧id∈sources m)∨(killR (sources m) h id=h id∧id ∉ sources m):=fun id=>by
    unfold killR
    cases hq:memb (sources m) id with
    | true=>exact .inl ⟨rfl,memb_iff.1 hq⟩
    | false=>exact .inr ⟨rfl,fun hm=>by rw [memb_iff.2 hm] at hq; cases hq⟩
  have same:∀ id o,(id,o)∈objsR s os z→∃ i0 o0,putR (objsR 0 os z) noHeap i0=o0∧SameR s os (objsR 0 os z) i0 o0 id o∧backR s os κ κ' id=κ' i0:=fun id o ho=>by
    obtain ⟨i0,o0,g1,g2⟩:=objs_same s os z id o ho
    refine ⟨i0,o0,putR_mem (p:=(i0,o0)) _ _ hkz g1,g2,?_⟩
    rcases g2 with ⟨a,b,_⟩ | ⟨a,b,_⟩ | ⟨⟨k,a,b,c⟩,_⟩
    · rw [κst id a,b,x.place id a,pstI id a]
    · rw [κst id a,b,x.place id a,pstI id a]
    · rw [c,κnew k a,b]
  have live2:∀ id b c,(putR (objsR s os z) (killR (sources m) h) id).live=true→backR s os κ κ' id=some (b,c) →
      (∃ i0,(putR (objsR 0 os z) noHeap i0).live=true∧κ' i0=some (b,c)∧((id∈statC os∧i0=id)∨∃ k∈newC os,i0=k∧id=s+k))∨((h id).live=true∧κ id=some (b,c)∧id ∉ statC os∧id ∉ sources m):=fun id b c hl hp=>by
    rcases what id with ⟨o,ho,he⟩ | ⟨⟨h1,h2⟩,he⟩
    · obtain ⟨i0,o0,g1,g2,g3⟩:=same id o ho
      refine .inl ⟨i0,?_,by rw [←g3]; exact hp,?_⟩
      · rw [g1]
        rw [he] at hl
        rcases g2 with ⟨_,_,l0,l,e1,e2,_⟩ | ⟨_,_,e1,_⟩ | ⟨_,e1,_⟩
        · rw [e1]; rfl
        · rw [e1]; exact hl
        · rw [e1]; exact hl
      · rcases g2 with ⟨a,b,_⟩ | ⟨a,b,_⟩ | ⟨a,_⟩
        · exact .inl ⟨a,b⟩
        · exact .inl ⟨a,b⟩
        · exact .inr a
    · rw [he] at hl
      rcases kill id with ⟨q1,q2⟩ | ⟨q1,q2⟩
      · rw [q1] at hl; cases hl
      · rw [q1] at hl
        exact .inr ⟨hl,by rw [←κoff id h1 h2]; exact hp,h1,q2⟩
  have frame:∀ i b c,(h i).live=true→κ i=some (b,c)→i ∉ statC os→i ∉ sources m→w'.heap[b]? = w.heap[b]?:=fun i b c hl hp h1 h2=>by
    refine (x.still b ⟨(ok.own i b c hl hp).2,fun j c' hj hkj=>?_⟩).2
    obtain ⟨i',a1,a2,a3⟩:=liveI j b c' hj hkj
    have:=ok.inj i i' b c c' hl a1 hp a2
    subst this
    rcases a3 with a3 | a3
    · exact h1 a3
    · exact h2 a3
  have still:∀ b,Still κ h w b→Still (backR s os κ κ') (putR (objsR s os z) (killR (sources m) h)) w' b∧w'.heap[b]? = w.heap[b]?:=fun b hbs=>by
    obtain ⟨a1,a2⟩:=x.still b (stillI b hbs)
    refine ⟨⟨a1.1,fun i c hl hp=>?_⟩,a2⟩
    rcases live2 i b c hl hp with ⟨i0,g1,g2,_⟩ | ⟨g1,g2,_⟩
    · exact a1.2 i0 c g1 g2
    · exact hbs.2 i c g1 g2
  have free:∀ b,Free (OutR L κ h os m) κ' (putR (objsR 0 os z) noHeap) w' b→Free L (backR s os κ κ') (putR (objsR s os z) (killR (sources m) h)) w' b:=fun b hf=>⟨hf.1,fun hL=>hf.2.1 (.inl hL),fun i c hl hp=>by
    rcases live2 i b c hl hp with ⟨i0,g1,g2,_⟩ | ⟨g1,g2,g3,g4⟩
    · exact hf.2.2 i0 c g1 g2
    · exact hf.2.1 (.inr ⟨i,c,g1,g2,g3,g4⟩)⟩
  have fm:∀ b,Free (OutR L κ h os m) κ' (putR (objsR 0 os z) noHeap) w' b→Free L (backR s os κ κ') (putR (objsR s os z) (killR (sources m) h)) w' b∧w'.heap[b]? = w'.heap[b]?:=fun b hb=>⟨free b hb,rfl⟩
  have kind:∀ id,(h id).Held→(id∈statC os∧((∃ l,h id=.cells l)∧(∃ l,putR (objsR s os z) (killR (sources m) h) id=.cells l)∨(h id).isMap=true∧(putR (objsR s os z) (killR (sources m) h) id).isMap=true∧∃ ak av tk tv l,h id=.mapo ak av tk tv l))∨(putR (objsR s os z) (killR (sources m) h) id=.dead∧∃ e t l,h id=.arr e t l)∨putR (objsR s os z) (killR (sources m) h) id=h id:=fun id hh=>by
    rcases what id with ⟨o,ho,he⟩ | ⟨⟨h1,h2⟩,he⟩
    · obtain ⟨i0,o0,g1,g2,g3⟩:=same id o ho
      have key:id∈statC os→∃ oy oz,WasR (objsR 0 os y) h m os (id,oy)∧putR (objsR 0 os z) noHeap id=oz∧((∃ l,oy=.cells l)∧(∃ l,oz=.cells l)∨(∃ ak av tk tv l,oy=.mapo ak av tk tv l)∧∃ ak av tk tv l,oz=.mapo ak av tk tv l):=fun a=>by
        obtain ⟨oy,q1,oz,q2,q3⟩:=both_obj (y:=y) (z:=z) id a
        exact ⟨oy,oz,hw _ q1,putR_mem (p:=(id,oz)) _ _ hkz q2,q3⟩
      rcases g2 with ⟨a,b,l0,l,e1,e2,_⟩ | ⟨a,b,e1,ak,av,tk,tv,l,e2⟩ | ⟨⟨k,a,b,c⟩,_⟩
      · refine .inl ⟨a,.inl ⟨?_,l,by rw [he,e2]⟩⟩
        obtain ⟨oy,oz,k1,k2,k3⟩:=key a
        subst b
        rw [g1,e1] at k2
        subst k2
        rcases k3 with ⟨⟨ly,k3⟩,_⟩ | ⟨_,_,_,_,_,_,k3⟩
        · subst k3
          rcases k1 with ⟨_,_,l2,_,e4,_⟩ | ⟨_,_,_,_,_,_,e3,_⟩ | ⟨_,_,_,_,e3,_⟩
          · exact ⟨l2,e4⟩
          · cases e3
          · cases e3
        · cases k3
      · refine .inl ⟨a,.inr ?_⟩
        obtain ⟨oy,oz,k1,k2,k3⟩:=key a
        subst b
        rw [g1,e1,e2] at k2
        subst k2
        rcases k3 with ⟨_,_,k3⟩ | ⟨⟨ak2,av2,tk2,tv2,l2,k3⟩,_⟩
        · cases k3
        · subst k3
          rcases k1 with ⟨_,_,_,e3,_⟩ | ⟨_,_,_,_,_,_,e3,e4⟩ | ⟨_,_,_,_,e3,_⟩
          · cases e3
          · have e4:h i0=.mapo ak2 av2 tk2 tv2 l2:=e4
            exact ⟨by rw [e4]; rfl,by rw [he,e2]; rfl,_,_,_,_,_,e4⟩
          · cases e3
      · exact absurd (hfr k a) (by rw [←c]; exact hh.1)
    · rw [he]
      rcases kill id with ⟨q1,q2⟩ | ⟨q1,q2⟩
      · exact .inr (.inl ⟨q1,hsrc id q2⟩)
      · exact .inr (.inr q1)
  have notNew:∀ id,h id≠.fresh→∀ k∈newC os,id≠s+k:=fun id hid k hk' e=>hid (by rw [e]; exact hfr k hk')
  have hκ:∀ id,h id≠.fresh→backR s os κ κ' id=κ id:=fun id hid=>by
    by_cases hst:id∈statC os
    · exact κst id hst
    · exact κoff id hst (notNew id hid)
  have other:∀ id,h id≠.fresh→(∀ l,h id≠.cells l)→(∀ ak av tk tv l,h id≠.mapo ak av tk tv l)→(∀ e t l,h id≠.arr e t l)→putR (objsR s os z) (killR (sources m) h) id=h id:=fun id h0 h1 h2 h3=>by
    rcases what id with ⟨o,ho,he⟩ | ⟨_,he⟩
    · have:id∈keysR s os:=by rw [←keys_objs s os z]; exact List.mem_map_of_mem (f:=(·.1)) ho
      rcases keys_cases.1 this with hst | ⟨k,hk',e⟩
      · rcases hstat id hst with ⟨l,e⟩ | ⟨_,_,_,_,_,e⟩
        · exact absurd e (h1 l)
        · exact absurd e (h2 _ _ _ _ _)
      · exact absurd e (notNew id h0 k hk')
    · rw [he]
      rcases kill id with ⟨q1,q2⟩ | ⟨q1,q2⟩
      · obtain ⟨e,t,l,hl⟩:=hsrc id q2
        exact absurd hl (h3 e t l)
      · exact q1
  have hext:Ext L κ h w (backR s os κ κ') (putR (objsR s os z) (killR (sources m) h)) w':=by
    refine ⟨fun id hh=>hκ id hh.1,fun id hd=>?_,fun id hd=>?_,fun id l hd=>?_,fun id e t l hd=>?_,fun id e t l f hd=>?_,fun id e t l hd=>?_,fun id ri rs hd=>?_,fun id hd=>?_,fun id ak av tk tv le cu hd=>?_,still,x.size,x.loops,x.defs⟩
    · rw [other id (by rw [hd]; simp) (fun l=>by rw [hd]; simp) (fun _ _ _ _ l=>by rw [hd]; simp) (fun _ _ l=>by rw [hd]; simp)]; exact hd
    · rw [other id (by rw [hd]; simp) (fun l=>by rw [hd]; simp) (fun _ _ _ _ l=>by rw [hd]; simp) (fun _ _ l=>by rw [hd]; simp)]; exact hd
    · rcases kind id (by rw [hd]; simp) with ⟨_,⟨_,a⟩ | ⟨a,_⟩⟩ | ⟨a,_⟩ | a
      · exact .inl a
      · rw [hd] at a; cases a
      · exact .inr a
      · exact .inl ⟨l,by rw [a]; exact hd⟩
    · rcases kind id (by rw [hd]; simp) with ⟨_,⟨⟨l',a⟩,_⟩ | ⟨a,_⟩⟩ | ⟨a,_⟩ | a
      · rw [hd] at a; cases a
      · rw [hd] at a; cases a
      · exact .inr a
      · exact .inl ⟨l,rfl,.inl (by rw [a]; exact hd)⟩
    · rw [other id (by rw [hd]; simp) (fun l=>by rw [hd]; simp) (fun _ _ _ _ l=>by rw [hd]; simp) (fun _ _ l=>by rw [hd]; simp)]; exact .inl ⟨l,f,rfl,hd⟩
    · rw [other id (by rw [hd]; simp) (fun l=>by rw [hd]; simp) (fun _ _ _ _ l=>by rw [hd]; simp) (fun _ _ l=>by rw [hd]; simp)]; exact .inl hd
    · rw [other id (by rw [hd]; simp) (fun l=>by rw [hd]; simp) (fun _ _ _ _ l=>by rw [hd]; simp) (fun _ _ l=>by rw [hd]; simp)]; exact .inl ⟨rs,hd⟩
    · have hh:(h id).Held:=⟨(fun e=>by rw [e] at hd; cases hd),(fun e=>by rw [e] at hd; cases hd)⟩
      rcases kind id hh with ⟨_,⟨⟨l',a⟩,_⟩ | ⟨_,a,_⟩⟩ | ⟨a,_⟩ | a
      · rw [a] at hd; cases hd
      · exact .inl a
      · exact .inr a
      · exact .inl (by rw [a]; exact hd)
    · rw [other id (by rw [hd]; simp) (fun l=>by rw [hd]; simp) (fun _ _ _ _ l=>by rw [hd]; simp) (fun _ _ l=>by rw [hd]; simp)]; exact .inl ⟨le,cu,hd⟩
  have hheld:∀ i∈statC os,(putR (objsR s os z) (killR (sources m) h) i).Held:=fun i hi=>by
    obtain ⟨o,h1,h2⟩:=stat_obj (s:=s) (y:=z) hi
    rw [putR_mem (p:=(i,o)) _ _ hks h1]; exact h2
  have hnotkid:∀ i,kidBase≤i→i ∉ statC os∧i ∉ sources m∧∀ k∈newC os,i≠s+k:=fun i hi=>by
    have hkd:=ok.kids i hi
    refine ⟨fun hm=>?_,fun hm=>?_,fun k hk' e=>?_⟩
    · have:=hb i (.inl hm); omega
    · obtain ⟨e,t,l,h1⟩:=hsrc i hm; rw [hkd] at h1; cases h1
    · rw [e,hfr k hk'] at hkd; cases hkd
  refine ⟨⟨fun id=>?_,fun i j b c c' hi hj hpi hpj=>?_,fun i b c hi hp=>?_,ok'.below,fun b hL=>⟨(ok'.outer b (.inl hL)).1,fun i c hl hp=>?_⟩,fun id hid=>?_⟩,hext,free⟩
  · rcases what id with ⟨o,ho,he⟩ | ⟨⟨h1,h2⟩,he⟩
    · rw [he]
      obtain ⟨i0,o0,g1,g2,g3⟩:=same id o ho
      have hro:=ok'.obj i0
      rw [g1] at hro
      rcases g2 with ⟨a,b,l0,l,e1,e2,e3,e4⟩ | ⟨a,b,e1,ak,av,tk,tv,l,e2⟩ | ⟨⟨k,a,b,c⟩,e1,e,t,l,e2⟩
      · subst e1; subst e2
        obtain ⟨b',c',cs,ty,r1,r2,r3,r4⟩:=hro
        refine ⟨b',c',cs,ty,g3.trans r1,r2,r3.trans e3.symm,fun i s1 u hi hu=>?_⟩
        obtain ⟨s0,hs0⟩:∃ s0,l0[i]? = some s0:=⟨l0[i]'(by rw [←e3]; exact (List.getElem?_eq_some_iff.1 hi).1),List.getElem?_eq_getElem _⟩
        obtain ⟨t1,t2⟩:=r4 i s0 u hs0 hu
        refine ⟨?_,t2⟩
        rcases e4 i s0 s1 hs0 hi with ⟨rfl,⟨t,x',rfl⟩ | ⟨f,caps,rfl,hcp⟩⟩ | ⟨k,e,t,x',rfl,rfl,q1,q2⟩
        · exact ⟨t1.1,t1.2.1,RepAt.mono fm t _ x' t1.2.2⟩
        · obtain ⟨cs',z1,z2,z3⟩:=t1
          refine ⟨cs',z1,z2,fun i p hp=>?_⟩
          obtain ⟨y1,b2,c2,y2,y3⟩:=z3 i p hp
          have hst:=hcap _ (hcp p (List.mem_of_getElem? hp))
          exact ⟨hheld _ hst,b2,c2,by rw [κst _ hst,←pstI _ hst,←x.place _ hst]; exact y2,y3⟩
        · have hzk:putR (objsR 0 os z) noHeap k=.arr e t x':=putR_mem (p:=(k,.arr e t x')) _ _ hkz q2
          have hsk:putR (objsR s os z) (killR (sources m) h) (s+k)=.arr e t x':=by
            rcases what (s+k) with ⟨o2,ho2,he2⟩ | ⟨⟨_,hn2⟩,_⟩
            · obtain ⟨i2,o3,y1,y2,_⟩:=same (s+k) o2 ho2
              rcases y2 with ⟨a2,_⟩ | ⟨a2,_⟩ | ⟨⟨k2,a2,b2,c2⟩,y3,_⟩
              · exact absurd rfl (haps _ a2 k q1)
              · exact absurd rfl (haps _ a2 k q1)
              · have:k=k2:=by omega
                subst this; subst b2
                rw [he2,←y3,←y1,hzk]
            · exact absurd rfl (hn2 k q1)
          refine ⟨?_,t2⟩
          have t1:=t1.1
          simp only [hzk] at t1
          simp only [hsk,κnew k q1]
          exact t1
      · subst e1; subst e2
        obtain ⟨b',c',es,cl,r1,r2,r3⟩:=hro
        exact ⟨b',c',es,cl,g3.trans r1,r2,r3.mono fm⟩
      · subst e1; subst e2
        exact RepArr.atL free g3 hro
    · rw [he]
      rcases kill id with ⟨q1,q2⟩ | ⟨q1,q2⟩
      · rw [q1]; trivial
      · rw [q1]
        by_cases hd:h id=.dead∨h id=.fresh∨h id=.kid
        · rcases hd with hd | hd | hd <;> rw [hd] <;> trivial
        · have n0:h id≠.fresh:=fun e=>hd (.inr (.inl e))
          refine RepObj.ext hext (hκ id n0) (fun b c hp=>?_) (fun n=>?_) (fun n b c hp=>?_) (ok.obj id)
          · by_cases hl:(h id).live=true
            · exact frame id b c hl hp h1 q2
            · have hro:=ok.obj id
              cases ho:h id with
              | ice e t l=>rw [ho] at hro; exact (still b ⟨(hro.2 b c hp).1,(hro.2 b c hp).2.2⟩).2
              | mice ak av tk tv l =>
                rw [ho] at hro
                obtain ⟨b3,c3,es,cl,r1,r2,-⟩:=hro
                rw [hp] at r1; cases r1
                exact (still b ⟨r2.1,r2.2.2⟩).2
              | dead=>exact absurd (.inl ho) hd
              | fresh=>exact absurd ho n0
              | _=>rw [ho] at hl; exact absurd rfl hl
          · have:=hnotkid _ (kn_ge id n)
            exact κoff _ this.1 this.2.2
          · have:=hnotkid _ (kn_ge id n)
            exact frame _ b c (kid_live ok id n) hp this.1 this.2.1
  · rcases live2 i b c hi hpi with ⟨i0,a1,a2,a3⟩ | ⟨a1,a2,a3,a4⟩ <;> rcases live2 j b c' hj hpj with ⟨j0,b1,b2,b3⟩ | ⟨b1,b2,b3,b4⟩
    · have e:=ok'.inj _ _ b c c' a1 b1 a2 b2
      rcases a3 with ⟨p1,p2⟩ | ⟨k,p1,p2,p3⟩ <;> rcases b3 with ⟨q1,q2⟩ | ⟨k',q1,q2,q3⟩
      · rw [←p2,←q2]; exact e
      · exact absurd (by rw [←p2,e,q2,Nat.zero_add]) (hap i p1 k' q1)
      · exact absurd (by rw [←q2,←e,p2,Nat.zero_add]) (hap j q1 k p1)
      · rw [p3,q3,←p2,←q2,e]
    · exact absurd a2 ((ok'.outer b (.inr ⟨j,c',b1,b2,b3,b4⟩)).2 i0 c a1)
    · exact absurd b2 ((ok'.outer b (.inr ⟨i,c,a1,a2,a3,a4⟩)).2 j0 c' b1)
    · exact ok.inj i j b c c' a1 b1 a2 b2
  · rcases live2 i b c hi hp with ⟨i0,a1,a2,_⟩ | ⟨a1,a2,_⟩
    · exact ok'.own i0 b c a1 a2
    · have:=ok.own i b c a1 a2; have:=x.size; omega
  · rcases live2 i b c hl hp with ⟨i0,a1,a2,_⟩ | ⟨a1,a2,_⟩
    · exact (ok'.outer b (.inl hL)).2 i0 c a1 a2
    · exact (ok.outer b hL).2 i c a1 a2
  · have hn:=hnotkid id hid
    have hkd:=ok.kids id hid
    rw [other id (by rw [hkd]; simp) (fun l=>by rw [hkd]; simp) (fun _ _ _ _ l=>by rw [hkd]; simp) (fun _ _ l=>by rw [hkd]; simp)]
    exact hkd
theorem inP_sound {R:Type}:∀ (ps:List PF) (l:List AV) (K:PsDen ps→Option R) (z:R),inP ps l K=some z→∃ x,K x=some z∧l=argsR ps x
  | ps,l,K,z,he=>by
    unfold inP at he
    split at he
    · exact ⟨(),he,rfl⟩
    · rename_i t r t' x l' K
      split at he
      · rename_i y hy
        obtain ⟨ht,hx⟩:=castTy_some hy
        subst ht
        have hx:x=y:=hx
        subst hx
        obtain ⟨ys,h1,h2⟩:=inP_sound r l' _ z he
        exact ⟨(x,ys),h1,by simp [argsR,h2]⟩
      · cases he
    · rename_i id off r id' off' l' K
      obtain ⟨hc,he2⟩:=cond_some he
      rw [Bool.and_eq_true] at hc
      obtain ⟨ys,h1,h2⟩:=inP_sound r l' _ z he2
      exact ⟨ys,h1,by rw [←Nat.eq_of_beq_eq_true hc.1,←Nat.eq_of_beq_eq_true hc.2,h2]; rfl⟩
    · cases he
theorem inRs_sound {R:Type}:∀ (rs:List Ty) (l:List AV) (K:RsDen rs→Option R) (z:R),inRs rs l K=some z→∃ x,K x=some z∧l=resR rs x
  | rs,l,K,z,he=>by
    unfold inRs at he
    split at he
    · exact ⟨(),he,rfl⟩
    · rename_i t r t' x l' K
      split at he
      · rename_i y hy
        obtain ⟨ht,hx⟩:=castTy_some hy
        subst ht
        have hx:x=y:=hx
        subst hx
        obtain ⟨ys,h1,h2⟩:=inRs_sound r l' _ z he
        exact ⟨(x,ys),h1,by simp [resR,h2]⟩
      · cases he
    · cases he
def RecOK (P:Program) (gl:Glob) (ri:RecI) (rec:PsDen ri.ps × OsDen ri.os→Option (RsDen ri.rs × OsDen ri.os)):Prop :=
  ∀ x y r z,rec (x,y)=some (r,z)→∀ (w0:World),GlobOK gl w0→∀ (L:Nat→Prop) κ w (vals:List Value),HeapOK L w0 κ (putR (objsR 0 ri.os y) noHeap) w→vals.length=(argsR ri.ps x).length →
    (∀ (i:Nat) (a:AV) (v:Value),(argsR ri.ps x)[i]? = some a→vals[i]? = some v→RepAV L κ (putR (objsR 0 ri.os y) noHeap) w a v) →
    ∀ m,CallsIn (Fr none) m P ri.f vals.toArray w fun e w'=>∃ v κ',e=.returned v∧HeapOK L w0 κ' (putR (objsR 0 ri.os z) noHeap) w'∧RepAV L κ' (putR (objsR 0 ri.os z) noHeap) w' (resTup (resR ri.rs r)) v ∧
      XR ri.os κ (putR (objsR 0 ri.os y) noHeap) w κ' (putR (objsR 0 ri.os z) noHeap) w'
theorem argsR_get:∀ {ps:List PF} {x:PsDen ps} {i:Nat} {a:AV},(argsR ps x)[i]? = some a→(∃ t v,a=.one (.sc t v))∨∃ id off,a=.one (.ptr id off)∧id∈ptrC ps
  | [],_,i,a,h=>by simp [argsR] at h
  | .v t :: r,x,i,a,h=>by
    cases i with
    | zero=>simp [argsR] at h; exact .inl ⟨t,x.1,h.symm⟩
    | succ i=>exact argsR_get (ps:=r) (x:=x.2) (i:=i) (by simpa [argsR] using h)
  | .ptr id off :: r,x,i,a,h=>by
    cases i with
    | zero=>simp [argsR] at h; exact .inr ⟨id,off,h.symm,by simp [ptrC]⟩
    | succ i =>
      rcases argsR_get (ps:=r) (x:=x) (i:=i) (by simpa [argsR] using h) with h | ⟨id',off',h1,h2⟩
      · exact .inl h
      · exact .inr ⟨id',off',h1,by simp [ptrC,h2]⟩
theorem resTup_sc {L':Nat→Prop} {κ κ':Place} {h h':Heap} {w w':World} (fm:∀ b,Free L' κ h w b→Free L κ' h' w' b∧w'.heap[b]? = w.heap[b]?) {rs:List Ty} {x:RsDen rs} {v:Value} (hr:RepAV L' κ h w (resTup (resR rs x)) v):RepAV L κ' h' w' (resTup (resR rs x)) v:=by
  have all:∀ (rs:List Ty) (x:RsDen rs),∀ a∈resR rs x,∃ t y,a=.one (.sc t y):=by
    intro rs
    induction rs with
    | nil=>intro x a ha; simp [resR] at ha
    | cons t r ih =>
      intro x a ha
      simp only [resR,List.mem_cons] at ha
      rcases ha with rfl | ha
      · exact ⟨t,x.1,rfl⟩
      · exact ih x.2 a ha
  have hall:=all rs x
  generalize resR rs x=l at hr hall
  have one:∀ a∈l,∀ u,RepComp L' κ h w (compOf a) u→RepComp L κ' h' w' (compOf a) u:=fun a ha u hu=>by
    obtain ⟨t,y,rfl⟩:=hall a ha
    exact ⟨hu.1,hu.2.1,RepAt.mono fm t _ y hu.2.2⟩
  have tup:RepAV L' κ h w (.tup (l.map compOf)) v→RepAV L κ' h' w' (.tup (l.map compOf)) v:=fun ⟨vs,h1,h2,h3⟩=>⟨vs,h1,h2,fun i c u hc hu=>by
    have hc2:=hc
    rw [List.getElem?_map] at hc2
    cases ha:l[i]? with
    | none=>rw [ha] at hc2; cases hc2
    | some a =>
      rw [ha] at hc2
      cases hc2
      exact one a (List.mem_of_getElem? ha) u (h3 i _ u hc hu)⟩
  match l,hr,hall,tup with
  | [],hr,_,tup=>exact tup hr
  | [a],hr,hall,_ =>
    obtain ⟨t,y,rfl⟩:=hall a (by simp)
    exact ⟨hr.1,hr.2.1,RepAt.mono fm t _ y hr.2.2⟩
  | _ :: _ :: _,hr,_,tup=>exact tup hr
theorem wfR_spec {ri:RecI} (h:wfR ri=true):(keysR 0 ri.os).Nodup∧(∀ i,i∈statC ri.os∨i∈newC ri.os→i < kidBase)∧(∀ i∈capC ri.os,i∈statC ri.os)∧∀ i∈ptrC ri.ps,i∈statC ri.os:=by
  unfold wfR at h
  simp only [Bool.and_eq_true] at h
  obtain ⟨⟨⟨h1,h2⟩,h3⟩,h4⟩:=h
  refine ⟨nodupB_iff h1,fun i hi=>?_,subB_mem h3,subB_mem h4⟩
  have:=List.all_eq_true.1 h2 i (List.mem_append.2 hi)
  exact Nat.le_of_ble_eq_true this
theorem recCall_ok {gl:Glob} {ri:RecI} {rec:PsDen ri.ps × OsDen ri.os→Option (RsDen ri.rs × OsDen ri.os)} (hrec:RecOK P gl ri rec) (hG:GlobOK gl w0) {args:List AV} {h:Heap} {lo:Nat→Bool} {s:Nat} {R:Type} {K:AV→Heap→Option R} {z:R} (he:recCall ri rec args h lo s R K=some z) :
    ∃ av h',K av h'=some z∧(∀ id,lo id=true→h' id=h id) ∧
    ∀ κ w (vals:List Value),vals.length=args.length→(∀ (i:Nat) (a:AV) (v:Value),args[i]? = some a→vals[i]? = some v→RepAV L κ h w a v)→HeapOK L w0 κ h w →
      ∀ m,CallsIn (Fr none) m P ri.f vals.toArray w fun e w'=>∃ v κ',e=.returned v∧HeapOK L w0 κ' h' w'∧RepAV L κ' h' w' av v∧Ext L κ h w κ' h' w':=by
  unfold recCall at he
  obtain ⟨hwf,he⟩:=cond_some he
  obtain ⟨k1,k2,k3,k4⟩:=wfR_spec hwf
  obtain ⟨x,he,hargs⟩:=inP_sound _ _ _ _ he
  obtain ⟨y,m,he,hk,hw⟩:=inO_sound _ _ _ he
  obtain ⟨hc,he⟩:=cond_some he
  simp only [Bool.and_eq_true] at hc
  obtain ⟨⟨⟨⟨hs,hl1⟩,hl2⟩,hfree⟩,hns⟩:=hc
  have hl1:=noneOf_spec hl1
  have hl2:=noneOf_spec hl2
  have hfree:=freeIds_spec hfree
  have hns:=nodupB_iff hns
  obtain ⟨⟨r,zo⟩,hr,he⟩:=Option.bind_eq_some_iff.1 he
  refine ⟨_,_,he,fun id hid=>?_,fun κ w vals hvl hv ok mm=>?_⟩
  · rw [putR_other _ _ fun p hp e=>?_]
    · unfold killR
      cases hq:memb (sources m) id with
      | false=>rfl
      | true=>rw [hl2 id (memb_iff.1 hq)] at hid; cases hid
    · have hm:id∈keysR s ri.os:=by rw [←keys_objs s ri.os zo,←e]; exact List.mem_map_of_mem hp
      rcases keys_cases.1 hm with hm | ⟨k,hm,hk'⟩
      · rw [hl1 id hm] at hid; cases hid
      · rw [hk',(hfree (s+k) (List.mem_map_of_mem hm)).2] at hid; cases hid
  · obtain ⟨okI,freeI,stillI,liveI,pstI⟩:=inR_ok ok hk hw k1 k2 k3 hs (L':=OutR L κ h ri.os m) (fun b hb=>hb)
    have hky:((objsR 0 ri.os y).map (·.1)).Nodup:=by rw [keys_objs]; exact k1
    refine CallsIn.mono (hrec x y r zo hr w0 hG _ _ w vals okI (by rw [hvl,hargs]) (fun i a v ha hvi=>?_) mm) fun e w' ⟨v,κ',h1,h2,h3,h4⟩=>?_
    · have hrep:=hv i a v (by rw [hargs]; exact ha) hvi
      rcases argsR_get ha with ⟨t,q,rfl⟩ | ⟨id,off,rfl,hid⟩
      · exact ⟨hrep.1,hrep.2.1,RepAt.mono (fun b hb=>⟨freeI b hb,rfl⟩) t _ q hrep.2.2⟩
      · obtain ⟨g1,b,c,g2,g3⟩:=hrep
        have hst:=k4 id hid
        obtain ⟨o,o1,o2⟩:=stat_obj (s:=0) (y:=y) hst
        exact ⟨by rw [putR_mem (p:=(id,o)) _ _ hky o1]; exact o2,b,c,(pstI id hst).trans g2,g3⟩
    · obtain ⟨g1,g2,g3⟩:=outR_ok ok hk hw k1 k2 k3 hs h2 h4 (fun k hk'=>(hfree (s+k) (List.mem_map_of_mem hk')).1) hns
      exact ⟨v,_,h1,g1,resTup_sc (fun b hb=>⟨g3 b hb,rfl⟩) h3,g2⟩
def fixN {α β:Type} (F:(α→Option β)→α→Option β):Nat→α→Option β
  | 0,_=>none
  | n+1,y=>F (fixN F n) y
noncomputable def recTab (T:Tables) (ri:RecI) (rec:PsDen ri.ps × OsDen ri.os→Option (RsDen ri.rs × OsDen ri.os)):Tables:={ T with ov:=fun f=>cond (Nat.beq f ri.f) (some (recCall ri rec)) none }
noncomputable def tabCtx (T:Tables):Ctx:=T.ctx (callOf T 32).ic (callOf T 32).yc
noncomputable def recBody (T:Tables) (ri:RecI) (fn:Func) (an:Ann) (rec:PsDen ri.ps × OsDen ri.os→Option (RsDen ri.rs × OsDen ri.os)) (y:PsDen ri.ps × OsDen ri.os):Option (RsDen ri.rs × OsDen ri.os) :=
  match fn.body with
  | none=>none
  | some c=>cond (wfR ri && Nat.ble (argsR ri.ps y.1).length fn.ntmps)
      (evalCode (tabCtx (recTab T ri rec)) ri.ib c an _ { ρ:=listρ 0 (argsR ri.ps y.1),h:=putR (objsR 0 ri.os y.2) noHeap,lt:=fun _=>false,lo:=fun _=>false,n:=fn.ntmps } fun k st=>match k with
        | .ex _=>none
        | _=>resAV (tabCtx (recTab T ri rec)) st fn.results.toList fun avs=>inRs ri.rs avs fun r=>inO st.h ri.os fun z m=>cond (nodupB (sources m)) (some (r,z)) none) none
structure TabOK (P:Program) (T:Tables):Prop where
  ti:∀ t ti,T.TI t=some ti→ti.OK P t
  sp:∀ f s,T.sp f=some s→FunOK' P T.gl f s
  sr:∀ f,T.srt f=true→Sort1 P f
  sn:∀ f k,T.srn f=some k→SrnOK P f k
  ifc:∀ t,T.ifc t=true→∃ ms,P.underlying t=some (.interface ms)
  me:∀ t n f,T.meth t n=some f→MethOK P t n f
  inl:∀ f,T.inl f=true→∃ fn,P.funcs[f]? = some fn∧fn.body.isSome=true∧(fn.name == "runtime.NumGoroutine")=false
  bd:∀ f ib fn an,T.bd f ib=some (fn,an)→P.funcs[f]? = some fn∧fn.body.isSome=true∧(fn.name == "runtime.NumGoroutine")=false
theorem recTab_ok {T:Tables} (hT:TabOK P T) (hmix:P.follows .mixedOrders=true) {ri:RecI} {rec:PsDen ri.ps × OsDen ri.os→Option (RsDen ri.rs × OsDen ri.os)} (hrec:RecOK P T.gl ri rec) (L:Nat→Prop) (w0:World) (hG:GlobOK T.gl w0):CtxOK P L w0 (tabCtx (recTab T ri rec)):=by
  have h2:=callOf_ok (T:=recTab T ri rec) hT.ti hT.sp hT.sr hT.sn hT.ifc hT.me (fun f g h=>by
    change cond (Nat.beq f ri.f) (some (recCall ri rec)) none=some g at h
    cases hb:Nat.beq f ri.f with
    | false=>rw [hb] at h; cases h
    | true =>
    rw [hb] at h
    cases h
    have h1:=Nat.eq_of_beq_eq_true hb
    subst h1
    exact fun L w0 hG args h lo ib R K z he=>recCall_ok hrec hG he) hT.inl hT.bd hmix 32 L w0 hG
  exact ⟨hT.ti,hT.sp,hG,h2.1,h2.2,hT.sr,hT.sn,hT.ifc,hT.me⟩
theorem recBody_ok {T:Tables} (hT:TabOK P T) (hmix:P.follows .mixedOrders=true) {ri:RecI} {fn:Func} (hfn:P.funcs[ri.f]? = some fn) {an:Ann} {rec:PsDen ri.ps × OsDen ri.os→Option (RsDen ri.rs × OsDen ri.os)} (hrec:RecOK P T.gl ri rec):RecOK P T.gl ri (recBody T ri fn an rec):=by
  intro x y r z he w0 hG L κ w vals ok hvl hv mm
  have hC:=recTab_ok hT hmix hrec L w0 hG
  unfold recBody at he
  split at he
  · cases he
  · rename_i c hc
    obtain ⟨hcc,he⟩:=cond_some he
    rw [Bool.and_eq_true] at hcc
    obtain ⟨hwf,hn⟩:=hcc
    obtain ⟨k1,k2,k3,k4⟩:=wfR_spec hwf
    have hn:=Nat.le_of_ble_eq_true hn
    obtain ⟨k,st',hk,sl,hrun⟩:=evalCode_sound hC hmix ri.ib c an _ _ _ _ he
    refine callsIn_of_wp_marks hfn hc trivial ?_
    refine hrun w.heap.size none mm κ _ w _ (list_sim hvl hv ok hn) fun κ1 a' w1 sim ext lk=>?_
    have main:(resAV (tabCtx (recTab T ri rec)) st' fn.results.toList fun avs=>inRs ri.rs avs fun r=>inO st'.h ri.os fun z m=>cond (nodupB (sources m)) (some (r,z)) none)=some (r,z)→LeavesInM (Fr none) mm P fn a'.tmps (fun e w'=>∃ v κ',e=.returned v∧HeapOK L w0 κ' (putR (objsR 0 ri.os z) noHeap) w'∧RepAV L κ' (putR (objsR 0 ri.os z) noHeap) w' (resTup (resR ri.rs r)) v∧XR ri.os κ (putR (objsR 0 ri.os y) noHeap) w κ' (putR (objsR 0 ri.os z) noHeap) w') a'.defers .returning w1:=fun hres=>by
      obtain ⟨avs,h1,h2⟩:=resAV_sound (P:=P) (L:=L) (w0:=w0) (fun t ti h=>hC.ti t ti h) fn.results.toList _ _ hres
      obtain ⟨r',h1,havs⟩:=inRs_sound _ _ _ _ h1
      obtain ⟨z',m,h1,hk',hw⟩:=inO_sound _ _ _ h1
      obtain ⟨hs,h1⟩:=cond_some h1
      cases h1
      obtain ⟨w',okE,avE,szE,loE,leave⟩:=leave_marks (P:=P) (fn:=fn) (tmps:=a'.tmps) (m:=mm) (R:=fun e w'=>∃ v κ',e=.returned v∧HeapOK L w0 κ' (putR (objsR 0 ri.os z) noHeap) w'∧RepAV L κ' (putR (objsR 0 ri.os z) noHeap) w' (resTup (resR ri.rs r)) v∧XR ri.os κ (putR (objsR 0 ri.os y) noHeap) w κ' (putR (objsR 0 ri.os z) noHeap) w') ok.below.size a'.defers w1 sim.defs sim.heap
      obtain ⟨vals',g1,g2,g3,g4⟩:=h2 κ1 a' w' (fun t=>avE _ _ (sim.env t)) okE
      obtain ⟨okI,freeI,stillI,liveI,pstI⟩:=inR_ok okE hk' hw k1 k2 k3 hs (L':=L) (fun b hb=>.inl hb)
      refine leave ⟨_,results_run g1,_,_,rfl,okI,?_,?_⟩
      · refine resTup_sc (fun b hb=>⟨freeI b hb,rfl⟩) (resTup_rep (κ:=κ1) (h:=st'.h) (by rw [g2,havs]) ?_ (by rw [←havs]; exact g4))
        have all:∀ (rs:List Ty) (x:RsDen rs),(resR rs x).all notTup=true:=by
          intro rs
          induction rs with
          | nil=>intro x; rfl
          | cons t r ih=>intro x; simp only [resR,List.all_cons,notTup,Bool.true_and]; exact ih x.2
        exact all _ _
      · have hky:((objsR 0 ri.os y).map (·.1)).Nodup:=by rw [keys_objs]; exact k1
        refine ⟨fun i hi=>?_,fun b hb=>?_,by rw [szE]; exact ext.size,fun b r hr=>?_,fun b hr=>(loE b (Array.getElem?_eq_some_iff.1 hr).1).trans (ext.defs b hr)⟩
        · obtain ⟨o,o1,o2⟩:=stat_obj (s:=0) (y:=y) hi
          rw [pstI i hi]
          exact ext.place i (by show (putR (objsR 0 ri.os y) noHeap i).Held; rw [putR_mem (p:=(i,o)) _ _ hky o1]; exact o2)
        · obtain ⟨f1,f2⟩:=ext.still b hb
          exact ⟨stillI b ⟨by rw [szE]; exact f1.1,f1.2⟩,(loE b hb.1).trans f2⟩
        · obtain ⟨r',hr'⟩:=ext.loops b r hr
          exact ⟨r',(loE b (Array.getElem?_eq_some_iff.1 hr).1).trans hr'⟩
    cases k with
    | nrm=>exact main hk
    | ret=>exact main hk
    | ex i=>cases hk
theorem fixN_ok {T:Tables} (hT:TabOK P T) (hmix:P.follows .mixedOrders=true) {ri:RecI} {fn:Func} (hfn:P.funcs[ri.f]? = some fn) {an:Ann}:∀ n,RecOK P T.gl ri (fixN (recBody T ri fn an) n)
  | 0=>fun x y r z he=>by cases he
  | n+1=>fun x y r z he=>recBody_ok hT hmix hfn (fixN_ok hT hmix hfn n) x y r z he
noncomputable def mkCtxR (ti:List (Nat × TInfo)) (sp:List (Nat × Spec)) (bd:Bodies) (rd:Rounds) (gl:List (Nat × (IntKind × Nat × List Int))) (pu:List Nat) (nb:List (Nat × Nat)) (sr:List Nat) (sn:List (Nat × Nat)) (ifs:List Nat) (ms:List (Nat × (String × Nat))) (dp:List (Nat × KTy)) (fz:List (Nat × List Nat)) (ri:RecI) (fn:Func) (an:Ann):Ctx :=
  tabCtx (recTab (mkTab ti sp bd rd gl pu nb sr sn ifs ms dp fz) ri (fixN (recBody (mkTab ti sp bd rd gl pu nb sr sn ifs ms dp fz) ri fn an) ri.fuel))
theorem mkCtxR_ok {ti:List (Nat × TInfo)} {sp:List (Nat × Spec)} {bd:Bodies} {rd:Rounds} {gl:List (Nat × (IntKind × Nat × List Int))} {pu:List Nat} {nb:List (Nat × Nat)} {sr:List Nat} {sn:List (Nat × Nat)} {ifs:List Nat} {ms:List (Nat × (String × Nat))} {dp:List (Nat × KTy)} {fz:List (Nat × List Nat)} {ri:RecI} {fn:Func} {an:Ann} (hmix:P.follows .mixedOrders=true) (hti:tiTable P (ti.map (·.1))=ti.map fun p=>(p.1,some p.2)) (hsp:∀ p∈sp,FunOK' P (look gl) p.1 p.2)
    (hbd:∀ p∈bd,BodyOK P p.1 p.2.2.1) (hsr:∀ f∈sr,Sort1 P f) (hsn:∀ p∈sn,SrnOK P p.1 p.2) (hif:∀ t∈ifs,∃ l,P.underlying t=some (.interface l)) (hms:∀ p∈ms,MethOK P p.1 p.2.1 p.2.2) (hfn:BodyOK P ri.f fn):∀ L w0,GlobOK (look gl) w0→CtxOK P L w0 (mkCtxR ti sp bd rd gl pu nb sr sn ifs ms dp fz ri fn an):=fun L w0 hG =>
  have h1:∀ t i,look ti t=some i→i.OK P t:=fun t i h=>by
      have hm:=look_mem h
      have h2:(t,some i)∈tiTable P (ti.map (·.1)):=by rw [hti]; exact List.mem_map.2 ⟨(t,i),hm,rfl⟩
      unfold tiTable at h2
      obtain ⟨u,_,hu⟩:=List.mem_map.1 h2
      simp only [Prod.mk.injEq] at hu
      obtain ⟨rfl,hu⟩:=hu
      exact tinfo_ok hu
  have hT:TabOK P (mkTab ti sp bd rd gl pu nb sr sn ifs ms dp fz):=⟨h1,fun f s h=>hsp (f,s) (look_mem h),fun f h=>hsr f (memb_iff.1 h),fun f k h=>hsn (f,k) (look_mem h),fun t h=>hif t (memb_iff.1 h),fun t n f h=>hms (t,(n,f)) (methOf_mem h),fun f h=>by
        cases hb:look bd f with
        | none=>change (look bd f).isSome=true at h; rw [hb] at h; cases h
        | some p=>exact ⟨p.2.1,hbd (f,p) (look_mem hb)⟩,fun f ib fn an h=>by
        obtain ⟨b,hb⟩:=look2_mem h
        exact hbd _ hb⟩
  recTab_ok hT hmix (fixN_ok hT hmix hfn.1 ri.fuel) L w0 hG
end Go.Abs
