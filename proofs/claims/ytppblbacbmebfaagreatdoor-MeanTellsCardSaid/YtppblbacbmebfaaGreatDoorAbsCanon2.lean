/- The engine, part 16: a state may be taken for its fixed form. -/
import Derived.Test.YtppblbacbmebfaaGreatDoorAbsCanon
namespace Go.Abs
open Go Go.RowKit
variable {P:Program} {L:Nat->Prop} {w0:World}
def z5b (m:List (Nat×Option Nat)) (gone:List Nat) (h:Heap) (s s':SV):Prop :=
 (∃ t x,s'=.sc t x/\X1 m gone h t s=some x/\t.size=1)\/(∃ id,s'=.own id/\z4o m gone id s=true)\/(∃ id j,((s'=.ptr id 0/\s=.ptr j 0)\/(s'=.mp id/\s=.mp j))/\B9 id m=some (some j))\/((s'=.nilp/\s=.nilp)\/(s'=.mpn/\s=.mpn))\/(∃ id a b,s'=.sub id a b/\s=.sub id a b/\B9 id m=none/\id∉gone)\/(∃ id,s'=.mp id/\s=.mp id/\B9 id m=none/\id∉gone)
def q6b (m:List (Nat×Option Nat)) (gone:List Nat) (h:Heap) (cs:List CI) (y:q14 cs) (ls:List SV):Prop :=
 ls.length=(M8 cs y).length/\∀ (i:Nat) (s':SV),(M8 cs y)[i]? = some s'->∃ s,ls[i]? = some s/\z5b m gone h s s'
theorem z6j {m:List (Nat×Option Nat)} {c:List Nat} {h:Heap} {t:Ty} {s:SV} {x:t.den} (f:X1 m c h t s=some x):t.size=1/\((∃ z,s=.sc t z/\z=x)\/(∃ e,t=.list e/\s=.nils/\HEq x ([]:List e.den)) \/
  (∃ e,∃ l:List e.den,t=.list e/\HEq x l/\B7 h e s=some l/\(∀ id∈G9 s,q0z m c h id=true)/\((∃ id,s=.own id)\/∃ id a b,s=.sub id a b)) \/
  ∃ j g k v,∃ l:List (Ty.den k×Ty.den v),t=.map j g k v/\HEq x l/\O1 h j g k v s=some l/\(∀ id∈G9 s,q0z m c h id=true)/\(s=.mpn\/∃ id,s=.mp id)):=by
 cases s with
 | sc p z =>
  grind[X1,H2,Nat.eq_of_beq_eq_true]
 | nils =>
  cases t with
  | list e=>simp[X1,Option.some.injEq]at f;subst f;exact⟨rfl,.inr (.inl ⟨e,rfl,rfl,HEq.rfl⟩)⟩
  | _=>grind[X1]
 | own id =>
  cases t with
  | list e =>
   obtain⟨n,d⟩:=A8 f
   exact⟨rfl,.inr (.inr (.inl ⟨e,x,rfl,HEq.rfl,d,fun i o=>by grind[G9],.inl ⟨id,rfl⟩⟩))⟩
  | _=>grind[X1]
 | sub id a b =>
  cases t with
  | list e =>
   obtain⟨n,d⟩:=A8 f
   exact⟨rfl,.inr (.inr (.inl ⟨e,x,rfl,HEq.rfl,d,fun i o=>by grind[G9],.inr ⟨id,a,b,rfl⟩⟩))⟩
  | _=>grind[X1]
 | mp id =>
  cases t with
  | map j g k v =>
   obtain⟨n,d⟩:=A8 f
   exact⟨rfl,.inr (.inr (.inr ⟨j,g,k,v,x,rfl,HEq.rfl,d,fun i o=>by grind[G9],.inr ⟨id,rfl⟩⟩))⟩
  | _=>grind[X1]
 | _=>grind[X1]
def Ty.one:Ty->Bool
 | .int _ | .bool | .list _ | .map _ _ _ _=>true
 | _=>false
theorem q72 {R:Type} {m:List (Nat×Option Nat)} {d:List Nat} {h:Heap}:∀ (cs:List CI) (ls:List SV) (K:q14 cs->Option R) (z:R),exC m d h cs ls K=some z ->
  ∃ y,K y=some z/\q6b m d h cs y ls
 | [],[],K,z,b=>⟨(),b,rfl,fun i f c=>by grind[M8]⟩
 | [],_::_,_,_,b=>by grind[exC]
 | .v _::_,[],_,_,b=>by grind[exC]
 | .o _::_,[],_,_,b=>by grind[exC]
 | .m _::_,[],_,_,b=>by grind[exC]
 | .v t::r,s::l,K,z,b=>by
  simp[exC]at b
  split at b
  ·rename_i x n
   obtain⟨y,j,g,k⟩:=q72 r l _ z b
   refine⟨(x,y),j,by simp[M8,g],fun i f c=>?_⟩
   cases i with
   | zero =>
    simp[M8]at c;subst c
    exact⟨s,rfl,.inl ⟨t,x,rfl,n,(z6j n).1⟩⟩
   | succ i=>exact k i f c
  ·cases b
 | .o id::r,s::l,K,z,b=>by
  obtain⟨a,b⟩:=A8 b
  obtain⟨y,j,g,k⟩:=q72 r l _ z b
  refine⟨y,j,by simp[M8,g],fun i f c=>?_⟩
  cases i with
  | zero=>simp[M8]at c;subst c;exact⟨s,rfl,.inr (.inl ⟨id,rfl,a⟩)⟩
  | succ i=>exact k i f c
 | .m id::r,s::l,K,z,b=>by
  obtain⟨a,b⟩:=A8 b
  obtain⟨y,j,g,k⟩:=q72 r l _ z b
  refine⟨y,j,by simp[M8,g],fun i f c=>?_⟩
  cases i with
  | zero =>
   simp[M8]at c;subst c
   unfold j8a at a
   split at a
   ·rename_i p
    simp only[Bool.and_eq_true,Bool.not_eq_true']at a
    have e:=Nat.eq_of_beq_eq_true a.1
    subst e
    exact⟨_,rfl,.inr (.inr (.inr (.inr (.inr ⟨_,rfl,rfl,p,fun q=>by rw[memb_iff.2 q]at a;exact absurd a.2 (by simp)⟩))))⟩
   ·cases a
  | succ i=>exact k i f c
theorem XK.beq_eq {a b:XK} (h:XK.beq a b=true):a=b:=by
 cases a<;>cases b<;>first | rfl | cases h | (rw[Nat.eq_of_beq_eq_true h])
theorem RS.beq_eq {a b:RS} (h:RS.beq a b=true):a=b:=by
 cases a<;>cases b<;>first | rfl | cases h | (rw[XK.beq_eq h])
def AObj.pure0:AObj->Prop
 | .arr .. | .mapo .. | .iter .. | .arrK _ _ _ _ _ _ none=>True
 | _=>False
def AObj.pure:AObj->Prop
 | .arr .. | .mapo .. | .iter .. | .arrD _ _ _ none | .mapD _ _ _ _ none | .arrK _ _ _ _ _ _ none=>True
 | _=>False
def HSpec (m:List (Nat×Option Nat)) (gone:List Nat) (h:Heap) (l:List LI) (o base:AObj) (id:Nat):Prop :=
 (o=base/\id∉G0 l/\id∉D9 l) \/
 (o.pure/\((id∈G0 l/\((∃ j,B9 id m=some (some j)/\h j=o/\o.pure0)\/(B9 id m=some none/\∃ e t,o=.arr e t [])))\/(id∈D9 l/\h id=o))) \/
 (∃ cs yc ls,id∈D9 l/\o=.cells (M8 cs yc)/\h id=.cells ls/\q6b m gone h cs yc ls) \/
 (∃ i s,id∈D9 l/\o=j8w base s/\h id=.lrec i s) \/
 ∃ cs yc ls j,id∈G0 l/\o=.cells (M8 cs yc)/\B9 id m=some (some j)/\h j=.cells ls/\q6b m gone h cs yc ls
theorem HSpec.cons {m:List (Nat×Option Nat)} {d:List Nat} {h:Heap} {i:LI} {l:List LI} {o e:AObj} {id:Nat} (hs:HSpec m d h l o e id) (h1:id∈G0 (i::l)->id∈G0 l) (t:id∈D9 (i::l)->id∈D9 l)
  (q:id∈G0 l->id∈G0 (i::l)) (p:id∈D9 l->id∈D9 (i::l)):HSpec m d h (i::l) o e id:=by
 rcases hs with⟨a,b,c⟩ | ⟨a,b⟩ | ⟨k,g,n,a,b⟩ | ⟨r,s,a,b⟩ | ⟨k,g,n,j,a,b⟩
 ·exact .inl ⟨a,fun f=>b (h1 f),fun f=>c (t f)⟩
 ·refine .inr (.inl ⟨a,?_⟩)
  grind
 ·exact .inr (.inr (.inl ⟨k,g,n,p a,b⟩))
 ·exact .inr (.inr (.inr (.inl ⟨r,s,p a,b⟩)))
 ·exact .inr (.inr (.inr (.inr ⟨k,g,n,j,q a,b⟩)))
theorem z9x {R:Type} {h:Heap} {id:Nat} {c av:Bool} {b a:Ty} {K:List (b.den×a.den)->Option R} {z:R} (d:q7x h id c av b a K=some z):∃ x,h id=.mapo c av b a x/\K x=some z:=by
 grind[q7x,H2]
theorem y7f {R:Type} {h:Heap} {id:Nat} {d av:Bool} {b a:Ty} {K:List (b.den×a.den)->Option (b.den×a.den)->Option R} {z:R} (e:z9j h id d av b a K=some z):∃ x c,h id=.iter d av b a x c/\K x c=some z:=by
 grind[z9j,H2]
theorem j2x {R:Type} {h:Heap} {id:Nat} {e:TypeId} {t:Ty} {c:Nat} {a:KTy} {K:List t.den->List a.den->Option R} {z:R} (b:z01 h id e t c a K=some z):∃ x d,h id=.arrK e t c a x d none/\K x d=some z:=by
 unfold z01 at b
 split at b
 ·split at b
  all_goals grind[Nat.eq_of_beq_eq_true]
 grind
theorem y35 {R:Type} {h:Heap} {id:Nat} {e:TypeId} {t:KTy} {K:List t.den->Option R} {z:R} (a:z5l h id e t K=some z):∃ x,h id=.arrD e t x none/\K x=some z:=by
 unfold z5l at a
 split at a
 ·split at a
  all_goals grind[Nat.eq_of_beq_eq_true]
 grind
theorem y8d {R:Type} {h:Heap} {id:Nat} {c:Bool} {a:Ty} {t:KTy} {K:List (a.den×t.den)->Option R} {z:R} (b:z9w h id c a t K=some z):∃ x,h id=.mapD c a t x none/\K x=some z:=by
 unfold z9w at b
 split at b
 ·split at b
  all_goals grind
 grind
theorem L2 {R:Type} {m:List (Nat×Option Nat)} {C:List Nat} {ρ:Env} {h:Heap} :
  ∀ (l:List LI) (K:D5 l->Option R) (z:R),exI m C ρ h l K=some z ->
  ∃ y,K y=some z/\(∀ g id,HSpec m C h l (C6 l y g id) (g id) id) /\
   ∀ q t,(G1 l y q t=q t/\t∉F4 l)\/(t∈F4 l/\∃ s s',ρ t=.one s/\G1 l y q t=.one s'/\z5b m C h s s')
 | [],K,z,d=>⟨(),d,fun g id=>.inl ⟨rfl,by simp[G0],by simp[D9]⟩,fun q t=>.inl ⟨rfl,by simp[F4]⟩⟩
 | .tmp s t::r,K,z,d=>by
  simp[exI]at d
  split at d
  ·rename_i v F
   split at d
   ·rename_i x B
    obtain⟨y,p,k,n⟩:=L2 r _ z d
    refine⟨(x,y),p,fun g id=>(k g id).cons (fun h=>h) (fun h=>h) (fun h=>h) (fun h=>h),fun q u=>?_⟩
    simp only[G1]
    by_cases w:u=s
    ·subst w
     rw[A1]
     exact .inr ⟨by simp[F4],v,_,F,rfl,.inl ⟨t,x,rfl,B,(z6j B).1⟩⟩
    ·rw[A0 _ _ w]
     rcases n q u with⟨a,b⟩ | ⟨a,b⟩
     ·exact .inl ⟨a,by simp[F4,w,b]⟩
     ·exact .inr ⟨by simp[F4,a],b⟩
   ·cases d
  ·cases d
 | .own s id::r,K,z,d=>by
  simp[exI]at d
  split at d
  ·rename_i v F
   obtain⟨hsr,d⟩:=A8 d
   obtain⟨y,p,k,n⟩:=L2 r _ z d
   refine⟨y,p,fun g id=>(k g id).cons (fun h=>h) (fun h=>h) (fun h=>h) (fun h=>h),fun q u=>?_⟩
   simp only[G1]
   by_cases w:u=s
   ·subst w
    rw[A1]
    exact .inr ⟨by simp[F4],v,_,F,rfl,.inr (.inl ⟨id,rfl,hsr⟩)⟩
   ·rw[A0 _ _ w]
    rcases n q u with⟨a,b⟩ | ⟨a,b⟩
    ·exact .inl ⟨a,by simp[F4,w,b]⟩
    ·exact .inr ⟨by simp[F4,a],b⟩
  ·cases d
 | .arr id e t W::r,K,z,d=>by
  simp[exI]at d
  have X:∀ (x:List t.den) (y:D5 r),(∀ g i,HSpec m C h r (C6 r y g i) (g i) i)->((∃ j,B9 id m=some (some j)/\h j=.arr e t x)\/(B9 id m=some none/\x=[])) ->
    ∀ g i,HSpec m C h (.arr id e t W::r) (C6 (.arr id e t W::r) (x,y) g i) (g i) i:=by
   intro x y k B g i
   simp[C6]
   by_cases f:i=id
   ·subst f;rw[A1]
    refine .inr (.inl ⟨trivial,.inl ⟨by simp[G0],?_⟩⟩)
    rcases B with⟨j,hx1,hx2⟩ | ⟨B,rfl⟩
    ·exact .inl ⟨j,hx1,hx2,trivial⟩
    ·exact .inr ⟨B,e,t,rfl⟩
   ·rw[A0 _ _ f]
    exact(k g i).cons (fun h=>by simpa[G0,f]using h) (fun h=>h) (fun h=>by simp[G0,h]) (fun h=>h)
  split at d
  ·rename_i j G
   split at d
   ·rename_i e' t' x B
    split at d
    ·rename_i N O
     obtain⟨E,D⟩:=A8 d
     have E:=Nat.eq_of_beq_eq_true E
     obtain⟨S,I⟩:=H2 O
     cases S
     change x=N at I
     subst I;subst E
     obtain⟨y,p,k,n⟩:=L2 r _ z D
     exact⟨(x,y),p,X x y k (.inl ⟨j,G,B⟩),n⟩
    ·cases d
   ·cases d
  ·rename_i G
   obtain⟨y,p,k,n⟩:=L2 r _ z d
   exact⟨([],y),p,X [] y k (.inr ⟨G,rfl⟩),n⟩
  ·cases d
 | .arrS id e t::r,K,z,d=>by
  simp[exI]at d
  split at d
  ·rename_i e' t' x B
   split at d
   ·rename_i N O
    obtain⟨E,D⟩:=A8 d
    have E:=Nat.eq_of_beq_eq_true E
    obtain⟨S,I⟩:=H2 O
    cases S
    change x=N at I
    subst I;subst E
    obtain⟨y,p,k,n⟩:=L2 r _ z D
    refine⟨(x,y),p,fun g i=>?_,n⟩
    simp[C6]
    by_cases f:i=id
    ·subst f;rw[A1]
     exact .inr (.inl ⟨trivial,.inr ⟨by simp[D9],B⟩⟩)
    ·rw[A0 _ _ f]
     exact(k g i).cons (fun h=>h) (fun h=>by simpa[D9,f]using h) (fun h=>h) (fun h=>by simp[D9,h])
   ·cases d
  ·cases d
 | .cel id T::r,K,z,d=>by
  simp[exI]at d
  split at d
  ·rename_i Y H
   obtain⟨U,J,Q⟩:=q72 T Y _ z d
   obtain⟨y,p,k,n⟩:=L2 r _ z J
   refine⟨(U,y),p,fun g i=>?_,n⟩
   simp[C6]
   by_cases f:i=id
   ·subst f;rw[A1]
    exact .inr (.inr (.inl ⟨T,U,Y,by simp[D9],rfl,H,Q⟩))
   ·rw[A0 _ _ f]
    exact(k g i).cons (fun h=>h) (fun h=>by simpa[D9,f]using h) (fun h=>h) (fun h=>by simp[D9,h])
  ·cases d
 | .rng id s::r,K,z,d=>by
  simp[exI]at d
  split at d
  ·rename_i ri s' H
   obtain⟨A,d⟩:=A8 d
   have A:=RS.beq_eq A
   subst A
   obtain⟨y,p,k,n⟩:=L2 r _ z d
   refine⟨y,p,fun g i=>?_,n⟩
   simp[C6]
   by_cases f:i=id
   ·subst f;rw[A1]
    exact .inr (.inr (.inr (.inl ⟨ri,_,by simp[D9],rfl,H⟩)))
   ·rw[A0 _ _ f]
    exact(k g i).cons (fun h=>h) (fun h=>by simpa[D9,f]using h) (fun h=>h) (fun h=>by simp[D9,h])
  ·cases d
 | .ptr s id::r,K,z,d=>by
  simp[exI]at d
  split at d
  ·rename_i j o j' F G
   obtain⟨A,D⟩:=A8 d
   rw[Bool.and_eq_true]at A
   have ho:=Nat.eq_of_beq_eq_true A.1
   have M:=Nat.eq_of_beq_eq_true A.2
   subst ho;subst M
   obtain⟨y,p,k,n⟩:=L2 r _ z D
   refine⟨y,p,fun g id=>(k g id).cons (fun h=>h) (fun h=>h) (fun h=>h) (fun h=>h),fun q u=>?_⟩
   simp only[G1]
   by_cases w:u=s
   ·subst w
    rw[A1]
    exact .inr ⟨by simp[F4],_,_,F,rfl,.inr (.inr (.inl ⟨id,_,.inl ⟨rfl,rfl⟩,G⟩))⟩
   ·rw[A0 _ _ w]
    rcases n q u with⟨a,b⟩ | ⟨a,b⟩
    ·exact .inl ⟨a,by simp[F4,w,b]⟩
    ·exact .inr ⟨by simp[F4,a],b⟩
  ·cases d
 | .celN id T V::r,K,z,d=>by
  simp[exI]at d
  split at d
  ·rename_i j G
   split at d
   ·rename_i Y H
    obtain⟨U,J,Q⟩:=q72 T Y _ z d
    obtain⟨y,p,k,n⟩:=L2 r _ z J
    refine⟨(U,y),p,fun g i=>?_,n⟩
    simp[C6]
    by_cases f:i=id
    ·subst f;rw[A1]
     exact .inr (.inr (.inr (.inr ⟨T,U,Y,j,by simp[G0],rfl,G,H,Q⟩)))
    ·rw[A0 _ _ f]
     exact(k g i).cons (fun h=>by simpa[G0,f]using h) (fun h=>h) (fun h=>by simp[G0,h]) (fun h=>h)
   ·cases d
  ·cases d
 | .mapS id ak av tk tv::r,K,z,d=>by
  simp[exI]at d
  obtain⟨x,B,d⟩:=z9x d
  obtain⟨y,p,k,n⟩:=L2 r _ z d
  refine⟨(x,y),p,fun g i=>?_,n⟩
  simp[C6]
  by_cases f:i=id
  ·subst f;rw[A1]
   exact .inr (.inl ⟨trivial,.inr ⟨by simp[D9],B⟩⟩)
  ·rw[A0 _ _ f]
   exact(k g i).cons (fun h=>h) (fun h=>by simpa[D9,f]using h) (fun h=>h) (fun h=>by simp[D9,h])
 | .mpt s id::r,K,z,d=>by
  simp[exI]at d
  split at d
  ·rename_i j j' F G
   obtain⟨A,D⟩:=A8 d
   have M:=Nat.eq_of_beq_eq_true A
   subst M
   obtain⟨y,p,k,n⟩:=L2 r _ z D
   refine⟨y,p,fun g id=>(k g id).cons (fun h=>h) (fun h=>h) (fun h=>h) (fun h=>h),fun q u=>?_⟩
   simp only[G1]
   by_cases w:u=s
   ·subst w
    rw[A1]
    exact .inr ⟨by simp[F4],_,_,F,rfl,.inr (.inr (.inl ⟨id,_,.inr ⟨rfl,rfl⟩,G⟩))⟩
   ·rw[A0 _ _ w]
    rcases n q u with⟨a,b⟩ | ⟨a,b⟩
    ·exact .inl ⟨a,by simp[F4,w,b]⟩
    ·exact .inr ⟨by simp[F4,a],b⟩
  ·cases d
 | .mapN id ak av tk tv V::r,K,z,d=>by
  simp only[exI]at d
  split at d
  ·rename_i j G
   obtain⟨x,B,d⟩:=z9x d
   obtain⟨y,p,k,n⟩:=L2 r _ z d
   refine⟨(x,y),p,fun g i=>?_,n⟩
   simp only[C6]
   by_cases f:i=id
   ·subst f;rw[A1]
    exact .inr (.inl ⟨trivial,.inl ⟨by simp[G0],.inl ⟨j,G,B,trivial⟩⟩⟩)
   ·rw[A0 _ _ f]
    exact(k g i).cons (fun h=>by simpa[G0,f]using h) (fun h=>h) (fun h=>by simp[G0,h]) (fun h=>h)
  ·cases d
 | .nlp s::r,K,z,d=>by
  simp only[exI]at d
  split at d
  ·rename_i F
   obtain⟨y,p,k,n⟩:=L2 r _ z d
   refine⟨y,p,fun g id=>(k g id).cons (fun h=>h) (fun h=>h) (fun h=>h) (fun h=>h),fun q u=>?_⟩
   simp only[G1]
   by_cases w:u=s
   ·subst w
    rw[A1]
    exact .inr ⟨by simp[F4],_,_,F,rfl,.inr (.inr (.inr (.inl (.inl ⟨rfl,rfl⟩))))⟩
   ·rw[A0 _ _ w]
    rcases n q u with⟨a,b⟩ | ⟨a,b⟩
    ·exact .inl ⟨a,by simp[F4,w,b]⟩
    ·exact .inr ⟨by simp[F4,a],b⟩
  ·cases d
 | .nlm s::r,K,z,d=>by
  simp only[exI]at d
  split at d
  ·rename_i F
   obtain⟨y,p,k,n⟩:=L2 r _ z d
   refine⟨y,p,fun g id=>(k g id).cons (fun h=>h) (fun h=>h) (fun h=>h) (fun h=>h),fun q u=>?_⟩
   simp only[G1]
   by_cases w:u=s
   ·subst w
    rw[A1]
    exact .inr ⟨by simp[F4],_,_,F,rfl,.inr (.inr (.inr (.inl (.inr ⟨rfl,rfl⟩))))⟩
   ·rw[A0 _ _ w]
    rcases n q u with⟨a,b⟩ | ⟨a,b⟩
    ·exact .inl ⟨a,by simp[F4,w,b]⟩
    ·exact .inr ⟨by simp[F4,a],b⟩
  ·cases d
 | .subS s id::r,K,z,d=>by
  simp only[exI]at d
  split at d
  ·rename_i i a b F hl
   obtain⟨A,D⟩:=A8 d
   rw[Bool.and_eq_true]at A
   have hii:=Nat.eq_of_beq_eq_true A.1
   subst hii
   have Z:i∉C:=fun h=>by have h3:=A.2;rw[memb_iff.2 h]at h3;cases h3
   obtain⟨y,p,k,n⟩:=L2 r _ z D
   refine⟨(a,b,y),p,fun g id=>(k g id).cons (fun h=>h) (fun h=>h) (fun h=>h) (fun h=>h),fun q u=>?_⟩
   simp only[G1]
   by_cases w:u=s
   ·subst w
    rw[A1]
    exact .inr ⟨by simp[F4],_,_,F,rfl,.inr (.inr (.inr (.inr (.inl ⟨i,a,b,rfl,rfl,hl,Z⟩))))⟩
   ·rw[A0 _ _ w]
    rcases n q u with⟨a,b⟩ | ⟨a,b⟩
    ·exact .inl ⟨a,by simp[F4,w,b]⟩
    ·exact .inr ⟨by simp[F4,a],b⟩
  ·cases d
 | .itr id ak av tk tv::r,K,z,d=>by
  simp only[exI]at d
  obtain⟨x,c,B,d⟩:=y7f d
  obtain⟨y,p,k,n⟩:=L2 r _ z d
  refine⟨(x,c,y),p,fun g i=>?_,n⟩
  simp only[C6]
  by_cases f:i=id
  ·subst f;rw[A1]
   exact .inr (.inl ⟨trivial,.inr ⟨by simp[D9],B⟩⟩)
  ·rw[A0 _ _ f]
   exact(k g i).cons (fun h=>h) (fun h=>by simpa[D9,f]using h) (fun h=>h) (fun h=>by simp[D9,h])
 | .arrDS id e t::r,K,z,d=>by
  simp only[exI]at d
  obtain⟨x,B,d⟩:=y35 d
  obtain⟨y,p,k,n⟩:=L2 r _ z d
  refine⟨(x,y),p,fun g i=>?_,n⟩
  simp only[C6]
  by_cases f:i=id
  ·subst f;rw[A1]
   exact .inr (.inl ⟨trivial,.inr ⟨by simp[D9],B⟩⟩)
  ·rw[A0 _ _ f]
   exact(k g i).cons (fun h=>h) (fun h=>by simpa[D9,f]using h) (fun h=>h) (fun h=>by simp[D9,h])
 | .mapDS id ak tk t::r,K,z,d=>by
  simp only[exI]at d
  obtain⟨x,B,d⟩:=y8d d
  obtain⟨y,p,k,n⟩:=L2 r _ z d
  refine⟨(x,y),p,fun g i=>?_,n⟩
  simp only[C6]
  by_cases f:i=id
  ·subst f;rw[A1]
   exact .inr (.inl ⟨trivial,.inr ⟨by simp[D9],B⟩⟩)
  ·rw[A0 _ _ f]
   exact(k g i).cons (fun h=>h) (fun h=>by simpa[D9,f]using h) (fun h=>h) (fun h=>by simp[D9,h])
 | .arrKN id e t c t1 _::r,K,z,d=>by
  simp only[exI]at d
  split at d
  ·rename_i j G
   obtain⟨x,N,B,d⟩:=j2x d
   obtain⟨y,p,k,n⟩:=L2 r _ z d
   refine⟨(x,N,y),p,fun g i=>?_,n⟩
   simp only[C6]
   by_cases f:i=id
   ·subst f;rw[A1]
    exact .inr (.inl ⟨trivial,.inl ⟨by simp[G0],.inl ⟨j,G,B,trivial⟩⟩⟩)
   ·rw[A0 _ _ f]
    exact(k g i).cons (fun h=>by simpa[G0,f]using h) (fun h=>h) (fun h=>by simp[G0,h]) (fun h=>h)
  ·cases d
 | .arrKS id e t c t1::r,K,z,d=>by
  obtain⟨x,N,B,d⟩:=j2x d
  obtain⟨y,p,k,n⟩:=L2 r _ z d
  refine⟨(x,N,y),p,fun g i=>?_,n⟩
  simp only[C6]
  by_cases f:i=id
  ·subst f;rw[A1]
   exact .inr (.inl ⟨trivial,.inr ⟨by simp[D9],B⟩⟩)
  ·rw[A0 _ _ f]
   exact(k g i).cons (fun h=>h) (fun h=>by simpa[D9,f]using h) (fun h=>h) (fun h=>by simp[D9,h])
theorem L7 {ρ:Env} {h:Heap}:∀ (l:List LI) (m:List (Nat×Option Nat)),T9 ρ h l=some m->∀ id,B9 id m≠none↔id∈G0 l
 | [],m,a,id=>by grind[T9,B9,G0]
 | .tmp _ _::r,m,a,id=>L7 r m a id
 | .own _ _::r,m,a,id=>L7 r m a id
 | .arrS _ _ _::r,m,a,id=>L7 r m a id
 | .cel _ _::r,m,a,id=>L7 r m a id
 | .rng _ _::r,m,a,id=>L7 r m a id
 | .ptr _ _::r,m,a,id=>L7 r m a id
 | .mapS _ _ _ _ _::r,m,a,id=>L7 r m a id
 | .mpt _ _::r,m,a,id=>L7 r m a id
 | .nlp _::r,m,a,id=>L7 r m a id
 | .nlm _::r,m,a,id=>L7 r m a id
 | .subS _ _::r,m,a,id=>L7 r m a id
 | .itr _ _ _ _ _::r,m,a,id=>L7 r m a id
 | .arrDS _ _ _::r,m,a,id=>L7 r m a id
 | .mapDS _ _ _ _::r,m,a,id=>L7 r m a id
 | .arrKS _ _ _ _ _::r,m,a,id=>L7 r m a id
 | .arrKN i _ _ _ _ f::r,m,a,id=>by
  simp[T9]at a
  split at a
  ·rename_i j d _ b
   cases a
   have g:=L7 r d b id
   simp only[B9,G0,List.mem_cons]
   cases c:Nat.beq i id with
   | true=>simp[(Nat.eq_of_beq_eq_true c).symm]
   | false =>
    rw[cond_false,g]
    constructor
    ·exact .inr
    ·rintro (h | h)
     ·subst h;rw[Nat.beq_refl]at c;cases c
     ·exact h
  ·cases a
 | .mapN i _ _ _ _ f::r,m,a,id=>by
  simp[T9]at a
  split at a
  ·rename_i j d _ b
   cases a
   have g:=L7 r d b id
   simp only[B9,G0,List.mem_cons]
   cases c:Nat.beq i id with
   | true=>simp[(Nat.eq_of_beq_eq_true c).symm]
   | false =>
    rw[cond_false,g]
    constructor
    ·exact .inr
    ·rintro (h | h)
     ·subst h;rw[Nat.beq_refl]at c;cases c
     ·exact h
  ·cases a
 | .arr i e t p::r,m,a,id=>by
  have k:∀ (j:Option Nat) (d:List (Nat×Option Nat)),T9 ρ h r=some d->m=(i,j)::d->(B9 id m≠none↔id∈G0 (.arr i e t p::r)):=by
   intro j d b n
   subst n
   have g:=L7 r d b id
   simp only[B9,G0,List.mem_cons]
   cases c:Nat.beq i id with
   | true=>simp[(Nat.eq_of_beq_eq_true c).symm]
   | false =>
    rw[cond_false,g]
    constructor
    ·exact .inr
    ·rintro (h | h)
     ·subst h;rw[Nat.beq_refl]at c;cases c
     ·exact h
  simp[T9]at a
  split at a
  ·rename_i j d _ b;cases a;exact k _ d b rfl
  ·rename_i d _ b;cases a;exact k _ d b rfl
  ·cases a
 | .celN i q f::r,m,a,id=>by
  simp[T9]at a
  split at a
  ·rename_i j o d _ b
   cases a
   have g:=L7 r d b id
   simp only[B9,G0,List.mem_cons]
   cases c:Nat.beq i id with
   | true=>simp[(Nat.eq_of_beq_eq_true c).symm]
   | false =>
    rw[cond_false,g]
    constructor
    ·exact .inr
    ·rintro (h | h)
     ·subst h;rw[Nat.beq_refl]at c;cases c
     ·exact h
  ·cases a
theorem X7 {j:Nat}:∀ {m:List (Nat×Option Nat)} {id:Nat},B9 id m=some (some j)->j∈E2 m
 | [],_,h=>by grind[B9]
 | (i,k)::r,id,h=>by
  simp[B9]at h
  cases b:Nat.beq i id with
  | true=>rw[b,cond_true]at h;cases h;simp[E2]
  | false =>
   rw[b,cond_false]at h
   have:=X7 h
   cases k with
   | none=>exact this
   | some k=>exact List.mem_cons_of_mem _ this
theorem j6v {x:Nat} {r:List Nat} (h:O3 (x::r)=true):x∉r/\O3 r=true:=by
 grind[O3,memb_iff]
theorem z25 {j:Nat}:∀ {m:List (Nat×Option Nat)} {i i':Nat},O3 (E2 m)=true->B9 i m=some (some j)->B9 i' m=some (some j)->i=i'
 | [],_,_,_,h,_=>by grind[B9]
 | (a,k)::r,i,i',g,h,d=>by
  have e:O3 (E2 r)=true/\(k=some j->j∉E2 r):=by
   cases k with
   | none=>exact⟨g,fun h=>by cases h⟩
   | some k=>obtain⟨a,b⟩:=j6v g;exact⟨b,fun h=>by cases h;exact a⟩
  simp[B9]at h d
  cases f:Nat.beq a i with
  | true =>
   rw[f,cond_true]at h
   cases c:Nat.beq a i' with
   | true=>rw[<-Nat.eq_of_beq_eq_true f,<-Nat.eq_of_beq_eq_true c]
   | false=>rw[c,cond_false]at d;exact absurd (X7 d) (e.2 (by cases h;rfl))
  | false =>
   rw[f,cond_false]at h
   cases c:Nat.beq a i' with
   | true=>rw[c,cond_true]at d;exact absurd (X7 h) (e.2 (by cases d;rfl))
   | false=>rw[c,cond_false]at d;exact z25 e.1 h d
theorem q46 {a b:List Nat} (h:q3a a b=true):∀ x∈a,x∈b:=fun x c=>memb_iff.1 (List.all_eq_true.1 h x c)
theorem y0w {mt c d a:List Nat} {l:List LI} (h:wfI mt c d a l=true):(∀ id∈G0 l,id∈c)/\(∀ t∈F4 l,t∈mt)/\(∀ id,id∈a↔id∈D9 l)/\(∀ id∈a,id∉c/\id∉d):=by
 simp[wfI,Bool.and_eq_true,Bool.not_eq_true']at h
 obtain⟨⟨⟨⟨⟨⟨⟨f,e⟩,i⟩,g⟩,-⟩,-⟩,-⟩,j⟩:=h
 refine⟨q46 f,q46 e,fun id=>⟨q46 i id,q46 g id⟩,fun id b=>?_⟩
 have:=q2t j id b
 grind
theorem y5m {R:Type} {st0 st1:St} {mt mo sr stat:List Nat} {l:List LI} {K:D5 l->Option R} {z:R} (he:q4u st1 mt mo sr stat l K=some z) :
  ∃ y,K y=some z/\(∀ id∈stat,(∃ ak av tk tv l c,st1.h id=.iter ak av tk tv l c)->(C1 st0 mt mo sr l y).h id=st1.h id)/\∀ B r κ0 a0 v0 κ1 a1 w1,Sim P L w0 B r κ0 st0 a0 v0->Sim P L w0 B r κ1 st1 a1 w1->Ext L κ0 st0.h v0 κ1 st1.h w1->(∀ t,t∉mt->a1.tmps.getD t undef=a0.tmps.getD t undef) ->
   (∀ id,id∉mo->id∉sr->id∉stat->st1.h id=st0.h id)->(∀ id∈mo,st0.h id=.fresh)->st1.n=st0.n ->
   ∃ κ2,Sim P L w0 B r κ2 (C1 st0 mt mo sr l y) a1 w1/\Ext L κ0 st0.h v0 κ2 (C1 st0 mt mo sr l y).h w1/\∀ b,A3 L κ1 st1.h w1 b->A3 L κ2 (C1 st0 mt mo sr l y).h w1 b:=by
 unfold q4u at he
 split at he
 ·rename_i m hm
  obtain⟨hc,he⟩:=A8 he
  simp only[Bool.and_eq_true]at hc
  obtain⟨⟨⟨hwf,hnd⟩,hsub⟩,hsrk⟩:=hc
  obtain⟨wnew,wslot,wstat,wdis⟩:=y0w hwf
  have hsub:=q46 hsub
  have hlook:=L7 l m hm
  obtain⟨y,hy,hH,hE⟩:=L2 l _ z he
  refine⟨y,hy,fun id hid ⟨ak,av,tk,tv,le,cu,hit⟩=>?_,fun B r κ0 a0 v0 κ1 a1 w1 sim0 sim1 ext htmp hobj hmo hn=>?_⟩
  ·have hst:=(wstat id).1 hid
   rcases hH (fun id=>cond (E4 mo id) .fresh (cond (E4 sr id) .dead (st0.h id))) id with⟨_,_,c⟩ | ⟨_,⟨b1,_⟩ | ⟨_,b2⟩⟩ | ⟨cs,yc,ls,_,_,c,_⟩ | ⟨ri,s,_,_,c⟩ | ⟨cs,yc,ls,j,b1,_⟩
   ·exact absurd hst c
   ·exact absurd (wnew id b1) (wdis id hid).1
   ·exact b2.symm
   ·rw[hit]at c;cases c
   ·rw[hit]at c;cases c
   ·exact absurd (wnew id b1) (wdis id hid).1
  let hb:Heap:=fun id=>cond (E4 mo id) .fresh (cond (E4 sr id) .dead (st0.h id))
  let h2:Heap:=C6 l y hb
  let ψ:Nat->Option Nat:=fun q=>match B9 q m with
   | some x=>x
   | none=>open Classical in if h:∃ p i,q=kn p i/\p∈mo++sr then(match B9 h.choose m with
    | some (some j)=>some (kn j h.choose_spec.choose)
    | _=>none)else some q
  let κ2:A2:=fun q=>(ψ q).bind κ1
  have hb_mo:∀ id,id∈mo->hb id=.fresh:=fun id hid=>by simp only[hb,memb_iff.2 hid,cond_true]
  have nm:∀ {b:List Nat} {id:Nat},id∉b->E4 b id=false:=fun {b id} h=>by
   cases hq:E4 b id with
   | true=>exact absurd (memb_iff.1 hq) h
   | false=>rfl
  have hb_sr:∀ id,id∉mo->id∈sr->hb id=.dead:=fun id h1 h2=>by simp only[hb,nm h1,memb_iff.2 h2,cond_true,cond_false]
  have hb_o:∀ id,id∉mo->id∉sr->hb id=st0.h id:=fun id h1 h2=>by simp only[hb,nm h1,nm h2,cond_false]
  have hcase:∀ id,(h2 id=.fresh/\id∈mo)\/(h2 id=.dead/\id∈sr)\/(h2 id=st1.h id/\h2 id=st0.h id/\id∉mo/\id∉sr/\id∉stat/\B9 id m=none) \/
    ((h2 id).pure/\id∈mo/\((∃ j,B9 id m=some (some j)/\st1.h j=h2 id/\(h2 id).pure0)\/(B9 id m=some none/\∃ e t,h2 id=.arr e t []))) \/
    (id∈stat/\B9 id m=none/\(((h2 id).pure/\st1.h id=h2 id)\/(∃ cs yc ls,h2 id=.cells (M8 cs yc)/\st1.h id=.cells ls/\q6b m (mo++sr) st1.h cs yc ls)\/(∃ ri s s0,h2 id=.lrec ri s/\st1.h id=.lrec ri s/\st0.h id=.lrec ri s0)\/h2 id=.dead)) \/
    (∃ cs yc ls j,h2 id=.cells (M8 cs yc)/\id∈mo/\B9 id m=some (some j)/\st1.h j=.cells ls/\q6b m (mo++sr) st1.h cs yc ls):=by
   intro id
   have nolook:id∈stat->B9 id m=none:=fun hs=>by
    cases hq:B9 id m with
    | none=>rfl
    | some q=>exact absurd (wnew id ((hlook id).1 (by rw[hq];simp))) (wdis id hs).1
   rcases hH hb id with⟨a,b,c⟩ | ⟨a,b⟩ | ⟨cs,yc,ls,a,b,c,d⟩ | ⟨ri,s,a,b,c⟩ | ⟨cs,yc,ls,j,a,b,c,d,f⟩
   ·have hl:B9 id m=none:=by
     cases hq:B9 id m with
     | none=>rfl
     | some q=>exact absurd ((hlook id).1 (by rw[hq];simp)) b
    by_cases h1:id∈mo
    ·exact .inl ⟨a.trans (hb_mo id h1),h1⟩
    ·by_cases h2':id∈sr
     ·exact .inr (.inl ⟨a.trans (hb_sr id h1 h2'),h2'⟩)
     ·have hns:id∉stat:=fun h=>c ((wstat id).1 h)
      have hv:=a.trans (hb_o id h1 h2')
      exact .inr (.inr (.inl ⟨hv.trans (hobj id h1 h2' hns).symm,hv,h1,h2',hns,hl⟩))
   ·rcases b with⟨b1,b2⟩ | ⟨b1,b2⟩
    ·exact .inr (.inr (.inr (.inl ⟨a,wnew id b1,b2⟩)))
    ·exact .inr (.inr (.inr (.inr (.inl ⟨(wstat id).2 b1,nolook ((wstat id).2 b1),.inl ⟨a,b2⟩⟩))))
   ·exact .inr (.inr (.inr (.inr (.inl ⟨(wstat id).2 a,nolook ((wstat id).2 a),.inr (.inl ⟨cs,yc,ls,b,c,d⟩)⟩))))
   ·have hs:=(wstat id).2 a
    refine .inr (.inr (.inr (.inr (.inl ⟨hs,nolook hs,.inr (.inr ?_)⟩))))
    rw[hb_o id (wdis id hs).1 (wdis id hs).2]at b
    cases ho:st0.h id with
    | lrec ri0 s0 =>
     refine .inl ⟨ri,s,s0,?_,c,?_⟩
     ·rcases ext.lrec id ri0 s0 ho with⟨s',hs'⟩ | hs'
      ·rw[c]at hs';cases hs'
       exact b.trans (by rw[ho];rfl)
      ·rw[c]at hs';cases hs'
     ·rcases ext.lrec id ri0 s0 ho with⟨s',hs'⟩ | hs'
      ·rw[c]at hs';cases hs';rfl
      ·rw[c]at hs';cases hs'
    | _=>exact .inr (b.trans (by rw[ho];rfl))
   ·exact .inr (.inr (.inr (.inr (.inr ⟨cs,yc,ls,j,b,wnew id a,c,d,f⟩))))
  have hkl:∀ p i,B9 (kn p i) m=none:=fun p i=>by
   cases hq:B9 (kn p i) m with
   | none=>rfl
   | some q =>
    have h1:=hmo _ (wnew _ ((hlook _).1 (by rw[hq];simp)))
    rw[sim0.heap.kids _ (z1u p i)]at h1
    cases h1
  have hψn:∀ q,B9 q m=none->(∀ p i,q=kn p i->p∉mo++sr)->ψ q=some q:=fun q h hg=>by
   simp only[ψ,h];rw[dif_neg (fun ⟨p,i,e,hp⟩=>hg p i e hp)]
  have hψk:∀ p i,p∈mo++sr->ψ (kn p i)=(match B9 p m with
    | some (some j)=>some (kn j i)
    | _=>none):=fun p i hp=>by
   have h:∃ p' i',kn p i=kn p' i'/\p'∈mo++sr:=⟨p,i,rfl,hp⟩
   have e:=N0 h.choose_spec.choose_spec.1
   have key:∀ p' i',p'=p->i'=i->(match B9 p' m with
    | some (some j)=>some (kn j i')
    | _=>none)=(match B9 p m with
    | some (some j)=>some (kn j i)
    | _=>none):=by rintro _ _ rfl rfl;rfl
   simp only[ψ,hkl]
   rw[dif_pos h]
   exact key _ _ e.1.symm e.2.symm
  have hψ1:∀ q,st1.h q≠.kid->∀ p i,q=kn p i->p∉mo++sr:=fun q hq p i e=>absurd (by rw[e];exact K8 sim1.heap p i) hq
  have hκg:∀ id,B9 id m=none->(∀ p i,id=kn p i->p∉mo++sr)->κ2 id=κ1 id:=fun id h hk=>by simp only[κ2,hψn id h hk,Option.bind_some]
  have hκn:∀ id,B9 id m=none->st1.h id≠.kid->κ2 id=κ1 id:=fun id h hk=>hκg id h (hψ1 id hk)
  have hκs:∀ id j,B9 id m=some (some j)->κ2 id=κ1 j:=fun id j h=>by simp only[κ2,ψ,h,Option.bind_some]
  have hκ0:∀ id,B9 id m=some none->κ2 id=none:=fun id h=>by simp only[κ2,ψ,h,Option.bind_none]
  let φ:Nat->Nat:=fun q=>(ψ q).getD q
  have hφn:∀ id,B9 id m=none->(∀ p i,id=kn p i->p∉mo++sr)->φ id=id:=fun id h hg=>by simp only[φ,hψn id h hg,Option.getD_some]
  have hφs:∀ id j,B9 id m=some (some j)->φ id=j:=fun id j h=>by simp only[φ,ψ,h,Option.getD_some]
  have live:∀ id b c,(h2 id).live=true->κ2 id=some (b,c)->(st1.h (φ id)).live=true/\κ1 (φ id)=some (b,c):=by
   intro id b c hl hk
   by_cases hg:∃ p i,id=kn p i/\p∈mo++sr
   ·obtain⟨p,i,rfl,hp⟩:=hg
    have hk':(ψ (kn p i)).bind κ1=some (b,c):=hk
    have hψ:=hψk p i hp
    split at hψ
    ·rename_i j hj
     rw[hψ]at hk'
     have hφ:φ (kn p i)=kn j i:=by simp only[φ,hψ,Option.getD_some]
     rw[hφ]
     exact⟨Q5 sim1.heap j i,hk'⟩
    ·rw[hψ]at hk';cases hk'
   replace hg:∀ p i,id=kn p i->p∉mo++sr:=fun p i e hp=>hg ⟨p,i,e,hp⟩
   rcases hcase id with⟨a,_⟩ | ⟨a,_⟩ | ⟨a,_,_,_,_,a5⟩ | ⟨a,_,⟨j,q1,q2⟩ | ⟨q1,_⟩⟩ | ⟨_,a2,⟨q1,q2⟩ | ⟨cs,yc,ls,q1,q2,_⟩ | ⟨ri,s,s0,q1,q2,_⟩ | q1⟩ | ⟨cs6,yc6,ls6,j6,w1',w2',w3',w4',w5'⟩
   ·rw[a]at hl;cases hl
   ·rw[a]at hl;cases hl
   ·rw[hφn id a5 hg,<-a,<-hκg id a5 hg];exact⟨hl,hk⟩
   ·rw[hφs id j q1,q2.1,<-hκs id j q1];exact⟨hl,hk⟩
   ·rw[hκ0 id q1]at hk;cases hk
   ·rw[hφn id a2 hg,q2,<-hκg id a2 hg];exact⟨hl,hk⟩
   ·rw[hφn id a2 hg,q2,<-hκg id a2 hg];exact⟨rfl,hk⟩
   ·rw[hφn id a2 hg,q2,<-hκg id a2 hg];exact⟨rfl,hk⟩
   ·rw[q1]at hl;cases hl
   ·rw[hφs id j6 w3',w4',<-hκs id j6 w3'];exact⟨rfl,hk⟩
  have hstill:∀ b,N6 κ1 st1.h w1 b->N6 κ2 h2 w1 b:=fun b ⟨f1,f3⟩=>⟨f1,fun id c hl hk=>by
   obtain⟨q1,q2⟩:=live id b c hl hk
   exact f3 (φ id) c q1 q2⟩
  have hfree:∀ b,A3 L κ1 st1.h w1 b->A3 L κ2 h2 w1 b:=fun b ⟨f1,f2,f3⟩=>⟨f1,f2,(hstill b ⟨f1,f3⟩).2⟩
  have hfm:∀ b,A3 L κ1 st1.h w1 b->A3 L κ2 h2 w1 b/\w1.heap[b]? = w1.heap[b]?:=fun b hb=>⟨hfree b hb,rfl⟩
  have harr:∀ id j e t (x:List t.den),κ2 id=κ1 j->RepArr L κ1 st1.h w1 j e t x->RepArr L κ2 h2 w1 id e t x:=by
   intro id j e t x hk hr
   rcases hr with⟨a,b⟩ | ⟨b,cap,cur,r1,r2,r3,r4,r5,r6,r7⟩
   ·exact .inl ⟨hk.trans a,b⟩
   ·exact .inr ⟨b,cap,cur,hk.trans r1,r2,r3,r4,r5,r6,fun i y hy=>RepAt.mono hfm t _ y (r7 i y hy)⟩
  have hkid:∀ p i,p∉mo++sr->κ2 (kn p i)=κ1 (kn p i):=fun p i hp=>hκg _ (hkl p i) fun p' i' e h=>hp ((N0 e).1▸h)
  have hpure0:∀ id j o,κ2 id=κ1 j->(∀ i,κ2 (kn id i)=κ1 (kn j i))->o.pure0->RepObj L κ1 st1.h w1 j o->RepObj L κ2 h2 w1 id o:=by
   intro id j o hk hkk hp hr
   cases o with
   | arr e t x=>exact harr id j e t x hk hr
   | arrK e t c t1 x k f =>
    cases f with
    | some f=>exact absurd hp (fun h=>h)
    | none =>
     rcases hr with⟨a,b⟩ | ⟨b,cap,cur,r1,r2,r3,r4,r5,r6,r7,r8,r9,r10⟩
     ·exact .inl ⟨hk.trans a,b⟩
     ·refine .inr ⟨b,cap,cur,hk.trans r1,r2,r3,r4,r5,r6,r7,r8,fun i y hy=>RepAt.mono hfm t _ y (r9 i y hy),fun i y hy=>?_⟩
      obtain⟨v,v1,v2⟩:=r10 i y hy
      exact⟨v,v1,RepKid.at hfree (hkk _) v2⟩
   | mapo ak av tk tv x =>
    obtain⟨b,c,es,cl,r1,r2,r3⟩:=hr
    exact⟨b,c,es,cl,hk.trans r1,r2,r3.mono hfm⟩
   | iter ak av tk tv le cu =>
    obtain⟨b,c,mm,si,se,c0,r1,r2,r3⟩:=hr
    exact⟨b,c,mm,si,se,c0,hk.trans r1,r2,r3.mono hfm⟩
   | _=>exact absurd hp (fun h=>h)
  have hpure:∀ id o,id∉mo++sr->κ2 id=κ1 id->o.pure->RepObj L κ1 st1.h w1 id o->RepObj L κ2 h2 w1 id o:=by
   intro id o hng hk hp hr
   cases o with
   | arr e t x=>exact hpure0 id id _ hk (fun i=>hkid id i hng) trivial hr
   | mapo ak av tk tv x=>exact hpure0 id id _ hk (fun i=>hkid id i hng) trivial hr
   | iter ak av tk tv le cu=>exact hpure0 id id _ hk (fun i=>hkid id i hng) trivial hr
   | arrD e t x f =>
    cases f with
    | some f=>exact absurd hp (fun h=>h)
    | none =>
     rcases hr with⟨a,b,c⟩ | ⟨b,cap,cur,r1,r2,r3,r4,r5,r6,r7⟩
     ·exact .inl ⟨hk.trans a,b,c⟩
     ·refine .inr ⟨b,cap,cur,hk.trans r1,r2,r3,r4,r5,r6,fun i y hy=>?_⟩
      obtain⟨v,v1,v2⟩:=r7 i y hy
      exact⟨v,v1,RepKid.at hfree (hkid id _ hng) v2⟩
   | arrK e t c t1 x k f =>
    cases f with
    | some f=>exact absurd hp (fun h=>h)
    | none=>exact hpure0 id id _ hk (fun i=>hkid id i hng) trivial hr
   | mapD ak tk t x f =>
    cases f with
    | some f=>exact absurd hp (fun h=>h)
    | none =>
     obtain⟨b,c,es,cl,r1,r2,r3⟩:=hr
     obtain⟨p,p1,p2,p3⟩:=r3.ents
     exact⟨b,c,es,cl,hk.trans r1,r2,r3.flat,r3.rise,r3.apart,r3.early,p,p1,p2,fun i z q hz hq =>
      ⟨(p3 i z q hz hq).1.mono hfm,(p3 i z q hz hq).2.1,RepKid.at hfree (hkid id _ hng) (p3 i z q hz hq).2.2⟩⟩
   | _=>exact absurd hp (fun h=>h)
  have hout:∀ id,B9 id m=none->(h2 id).live=true->id∉mo++sr:=by
   intro id hl hv hm
   rcases hcase id with⟨a,_⟩ | ⟨a,_⟩ | ⟨_,_,a1,a2,_⟩ | ⟨a,a2,⟨_,q,_⟩ | ⟨q,_⟩⟩ | ⟨a,_⟩ | ⟨cs6,yc6,ls6,j6,w1',w2',w3',w4',w5'⟩
   ·rw[a]at hv;cases hv
   ·rw[a]at hv;cases hv
   ·rcases List.mem_append.1 hm with hm | hm
    ·exact a1 hm
    ·exact a2 hm
   ·rw[hl]at q;cases q
   ·rw[hl]at q;cases q
   ·rcases List.mem_append.1 hm with hm | hm
    ·exact(wdis id a).1 hm
    ·exact(wdis id a).2 hm
   ·rw[hl]at w3';cases w3'
  have hthaw:∀ (ids:List Nat),(∀ id∈ids,q0z m (mo++sr) st1.h id=true)->∀ b,A3 L κ1 (A5 (B3 st1.h ids) st1.h) w1 b->A3 L κ2 h2 w1 b:=by
   intro ids hids b ⟨f1,f2,f3⟩
   refine⟨f1,f2,fun id2 c hl hk=>?_⟩
   obtain⟨q1,q2⟩:=live id2 b c hl hk
   have hni:φ id2∉ids:=fun hm=>by
    have ht:=hids _ hm
    have hthk:=ht
    unfold q0z at hthk
    have gone:(E4 (mo++sr) (φ id2)&&!E4 (E2 m) (φ id2))=true->False:=fun ht=>by
     simp only[Bool.and_eq_true,Bool.not_eq_true']at ht
     have hg:=memb_iff.1 ht.1
     cases hli:B9 id2 m with
     | none =>
      by_cases hgk:∃ p i,id2=kn p i/\p∈mo++sr
      ·obtain⟨p,i,rfl,hp⟩:=hgk
       rw[(show st1.h (φ (kn p i))=.kid from by
        have hk':(ψ (kn p i)).bind κ1=some (b,c):=hk
        have hψ:=hψk p i hp
        split at hψ
        ·simp only[φ,hψ,Option.getD_some];exact K8 sim1.heap _ i
        ·rw[hψ]at hk';cases hk')]at hthk
       cases hthk
      ·rw[hφn id2 hli (fun p i e hp=>hgk ⟨p,i,e,hp⟩)]at hg;exact hout id2 hli hl hg
     | some q =>
      cases q with
      | none=>rw[hκ0 id2 hli]at hk;cases hk
      | some j =>
       rw[hφs id2 j hli]at ht
       rw[memb_iff.2 (X7 hli)]at ht
       cases ht.2
    unfold q0z at ht
    split at ht
    ·rename_i hq;rw[hq]at q1;cases q1
    ·exact gone ht
    ·rename_i hq;rw[hq]at q1;cases q1
    ·exact gone ht
    ·cases ht
   exact f3 (φ id2) c (by rw[V5 hni];exact q1) q2
  have hmatch:∀ s s' v,z5b m (mo++sr) st1.h s s'->RepSV L κ1 st1.h w1 s v->RepSV L κ2 h2 w1 s' v/\v.oneCell'=true:=by
   intro s s' v hma hr
   rcases hma with⟨t,x,rfl,hd,hsz⟩ | ⟨id,rfl,hsr'⟩ | ⟨id,j,hpm,hl⟩ | hnil | ⟨i,sa,sb,rfl,rfl,hl,hng⟩ | ⟨i,rfl,rfl,hl,hng⟩
   rotate_right
   ·obtain⟨hr0,b,c,hr1,hr2⟩:=hr
    refine⟨?_,by rw[hr2];rfl⟩
    rcases hcase i with⟨a,a2⟩ | ⟨a,a2⟩ | ⟨a,_,_,_,_,a5⟩ | ⟨a,_,⟨j',q1,q2⟩ | ⟨q1,q2⟩⟩ | ⟨_,a2,⟨q1,q2⟩ | ⟨cs,yc,ls,q1,q2,_⟩ | ⟨ri,s,s0,q1,q2,_⟩ | q1⟩ | ⟨cs6,yc6,ls6,j6,w1',w2',w3',w4',w5'⟩
    ·exact absurd (List.mem_append_left _ a2) hng
    ·exact absurd (List.mem_append_right _ a2) hng
    ·exact⟨by rw[a];exact hr0,b,c,(hκn i a5 hr0.2).trans hr1,hr2⟩
    ·rw[hl]at q1;cases q1
    ·rw[hl]at q1;cases q1
    ·exact⟨by rw[<-q2];exact hr0,b,c,(hκn i a2 hr0.2).trans hr1,hr2⟩
    ·exact⟨by rw[q1];simp,b,c,(hκn i a2 hr0.2).trans hr1,hr2⟩
    ·exact⟨by rw[q1];simp,b,c,(hκn i a2 hr0.2).trans hr1,hr2⟩
    ·exact⟨by rw[q1];simp,b,c,(hκn i a2 hr0.2).trans hr1,hr2⟩
    ·rw[hl]at w3';cases w3'
   rotate_right
   ·refine⟨⟨?_,hr.2⟩,hr.2⟩
    have hr1:=hr.1
    rcases hcase i with⟨a,a2⟩ | ⟨a,a2⟩ | ⟨a,_,_,_,_,a5⟩ | ⟨a,_,⟨j',q1,q2⟩ | ⟨q1,q2⟩⟩ | ⟨_,a2,⟨q1,q2⟩ | ⟨cs,yc,ls,q1,q2,_⟩ | ⟨ri,s,s0,q1,q2,_⟩ | q1⟩ | ⟨cs6,yc6,ls6,j6,w1',w2',w3',w4',w5'⟩
    ·exact absurd (List.mem_append_left _ a2) hng
    ·exact absurd (List.mem_append_right _ a2) hng
    ·rw[a,hκn i a5 (fun e=>by rw[e]at hr1;exact hr1)];exact hr1
    ·rw[hl]at q1;cases q1
    ·rw[hl]at q1;cases q1
    ·rw[hκn i a2 (fun e=>by rw[e]at hr1;exact hr1)];rw[q2]at hr1;exact hr1
    ·rw[q2]at hr1;exact hr1.elim
    ·rw[q2]at hr1;exact hr1.elim
    ·rw[q1];trivial
    ·rw[hl]at w3';cases w3'
   rotate_right
   ·rcases hnil with⟨rfl,rfl⟩ | ⟨rfl,rfl⟩
    ·have hv:v=.pointer none:=hr
     subst hv
     exact⟨rfl,rfl⟩
    ·have hv:v=.map none:=hr
     subst hv
     exact⟨rfl,rfl⟩
   ·rcases (z6j hd).2 with⟨z,rfl,rfl⟩ | ⟨e,rfl,rfl,hx⟩ | ⟨e,l',rfl,hx,hlo,hth,hsh⟩ | ⟨ak,av,k,vt,l',rfl,hx,hlo,hth,hsh⟩
    ·exact⟨⟨hr.1,hr.2.1,RepAt.mono hfm t _ _ hr.2.2⟩,hr.2.1⟩
    ·have hv:v=.slice none 0 0:=hr
     subst hv
     have hx:=eq_of_heq hx
     subst hx
     exact⟨⟨rfl,rfl,none,0,0,rfl,rfl,Nat.le_refl _,fun h=>absurd rfl h⟩,rfl⟩
    ·have hx:=eq_of_heq hx
     subst hx
     have hone:v.oneCell'=true:=by
      rcases hsh with⟨id,rfl⟩ | ⟨id,a,b,rfl⟩
      ·exact hr.2
      ·exact hr.2
     obtain⟨_,i2,i3⟩:=R8 (G9 s) sim1.heap
     have hrep:=j64 sim1.heap i2 e s v hr hlo (fun id hm b c hk=>by
      have ht:=hth id hm
      refine⟨i3 id hm ?_ b c hk,rfl⟩
      unfold q0z at ht
      split at ht
      ·rename_i q;exact .inl ⟨_,_,_,.inr q⟩
      ·rename_i q;exact .inl ⟨_,_,_,.inl q⟩
      ·rename_i q;exact .inr ⟨_,_,_,_,_,.inr q⟩
      ·rename_i q;exact .inr ⟨_,_,_,_,_,.inl q⟩
      ·cases ht)
     exact⟨⟨rfl,hone,RepAt.mono (fun b hb=>⟨hthaw (G9 s) hth b hb,rfl⟩) _ _ _ hrep⟩,hone⟩
    ·have hx:=eq_of_heq hx
     subst hx
     have hone:v.oneCell'=true:=by
      rcases hsh with rfl | ⟨id,rfl⟩
      ·have hv:v=.map none:=hr
       rw[hv];rfl
      ·obtain⟨_,b,c,_,hv⟩:=hr
       rw[hv];rfl
     obtain⟨_,i2,i3⟩:=R8 (G9 s) sim1.heap
     have hrep:=j6f sim1.heap i2 ak av k vt s v hr hlo (fun id hm b c hk=>by
      have ht:=hth id hm
      refine⟨i3 id hm ?_ b c hk,rfl⟩
      unfold q0z at ht
      split at ht
      ·rename_i q;exact .inl ⟨_,_,_,.inr q⟩
      ·rename_i q;exact .inl ⟨_,_,_,.inl q⟩
      ·rename_i q;exact .inr ⟨_,_,_,_,_,.inr q⟩
      ·rename_i q;exact .inr ⟨_,_,_,_,_,.inl q⟩
      ·cases ht)
     exact⟨⟨rfl,hone,RepAt.mono (fun b hb=>⟨hthaw (G9 s) hth b hb,rfl⟩) _ _ _ hrep⟩,hone⟩
   ·unfold z4o at hsr'
    split at hsr'
    ·rename_i j i hl
     have hij:=Nat.eq_of_beq_eq_true hsr'
     subst hij
     refine⟨⟨?_,hr.2⟩,hr.2⟩
     rcases hcase id with⟨a,a2⟩ | ⟨a,a2⟩ | ⟨_,_,_,_,_,a5⟩ | ⟨a,_,⟨j',q1,q2⟩ | ⟨q1,_⟩⟩ | ⟨_,a2,_⟩ | ⟨cs6,yc6,ls6,j6,w1',w2',w3',w4',w5'⟩
     ·exfalso
      have:=(hlook id).1 (by rw[hl];simp)
      rcases hH hb id with⟨_,b,_⟩ | ⟨b,_⟩ | ⟨cs,yc,ls,b1,b,_⟩ | ⟨ri,s,b1,b,_⟩ | ⟨cs6,yc6,ls6,j6,_,w1',_⟩
      ·exact b this
      ·rw[show C6 l y hb id=h2 id from rfl,a]at b;exact b
      ·rw[show C6 l y hb id=h2 id from rfl,a]at b;cases b
      ·exact(wdis id ((wstat id).2 b1)).1 (wnew id this)
      ·rw[show C6 l y hb id=h2 id from rfl,a]at w1';cases w1'
     ·exfalso
      have:=(hlook id).1 (by rw[hl];simp)
      rcases hH hb id with⟨_,b,_⟩ | ⟨b,_⟩ | ⟨cs,yc,ls,b1,b,_⟩ | ⟨ri,s,b1,b,_⟩ | ⟨cs6,yc6,ls6,j6,_,w1',_⟩
      ·exact b this
      ·rw[show C6 l y hb id=h2 id from rfl,a]at b;exact b
      ·rw[show C6 l y hb id=h2 id from rfl,a]at b;cases b
      ·exact(wdis id ((wstat id).2 b1)).1 (wnew id this)
      ·rw[show C6 l y hb id=h2 id from rfl,a]at w1';cases w1'
     ·rw[hl]at a5;cases a5
     ·rw[hl]at q1;cases q1
      have hr1:=hr.1
      rw[q2.1]at hr1
      rw[hκs id i hl]
      exact hr1
     ·rw[hl]at q1;cases q1
     ·rw[hl]at a2;cases a2
     ·rw[hl]at w3';cases w3';have hr1:=hr.1;rw[w4']at hr1;exact hr1.elim
    ·rename_i hl
     have hv:v=.slice none 0 0:=hr
     subst hv
     refine⟨⟨?_,rfl⟩,rfl⟩
     rcases hcase id with⟨a,a2⟩ | ⟨a,a2⟩ | ⟨_,_,_,_,_,a5⟩ | ⟨a,_,⟨j',q1,q2⟩ | ⟨q1,e9,t9,q2⟩⟩ | ⟨_,a2,_⟩ | ⟨cs6,yc6,ls6,j6,w1',w2',w3',w4',w5'⟩
     ·exfalso
      have:=(hlook id).1 (by rw[hl];simp)
      rcases hH hb id with⟨_,b,_⟩ | ⟨b,_⟩ | ⟨cs,yc,ls,b1,b,_⟩ | ⟨ri,s,b1,b,_⟩ | ⟨cs6,yc6,ls6,j6,_,w1',_⟩
      ·exact b this
      ·rw[show C6 l y hb id=h2 id from rfl,a]at b;exact b
      ·rw[show C6 l y hb id=h2 id from rfl,a]at b;cases b
      ·exact(wdis id ((wstat id).2 b1)).1 (wnew id this)
      ·rw[show C6 l y hb id=h2 id from rfl,a]at w1';cases w1'
     ·exfalso
      have:=(hlook id).1 (by rw[hl];simp)
      rcases hH hb id with⟨_,b,_⟩ | ⟨b,_⟩ | ⟨cs,yc,ls,b1,b,_⟩ | ⟨ri,s,b1,b,_⟩ | ⟨cs6,yc6,ls6,j6,_,w1',_⟩
      ·exact b this
      ·rw[show C6 l y hb id=h2 id from rfl,a]at b;exact b
      ·rw[show C6 l y hb id=h2 id from rfl,a]at b;cases b
      ·exact(wdis id ((wstat id).2 b1)).1 (wnew id this)
      ·rw[show C6 l y hb id=h2 id from rfl,a]at w1';cases w1'
     ·rw[hl]at a5;cases a5
     ·rw[hl]at q1;cases q1
     ·rw[q2];exact .inl ⟨hκ0 id hl,rfl,rfl⟩
     ·rw[hl]at a2;cases a2
     ·rw[hl]at w3';cases w3'
    ·rename_i i hl
     simp only[Bool.and_eq_true,Bool.not_eq_true']at hsr'
     have hii:=Nat.eq_of_beq_eq_true hsr'.1
     subst hii
     have hng:i∉mo++sr:=fun h=>by rw[memb_iff.2 h]at hsr';cases hsr'.2
     refine⟨⟨?_,hr.2⟩,hr.2⟩
     have hr1:=hr.1
     rcases hcase i with⟨a,a2⟩ | ⟨a,a2⟩ | ⟨a,_,_,_,_,a5⟩ | ⟨a,_,⟨j',q1,q2⟩ | ⟨q1,q2⟩⟩ | ⟨_,a2,⟨q1,q2⟩ | ⟨cs,yc,ls,q1,q2,_⟩ | ⟨ri,s,s0,q1,q2,_⟩ | q1⟩ | ⟨cs6,yc6,ls6,j6,w1',w2',w3',w4',w5'⟩
     ·exact absurd (List.mem_append_left _ a2) hng
     ·exact absurd (List.mem_append_right _ a2) hng
     ·rw[a,hκn i a5 (fun e=>by rw[e]at hr1;exact hr1)];exact hr1
     ·rw[hl]at q1;cases q1
     ·rw[hl]at q1;cases q1
     ·rw[hκn i a2 (fun e=>by rw[e]at hr1;exact hr1)];rw[q2]at hr1;exact hr1
     ·rw[q2]at hr1;exact hr1.elim
     ·rw[q2]at hr1;exact hr1.elim
     ·rw[q1];trivial
     ·rw[hl]at w3';cases w3'
    ·cases hsr'
   ·have hin:=(hlook id).1 (by rw[hl];simp)
    have hnf0:∀ o,o=.fresh\/o=.kid->h2 id≠o:=fun o ho e0=>by
     have hnp:¬ o.pure/\∀ l,o≠.cells l:=by rcases ho with rfl | rfl<;>exact⟨fun h=>h,fun _ h=>by cases h⟩
     rcases hH hb id with⟨_,b,_⟩ | ⟨b,_⟩ | ⟨cs,yc,ls,b1,b,_⟩ | ⟨ri,s,b1,b,_⟩ | ⟨cs6,yc6,ls6,j6,_,w1',_⟩
     ·exact b hin
     ·rw[show C6 l y hb id=h2 id from rfl,e0]at b;exact hnp.1 b
     ·rw[show C6 l y hb id=h2 id from rfl,e0]at b;exact hnp.2 _ b
     ·exact(wdis id ((wstat id).2 b1)).1 (wnew id hin)
     ·rw[show C6 l y hb id=h2 id from rfl,e0]at w1';exact hnp.2 _ w1'
    have hnf:(h2 id).Held:=⟨hnf0 _ (.inl rfl),hnf0 _ (.inr rfl)⟩
    rcases hpm with⟨rfl,rfl⟩ | ⟨rfl,rfl⟩
    ·obtain⟨hr1,b,c,hr2,hr3⟩:=hr
     exact⟨⟨hnf,b,c,(hκs id j hl).trans hr2,hr3⟩,by rw[hr3];rfl⟩
    ·obtain⟨hr1,b,c,hr2,hr3⟩:=hr
     exact⟨⟨hnf,b,c,(hκs id j hl).trans hr2,hr3⟩,by rw[hr3];rfl⟩
  have nmo:∀ id,st0.h id≠.fresh->id∉mo:=fun id h1 h2=>h1 (hmo id h2)
  have hkids:∀ id,st0.h id=.kid->h2 id=.kid:=fun id hd=>by
   have hd1:=ext.kid id hd
   have nm1:id∉mo:=nmo id (by rw[hd];simp)
   have nb:id∉sr:=fun hs=>by
    have:=List.all_eq_true.1 hsrk id hs
    rw[hd1]at this;cases this
   rcases hH hb id with⟨a,b,c⟩ | ⟨po,⟨b1,_⟩ | ⟨_,b2⟩⟩ | ⟨cs,yc,ls,_,_,c,_⟩ | ⟨ri,s,_,_,c⟩ | ⟨cs,yc,ls,j,b1,_⟩
   ·exact a.trans ((hb_o id nm1 nb).trans hd)
   ·exact absurd (wnew id b1) nm1
   ·rw[<-b2,hd1]at po;exact po.elim
   ·rw[hd1]at c;cases c
   ·rw[hd1]at c;cases c
   ·exact absurd (wnew id b1) nm1
  have hext:Ext L κ0 st0.h v0 κ2 h2 w1:=by
   refine⟨fun id hf=>?_,fun id hd=>?_,fun id hd=>?_,fun id ls hd=>?_,fun id e t x hd=>?_,fun id e t x f hd=>?_,fun id e t c t1 x k f hd=>?_,fun id e t x hd=>?_,fun id ri rs hd=>?_,fun id hd=>?_,fun id ak av tk tv le cu hd=>?_,fun b hbf=>?_,ext.size,ext.loops,ext.defs⟩
   ·have hl:B9 id m=none:=by
     cases hq:B9 id m with
     | none=>rfl
     | some q=>exact absurd (wnew id ((hlook id).1 (by rw[hq];simp))) (nmo id hf.1)
    exact(hκn id hl (ext.keeps hf).2).trans (ext.place id hf)
   ·exact hkids id hd
   ·rcases hcase id with⟨a,a2⟩ | ⟨a,_⟩ | ⟨_,a,_⟩ | ⟨a,a2,_⟩ | ⟨_,a2,⟨po,q2⟩ | ⟨cs,yc,ls,q1,q2,q3⟩ | ⟨ri,s,s0,q1,q2,q4⟩ | q1⟩ | ⟨cs6,yc6,ls6,j6,w1',w2',w3',w4',w5'⟩
    ·exact absurd a2 (nmo id (by rw[hd];simp))
    ·exact a
    ·exact a.trans hd
    ·exact absurd a2 (nmo id (by rw[hd];simp))
    ·rw[ext.dead id hd]at q2;exact q2.symm
    ·rw[ext.dead id hd]at q2;cases q2
    ·rw[ext.dead id hd]at q2;cases q2
    ·exact q1
    ·exact absurd w2' (nmo id (by rw[hd];simp))
   ·rcases hcase id with⟨a,a2⟩ | ⟨a,_⟩ | ⟨_,a,_⟩ | ⟨a,a2,_⟩ | ⟨_,a2,⟨po,q2⟩ | ⟨cs,yc,ls',q1,q2,q3⟩ | ⟨ri,s,s0,q1,q2,q4⟩ | q1⟩ | ⟨cs6,yc6,ls6,j6,w1',w2',w3',w4',w5'⟩
    ·exact absurd a2 (nmo id (by rw[hd];simp))
    ·exact .inr a
    ·exact .inl ⟨ls,a.trans hd⟩
    ·exact absurd a2 (nmo id (by rw[hd];simp))
    ·rcases ext.cells id ls hd with⟨l',e'⟩ | e'<;>rw[<-q2,e']at po<;>exact po.elim
    ·exact .inl ⟨_,q1⟩
    ·rw[hd]at q4;cases q4
    ·exact .inr q1
    ·exact absurd w2' (nmo id (by rw[hd];simp))
   ·rcases hcase id with⟨a,a2⟩ | ⟨a,_⟩ | ⟨_,a,_⟩ | ⟨a,a2,_⟩ | ⟨_,a2,⟨po,q2⟩ | ⟨cs,yc,ls',q1,q2,q3⟩ | ⟨ri,s,s0,q1,q2,q4⟩ | q1⟩ | ⟨cs6,yc6,ls6,j6,w1',w2',w3',w4',w5'⟩
    ·exact absurd a2 (nmo id (by rw[hd];simp))
    ·exact .inr a
    ·exact .inl ⟨x,rfl,.inl (a.trans hd)⟩
    ·exact absurd a2 (nmo id (by rw[hd];simp))
    ·rcases ext.arr id e t x hd with⟨l',hl',e1 | e1⟩ | e1
     ·exact .inl ⟨_,hl',.inl (q2.symm.trans e1)⟩
     ·rw[<-q2,e1]at po;exact po.elim
     ·rw[<-q2,e1]at po;exact po.elim
    ·rcases ext.arr id e t x hd with⟨l',hl',e1 | e1⟩ | e1<;>rw[q2]at e1<;>cases e1
    ·rw[hd]at q4;cases q4
    ·exact .inr q1
    ·exact absurd w2' (nmo id (by rw[hd];simp))
   ·rcases hcase id with⟨a,a2⟩ | ⟨a,_⟩ | ⟨_,a,_⟩ | ⟨a,a2,_⟩ | ⟨_,a2,⟨po,q2⟩ | ⟨cs,yc,ls',q1,q2,q3⟩ | ⟨ri,s,s0,q1,q2,q4⟩ | q1⟩ | ⟨cs6,yc6,ls6,j6,w1',w2',w3',w4',w5'⟩
    ·exact absurd a2 (nmo id (by rw[hd];simp))
    ·exact .inr (.inr a)
    ·exact .inl ⟨x,f,rfl,a.trans hd⟩
    ·exact absurd a2 (nmo id (by rw[hd];simp))
    ·rcases ext.arrD id e t x f hd with⟨l',f',hl',e1⟩ | ⟨t',l',_,_,e1⟩ | e1
     ·exact .inl ⟨_,_,hl',q2.symm.trans e1⟩
     ·rw[<-q2,e1]at po;exact po.elim
     ·rw[<-q2,e1]at po;exact po.elim
    ·rcases ext.arrD id e t x f hd with⟨l',f',hl',e1⟩ | ⟨t',l',_,_,e1⟩ | e1<;>rw[q2]at e1<;>cases e1
    ·rw[hd]at q4;cases q4
    ·exact .inr (.inr q1)
    ·exact absurd w2' (nmo id (by rw[hd];simp))
   ·rcases hcase id with⟨a,a2⟩ | ⟨a,_⟩ | ⟨_,a,_⟩ | ⟨a,a2,_⟩ | ⟨_,a2,⟨po,q2⟩ | ⟨cs,yc,ls',q1,q2,q3⟩ | ⟨ri,s,s0,q1,q2,q4⟩ | q1⟩ | ⟨cs6,yc6,ls6,j6,w1',w2',w3',w4',w5'⟩
    ·exact absurd a2 (nmo id (by rw[hd];simp))
    ·exact .inr a
    ·exact .inl ⟨x,rfl,.inl ⟨k,f,a.trans hd⟩⟩
    ·exact absurd a2 (nmo id (by rw[hd];simp))
    ·rcases ext.arrK id e t c t1 x k f hd with⟨l',hl',⟨k',f',e1⟩ | e1 | e1⟩ | e1
     ·exact .inl ⟨_,hl',.inl ⟨_,_,q2.symm.trans e1⟩⟩
     ·exact .inl ⟨_,hl',.inr (.inl (q2.symm.trans e1))⟩
     ·rw[<-q2,e1]at po;exact po.elim
     ·rw[<-q2,e1]at po;exact po.elim
    ·rcases ext.arrK id e t c t1 x k f hd with⟨l',hl',⟨k',f',e1⟩ | e1 | e1⟩ | e1<;>rw[q2]at e1<;>cases e1
    ·rw[hd]at q4;cases q4
    ·exact .inr q1
    ·exact absurd w2' (nmo id (by rw[hd];simp))
   ·rcases hcase id with⟨a,a2⟩ | ⟨a,_⟩ | ⟨_,a,_⟩ | ⟨a,a2,_⟩ | ⟨_,a2,⟨po,q2⟩ | ⟨cs,yc,ls',q1,q2,q3⟩ | ⟨ri,s,s0,q1,q2,q4⟩ | q1⟩ | ⟨cs6,yc6,ls6,j6,w1',w2',w3',w4',w5'⟩
    ·exact absurd a2 (nmo id (by rw[hd];simp))
    ·exact .inr a
    ·exact .inl (a.trans hd)
    ·exact absurd a2 (nmo id (by rw[hd];simp))
    ·rcases ext.ice id e t x hd with e1 | e1<;>rw[<-q2,e1]at po<;>exact po.elim
    ·rcases ext.ice id e t x hd with e1 | e1<;>rw[q2]at e1<;>cases e1
    ·rw[hd]at q4;cases q4
    ·exact .inr q1
    ·exact absurd w2' (nmo id (by rw[hd];simp))
   ·rcases hcase id with⟨a,a2⟩ | ⟨a,_⟩ | ⟨_,a,_⟩ | ⟨a,a2,_⟩ | ⟨_,a2,⟨po,q2⟩ | ⟨cs,yc,ls',q1,q2,q3⟩ | ⟨ri',s',s0,q1,q2,q4⟩ | q1⟩ | ⟨cs6,yc6,ls6,j6,w1',w2',w3',w4',w5'⟩
    ·exact absurd a2 (nmo id (by rw[hd];simp))
    ·exact .inr a
    ·exact .inl ⟨rs,a.trans hd⟩
    ·exact absurd a2 (nmo id (by rw[hd];simp))
    ·rcases ext.lrec id ri rs hd with⟨s',e1⟩ | e1<;>rw[<-q2,e1]at po<;>exact po.elim
    ·rcases ext.lrec id ri rs hd with⟨s',e1⟩ | e1<;>rw[q2]at e1<;>cases e1
    ·rw[hd]at q4;cases q4;exact .inl ⟨_,q1⟩
    ·exact .inr q1
    ·exact absurd w2' (nmo id (by rw[hd];simp))
   ·have hnf:st0.h id≠.fresh:=fun e=>by rw[e]at hd;cases hd
    rcases hcase id with⟨a,a2⟩ | ⟨a,_⟩ | ⟨_,a,_⟩ | ⟨a,a2,_⟩ | ⟨_,a2,⟨po,q2⟩ | ⟨cs,yc,ls',q1,q2,q3⟩ | ⟨ri',s',s0,q1,q2,q4⟩ | q1⟩ | ⟨cs6,yc6,ls6,j6,w1',w2',w3',w4',w5'⟩
    ·exact absurd a2 (nmo id hnf)
    ·exact .inr a
    ·exact .inl (by rw[a];exact hd)
    ·exact absurd a2 (nmo id hnf)
    ·rcases ext.maps id hd with e1 | e1
     ·exact .inl (by rw[<-q2];exact e1)
     ·exact .inr (q2.symm.trans e1)
    ·rcases ext.maps id hd with e1 | e1<;>rw[q2]at e1<;>cases e1
    ·rw[q4]at hd;cases hd
    ·exact .inr q1
    ·exact absurd w2' (nmo id hnf)
   ·have hnf:st0.h id≠.fresh:=fun e=>by rw[e]at hd;cases hd
    rcases hcase id with⟨a,a2⟩ | ⟨a,_⟩ | ⟨_,a,_⟩ | ⟨a,a2,_⟩ | ⟨_,a2,⟨po,q2⟩ | ⟨cs,yc,ls',q1,q2,q3⟩ | ⟨ri',s',s0,q1,q2,q4⟩ | q1⟩ | ⟨cs6,yc6,ls6,j6,w1',w2',w3',w4',w5'⟩
    ·exact absurd a2 (nmo id hnf)
    ·exact .inr a
    ·exact .inl ⟨le,cu,by rw[a];exact hd⟩
    ·exact absurd a2 (nmo id hnf)
    ·rcases ext.iter id _ _ _ _ _ _ hd with⟨l1,c1,e1⟩ | e1
     ·exact .inl ⟨l1,c1,q2.symm.trans e1⟩
     ·rw[<-q2,e1]at po;exact po.elim
    ·rcases ext.iter id _ _ _ _ _ _ hd with⟨_,_,e1⟩ | e1<;>rw[q2]at e1<;>cases e1
    ·rw[hd]at q4;cases q4
    ·exact .inr q1
    ·exact absurd w2' (nmo id hnf)
   ·obtain⟨f1,f2⟩:=ext.still b hbf
    exact⟨hstill b f1,f2⟩
  have hkeep:∀ id,(st0.h id).Held->(h2 id).Held/\κ2 id=κ1 id/\(h2 id=.dead\/h2 id=st1.h id\/∃ a b,h2 id=.cells a/\st1.h id=.cells b):=by
   intro id hnf
   have hk:κ2 id=κ1 id:=(hext.place id hnf).trans (ext.place id hnf).symm
   rcases hcase id with⟨a,a2⟩ | ⟨a,_⟩ | ⟨a0,a,_⟩ | ⟨a,a2,_⟩ | ⟨_,a2,⟨po,q2⟩ | ⟨cs,yc,ls',q1,q2,q3⟩ | ⟨ri,s,s0,q1,q2,q4⟩ | q1⟩ | ⟨cs6,yc6,ls6,j6,w1',w2',w3',w4',w5'⟩
   ·exact absurd a2 (nmo id hnf.1)
   ·exact⟨by rw[a];simp,hk,.inl a⟩
   ·exact⟨by rw[a];exact hnf,hk,.inr (.inl a0)⟩
   ·exact absurd a2 (nmo id hnf.1)
   ·exact⟨⟨fun e=>by rw[e]at po;exact po,fun e=>by rw[e]at po;exact po⟩,hk,.inr (.inl q2.symm)⟩
   ·exact⟨by rw[q1];simp,hk,.inr (.inr ⟨_,_,q1,q2⟩)⟩
   ·exact⟨by rw[q1];simp,hk,.inr (.inl (q1.trans q2.symm))⟩
   ·exact⟨by rw[q1];simp,hk,.inl q1⟩
   ·exact absurd w2' (nmo id hnf.1)
  have hold:∀ s u v,RepSV L κ0 st0.h v0 s u->RepSV L κ1 st1.h w1 s v->RepSV L κ2 h2 w1 s v:=by
   intro s u v h0 h1
   cases s with
   | unk=>trivial
   | sc t x=>exact⟨h1.1,h1.2.1,RepAt.mono hfm t _ _ h1.2.2⟩
   | nils=>exact h1
   | nilp=>exact h1
   | udf=>exact h1
   | ne e l=>exact⟨h1.1,RepAt.mono hfm (.list e) _ _ h1.2.1,h1.2.2⟩
   | nx=>exact h1
   | own id =>
    have hnf:(st0.h id).Held:=⟨fun e=>by have:=h0.1;rw[e]at this;exact this,fun e=>by have:=h0.1;rw[e]at this;exact this⟩
    obtain⟨g1,g2,g3⟩:=hkeep id hnf
    refine⟨?_,h1.2⟩
    have h1:=h1.1
    rcases g3 with g | g | ⟨a,b,_,g⟩
    ·rw[g];trivial
    ·rw[g,g2];exact h1
    ·rw[g]at h1;exact h1.elim
   | sub id off len =>
    have hnf:(st0.h id).Held:=⟨fun e=>by have:=h0.1;rw[e]at this;exact this,fun e=>by have:=h0.1;rw[e]at this;exact this⟩
    obtain⟨g1,g2,g3⟩:=hkeep id hnf
    refine⟨?_,h1.2⟩
    have h1:=h1.1
    rcases g3 with g | g | ⟨a,b,_,g⟩
    ·rw[g];trivial
    ·rw[g,g2];exact h1
    ·rw[g]at h1;exact h1.elim
   | ptr id off=>obtain⟨g1,g2,_⟩:=hkeep id h0.1;obtain⟨b,c,r1,r2⟩:=h1.2;exact⟨g1,b,c,g2.trans r1,r2⟩
   | eptr id t i c=>obtain⟨g1,g2,_⟩:=hkeep id h0.1;obtain⟨b,c,r1,r2⟩:=h1.2;exact⟨g1,b,c,g2.trans r1,r2⟩
   | yld id=>obtain⟨g1,g2,_⟩:=hkeep id h0.1;obtain⟨b,c,r1,r2⟩:=h1.2;exact⟨g1,b,c,g2.trans r1,r2⟩
   | mp id=>obtain⟨g1,g2,_⟩:=hkeep id h0.1;obtain⟨b,c,r1,r2⟩:=h1.2;exact⟨g1,b,c,g2.trans r1,r2⟩
   | csl id _ _ _=>obtain⟨g1,g2,_⟩:=hkeep id h0.1;obtain⟨b,c,r1,r2⟩:=h1.2;exact⟨g1,b,c,g2.trans r1,r2⟩
   | stmp id=>obtain⟨g1,g2,_⟩:=hkeep id h0.1;obtain⟨b,c,r1,r2⟩:=h1.2;exact⟨g1,b,c,g2.trans r1,r2⟩
   | mpn=>exact h1
   | gl g=>exact h1
   | cstr b=>exact h1
   | nif=>exact h1
   | nilf=>exact h1
   | pan T=>exact h1
   | ifc T agg cs=>obtain⟨us,r1,r2,r3,r4⟩:=h1;exact⟨us,r1,r2,r3,fun i p u hp hu=>⟨(r4 i p u hp hu).1,(r4 i p u hp hu).2.1,RepAt.mono hfm p.1 _ _ (r4 i p u hp hu).2.2⟩⟩
   | bfp f id off =>
    obtain⟨_,_,p1,_⟩:=h0
    obtain⟨u,r0,_,b,c,r2,r3⟩:=h1
    obtain⟨g1,g2,_⟩:=hkeep id p1
    exact⟨u,r0,g1,b,c,g2.trans r2,r3⟩
   | bfn f agg cs=>obtain⟨us,r1,r2,r3,r4⟩:=h1;exact⟨us,r1,r2,r3,fun i p u hp hu=>⟨(r4 i p u hp hu).1,(r4 i p u hp hu).2.1,RepAt.mono hfm p.1 _ _ (r4 i p u hp hu).2.2⟩⟩
   | gp k x=>obtain⟨b,o,r1,r2,r3⟩:=h1;exact⟨b,o,r1,hstill b r2,r3⟩
   | ro t x c=>obtain⟨b,o,r1,r2,r3⟩:=h1;exact⟨b,o,r1,hfree b r2,RepAt.mono hfm t _ _ r3⟩
   | fn f caps =>
    obtain⟨cs0,_,_,p3⟩:=h0
    obtain⟨cs,r1,r2,r3⟩:=h1
    refine⟨cs,r1,r2,fun i p hp=>?_⟩
    obtain⟨q1,_⟩:=p3 i p hp
    obtain⟨_,b,c,q2,q3⟩:=r3 i p hp
    obtain⟨g1,g2,_⟩:=hkeep p.1 q1
    exact⟨g1,b,c,g2.trans q2,q3⟩
  have holdC:∀ l us vs,RepCells L κ0 st0.h v0 l us->RepCells L κ1 st1.h w1 l vs->RepCells L κ2 h2 w1 l vs:=by
   intro l us vs h0 h1
   refine⟨h1.1,fun i s c hi hc=>⟨?_,(h1.2 i s c hi hc).2⟩⟩
   have hlt:i<us.length:=by rw[h0.1];exact(List.getElem?_eq_some_iff.1 hi).1
   exact hold s us[i] c (h0.2 i s _ hi (List.getElem?_eq_getElem hlt)).1 (h1.2 i s c hi hc).1
  have holdAV:∀ av u v,RepAV L κ0 st0.h v0 av u->RepAV L κ1 st1.h w1 av v->RepAV L κ2 h2 w1 av v:=by
   intro av u v h0 h1
   cases av with
   | one s=>exact hold s u v h0 h1
   | agg l =>
    obtain⟨us,_,h0⟩:=h0
    obtain⟨vs,hv,h1⟩:=h1
    exact⟨vs,hv,holdC l us vs h0 h1⟩
   | tup l =>
    obtain⟨us,_,hul,h0⟩:=h0
    obtain⟨vs,hv,hvl,h1⟩:=h1
    refine⟨vs,hv,hvl,fun i c x hi hx=>?_⟩
    have hlt:i<us.length:=by rw[hul];exact(List.getElem?_eq_some_iff.1 hi).1
    have h0:=h0 i c us[i] hi (List.getElem?_eq_getElem hlt)
    have h1:=h1 i c x hi hx
    match c,h0,h1 with
    | (true,l'),⟨us',_,h0⟩,⟨vs',hv',h1⟩=>exact⟨vs',hv',holdC l' us' vs' h0 h1⟩
    | (false,[s]),h0,h1=>exact hold s _ _ h0 h1
    | (false,[]),h0,_=>exact h0.elim
    | (false,_::_::_),h0,_=>exact h0.elim
  have hpart:∀ (n n0:Nat) (o:Option Nat) (t:KTy) (u v:Value) {y y0:t.den},κ2 n=κ1 n->RepPart L κ0 st0.h v0 n0 o t u y0->RepPart L κ1 st1.h w1 n o t v y->RepPart L κ2 h2 w1 n o t v y:=by
   intro n n0 o t u v y y0 hn h0 h1
   cases o with
   | none=>exact RepKid.at hfree hn h1
   | some g=>exact⟨hold _ _ _ h0.1 h1.1,(hkeep g h0.2).1⟩
  have hlrec:∀ id ri s s0,κ2 id=κ1 id->st1.h id=.lrec ri s->st0.h id=.lrec ri s0->RepObj L κ2 h2 w1 id (.lrec ri s):=by
   intro id ri s s0 hk h1 h0
   have ho1:=sim1.heap.obj id
   have ho0:=sim0.heap.obj id
   rw[h1]at ho1
   rw[h0]at ho0
   obtain⟨b,c,r1,p1,p2,p3,p4,p5,p6,p7,p8,p9⟩:=ho1
   obtain⟨_,_,r0,_,_,_,_,_,_,_,_,q9⟩:=ho0
   exact⟨b,c,r1,hk.trans p1,p2,p3,p4,p5,p6,p7,p8,fun t=>holdAV _ _ _ (q9 t) (p9 t)⟩
  have hgk:∀ p n b c,p∈mo++sr->κ2 (kn p n)=some (b,c)->∃ j,B9 p m=some (some j)/\φ (kn p n)=kn j n:=fun p n b c hp hk=>by
   have hk':(ψ (kn p n)).bind κ1=some (b,c):=hk
   have hψ:=hψk p n hp
   split at hψ
   ·rename_i j hj;exact⟨j,hj,by simp only[φ,hψ,Option.getD_some]⟩
   ·rw[hψ]at hk';cases hk'
  have hgo:∀ a n q b c,a∈mo++sr->κ2 q=some (b,c)->(¬ ∃ p n,q=kn p n/\p∈mo++sr)->kn a n≠φ q:=fun a n q b c ha hk hg e=>by
   cases hl:B9 q m with
   | none =>
    rw[hφn q hl (fun p n e hp=>hg ⟨p,n,e,hp⟩)]at e
    exact hg ⟨a,n,e.symm,ha⟩
   | some x =>
    cases x with
    | none=>rw[hκ0 q hl]at hk;cases hk
    | some s =>
     rw[hφs q s hl]at e
     rcases List.mem_append.1 (hsub s (X7 hl))with hm | hm
     ·have:=hmo s hm;rw[<-e,K8 sim0.heap a n]at this;cases this
     ·have:=List.all_eq_true.1 hsrk s hm;rw[<-e,K8 sim1.heap a n]at this;cases this
  have hheap:HeapOK L w0 κ2 h2 w1:=by
   refine⟨fun id=>?_,fun i j b c c' hi hj h1 h2'=>?_,fun i b c hi h1=>?_,sim1.heap.below,fun b hL=>⟨(sim1.heap.outer b hL).1,fun i c hi h1=>?_⟩,fun id hle=>hkids id (sim0.heap.kids id hle)⟩
   ·rcases hcase id with⟨a,_⟩ | ⟨a,_⟩ | ⟨a,a1,m1,m2,_,a5⟩ | ⟨a,q0,⟨j,q1,q2⟩ | ⟨q1,e9,t9,q2⟩⟩ | ⟨q0,a2,⟨po,q2⟩ | ⟨cs,yc,ls,q1,q2,q3⟩ | ⟨ri,s,s0,q1,q2,q4⟩ | q1⟩ | ⟨cs6,yc6,ls6,j6,w1',w2',w3',w4',w5'⟩
    ·rw[a];trivial
    ·rw[a];trivial
    ·have hob:=sim1.heap.obj id
     rw[<-a]at hob
     by_cases hkd:st1.h id=.kid
     ·rw[a,hkd];trivial
     have hk:=hκn id a5 hkd
     have hng:id∉mo++sr:=fun h=>(List.mem_append.1 h).elim m1 m2
     have hkp:∀ i,κ2 (kn id i)=κ1 (kn id i):=fun i=>hkid id i hng
     cases hq:h2 id with
     | fresh=>trivial
     | dead=>trivial
     | cells ls =>
      rw[hq]at hob
      obtain⟨b,c,cs,ty,r1,r2,r3,r4⟩:=hob
      refine⟨b,c,cs,ty,hk.trans r1,r2,r3,fun i s u hi hu=>?_⟩
      obtain⟨t1,t2⟩:=r4 i s u hi hu
      refine⟨?_,t2⟩
      have hid0:st0.h id=.cells ls:=by rw[<-a1];exact hq
      have ho0:=sim0.heap.obj id
      rw[hid0]at ho0
      obtain⟨_,_,cs0,_,_,_,p3,p4⟩:=ho0
      have hlt:i<cs0.length:=by rw[p3];exact(List.getElem?_eq_some_iff.1 hi).1
      exact hold s cs0[i] u (p4 i s _ hi (List.getElem?_eq_getElem hlt)).1 t1
     | arr e t x=>rw[hq]at hob;exact harr id id e t x hk hob
     | ice e t x=>rw[hq]at hob;exact⟨harr id id e t x hk hob.1,fun b c hb=>hfree b (hob.2 b c (by rw[<-hk];exact hb))⟩
     | lrec ri s=>exact hlrec id ri s s hk (by rw[<-a,hq]) (by rw[<-a1,hq])
     | mapo ak av tk tv x=>rw[hq]at hob;exact hpure id _ hng hk trivial hob
     | mice ak av tk tv x =>
      rw[hq]at hob
      obtain⟨b,c,es,cl,r1,r2,r3,r4⟩:=hob
      exact⟨b,c,es,cl,hk.trans r1,hfree b r2,r3,r4.mono hfm⟩
     | iter ak av tk tv le cu =>
      rw[hq]at hob
      obtain⟨b,c,mm,si,se,c0,r1,r2,r3⟩:=hob
      exact⟨b,c,mm,si,se,c0,hk.trans r1,r2,r3.mono hfm⟩
     | kid=>trivial
     | arrD e t x f =>
      rw[hq]at hob
      have hid0:st0.h id=.arrD e t x f:=by rw[<-a1];exact hq
      have ho0:=sim0.heap.obj id
      rw[hid0]at ho0
      rcases hob with⟨a,b,c⟩ | ⟨b,cap,cur,r1,r2,r3,r4,r5,r6,r7⟩
      ·exact .inl ⟨hk.trans a,b,c⟩
      ·refine .inr ⟨b,cap,cur,hk.trans r1,r2,r3,r4,r5,r6,fun i y hy=>?_⟩
       obtain⟨v,v1,v2⟩:=r7 i y hy
       refine⟨v,v1,?_⟩
       rcases ho0 with⟨_,e0,_⟩ | ⟨_,_,_,_,_,_,_,_,_,p7⟩
       ·rw[e0]at hy;simp at hy
       ·obtain⟨u,_,u2⟩:=p7 i y hy
        exact hpart _ _ _ _ _ _ (hkp _) u2 v2
     | arrK e t c t1 x k f =>
      rw[hq]at hob
      have hid0:st0.h id=.arrK e t c t1 x k f:=by rw[<-a1];exact hq
      have ho0:=sim0.heap.obj id
      rw[hid0]at ho0
      rcases hob with⟨a,b⟩ | ⟨b,cap,cur,r1,r2,r3,r4,r5,r6,r7,r8,r9,r10⟩
      ·exact .inl ⟨hk.trans a,b⟩
      ·refine .inr ⟨b,cap,cur,hk.trans r1,r2,r3,r4,r5,r6,r7,r8,fun i y hy=>RepAt.mono hfm t _ y (r9 i y hy),fun i y hy=>?_⟩
       obtain⟨v,v1,v2⟩:=r10 i y hy
       refine⟨v,v1,?_⟩
       rcases ho0 with⟨_,_,e0,_⟩ | ⟨_,_,_,_,_,_,_,_,_,_,_,_,p10⟩
       ·rw[e0]at hy;simp at hy
       ·obtain⟨u,_,u2⟩:=p10 i y hy
        exact hpart _ _ _ _ _ _ (hkp _) u2 v2
     | mapD ak tk t x f =>
      rw[hq]at hob
      obtain⟨b,c,es,cl,r1,r2,r3⟩:=hob
      have hid0:st0.h id=.mapD ak tk t x f:=by rw[<-a1];exact hq
      have ho0:=sim0.heap.obj id
      rw[hid0]at ho0
      obtain⟨_,_,es0,_,_,_,s3⟩:=ho0
      obtain⟨p,p1,p2,p3⟩:=r3.ents
      obtain⟨p0,s1,s2,s4⟩:=s3.ents
      refine⟨b,c,es,cl,hk.trans r1,r2,r3.flat,r3.rise,r3.apart,r3.early,p,p1,p2,fun i z q hz hq'=>?_⟩
      obtain⟨t1,t2,t3⟩:=p3 i z q hz hq'
      have hm0:q∈p0:=s1.symm.mem_iff.1 (p1.mem_iff.1 (List.mem_of_getElem? hq'))
      obtain⟨i0,hi0,he0⟩:=List.getElem_of_mem hm0
      have hq0:p0[i0]? = some q:=by rw[List.getElem?_eq_getElem hi0,he0]
      have hz0:es0.toList[i0]? = some es0.toList[i0]:=List.getElem?_eq_getElem (by rw[<-s2];exact hi0)
      exact⟨t1.mono hfm,t2,hpart _ _ _ _ _ _ (hkp _) (s4 i0 _ q hz0 hq0).2.2 t3⟩
     | mapp ak av tk tv x k g =>
      rw[hq]at hob
      obtain⟨b,c,es,cl,r1,r2,r3,r4,n,c',r5,y0,r6,r7,r8⟩:=hob
      have hid0:st0.h id=.mapp ak av tk tv x k g:=by rw[<-a1];exact hq
      have ho0:=sim0.heap.obj id
      rw[hid0]at ho0
      obtain⟨_,_,_,_,_,_,_,p4,_⟩:=ho0
      have hg:κ2 g=κ1 g:=(hext.place g p4).trans (ext.place g p4).symm
      exact⟨b,c,es,cl,hk.trans r1,r2,r3.mono hfm,hext.keeps p4,n,c',hg.trans r5,y0,r6,r7,r8.mono hfm⟩
    ·have hob:=sim1.heap.obj j
     rw[q2.1]at hob
     exact hpure0 id j _ (hκs id j q1) (fun i=>by
      show(ψ (kn id i)).bind κ1=_
      rw[hψk id i (List.mem_append_left _ q0),q1];rfl) q2.2 hob
    ·rw[q2];exact .inl ⟨hκ0 id q1,rfl⟩
    ·have hob:=sim1.heap.obj id
     rw[q2]at hob
     exact hpure id _ (fun h=>(List.mem_append.1 h).elim (wdis id q0).1 (wdis id q0).2) (hκn id a2 (fun e=>by rw[<-q2,e]at po;exact po)) po hob
    ·have hob:=sim1.heap.obj id
     rw[q2]at hob
     obtain⟨b,c,cells,ty,r1,r2,r3,r4⟩:=hob
     rw[q1]
     refine⟨b,c,cells,ty,(hκn id a2 (by rw[q2];simp)).trans r1,r2,r3.trans q3.1,fun i s u hi hu=>?_⟩
     obtain⟨s0,hs0,hma⟩:=q3.2 i s hi
     exact hmatch s0 s u hma (r4 i s0 u hs0 hu).1
    ·rw[q1];exact hlrec id ri s s0 (hκn id a2 (by rw[q2];simp)) q2 q4
    ·rw[q1];trivial
    ·have hob:=sim1.heap.obj j6
     rw[w4']at hob
     obtain⟨b,c,cells,ty,r1,r2,r3,r4⟩:=hob
     rw[w1']
     refine⟨b,c,cells,ty,(hκs id j6 w3').trans r1,r2,r3.trans w5'.1,fun i s u hi hu=>?_⟩
     obtain⟨s0,hs0,hma⟩:=w5'.2 i s hi
     exact hmatch s0 s u hma (r4 i s0 u hs0 hu).1
   ·obtain⟨i1,i2⟩:=live i b c hi h1
    obtain⟨j1,j2⟩:=live j b c' hj h2'
    have hφ:=sim1.heap.inj (φ i) (φ j) b c c' i1 j1 i2 j2
    by_cases gi:∃ p n,i=kn p n/\p∈mo++sr<;>by_cases gj:∃ p n,j=kn p n/\p∈mo++sr
    ·obtain⟨p,n,rfl,hp⟩:=gi
     obtain⟨p',n',rfl,hp'⟩:=gj
     obtain⟨a,a1,a2⟩:=hgk p n b c hp h1
     obtain⟨a',a1',a2'⟩:=hgk p' n' b c' hp' h2'
     rw[a2,a2']at hφ
     obtain⟨rfl,rfl⟩:=N0 hφ
     rw[z25 hnd a1 a1']
    ·obtain⟨p,n,rfl,hp⟩:=gi
     obtain⟨a,a1,a2⟩:=hgk p n b c hp h1
     rw[a2]at hφ
     exact(hgo a n j b c' (hsub a (X7 a1)) h2' gj hφ).elim
    ·obtain⟨p,n,rfl,hp⟩:=gj
     obtain⟨a,a1,a2⟩:=hgk p n b c' hp h2'
     rw[a2]at hφ
     exact(hgo a n i b c (hsub a (X7 a1)) h1 gi hφ.symm).elim
    replace gi:∀ p n,i=kn p n->p∉mo++sr:=fun p n e hp=>gi ⟨p,n,e,hp⟩
    replace gj:∀ p n,j=kn p n->p∉mo++sr:=fun p n e hp=>gj ⟨p,n,e,hp⟩
    cases hli:B9 i m with
    | none =>
     rw[hφn i hli gi]at hφ
     cases hlj:B9 j m with
     | none=>rw[hφn j hlj gj]at hφ;exact hφ
     | some q =>
      cases q with
      | none=>rw[hκ0 j hlj]at h2';cases h2'
      | some a=>rw[hφs j a hlj]at hφ;exact absurd (hsub a (X7 hlj)) (hφ▸hout i hli hi)
    | some q =>
     cases q with
     | none=>rw[hκ0 i hli]at h1;cases h1
     | some a =>
      rw[hφs i a hli]at hφ
      cases hlj:B9 j m with
      | none=>rw[hφn j hlj gj]at hφ;exact absurd (hsub a (X7 hli)) (hφ▸hout j hlj hj)
      | some q =>
       cases q with
       | none=>rw[hκ0 j hlj]at h2';cases h2'
       | some a'=>rw[hφs j a' hlj]at hφ;subst hφ;exact z25 hnd hli hlj
   ·obtain⟨i1,i2⟩:=live i b c hi h1
    exact sim1.heap.own (φ i) b c i1 i2
   ·obtain⟨i1,i2⟩:=live i b c hi h1
    exact(sim1.heap.outer b hL).2 (φ i) c i1 i2
  refine⟨κ2,⟨?_,fun t=>?_,hheap,sim1.defs,sim1.rnd⟩,hext,hfree⟩
  ·exact sim1.size.trans hn
  ·show RepAV L κ2 h2 w1 (G1 l y (fun t=>cond (E4 mt t) (.one .unk) (st0.ρ t)) t) _
   rcases hE (fun t=>cond (E4 mt t) (.one .unk) (st0.ρ t)) t with⟨a,a2⟩ | ⟨a,s,s',q1,q2,q3⟩
   ·rw[a]
    cases hq:E4 mt t with
    | true=>trivial
    | false =>
     have hnt:t∉mt:=fun h=>by rw[memb_iff.2 h]at hq;cases hq
     rw[htmp t hnt]
     exact RepAV.ext hext (sim0.env t)
   ·rw[q2]
    have hr:=sim1.env t
    rw[q1]at hr
    exact(hmatch s s' _ q3 hr).1
 ·cases he
def q6c (L:Nat->Prop) (w0:World) (v:List (Nat×AObj)) (h:Heap):Prop :=
 ∀ κ w,HeapOK L w0 κ h w->∃ κ',HeapOK L w0 κ' (A5 v h) w/\Ext L κ h w κ' (A5 v h) w
theorem y42 {R:Type} {h:Heap} {id:Nat} {K:List (Nat×AObj)->Option R} {z:R} (g:z61 h id K=some z):∃ v,K v=some z/\q6c L w0 v h:=by
 unfold z61 at g
 split at g
 ·rename_i e t l f b
  split at g
  ·rename_i q u a
   refine⟨_,g,fun j w i=>?_⟩
   obtain⟨d,m,o,p,n⟩:=q6p i b a
   rw[I9]
   exact⟨d,m⟩
  grind
 ·rename_i x y t l f b
  split at g
  ·rename_i q u a
   refine⟨_,g,fun j w i=>?_⟩
   obtain⟨d,m,o,n⟩:=q4k i b a
   rw[I9]
   exact⟨d,m⟩
  grind
 ·rename_i e t c r l k f b
  split at g
  ·rename_i s u a
   refine⟨_,g,fun j w i=>?_⟩
   obtain⟨d,m,o,p,n⟩:=q6r i b a
   rw[I9]
   exact⟨d,m⟩
  grind
 ·exact⟨_,g,fun j w i=>⟨j,i,Ext.refl L j h w⟩⟩
theorem y8x {R:Type} {h:Heap} {id:Nat} {K:List (Nat×AObj)->Option R} {z:R} (a:j00 h id K=some z):∃ v,K v=some z/\q6c L w0 v h:=by
 unfold j00 at a
 split at a
 ·rename_i e t c q s l k f d
  split at a
  ·rename_i r u i
   obtain⟨x,p,a⟩:=Option.bind_eq_some_iff.1 a
   refine⟨_,a,fun b w g=>?_⟩
   obtain⟨n,j,-⟩:=q6r g d i
   obtain⟨o,m⟩:=y8z j.1 (A1 _ _ _) p
   rw[I9,I9]
   exact⟨_,o,j.2.trans m⟩
  grind
 ·exact⟨_,a,fun b w g=>⟨b,g,Ext.refl L b h w⟩⟩
theorem z60 {R:Type} {K:List (Nat×AObj)->Heap->Option R} {z:R}:∀ (ids:List (Bool×Nat)) (u:List (Nat×AObj)) (h:Heap),q6q K ids u h=some z->∃ v,K (u++v) (A5 v h)=some z/\q6c L w0 v h
 | [],u,h,d=>⟨[],by rw[List.append_nil];exact d,fun c w f=>⟨c,f,Ext.refl L c h w⟩⟩
 | (b,id)::r,u,h,d=>by
  have a:∃ v,q6q K r (u++v) (A5 v h)=some z/\q6c L w0 v h:=by
   cases b with
   | true=>exact y8x (L:=L) (w0:=w0) d
   | false=>exact y42 (L:=L) (w0:=w0) d
  obtain⟨v,i,o⟩:=a
  obtain⟨p,m,n⟩:=z60 r (u++v) (A5 v h) i
  refine⟨v++p,by grind[I9],fun c w f=>?_⟩
  obtain⟨g,q,l⟩:=o c w f
  obtain⟨e,j,k⟩:=n g w q
  rw[I9]
  exact⟨e,j,l.trans k⟩
theorem j4r {R:Type} {b:St} {mt d c a:List Nat} {l:List LI} {K:D5 l->Option R} {z:R} (e:M3 b mt d c a l K=some z) :
  ∃ v,q6c L w0 v b.h/\(∀ p∈v,(p.1∈d\/p.1∈c\/p.1∈a)/\j6x (b.h p.1)=true)/\q4u { b with h:=A5 v b.h } mt d c a l K=some z:=by
 obtain⟨v,f,g⟩:=z60 (L:=L) (w0:=w0) _ _ _ e
 grind[memb_iff]
theorem j4p {R:Type} {b:St} {mt d c a:List Nat} {l:List LI} {K:D5 l->Option R} {z:R} (e:M3 b mt d c a l K=some z):b.h C0=.fresh:=by
 obtain⟨v,f,-⟩:=z60 (L:=fun _=>False) (w0:=default) _ _ _ e
 grind[j5w]
theorem j4q {R:Type} {st0 a:St} {mt q s j:List Nat} {l:List LI} {K:D5 l->Option R} {z:R} (he:M3 a mt q s j l K=some z) :
  ∃ y,K y=some z/\(∀ id∈j,(∃ Q S O T l c,a.h id=.iter Q S O T l c)->(C1 st0 mt q s l y).h id=a.h id)/\∀ B r f F A k D n,Sim P L w0 B r f st0 F A->Sim P L w0 B r k a D n->Ext L f st0.h A k a.h n->(∀ t,t∉mt->D.tmps.getD t undef=F.tmps.getD t undef) ->
   (∀ id,id∉q->id∉s->id∉j->a.h id=st0.h id)->(∀ id∈q,st0.h id=.fresh)->a.n=st0.n ->
   ∃ i,Sim P L w0 B r i (C1 st0 mt q s l y) D n/\Ext L f st0.h A i (C1 st0 mt q s l y).h n/\∀ b,A3 L k a.h n b->A3 L i (C1 st0 mt q s l y).h n b:=by
 obtain⟨v,g,hv,J⟩:=j4r (L:=L) (w0:=w0) he
 obtain⟨y,hy,Y,hs⟩:=y5m (P:=P) (L:=L) (w0:=w0) (st0:=st0) J
 have o:∀ id,(∀ p∈v,p.1≠id)->A5 v a.h id=a.h id:=fun id E=>q3f v a.h E
 refine⟨y,hy,fun id E H=>?_,fun B r f F A k D n C d ext u x G V=>?_⟩
 ·have ho:=o id (fun p N e=>by
   obtain⟨Q,S,O,T,l,c,H⟩:=H
   have:=(hv p N).2
   rw[e,H]at this
   cases this)
  grind
 ·obtain⟨I,M,m⟩:=g k n d.heap
  obtain⟨i,U,X,s3⟩:=hs B r f F A I D n C ⟨d.size,fun t=>(d.env t).ext m,M,d.defs,d.rnd⟩ (ext.trans m) u
   (fun id W h2 Z=>(o id (fun p N e=>by
    grind)).trans (x id W h2 Z)) G V
  exact⟨i,U,X,fun b hb=>s3 b (m.free b hb).1⟩
end Go.Abs
