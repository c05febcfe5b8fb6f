/- The engine, part 16: a state may be taken for its fixed form. -/
import Derived.Test.YtkfjlcdaepckoaaAbsCanon
namespace Go.Abs
open Go Go.RowKit
variable {P:Program} {L:Nat->Prop} {w0:World}
def q91 (m:List (Nat×Option Nat)) (gone:List Nat) (h:Heap) (s s':SV):Prop :=
 (∃ t x,s'=.sc t x/\N3 m gone h t s=some x/\t.size=1)\/(∃ id,s'=.own id/\q84 m gone id s=true)\/(∃ id j,((s'=.ptr id 0/\s=.ptr j 0)\/(s'=.mp id/\s=.mp j))/\C9 id m=some (some j))\/((s'=.nilp/\s=.nilp)\/(s'=.mpn/\s=.mpn))\/(∃ id a b,s'=.sub id a b/\s=.sub id a b/\C9 id m=none/\id∉gone)\/(∃ id,s'=.mp id/\s=.mp id/\C9 id m=none/\id∉gone)
def q31 (m:List (Nat×Option Nat)) (gone:List Nat) (h:Heap) (cs:List CI) (y:V9 cs) (ls:List SV):Prop :=
 ls.length=(J4 cs y).length/\∀ (i:Nat) (s':SV),(J4 cs y)[i]? = some s'->∃ s,ls[i]? = some s/\q91 m gone h s s'
theorem q9r {m:List (Nat×Option Nat)} {gone:List Nat} {h:Heap} {t:Ty} {s:SV} {x:t.den} (hd:N3 m gone h t s=some x):t.size=1/\((∃ z,s=.sc t z/\z=x)\/(∃ e,t=.list e/\s=.nils/\HEq x ([]:List e.den)) \/
  (∃ e,∃ l:List e.den,t=.list e/\HEq x l/\B5 h e s=some l/\(∀ id∈F7 s,Y1 m gone h id=true)/\((∃ id,s=.own id)\/∃ id a b,s=.sub id a b)) \/
  ∃ ak av k v,∃ l:List (Ty.den k×Ty.den v),t=.map ak av k v/\HEq x l/\L5 h ak av k v s=some l/\(∀ id∈F7 s,Y1 m gone h id=true)/\(s=.mpn\/∃ id,s=.mp id)):=by
 cases s with
 | sc t' z =>
  simp only[N3]at hd
  obtain⟨hs,hd⟩:=A7 hd
  obtain⟨e,hz⟩:=G4 hd
  subst e;subst hz
  exact⟨Nat.eq_of_beq_eq_true hs,.inl ⟨_,rfl,rfl⟩⟩
 | nils =>
  cases t with
  | list e=>simp only[N3,Option.some.injEq]at hd;subst hd;exact⟨rfl,.inr (.inl ⟨e,rfl,rfl,HEq.rfl⟩)⟩
  | _=>simp[N3]at hd
 | own id =>
  cases t with
  | list e =>
   simp only[N3]at hd
   obtain⟨h1,h2⟩:=A7 hd
   exact⟨rfl,.inr (.inr (.inl ⟨e,x,rfl,HEq.rfl,h2,fun i hi=>by simp[F7]at hi;subst hi;exact h1,.inl ⟨id,rfl⟩⟩))⟩
  | _=>simp[N3]at hd
 | sub id a b =>
  cases t with
  | list e =>
   simp only[N3]at hd
   obtain⟨h1,h2⟩:=A7 hd
   exact⟨rfl,.inr (.inr (.inl ⟨e,x,rfl,HEq.rfl,h2,fun i hi=>by simp[F7]at hi;subst hi;exact h1,.inr ⟨id,a,b,rfl⟩⟩))⟩
  | _=>simp[N3]at hd
 | mp id =>
  cases t with
  | map ak av k v =>
   simp only[N3]at hd
   obtain⟨h1,h2⟩:=A7 hd
   exact⟨rfl,.inr (.inr (.inr ⟨ak,av,k,v,x,rfl,HEq.rfl,h2,fun i hi=>by simp[F7]at hi;subst hi;exact h1,.inr ⟨id,rfl⟩⟩))⟩
  | _=>simp[N3]at hd
 | _=>cases t<;>simp[N3]at hd
def Ty.one:Ty->Bool
 | .int _ | .bool | .list _ | .map _ _ _ _=>true
 | _=>false
theorem q3q {R:Type} {m:List (Nat×Option Nat)} {gone:List Nat} {h:Heap}:∀ (cs:List CI) (ls:List SV) (K:V9 cs->Option R) (z:R),exC m gone h cs ls K=some z ->
  ∃ y,K y=some z/\q31 m gone h cs y ls
 | [],[],K,z,he=>⟨(),he,rfl,fun i s' hi=>by simp[J4]at hi⟩
 | [],_::_,_,_,he=>by simp[exC]at he
 | .v _::_,[],_,_,he=>by simp[exC]at he
 | .o _::_,[],_,_,he=>by simp[exC]at he
 | .m _::_,[],_,_,he=>by simp[exC]at he
 | .v t::r,s::l,K,z,he=>by
  simp only[exC]at he
  split at he
  ·rename_i x hx
   obtain⟨y,hy,h1,h2⟩:=q3q r l _ z he
   refine⟨(x,y),hy,by simp[J4,h1],fun i s' hi=>?_⟩
   cases i with
   | zero =>
    simp[J4]at hi;subst hi
    exact⟨s,rfl,.inl ⟨t,x,rfl,hx,(q9r hx).1⟩⟩
   | succ i=>simp only[J4,List.getElem?_cons_succ]at hi ⊢;exact h2 i s' hi
  ·cases he
 | .o id::r,s::l,K,z,he=>by
  simp only[exC]at he
  obtain⟨hsr,he⟩:=A7 he
  obtain⟨y,hy,h1,h2⟩:=q3q r l _ z he
  refine⟨y,hy,by simp[J4,h1],fun i s' hi=>?_⟩
  cases i with
  | zero=>simp[J4]at hi;subst hi;exact⟨s,rfl,.inr (.inl ⟨id,rfl,hsr⟩)⟩
  | succ i=>simp only[J4,List.getElem?_cons_succ]at hi ⊢;exact h2 i s' hi
 | .m id::r,s::l,K,z,he=>by
  simp only[exC]at he
  obtain⟨hsr,he⟩:=A7 he
  obtain⟨y,hy,h1,h2⟩:=q3q r l _ z he
  refine⟨y,hy,by simp[J4,h1],fun i s' hi=>?_⟩
  cases i with
  | zero =>
   simp[J4]at hi;subst hi
   unfold j0h at hsr
   split at hsr
   ·rename_i hl
    simp only[Bool.and_eq_true,Bool.not_eq_true']at hsr
    have e:=Nat.eq_of_beq_eq_true hsr.1
    subst e
    exact⟨_,rfl,.inr (.inr (.inr (.inr (.inr ⟨_,rfl,rfl,hl,fun hm=>by rw[memb_iff.2 hm]at hsr;exact absurd hsr.2 (by simp)⟩))))⟩
   ·cases hsr
  | succ i=>simp only[J4,List.getElem?_cons_succ]at hi ⊢;exact h2 i s' hi
theorem XK.beq_eq {a b:XK} (h:XK.beq a b=true):a=b:=by
 cases a<;>cases b<;>first | rfl | cases h | (rw[Nat.eq_of_beq_eq_true h])
theorem RS.beq_eq {a b:RS} (h:RS.beq a b=true):a=b:=by
 cases a<;>cases b<;>first | rfl | cases h | (rw[XK.beq_eq h])
def AObj.pure0:AObj->Prop
 | .arr .. | .mapo .. | .iter ..=>True
 | _=>False
def AObj.pure:AObj->Prop
 | .arr .. | .mapo .. | .iter .. | .arrD _ _ _ none | .mapD _ _ _ _ none=>True
 | _=>False
def HSpec (m:List (Nat×Option Nat)) (gone:List Nat) (h:Heap) (l:List LI) (o base:AObj) (id:Nat):Prop :=
 (o=base/\id∉F9 l/\id∉D3 l) \/
 (o.pure/\((id∈F9 l/\((∃ j,C9 id m=some (some j)/\h j=o/\o.pure0)\/(C9 id m=some none/\∃ e t,o=.arr e t [])))\/(id∈D3 l/\h id=o))) \/
 (∃ cs yc ls,id∈D3 l/\o=.cells (J4 cs yc)/\h id=.cells ls/\q31 m gone h cs yc ls) \/
 (∃ i s,id∈D3 l/\o=j10 base s/\h id=.lrec i s) \/
 ∃ cs yc ls j,id∈F9 l/\o=.cells (J4 cs yc)/\C9 id m=some (some j)/\h j=.cells ls/\q31 m gone h cs yc ls
theorem HSpec.cons {m:List (Nat×Option Nat)} {gone:List Nat} {h:Heap} {i:LI} {l:List LI} {o base:AObj} {id:Nat} (hs:HSpec m gone h l o base id) (h1:id∈F9 (i::l)->id∈F9 l) (h2:id∈D3 (i::l)->id∈D3 l)
  (h3:id∈F9 l->id∈F9 (i::l)) (h4:id∈D3 l->id∈D3 (i::l)):HSpec m gone h (i::l) o base id:=by
 rcases hs with⟨a,b,c⟩ | ⟨a,b⟩ | ⟨cs,yc,ls,a,b⟩ | ⟨i',s',a,b⟩ | ⟨cs,yc,ls,j,a,b⟩
 ·exact .inl ⟨a,fun hm=>b (h1 hm),fun hm=>c (h2 hm)⟩
 ·refine .inr (.inl ⟨a,?_⟩)
  rcases b with⟨b1,b2⟩ | ⟨b1,b2⟩
  ·exact .inl ⟨h3 b1,b2⟩
  ·exact .inr ⟨h4 b1,b2⟩
 ·exact .inr (.inr (.inl ⟨cs,yc,ls,h4 a,b⟩))
 ·exact .inr (.inr (.inr (.inl ⟨i',s',h4 a,b⟩)))
 ·exact .inr (.inr (.inr (.inr ⟨cs,yc,ls,j,h3 a,b⟩)))
theorem z8b {R:Type} {h:Heap} {id:Nat} {ak av:Bool} {tk tv:Ty} {K:List (tk.den×tv.den)->Option R} {z:R} (he:q6z h id ak av tk tv K=some z):∃ x,h id=.mapo ak av tk tv x/\K x=some z:=by
 unfold q6z at he
 split at he
 ·rename_i ak' av' tk' tv' x hx
  split at he
  ·rename_i x' hx'
   obtain⟨hc,he2⟩:=A7 he
   simp only[Bool.and_eq_true,beq_iff_eq]at hc
   obtain⟨rfl,rfl⟩:=hc
   obtain⟨htt,hxx⟩:=G4 hx'
   cases htt
   change x=x' at hxx
   subst hxx
   exact⟨x,hx,he2⟩
  ·cases he
 ·cases he
theorem j7a {R:Type} {h:Heap} {id:Nat} {ak av:Bool} {tk tv:Ty} {K:List (tk.den×tv.den)->Option (tk.den×tv.den)->Option R} {z:R} (he:z1x h id ak av tk tv K=some z):∃ x c,h id=.iter ak av tk tv x c/\K x c=some z:=by
 unfold z1x at he
 split at he
 ·rename_i ak' av' tk' tv' x c hx
  split at he
  ·rename_i x' c' hx' hc'
   obtain⟨hc,he2⟩:=A7 he
   simp only[Bool.and_eq_true,beq_iff_eq]at hc
   obtain⟨rfl,rfl⟩:=hc
   obtain⟨htt,hxx⟩:=G4 hx'
   cases htt
   change x=x' at hxx
   subst hxx
   obtain⟨_,hcc⟩:=G4 hc'
   change c.toList=c' at hcc
   subst hcc
   exact⟨x,c,hx,by cases c<;>exact he2⟩
  ·cases he
 ·cases he
theorem j4p {R:Type} {h:Heap} {id:Nat} {e:TypeId} {t:KTy} {K:List t.den->Option R} {z:R} (he:q9a h id e t K=some z):∃ x,h id=.arrD e t x none/\K x=some z:=by
 unfold q9a at he
 split at he
 ·rename_i e' t' x hx
  split at he
  ·rename_i h1 _
   obtain⟨hc,he2⟩:=A7 he
   have hc:=Nat.eq_of_beq_eq_true hc
   subst h1;subst hc
   exact⟨x,hx,he2⟩
  ·cases he
 ·cases he
theorem j7s {R:Type} {h:Heap} {id:Nat} {ak:Bool} {tk:Ty} {t:KTy} {K:List (tk.den×t.den)->Option R} {z:R} (he:z25 h id ak tk t K=some z):∃ x,h id=.mapD ak tk t x none/\K x=some z:=by
 unfold z25 at he
 split at he
 ·rename_i ak' tk' t' x hx
  split at he
  ·rename_i h1 h2 _ _
   obtain⟨hc,he2⟩:=A7 he
   rw[beq_iff_eq]at hc
   subst h1;subst h2;subst hc
   exact⟨x,hx,he2⟩
  ·cases he
 ·cases he
theorem K2 {R:Type} {m:List (Nat×Option Nat)} {gone:List Nat} {ρ:Env} {h:Heap} :
  ∀ (l:List LI) (K:C7 l->Option R) (z:R),exI m gone ρ h l K=some z ->
  ∃ y,K y=some z/\(∀ hb id,HSpec m gone h l (C2 l y hb id) (hb id) id) /\
   ∀ ρb t,(F2 l y ρb t=ρb t/\t∉E4 l)\/(t∈E4 l/\∃ s s',ρ t=.one s/\F2 l y ρb t=.one s'/\q91 m gone h s s')
 | [],K,z,he=>⟨(),he,fun hb id=>.inl ⟨rfl,by simp[F9],by simp[D3]⟩,fun ρb t=>.inl ⟨rfl,by simp[E4]⟩⟩
 | .tmp s t::r,K,z,he=>by
  simp only[exI]at he
  split at he
  ·rename_i v hv
   split at he
   ·rename_i x hx
    obtain⟨y,hy,h1,h2⟩:=K2 r _ z he
    refine⟨(x,y),hy,fun hb id=>(h1 hb id).cons (fun h=>h) (fun h=>h) (fun h=>h) (fun h=>h),fun ρb u=>?_⟩
    simp only[F2]
    by_cases hu:u=s
    ·subst hu
     rw[A1]
     exact .inr ⟨by simp[E4],v,_,hv,rfl,.inl ⟨t,x,rfl,hx,(q9r hx).1⟩⟩
    ·rw[A0 _ _ hu]
     rcases h2 ρb u with⟨a,b⟩ | ⟨a,b⟩
     ·exact .inl ⟨a,by simp[E4,hu,b]⟩
     ·exact .inr ⟨by simp[E4,a],b⟩
   ·cases he
  ·cases he
 | .own s id::r,K,z,he=>by
  simp only[exI]at he
  split at he
  ·rename_i v hv
   obtain⟨hsr,he⟩:=A7 he
   obtain⟨y,hy,h1,h2⟩:=K2 r _ z he
   refine⟨y,hy,fun hb id=>(h1 hb id).cons (fun h=>h) (fun h=>h) (fun h=>h) (fun h=>h),fun ρb u=>?_⟩
   simp only[F2]
   by_cases hu:u=s
   ·subst hu
    rw[A1]
    exact .inr ⟨by simp[E4],v,_,hv,rfl,.inr (.inl ⟨id,rfl,hsr⟩)⟩
   ·rw[A0 _ _ hu]
    rcases h2 ρb u with⟨a,b⟩ | ⟨a,b⟩
    ·exact .inl ⟨a,by simp[E4,hu,b]⟩
    ·exact .inr ⟨by simp[E4,a],b⟩
  ·cases he
 | .arr id e t src::r,K,z,he=>by
  simp only[exI]at he
  have fin:∀ (x:List t.den) (y:C7 r),(∀ hb i,HSpec m gone h r (C2 r y hb i) (hb i) i)->((∃ j,C9 id m=some (some j)/\h j=.arr e t x)\/(C9 id m=some none/\x=[])) ->
    ∀ hb i,HSpec m gone h (.arr id e t src::r) (C2 (.arr id e t src::r) (x,y) hb i) (hb i) i:=by
   intro x y h1 hx hb i
   simp only[C2]
   by_cases hi:i=id
   ·subst hi;rw[A1]
    refine .inr (.inl ⟨trivial,.inl ⟨by simp[F9],?_⟩⟩)
    rcases hx with⟨j,hx1,hx2⟩ | ⟨hx,rfl⟩
    ·exact .inl ⟨j,hx1,hx2,trivial⟩
    ·exact .inr ⟨hx,e,t,rfl⟩
   ·rw[A0 _ _ hi]
    exact(h1 hb i).cons (fun h=>by simpa[F9,hi]using h) (fun h=>h) (fun h=>by simp[F9,h]) (fun h=>h)
  split at he
  ·rename_i j hj
   split at he
   ·rename_i e' t' x hx
    split at he
    ·rename_i x' hx'
     obtain⟨hee,he2⟩:=A7 he
     have hee:=Nat.eq_of_beq_eq_true hee
     obtain⟨htt,hxx⟩:=G4 hx'
     cases htt
     change x=x' at hxx
     subst hxx;subst hee
     obtain⟨y,hy,h1,h2⟩:=K2 r _ z he2
     exact⟨(x,y),hy,fin x y h1 (.inl ⟨j,hj,hx⟩),h2⟩
    ·cases he
   ·cases he
  ·rename_i hj
   obtain⟨y,hy,h1,h2⟩:=K2 r _ z he
   exact⟨([],y),hy,fin [] y h1 (.inr ⟨hj,rfl⟩),h2⟩
  ·cases he
 | .arrS id e t::r,K,z,he=>by
  simp only[exI]at he
  split at he
  ·rename_i e' t' x hx
   split at he
   ·rename_i x' hx'
    obtain⟨hee,he2⟩:=A7 he
    have hee:=Nat.eq_of_beq_eq_true hee
    obtain⟨htt,hxx⟩:=G4 hx'
    cases htt
    change x=x' at hxx
    subst hxx;subst hee
    obtain⟨y,hy,h1,h2⟩:=K2 r _ z he2
    refine⟨(x,y),hy,fun hb i=>?_,h2⟩
    simp only[C2]
    by_cases hi:i=id
    ·subst hi;rw[A1]
     exact .inr (.inl ⟨trivial,.inr ⟨by simp[D3],hx⟩⟩)
    ·rw[A0 _ _ hi]
     exact(h1 hb i).cons (fun h=>h) (fun h=>by simpa[D3,hi]using h) (fun h=>h) (fun h=>by simp[D3,h])
   ·cases he
  ·cases he
 | .cel id cs::r,K,z,he=>by
  simp only[exI]at he
  split at he
  ·rename_i ls hls
   obtain⟨yc,hyc,hok⟩:=q3q cs ls _ z he
   obtain⟨y,hy,h1,h2⟩:=K2 r _ z hyc
   refine⟨(yc,y),hy,fun hb i=>?_,h2⟩
   simp only[C2]
   by_cases hi:i=id
   ·subst hi;rw[A1]
    exact .inr (.inr (.inl ⟨cs,yc,ls,by simp[D3],rfl,hls,hok⟩))
   ·rw[A0 _ _ hi]
    exact(h1 hb i).cons (fun h=>h) (fun h=>by simpa[D3,hi]using h) (fun h=>h) (fun h=>by simp[D3,h])
  ·cases he
 | .rng id s::r,K,z,he=>by
  simp only[exI]at he
  split at he
  ·rename_i ri s' hls
   obtain⟨hb',he⟩:=A7 he
   have hb':=RS.beq_eq hb'
   subst hb'
   obtain⟨y,hy,h1,h2⟩:=K2 r _ z he
   refine⟨y,hy,fun hb i=>?_,h2⟩
   simp only[C2]
   by_cases hi:i=id
   ·subst hi;rw[A1]
    exact .inr (.inr (.inr (.inl ⟨ri,_,by simp[D3],rfl,hls⟩)))
   ·rw[A0 _ _ hi]
    exact(h1 hb i).cons (fun h=>h) (fun h=>by simpa[D3,hi]using h) (fun h=>h) (fun h=>by simp[D3,h])
  ·cases he
 | .ptr s id::r,K,z,he=>by
  simp only[exI]at he
  split at he
  ·rename_i j o j' hv hj
   obtain⟨hb',he2⟩:=A7 he
   rw[Bool.and_eq_true]at hb'
   have ho:=Nat.eq_of_beq_eq_true hb'.1
   have hjj:=Nat.eq_of_beq_eq_true hb'.2
   subst ho;subst hjj
   obtain⟨y,hy,h1,h2⟩:=K2 r _ z he2
   refine⟨y,hy,fun hb id=>(h1 hb id).cons (fun h=>h) (fun h=>h) (fun h=>h) (fun h=>h),fun ρb u=>?_⟩
   simp only[F2]
   by_cases hu:u=s
   ·subst hu
    rw[A1]
    exact .inr ⟨by simp[E4],_,_,hv,rfl,.inr (.inr (.inl ⟨id,_,.inl ⟨rfl,rfl⟩,hj⟩))⟩
   ·rw[A0 _ _ hu]
    rcases h2 ρb u with⟨a,b⟩ | ⟨a,b⟩
    ·exact .inl ⟨a,by simp[E4,hu,b]⟩
    ·exact .inr ⟨by simp[E4,a],b⟩
  ·cases he
 | .celN id cs slot::r,K,z,he=>by
  simp only[exI]at he
  split at he
  ·rename_i j hj
   split at he
   ·rename_i ls hls
    obtain⟨yc,hyc,hok⟩:=q3q cs ls _ z he
    obtain⟨y,hy,h1,h2⟩:=K2 r _ z hyc
    refine⟨(yc,y),hy,fun hb i=>?_,h2⟩
    simp only[C2]
    by_cases hi:i=id
    ·subst hi;rw[A1]
     exact .inr (.inr (.inr (.inr ⟨cs,yc,ls,j,by simp[F9],rfl,hj,hls,hok⟩)))
    ·rw[A0 _ _ hi]
     exact(h1 hb i).cons (fun h=>by simpa[F9,hi]using h) (fun h=>h) (fun h=>by simp[F9,h]) (fun h=>h)
   ·cases he
  ·cases he
 | .mapS id ak av tk tv::r,K,z,he=>by
  simp only[exI]at he
  obtain⟨x,hx,he⟩:=z8b he
  obtain⟨y,hy,h1,h2⟩:=K2 r _ z he
  refine⟨(x,y),hy,fun hb i=>?_,h2⟩
  simp only[C2]
  by_cases hi:i=id
  ·subst hi;rw[A1]
   exact .inr (.inl ⟨trivial,.inr ⟨by simp[D3],hx⟩⟩)
  ·rw[A0 _ _ hi]
   exact(h1 hb i).cons (fun h=>h) (fun h=>by simpa[D3,hi]using h) (fun h=>h) (fun h=>by simp[D3,h])
 | .mpt s id::r,K,z,he=>by
  simp only[exI]at he
  split at he
  ·rename_i j j' hv hj
   obtain⟨hb',he2⟩:=A7 he
   have hjj:=Nat.eq_of_beq_eq_true hb'
   subst hjj
   obtain⟨y,hy,h1,h2⟩:=K2 r _ z he2
   refine⟨y,hy,fun hb id=>(h1 hb id).cons (fun h=>h) (fun h=>h) (fun h=>h) (fun h=>h),fun ρb u=>?_⟩
   simp only[F2]
   by_cases hu:u=s
   ·subst hu
    rw[A1]
    exact .inr ⟨by simp[E4],_,_,hv,rfl,.inr (.inr (.inl ⟨id,_,.inr ⟨rfl,rfl⟩,hj⟩))⟩
   ·rw[A0 _ _ hu]
    rcases h2 ρb u with⟨a,b⟩ | ⟨a,b⟩
    ·exact .inl ⟨a,by simp[E4,hu,b]⟩
    ·exact .inr ⟨by simp[E4,a],b⟩
  ·cases he
 | .mapN id ak av tk tv slot::r,K,z,he=>by
  simp only[exI]at he
  split at he
  ·rename_i j hj
   obtain⟨x,hx,he⟩:=z8b he
   obtain⟨y,hy,h1,h2⟩:=K2 r _ z he
   refine⟨(x,y),hy,fun hb i=>?_,h2⟩
   simp only[C2]
   by_cases hi:i=id
   ·subst hi;rw[A1]
    exact .inr (.inl ⟨trivial,.inl ⟨by simp[F9],.inl ⟨j,hj,hx,trivial⟩⟩⟩)
   ·rw[A0 _ _ hi]
    exact(h1 hb i).cons (fun h=>by simpa[F9,hi]using h) (fun h=>h) (fun h=>by simp[F9,h]) (fun h=>h)
  ·cases he
 | .nlp s::r,K,z,he=>by
  simp only[exI]at he
  split at he
  ·rename_i hv
   obtain⟨y,hy,h1,h2⟩:=K2 r _ z he
   refine⟨y,hy,fun hb id=>(h1 hb id).cons (fun h=>h) (fun h=>h) (fun h=>h) (fun h=>h),fun ρb u=>?_⟩
   simp only[F2]
   by_cases hu:u=s
   ·subst hu
    rw[A1]
    exact .inr ⟨by simp[E4],_,_,hv,rfl,.inr (.inr (.inr (.inl (.inl ⟨rfl,rfl⟩))))⟩
   ·rw[A0 _ _ hu]
    rcases h2 ρb u with⟨a,b⟩ | ⟨a,b⟩
    ·exact .inl ⟨a,by simp[E4,hu,b]⟩
    ·exact .inr ⟨by simp[E4,a],b⟩
  ·cases he
 | .nlm s::r,K,z,he=>by
  simp only[exI]at he
  split at he
  ·rename_i hv
   obtain⟨y,hy,h1,h2⟩:=K2 r _ z he
   refine⟨y,hy,fun hb id=>(h1 hb id).cons (fun h=>h) (fun h=>h) (fun h=>h) (fun h=>h),fun ρb u=>?_⟩
   simp only[F2]
   by_cases hu:u=s
   ·subst hu
    rw[A1]
    exact .inr ⟨by simp[E4],_,_,hv,rfl,.inr (.inr (.inr (.inl (.inr ⟨rfl,rfl⟩))))⟩
   ·rw[A0 _ _ hu]
    rcases h2 ρb u with⟨a,b⟩ | ⟨a,b⟩
    ·exact .inl ⟨a,by simp[E4,hu,b]⟩
    ·exact .inr ⟨by simp[E4,a],b⟩
  ·cases he
 | .subS s id::r,K,z,he=>by
  simp only[exI]at he
  split at he
  ·rename_i i a b hv hl
   obtain⟨hb',he2⟩:=A7 he
   rw[Bool.and_eq_true]at hb'
   have hii:=Nat.eq_of_beq_eq_true hb'.1
   subst hii
   have hng:i∉gone:=fun h=>by have h3:=hb'.2;rw[memb_iff.2 h]at h3;cases h3
   obtain⟨y,hy,h1,h2⟩:=K2 r _ z he2
   refine⟨(a,b,y),hy,fun hb id=>(h1 hb id).cons (fun h=>h) (fun h=>h) (fun h=>h) (fun h=>h),fun ρb u=>?_⟩
   simp only[F2]
   by_cases hu:u=s
   ·subst hu
    rw[A1]
    exact .inr ⟨by simp[E4],_,_,hv,rfl,.inr (.inr (.inr (.inr (.inl ⟨i,a,b,rfl,rfl,hl,hng⟩))))⟩
   ·rw[A0 _ _ hu]
    rcases h2 ρb u with⟨a,b⟩ | ⟨a,b⟩
    ·exact .inl ⟨a,by simp[E4,hu,b]⟩
    ·exact .inr ⟨by simp[E4,a],b⟩
  ·cases he
 | .itr id ak av tk tv::r,K,z,he=>by
  simp only[exI]at he
  obtain⟨x,c,hx,he⟩:=j7a he
  obtain⟨y,hy,h1,h2⟩:=K2 r _ z he
  refine⟨(x,c,y),hy,fun hb i=>?_,h2⟩
  simp only[C2]
  by_cases hi:i=id
  ·subst hi;rw[A1]
   exact .inr (.inl ⟨trivial,.inr ⟨by simp[D3],hx⟩⟩)
  ·rw[A0 _ _ hi]
   exact(h1 hb i).cons (fun h=>h) (fun h=>by simpa[D3,hi]using h) (fun h=>h) (fun h=>by simp[D3,h])
 | .arrDS id e t::r,K,z,he=>by
  simp only[exI]at he
  obtain⟨x,hx,he⟩:=j4p he
  obtain⟨y,hy,h1,h2⟩:=K2 r _ z he
  refine⟨(x,y),hy,fun hb i=>?_,h2⟩
  simp only[C2]
  by_cases hi:i=id
  ·subst hi;rw[A1]
   exact .inr (.inl ⟨trivial,.inr ⟨by simp[D3],hx⟩⟩)
  ·rw[A0 _ _ hi]
   exact(h1 hb i).cons (fun h=>h) (fun h=>by simpa[D3,hi]using h) (fun h=>h) (fun h=>by simp[D3,h])
 | .mapDS id ak tk t::r,K,z,he=>by
  simp only[exI]at he
  obtain⟨x,hx,he⟩:=j7s he
  obtain⟨y,hy,h1,h2⟩:=K2 r _ z he
  refine⟨(x,y),hy,fun hb i=>?_,h2⟩
  simp only[C2]
  by_cases hi:i=id
  ·subst hi;rw[A1]
   exact .inr (.inl ⟨trivial,.inr ⟨by simp[D3],hx⟩⟩)
  ·rw[A0 _ _ hi]
   exact(h1 hb i).cons (fun h=>h) (fun h=>by simpa[D3,hi]using h) (fun h=>h) (fun h=>by simp[D3,h])
theorem K9 {ρ:Env} {h:Heap}:∀ (l:List LI) (m:List (Nat×Option Nat)),S8 ρ h l=some m->∀ id,C9 id m≠none↔id∈F9 l
 | [],m,hm,id=>by simp[S8]at hm;subst hm;simp[C9,F9]
 | .tmp _ _::r,m,hm,id=>K9 r m hm id
 | .own _ _::r,m,hm,id=>K9 r m hm id
 | .arrS _ _ _::r,m,hm,id=>K9 r m hm id
 | .cel _ _::r,m,hm,id=>K9 r m hm id
 | .rng _ _::r,m,hm,id=>K9 r m hm id
 | .ptr _ _::r,m,hm,id=>K9 r m hm id
 | .mapS _ _ _ _ _::r,m,hm,id=>K9 r m hm id
 | .mpt _ _::r,m,hm,id=>K9 r m hm id
 | .nlp _::r,m,hm,id=>K9 r m hm id
 | .nlm _::r,m,hm,id=>K9 r m hm id
 | .subS _ _::r,m,hm,id=>K9 r m hm id
 | .itr _ _ _ _ _::r,m,hm,id=>K9 r m hm id
 | .arrDS _ _ _::r,m,hm,id=>K9 r m hm id
 | .mapDS _ _ _ _::r,m,hm,id=>K9 r m hm id
 | .mapN i _ _ _ _ slot::r,m,hm,id=>by
  simp only[S8]at hm
  split at hm
  ·rename_i j m' _ hm'
   cases hm
   have ih:=K9 r m' hm' id
   simp only[C9,F9,List.mem_cons]
   cases hb:Nat.beq i id with
   | true=>simp[(Nat.eq_of_beq_eq_true hb).symm]
   | false =>
    rw[cond_false,ih]
    constructor
    ·exact .inr
    ·rintro (h | h)
     ·subst h;rw[Nat.beq_refl]at hb;cases hb
     ·exact h
  ·cases hm
 | .arr i e t src::r,m,hm,id=>by
  have key:∀ (j:Option Nat) (m':List (Nat×Option Nat)),S8 ρ h r=some m'->m=(i,j)::m'->(C9 id m≠none↔id∈F9 (.arr i e t src::r)):=by
   intro j m' hm' hme
   subst hme
   have ih:=K9 r m' hm' id
   simp only[C9,F9,List.mem_cons]
   cases hb:Nat.beq i id with
   | true=>simp[(Nat.eq_of_beq_eq_true hb).symm]
   | false =>
    rw[cond_false,ih]
    constructor
    ·exact .inr
    ·rintro (h | h)
     ·subst h;rw[Nat.beq_refl]at hb;cases hb
     ·exact h
  simp only[S8]at hm
  split at hm
  ·rename_i j m' _ hm';cases hm;exact key _ m' hm' rfl
  ·rename_i m' _ hm';cases hm;exact key _ m' hm' rfl
  ·cases hm
 | .celN i cs slot::r,m,hm,id=>by
  simp only[S8]at hm
  split at hm
  ·rename_i j o m' _ hm'
   cases hm
   have ih:=K9 r m' hm' id
   simp only[C9,F9,List.mem_cons]
   cases hb:Nat.beq i id with
   | true=>simp[(Nat.eq_of_beq_eq_true hb).symm]
   | false =>
    rw[cond_false,ih]
    constructor
    ·exact .inr
    ·rintro (h | h)
     ·subst h;rw[Nat.beq_refl]at hb;cases hb
     ·exact h
  ·cases hm
theorem q2a {j:Nat}:∀ {m:List (Nat×Option Nat)} {id:Nat},C9 id m=some (some j)->j∈R1 m
 | [],_,h=>by simp[C9]at h
 | (i,k)::r,id,h=>by
  simp only[C9]at h
  cases hb:Nat.beq i id with
  | true=>rw[hb,cond_true]at h;cases h;simp[R1]
  | false =>
   rw[hb,cond_false]at h
   have:=q2a h
   unfold R1 at this ⊢
   rw[List.filterMap_cons]
   cases k with
   | none=>exact this
   | some k=>exact List.mem_cons_of_mem _ this
theorem j8d {x:Nat} {r:List Nat} (h:U3 (x::r)=true):x∉r/\U3 r=true:=by
 simp only[U3,Bool.and_eq_true,Bool.not_eq_true']at h
 exact⟨(fun hm=>by rw[memb_iff.2 hm]at h;cases h.1),h.2⟩
theorem z85 {j:Nat}:∀ {m:List (Nat×Option Nat)} {i i':Nat},U3 (R1 m)=true->C9 i m=some (some j)->C9 i' m=some (some j)->i=i'
 | [],_,_,_,h,_=>by simp[C9]at h
 | (a,k)::r,i,i',hn,h,h'=>by
  have hn':U3 (R1 r)=true/\(k=some j->j∉R1 r):=by
   unfold R1 at hn ⊢
   rw[List.filterMap_cons]at hn
   cases k with
   | none=>exact⟨hn,fun h=>by cases h⟩
   | some k=>obtain⟨a,b⟩:=j8d hn;exact⟨b,fun h=>by cases h;exact a⟩
  simp only[C9]at h h'
  cases hb:Nat.beq a i with
  | true =>
   rw[hb,cond_true]at h
   cases hb':Nat.beq a i' with
   | true=>rw[<-Nat.eq_of_beq_eq_true hb,<-Nat.eq_of_beq_eq_true hb']
   | false=>rw[hb',cond_false]at h';exact absurd (q2a h') (hn'.2 (by cases h;rfl))
  | false =>
   rw[hb,cond_false]at h
   cases hb':Nat.beq a i' with
   | true=>rw[hb',cond_true]at h';exact absurd (q2a h) (hn'.2 (by cases h';rfl))
   | false=>rw[hb',cond_false]at h';exact z85 hn'.1 h h'
theorem q54 {a b:List Nat} (h:q2w a b=true):∀ x∈a,x∈b:=fun x hx=>memb_iff.1 (List.all_eq_true.1 h x hx)
theorem j34 {mt mo sr stat:List Nat} {l:List LI} (h:wfI mt mo sr stat l=true):(∀ id∈F9 l,id∈mo)/\(∀ t∈E4 l,t∈mt)/\(∀ id,id∈stat↔id∈D3 l)/\(∀ id∈stat,id∉mo/\id∉sr):=by
 simp only[wfI,Bool.and_eq_true,Bool.not_eq_true']at h
 obtain⟨⟨⟨⟨⟨⟨⟨h1,h2⟩,h3⟩,h4⟩,-⟩,-⟩,-⟩,h8⟩:=h
 refine⟨q54 h1,q54 h2,fun id=>⟨q54 h3 id,q54 h4 id⟩,fun id hid=>?_⟩
 have:=q05 h8 id hid
 exact⟨fun h=>this (List.mem_append_left _ h),fun h=>this (List.mem_append_right _ h)⟩
theorem j6b {R:Type} {st0 st1:St} {mt mo sr stat:List Nat} {l:List LI} {K:C7 l->Option R} {z:R} (he:q1y st1 mt mo sr stat l K=some z) :
  ∃ y,K y=some z/\(∀ id∈stat,(∃ ak av tk tv l c,st1.h id=.iter ak av tk tv l c)->(B9 st0 mt mo sr l y).h id=st1.h id)/\∀ B r κ0 a0 v0 κ1 a1 w1,Sim P L w0 B r κ0 st0 a0 v0->Sim P L w0 B r κ1 st1 a1 w1->Ext L κ0 st0.h v0 κ1 st1.h w1->(∀ t,t∉mt->a1.tmps.getD t undef=a0.tmps.getD t undef) ->
   (∀ id,id∉mo->id∉sr->id∉stat->st1.h id=st0.h id)->(∀ id∈mo,st0.h id=.fresh)->st1.n=st0.n ->
   ∃ κ2,Sim P L w0 B r κ2 (B9 st0 mt mo sr l y) a1 w1/\Ext L κ0 st0.h v0 κ2 (B9 st0 mt mo sr l y).h w1/\∀ b,A4 L κ1 st1.h w1 b->A4 L κ2 (B9 st0 mt mo sr l y).h w1 b:=by
 unfold q1y at he
 split at he
 ·rename_i m hm
  obtain⟨hc,he⟩:=A7 he
  simp only[Bool.and_eq_true]at hc
  obtain⟨⟨⟨hwf,hnd⟩,hsub⟩,hsrk⟩:=hc
  obtain⟨wnew,wslot,wstat,wdis⟩:=j34 hwf
  have hsub:=q54 hsub
  have hlook:=K9 l m hm
  obtain⟨y,hy,hH,hE⟩:=K2 l _ z he
  refine⟨y,hy,fun id hid ⟨ak,av,tk,tv,le,cu,hit⟩=>?_,fun B r κ0 a0 v0 κ1 a1 w1 sim0 sim1 ext htmp hobj hmo hn=>?_⟩
  ·have hst:=(wstat id).1 hid
   rcases hH (fun id=>cond (D6 mo id) .fresh (cond (D6 sr id) .dead (st0.h id))) id with⟨_,_,c⟩ | ⟨_,⟨b1,_⟩ | ⟨_,b2⟩⟩ | ⟨cs,yc,ls,_,_,c,_⟩ | ⟨ri,s,_,_,c⟩ | ⟨cs,yc,ls,j,b1,_⟩
   ·exact absurd hst c
   ·exact absurd (wnew id b1) (wdis id hid).1
   ·exact b2.symm
   ·rw[hit]at c;cases c
   ·rw[hit]at c;cases c
   ·exact absurd (wnew id b1) (wdis id hid).1
  let hb:Heap:=fun id=>cond (D6 mo id) .fresh (cond (D6 sr id) .dead (st0.h id))
  let h2:Heap:=C2 l y hb
  let κ2:A2:=fun id=>match C9 id m with
   | some (some j)=>κ1 j
   | some none=>none
   | none=>κ1 id
  have hb_mo:∀ id,id∈mo->hb id=.fresh:=fun id hid=>by simp only[hb,memb_iff.2 hid,cond_true]
  have nm:∀ {b:List Nat} {id:Nat},id∉b->D6 b id=false:=fun {b id} h=>by
   cases hq:D6 b id with
   | true=>exact absurd (memb_iff.1 hq) h
   | false=>rfl
  have hb_sr:∀ id,id∉mo->id∈sr->hb id=.dead:=fun id h1 h2=>by simp only[hb,nm h1,memb_iff.2 h2,cond_true,cond_false]
  have hb_o:∀ id,id∉mo->id∉sr->hb id=st0.h id:=fun id h1 h2=>by simp only[hb,nm h1,nm h2,cond_false]
  have hcase:∀ id,(h2 id=.fresh/\id∈mo)\/(h2 id=.dead/\id∈sr)\/(h2 id=st1.h id/\h2 id=st0.h id/\id∉mo/\id∉sr/\id∉stat/\C9 id m=none) \/
    ((h2 id).pure/\id∈mo/\((∃ j,C9 id m=some (some j)/\st1.h j=h2 id/\(h2 id).pure0)\/(C9 id m=some none/\∃ e t,h2 id=.arr e t []))) \/
    (id∈stat/\C9 id m=none/\(((h2 id).pure/\st1.h id=h2 id)\/(∃ cs yc ls,h2 id=.cells (J4 cs yc)/\st1.h id=.cells ls/\q31 m (mo++sr) st1.h cs yc ls)\/(∃ ri s s0,h2 id=.lrec ri s/\st1.h id=.lrec ri s/\st0.h id=.lrec ri s0)\/h2 id=.dead)) \/
    (∃ cs yc ls j,h2 id=.cells (J4 cs yc)/\id∈mo/\C9 id m=some (some j)/\st1.h j=.cells ls/\q31 m (mo++sr) st1.h cs yc ls):=by
   intro id
   have nolook:id∈stat->C9 id m=none:=fun hs=>by
    cases hq:C9 id m with
    | none=>rfl
    | some q=>exact absurd (wnew id ((hlook id).1 (by rw[hq];simp))) (wdis id hs).1
   rcases hH hb id with⟨a,b,c⟩ | ⟨a,b⟩ | ⟨cs,yc,ls,a,b,c,d⟩ | ⟨ri,s,a,b,c⟩ | ⟨cs,yc,ls,j,a,b,c,d,f⟩
   ·have hl:C9 id m=none:=by
     cases hq:C9 id m with
     | none=>rfl
     | some q=>exact absurd ((hlook id).1 (by rw[hq];simp)) b
    by_cases h1:id∈mo
    ·exact .inl ⟨a.trans (hb_mo id h1),h1⟩
    ·by_cases h2':id∈sr
     ·exact .inr (.inl ⟨a.trans (hb_sr id h1 h2'),h2'⟩)
     ·have hns:id∉stat:=fun h=>c ((wstat id).1 h)
      have hv:=a.trans (hb_o id h1 h2')
      exact .inr (.inr (.inl ⟨hv.trans (hobj id h1 h2' hns).symm,hv,h1,h2',hns,hl⟩))
   ·rcases b with⟨b1,b2⟩ | ⟨b1,b2⟩
    ·exact .inr (.inr (.inr (.inl ⟨a,wnew id b1,b2⟩)))
    ·exact .inr (.inr (.inr (.inr (.inl ⟨(wstat id).2 b1,nolook ((wstat id).2 b1),.inl ⟨a,b2⟩⟩))))
   ·exact .inr (.inr (.inr (.inr (.inl ⟨(wstat id).2 a,nolook ((wstat id).2 a),.inr (.inl ⟨cs,yc,ls,b,c,d⟩)⟩))))
   ·have hs:=(wstat id).2 a
    refine .inr (.inr (.inr (.inr (.inl ⟨hs,nolook hs,.inr (.inr ?_)⟩))))
    rw[hb_o id (wdis id hs).1 (wdis id hs).2]at b
    cases ho:st0.h id with
    | lrec ri0 s0 =>
     refine .inl ⟨ri,s,s0,?_,c,?_⟩
     ·rcases ext.lrec id ri0 s0 ho with⟨s',hs'⟩ | hs'
      ·rw[c]at hs';cases hs'
       exact b.trans (by rw[ho];rfl)
      ·rw[c]at hs';cases hs'
     ·rcases ext.lrec id ri0 s0 ho with⟨s',hs'⟩ | hs'
      ·rw[c]at hs';cases hs';rfl
      ·rw[c]at hs';cases hs'
    | _=>exact .inr (b.trans (by rw[ho];rfl))
   ·exact .inr (.inr (.inr (.inr (.inr ⟨cs,yc,ls,j,b,wnew id a,c,d,f⟩))))
  have hκn:∀ id,C9 id m=none->κ2 id=κ1 id:=fun id h=>by simp only[κ2,h]
  have hκs:∀ id j,C9 id m=some (some j)->κ2 id=κ1 j:=fun id j h=>by simp only[κ2,h]
  have hκ0:∀ id,C9 id m=some none->κ2 id=none:=fun id h=>by simp only[κ2,h]
  let φ:Nat->Nat:=fun id=>match C9 id m with
   | some (some j)=>j
   | _=>id
  have hφn:∀ id,C9 id m=none->φ id=id:=fun id h=>by simp only[φ,h]
  have hφs:∀ id j,C9 id m=some (some j)->φ id=j:=fun id j h=>by simp only[φ,h]
  have live:∀ id b c,(h2 id).live=true->κ2 id=some (b,c)->(st1.h (φ id)).live=true/\κ1 (φ id)=some (b,c):=by
   intro id b c hl hk
   rcases hcase id with⟨a,_⟩ | ⟨a,_⟩ | ⟨a,_,_,_,_,a5⟩ | ⟨a,_,⟨j,q1,q2⟩ | ⟨q1,_⟩⟩ | ⟨_,a2,⟨q1,q2⟩ | ⟨cs,yc,ls,q1,q2,_⟩ | ⟨ri,s,s0,q1,q2,_⟩ | q1⟩ | ⟨cs6,yc6,ls6,j6,w1',w2',w3',w4',w5'⟩
   ·rw[a]at hl;cases hl
   ·rw[a]at hl;cases hl
   ·rw[hφn id a5,<-a,<-hκn id a5];exact⟨hl,hk⟩
   ·rw[hφs id j q1,q2.1,<-hκs id j q1];exact⟨hl,hk⟩
   ·rw[hκ0 id q1]at hk;cases hk
   ·rw[hφn id a2,q2,<-hκn id a2];exact⟨hl,hk⟩
   ·rw[hφn id a2,q2,<-hκn id a2];exact⟨rfl,hk⟩
   ·rw[hφn id a2,q2,<-hκn id a2];exact⟨rfl,hk⟩
   ·rw[q1]at hl;cases hl
   ·rw[hφs id j6 w3',w4',<-hκs id j6 w3'];exact⟨rfl,hk⟩
  have hstill:∀ b,W3 κ1 st1.h w1 b->W3 κ2 h2 w1 b:=fun b ⟨f1,f3⟩=>⟨f1,fun id c hl hk=>by
   obtain⟨q1,q2⟩:=live id b c hl hk
   exact f3 (φ id) c q1 q2⟩
  have hfree:∀ b,A4 L κ1 st1.h w1 b->A4 L κ2 h2 w1 b:=fun b ⟨f1,f2,f3⟩=>⟨f1,f2,(hstill b ⟨f1,f3⟩).2⟩
  have hfm:∀ b,A4 L κ1 st1.h w1 b->A4 L κ2 h2 w1 b/\w1.heap[b]? = w1.heap[b]?:=fun b hb=>⟨hfree b hb,rfl⟩
  have harr:∀ id j e t (x:List t.den),κ2 id=κ1 j->RepArr L κ1 st1.h w1 j e t x->RepArr L κ2 h2 w1 id e t x:=by
   intro id j e t x hk hr
   rcases hr with⟨a,b⟩ | ⟨b,cap,cur,r1,r2,r3,r4,r5,r6,r7⟩
   ·exact .inl ⟨hk.trans a,b⟩
   ·exact .inr ⟨b,cap,cur,hk.trans r1,r2,r3,r4,r5,r6,fun i y hy=>RepAt.mono hfm t _ y (r7 i y hy)⟩
  have hkid:∀ n,X2<=n->κ2 n=κ1 n:=fun n hn=>hκn n (by
   cases hq:C9 n m with
   | none=>rfl
   | some q =>
    have h1:=hmo n (wnew n ((hlook n).1 (by rw[hq];simp)))
    rw[sim0.heap.kids n hn]at h1
    cases h1)
  have hpure0:∀ id j o,κ2 id=κ1 j->o.pure0->RepObj L κ1 st1.h w1 j o->RepObj L κ2 h2 w1 id o:=by
   intro id j o hk hp hr
   cases o with
   | arr e t x=>exact harr id j e t x hk hr
   | mapo ak av tk tv x =>
    obtain⟨b,c,es,cl,r1,r2,r3⟩:=hr
    exact⟨b,c,es,cl,hk.trans r1,r2,r3.mono hfm⟩
   | iter ak av tk tv le cu =>
    obtain⟨b,c,mm,si,se,c0,r1,r2,r3⟩:=hr
    exact⟨b,c,mm,si,se,c0,hk.trans r1,r2,r3.mono hfm⟩
   | _=>exact absurd hp (fun h=>h)
  have hpure:∀ id o,κ2 id=κ1 id->o.pure->RepObj L κ1 st1.h w1 id o->RepObj L κ2 h2 w1 id o:=by
   intro id o hk hp hr
   cases o with
   | arr e t x=>exact hpure0 id id _ hk trivial hr
   | mapo ak av tk tv x=>exact hpure0 id id _ hk trivial hr
   | iter ak av tk tv le cu=>exact hpure0 id id _ hk trivial hr
   | arrD e t x f =>
    cases f with
    | some f=>exact absurd hp (fun h=>h)
    | none =>
     rcases hr with⟨a,b,c⟩ | ⟨b,cap,cur,r1,r2,r3,r4,r5,r6,r7⟩
     ·exact .inl ⟨hk.trans a,b,c⟩
     ·refine .inr ⟨b,cap,cur,hk.trans r1,r2,r3,r4,r5,r6,fun i y hy=>?_⟩
      obtain⟨v,v1,v2⟩:=r7 i y hy
      exact⟨v,v1,RepKid.at hfree (hkid _ (q42 _ _)) v2⟩
   | mapD ak tk t x f =>
    cases f with
    | some f=>exact absurd hp (fun h=>h)
    | none =>
     obtain⟨b,c,es,cl,r1,r2,r3⟩:=hr
     obtain⟨p,p1,p2,p3⟩:=r3.ents
     exact⟨b,c,es,cl,hk.trans r1,r2,r3.flat,r3.rise,r3.apart,r3.early,p,p1,p2,fun i z q hz hq =>
      ⟨(p3 i z q hz hq).1.mono hfm,(p3 i z q hz hq).2.1,RepKid.at hfree (hkid _ (q42 _ _)) (p3 i z q hz hq).2.2⟩⟩
   | _=>exact absurd hp (fun h=>h)
  have hout:∀ id,C9 id m=none->(h2 id).live=true->id∉mo++sr:=by
   intro id hl hv hm
   rcases hcase id with⟨a,_⟩ | ⟨a,_⟩ | ⟨_,_,a1,a2,_⟩ | ⟨a,a2,⟨_,q,_⟩ | ⟨q,_⟩⟩ | ⟨a,_⟩ | ⟨cs6,yc6,ls6,j6,w1',w2',w3',w4',w5'⟩
   ·rw[a]at hv;cases hv
   ·rw[a]at hv;cases hv
   ·rcases List.mem_append.1 hm with hm | hm
    ·exact a1 hm
    ·exact a2 hm
   ·rw[hl]at q;cases q
   ·rw[hl]at q;cases q
   ·rcases List.mem_append.1 hm with hm | hm
    ·exact(wdis id a).1 hm
    ·exact(wdis id a).2 hm
   ·rw[hl]at w3';cases w3'
  have hthaw:∀ (ids:List Nat),(∀ id∈ids,Y1 m (mo++sr) st1.h id=true)->∀ b,A4 L κ1 (A5 (B0 st1.h ids) st1.h) w1 b->A4 L κ2 h2 w1 b:=by
   intro ids hids b ⟨f1,f2,f3⟩
   refine⟨f1,f2,fun id2 c hl hk=>?_⟩
   obtain⟨q1,q2⟩:=live id2 b c hl hk
   have hni:φ id2∉ids:=fun hm=>by
    have ht:=hids _ hm
    have gone:(D6 (mo++sr) (φ id2)&&!D6 (R1 m) (φ id2))=true->False:=fun ht=>by
     simp only[Bool.and_eq_true,Bool.not_eq_true']at ht
     have hg:=memb_iff.1 ht.1
     cases hli:C9 id2 m with
     | none=>rw[hφn id2 hli]at hg;exact hout id2 hli hl hg
     | some q =>
      cases q with
      | none=>rw[hκ0 id2 hli]at hk;cases hk
      | some j =>
       rw[hφs id2 j hli]at ht
       rw[memb_iff.2 (q2a hli)]at ht
       cases ht.2
    unfold Y1 at ht
    split at ht
    ·rename_i hq;rw[hq]at q1;cases q1
    ·exact gone ht
    ·rename_i hq;rw[hq]at q1;cases q1
    ·exact gone ht
    ·cases ht
   exact f3 (φ id2) c (by rw[S5 hni];exact q1) q2
  have hmatch:∀ s s' v,q91 m (mo++sr) st1.h s s'->RepSV L κ1 st1.h w1 s v->RepSV L κ2 h2 w1 s' v/\v.oneCell'=true:=by
   intro s s' v hma hr
   rcases hma with⟨t,x,rfl,hd,hsz⟩ | ⟨id,rfl,hsr'⟩ | ⟨id,j,hpm,hl⟩ | hnil | ⟨i,sa,sb,rfl,rfl,hl,hng⟩ | ⟨i,rfl,rfl,hl,hng⟩
   rotate_right
   ·obtain⟨hr0,b,c,hr1,hr2⟩:=hr
    refine⟨?_,by rw[hr2];rfl⟩
    rcases hcase i with⟨a,a2⟩ | ⟨a,a2⟩ | ⟨a,_,_,_,_,a5⟩ | ⟨a,_,⟨j',q1,q2⟩ | ⟨q1,q2⟩⟩ | ⟨_,a2,⟨q1,q2⟩ | ⟨cs,yc,ls,q1,q2,_⟩ | ⟨ri,s,s0,q1,q2,_⟩ | q1⟩ | ⟨cs6,yc6,ls6,j6,w1',w2',w3',w4',w5'⟩
    ·exact absurd (List.mem_append_left _ a2) hng
    ·exact absurd (List.mem_append_right _ a2) hng
    ·exact⟨by rw[a];exact hr0,b,c,(hκn i a5).trans hr1,hr2⟩
    ·rw[hl]at q1;cases q1
    ·rw[hl]at q1;cases q1
    ·exact⟨by rw[<-q2];exact hr0,b,c,(hκn i a2).trans hr1,hr2⟩
    ·exact⟨by rw[q1];simp,b,c,(hκn i a2).trans hr1,hr2⟩
    ·exact⟨by rw[q1];simp,b,c,(hκn i a2).trans hr1,hr2⟩
    ·exact⟨by rw[q1];simp,b,c,(hκn i a2).trans hr1,hr2⟩
    ·rw[hl]at w3';cases w3'
   rotate_right
   ·refine⟨⟨?_,hr.2⟩,hr.2⟩
    have hr1:=hr.1
    rcases hcase i with⟨a,a2⟩ | ⟨a,a2⟩ | ⟨a,_,_,_,_,a5⟩ | ⟨a,_,⟨j',q1,q2⟩ | ⟨q1,q2⟩⟩ | ⟨_,a2,⟨q1,q2⟩ | ⟨cs,yc,ls,q1,q2,_⟩ | ⟨ri,s,s0,q1,q2,_⟩ | q1⟩ | ⟨cs6,yc6,ls6,j6,w1',w2',w3',w4',w5'⟩
    ·exact absurd (List.mem_append_left _ a2) hng
    ·exact absurd (List.mem_append_right _ a2) hng
    ·rw[a,hκn i a5];exact hr1
    ·rw[hl]at q1;cases q1
    ·rw[hl]at q1;cases q1
    ·rw[q2]at hr1;rw[hκn i a2];exact hr1
    ·rw[q2]at hr1;exact hr1.elim
    ·rw[q2]at hr1;exact hr1.elim
    ·rw[q1];trivial
    ·rw[hl]at w3';cases w3'
   rotate_right
   ·rcases hnil with⟨rfl,rfl⟩ | ⟨rfl,rfl⟩
    ·have hv:v=.pointer none:=hr
     subst hv
     exact⟨rfl,rfl⟩
    ·have hv:v=.map none:=hr
     subst hv
     exact⟨rfl,rfl⟩
   ·rcases (q9r hd).2 with⟨z,rfl,rfl⟩ | ⟨e,rfl,rfl,hx⟩ | ⟨e,l',rfl,hx,hlo,hth,hsh⟩ | ⟨ak,av,k,vt,l',rfl,hx,hlo,hth,hsh⟩
    ·exact⟨⟨hr.1,hr.2.1,RepAt.mono hfm t _ _ hr.2.2⟩,hr.2.1⟩
    ·have hv:v=.slice none 0 0:=hr
     subst hv
     have hx:=eq_of_heq hx
     subst hx
     exact⟨⟨rfl,rfl,none,0,0,rfl,rfl,Nat.le_refl _,fun h=>absurd rfl h⟩,rfl⟩
    ·have hx:=eq_of_heq hx
     subst hx
     have hone:v.oneCell'=true:=by
      rcases hsh with⟨id,rfl⟩ | ⟨id,a,b,rfl⟩
      ·exact hr.2
      ·exact hr.2
     obtain⟨_,i2,i3⟩:=S6 (F7 s) sim1.heap
     have hrep:=z7y sim1.heap i2 e s v hr hlo (fun id hm b c hk=>by
      have ht:=hth id hm
      refine⟨i3 id hm ?_ b c hk,rfl⟩
      unfold Y1 at ht
      split at ht
      ·rename_i q;exact .inl ⟨_,_,_,.inr q⟩
      ·rename_i q;exact .inl ⟨_,_,_,.inl q⟩
      ·rename_i q;exact .inr ⟨_,_,_,_,_,.inr q⟩
      ·rename_i q;exact .inr ⟨_,_,_,_,_,.inl q⟩
      ·cases ht)
     exact⟨⟨rfl,hone,RepAt.mono (fun b hb=>⟨hthaw (F7 s) hth b hb,rfl⟩) _ _ _ hrep⟩,hone⟩
    ·have hx:=eq_of_heq hx
     subst hx
     have hone:v.oneCell'=true:=by
      rcases hsh with rfl | ⟨id,rfl⟩
      ·have hv:v=.map none:=hr
       rw[hv];rfl
      ·obtain⟨_,b,c,_,hv⟩:=hr
       rw[hv];rfl
     obtain⟨_,i2,i3⟩:=S6 (F7 s) sim1.heap
     have hrep:=z8a sim1.heap i2 ak av k vt s v hr hlo (fun id hm b c hk=>by
      have ht:=hth id hm
      refine⟨i3 id hm ?_ b c hk,rfl⟩
      unfold Y1 at ht
      split at ht
      ·rename_i q;exact .inl ⟨_,_,_,.inr q⟩
      ·rename_i q;exact .inl ⟨_,_,_,.inl q⟩
      ·rename_i q;exact .inr ⟨_,_,_,_,_,.inr q⟩
      ·rename_i q;exact .inr ⟨_,_,_,_,_,.inl q⟩
      ·cases ht)
     exact⟨⟨rfl,hone,RepAt.mono (fun b hb=>⟨hthaw (F7 s) hth b hb,rfl⟩) _ _ _ hrep⟩,hone⟩
   ·unfold q84 at hsr'
    split at hsr'
    ·rename_i j i hl
     have hij:=Nat.eq_of_beq_eq_true hsr'
     subst hij
     refine⟨⟨?_,hr.2⟩,hr.2⟩
     rcases hcase id with⟨a,a2⟩ | ⟨a,a2⟩ | ⟨_,_,_,_,_,a5⟩ | ⟨a,_,⟨j',q1,q2⟩ | ⟨q1,_⟩⟩ | ⟨_,a2,_⟩ | ⟨cs6,yc6,ls6,j6,w1',w2',w3',w4',w5'⟩
     ·exfalso
      have:=(hlook id).1 (by rw[hl];simp)
      rcases hH hb id with⟨_,b,_⟩ | ⟨b,_⟩ | ⟨cs,yc,ls,b1,b,_⟩ | ⟨ri,s,b1,b,_⟩ | ⟨cs6,yc6,ls6,j6,_,w1',_⟩
      ·exact b this
      ·rw[show C2 l y hb id=h2 id from rfl,a]at b;exact b
      ·rw[show C2 l y hb id=h2 id from rfl,a]at b;cases b
      ·exact(wdis id ((wstat id).2 b1)).1 (wnew id this)
      ·rw[show C2 l y hb id=h2 id from rfl,a]at w1';cases w1'
     ·exfalso
      have:=(hlook id).1 (by rw[hl];simp)
      rcases hH hb id with⟨_,b,_⟩ | ⟨b,_⟩ | ⟨cs,yc,ls,b1,b,_⟩ | ⟨ri,s,b1,b,_⟩ | ⟨cs6,yc6,ls6,j6,_,w1',_⟩
      ·exact b this
      ·rw[show C2 l y hb id=h2 id from rfl,a]at b;exact b
      ·rw[show C2 l y hb id=h2 id from rfl,a]at b;cases b
      ·exact(wdis id ((wstat id).2 b1)).1 (wnew id this)
      ·rw[show C2 l y hb id=h2 id from rfl,a]at w1';cases w1'
     ·rw[hl]at a5;cases a5
     ·rw[hl]at q1;cases q1
      have hr1:=hr.1
      rw[q2.1]at hr1
      rw[hκs id i hl]
      exact hr1
     ·rw[hl]at q1;cases q1
     ·rw[hl]at a2;cases a2
     ·rw[hl]at w3';cases w3';have hr1:=hr.1;rw[w4']at hr1;exact hr1.elim
    ·rename_i hl
     have hv:v=.slice none 0 0:=hr
     subst hv
     refine⟨⟨?_,rfl⟩,rfl⟩
     rcases hcase id with⟨a,a2⟩ | ⟨a,a2⟩ | ⟨_,_,_,_,_,a5⟩ | ⟨a,_,⟨j',q1,q2⟩ | ⟨q1,e9,t9,q2⟩⟩ | ⟨_,a2,_⟩ | ⟨cs6,yc6,ls6,j6,w1',w2',w3',w4',w5'⟩
     ·exfalso
      have:=(hlook id).1 (by rw[hl];simp)
      rcases hH hb id with⟨_,b,_⟩ | ⟨b,_⟩ | ⟨cs,yc,ls,b1,b,_⟩ | ⟨ri,s,b1,b,_⟩ | ⟨cs6,yc6,ls6,j6,_,w1',_⟩
      ·exact b this
      ·rw[show C2 l y hb id=h2 id from rfl,a]at b;exact b
      ·rw[show C2 l y hb id=h2 id from rfl,a]at b;cases b
      ·exact(wdis id ((wstat id).2 b1)).1 (wnew id this)
      ·rw[show C2 l y hb id=h2 id from rfl,a]at w1';cases w1'
     ·exfalso
      have:=(hlook id).1 (by rw[hl];simp)
      rcases hH hb id with⟨_,b,_⟩ | ⟨b,_⟩ | ⟨cs,yc,ls,b1,b,_⟩ | ⟨ri,s,b1,b,_⟩ | ⟨cs6,yc6,ls6,j6,_,w1',_⟩
      ·exact b this
      ·rw[show C2 l y hb id=h2 id from rfl,a]at b;exact b
      ·rw[show C2 l y hb id=h2 id from rfl,a]at b;cases b
      ·exact(wdis id ((wstat id).2 b1)).1 (wnew id this)
      ·rw[show C2 l y hb id=h2 id from rfl,a]at w1';cases w1'
     ·rw[hl]at a5;cases a5
     ·rw[hl]at q1;cases q1
     ·rw[q2];exact .inl ⟨hκ0 id hl,rfl,rfl⟩
     ·rw[hl]at a2;cases a2
     ·rw[hl]at w3';cases w3'
    ·rename_i i hl
     simp only[Bool.and_eq_true,Bool.not_eq_true']at hsr'
     have hii:=Nat.eq_of_beq_eq_true hsr'.1
     subst hii
     have hng:i∉mo++sr:=fun h=>by rw[memb_iff.2 h]at hsr';cases hsr'.2
     refine⟨⟨?_,hr.2⟩,hr.2⟩
     have hr1:=hr.1
     rcases hcase i with⟨a,a2⟩ | ⟨a,a2⟩ | ⟨a,_,_,_,_,a5⟩ | ⟨a,_,⟨j',q1,q2⟩ | ⟨q1,q2⟩⟩ | ⟨_,a2,⟨q1,q2⟩ | ⟨cs,yc,ls,q1,q2,_⟩ | ⟨ri,s,s0,q1,q2,_⟩ | q1⟩ | ⟨cs6,yc6,ls6,j6,w1',w2',w3',w4',w5'⟩
     ·exact absurd (List.mem_append_left _ a2) hng
     ·exact absurd (List.mem_append_right _ a2) hng
     ·rw[a,hκn i a5];exact hr1
     ·rw[hl]at q1;cases q1
     ·rw[hl]at q1;cases q1
     ·rw[q2]at hr1;rw[hκn i a2];exact hr1
     ·rw[q2]at hr1;exact hr1.elim
     ·rw[q2]at hr1;exact hr1.elim
     ·rw[q1];trivial
     ·rw[hl]at w3';cases w3'
    ·cases hsr'
   ·have hin:=(hlook id).1 (by rw[hl];simp)
    have hnf0:∀ o,o=.fresh\/o=.kid->h2 id≠o:=fun o ho e0=>by
     have hnp:¬ o.pure/\∀ l,o≠.cells l:=by rcases ho with rfl | rfl<;>exact⟨fun h=>h,fun _ h=>by cases h⟩
     rcases hH hb id with⟨_,b,_⟩ | ⟨b,_⟩ | ⟨cs,yc,ls,b1,b,_⟩ | ⟨ri,s,b1,b,_⟩ | ⟨cs6,yc6,ls6,j6,_,w1',_⟩
     ·exact b hin
     ·rw[show C2 l y hb id=h2 id from rfl,e0]at b;exact hnp.1 b
     ·rw[show C2 l y hb id=h2 id from rfl,e0]at b;exact hnp.2 _ b
     ·exact(wdis id ((wstat id).2 b1)).1 (wnew id hin)
     ·rw[show C2 l y hb id=h2 id from rfl,e0]at w1';exact hnp.2 _ w1'
    have hnf:(h2 id).Held:=⟨hnf0 _ (.inl rfl),hnf0 _ (.inr rfl)⟩
    rcases hpm with⟨rfl,rfl⟩ | ⟨rfl,rfl⟩
    ·obtain⟨hr1,b,c,hr2,hr3⟩:=hr
     exact⟨⟨hnf,b,c,(hκs id j hl).trans hr2,hr3⟩,by rw[hr3];rfl⟩
    ·obtain⟨hr1,b,c,hr2,hr3⟩:=hr
     exact⟨⟨hnf,b,c,(hκs id j hl).trans hr2,hr3⟩,by rw[hr3];rfl⟩
  have nmo:∀ id,st0.h id≠.fresh->id∉mo:=fun id h1 h2=>h1 (hmo id h2)
  have hkids:∀ id,st0.h id=.kid->h2 id=.kid:=fun id hd=>by
   have hd1:=ext.kid id hd
   have nm1:id∉mo:=nmo id (by rw[hd];simp)
   have nb:id∉sr:=fun hs=>by
    have:=List.all_eq_true.1 hsrk id hs
    rw[hd1]at this;cases this
   rcases hH hb id with⟨a,b,c⟩ | ⟨po,⟨b1,_⟩ | ⟨_,b2⟩⟩ | ⟨cs,yc,ls,_,_,c,_⟩ | ⟨ri,s,_,_,c⟩ | ⟨cs,yc,ls,j,b1,_⟩
   ·exact a.trans ((hb_o id nm1 nb).trans hd)
   ·exact absurd (wnew id b1) nm1
   ·rw[<-b2,hd1]at po;exact po.elim
   ·rw[hd1]at c;cases c
   ·rw[hd1]at c;cases c
   ·exact absurd (wnew id b1) nm1
  have hext:Ext L κ0 st0.h v0 κ2 h2 w1:=by
   refine⟨fun id hf=>?_,fun id hd=>?_,fun id hd=>?_,fun id ls hd=>?_,fun id e t x hd=>?_,fun id e t x f hd=>?_,fun id e t x hd=>?_,fun id ri rs hd=>?_,fun id hd=>?_,fun id ak av tk tv le cu hd=>?_,fun b hbf=>?_,ext.size,ext.loops,ext.defs⟩
   ·have hl:C9 id m=none:=by
     cases hq:C9 id m with
     | none=>rfl
     | some q=>exact absurd (wnew id ((hlook id).1 (by rw[hq];simp))) (nmo id hf.1)
    exact(hκn id hl).trans (ext.place id hf)
   ·exact hkids id hd
   ·rcases hcase id with⟨a,a2⟩ | ⟨a,_⟩ | ⟨_,a,_⟩ | ⟨a,a2,_⟩ | ⟨_,a2,⟨po,q2⟩ | ⟨cs,yc,ls,q1,q2,q3⟩ | ⟨ri,s,s0,q1,q2,q4⟩ | q1⟩ | ⟨cs6,yc6,ls6,j6,w1',w2',w3',w4',w5'⟩
    ·exact absurd a2 (nmo id (by rw[hd];simp))
    ·exact a
    ·exact a.trans hd
    ·exact absurd a2 (nmo id (by rw[hd];simp))
    ·rw[ext.dead id hd]at q2;exact q2.symm
    ·rw[ext.dead id hd]at q2;cases q2
    ·rw[ext.dead id hd]at q2;cases q2
    ·exact q1
    ·exact absurd w2' (nmo id (by rw[hd];simp))
   ·rcases hcase id with⟨a,a2⟩ | ⟨a,_⟩ | ⟨_,a,_⟩ | ⟨a,a2,_⟩ | ⟨_,a2,⟨po,q2⟩ | ⟨cs,yc,ls',q1,q2,q3⟩ | ⟨ri,s,s0,q1,q2,q4⟩ | q1⟩ | ⟨cs6,yc6,ls6,j6,w1',w2',w3',w4',w5'⟩
    ·exact absurd a2 (nmo id (by rw[hd];simp))
    ·exact .inr a
    ·exact .inl ⟨ls,a.trans hd⟩
    ·exact absurd a2 (nmo id (by rw[hd];simp))
    ·rcases ext.cells id ls hd with⟨l',e'⟩ | e'<;>rw[<-q2,e']at po<;>exact po.elim
    ·exact .inl ⟨_,q1⟩
    ·rw[hd]at q4;cases q4
    ·exact .inr q1
    ·exact absurd w2' (nmo id (by rw[hd];simp))
   ·rcases hcase id with⟨a,a2⟩ | ⟨a,_⟩ | ⟨_,a,_⟩ | ⟨a,a2,_⟩ | ⟨_,a2,⟨po,q2⟩ | ⟨cs,yc,ls',q1,q2,q3⟩ | ⟨ri,s,s0,q1,q2,q4⟩ | q1⟩ | ⟨cs6,yc6,ls6,j6,w1',w2',w3',w4',w5'⟩
    ·exact absurd a2 (nmo id (by rw[hd];simp))
    ·exact .inr a
    ·exact .inl ⟨x,rfl,.inl (a.trans hd)⟩
    ·exact absurd a2 (nmo id (by rw[hd];simp))
    ·rcases ext.arr id e t x hd with⟨l',hl',e1 | e1⟩ | e1
     ·exact .inl ⟨_,hl',.inl (q2.symm.trans e1)⟩
     ·rw[<-q2,e1]at po;exact po.elim
     ·rw[<-q2,e1]at po;exact po.elim
    ·rcases ext.arr id e t x hd with⟨l',hl',e1 | e1⟩ | e1<;>rw[q2]at e1<;>cases e1
    ·rw[hd]at q4;cases q4
    ·exact .inr q1
    ·exact absurd w2' (nmo id (by rw[hd];simp))
   ·rcases hcase id with⟨a,a2⟩ | ⟨a,_⟩ | ⟨_,a,_⟩ | ⟨a,a2,_⟩ | ⟨_,a2,⟨po,q2⟩ | ⟨cs,yc,ls',q1,q2,q3⟩ | ⟨ri,s,s0,q1,q2,q4⟩ | q1⟩ | ⟨cs6,yc6,ls6,j6,w1',w2',w3',w4',w5'⟩
    ·exact absurd a2 (nmo id (by rw[hd];simp))
    ·exact .inr (.inr a)
    ·exact .inl ⟨x,f,rfl,a.trans hd⟩
    ·exact absurd a2 (nmo id (by rw[hd];simp))
    ·rcases ext.arrD id e t x f hd with⟨l',f',hl',e1⟩ | ⟨t',l',_,_,e1⟩ | e1
     ·exact .inl ⟨_,_,hl',q2.symm.trans e1⟩
     ·rw[<-q2,e1]at po;exact po.elim
     ·rw[<-q2,e1]at po;exact po.elim
    ·rcases ext.arrD id e t x f hd with⟨l',f',hl',e1⟩ | ⟨t',l',_,_,e1⟩ | e1<;>rw[q2]at e1<;>cases e1
    ·rw[hd]at q4;cases q4
    ·exact .inr (.inr q1)
    ·exact absurd w2' (nmo id (by rw[hd];simp))
   ·rcases hcase id with⟨a,a2⟩ | ⟨a,_⟩ | ⟨_,a,_⟩ | ⟨a,a2,_⟩ | ⟨_,a2,⟨po,q2⟩ | ⟨cs,yc,ls',q1,q2,q3⟩ | ⟨ri,s,s0,q1,q2,q4⟩ | q1⟩ | ⟨cs6,yc6,ls6,j6,w1',w2',w3',w4',w5'⟩
    ·exact absurd a2 (nmo id (by rw[hd];simp))
    ·exact .inr a
    ·exact .inl (a.trans hd)
    ·exact absurd a2 (nmo id (by rw[hd];simp))
    ·rcases ext.ice id e t x hd with e1 | e1<;>rw[<-q2,e1]at po<;>exact po.elim
    ·rcases ext.ice id e t x hd with e1 | e1<;>rw[q2]at e1<;>cases e1
    ·rw[hd]at q4;cases q4
    ·exact .inr q1
    ·exact absurd w2' (nmo id (by rw[hd];simp))
   ·rcases hcase id with⟨a,a2⟩ | ⟨a,_⟩ | ⟨_,a,_⟩ | ⟨a,a2,_⟩ | ⟨_,a2,⟨po,q2⟩ | ⟨cs,yc,ls',q1,q2,q3⟩ | ⟨ri',s',s0,q1,q2,q4⟩ | q1⟩ | ⟨cs6,yc6,ls6,j6,w1',w2',w3',w4',w5'⟩
    ·exact absurd a2 (nmo id (by rw[hd];simp))
    ·exact .inr a
    ·exact .inl ⟨rs,a.trans hd⟩
    ·exact absurd a2 (nmo id (by rw[hd];simp))
    ·rcases ext.lrec id ri rs hd with⟨s',e1⟩ | e1<;>rw[<-q2,e1]at po<;>exact po.elim
    ·rcases ext.lrec id ri rs hd with⟨s',e1⟩ | e1<;>rw[q2]at e1<;>cases e1
    ·rw[hd]at q4;cases q4;exact .inl ⟨_,q1⟩
    ·exact .inr q1
    ·exact absurd w2' (nmo id (by rw[hd];simp))
   ·have hnf:st0.h id≠.fresh:=fun e=>by rw[e]at hd;cases hd
    rcases hcase id with⟨a,a2⟩ | ⟨a,_⟩ | ⟨_,a,_⟩ | ⟨a,a2,_⟩ | ⟨_,a2,⟨po,q2⟩ | ⟨cs,yc,ls',q1,q2,q3⟩ | ⟨ri',s',s0,q1,q2,q4⟩ | q1⟩ | ⟨cs6,yc6,ls6,j6,w1',w2',w3',w4',w5'⟩
    ·exact absurd a2 (nmo id hnf)
    ·exact .inr a
    ·exact .inl (by rw[a];exact hd)
    ·exact absurd a2 (nmo id hnf)
    ·rcases ext.maps id hd with e1 | e1
     ·exact .inl (by rw[<-q2];exact e1)
     ·exact .inr (q2.symm.trans e1)
    ·rcases ext.maps id hd with e1 | e1<;>rw[q2]at e1<;>cases e1
    ·rw[q4]at hd;cases hd
    ·exact .inr q1
    ·exact absurd w2' (nmo id hnf)
   ·have hnf:st0.h id≠.fresh:=fun e=>by rw[e]at hd;cases hd
    rcases hcase id with⟨a,a2⟩ | ⟨a,_⟩ | ⟨_,a,_⟩ | ⟨a,a2,_⟩ | ⟨_,a2,⟨po,q2⟩ | ⟨cs,yc,ls',q1,q2,q3⟩ | ⟨ri',s',s0,q1,q2,q4⟩ | q1⟩ | ⟨cs6,yc6,ls6,j6,w1',w2',w3',w4',w5'⟩
    ·exact absurd a2 (nmo id hnf)
    ·exact .inr a
    ·exact .inl ⟨le,cu,by rw[a];exact hd⟩
    ·exact absurd a2 (nmo id hnf)
    ·rcases ext.iter id _ _ _ _ _ _ hd with⟨l1,c1,e1⟩ | e1
     ·exact .inl ⟨l1,c1,q2.symm.trans e1⟩
     ·rw[<-q2,e1]at po;exact po.elim
    ·rcases ext.iter id _ _ _ _ _ _ hd with⟨_,_,e1⟩ | e1<;>rw[q2]at e1<;>cases e1
    ·rw[hd]at q4;cases q4
    ·exact .inr q1
    ·exact absurd w2' (nmo id hnf)
   ·obtain⟨f1,f2⟩:=ext.still b hbf
    exact⟨hstill b f1,f2⟩
  have hkeep:∀ id,(st0.h id).Held->(h2 id).Held/\κ2 id=κ1 id/\(h2 id=.dead\/h2 id=st1.h id\/∃ a b,h2 id=.cells a/\st1.h id=.cells b):=by
   intro id hnf
   have hk:κ2 id=κ1 id:=(hext.place id hnf).trans (ext.place id hnf).symm
   rcases hcase id with⟨a,a2⟩ | ⟨a,_⟩ | ⟨a0,a,_⟩ | ⟨a,a2,_⟩ | ⟨_,a2,⟨po,q2⟩ | ⟨cs,yc,ls',q1,q2,q3⟩ | ⟨ri,s,s0,q1,q2,q4⟩ | q1⟩ | ⟨cs6,yc6,ls6,j6,w1',w2',w3',w4',w5'⟩
   ·exact absurd a2 (nmo id hnf.1)
   ·exact⟨by rw[a];simp,hk,.inl a⟩
   ·exact⟨by rw[a];exact hnf,hk,.inr (.inl a0)⟩
   ·exact absurd a2 (nmo id hnf.1)
   ·exact⟨⟨fun e=>by rw[e]at po;exact po,fun e=>by rw[e]at po;exact po⟩,hk,.inr (.inl q2.symm)⟩
   ·exact⟨by rw[q1];simp,hk,.inr (.inr ⟨_,_,q1,q2⟩)⟩
   ·exact⟨by rw[q1];simp,hk,.inr (.inl (q1.trans q2.symm))⟩
   ·exact⟨by rw[q1];simp,hk,.inl q1⟩
   ·exact absurd w2' (nmo id hnf.1)
  have hold:∀ s u v,RepSV L κ0 st0.h v0 s u->RepSV L κ1 st1.h w1 s v->RepSV L κ2 h2 w1 s v:=by
   intro s u v h0 h1
   cases s with
   | unk=>trivial
   | sc t x=>exact⟨h1.1,h1.2.1,RepAt.mono hfm t _ _ h1.2.2⟩
   | nils=>exact h1
   | nilp=>exact h1
   | udf=>exact h1
   | ne e l=>exact⟨h1.1,RepAt.mono hfm (.list e) _ _ h1.2.1,h1.2.2⟩
   | nx=>exact h1
   | own id =>
    have hnf:(st0.h id).Held:=⟨fun e=>by have:=h0.1;rw[e]at this;exact this,fun e=>by have:=h0.1;rw[e]at this;exact this⟩
    obtain⟨g1,g2,g3⟩:=hkeep id hnf
    refine⟨?_,h1.2⟩
    have h1:=h1.1
    rcases g3 with g | g | ⟨a,b,_,g⟩
    ·rw[g];trivial
    ·rw[g,g2];exact h1
    ·rw[g]at h1;exact h1.elim
   | sub id off len =>
    have hnf:(st0.h id).Held:=⟨fun e=>by have:=h0.1;rw[e]at this;exact this,fun e=>by have:=h0.1;rw[e]at this;exact this⟩
    obtain⟨g1,g2,g3⟩:=hkeep id hnf
    refine⟨?_,h1.2⟩
    have h1:=h1.1
    rcases g3 with g | g | ⟨a,b,_,g⟩
    ·rw[g];trivial
    ·rw[g,g2];exact h1
    ·rw[g]at h1;exact h1.elim
   | ptr id off=>obtain⟨g1,g2,_⟩:=hkeep id h0.1;obtain⟨b,c,r1,r2⟩:=h1.2;exact⟨g1,b,c,g2.trans r1,r2⟩
   | eptr id t i c=>obtain⟨g1,g2,_⟩:=hkeep id h0.1;obtain⟨b,c,r1,r2⟩:=h1.2;exact⟨g1,b,c,g2.trans r1,r2⟩
   | yld id=>obtain⟨g1,g2,_⟩:=hkeep id h0.1;obtain⟨b,c,r1,r2⟩:=h1.2;exact⟨g1,b,c,g2.trans r1,r2⟩
   | mp id=>obtain⟨g1,g2,_⟩:=hkeep id h0.1;obtain⟨b,c,r1,r2⟩:=h1.2;exact⟨g1,b,c,g2.trans r1,r2⟩
   | csl id _ _ _=>obtain⟨g1,g2,_⟩:=hkeep id h0.1;obtain⟨b,c,r1,r2⟩:=h1.2;exact⟨g1,b,c,g2.trans r1,r2⟩
   | stmp id=>obtain⟨g1,g2,_⟩:=hkeep id h0.1;obtain⟨b,c,r1,r2⟩:=h1.2;exact⟨g1,b,c,g2.trans r1,r2⟩
   | mpn=>exact h1
   | gl g=>exact h1
   | cstr b=>exact h1
   | nif=>exact h1
   | nilf=>exact h1
   | pan T=>exact h1
   | ifc T agg cs=>obtain⟨us,r1,r2,r3,r4⟩:=h1;exact⟨us,r1,r2,r3,fun i p u hp hu=>⟨(r4 i p u hp hu).1,(r4 i p u hp hu).2.1,RepAt.mono hfm p.1 _ _ (r4 i p u hp hu).2.2⟩⟩
   | bfp f id off =>
    obtain⟨_,_,p1,_⟩:=h0
    obtain⟨u,r0,_,b,c,r2,r3⟩:=h1
    obtain⟨g1,g2,_⟩:=hkeep id p1
    exact⟨u,r0,g1,b,c,g2.trans r2,r3⟩
   | bfn f agg cs=>obtain⟨us,r1,r2,r3,r4⟩:=h1;exact⟨us,r1,r2,r3,fun i p u hp hu=>⟨(r4 i p u hp hu).1,(r4 i p u hp hu).2.1,RepAt.mono hfm p.1 _ _ (r4 i p u hp hu).2.2⟩⟩
   | gp k x=>obtain⟨b,o,r1,r2,r3⟩:=h1;exact⟨b,o,r1,hstill b r2,r3⟩
   | ro t x c=>obtain⟨b,o,r1,r2,r3⟩:=h1;exact⟨b,o,r1,hfree b r2,RepAt.mono hfm t _ _ r3⟩
   | fn f caps =>
    obtain⟨cs0,_,_,p3⟩:=h0
    obtain⟨cs,r1,r2,r3⟩:=h1
    refine⟨cs,r1,r2,fun i p hp=>?_⟩
    obtain⟨q1,_⟩:=p3 i p hp
    obtain⟨_,b,c,q2,q3⟩:=r3 i p hp
    obtain⟨g1,g2,_⟩:=hkeep p.1 q1
    exact⟨g1,b,c,g2.trans q2,q3⟩
  have holdC:∀ l us vs,RepCells L κ0 st0.h v0 l us->RepCells L κ1 st1.h w1 l vs->RepCells L κ2 h2 w1 l vs:=by
   intro l us vs h0 h1
   refine⟨h1.1,fun i s c hi hc=>⟨?_,(h1.2 i s c hi hc).2⟩⟩
   have hlt:i<us.length:=by rw[h0.1];exact(List.getElem?_eq_some_iff.1 hi).1
   exact hold s us[i] c (h0.2 i s _ hi (List.getElem?_eq_getElem hlt)).1 (h1.2 i s c hi hc).1
  have holdAV:∀ av u v,RepAV L κ0 st0.h v0 av u->RepAV L κ1 st1.h w1 av v->RepAV L κ2 h2 w1 av v:=by
   intro av u v h0 h1
   cases av with
   | one s=>exact hold s u v h0 h1
   | agg l =>
    obtain⟨us,_,h0⟩:=h0
    obtain⟨vs,hv,h1⟩:=h1
    exact⟨vs,hv,holdC l us vs h0 h1⟩
   | tup l =>
    obtain⟨us,_,hul,h0⟩:=h0
    obtain⟨vs,hv,hvl,h1⟩:=h1
    refine⟨vs,hv,hvl,fun i c x hi hx=>?_⟩
    have hlt:i<us.length:=by rw[hul];exact(List.getElem?_eq_some_iff.1 hi).1
    have h0:=h0 i c us[i] hi (List.getElem?_eq_getElem hlt)
    have h1:=h1 i c x hi hx
    match c,h0,h1 with
    | (true,l'),⟨us',_,h0⟩,⟨vs',hv',h1⟩=>exact⟨vs',hv',holdC l' us' vs' h0 h1⟩
    | (false,[s]),h0,h1=>exact hold s _ _ h0 h1
    | (false,[]),h0,_=>exact h0.elim
    | (false,_::_::_),h0,_=>exact h0.elim
  have hpart:∀ (n n0:Nat) (o:Option Nat) (t:KTy) (u v:Value) {y y0:t.den},X2<=n->RepPart L κ0 st0.h v0 n0 o t u y0->RepPart L κ1 st1.h w1 n o t v y->RepPart L κ2 h2 w1 n o t v y:=by
   intro n n0 o t u v y y0 hn h0 h1
   cases o with
   | none=>exact RepKid.at hfree (hkid n hn) h1
   | some g=>exact⟨hold _ _ _ h0.1 h1.1,(hkeep g h0.2).1⟩
  have hlrec:∀ id ri s s0,κ2 id=κ1 id->st1.h id=.lrec ri s->st0.h id=.lrec ri s0->RepObj L κ2 h2 w1 id (.lrec ri s):=by
   intro id ri s s0 hk h1 h0
   have ho1:=sim1.heap.obj id
   have ho0:=sim0.heap.obj id
   rw[h1]at ho1
   rw[h0]at ho0
   obtain⟨b,c,r1,p1,p2,p3,p4,p5,p6,p7,p8,p9⟩:=ho1
   obtain⟨_,_,r0,_,_,_,_,_,_,_,_,q9⟩:=ho0
   exact⟨b,c,r1,hk.trans p1,p2,p3,p4,p5,p6,p7,p8,fun t=>holdAV _ _ _ (q9 t) (p9 t)⟩
  have hheap:HeapOK L w0 κ2 h2 w1:=by
   refine⟨fun id=>?_,fun i j b c c' hi hj h1 h2'=>?_,fun i b c hi h1=>?_,sim1.heap.below,fun b hL=>⟨(sim1.heap.outer b hL).1,fun i c hi h1=>?_⟩,fun id hle=>hkids id (sim0.heap.kids id hle)⟩
   ·rcases hcase id with⟨a,_⟩ | ⟨a,_⟩ | ⟨a,a1,_,_,_,a5⟩ | ⟨a,_,⟨j,q1,q2⟩ | ⟨q1,e9,t9,q2⟩⟩ | ⟨_,a2,⟨po,q2⟩ | ⟨cs,yc,ls,q1,q2,q3⟩ | ⟨ri,s,s0,q1,q2,q4⟩ | q1⟩ | ⟨cs6,yc6,ls6,j6,w1',w2',w3',w4',w5'⟩
    ·rw[a];trivial
    ·rw[a];trivial
    ·have hob:=sim1.heap.obj id
     rw[<-a]at hob
     have hk:=hκn id a5
     cases hq:h2 id with
     | fresh=>trivial
     | dead=>trivial
     | cells ls =>
      rw[hq]at hob
      obtain⟨b,c,cs,ty,r1,r2,r3,r4⟩:=hob
      refine⟨b,c,cs,ty,hk.trans r1,r2,r3,fun i s u hi hu=>?_⟩
      obtain⟨t1,t2⟩:=r4 i s u hi hu
      refine⟨?_,t2⟩
      have hid0:st0.h id=.cells ls:=by rw[<-a1];exact hq
      have ho0:=sim0.heap.obj id
      rw[hid0]at ho0
      obtain⟨_,_,cs0,_,_,_,p3,p4⟩:=ho0
      have hlt:i<cs0.length:=by rw[p3];exact(List.getElem?_eq_some_iff.1 hi).1
      exact hold s cs0[i] u (p4 i s _ hi (List.getElem?_eq_getElem hlt)).1 t1
     | arr e t x=>rw[hq]at hob;exact harr id id e t x hk hob
     | ice e t x=>rw[hq]at hob;exact⟨harr id id e t x hk hob.1,fun b c hb=>hfree b (hob.2 b c (by rw[<-hk];exact hb))⟩
     | lrec ri s=>exact hlrec id ri s s hk (by rw[<-a,hq]) (by rw[<-a1,hq])
     | mapo ak av tk tv x=>rw[hq]at hob;exact hpure id _ hk trivial hob
     | mice ak av tk tv x =>
      rw[hq]at hob
      obtain⟨b,c,es,cl,r1,r2,r3,r4⟩:=hob
      exact⟨b,c,es,cl,hk.trans r1,hfree b r2,r3,r4.mono hfm⟩
     | iter ak av tk tv le cu =>
      rw[hq]at hob
      obtain⟨b,c,mm,si,se,c0,r1,r2,r3⟩:=hob
      exact⟨b,c,mm,si,se,c0,hk.trans r1,r2,r3.mono hfm⟩
     | kid=>trivial
     | arrD e t x f =>
      rw[hq]at hob
      have hid0:st0.h id=.arrD e t x f:=by rw[<-a1];exact hq
      have ho0:=sim0.heap.obj id
      rw[hid0]at ho0
      rcases hob with⟨a,b,c⟩ | ⟨b,cap,cur,r1,r2,r3,r4,r5,r6,r7⟩
      ·exact .inl ⟨hk.trans a,b,c⟩
      ·refine .inr ⟨b,cap,cur,hk.trans r1,r2,r3,r4,r5,r6,fun i y hy=>?_⟩
       obtain⟨v,v1,v2⟩:=r7 i y hy
       refine⟨v,v1,?_⟩
       rcases ho0 with⟨_,e0,_⟩ | ⟨_,_,_,_,_,_,_,_,_,p7⟩
       ·rw[e0]at hy;simp at hy
       ·obtain⟨u,_,u2⟩:=p7 i y hy
        exact hpart _ _ _ _ _ _ (q42 _ _) u2 v2
     | mapD ak tk t x f =>
      rw[hq]at hob
      obtain⟨b,c,es,cl,r1,r2,r3⟩:=hob
      have hid0:st0.h id=.mapD ak tk t x f:=by rw[<-a1];exact hq
      have ho0:=sim0.heap.obj id
      rw[hid0]at ho0
      obtain⟨_,_,es0,_,_,_,s3⟩:=ho0
      obtain⟨p,p1,p2,p3⟩:=r3.ents
      obtain⟨p0,s1,s2,s4⟩:=s3.ents
      refine⟨b,c,es,cl,hk.trans r1,r2,r3.flat,r3.rise,r3.apart,r3.early,p,p1,p2,fun i z q hz hq'=>?_⟩
      obtain⟨t1,t2,t3⟩:=p3 i z q hz hq'
      have hm0:q∈p0:=s1.symm.mem_iff.1 (p1.mem_iff.1 (List.mem_of_getElem? hq'))
      obtain⟨i0,hi0,he0⟩:=List.getElem_of_mem hm0
      have hq0:p0[i0]? = some q:=by rw[List.getElem?_eq_getElem hi0,he0]
      have hz0:es0.toList[i0]? = some es0.toList[i0]:=List.getElem?_eq_getElem (by rw[<-s2];exact hi0)
      exact⟨t1.mono hfm,t2,hpart _ _ _ _ _ _ (q42 _ _) (s4 i0 _ q hz0 hq0).2.2 t3⟩
     | mapp ak av tk tv x k g =>
      rw[hq]at hob
      obtain⟨b,c,es,cl,r1,r2,r3,r4,n,c',r5,y0,r6,r7,r8⟩:=hob
      have hid0:st0.h id=.mapp ak av tk tv x k g:=by rw[<-a1];exact hq
      have ho0:=sim0.heap.obj id
      rw[hid0]at ho0
      obtain⟨_,_,_,_,_,_,_,p4,_⟩:=ho0
      have hg:κ2 g=κ1 g:=(hext.place g p4).trans (ext.place g p4).symm
      exact⟨b,c,es,cl,hk.trans r1,r2,r3.mono hfm,hext.keeps p4,n,c',hg.trans r5,y0,r6,r7,r8.mono hfm⟩
    ·have hob:=sim1.heap.obj j
     rw[q2.1]at hob
     exact hpure0 id j _ (hκs id j q1) q2.2 hob
    ·rw[q2];exact .inl ⟨hκ0 id q1,rfl⟩
    ·have hob:=sim1.heap.obj id
     rw[q2]at hob
     exact hpure id _ (hκn id a2) po hob
    ·have hob:=sim1.heap.obj id
     rw[q2]at hob
     obtain⟨b,c,cells,ty,r1,r2,r3,r4⟩:=hob
     rw[q1]
     refine⟨b,c,cells,ty,(hκn id a2).trans r1,r2,r3.trans q3.1,fun i s u hi hu=>?_⟩
     obtain⟨s0,hs0,hma⟩:=q3.2 i s hi
     exact hmatch s0 s u hma (r4 i s0 u hs0 hu).1
    ·rw[q1];exact hlrec id ri s s0 (hκn id a2) q2 q4
    ·rw[q1];trivial
    ·have hob:=sim1.heap.obj j6
     rw[w4']at hob
     obtain⟨b,c,cells,ty,r1,r2,r3,r4⟩:=hob
     rw[w1']
     refine⟨b,c,cells,ty,(hκs id j6 w3').trans r1,r2,r3.trans w5'.1,fun i s u hi hu=>?_⟩
     obtain⟨s0,hs0,hma⟩:=w5'.2 i s hi
     exact hmatch s0 s u hma (r4 i s0 u hs0 hu).1
   ·obtain⟨i1,i2⟩:=live i b c hi h1
    obtain⟨j1,j2⟩:=live j b c' hj h2'
    have hφ:=sim1.heap.inj (φ i) (φ j) b c c' i1 j1 i2 j2
    cases hli:C9 i m with
    | none =>
     rw[hφn i hli]at hφ
     cases hlj:C9 j m with
     | none=>rw[hφn j hlj]at hφ;exact hφ
     | some q =>
      cases q with
      | none=>rw[hκ0 j hlj]at h2';cases h2'
      | some a=>rw[hφs j a hlj]at hφ;exact absurd (hsub a (q2a hlj)) (hφ▸hout i hli hi)
    | some q =>
     cases q with
     | none=>rw[hκ0 i hli]at h1;cases h1
     | some a =>
      rw[hφs i a hli]at hφ
      cases hlj:C9 j m with
      | none=>rw[hφn j hlj]at hφ;exact absurd (hsub a (q2a hli)) (hφ▸hout j hlj hj)
      | some q =>
       cases q with
       | none=>rw[hκ0 j hlj]at h2';cases h2'
       | some a'=>rw[hφs j a' hlj]at hφ;subst hφ;exact z85 hnd hli hlj
   ·obtain⟨i1,i2⟩:=live i b c hi h1
    exact sim1.heap.own (φ i) b c i1 i2
   ·obtain⟨i1,i2⟩:=live i b c hi h1
    exact(sim1.heap.outer b hL).2 (φ i) c i1 i2
  refine⟨κ2,⟨?_,fun t=>?_,hheap,sim1.defs,sim1.rnd⟩,hext,hfree⟩
  ·exact sim1.size.trans hn
  ·show RepAV L κ2 h2 w1 (F2 l y (fun t=>cond (D6 mt t) (.one .unk) (st0.ρ t)) t) _
   rcases hE (fun t=>cond (D6 mt t) (.one .unk) (st0.ρ t)) t with⟨a,a2⟩ | ⟨a,s,s',q1,q2,q3⟩
   ·rw[a]
    cases hq:D6 mt t with
    | true=>trivial
    | false =>
     have hnt:t∉mt:=fun h=>by rw[memb_iff.2 h]at hq;cases hq
     rw[htmp t hnt]
     exact RepAV.ext hext (sim0.env t)
   ·rw[q2]
    have hr:=sim1.env t
    rw[q1]at hr
    exact(hmatch s s' _ q3 hr).1
 ·cases he
def q8z (L:Nat->Prop) (w0:World) (v:List (Nat×AObj)) (h:Heap):Prop :=
 ∀ κ w,HeapOK L w0 κ h w->∃ κ',HeapOK L w0 κ' (A5 v h) w/\Ext L κ h w κ' (A5 v h) w
theorem j5d {R:Type} {h:Heap} {id:Nat} {K:List (Nat×AObj)->Option R} {z:R} (he:q9l h id K=some z):∃ v,K v=some z/\q8z L w0 v h:=by
 unfold q9l at he
 split at he
 ·rename_i e t l f hid
  split at he
  ·rename_i l1 u hcl
   refine⟨_,he,fun κ w ok=>?_⟩
   obtain⟨κ1,h1,h2,h3,h4⟩:=q3d ok hid hcl
   rw[J8]
   exact⟨κ1,h1⟩
  ·cases he
 ·rename_i ak tk t l f hid
  split at he
  ·rename_i l1 u hcl
   refine⟨_,he,fun κ w ok=>?_⟩
   obtain⟨κ1,h1,h2,h4⟩:=q1q ok hid hcl
   rw[J8]
   exact⟨κ1,h1⟩
  ·cases he
 ·exact⟨_,he,fun κ w ok=>⟨κ,ok,Ext.refl L κ h w⟩⟩
theorem q9k {R:Type} {K:List (Nat×AObj)->Heap->Option R} {z:R}:∀ (ids:List Nat) (u:List (Nat×AObj)) (h:Heap),q9j K ids u h=some z->∃ v,K (u++v) (A5 v h)=some z/\q8z L w0 v h
 | [],u,h,he=>⟨[],by rw[List.append_nil];exact he,fun κ w ok=>⟨κ,ok,Ext.refl L κ h w⟩⟩
 | id::r,u,h,he=>by
  obtain⟨v,hv,g1⟩:=j5d (L:=L) (w0:=w0) he
  obtain⟨v2,hv2,g2⟩:=q9k r (u++v) (A5 v h) hv
  refine⟨v++v2,by rw[J8,<-List.append_assoc];exact hv2,fun κ w ok=>?_⟩
  obtain⟨κ1,a1,a2⟩:=g1 κ w ok
  obtain⟨κ2,b1,b2⟩:=g2 κ1 w a1
  rw[J8]
  exact⟨κ2,b1,a2.trans b2⟩
theorem z6h {R:Type} {st1:St} {mt mo sr stat:List Nat} {l:List LI} {K:C7 l->Option R} {z:R} (he:K3 st1 mt mo sr stat l K=some z) :
  ∃ v,q8z L w0 v st1.h/\(∀ p∈v,(p.1∈mo\/p.1∈sr\/p.1∈stat)/\z8p (st1.h p.1)=true)/\q1y { st1 with h:=A5 v st1.h } mt mo sr stat l K=some z:=by
 obtain⟨v,hv,g⟩:=q9k (L:=L) (w0:=w0) _ _ _ he
 obtain⟨hc,hv⟩:=A7 hv
 rw[Bool.and_eq_true]at hc
 replace hc:=hc.1
 rw[List.nil_append]at hc
 refine⟨v,g,fun p hp=>?_,hv⟩
 have:=List.all_eq_true.1 hc p hp
 simp only[Bool.and_eq_true,memb_iff,List.mem_append]at this
 exact this
theorem z6f {R:Type} {st1:St} {mt mo sr stat:List Nat} {l:List LI} {K:C7 l->Option R} {z:R} (he:K3 st1 mt mo sr stat l K=some z):st1.h B6=.fresh:=by
 obtain⟨v,hv,-⟩:=q9k (L:=fun _=>False) (w0:=default) _ _ _ he
 have hc:=(A7 hv).1
 rw[Bool.and_eq_true]at hc
 exact z7r hc.2
theorem z6g {R:Type} {st0 st1:St} {mt mo sr stat:List Nat} {l:List LI} {K:C7 l->Option R} {z:R} (he:K3 st1 mt mo sr stat l K=some z) :
  ∃ y,K y=some z/\(∀ id∈stat,(∃ ak av tk tv l c,st1.h id=.iter ak av tk tv l c)->(B9 st0 mt mo sr l y).h id=st1.h id)/\∀ B r κ0 a0 v0 κ1 a1 w1,Sim P L w0 B r κ0 st0 a0 v0->Sim P L w0 B r κ1 st1 a1 w1->Ext L κ0 st0.h v0 κ1 st1.h w1->(∀ t,t∉mt->a1.tmps.getD t undef=a0.tmps.getD t undef) ->
   (∀ id,id∉mo->id∉sr->id∉stat->st1.h id=st0.h id)->(∀ id∈mo,st0.h id=.fresh)->st1.n=st0.n ->
   ∃ κ2,Sim P L w0 B r κ2 (B9 st0 mt mo sr l y) a1 w1/\Ext L κ0 st0.h v0 κ2 (B9 st0 mt mo sr l y).h w1/\∀ b,A4 L κ1 st1.h w1 b->A4 L κ2 (B9 st0 mt mo sr l y).h w1 b:=by
 obtain⟨v,g,hv,he1⟩:=z6h (L:=L) (w0:=w0) he
 obtain⟨y,hy,hit,hs⟩:=j6b (P:=P) (L:=L) (w0:=w0) (st0:=st0) he1
 have hoff:∀ id,(∀ p∈v,p.1≠id)->A5 v st1.h id=st1.h id:=fun id hid=>q5g v st1.h hid
 refine⟨y,hy,fun id hid hx=>?_,fun B r κ0 a0 v0 κ1 a1 w1 sim0 sim1 ext htmp hobj hmo hn=>?_⟩
 ·have ho:=hoff id (fun p hp e=>by
   obtain⟨ak,av,tk,tv,l,c,hx⟩:=hx
   have:=(hv p hp).2
   rw[e,hx]at this
   cases this)
  refine(hit id hid ?_).trans ho
  show ∃ ak av tk tv l c,A5 v st1.h id=.iter ak av tk tv l c
  rw[ho];exact hx
 ·obtain⟨κ',ok',ext'⟩:=g κ1 w1 sim1.heap
  obtain⟨κ2,s1,s2,s3⟩:=hs B r κ0 a0 v0 κ' a1 w1 sim0 ⟨sim1.size,fun t=>(sim1.env t).ext ext',ok',sim1.defs,sim1.rnd⟩ (ext.trans ext') htmp
   (fun id h1 h2 h3=>(hoff id (fun p hp e=>by
    rcases (hv p hp).1 with h | h | h
    ·exact h1 (e▸h)
    ·exact h2 (e▸h)
    ·exact h3 (e▸h))).trans (hobj id h1 h2 h3)) hmo hn
  exact⟨κ2,s1,s2,fun b hb=>s3 b (ext'.free b hb).1⟩
end Go.Abs
