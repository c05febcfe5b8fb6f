/- The engine, part 16: a state may be taken for its fixed form. -/
import Derived.Test.YtecofmaegcibeaaGreatDoorAbsCanon
namespace Go.Abs
open Go Go.RowKit
variable {P:Program} {L:Nat->Prop} {w0:World}
def z9n (m:Mv) (gone:List Nat) (h:Heap) (s s':SV):Prop :=
 (∃t x,s'=.sc t x/\T1 m gone h t s=some x/\t.size=1)\/(∃id,s'=.own id/\z89 m gone id s=true)\/(∃id j,((s'=.ptr id 0/\s=.ptr j 0)\/(s'=.mp id/\s=.mp j))/\C8 id m=some (some j))\/((s'=.nilp/\s=.nilp)\/(s'=.mpn/\s=.mpn))\/(∃id a b,s'=.sub id a b/\s=.sub id a b/\C8 id m=none/\id∉gone)\/(∃id,((s'=.mp id/\s=.mp id)\/∃off,s'=.ptr id off/\s=.ptr id off)/\C8 id m=none/\id∉gone)\/(∃id,s'=.ts id []/\z8a m gone id s=true)
def q7x (m:Mv) (gone:List Nat) (h:Heap) (cs:List CI) (y:q06 cs) (ls:List SV):Prop :=
 ls.length=(I6 cs y).length/\∀(i:Nat) (s':SV),(I6 cs y)[i]? = some s'->∃s,ls[i]? = some s/\z9n m gone h s s'
variable {m:Mv} {gone:List Nat} {h:Heap}
theorem j0p {t:Ty} {s:SV} {x:t.den} (hd:T1 m gone h t s=some x):t.size=1/\((∃z,s=.sc t z/\z=x)\/(∃e,t=.list e/\s=.nils/\HEq x ([]:List e.den)) \/
  (∃e,∃l:List e.den,t=.list e/\HEq x l/\C2 h e s=some l/\(∀id∈H3 s,q1w m gone h id=true)/\((∃id,s=.own id)\/∃id a b,s=.sub id a b)) \/
  ∃ak av k v,∃l:List (Ty.den k×Ty.den v),t=.map ak av k v/\HEq x l/\S3 h ak av k v s=some l/\(∀id∈H3 s,q1w m gone h id=true)/\(s=.mpn\/∃id,s=.mp id)):=by
 cases s with
 | sc t' z =>
  simp only[T1]at hd;obtain⟨hs,hd⟩:=B1 hd;obtain⟨e,hz⟩:=H9 hd;subst e;subst hz;exact⟨ab hs,.inl ⟨_,rfl,rfl⟩⟩
 | nils =>
  cases t with
  | list e=>simp only[T1,aN]at hd;subst hd;exact⟨rfl,.inr (.inl ⟨e,rfl,rfl,HEq.rfl⟩)⟩
  | _=>simp[T1]at hd
 | own id =>
  cases t with
  | list e =>
   simp only[T1]at hd;obtain⟨h1,h2⟩:=B1 hd;exact⟨rfl,.inr (.inr (.inl ⟨e,x,rfl,HEq.rfl,h2,λi hi=>by simp[H3]at hi;subst hi;exact h1,.inl ⟨id,rfl⟩⟩))⟩
  | _=>simp[T1]at hd
 | sub id a b =>
  cases t with
  | list e =>
   simp only[T1]at hd;obtain⟨h1,h2⟩:=B1 hd;exact⟨rfl,.inr (.inr (.inl ⟨e,x,rfl,HEq.rfl,h2,λi hi=>by simp[H3]at hi;subst hi;exact h1,.inr ⟨id,a,b,rfl⟩⟩))⟩
  | _=>simp[T1]at hd
 | mp id =>
  cases t with
  | map ak av k v =>
   simp only[T1]at hd;obtain⟨h1,h2⟩:=B1 hd;exact⟨rfl,.inr (.inr (.inr ⟨ak,av,k,v,x,rfl,HEq.rfl,h2,λi hi=>by simp[H3]at hi;subst hi;exact h1,.inr ⟨id,rfl⟩⟩))⟩
  | _=>simp[T1]at hd
 | _=>cases t<;>simp[T1]at hd
def Ty.one:Ty->Bool
 | .int _ | .bool | .list _ | .map _ _ _ _=>true
 | _=>false
theorem q4o {R:Type} {m:Mv} {gone:List Nat} {h:Heap}:∀(cs:List CI) (ls:List SV) (K:q06 cs->Option R) (z:R),exC m gone h cs ls K=some z ->
  ∃y,K y=some z/\q7x m gone h cs y ls
 | [],[],K,z,he=>⟨(),he,rfl,λi s' hi=>by simp[I6]at hi⟩
 | [],_::_,_,_,he=>by simp[exC]at he
 | .v _::_,[],_,_,he=>by simp[exC]at he
 | .o _::_,[],_,_,he=>by simp[exC]at he
 | .m _::_,[],_,_,he=>by simp[exC]at he
 | .t _::_,[],_,_,he=>by simp[exC]at he
 | .p _ _::_,[],_,_,he=>by simp[exC]at he
 | .p id o::r,s::l,K,z,he=>by
  simp only[exC]at he;obtain⟨hsr,he⟩:=B1 he;obtain⟨y,hy,h1,h2⟩:=q4o r l _ z he;refine⟨y,hy,by simp[I6,h1],λi s' hi=>?_⟩;cases i with
  | zero =>
   simp[I6]at hi;subst hi;unfold y53 at hsr;split at hsr
   ·rename_i hl;simp only[ac,aU]at hsr;have e:=ab hsr.1.1;have e2:=ab hsr.1.2;subst e;subst e2;exact⟨_,rfl,.inr (.inr (.inr (.inr (.inr (.inl ⟨_,.inr ⟨_,rfl,rfl⟩,hl,λhm=>by rw[memb_iff.2 hm]at hsr;exact absurd hsr.2 (by simp)⟩)))))⟩
   ·cases hsr
  | succ i=>simp only[I6,bz]at hi ⊢;exact h2 i s' hi
 | .t id::r,s::l,K,z,he=>by
  simp only[exC]at he;obtain⟨hsr,he⟩:=B1 he;obtain⟨y,hy,h1,h2⟩:=q4o r l _ z he;refine⟨y,hy,by simp[I6,h1],λi s' hi=>?_⟩;cases i with
  | zero=>simp[I6]at hi;subst hi;exact⟨s,rfl,.inr (.inr (.inr (.inr (.inr (.inr ⟨id,rfl,hsr⟩)))))⟩
  | succ i=>simp only[I6,bz]at hi ⊢;exact h2 i s' hi
 | .v t::r,s::l,K,z,he=>by
  simp only[exC]at he;split at he
  ·rename_i x hx;obtain⟨y,hy,h1,h2⟩:=q4o r l _ z he;refine⟨(x,y),hy,by simp[I6,h1],λi s' hi=>?_⟩;cases i with
   | zero =>
    simp[I6]at hi;subst hi;exact⟨s,rfl,.inl ⟨t,x,rfl,hx,(j0p hx).1⟩⟩
   | succ i=>simp only[I6,bz]at hi ⊢;exact h2 i s' hi
  ·cases he
 | .o id::r,s::l,K,z,he=>by
  simp only[exC]at he;obtain⟨hsr,he⟩:=B1 he;obtain⟨y,hy,h1,h2⟩:=q4o r l _ z he;refine⟨y,hy,by simp[I6,h1],λi s' hi=>?_⟩;cases i with
  | zero=>simp[I6]at hi;subst hi;exact⟨s,rfl,.inr (.inl ⟨id,rfl,hsr⟩)⟩
  | succ i=>simp only[I6,bz]at hi ⊢;exact h2 i s' hi
 | .m id::r,s::l,K,z,he=>by
  simp only[exC]at he;obtain⟨hsr,he⟩:=B1 he;obtain⟨y,hy,h1,h2⟩:=q4o r l _ z he;refine⟨y,hy,by simp[I6,h1],λi s' hi=>?_⟩;cases i with
  | zero =>
   simp[I6]at hi;subst hi;unfold y52 at hsr;split at hsr
   ·rename_i hl;simp only[ac,aU]at hsr;have e:=ab hsr.1;subst e;exact⟨_,rfl,.inr (.inr (.inr (.inr (.inr (.inl ⟨_,.inl ⟨rfl,rfl⟩,hl,λhm=>by rw[memb_iff.2 hm]at hsr;exact absurd hsr.2 (by simp)⟩)))))⟩
   ·cases hsr
  | succ i=>simp only[I6,bz]at hi ⊢;exact h2 i s' hi
theorem XK.beq_eq {a b:XK} (h:XK.beq a b=true):a=b:=by
 cases a<;>cases b<;>first | rfl | cases h | (rw[ab h])
theorem RS.beq_eq {a b:RS} (h:RS.beq a b=true):a=b:=by
 cases a<;>cases b<;>first | rfl | cases h | (rw[XK.beq_eq h])
def AObj.pure:AObj->Prop
 | .arr .. | .mapo .. | .iter .. | .tree _ _ _ []=>True
 | _=>False
def HSpec (m:Mv) (gone:List Nat) (h:Heap) (l:List LI) (o base:AObj) (id:Nat):Prop :=
 (o=base/\id∉F8 l/\id∉E9 l) \/
 (o.pure/\((id∈F8 l/\((∃j,C8 id m=some (some j)/\h j=o)\/(C8 id m=some none/\((W0 id m=false/\∃e t,o=.arr e t [])\/W0 id m=true/\∃e k,o=.tree e k [] []))))\/(id∈E9 l/\h id=o))) \/
 (∃cs yc ls,id∈E9 l/\o=.cells (I6 cs yc)/\h id=.cells ls/\q7x m gone h cs yc ls) \/
 (∃i s,id∈E9 l/\o=y5k base s/\h id=.lrec i s) \/
 ∃cs yc ls j,id∈F8 l/\o=.cells (I6 cs yc)/\C8 id m=some (some j)/\h j=.cells ls/\q7x m gone h cs yc ls
variable {l:List LI}
theorem HSpec.cons {i:LI} {o base:AObj} {id:Nat} (hs:HSpec m gone h l o base id) (h1:id∈F8 (i::l)->id∈F8 l) (h2:id∈E9 (i::l)->id∈E9 l) (h3:id∈F8 l->id∈F8 (i::l)) (h4:id∈E9 l->id∈E9 (i::l)):HSpec m gone h (i::l) o base id:=by
 rcases hs with⟨a,b,c⟩ | ⟨a,b⟩ | ⟨cs,yc,ls,a,b⟩ | ⟨i',s',a,b⟩ | ⟨cs,yc,ls,j,a,b⟩
 ·exact .inl ⟨a,λhm=>b (h1 hm),λhm=>c (h2 hm)⟩
 ·refine .inr (.inl ⟨a,?_⟩);rcases b with⟨b1,b2⟩ | ⟨b1,b2⟩
  ·exact .inl ⟨h3 b1,b2⟩
  ·exact .inr ⟨h4 b1,b2⟩
 ·exact .inr (.inr (.inl ⟨cs,yc,ls,h4 a,b⟩))
 ·exact .inr (.inr (.inr (.inl ⟨i',s',h4 a,b⟩)))
 ·exact .inr (.inr (.inr (.inr ⟨cs,yc,ls,j,h3 a,b⟩)))
variable {R:Type} {z:R}
theorem y1s {id:Nat} {c av:Bool} {b a:Ty} {K:List (b.den×a.den)->Option R} (d:z5o h id c av b a K=some z):∃x,h id=.mapo c av b a x/\K x=some z:=by
 grind[z5o,H9]
theorem v5y {id:Nat} {d av:Bool} {b a:Ty} {K:List (b.den×a.den)->Option (b.den×a.den)->Option R} (e:j2r h id d av b a K=some z):∃x c,h id=.iter d av b a x c/\K x c=some z:=by
 grind[j2r,H9]
theorem y8b {id:Nat} {e:TypeId} {k:OT} {K:List k.den->Option R} (he:z9b h id e k K=some z):∃x,h id=.tree e k x []/\K x=some z:=by
 unfold z9b at he;split at he
 ·rename_i e' k' l hid;obtain⟨l',hl',he⟩:=ae.1 he;obtain⟨hc,he2⟩:=B1 he;have hc:=ab hc;obtain⟨hk,hl⟩:=j0c hl';subst hk;subst hc;change l=l' at hl;subst hl;exact⟨l,hid,he2⟩
 ·cases he
theorem L7 {R:Type} {m:Mv} {gone:List Nat} {ρ:Env} {h:Heap} :
  ∀(l:List LI) (K:D7 l->Option R) (z:R),exI m gone ρ h l K=some z ->
  ∃y,K y=some z/\(∀hb id,HSpec m gone h l (D8 l y hb id) (hb id) id) /\
   ∀ρb t,(F7 l y ρb t=ρb t/\t∉E3 l)\/(t∈E3 l/\∃s s',ρ t=.one s/\F7 l y ρb t=.one s'/\z9n m gone h s s')
 | [],K,z,he=>⟨(),he,λhb id=>.inl ⟨rfl,by simp[F8],by simp[E9]⟩,λρb t=>.inl ⟨rfl,by simp[E3]⟩⟩
 | .tmp s t::r,K,z,he=>by
  simp only[exI]at he;split at he
  ·rename_i v hv;split at he
   ·rename_i x hx;obtain⟨y,hy,h1,h2⟩:=L7 r _ z he;refine⟨(x,y),hy,λhb id=>(h1 hb id).cons (λh=>h) (λh=>h) (λh=>h) (λh=>h),λρb u=>?_⟩;simp only[F7];by_cases hu:u=s
    ·subst hu;rw[A2];exact .inr ⟨by simp[E3],v,_,hv,rfl,.inl ⟨t,x,rfl,hx,(j0p hx).1⟩⟩
    ·rw[A0 _ _ hu];rcases h2 ρb u with⟨a,b⟩ | ⟨a,b⟩
     ·exact .inl ⟨a,by simp[E3,hu,b]⟩
     ·exact .inr ⟨by simp[E3,a],b⟩
   ·cases he
  ·cases he
 | .own s id::r,K,z,he=>by
  simp only[exI]at he;split at he
  ·rename_i v hv;obtain⟨hsr,he⟩:=B1 he;obtain⟨y,hy,h1,h2⟩:=L7 r _ z he;refine⟨y,hy,λhb id=>(h1 hb id).cons (λh=>h) (λh=>h) (λh=>h) (λh=>h),λρb u=>?_⟩;simp only[F7];by_cases hu:u=s
   ·subst hu;rw[A2];exact .inr ⟨by simp[E3],v,_,hv,rfl,.inr (.inl ⟨id,rfl,hsr⟩)⟩
   ·rw[A0 _ _ hu];rcases h2 ρb u with⟨a,b⟩ | ⟨a,b⟩
    ·exact .inl ⟨a,by simp[E3,hu,b]⟩
    ·exact .inr ⟨by simp[E3,a],b⟩
  ·cases he
 | .arr id e t src::r,K,z,he=>by
  simp only[exI]at he;have fin:∀(x:List t.den) (y:D7 r),(∀hb i,HSpec m gone h r (D8 r y hb i) (hb i) i)->((∃j,C8 id m=some (some j)/\h j=.arr e t x)\/(C8 id m=some none/\W0 id m=false/\x=[])) ->
    ∀hb i,HSpec m gone h (.arr id e t src::r) (D8 (.arr id e t src::r) (x,y) hb i) (hb i) i:=by
   intro x y h1 hx hb i;simp only[D8];by_cases hi:i=id
   ·subst hi;rw[A2];refine .inr (.inl ⟨trivial,.inl ⟨by simp[F8],?_⟩⟩);rcases hx with⟨j,hx1,hx2⟩ | ⟨hx,hx2,rfl⟩
    ·exact .inl ⟨j,hx1,hx2⟩
    ·exact .inr ⟨hx,.inl ⟨hx2,e,t,rfl⟩⟩
   ·rw[A0 _ _ hi];exact(h1 hb i).cons (λh=>by simpa[F8,hi]using h) (λh=>h) (λh=>by simp[F8,h]) (λh=>h)
  split at he
  ·rename_i j hj;split at he
   ·rename_i e' t' x hx;split at he
    ·rename_i x' hx';obtain⟨hee,he2⟩:=B1 he;have hee:=ab hee;obtain⟨htt,hxx⟩:=H9 hx';cases htt;change x=x' at hxx;subst hxx;subst hee;obtain⟨y,hy,h1,h2⟩:=L7 r _ z he2;exact⟨(x,y),hy,fin x y h1 (.inl ⟨j,hj,hx⟩),h2⟩
    ·cases he
   ·cases he
  ·rename_i hj;cases htm:W0 id m with
   | true=>rw[htm]at he;cases he
   | false =>
    rw[htm]at he;obtain⟨y,hy,h1,h2⟩:=L7 r _ z he;exact⟨([],y),hy,fin [] y h1 (.inr ⟨hj,htm,rfl⟩),h2⟩
  ·cases he
 | .arrS id e t::r,K,z,he=>by
  simp only[exI]at he;split at he
  ·rename_i e' t' x hx;split at he
   ·rename_i x' hx';obtain⟨hee,he2⟩:=B1 he;have hee:=ab hee;obtain⟨htt,hxx⟩:=H9 hx';cases htt;change x=x' at hxx;subst hxx;subst hee;obtain⟨y,hy,h1,h2⟩:=L7 r _ z he2;refine⟨(x,y),hy,λhb i=>?_,h2⟩;simp only[D8];by_cases hi:i=id
    ·subst hi;rw[A2];exact .inr (.inl ⟨trivial,.inr ⟨by simp[E9],hx⟩⟩)
    ·rw[A0 _ _ hi];exact(h1 hb i).cons (λh=>h) (λh=>by simpa[E9,hi]using h) (λh=>h) (λh=>by simp[E9,h])
   ·cases he
  ·cases he
 | .cel id cs::r,K,z,he=>by
  simp only[exI]at he;split at he
  ·rename_i ls hls;obtain⟨yc,hyc,hok⟩:=q4o cs ls _ z he;obtain⟨y,hy,h1,h2⟩:=L7 r _ z hyc;refine⟨(yc,y),hy,λhb i=>?_,h2⟩;simp only[D8];by_cases hi:i=id
   ·subst hi;rw[A2];exact .inr (.inr (.inl ⟨cs,yc,ls,by simp[E9],rfl,hls,hok⟩))
   ·rw[A0 _ _ hi];exact(h1 hb i).cons (λh=>h) (λh=>by simpa[E9,hi]using h) (λh=>h) (λh=>by simp[E9,h])
  ·cases he
 | .rng id s::r,K,z,he=>by
  simp only[exI]at he;split at he
  ·rename_i ri s' hls;obtain⟨hb',he⟩:=B1 he;have hb':=RS.beq_eq hb';subst hb';obtain⟨y,hy,h1,h2⟩:=L7 r _ z he;refine⟨y,hy,λhb i=>?_,h2⟩;simp only[D8];by_cases hi:i=id
   ·subst hi;rw[A2];exact .inr (.inr (.inr (.inl ⟨ri,_,by simp[E9],rfl,hls⟩)))
   ·rw[A0 _ _ hi];exact(h1 hb i).cons (λh=>h) (λh=>by simpa[E9,hi]using h) (λh=>h) (λh=>by simp[E9,h])
  ·cases he
 | .ptr s id::r,K,z,he=>by
  simp only[exI]at he;split at he
  ·rename_i j o j' hv hj;obtain⟨hb',he2⟩:=B1 he;rw[ac]at hb';have ho:=ab hb'.1;have hjj:=ab hb'.2;subst ho;subst hjj;obtain⟨y,hy,h1,h2⟩:=L7 r _ z he2;refine⟨y,hy,λhb id=>(h1 hb id).cons (λh=>h) (λh=>h) (λh=>h) (λh=>h),λρb u=>?_⟩;simp only[F7];by_cases hu:u=s
   ·subst hu;rw[A2];exact .inr ⟨by simp[E3],_,_,hv,rfl,.inr (.inr (.inl ⟨id,_,.inl ⟨rfl,rfl⟩,hj⟩))⟩
   ·rw[A0 _ _ hu];rcases h2 ρb u with⟨a,b⟩ | ⟨a,b⟩
    ·exact .inl ⟨a,by simp[E3,hu,b]⟩
    ·exact .inr ⟨by simp[E3,a],b⟩
  ·cases he
 | .celN id cs slot::r,K,z,he=>by
  simp only[exI]at he;split at he
  ·rename_i j hj;split at he
   ·rename_i ls hls;obtain⟨yc,hyc,hok⟩:=q4o cs ls _ z he;obtain⟨y,hy,h1,h2⟩:=L7 r _ z hyc;refine⟨(yc,y),hy,λhb i=>?_,h2⟩;simp only[D8];by_cases hi:i=id
    ·subst hi;rw[A2];exact .inr (.inr (.inr (.inr ⟨cs,yc,ls,j,by simp[F8],rfl,hj,hls,hok⟩)))
    ·rw[A0 _ _ hi];exact(h1 hb i).cons (λh=>by simpa[F8,hi]using h) (λh=>h) (λh=>by simp[F8,h]) (λh=>h)
   ·cases he
  ·cases he
 | .mapS id ak av tk tv::r,K,z,he=>by
  simp only[exI]at he;obtain⟨x,hx,he⟩:=y1s he;obtain⟨y,hy,h1,h2⟩:=L7 r _ z he;refine⟨(x,y),hy,λhb i=>?_,h2⟩;simp only[D8];by_cases hi:i=id
  ·subst hi;rw[A2];exact .inr (.inl ⟨trivial,.inr ⟨by simp[E9],hx⟩⟩)
  ·rw[A0 _ _ hi];exact(h1 hb i).cons (λh=>h) (λh=>by simpa[E9,hi]using h) (λh=>h) (λh=>by simp[E9,h])
 | .mpt s id::r,K,z,he=>by
  simp only[exI]at he;split at he
  ·rename_i j j' hv hj;obtain⟨hb',he2⟩:=B1 he;have hjj:=ab hb';subst hjj;obtain⟨y,hy,h1,h2⟩:=L7 r _ z he2;refine⟨y,hy,λhb id=>(h1 hb id).cons (λh=>h) (λh=>h) (λh=>h) (λh=>h),λρb u=>?_⟩;simp only[F7];by_cases hu:u=s
   ·subst hu;rw[A2];exact .inr ⟨by simp[E3],_,_,hv,rfl,.inr (.inr (.inl ⟨id,_,.inr ⟨rfl,rfl⟩,hj⟩))⟩
   ·rw[A0 _ _ hu];rcases h2 ρb u with⟨a,b⟩ | ⟨a,b⟩
    ·exact .inl ⟨a,by simp[E3,hu,b]⟩
    ·exact .inr ⟨by simp[E3,a],b⟩
  ·cases he
 | .mapN id ak av tk tv slot::r,K,z,he=>by
  simp only[exI]at he;split at he
  ·rename_i j hj;obtain⟨x,hx,he⟩:=y1s he;obtain⟨y,hy,h1,h2⟩:=L7 r _ z he;refine⟨(x,y),hy,λhb i=>?_,h2⟩;simp only[D8];by_cases hi:i=id
   ·subst hi;rw[A2];exact .inr (.inl ⟨trivial,.inl ⟨by simp[F8],.inl ⟨j,hj,hx⟩⟩⟩)
   ·rw[A0 _ _ hi];exact(h1 hb i).cons (λh=>by simpa[F8,hi]using h) (λh=>h) (λh=>by simp[F8,h]) (λh=>h)
  ·cases he
 | .nlp s::r,K,z,he=>by
  simp only[exI]at he;split at he
  ·rename_i hv;obtain⟨y,hy,h1,h2⟩:=L7 r _ z he;refine⟨y,hy,λhb id=>(h1 hb id).cons (λh=>h) (λh=>h) (λh=>h) (λh=>h),λρb u=>?_⟩;simp only[F7];by_cases hu:u=s
   ·subst hu;rw[A2];exact .inr ⟨by simp[E3],_,_,hv,rfl,.inr (.inr (.inr (.inl (.inl ⟨rfl,rfl⟩))))⟩
   ·rw[A0 _ _ hu];rcases h2 ρb u with⟨a,b⟩ | ⟨a,b⟩
    ·exact .inl ⟨a,by simp[E3,hu,b]⟩
    ·exact .inr ⟨by simp[E3,a],b⟩
  ·cases he
 | .nlm s::r,K,z,he=>by
  simp only[exI]at he;split at he
  ·rename_i hv;obtain⟨y,hy,h1,h2⟩:=L7 r _ z he;refine⟨y,hy,λhb id=>(h1 hb id).cons (λh=>h) (λh=>h) (λh=>h) (λh=>h),λρb u=>?_⟩;simp only[F7];by_cases hu:u=s
   ·subst hu;rw[A2];exact .inr ⟨by simp[E3],_,_,hv,rfl,.inr (.inr (.inr (.inl (.inr ⟨rfl,rfl⟩))))⟩
   ·rw[A0 _ _ hu];rcases h2 ρb u with⟨a,b⟩ | ⟨a,b⟩
    ·exact .inl ⟨a,by simp[E3,hu,b]⟩
    ·exact .inr ⟨by simp[E3,a],b⟩
  ·cases he
 | .subS s id::r,K,z,he=>by
  simp only[exI]at he;split at he
  ·rename_i i a b hv hl;obtain⟨hb',he2⟩:=B1 he;rw[ac]at hb';have hii:=ab hb'.1;subst hii;have hng:i∉gone:=λh=>by have h3:=hb'.2;rw[memb_iff.2 h]at h3;cases h3
   obtain⟨y,hy,h1,h2⟩:=L7 r _ z he2;refine⟨(a,b,y),hy,λhb id=>(h1 hb id).cons (λh=>h) (λh=>h) (λh=>h) (λh=>h),λρb u=>?_⟩;simp only[F7];by_cases hu:u=s
   ·subst hu;rw[A2];exact .inr ⟨by simp[E3],_,_,hv,rfl,.inr (.inr (.inr (.inr (.inl ⟨i,a,b,rfl,rfl,hl,hng⟩))))⟩
   ·rw[A0 _ _ hu];rcases h2 ρb u with⟨a,b⟩ | ⟨a,b⟩
    ·exact .inl ⟨a,by simp[E3,hu,b]⟩
    ·exact .inr ⟨by simp[E3,a],b⟩
  ·cases he
 | .itr id ak av tk tv::r,K,z,he=>by
  simp only[exI]at he;obtain⟨x,c,hx,he⟩:=v5y he;obtain⟨y,hy,h1,h2⟩:=L7 r _ z he;refine⟨(x,c,y),hy,λhb i=>?_,h2⟩;simp only[D8];by_cases hi:i=id
  ·subst hi;rw[A2];exact .inr (.inl ⟨trivial,.inr ⟨by simp[E9],hx⟩⟩)
  ·rw[A0 _ _ hi];exact(h1 hb i).cons (λh=>h) (λh=>by simpa[E9,hi]using h) (λh=>h) (λh=>by simp[E9,h])
 | .treeS id e k::r,K,z,he=>by
  simp only[exI]at he;obtain⟨x,hx,he⟩:=y8b he;obtain⟨y,hy,h1,h2⟩:=L7 r _ z he;refine⟨(x,y),hy,λhb i=>?_,h2⟩;simp only[D8];by_cases hi:i=id
  ·subst hi;rw[A2];exact .inr (.inl ⟨trivial,.inr ⟨by simp[E9],hx⟩⟩)
  ·rw[A0 _ _ hi];exact(h1 hb i).cons (λh=>h) (λh=>by simpa[E9,hi]using h) (λh=>h) (λh=>by simp[E9,h])
 | .treeN id e k _::r,K,z,he=>by
  simp only[exI]at he;split at he
  ·rename_i j hj;obtain⟨x,hx,he⟩:=y8b he;obtain⟨y,hy,h1,h2⟩:=L7 r _ z he;refine⟨(x,y),hy,λhb i=>?_,h2⟩;simp only[D8];by_cases hi:i=id
   ·subst hi;rw[A2];exact .inr (.inl ⟨trivial,.inl ⟨by simp[F8],.inl ⟨j,hj,hx⟩⟩⟩)
   ·rw[A0 _ _ hi];exact(h1 hb i).cons (λh=>by simpa[F8,hi]using h) (λh=>h) (λh=>by simp[F8,h]) (λh=>h)
  ·rename_i hj;obtain⟨htm,he⟩:=B1 he;obtain⟨y,hy,h1,h2⟩:=L7 r _ z he;refine⟨([],y),hy,λhb i=>?_,h2⟩;simp only[D8];by_cases hi:i=id
   ·subst hi;rw[A2];exact .inr (.inl ⟨trivial,.inl ⟨by simp[F8],.inr ⟨hj,.inr ⟨htm,e,k,rfl⟩⟩⟩⟩)
   ·rw[A0 _ _ hi];exact(h1 hb i).cons (λh=>by simpa[F8,hi]using h) (λh=>h) (λh=>by simp[F8,h]) (λh=>h)
  ·cases he
 | .tsl s id::r,K,z,he=>by
  simp only[exI]at he;split at he
  ·rename_i v hv;obtain⟨hsr,he⟩:=B1 he;obtain⟨y,hy,h1,h2⟩:=L7 r _ z he;refine⟨y,hy,λhb id=>(h1 hb id).cons (λh=>h) (λh=>h) (λh=>h) (λh=>h),λρb u=>?_⟩;simp only[F7];by_cases hu:u=s
   ·subst hu;rw[A2];exact .inr ⟨by simp[E3],v,_,hv,rfl,.inr (.inr (.inr (.inr (.inr (.inr ⟨id,rfl,hsr⟩)))))⟩
   ·rw[A0 _ _ hu];rcases h2 ρb u with⟨a,b⟩ | ⟨a,b⟩
    ·exact .inl ⟨a,by simp[E3,hu,b]⟩
    ·exact .inr ⟨by simp[E3,a],b⟩
  ·cases he
theorem q6p {i id:Nat} {j:Option Nat} {b:Bool} (r:List LI) (m:Mv) (ih:C8 id m≠none↔id∈F8 r):C8 id ((i,j,b)::m)≠none↔id∈i::F8 r:=by
 simp only[C8,al];cases hb:Nat.beq i id with
 | true=>simp[(ab hb).symm]
 | false =>
  rw[cond_false,ih];constructor
  ·exact .inr
  ·rintro (h | h)
   ·subst h;rw[cT]at hb;cases hb
   ·exact h
theorem M0 {ρ:Env} {h:Heap}:∀(l:List LI) (m:Mv),X9 ρ h l=some m->∀id,C8 id m≠none↔id∈F8 l
 | [],m,hm,id=>by simp[X9]at hm;subst hm;simp[C8,F8]
 | .tmp _ _::r,m,hm,id=>M0 r m hm id
 | .own _ _::r,m,hm,id=>M0 r m hm id
 | .arrS _ _ _::r,m,hm,id=>M0 r m hm id
 | .cel _ _::r,m,hm,id=>M0 r m hm id
 | .rng _ _::r,m,hm,id=>M0 r m hm id
 | .ptr _ _::r,m,hm,id=>M0 r m hm id
 | .mapS _ _ _ _ _::r,m,hm,id=>M0 r m hm id
 | .mpt _ _::r,m,hm,id=>M0 r m hm id
 | .nlp _::r,m,hm,id=>M0 r m hm id
 | .nlm _::r,m,hm,id=>M0 r m hm id
 | .subS _ _::r,m,hm,id=>M0 r m hm id
 | .itr _ _ _ _ _::r,m,hm,id=>M0 r m hm id
 | .treeS _ _ _::r,m,hm,id=>M0 r m hm id
 | .tsl _ _::r,m,hm,id=>M0 r m hm id
 | .mapN i _ _ _ _ slot::r,m,hm,id=>by
  simp only[X9]at hm;split at hm
  ·rename_i j m' _ hm';cases hm;exact q6p r m' (M0 r m' hm' id)
  ·cases hm
 | .arr i e t src::r,m,hm,id=>by
  simp only[X9]at hm;split at hm
  ·rename_i j m' _ hm';cases hm;exact q6p r m' (M0 r m' hm' id)
  ·rename_i m' _ hm';cases hm;exact q6p r m' (M0 r m' hm' id)
  ·cases hm
 | .treeN i e t src::r,m,hm,id=>by
  simp only[X9]at hm;split at hm
  ·rename_i j m' _ hm';cases hm;exact q6p r m' (M0 r m' hm' id)
  ·rename_i m' _ hm';cases hm;exact q6p r m' (M0 r m' hm' id)
  ·cases hm
 | .celN i cs slot::r,m,hm,id=>by
  simp only[X9]at hm;split at hm
  ·rename_i j o m' _ hm';cases hm;exact q6p r m' (M0 r m' hm' id)
  ·cases hm
theorem q2g {j:Nat}:∀{m:Mv} {id:Nat},C8 id m=some (some j)->j∈q00 m
 | [],_,h=>by simp[C8]at h
 | (i,k,_)::r,id,h=>by
  simp only[C8]at h;cases hb:Nat.beq i id with
  | true=>rw[hb,cond_true]at h;cases h;simp[q00]
  | false =>
   rw[hb,cond_false]at h;have:=q2g h;unfold q00 at this ⊢;rw[dD];cases k with
   | none=>exact this
   | some k=>exact aj _ this
theorem v7u {x:Nat} {r:List Nat} (h:q1h (x::r)=true):x∉r/\q1h r=true:=by
 grind[q1h,memb_iff]
theorem j39 {j:Nat}:∀{m:Mv} {i i':Nat},q1h (q00 m)=true->C8 i m=some (some j)->C8 i' m=some (some j)->i=i'
 | [],_,_,_,h,_=>by simp[C8]at h
 | (a,k,_)::r,i,i',hn,h,h'=>by
  have hn':q1h (q00 r)=true/\(k=some j->j∉q00 r):=by
   unfold q00 at hn ⊢;rw[dD]at hn;cases k with
   | none=>exact⟨hn,λh=>by cases h⟩
   | some k=>obtain⟨a,b⟩:=v7u hn;exact⟨b,λh=>by cases h;exact a⟩
  simp only[C8]at h h';cases hb:Nat.beq a i with
  | true =>
   rw[hb,cond_true]at h;cases hb':Nat.beq a i' with
   | true=>rw[<-ab hb,<-ab hb']
   | false=>rw[hb',cond_false]at h';exact absurd (q2g h') (hn'.2 (by cases h;rfl))
  | false =>
   rw[hb,cond_false]at h;cases hb':Nat.beq a i' with
   | true=>rw[hb',cond_true]at h';exact absurd (q2g h) (hn'.2 (by cases h';rfl))
   | false=>rw[hb',cond_false]at h';exact j39 hn'.1 h h'
theorem z1z {a b:List Nat} (h:q7n a b=true):∀x∈a,x∈b:=λx c=>memb_iff.1 (aG.1 h x c)
variable {c:List Nat} {d:List Nat} {mt:List Nat}
theorem y8o {a:List Nat} {l:List LI} (h:wfI mt c d a l=true):(∀id∈F8 l,id∈c)/\(∀t∈E3 l,t∈mt)/\(∀id,id∈a↔id∈E9 l)/\(∀id∈a,id∉c/\id∉d):=by
 simp[wfI,ac,aU]at h;obtain⟨⟨⟨⟨⟨⟨⟨f,e⟩,i⟩,g⟩,-⟩,-⟩,-⟩,j⟩:=h;refine⟨z1z f,z1z e,λid=>⟨z1z i id,z1z g id⟩,λid b=>?_⟩;have:=q3q j id b;grind
theorem j4f {κ κ':A6} {h':Heap} {w w':World} {id id':Nat} {v:Value} (hk:κ' id'=κ id) (hh:h' id'=h id) (hr:RepSV L κ h w (.ts id []) v):RepSV L κ' h' w' (.ts id' []) v:=by
 refine⟨?_,hr.2⟩;have hr1:=hr.1;rw[hh];cases ho:h id with
 | dead=>trivial
 | tree e k x f =>
  rw[ho]at hr1;rcases hr1 with⟨a1,a2,a3,a4⟩ | ⟨n,b,cap,a1,a2,_,a4⟩
  ·exact .inl ⟨rfl,hk.trans a2,a3,a4⟩
  ·exact .inr ⟨n,b,cap,a1,hk.trans a2,.inl rfl,a4⟩
 | _=>rw[ho]at hr1;exact hr1.elim
theorem RepO.keep {κ0 κ1 κ2:A6} {h0 h1 h2:Heap} {v0 w1:World} (hf:∀b,A4 L κ1 h1 w1 b->A4 L κ2 h2 w1 b) (hold:∀s u v,RepSV L κ0 h0 v0 s u->RepSV L κ1 h1 w1 s v->RepSV L κ2 h2 w1 s v) (hk:∀g,(h0 g).Held->(h2 g).Held) :
  ∀(t:OT) {pl0 pl1 pl2:List Nat->Option (Nat×(Nat×Nat))} (_:∀q,pl2 q=pl1 q) {o:List (List Nat×Nat)} {get0 E6:Nat->Option Value} {y:t.den},RepO L κ0 h0 v0 t pl0 o get0 y->RepO L κ1 h1 w1 t pl1 o E6 y->RepO L κ2 h2 w1 t pl2 o E6 y
 | .arr e t,pl0,pl1,pl2,hp,o,get0,E6,y,⟨u,a1,a2⟩,⟨v,b1,b2⟩=>by
  refine⟨v,b1,?_⟩;cases ho:O3 o with
  | none =>
   rw[ho]at b2;simp only[hp];exact⟨b2.1,b2.2.free hf⟩
  | some g =>
   rw[ho]at a2 b2;exact⟨hold _ _ _ a2.1 b2.1,hk g a2.2⟩
 | .map ak av k x,pl0,pl1,pl2,hp,o,get0,E6,y,⟨u,a1,a2⟩,⟨v,b1,b2⟩=>by
  refine⟨v,b1,?_⟩;cases ho:O3 o with
  | none =>
   rw[ho]at b2;obtain⟨b,c,es,cl,q1,q2,q3,q4⟩:=b2;exact⟨b,c,es,cl,(hp _).trans q1,q2,q3,q4.mono λb hb=>⟨hf b hb,rfl⟩⟩
  | some g =>
   rw[ho]at a2 b2;exact hold _ _ _ a2 b2
 | .opt k,pl0,pl1,pl2,hp,o,get0,E6,y,ha,hb=>by
  cases y with
  | none=>exact hb
  | some y=>exact RepO.keep hf hold hk k hp (show RepO L κ0 h0 v0 k pl0 o get0 y from ha) (show RepO L κ1 h1 w1 k pl1 o E6 y from hb)
 | .arrs e k,pl0,pl1,pl2,hp,o,get0,E6,y,⟨u,_,_,_,_,_,_,_,_,_,_,_,a9⟩,⟨v,b,cap,cur,b1,b2,b3,b4,b5,b6,b7,b8,b9⟩ =>
  ⟨v,b,cap,cur,b1,(hp _).trans b2,b3,b4,b5,b6,b7,b8,λi z hz=>RepO.keep hf hold hk k (λq=>hp _) (a9 i z hz) (b9 i z hz)⟩
 | .ptr c,pl0,pl1,pl2,hp,o,get0,E6,y,⟨u,_,_,_,_,_,_,_,_,_,_,_,a8⟩,⟨v,b,cap,cs,ty,b1,b2,b3,b4,b5,b6,b7,b8⟩ =>
  ⟨v,b,cap,cs,ty,b1,(hp _).trans b2,b3,b4,b5,b6,b7,RepO.keep hf hold hk c hp a8 b8⟩
 | .nil,_,_,_,_,_,_,_,_,_,_=>trivial
 | .cons a b,pl0,pl1,pl2,hp,o,get0,E6,y,⟨a1,a2⟩,⟨b1,b2⟩=>⟨RepO.keep hf hold hk a (λq=>hp _) a1 b1,RepO.keep hf hold hk b (λq=>hp _) a2 b2⟩
theorem v4e {st0 st1:St} {mo sr stat:List Nat} {l:List LI} {K:D7 l->Option R} (he:q68 st1 mt mo sr stat l K=some z) :
  ∃y,K y=some z/\(∀id∈stat,(∃ak av tk tv l c,st1.h id=.iter ak av tk tv l c)->(C7 st0 mt mo sr l y).h id=st1.h id)/\∀B r κ0 a0 v0 κ1 a1 w1,Sim P L w0 B r κ0 st0 a0 v0->Sim P L w0 B r κ1 st1 a1 w1->Ext L κ0 st0.h v0 κ1 st1.h w1->(∀t,t∉mt->a1.tmps.getD t undef=a0.tmps.getD t undef) ->
   (∀id,id∉mo->id∉sr->id∉stat->st1.h id=st0.h id)->(∀id∈mo,st0.h id=.fresh)->st1.n=st0.n ->
   ∃κ2,Sim P L w0 B r κ2 (C7 st0 mt mo sr l y) a1 w1/\Ext L κ0 st0.h v0 κ2 (C7 st0 mt mo sr l y).h w1/\∀b,A4 L κ1 st1.h w1 b->A4 L κ2 (C7 st0 mt mo sr l y).h w1 b:=by
 unfold q68 at he;split at he
 ·rename_i m hm;obtain⟨hc,he⟩:=B1 he;simp only[ac]at hc;obtain⟨⟨⟨hwf,hnd⟩,hsub⟩,hsrk⟩:=hc;obtain⟨wnew,wslot,wstat,wdis⟩:=y8o hwf;have hsub:=z1z hsub;have hlook:=M0 l m hm;obtain⟨y,hy,hH,hE⟩:=L7 l _ z he;refine⟨y,hy,λid hid ⟨ak,av,tk,tv,le,cu,hit⟩=>?_,λB r κ0 a0 v0 κ1 a1 w1 sim0 sim1 ext htmp hobj hmo hn=>?_⟩
  ·have hst:=(wstat id).1 hid;rcases hH (λid=>cond (E2 mo id) .fresh (cond (E2 sr id) .dead (st0.h id))) id with⟨_,_,c⟩ | ⟨_,⟨b1,_⟩ | ⟨_,b2⟩⟩ | ⟨cs,yc,ls,_,_,c,_⟩ | ⟨ri,s,_,_,c⟩ | ⟨cs,yc,ls,j,b1,_⟩
   ·exact absurd hst c
   ·exact absurd (wnew id b1) (wdis id hid).1
   ·exact b2.symm
   ·rw[hit]at c;cases c
   ·rw[hit]at c;cases c
   ·exact absurd (wnew id b1) (wdis id hid).1
  let hb:Heap:=λid=>cond (E2 mo id) .fresh (cond (E2 sr id) .dead (st0.h id))
  let h2:Heap:=D8 l y hb
  let ψ:Nat->Option Nat:=λq=>match C8 q m with
   | some x=>x
   | none=>open Classical in if h:∃p i,q=kn p i/\p∈mo++sr then(match C8 h.choose m with
    | some (some j)=>some (kn j h.choose_spec.choose)
    | _=>none)else some q
  let κ2:A6:=λq=>(ψ q).bind κ1
  have hb_mo:∀id,id∈mo->hb id=.fresh:=λid hid=>by simp only[hb,memb_iff.2 hid,cond_true]
  have nm:∀{b:List Nat} {id:Nat},id∉b->E2 b id=false:=λ{b id} h=>by
   cases hq:E2 b id with
   | true=>exact absurd (memb_iff.1 hq) h
   | false=>rfl
  have hb_sr:∀id,id∉mo->id∈sr->hb id=.dead:=λid h1 h2=>by simp only[hb,nm h1,memb_iff.2 h2,cond_true,cond_false]
  have hb_o:∀id,id∉mo->id∉sr->hb id=st0.h id:=λid h1 h2=>by simp only[hb,nm h1,nm h2,cond_false]
  have hcase:∀id,(h2 id=.fresh/\id∈mo)\/(h2 id=.dead/\id∈sr)\/(h2 id=st1.h id/\h2 id=st0.h id/\id∉mo/\id∉sr/\id∉stat/\C8 id m=none) \/
    ((h2 id).pure/\id∈mo/\((∃j,C8 id m=some (some j)/\st1.h j=h2 id)\/(C8 id m=some none/\((W0 id m=false/\∃e t,h2 id=.arr e t [])\/W0 id m=true/\∃e k,h2 id=.tree e k [] [])))) \/
    (id∈stat/\C8 id m=none/\(((h2 id).pure/\st1.h id=h2 id)\/(∃cs yc ls,h2 id=.cells (I6 cs yc)/\st1.h id=.cells ls/\q7x m (mo++sr) st1.h cs yc ls)\/(∃ri s s0,h2 id=.lrec ri s/\st1.h id=.lrec ri s/\st0.h id=.lrec ri s0)\/h2 id=.dead)) \/
    (∃cs yc ls j,h2 id=.cells (I6 cs yc)/\id∈mo/\C8 id m=some (some j)/\st1.h j=.cells ls/\q7x m (mo++sr) st1.h cs yc ls):=by
   intro id;have nolook:id∈stat->C8 id m=none:=λhs=>by
    cases hq:C8 id m with
    | none=>rfl
    | some q=>exact absurd (wnew id ((hlook id).1 (by rw[hq];simp))) (wdis id hs).1
   rcases hH hb id with⟨a,b,c⟩ | ⟨a,b⟩ | ⟨cs,yc,ls,a,b,c,d⟩ | ⟨ri,s,a,b,c⟩ | ⟨cs,yc,ls,j,a,b,c,d,f⟩
   ·have hl:C8 id m=none:=by
     cases hq:C8 id m with
     | none=>rfl
     | some q=>exact absurd ((hlook id).1 (by rw[hq];simp)) b
    by_cases h1:id∈mo
    ·exact .inl ⟨a.trans (hb_mo id h1),h1⟩
    ·by_cases h2':id∈sr
     ·exact .inr (.inl ⟨a.trans (hb_sr id h1 h2'),h2'⟩)
     ·have hns:id∉stat:=λh=>c ((wstat id).1 h);have hv:=a.trans (hb_o id h1 h2');exact .inr (.inr (.inl ⟨hv.trans (hobj id h1 h2' hns).symm,hv,h1,h2',hns,hl⟩))
   ·rcases b with⟨b1,b2⟩ | ⟨b1,b2⟩
    ·exact .inr (.inr (.inr (.inl ⟨a,wnew id b1,b2⟩)))
    ·exact .inr (.inr (.inr (.inr (.inl ⟨(wstat id).2 b1,nolook ((wstat id).2 b1),.inl ⟨a,b2⟩⟩))))
   ·exact .inr (.inr (.inr (.inr (.inl ⟨(wstat id).2 a,nolook ((wstat id).2 a),.inr (.inl ⟨cs,yc,ls,b,c,d⟩)⟩))))
   ·have hs:=(wstat id).2 a;refine .inr (.inr (.inr (.inr (.inl ⟨hs,nolook hs,.inr (.inr ?_)⟩))));rw[hb_o id (wdis id hs).1 (wdis id hs).2]at b;cases ho:st0.h id with
    | lrec ri0 s0 =>
     refine .inl ⟨ri,s,s0,?_,c,?_⟩
     ·rcases ext.lrec id ri0 s0 ho with⟨s',hs'⟩ | hs'
      ·rw[c]at hs';cases hs';exact b.trans (by rw[ho];rfl)
      ·rw[c]at hs';cases hs'
     ·rcases ext.lrec id ri0 s0 ho with⟨s',hs'⟩ | hs'
      ·rw[c]at hs';cases hs';rfl
      ·rw[c]at hs';cases hs'
    | _=>exact .inr (b.trans (by rw[ho];rfl))
   ·exact .inr (.inr (.inr (.inr (.inr ⟨cs,yc,ls,j,b,wnew id a,c,d,f⟩))))
  have hkl:∀p i,C8 (kn p i) m=none:=λp i=>by
   cases hq:C8 (kn p i) m with
   | none=>rfl
   | some q =>
    have h1:=hmo _ (wnew _ ((hlook _).1 (by rw[hq];simp)));rw[sim0.heap.kids _ (y0y p i)]at h1;cases h1
  have hψn:∀q,C8 q m=none->(∀p i,q=kn p i->p∉mo++sr)->ψ q=some q:=λq h hg=>by
   simp only[ψ,h];rw[dif_neg (λ⟨p,i,e,hp⟩=>hg p i e hp)]
  have hψk:∀p i,p∈mo++sr->ψ (kn p i)=(match C8 p m with
    | some (some j)=>some (kn j i)
    | _=>none):=λp i hp=>by
   have h:∃p' i',kn p i=kn p' i'/\p'∈mo++sr:=⟨p,i,rfl,hp⟩;have e:=J6 h.choose_spec.choose_spec.1;have key:∀p' i',p'=p->i'=i->(match C8 p' m with
    | some (some j)=>some (kn j i')
    | _=>none)=(match C8 p m with
    | some (some j)=>some (kn j i)
    | _=>none):=by rintro _ _ rfl rfl;rfl
   simp only[ψ,hkl];rw[dif_pos h];exact key _ _ e.1.symm e.2.symm
  have hψ1:∀q,st1.h q≠.kid->∀p i,q=kn p i->p∉mo++sr:=λq hq p i e=>absurd (by rw[e];exact N4 sim1.heap p i) hq;have hκg:∀id,C8 id m=none->(∀p i,id=kn p i->p∉mo++sr)->κ2 id=κ1 id:=λid h hk=>by simp only[κ2,hψn id h hk,aa]
  have hκn:∀id,C8 id m=none->st1.h id≠.kid->κ2 id=κ1 id:=λid h hk=>hκg id h (hψ1 id hk);have hκs:∀id j,C8 id m=some (some j)->κ2 id=κ1 j:=λid j h=>by simp only[κ2,ψ,h,aa]
  have hκ0:∀id,C8 id m=some none->κ2 id=none:=λid h=>by simp only[κ2,ψ,h,Option.bind_none]
  let φ:Nat->Nat:=λq=>(ψ q).getD q
  have hφn:∀id,C8 id m=none->(∀p i,id=kn p i->p∉mo++sr)->φ id=id:=λid h hg=>by simp only[φ,hψn id h hg,bm]
  have hφs:∀id j,C8 id m=some (some j)->φ id=j:=λid j h=>by simp only[φ,ψ,h,bm]
  have live:∀id b c,(h2 id).live=true->κ2 id=some (b,c)->(st1.h (φ id)).live=true/\κ1 (φ id)=some (b,c):=by
   intro id b c hl hk;by_cases hg:∃p i,id=kn p i/\p∈mo++sr
   ·obtain⟨p,i,rfl,hp⟩:=hg;have hk':(ψ (kn p i)).bind κ1=some (b,c):=hk;have hψ:=hψk p i hp;split at hψ
    ·rename_i j hj;rw[hψ]at hk';have hφ:φ (kn p i)=kn j i:=by simp only[φ,hψ,bm]
     rw[hφ];exact⟨q1d sim1.heap j i,hk'⟩
    ·rw[hψ]at hk';cases hk'
   replace hg:∀p i,id=kn p i->p∉mo++sr:=λp i e hp=>hg ⟨p,i,e,hp⟩;rcases hcase id with⟨a,_⟩ | ⟨a,_⟩ | ⟨a,_,_,_,_,a5⟩ | ⟨a,_,⟨j,q1,q2⟩ | ⟨q1,_⟩⟩ | ⟨_,a2,⟨q1,q2⟩ | ⟨cs,yc,ls,q1,q2,_⟩ | ⟨ri,s,s0,q1,q2,_⟩ | q1⟩ | ⟨cs6,yc6,ls6,j6,w1',w2',w3',w4',w5'⟩
   ·rw[a]at hl;cases hl
   ·rw[a]at hl;cases hl
   ·rw[hφn id a5 hg,<-a,<-hκg id a5 hg];exact⟨hl,hk⟩
   ·rw[hφs id j q1,q2,<-hκs id j q1];exact⟨hl,hk⟩
   ·rw[hκ0 id q1]at hk;cases hk
   ·rw[hφn id a2 hg,q2,<-hκg id a2 hg];exact⟨hl,hk⟩
   ·rw[hφn id a2 hg,q2,<-hκg id a2 hg];exact⟨rfl,hk⟩
   ·rw[hφn id a2 hg,q2,<-hκg id a2 hg];exact⟨rfl,hk⟩
   ·rw[q1]at hl;cases hl
   ·rw[hφs id j6 w3',w4',<-hκs id j6 w3'];exact⟨rfl,hk⟩
  have hstill:∀b,q08 κ1 st1.h w1 b->q08 κ2 h2 w1 b:=λb ⟨f1,f3⟩=>⟨f1,λid c hl hk=>by
   obtain⟨q1,q2⟩:=live id b c hl hk;exact f3 (φ id) c q1 q2⟩
  have hfree:∀b,A4 L κ1 st1.h w1 b->A4 L κ2 h2 w1 b:=λb ⟨f1,f2,f3⟩=>⟨f1,f2,(hstill b ⟨f1,f3⟩).2⟩;have hfm:∀b,A4 L κ1 st1.h w1 b->A4 L κ2 h2 w1 b/\w1.heap[b]? = w1.heap[b]?:=λb hb=>⟨hfree b hb,rfl⟩;have harr:∀id j e t (x:List t.den),κ2 id=κ1 j->RepArr L κ1 st1.h w1 j e t x->RepArr L κ2 h2 w1 id e t x:=by
   intro id j e t x hk hr;rcases hr with⟨a,b⟩ | ⟨b,cap,cur,r1,r2,r3,r4,r5,r6,r7⟩
   ·exact .inl ⟨hk.trans a,b⟩
   ·exact .inr ⟨b,cap,cur,hk.trans r1,r2,r3,r4,r5,r6,λi y hy=>RepAt.mono hfm t _ y (r7 i y hy)⟩
  have hkid:∀p i,p∉mo++sr->κ2 (kn p i)=κ1 (kn p i):=λp i hp=>hκg _ (hkl p i) λp' i' e h=>hp ((J6 e).1▸h);have hpure:∀id j o,κ2 id=κ1 j->(∀i,κ2 (kn id i)=κ1 (kn j i))->o.pure->RepObj L κ1 st1.h w1 j o->RepObj L κ2 h2 w1 id o:=by
   intro id j o hk hkk hp hr;cases o with
   | arr e t x=>exact harr id j e t x hk hr
   | tree e k x f =>
    cases f with
    | cons _ f=>exact absurd hp (λh=>h)
    | nil =>
     rcases hr with⟨a,b⟩ | ⟨b,cap,cur,r1,r2,r3,r4,r5,r6,r7⟩
     ·exact .inl ⟨hk.trans a,b⟩
     ·refine .inr ⟨b,cap,cur,hk.trans r1,r2,r3,r4,r5,r6,λi y hy=>?_⟩;rw[show(λp=>κ2 (gh id (i::p)))=λp=>κ1 (gh j (i::p))from funext λp=>hkk _];exact RepO.free hfree k (r7 i y hy)
   | mapo ak av tk tv x =>
    obtain⟨b,c,es,cl,r1,r2,r3⟩:=hr;exact⟨b,c,es,cl,hk.trans r1,r2,r3.mono hfm⟩
   | iter ak av tk tv le cu =>
    obtain⟨b,c,mm,si,se,c0,r1,r2,r3⟩:=hr;exact⟨b,c,mm,si,se,c0,hk.trans r1,r2,r3.mono hfm⟩
   | _=>exact absurd hp (λh=>h)
  have hout:∀id,C8 id m=none->(h2 id).live=true->id∉mo++sr:=by
   intro id hl hv hm;rcases hcase id with⟨a,_⟩ | ⟨a,_⟩ | ⟨_,_,a1,a2,_⟩ | ⟨a,a2,⟨_,q,_⟩ | ⟨q,_⟩⟩ | ⟨a,_⟩ | ⟨cs6,yc6,ls6,j6,w1',w2',w3',w4',w5'⟩
   ·rw[a]at hv;cases hv
   ·rw[a]at hv;cases hv
   ·rcases aQ.1 hm with hm | hm
    ·exact a1 hm
    ·exact a2 hm
   ·rw[hl]at q;cases q
   ·rw[hl]at q;cases q
   ·rcases aQ.1 hm with hm | hm
    ·exact(wdis id a).1 hm
    ·exact(wdis id a).2 hm
   ·rw[hl]at w3';cases w3'
  have hthaw:∀(ids:List Nat),(∀id∈ids,q1w m (mo++sr) st1.h id=true)->∀b,A4 L κ1 (A3 (B4 st1.h ids) st1.h) w1 b->A4 L κ2 h2 w1 b:=by
   intro ids hids b ⟨f1,f2,f3⟩;refine⟨f1,f2,λid2 c hl hk=>?_⟩;obtain⟨q1,q2⟩:=live id2 b c hl hk;have hni:φ id2∉ids:=λhm=>by
    have ht:=hids _ hm;have hthk:=ht;unfold q1w at hthk;have gone:(E2 (mo++sr) (φ id2)&&!E2 (q00 m) (φ id2))=true->False:=λht=>by
     simp only[ac,aU]at ht;have hg:=memb_iff.1 ht.1;cases hli:C8 id2 m with
     | none =>
      by_cases hgk:∃p i,id2=kn p i/\p∈mo++sr
      ·obtain⟨p,i,rfl,hp⟩:=hgk;rw[(show st1.h (φ (kn p i))=.kid from by
        have hk':(ψ (kn p i)).bind κ1=some (b,c):=hk;have hψ:=hψk p i hp;split at hψ
        ·simp only[φ,hψ,bm];exact N4 sim1.heap _ i
        ·rw[hψ]at hk';cases hk')]at hthk
       cases hthk
      ·rw[hφn id2 hli (λp i e hp=>hgk ⟨p,i,e,hp⟩)]at hg;exact hout id2 hli hl hg
     | some q =>
      cases q with
      | none=>rw[hκ0 id2 hli]at hk;cases hk
      | some j =>
       rw[hφs id2 j hli]at ht;rw[memb_iff.2 (q2g hli)]at ht;cases ht.2
    unfold q1w at ht;split at ht
    ·rename_i hq;rw[hq]at q1;cases q1
    ·exact gone ht
    ·rename_i hq;rw[hq]at q1;cases q1
    ·exact gone ht
    ·cases ht
   exact f3 (φ id2) c (by rw[q0g hni];exact q1) q2
  have hnz:∀id,C8 id m≠none->h2 id≠.fresh/\h2 id≠.dead:=by
   intro id hne;have hin:=(hlook id).1 hne;rcases hH hb id with⟨_,b,_⟩ | ⟨b,_⟩ | ⟨cs,yc,ls,b1,b,_⟩ | ⟨ri,s,b1,b,_⟩ | ⟨cs6,yc6,ls6,j6,_,w1',_⟩
   ·exact absurd hin b
   ·exact⟨λe=>by rw[show D8 l y hb id=h2 id from rfl,e]at b;exact b,λe=>by rw[show D8 l y hb id=h2 id from rfl,e]at b;exact b⟩
   ·exact absurd (wnew id hin) (wdis id ((wstat id).2 b1)).1
   ·exact absurd (wnew id hin) (wdis id ((wstat id).2 b1)).1
   ·exact⟨λe=>(by rw[show D8 l y hb id=h2 id from rfl,e]at w1';cases w1'),λe=>(by rw[show D8 l y hb id=h2 id from rfl,e]at w1';cases w1')⟩
  have hnew:∀id j,C8 id m=some (some j)->h2 id=st1.h j\/∃ls,st1.h j=.cells ls:=by
   intro id j hl;rcases hcase id with⟨a,a2⟩ | ⟨a,a2⟩ | ⟨_,_,_,_,_,a5⟩ | ⟨a,_,⟨j',q1,q2⟩ | ⟨q1,_⟩⟩ | ⟨_,a2,_⟩ | ⟨cs6,yc6,ls6,j6,w1',w2',w3',w4',w5'⟩
   ·exact absurd a (hnz id (by rw[hl];simp)).1
   ·exact absurd a (hnz id (by rw[hl];simp)).2
   ·rw[hl]at a5;cases a5
   ·rw[hl]at q1;cases q1;exact .inl q2.symm
   ·rw[hl]at q1;cases q1
   ·rw[hl]at a2;cases a2
   ·rw[hl]at w3';cases w3';exact .inr ⟨_,w4'⟩
  have hnil0:∀id,C8 id m=some none->(W0 id m=false/\∃e t,h2 id=.arr e t [])\/W0 id m=true/\∃e k,h2 id=.tree e k [] []:=by
   intro id hl;rcases hcase id with⟨a,a2⟩ | ⟨a,a2⟩ | ⟨_,_,_,_,_,a5⟩ | ⟨a,_,⟨j',q1,q2⟩ | ⟨_,q2⟩⟩ | ⟨_,a2,_⟩ | ⟨cs6,yc6,ls6,j6,w1',w2',w3',w4',w5'⟩
   ·exact absurd a (hnz id (by rw[hl];simp)).1
   ·exact absurd a (hnz id (by rw[hl];simp)).2
   ·rw[hl]at a5;cases a5
   ·rw[hl]at q1;cases q1
   ·exact q2
   ·rw[hl]at a2;cases a2
   ·rw[hl]at w3';cases w3'
  have hmatch:∀s s' v,z9n m (mo++sr) st1.h s s'->RepSV L κ1 st1.h w1 s v->RepSV L κ2 h2 w1 s' v/\v.oneCell'=true:=by
   intro s s' v hma hr;rcases hma with⟨t,x,rfl,hd,hsz⟩ | ⟨id,rfl,hsr'⟩ | ⟨id,j,hpm,hl⟩ | hnil | ⟨i,sa,sb,rfl,rfl,hl,hng⟩ | ⟨i,hpm,hl,hng⟩ | ⟨id,rfl,hts⟩
   rotate_right
   ·unfold z8a at hts;split at hts
    ·rename_i j i hl;have hij:=ab hts;subst hij;refine⟨?_,hr.2⟩;rcases hnew id i hl with o1 | ⟨ls,o1⟩
     ·exact j4f (hκs id i hl) o1 hr
     ·have hr1:=hr.1;rw[o1]at hr1;exact hr1.elim
    ·rename_i hl;have hv:v=.slice none 0 0:=hr;subst hv;obtain⟨e,k,ho⟩:∃e k,h2 id=.tree e k [] []:=by
      rcases hnil0 id hl with⟨h0,_⟩ | ⟨_,h0⟩
      ·rw[hts]at h0;cases h0
      ·exact h0
     refine⟨⟨?_,rfl⟩,rfl⟩;rw[ho];exact .inl ⟨rfl,hκ0 id hl,rfl,rfl⟩
    ·rename_i i hl;simp only[ac,aU]at hts;have hii:=ab hts.1;subst hii;have hng:i∉mo++sr:=λh=>by rw[memb_iff.2 h]at hts;cases hts.2
     refine⟨?_,hr.2⟩;have hr1:=hr.1;have nk:st1.h i≠.kid:=λe=>by rw[e]at hr1;exact hr1
     rcases hcase i with⟨a,a2⟩ | ⟨a,a2⟩ | ⟨a,_,_,_,_,a5⟩ | ⟨a,_,⟨j',q1,q2⟩ | ⟨q1,q2⟩⟩ | ⟨_,a2,⟨q1,q2⟩ | ⟨cs,yc,ls,q1,q2,_⟩ | ⟨ri,s,s0,q1,q2,_⟩ | q1⟩ | ⟨cs6,yc6,ls6,j6,w1',w2',w3',w4',w5'⟩
     ·exact absurd (aB _ a2) hng
     ·exact absurd (aC _ a2) hng
     ·exact j4f (hκn i a5 nk) a hr
     ·rw[hl]at q1;cases q1
     ·rw[hl]at q1;cases q1
     ·exact j4f (hκn i a2 nk) q2.symm hr
     ·rw[q2]at hr1;exact hr1.elim
     ·rw[q2]at hr1;exact hr1.elim
     ·exact⟨by rw[q1];trivial,hr.2⟩
     ·rw[hl]at w3';cases w3'
    ·cases hts
   rotate_right
   ·have hkey:((h2 i).Held/\κ2 i=κ1 i)\/¬(st1.h i).Held:=by
     by_cases hr0:(st1.h i).Held
     ·refine .inl ?_;rcases hcase i with⟨a,a2⟩ | ⟨a,a2⟩ | ⟨a,_,_,_,_,a5⟩ | ⟨a,_,⟨j',q1,q2⟩ | ⟨q1,q2⟩⟩ | ⟨_,a2,⟨q1,q2⟩ | ⟨cs,yc,ls,q1,q2,_⟩ | ⟨ri,s,s0,q1,q2,_⟩ | q1⟩ | ⟨cs6,yc6,ls6,j6,w1',w2',w3',w4',w5'⟩
      ·exact absurd (aB _ a2) hng
      ·exact absurd (aC _ a2) hng
      ·exact⟨by rw[a];exact hr0,hκn i a5 hr0.2⟩
      ·rw[hl]at q1;cases q1
      ·rw[hl]at q1;cases q1
      ·exact⟨by rw[<-q2];exact hr0,hκn i a2 hr0.2⟩
      ·exact⟨by rw[q1];simp,hκn i a2 hr0.2⟩
      ·exact⟨by rw[q1];simp,hκn i a2 hr0.2⟩
      ·exact⟨by rw[q1];simp,hκn i a2 hr0.2⟩
      ·rw[hl]at w3';cases w3'
     ·exact .inr hr0
    rcases hpm with⟨rfl,rfl⟩ | ⟨off,rfl,rfl⟩
    ·obtain⟨hr0,b,c,hr1,hr2⟩:=hr;rcases hkey with⟨g1,g2⟩ | g
     ·exact⟨⟨g1,b,c,g2.trans hr1,hr2⟩,by rw[hr2];rfl⟩
     ·exact absurd hr0 g
    ·obtain⟨hr0,b,c,hr1,hr2⟩:=hr;rcases hkey with⟨g1,g2⟩ | g
     ·exact⟨⟨g1,b,c,g2.trans hr1,hr2⟩,by rw[hr2];rfl⟩
     ·exact absurd hr0 g
   rotate_right
   ·refine⟨⟨?_,hr.2⟩,hr.2⟩;have hr1:=hr.1;rcases hcase i with⟨a,a2⟩ | ⟨a,a2⟩ | ⟨a,_,_,_,_,a5⟩ | ⟨a,_,⟨j',q1,q2⟩ | ⟨q1,q2⟩⟩ | ⟨_,a2,⟨q1,q2⟩ | ⟨cs,yc,ls,q1,q2,_⟩ | ⟨ri,s,s0,q1,q2,_⟩ | q1⟩ | ⟨cs6,yc6,ls6,j6,w1',w2',w3',w4',w5'⟩
    ·exact absurd (aB _ a2) hng
    ·exact absurd (aC _ a2) hng
    ·rw[a,hκn i a5 (λe=>by rw[e]at hr1;exact hr1)];exact hr1
    ·rw[hl]at q1;cases q1
    ·rw[hl]at q1;cases q1
    ·rw[hκn i a2 (λe=>by rw[e]at hr1;exact hr1)];rw[q2]at hr1;exact hr1
    ·rw[q2]at hr1;exact hr1.elim
    ·rw[q2]at hr1;exact hr1.elim
    ·rw[q1];trivial
    ·rw[hl]at w3';cases w3'
   rotate_right
   ·rcases hnil with⟨rfl,rfl⟩ | ⟨rfl,rfl⟩
    ·have hv:v=.pointer none:=hr;subst hv;exact⟨rfl,rfl⟩
    ·have hv:v=.map none:=hr;subst hv;exact⟨rfl,rfl⟩
   ·rcases (j0p hd).2 with⟨z,rfl,rfl⟩ | ⟨e,rfl,rfl,hx⟩ | ⟨e,l',rfl,hx,hlo,hth,hsh⟩ | ⟨ak,av,k,vt,l',rfl,hx,hlo,hth,hsh⟩
    ·exact⟨⟨hr.1,hr.2.1,RepAt.mono hfm t _ _ hr.2.2⟩,hr.2.1⟩
    ·have hv:v=.slice none 0 0:=hr;subst hv;have hx:=eq_of_heq hx;subst hx;exact⟨⟨rfl,rfl,none,0,0,rfl,rfl,ax _,λh=>absurd rfl h⟩,rfl⟩
    ·have hx:=eq_of_heq hx;subst hx;have hone:v.oneCell'=true:=by
      rcases hsh with⟨id,rfl⟩ | ⟨id,a,b,rfl⟩
      ·exact hr.2
      ·exact hr.2
     obtain⟨_,i2,i3⟩:=V2 (H3 s) sim1.heap;have hrep:=y1g sim1.heap i2 e s v hr hlo (λid hm b c hk=>by
      have ht:=hth id hm;refine⟨i3 id hm ?_ b c hk,rfl⟩;unfold q1w at ht;split at ht
      ·rename_i q;exact .inl ⟨_,_,_,.inr q⟩
      ·rename_i q;exact .inl ⟨_,_,_,.inl q⟩
      ·rename_i q;exact .inr ⟨_,_,_,_,_,.inr q⟩
      ·rename_i q;exact .inr ⟨_,_,_,_,_,.inl q⟩
      ·cases ht)
     exact⟨⟨rfl,hone,RepAt.mono (λb hb=>⟨hthaw (H3 s) hth b hb,rfl⟩) _ _ _ hrep⟩,hone⟩
    ·have hx:=eq_of_heq hx;subst hx;have hone:v.oneCell'=true:=by
      rcases hsh with rfl | ⟨id,rfl⟩
      ·have hv:v=.map none:=hr;rw[hv];rfl
      ·obtain⟨_,b,c,_,hv⟩:=hr;rw[hv];rfl
     obtain⟨_,i2,i3⟩:=V2 (H3 s) sim1.heap;have hrep:=y1q sim1.heap i2 ak av k vt s v hr hlo (λid hm b c hk=>by
      have ht:=hth id hm;refine⟨i3 id hm ?_ b c hk,rfl⟩;unfold q1w at ht;split at ht
      ·rename_i q;exact .inl ⟨_,_,_,.inr q⟩
      ·rename_i q;exact .inl ⟨_,_,_,.inl q⟩
      ·rename_i q;exact .inr ⟨_,_,_,_,_,.inr q⟩
      ·rename_i q;exact .inr ⟨_,_,_,_,_,.inl q⟩
      ·cases ht)
     exact⟨⟨rfl,hone,RepAt.mono (λb hb=>⟨hthaw (H3 s) hth b hb,rfl⟩) _ _ _ hrep⟩,hone⟩
   ·unfold z89 at hsr';split at hsr'
    ·rename_i j i hl;have hij:=ab hsr';subst hij;refine⟨⟨?_,hr.2⟩,hr.2⟩;have hr1:=hr.1;rcases hnew id i hl with o1 | ⟨ls,o1⟩
     ·rw[o1,hκs id i hl];exact hr1
     ·rw[o1]at hr1;exact hr1.elim
    ·rename_i hl;have hv:v=.slice none 0 0:=hr;subst hv;refine⟨⟨?_,rfl⟩,rfl⟩;rcases hnil0 id hl with⟨_,e,t,q2⟩ | ⟨h0,_⟩
     ·rw[q2];exact .inl ⟨hκ0 id hl,rfl,rfl⟩
     ·rw[h0]at hsr';cases hsr'
    ·rename_i i hl;simp only[ac,aU]at hsr';have hii:=ab hsr'.1;subst hii;have hng:i∉mo++sr:=λh=>by rw[memb_iff.2 h]at hsr';cases hsr'.2
     refine⟨⟨?_,hr.2⟩,hr.2⟩;have hr1:=hr.1;rcases hcase i with⟨a,a2⟩ | ⟨a,a2⟩ | ⟨a,_,_,_,_,a5⟩ | ⟨a,_,⟨j',q1,q2⟩ | ⟨q1,q2⟩⟩ | ⟨_,a2,⟨q1,q2⟩ | ⟨cs,yc,ls,q1,q2,_⟩ | ⟨ri,s,s0,q1,q2,_⟩ | q1⟩ | ⟨cs6,yc6,ls6,j6,w1',w2',w3',w4',w5'⟩
     ·exact absurd (aB _ a2) hng
     ·exact absurd (aC _ a2) hng
     ·rw[a,hκn i a5 (λe=>by rw[e]at hr1;exact hr1)];exact hr1
     ·rw[hl]at q1;cases q1
     ·rw[hl]at q1;cases q1
     ·rw[hκn i a2 (λe=>by rw[e]at hr1;exact hr1)];rw[q2]at hr1;exact hr1
     ·rw[q2]at hr1;exact hr1.elim
     ·rw[q2]at hr1;exact hr1.elim
     ·rw[q1];trivial
     ·rw[hl]at w3';cases w3'
    ·cases hsr'
   ·have hin:=(hlook id).1 (by rw[hl];simp);have hnf0:∀o,o=.fresh\/o=.kid->h2 id≠o:=λo ho e0=>by
     have hnp:¬o.pure/\∀l,o≠.cells l:=by rcases ho with rfl | rfl<;>exact⟨λh=>h,λ_ h=>by cases h⟩
     rcases hH hb id with⟨_,b,_⟩ | ⟨b,_⟩ | ⟨cs,yc,ls,b1,b,_⟩ | ⟨ri,s,b1,b,_⟩ | ⟨cs6,yc6,ls6,j6,_,w1',_⟩
     ·exact b hin
     ·rw[show D8 l y hb id=h2 id from rfl,e0]at b;exact hnp.1 b
     ·rw[show D8 l y hb id=h2 id from rfl,e0]at b;exact hnp.2 _ b
     ·exact(wdis id ((wstat id).2 b1)).1 (wnew id hin)
     ·rw[show D8 l y hb id=h2 id from rfl,e0]at w1';exact hnp.2 _ w1'
    have hnf:(h2 id).Held:=⟨hnf0 _ (.inl rfl),hnf0 _ (.inr rfl)⟩;rcases hpm with⟨rfl,rfl⟩ | ⟨rfl,rfl⟩
    ·obtain⟨hr1,b,c,hr2,hr3⟩:=hr;exact⟨⟨hnf,b,c,(hκs id j hl).trans hr2,hr3⟩,by rw[hr3];rfl⟩
    ·obtain⟨hr1,b,c,hr2,hr3⟩:=hr;exact⟨⟨hnf,b,c,(hκs id j hl).trans hr2,hr3⟩,by rw[hr3];rfl⟩
  have nmo:∀id,st0.h id≠.fresh->id∉mo:=λid h1 h2=>h1 (hmo id h2);have hkids:∀id,st0.h id=.kid->h2 id=.kid:=λid hd=>by
   have hd1:=ext.kid id hd;have nm1:id∉mo:=nmo id (by rw[hd];simp);have nb:id∉sr:=λhs=>by
    have:=aG.1 hsrk id hs;rw[hd1]at this;cases this
   rcases hH hb id with⟨a,b,c⟩ | ⟨po,⟨b1,_⟩ | ⟨_,b2⟩⟩ | ⟨cs,yc,ls,_,_,c,_⟩ | ⟨ri,s,_,_,c⟩ | ⟨cs,yc,ls,j,b1,_⟩
   ·exact a.trans ((hb_o id nm1 nb).trans hd)
   ·exact absurd (wnew id b1) nm1
   ·rw[<-b2,hd1]at po;exact po.elim
   ·rw[hd1]at c;cases c
   ·rw[hd1]at c;cases c
   ·exact absurd (wnew id b1) nm1
  have hext:Ext L κ0 st0.h v0 κ2 h2 w1:=by
   refine⟨λid hf=>?_,λid hd=>?_,λid hd=>?_,λid ls hd=>?_,λid e t x hd=>?_,λid e k x f hd=>?_,λid e t x hd=>?_,λid ri rs hd=>?_,λid hd=>?_,λid ak av tk tv le cu hd=>?_,λb hbf=>?_,ext.size,ext.loops,ext.defs⟩
   ·have hl:C8 id m=none:=by
     cases hq:C8 id m with
     | none=>rfl
     | some q=>exact absurd (wnew id ((hlook id).1 (by rw[hq];simp))) (nmo id hf.1)
    exact(hκn id hl (ext.keeps hf).2).trans (ext.place id hf)
   ·exact hkids id hd
   ·rcases hcase id with⟨a,a2⟩ | ⟨a,_⟩ | ⟨_,a,_⟩ | ⟨a,a2,_⟩ | ⟨_,a2,⟨po,q2⟩ | ⟨cs,yc,ls,q1,q2,q3⟩ | ⟨ri,s,s0,q1,q2,q4⟩ | q1⟩ | ⟨cs6,yc6,ls6,j6,w1',w2',w3',w4',w5'⟩
    ·exact absurd a2 (nmo id (by rw[hd];simp))
    ·exact a
    ·exact a.trans hd
    ·exact absurd a2 (nmo id (by rw[hd];simp))
    ·rw[ext.dead id hd]at q2;exact q2.symm
    ·rw[ext.dead id hd]at q2;cases q2
    ·rw[ext.dead id hd]at q2;cases q2
    ·exact q1
    ·exact absurd w2' (nmo id (by rw[hd];simp))
   ·rcases hcase id with⟨a,a2⟩ | ⟨a,_⟩ | ⟨_,a,_⟩ | ⟨a,a2,_⟩ | ⟨_,a2,⟨po,q2⟩ | ⟨cs,yc,ls',q1,q2,q3⟩ | ⟨ri,s,s0,q1,q2,q4⟩ | q1⟩ | ⟨cs6,yc6,ls6,j6,w1',w2',w3',w4',w5'⟩
    ·exact absurd a2 (nmo id (by rw[hd];simp))
    ·exact .inr a
    ·exact .inl ⟨ls,a.trans hd⟩
    ·exact absurd a2 (nmo id (by rw[hd];simp))
    ·rcases ext.cells id ls hd with⟨l',e'⟩ | e'<;>rw[<-q2,e']at po<;>exact po.elim
    ·exact .inl ⟨_,q1⟩
    ·rw[hd]at q4;cases q4
    ·exact .inr q1
    ·exact absurd w2' (nmo id (by rw[hd];simp))
   ·rcases hcase id with⟨a,a2⟩ | ⟨a,_⟩ | ⟨_,a,_⟩ | ⟨a,a2,_⟩ | ⟨_,a2,⟨po,q2⟩ | ⟨cs,yc,ls',q1,q2,q3⟩ | ⟨ri,s,s0,q1,q2,q4⟩ | q1⟩ | ⟨cs6,yc6,ls6,j6,w1',w2',w3',w4',w5'⟩
    ·exact absurd a2 (nmo id (by rw[hd];simp))
    ·exact .inr a
    ·exact .inl ⟨x,rfl,.inl (a.trans hd)⟩
    ·exact absurd a2 (nmo id (by rw[hd];simp))
    ·rcases ext.arr id e t x hd with⟨l',hl',e1 | e1⟩ | e1
     ·exact .inl ⟨_,hl',.inl (q2.symm.trans e1)⟩
     ·rw[<-q2,e1]at po;exact po.elim
     ·rw[<-q2,e1]at po;exact po.elim
    ·rcases ext.arr id e t x hd with⟨l',hl',e1 | e1⟩ | e1<;>rw[q2]at e1<;>cases e1
    ·rw[hd]at q4;cases q4
    ·exact .inr q1
    ·exact absurd w2' (nmo id (by rw[hd];simp))
   ·have hgk:id∉mo++sr->∀p,κ2 (gh id p)=κ1 (gh id p):=λhng p=>by
     cases p with
     | nil =>
      have hl:C8 id m=none:=by
       cases hq:C8 id m with
       | none=>rfl
       | some q=>exact absurd (aB _ (wnew id ((hlook id).1 (by rw[hq];simp)))) hng
      exact hκn id hl (ext.keeps (by rw[hd];simp)).2
     | cons i p=>exact hkid id _ hng
    rcases hcase id with⟨a,a2⟩ | ⟨a,_⟩ | ⟨a0,a,m1,m2,_⟩ | ⟨a,a2,_⟩ | ⟨a1,a2,⟨po,q2⟩ | ⟨cs,yc,ls',q1,q2,q3⟩ | ⟨ri,s,s0,q1,q2,q4⟩ | q1⟩ | ⟨cs6,yc6,ls6,j6,w1',w2',w3',w4',w5'⟩
    ·exact absurd a2 (nmo id (by rw[hd];simp))
    ·exact .inr a
    ·have hng:id∉mo++sr:=λh=>(aQ.1 h).elim m1 m2;rcases ext.tree id e k x f hd with⟨l',f',e1,hp⟩ | e1
     ·exact .inl ⟨l',f',a0.trans e1,λp n hn=>⟨(hp p n hn).1,λhk=>(hgk hng p).trans ((hp p n hn).2 hk)⟩⟩
     ·exact .inr (a0.trans e1)
    ·exact absurd a2 (nmo id (by rw[hd];simp))
    ·have hng:id∉mo++sr:=λh=>(aQ.1 h).elim (wdis id a1).1 (wdis id a1).2;rcases ext.tree id e k x f hd with⟨l',f',e1,hp⟩ | e1
     ·exact .inl ⟨l',f',q2.symm.trans e1,λp n hn=>⟨(hp p n hn).1,λhk=>(hgk hng p).trans ((hp p n hn).2 hk)⟩⟩
     ·exact .inr (q2.symm.trans e1)
    ·rcases ext.tree id e k x f hd with⟨l',f',e1,hp⟩ | e1<;>rw[q2]at e1<;>cases e1
    ·rw[hd]at q4;cases q4
    ·exact .inr q1
    ·exact absurd w2' (nmo id (by rw[hd];simp))
   ·rcases hcase id with⟨a,a2⟩ | ⟨a,_⟩ | ⟨_,a,_⟩ | ⟨a,a2,_⟩ | ⟨_,a2,⟨po,q2⟩ | ⟨cs,yc,ls',q1,q2,q3⟩ | ⟨ri,s,s0,q1,q2,q4⟩ | q1⟩ | ⟨cs6,yc6,ls6,j6,w1',w2',w3',w4',w5'⟩
    ·exact absurd a2 (nmo id (by rw[hd];simp))
    ·exact .inr a
    ·exact .inl (a.trans hd)
    ·exact absurd a2 (nmo id (by rw[hd];simp))
    ·rcases ext.ice id e t x hd with e1 | e1<;>rw[<-q2,e1]at po<;>exact po.elim
    ·rcases ext.ice id e t x hd with e1 | e1<;>rw[q2]at e1<;>cases e1
    ·rw[hd]at q4;cases q4
    ·exact .inr q1
    ·exact absurd w2' (nmo id (by rw[hd];simp))
   ·rcases hcase id with⟨a,a2⟩ | ⟨a,_⟩ | ⟨_,a,_⟩ | ⟨a,a2,_⟩ | ⟨_,a2,⟨po,q2⟩ | ⟨cs,yc,ls',q1,q2,q3⟩ | ⟨ri',s',s0,q1,q2,q4⟩ | q1⟩ | ⟨cs6,yc6,ls6,j6,w1',w2',w3',w4',w5'⟩
    ·exact absurd a2 (nmo id (by rw[hd];simp))
    ·exact .inr a
    ·exact .inl ⟨rs,a.trans hd⟩
    ·exact absurd a2 (nmo id (by rw[hd];simp))
    ·rcases ext.lrec id ri rs hd with⟨s',e1⟩ | e1<;>rw[<-q2,e1]at po<;>exact po.elim
    ·rcases ext.lrec id ri rs hd with⟨s',e1⟩ | e1<;>rw[q2]at e1<;>cases e1
    ·rw[hd]at q4;cases q4;exact .inl ⟨_,q1⟩
    ·exact .inr q1
    ·exact absurd w2' (nmo id (by rw[hd];simp))
   ·have hnf:st0.h id≠.fresh:=λe=>by rw[e]at hd;cases hd
    rcases hcase id with⟨a,a2⟩ | ⟨a,_⟩ | ⟨_,a,_⟩ | ⟨a,a2,_⟩ | ⟨_,a2,⟨po,q2⟩ | ⟨cs,yc,ls',q1,q2,q3⟩ | ⟨ri',s',s0,q1,q2,q4⟩ | q1⟩ | ⟨cs6,yc6,ls6,j6,w1',w2',w3',w4',w5'⟩
    ·exact absurd a2 (nmo id hnf)
    ·exact .inr a
    ·exact .inl (by rw[a];exact hd)
    ·exact absurd a2 (nmo id hnf)
    ·rcases ext.maps id hd with e1 | e1
     ·exact .inl (by rw[<-q2];exact e1)
     ·exact .inr (q2.symm.trans e1)
    ·rcases ext.maps id hd with e1 | e1<;>rw[q2]at e1<;>cases e1
    ·rw[q4]at hd;cases hd
    ·exact .inr q1
    ·exact absurd w2' (nmo id hnf)
   ·have hnf:st0.h id≠.fresh:=λe=>by rw[e]at hd;cases hd
    rcases hcase id with⟨a,a2⟩ | ⟨a,_⟩ | ⟨_,a,_⟩ | ⟨a,a2,_⟩ | ⟨_,a2,⟨po,q2⟩ | ⟨cs,yc,ls',q1,q2,q3⟩ | ⟨ri',s',s0,q1,q2,q4⟩ | q1⟩ | ⟨cs6,yc6,ls6,j6,w1',w2',w3',w4',w5'⟩
    ·exact absurd a2 (nmo id hnf)
    ·exact .inr a
    ·exact .inl ⟨le,cu,by rw[a];exact hd⟩
    ·exact absurd a2 (nmo id hnf)
    ·rcases ext.iter id _ _ _ _ _ _ hd with⟨l1,c1,e1⟩ | e1
     ·exact .inl ⟨l1,c1,q2.symm.trans e1⟩
     ·rw[<-q2,e1]at po;exact po.elim
    ·rcases ext.iter id _ _ _ _ _ _ hd with⟨_,_,e1⟩ | e1<;>rw[q2]at e1<;>cases e1
    ·rw[hd]at q4;cases q4
    ·exact .inr q1
    ·exact absurd w2' (nmo id hnf)
   ·obtain⟨f1,f2⟩:=ext.still b hbf;exact⟨hstill b f1,f2⟩
  have hkeep:∀id,(st0.h id).Held->(h2 id).Held/\κ2 id=κ1 id/\(h2 id=.dead\/h2 id=st1.h id\/∃a b,h2 id=.cells a/\st1.h id=.cells b):=by
   intro id hnf;have hk:κ2 id=κ1 id:=(hext.place id hnf).trans (ext.place id hnf).symm;rcases hcase id with⟨a,a2⟩ | ⟨a,_⟩ | ⟨a0,a,_⟩ | ⟨a,a2,_⟩ | ⟨_,a2,⟨po,q2⟩ | ⟨cs,yc,ls',q1,q2,q3⟩ | ⟨ri,s,s0,q1,q2,q4⟩ | q1⟩ | ⟨cs6,yc6,ls6,j6,w1',w2',w3',w4',w5'⟩
   ·exact absurd a2 (nmo id hnf.1)
   ·exact⟨by rw[a];simp,hk,.inl a⟩
   ·exact⟨by rw[a];exact hnf,hk,.inr (.inl a0)⟩
   ·exact absurd a2 (nmo id hnf.1)
   ·exact⟨⟨λe=>by rw[e]at po;exact po,λe=>by rw[e]at po;exact po⟩,hk,.inr (.inl q2.symm)⟩
   ·exact⟨by rw[q1];simp,hk,.inr (.inr ⟨_,_,q1,q2⟩)⟩
   ·exact⟨by rw[q1];simp,hk,.inr (.inl (q1.trans q2.symm))⟩
   ·exact⟨by rw[q1];simp,hk,.inl q1⟩
   ·exact absurd w2' (nmo id hnf.1)
  have htree:∀id,(st0.h id).Held->h2 id=.dead\/(h2 id=st1.h id/\∀p,κ2 (gh id p)=κ1 (gh id p))\/∃a b,h2 id=.cells a/\st1.h id=.cells b:=by
   intro id hnf;obtain⟨g1,g2,g3⟩:=hkeep id hnf;by_cases hd:h2 id=.dead
   ·exact .inl hd
   rcases g3 with g | g | g
   ·exact .inl g
   ·refine .inr (.inl ⟨g,λp=>?_⟩);cases p with
    | nil=>exact g2
    | cons i p =>
     refine hkid id _ λhm=>(aQ.1 hm).elim (nmo id hnf.1) λhs=>hd ?_;rcases hcase id with⟨_,a2⟩ | ⟨a,_⟩ | ⟨_,_,_,a2,_⟩ | ⟨_,a2,_⟩ | ⟨a1,_⟩ | ⟨_,_,_,_,_,w2',_⟩
     ·exact absurd a2 (nmo id hnf.1)
     ·exact a
     ·exact absurd hs a2
     ·exact absurd a2 (nmo id hnf.1)
     ·exact absurd hs (wdis id a1).2
     ·exact absurd w2' (nmo id hnf.1)
   ·exact .inr (.inr g)
  have hold:∀s u v,RepSV L κ0 st0.h v0 s u->RepSV L κ1 st1.h w1 s v->RepSV L κ2 h2 w1 s v:=by
   intro s u v h0 h1;cases s with
   | unk=>trivial
   | sc t x=>exact⟨h1.1,h1.2.1,RepAt.mono hfm t _ _ h1.2.2⟩
   | nils=>exact h1
   | nilp=>exact h1
   | udf=>exact h1
   | ne e l=>exact⟨h1.1,RepAt.mono hfm (.list e) _ _ h1.2.1,h1.2.2⟩
   | nx=>exact h1
   | own id =>
    have hnf:(st0.h id).Held:=⟨λe=>by have:=h0.1;rw[e]at this;exact this,λe=>by have:=h0.1;rw[e]at this;exact this⟩;obtain⟨g1,g2,g3⟩:=hkeep id hnf;refine⟨?_,h1.2⟩;have h1:=h1.1;rcases g3 with g | g | ⟨a,b,_,g⟩
    ·rw[g];trivial
    ·rw[g,g2];exact h1
    ·rw[g]at h1;exact h1.elim
   | sub id off len =>
    have hnf:(st0.h id).Held:=⟨λe=>by have:=h0.1;rw[e]at this;exact this,λe=>by have:=h0.1;rw[e]at this;exact this⟩;obtain⟨g1,g2,g3⟩:=hkeep id hnf;refine⟨?_,h1.2⟩;have h1:=h1.1;rcases g3 with g | g | ⟨a,b,_,g⟩
    ·rw[g];trivial
    ·rw[g,g2];exact h1
    ·rw[g]at h1;exact h1.elim
   | ptr id off=>obtain⟨g1,g2,_⟩:=hkeep id h0.1;obtain⟨b,c,r1,r2⟩:=h1.2;exact⟨g1,b,c,g2.trans r1,r2⟩
   | eptr id t i c=>obtain⟨g1,g2,_⟩:=hkeep id h0.1;obtain⟨b,c,r1,r2⟩:=h1.2;exact⟨g1,b,c,g2.trans r1,r2⟩
   | yld id=>obtain⟨g1,g2,_⟩:=hkeep id h0.1;obtain⟨b,c,r1,r2⟩:=h1.2;exact⟨g1,b,c,g2.trans r1,r2⟩
   | mp id=>obtain⟨g1,g2,_⟩:=hkeep id h0.1;obtain⟨b,c,r1,r2⟩:=h1.2;exact⟨g1,b,c,g2.trans r1,r2⟩
   | csl id _ _ _=>obtain⟨g1,g2,_⟩:=hkeep id h0.1;obtain⟨b,c,r1,r2⟩:=h1.2;exact⟨g1,b,c,g2.trans r1,r2⟩
   | stmp id=>obtain⟨g1,g2,_⟩:=hkeep id h0.1;obtain⟨b,c,r1,r2⟩:=h1.2;exact⟨g1,b,c,g2.trans r1,r2⟩
   | mpn=>exact h1
   | ts id p =>
    have hnf:(st0.h id).Held:=⟨λe=>by have:=h0.1;rw[e]at this;exact this,λe=>by have:=h0.1;rw[e]at this;exact this⟩;refine⟨?_,h1.2⟩;have h0:=h0.1;have h1:=h1.1;rcases htree id hnf with g | ⟨g,hg⟩ | ⟨a,b,_,g⟩
    ·rw[g];trivial
    ·cases ho1:st1.h id with
     | dead=>rw[g,ho1];trivial
     | tree e k x f =>
      rw[ho1]at h1;rw[g,ho1];rcases h1 with⟨b1,b2,b3,b4⟩ | ⟨n,b,cap,b1,b2,b3,b4⟩
      ·exact .inl ⟨b1,(hg []).trans b2,b3,b4⟩
      ·refine .inr ⟨n,b,cap,b1,(hg p).trans b2,?_,b4⟩;cases ho0:st0.h id with
       | dead=>rw[ext.dead id ho0]at ho1;cases ho1
       | tree e0 k0 x0 f0 =>
        rw[ho0]at h0;rcases h0 with⟨c1,_⟩ | ⟨_,_,_,_,_,c3,_⟩
        ·exact .inl c1
        ·exact c3.imp_right (hkids _)
       | _=>rw[ho0]at h0;exact h0.elim
     | _=>rw[ho1]at h1;exact h1.elim
    ·rw[g]at h1;exact h1.elim
   | tp id p i =>
    have hnf:(st0.h id).Held:=⟨λe=>by have:=h0.1;rw[e]at this;exact this,λe=>by have:=h0.1;rw[e]at this;exact this⟩;refine⟨?_,h1.2⟩;have h0:=h0.1;have h1:=h1.1;rcases htree id hnf with g | ⟨g,hg⟩ | ⟨a,b,_,g⟩
    ·rw[g];trivial
    ·cases ho1:st1.h id with
     | dead=>rw[g,ho1];trivial
     | tree e k x f =>
      rw[ho1]at h1;rw[g,ho1];obtain⟨n,b,cap,b1,b2,b3,b4⟩:=h1;refine⟨n,b,cap,b1,(hg p).trans b2,?_,b4⟩;cases ho0:st0.h id with
      | dead=>rw[ext.dead id ho0]at ho1;cases ho1
      | tree e0 k0 x0 f0 =>
       rw[ho0]at h0;obtain⟨_,_,_,_,_,c3,_⟩:=h0;exact c3.imp_right (hkids _)
      | _=>rw[ho0]at h0;exact h0.elim
     | _=>rw[ho1]at h1;exact h1.elim
    ·rw[g]at h1;exact h1.elim
   | gl g=>exact h1
   | cstr b=>exact h1
   | nif=>exact h1
   | nilf=>exact h1
   | pan T=>exact h1
   | ifc T agg cs=>obtain⟨us,r1,r2,r3,r4⟩:=h1;exact⟨us,r1,r2,r3,λi p u hp hu=>⟨(r4 i p u hp hu).1,(r4 i p u hp hu).2.1,RepAt.mono hfm p.1 _ _ (r4 i p u hp hu).2.2⟩⟩
   | bfp f id off =>
    obtain⟨_,_,p1,_⟩:=h0;obtain⟨u,r0,_,b,c,r2,r3⟩:=h1;obtain⟨g1,g2,_⟩:=hkeep id p1;exact⟨u,r0,g1,b,c,g2.trans r2,r3⟩
   | bfn f agg cs=>obtain⟨us,r1,r2,r3,r4⟩:=h1;exact⟨us,r1,r2,r3,λi p u hp hu=>⟨(r4 i p u hp hu).1,(r4 i p u hp hu).2.1,RepAt.mono hfm p.1 _ _ (r4 i p u hp hu).2.2⟩⟩
   | gp k x=>obtain⟨b,o,r1,r2,r3⟩:=h1;exact⟨b,o,r1,hstill b r2,r3⟩
   | ro t x c=>obtain⟨b,o,r1,r2,r3⟩:=h1;exact⟨b,o,r1,hstill b r2,RepAt.mono hfm t _ _ r3⟩
   | fn f caps =>
    obtain⟨cs0,_,_,p3⟩:=h0;obtain⟨cs,r1,r2,r3⟩:=h1;refine⟨cs,r1,r2,λi p hp=>?_⟩;obtain⟨q1,_⟩:=p3 i p hp;obtain⟨_,b,c,q2,q3⟩:=r3 i p hp;obtain⟨g1,g2,_⟩:=hkeep p.1 q1;exact⟨g1,b,c,g2.trans q2,q3⟩
  have holdC:∀l us vs,RepCells L κ0 st0.h v0 l us->RepCells L κ1 st1.h w1 l vs->RepCells L κ2 h2 w1 l vs:=by
   intro l us vs h0 h1;refine⟨h1.1,λi s c hi hc=>⟨?_,(h1.2 i s c hi hc).2⟩⟩;have hlt:i<us.length:=by rw[h0.1];exact(ag.1 hi).1
   exact hold s us[i] c (h0.2 i s _ hi (af hlt)).1 (h1.2 i s c hi hc).1
  have holdAV:∀av u v,RepAV L κ0 st0.h v0 av u->RepAV L κ1 st1.h w1 av v->RepAV L κ2 h2 w1 av v:=by
   intro av u v h0 h1;cases av with
   | one s=>exact hold s u v h0 h1
   | agg l =>
    obtain⟨us,_,h0⟩:=h0;obtain⟨vs,hv,h1⟩:=h1;exact⟨vs,hv,holdC l us vs h0 h1⟩
   | tup l =>
    obtain⟨us,_,hul,h0⟩:=h0;obtain⟨vs,hv,hvl,h1⟩:=h1;refine⟨vs,hv,hvl,λi c x hi hx=>?_⟩;have hlt:i<us.length:=by rw[hul];exact(ag.1 hi).1
    have h0:=h0 i c us[i] hi (af hlt);have h1:=h1 i c x hi hx
    match c,h0,h1 with
    | (true,l'),⟨us',_,h0⟩,⟨vs',hv',h1⟩=>exact⟨vs',hv',holdC l' us' vs' h0 h1⟩
    | (false,[s]),h0,h1=>exact hold s _ _ h0 h1
    | (false,[]),h0,_=>exact h0.elim
    | (false,_::_::_),h0,_=>exact h0.elim
  have hlrec:∀id ri s s0,κ2 id=κ1 id->st1.h id=.lrec ri s->st0.h id=.lrec ri s0->RepObj L κ2 h2 w1 id (.lrec ri s):=by
   intro id ri s s0 hk h1 h0;have ho1:=sim1.heap.obj id;have ho0:=sim0.heap.obj id;rw[h1]at ho1;rw[h0]at ho0;obtain⟨b,c,r1,p1,p2,p3,p4,p5,p6,p7,p8,p9⟩:=ho1;obtain⟨_,_,r0,_,_,_,_,_,_,_,_,q9⟩:=ho0;exact⟨b,c,r1,hk.trans p1,p2,p3,p4,p5,p6,p7,p8,λt=>holdAV _ _ _ (q9 t) (p9 t)⟩
  have hgk:∀p n b c,p∈mo++sr->κ2 (kn p n)=some (b,c)->∃j,C8 p m=some (some j)/\φ (kn p n)=kn j n:=λp n b c hp hk=>by
   have hk':(ψ (kn p n)).bind κ1=some (b,c):=hk;have hψ:=hψk p n hp;split at hψ
   ·rename_i j hj;exact⟨j,hj,by simp only[φ,hψ,bm]⟩
   ·rw[hψ]at hk';cases hk'
  have hgo:∀a n q b c,a∈mo++sr->κ2 q=some (b,c)->(¬∃p n,q=kn p n/\p∈mo++sr)->kn a n≠φ q:=λa n q b c ha hk hg e=>by
   cases hl:C8 q m with
   | none =>
    rw[hφn q hl (λp n e hp=>hg ⟨p,n,e,hp⟩)]at e;exact hg ⟨a,n,e.symm,ha⟩
   | some x =>
    cases x with
    | none=>rw[hκ0 q hl]at hk;cases hk
    | some s =>
     rw[hφs q s hl]at e;rcases aQ.1 (hsub s (q2g hl))with hm | hm
     ·have:=hmo s hm;rw[<-e,N4 sim0.heap a n]at this;cases this
     ·have:=aG.1 hsrk s hm;rw[<-e,N4 sim1.heap a n]at this;cases this
  have hheap:HeapOK L w0 κ2 h2 w1:=by
   refine⟨λid=>?_,λi j b c c' hi hj h1 h2'=>?_,λi b c hi h1=>?_,sim1.heap.below,λb hL=>⟨(sim1.heap.outer b hL).1,λi c hi h1=>?_⟩,λid hle=>hkids id (sim0.heap.kids id hle)⟩
   ·rcases hcase id with⟨a,_⟩ | ⟨a,_⟩ | ⟨a,a1,m1,m2,_,a5⟩ | ⟨a,q0,⟨j,q1,q2⟩ | ⟨q1,q2⟩⟩ | ⟨q0,a2,⟨po,q2⟩ | ⟨cs,yc,ls,q1,q2,q3⟩ | ⟨ri,s,s0,q1,q2,q4⟩ | q1⟩ | ⟨cs6,yc6,ls6,j6,w1',w2',w3',w4',w5'⟩
    ·rw[a];trivial
    ·rw[a];trivial
    ·have hob:=sim1.heap.obj id;rw[<-a]at hob;by_cases hkd:st1.h id=.kid
     ·rw[a,hkd];trivial
     have hk:=hκn id a5 hkd;have hng:id∉mo++sr:=λh=>(aQ.1 h).elim m1 m2;have hkp:∀i,κ2 (kn id i)=κ1 (kn id i):=λi=>hkid id i hng;cases hq:h2 id with
     | fresh=>trivial
     | dead=>trivial
     | cells ls =>
      rw[hq]at hob;obtain⟨b,c,cs,ty,r1,r2,r3,r4⟩:=hob;refine⟨b,c,cs,ty,hk.trans r1,r2,r3,λi s u hi hu=>?_⟩;obtain⟨t1,t2⟩:=r4 i s u hi hu;refine⟨?_,t2⟩;have hid0:st0.h id=.cells ls:=by rw[<-a1];exact hq
      have ho0:=sim0.heap.obj id;rw[hid0]at ho0;obtain⟨_,_,cs0,_,_,_,p3,p4⟩:=ho0;have hlt:i<cs0.length:=by rw[p3];exact(ag.1 hi).1
      exact hold s cs0[i] u (p4 i s _ hi (af hlt)).1 t1
     | arr e t x=>rw[hq]at hob;exact harr id id e t x hk hob
     | ice e t x=>rw[hq]at hob;exact⟨harr id id e t x hk hob.1,λb c hb=>hfree b (hob.2 b c (by rw[<-hk];exact hb))⟩
     | lrec ri s=>exact hlrec id ri s s hk (by rw[<-a,hq]) (by rw[<-a1,hq])
     | mapo ak av tk tv x=>rw[hq]at hob;exact hpure id id _ hk hkp trivial hob
     | mice ak av tk tv x =>
      rw[hq]at hob;obtain⟨b,c,es,cl,r1,r2,r3,r4⟩:=hob;exact⟨b,c,es,cl,hk.trans r1,hfree b r2,r3,r4.mono hfm⟩
     | iter ak av tk tv le cu =>
      rw[hq]at hob;obtain⟨b,c,mm,si,se,c0,r1,r2,r3⟩:=hob;exact⟨b,c,mm,si,se,c0,hk.trans r1,r2,r3.mono hfm⟩
     | kid=>trivial
     | tree e k x f =>
      rw[hq]at hob;have hid0:st0.h id=.tree e k x f:=by rw[<-a1];exact hq
      have ho0:=sim0.heap.obj id;rw[hid0]at ho0;rcases hob with⟨a,b⟩ | ⟨b,cap,cur,r1,r2,r3,r4,r5,r6,r7⟩
      ·exact .inl ⟨hk.trans a,b⟩
      ·refine .inr ⟨b,cap,cur,hk.trans r1,r2,r3,r4,r5,r6,λi y hy=>?_⟩;rcases ho0 with⟨_,e0,_⟩ | ⟨_,_,_,_,_,_,_,_,_,p7⟩
       ·rw[e0]at hy;simp at hy
       ·exact RepO.keep hfree hold (λg hg=>(hkeep g hg).1) k (λq=>hkp _) (p7 i y hy) (r7 i y hy)
     | mapp ak av tk tv x k g =>
      rw[hq]at hob;obtain⟨b,c,es,cl,r1,r2,r3,r4,n,c',r5,y0,r6,r7,r8⟩:=hob;have hid0:st0.h id=.mapp ak av tk tv x k g:=by rw[<-a1];exact hq
      have ho0:=sim0.heap.obj id;rw[hid0]at ho0;obtain⟨_,_,_,_,_,_,_,p4,_⟩:=ho0;have hg:κ2 g=κ1 g:=(hext.place g p4).trans (ext.place g p4).symm;exact⟨b,c,es,cl,hk.trans r1,r2,r3.mono hfm,hext.keeps p4,n,c',hg.trans r5,y0,r6,r7,r8.mono hfm⟩
    ·have hob:=sim1.heap.obj j;rw[q2]at hob;exact hpure id j _ (hκs id j q1) (λi=>by
      show(ψ (kn id i)).bind κ1=_;rw[hψk id i (aB _ q0),q1];rfl) a hob
    ·rcases q2 with⟨_,e9,t9,q2⟩ | ⟨_,e9,t9,q2⟩
     ·rw[q2];exact .inl ⟨hκ0 id q1,rfl⟩
     ·rw[q2];exact .inl ⟨hκ0 id q1,rfl,rfl⟩
    ·have hob:=sim1.heap.obj id;rw[q2]at hob;exact hpure id id _ (hκn id a2 (λe=>by rw[<-q2,e]at po;exact po)) (λi=>hkid id i λh=>(aQ.1 h).elim (wdis id q0).1 (wdis id q0).2) po hob
    ·have hob:=sim1.heap.obj id;rw[q2]at hob;obtain⟨b,c,cells,ty,r1,r2,r3,r4⟩:=hob;rw[q1];refine⟨b,c,cells,ty,(hκn id a2 (by rw[q2];simp)).trans r1,r2,r3.trans q3.1,λi s u hi hu=>?_⟩;obtain⟨s0,hs0,hma⟩:=q3.2 i s hi;exact hmatch s0 s u hma (r4 i s0 u hs0 hu).1
    ·rw[q1];exact hlrec id ri s s0 (hκn id a2 (by rw[q2];simp)) q2 q4
    ·rw[q1];trivial
    ·have hob:=sim1.heap.obj j6;rw[w4']at hob;obtain⟨b,c,cells,ty,r1,r2,r3,r4⟩:=hob;rw[w1'];refine⟨b,c,cells,ty,(hκs id j6 w3').trans r1,r2,r3.trans w5'.1,λi s u hi hu=>?_⟩;obtain⟨s0,hs0,hma⟩:=w5'.2 i s hi;exact hmatch s0 s u hma (r4 i s0 u hs0 hu).1
   ·obtain⟨i1,i2⟩:=live i b c hi h1;obtain⟨j1,j2⟩:=live j b c' hj h2';have hφ:=sim1.heap.inj (φ i) (φ j) b c c' i1 j1 i2 j2;by_cases gi:∃p n,i=kn p n/\p∈mo++sr<;>by_cases gj:∃p n,j=kn p n/\p∈mo++sr
    ·obtain⟨p,n,rfl,hp⟩:=gi;obtain⟨p',n',rfl,hp'⟩:=gj;obtain⟨a,a1,a2⟩:=hgk p n b c hp h1;obtain⟨a',a1',a2'⟩:=hgk p' n' b c' hp' h2';rw[a2,a2']at hφ;obtain⟨rfl,rfl⟩:=J6 hφ;rw[j39 hnd a1 a1']
    ·obtain⟨p,n,rfl,hp⟩:=gi;obtain⟨a,a1,a2⟩:=hgk p n b c hp h1;rw[a2]at hφ;exact(hgo a n j b c' (hsub a (q2g a1)) h2' gj hφ).elim
    ·obtain⟨p,n,rfl,hp⟩:=gj;obtain⟨a,a1,a2⟩:=hgk p n b c' hp h2';rw[a2]at hφ;exact(hgo a n i b c (hsub a (q2g a1)) h1 gi hφ.symm).elim
    replace gi:∀p n,i=kn p n->p∉mo++sr:=λp n e hp=>gi ⟨p,n,e,hp⟩;replace gj:∀p n,j=kn p n->p∉mo++sr:=λp n e hp=>gj ⟨p,n,e,hp⟩;cases hli:C8 i m with
    | none =>
     rw[hφn i hli gi]at hφ;cases hlj:C8 j m with
     | none=>rw[hφn j hlj gj]at hφ;exact hφ
     | some q =>
      cases q with
      | none=>rw[hκ0 j hlj]at h2';cases h2'
      | some a=>rw[hφs j a hlj]at hφ;exact absurd (hsub a (q2g hlj)) (hφ▸hout i hli hi)
    | some q =>
     cases q with
     | none=>rw[hκ0 i hli]at h1;cases h1
     | some a =>
      rw[hφs i a hli]at hφ;cases hlj:C8 j m with
      | none=>rw[hφn j hlj gj]at hφ;exact absurd (hsub a (q2g hli)) (hφ▸hout j hlj hj)
      | some q =>
       cases q with
       | none=>rw[hκ0 j hlj]at h2';cases h2'
       | some a'=>rw[hφs j a' hlj]at hφ;subst hφ;exact j39 hnd hli hlj
   ·obtain⟨i1,i2⟩:=live i b c hi h1;exact sim1.heap.own (φ i) b c i1 i2
   ·obtain⟨i1,i2⟩:=live i b c hi h1;exact(sim1.heap.outer b hL).2 (φ i) c i1 i2
  refine⟨κ2,⟨?_,λt=>?_,hheap,sim1.defs,sim1.rnd⟩,hext,hfree⟩
  ·exact sim1.size.trans hn
  ·show RepAV L κ2 h2 w1 (F7 l y (λt=>cond (E2 mt t) (.one .unk) (st0.ρ t)) t) _;rcases hE (λt=>cond (E2 mt t) (.one .unk) (st0.ρ t)) t with⟨a,a2⟩ | ⟨a,s,s',q1,q2,q3⟩
   ·rw[a];cases hq:E2 mt t with
    | true=>trivial
    | false =>
     have hnt:t∉mt:=λh=>by rw[memb_iff.2 h]at hq;cases hq
     rw[htmp t hnt];exact RepAV.ext hext (sim0.env t)
   ·rw[q2];have hr:=sim1.env t;rw[q1]at hr;exact(hmatch s s' _ q3 hr).1
 ·cases he
def z9m (L:Nat->Prop) (w0:World) (v:List (Nat×AObj)) (h:Heap):Prop :=
 ∀κ w,HeapOK L w0 κ h w->∃κ',HeapOK L w0 κ' (A3 v h) w/\Ext L κ h w κ' (A3 v h) w
theorem v3a {id:Nat} {K:List (Nat×AObj)->Option R} (he:j0h h id K=some z):∃v,K v=some z/\z9m L w0 v h:=by
 unfold j0h at he;split at he
 ·rename_i e k l q f hid;rw[q10]at he;obtain⟨⟨l1,u⟩,hcl,he⟩:=ae.1 he;refine⟨_,he,λκ w ok=>?_⟩;obtain⟨l1',u',hlu,_,_,κ1,h1,_⟩:=q62 ok hid hcl;cases hlu;rw[M4];exact⟨κ1,h1⟩
 ·exact⟨_,he,λκ w ok=>⟨κ,ok,Ext.refl L κ h w⟩⟩
theorem j0g {R:Type} {K:List (Nat×AObj)->Heap->Option R} {z:R}:∀(ids:List Nat) (u:List (Nat×AObj)) (h:Heap),j0f K ids u h=some z->∃v,K (u++v) (A3 v h)=some z/\z9m L w0 v h
 | [],u,h,d=>⟨[],by rw[bP];exact d,λa w e=>⟨a,e,Ext.refl L a h w⟩⟩
 | id::r,u,h,d=>by
  obtain⟨v,l,m⟩:=v3a (L:=L) (w0:=w0) d;obtain⟨g,k,n⟩:=j0g r (u++v) (A3 v h) l;refine⟨v++g,by grind[M4],λa w e=>?_⟩;obtain⟨c,o,j⟩:=m a w e;obtain⟨b,f,i⟩:=n c w o;rw[M4];exact⟨b,f,j.trans i⟩
variable {a:List Nat} {K:D7 l->Option R}
theorem j9a {b:St} (e:N3 b mt d c a l K=some z) :
  ∃v,z9m L w0 v b.h/\(∀p∈v,(p.1∈d\/p.1∈c\/p.1∈a)/\y2g (b.h p.1)=true)/\q68 { b with h:=A3 v b.h } mt d c a l K=some z:=by
 obtain⟨v,f,g⟩:=j0g (L:=L) (w0:=w0) _ _ _ e;grind[memb_iff]
theorem j98 {b:St} (e:N3 b mt d c a l K=some z):b.h D1=.fresh:=by
 obtain⟨v,f,-⟩:=j0g (L:=λ_=>False) (w0:=default) _ _ _ e;grind[y0u]
theorem j99 {st0 a:St} {q s j:List Nat} {l:List LI} {K:D7 l->Option R} (he:N3 a mt q s j l K=some z) :
  ∃y,K y=some z/\(∀id∈j,(∃Q S O T l c,a.h id=.iter Q S O T l c)->(C7 st0 mt q s l y).h id=a.h id)/\∀B r f F A k D n,Sim P L w0 B r f st0 F A->Sim P L w0 B r k a D n->Ext L f st0.h A k a.h n->(∀t,t∉mt->D.tmps.getD t undef=F.tmps.getD t undef) ->
   (∀id,id∉q->id∉s->id∉j->a.h id=st0.h id)->(∀id∈q,st0.h id=.fresh)->a.n=st0.n ->
   ∃i,Sim P L w0 B r i (C7 st0 mt q s l y) D n/\Ext L f st0.h A i (C7 st0 mt q s l y).h n/\∀b,A4 L k a.h n b->A4 L i (C7 st0 mt q s l y).h n b:=by
 obtain⟨v,g,hv,J⟩:=j9a (L:=L) (w0:=w0) he;obtain⟨y,hy,Y,hs⟩:=v4e (P:=P) (L:=L) (w0:=w0) (st0:=st0) J;have o:∀id,(∀p∈v,p.1≠id)->A3 v a.h id=a.h id:=λid E=>q4h v a.h E;refine⟨y,hy,λid E H=>?_,λB r f F A k D n C d ext u x G V=>?_⟩
 ·have ho:=o id (λp N e=>by
   obtain⟨Q,S,O,T,l,c,H⟩:=H;have:=(hv p N).2;rw[e,H]at this;cases this)
  grind
 ·obtain⟨I,M,m⟩:=g k n d.heap;obtain⟨i,U,X,s3⟩:=hs B r f F A I D n C ⟨d.size,λt=>(d.env t).ext m,M,d.defs,d.rnd⟩ (ext.trans m) u
   (λid W h2 Z=>(o id (λp N e=>by
    grind)).trans (x id W h2 Z)) G V
  exact⟨i,U,X,λb hb=>s3 b (m.free b hb).1⟩
end Go.Abs
