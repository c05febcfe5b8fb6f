/- Lemmas on functions of the program, by name. -/
import Derived.Test.YteeaadgpkammdaaGreatDoorZTFuns
import Derived.Test.YteeaadgpkammdaaGreatDoorAbsSums
import Derived.Test.YteeaadgpkammdaaGreatDoorZTLemmasTrackStands3
import Derived.Test.YteeaadgpkammdaaGreatDoorZTLemmasTrackStands1
namespace Go.Proofs.Tryz
section
open Go Go.Abs

theorem y68 {p q:Nat->Bool} {n:Nat} (h:∀ i,i<n->p i=q i):(List.range n).find? p=(List.range n).find? q:=by
 have key:∀ l:List Nat,(∀ i,i∈l->p i=q i)->l.find? p=l.find? q:=by
  intro l
  induction l with
  | nil=>intro _;rfl
  | cons a r ih =>
   intro hl
   rw[List.find?_cons,List.find?_cons,hl a (by simp),ih fun i hi=>hl i (by simp[hi])]
 exact key _ fun i hi=>h i (List.mem_range.1 hi)
def V2 (N:List C1) (E:List Edge) (j:Nat):Bool:=(List.range N.length).any fun i=>fwN (edM N E (G9 N i).toNat E.length) N.length j i&&fwN (edM N E (G9 N i).toNat E.length) N.length i j
section
variable {N:List C1} {E:List Edge}
theorem edM_iff {f a b:Nat}:edM N E f E.length a b=true↔I6 N f a=true/\I6 N f b=true/\∃ j,j<E.length/\frE E j=a/\toE E j=b:=by
 unfold edM
 rw[Bool.and_eq_true,Bool.and_eq_true,List.any_eq_true]
 constructor
 ·rintro ⟨⟨h1,h2⟩,j,h3,h4⟩
  rw[Bool.and_eq_true,beq_iff_eq,beq_iff_eq]at h4
  exact⟨h1,h2,j,List.mem_range.1 h3,h4⟩
 ·rintro ⟨h1,h2,j,h3,h4,h5⟩
  exact⟨⟨h1,h2⟩,j,List.mem_range.2 h3,by rw[h4,h5];simp⟩
theorem q4l (f a:Nat):(M5 N f).testBit a=true↔a<N.length/\I6 N f a=true:=by
 unfold M5
 rw[y1a,Bool.and_eq_true,decide_eq_true_eq]
theorem q6h (hok:∀ j,j<E.length->F3 N E j=0) {f a b:Nat} (h:edM N E f E.length a b=true):a<N.length/\b<N.length:=by
 obtain⟨_,_,j,hj,h1,h2⟩:=edM_iff.1 h
 have he:=q06 (hok j hj)
 rw[h1,h2]at he
 exact⟨by have:=he.2.1;omega,by have:=he.2.2.2.1;omega⟩
theorem j0t (hok:∀ j,j<E.length->F3 N E j=0) {f a b:Nat}:M1 (toW E E.length) (M5 N f) a b=true↔(∃ j,j<E.length/\frE E j=a/\toE E j=b)/\(M5 N f).testBit b=true:=by
 unfold M1
 rw[Bool.and_eq_true,y0g E a b E.length fun j hj=>(q06 (hok j hj)).2.2.1]
theorem y0y (hok:∀ j,j<E.length->F3 N E j=0) {f i j:Nat} (h:Way (M1 (toW E E.length) (M5 N f)) i j):(M5 N f).testBit i=true->Way (edM N E f E.length) i j/\(M5 N f).testBit j=true:=by
 intro hi
 induction h with
 | one h =>
  obtain⟨h1,h2⟩:=(j0t hok).1 h
  exact⟨.one (edM_iff.2 ⟨((q4l _ _).1 hi).2,((q4l _ _).1 h2).2,h1⟩),h2⟩
 | more _ h2 ih =>
  obtain⟨h1,h2⟩:=(j0t hok).1 h2
  exact⟨.more ih.1 (edM_iff.2 ⟨((q4l _ _).1 ih.2).2,((q4l _ _).1 h2).2,h1⟩),h2⟩
theorem j3d (hok:∀ j,j<E.length->F3 N E j=0) {f i j:Nat} (h:Way (edM N E f E.length) i j):Way (M1 (toW E E.length) (M5 N f)) i j/\(M5 N f).testBit i=true:=by
 have key:∀ {a b},edM N E f E.length a b=true->M1 (toW E E.length) (M5 N f) a b=true/\(M5 N f).testBit a=true:=fun {a b} h=>by
  have hl:=q6h hok h
  obtain⟨h1,h2,h3⟩:=edM_iff.1 h
  exact⟨(j0t hok).2 ⟨h3,(q4l _ _).2 ⟨hl.2,h2⟩⟩,(q4l _ _).2 ⟨hl.1,h1⟩⟩
 induction h with
 | one h=>exact⟨.one (key h).1,(key h).2⟩
 | more _ h2 ih=>exact⟨.more ih.1 (key h2).1,ih.2⟩
theorem v1t (hN:N.all D8=true) (hok:∀ j,j<E.length->F3 N E j=0) (j:Nat):(q0u N (toW E E.length) 4).testBit j=V2 N E j:=by
 rw[Bool.eq_iff_iff,j27]
 unfold V2
 rw[List.any_eq_true]
 constructor
 ·rintro ⟨f,i,h1,h2,h3,h4,h5,h6,h7⟩
  have hf:(G9 N i).toNat=f:=by omega
  have e1:=y0y hok h6 h4
  have e2:=y0y hok h7 e1.2
  refine⟨i,List.mem_range.2 h3,?_⟩
  rw[hf,Bool.and_eq_true]
  exact⟨(z0r (fun a b h=>q6h hok h) _ _).2 e2.1,(z0r (fun a b h=>q6h hok h) _ _).2 e1.1⟩
 ·rintro ⟨i,hi,h⟩
  have hi:=List.mem_range.1 hi
  rw[Bool.and_eq_true]at h
  have hm:=q2f (q7m hN (Int.natCast_nonneg i) (by omega))
  have hm':1<=G9 N i/\G9 N i<=4:=hm
  have w1:=j3d hok ((z0r (fun a b h=>q6h hok h) _ _).1 h.1)
  have w2:=j3d hok ((z0r (fun a b h=>q6h hok h) _ _).1 h.2)
  exact⟨(G9 N i).toNat,i,by omega,by omega,hi,w2.2,by omega,w2.1,w1.1⟩
def q3y (N:List C1) (E:List Edge):List (List Bool):=tab 4 fun f=>sqT N.length (fwN (edM N E (f+1) E.length) N.length)
theorem v1i (hn:N.length<=12) (z:Int×Int×Unit):A2 (q7z ((N,E,()),())) ((0:Int),z,())=some (Q0 (((List.range N.length).find? fun i=>!D8 (N.getD i v0)).map fun i:Nat=>(((2:Int),(i:Int),()),())) (.inl (z,()))):=by
 rw[<-q13]
 refine U6 (f:=q7z ((N,E,()),())) N.length (fun i=>((i:Int),z,())) _ _ (fun i hi=>?_) ?_ rfl
 ·unfold q7z
  simp only[dcT (show(i:Int)<(N.length:Int)by omega),cond_true,J0 v0 (Int.natCast_nonneg i) (show(i:Int)<(N.length:Int)by omega),Int.toNat_natCast,Option.bind_some,v0o]
  rw[B7 (by omega)]
  cases D8 (N.getD i v0)<;>rfl
 ·unfold q7z
  simp only[dcF (show ¬ (N.length:Int)<(N.length:Int)by omega),cond_false]
theorem v1j (hN:N.all D8=true) (hE:E.length<=20) (z:Int×Int×Unit):A2 (q80 ((N,E,()),())) ((0:Int),z,())=some (Q0 (((List.range E.length).find? fun i=>F3 N E i != 0).map fun i:Nat=>((F3 N E i,(i:Int),()),())) (.inl (z,()))):=by
 rw[<-q13]
 refine U6 (f:=q80 ((N,E,()),())) E.length (fun i=>((i:Int),z,())) _ _ (fun i hi=>?_) ?_ rfl
 ·unfold q80
  simp only[dcT (show(i:Int)<(E.length:Int)by omega),cond_true,v1h hN hE hi,Option.bind_some]
  rw[B7 (by omega)]
  cases F3 N E i != 0<;>rfl
 ·unfold q80
  simp only[dcF (show ¬ (E.length:Int)<(E.length:Int)by omega),cond_false]
theorem v1k (hE:E.length<=20) (i:Nat) (z:(Int×Int×Unit)×Unit):A2 (z2v ((N,E,()),()) ((i:Int),z)) ((0:Int),(0:Int),())=some (.inl (((H3 E.length fun j=>toE E j==(i:Int):Nat):Int),())):=by
 refine F6 E.length (fun j=>(((H3 j fun j=>toE E j==(i:Int):Nat):Int),(j:Int),())) _ (fun j hj=>?_) ?_ rfl
 ·unfold z2v
  have hc:=z6q (fun j=>toE E j==(i:Int)) j
  simp only[dcT (show(j:Int)<(E.length:Int)by omega),cond_true,J0 e0 (Int.natCast_nonneg j) (show(j:Int)<(E.length:Int)by omega),Int.toNat_natCast,Option.bind_some]
  rw[B7 (show j<9223372036854775807 by omega),B7 (show H3 j _<9223372036854775807 by omega)]
  show(cond (toE E j==(i:Int)) _ _)=some (Sum.inl (((H3 j _+cond (toE E j==(i:Int)) 1 0:Nat):Int),_))
  cases toE E j==(i:Int)<;>rfl
 ·unfold z2v
  simp only[dcF (show ¬ (E.length:Int)<(E.length:Int)by omega),cond_false]
theorem v1l (hn:N.length<=12) (hE:E.length<=20) (hok:∀ j,j<E.length->F3 N E j=0) (z:Int×Int×Unit):A2 (q81 ((N,E,()),())) ((0:Int),z,())=some (Q0 (((List.range N.length).find? fun i=>S7 N E i).map fun i:Nat=>(((5:Int),(i:Int),()),())) (.inl (z,()))):=by
 rw[<-q13]
 refine U6 (f:=q81 ((N,E,()),())) N.length (fun i=>((i:Int),z,())) _ _ (fun i hi=>?_) ?_ rfl
 ·unfold q81
  simp only[dcT (show(i:Int)<(N.length:Int)by omega),cond_true,v1k hE i (z,()),Sum.elim_inl,J0 v0 (Int.natCast_nonneg i) (show(i:Int)<(N.length:Int)by omega),Int.toNat_natCast,Option.bind_some,j7m]
  rw[B7 (by omega),y8m hok]
  cases S7 N E i<;>rfl
 ·unfold q81
  simp only[dcF (show ¬ (N.length:Int)<(N.length:Int)by omega),cond_false]
theorem v1m (hn:N.length<=12) (hE:E.length<=20) (hok:∀ j,j<E.length->F3 N E j=0):A2 (z2w ((N,E,()),())) (([]:List (List Bool)),(1:Int),())=some (.inl (q3y N E,())):=by
 refine F6 4 (fun f=>(tab f fun f=>sqT N.length (fwN (edM N E (f+1) E.length) N.length),((f+1:Nat):Int),())) _ (fun f hf=>?_) ?_ rfl
 ·unfold z2w
  simp only[dcT (show((f+1:Nat):Int)<=4 by omega),cond_true,v1g hn hE hok (f+1),Option.bind_some,K9,List.length_cons,List.length_nil]
  have hr:B2 (f+(0+1)) 24=true:=by
   unfold B2
   rw[Bool.and_eq_true]
   exact⟨Nat.ble_eq_true_of_le (by omega),Nat.ble_eq_true_of_le (by omega)⟩
  rw[hr,B7 (by omega),<-j0y]
  rfl
 ·unfold z2w
  rfl
theorem v1n (hn:N.length<=12) (hN:N.all D8=true) {j:Nat} (hj:j<N.length) (z w:Int×Int×Unit) :
  A2 (q82 ((N,E,()),()) (q3y N E,()) ((j:Int),z,())) ((0:Int),w,())=some (if V2 N E j=true then .inl (((9:Int),(j:Int),()),())else .inr (.inl (w,()))):=by
 have h:=U6 (f:=q82 ((N,E,()),()) (q3y N E,()) ((j:Int),z,())) N.length (fun i=>((i:Int),w,())) (fun i=>cond (fwN (edM N E (G9 N i).toNat E.length) N.length j i&&fwN (edM N E (G9 N i).toNat E.length) N.length i j) (some (((9:Int),(j:Int),()),())) none) (.inl (w,())) (fun i hi=>by
  have hm:=q2f (q7m hN (Int.natCast_nonneg i) (show(i:Int)<(N.length:Int)by omega))
  have hm':1<=G9 N i/\G9 N i<=4:=hm
  obtain⟨f,hf⟩:=Int.eq_ofNat_of_zero_le (show 0<=G9 N i-1 by omega)
  have hd:G9 N i=((f+1:Nat):Int):=by omega
  have hd':(N.getD i v0).2.1=((f+1:Nat):Int):=hd
  have hw:IntKind.i64.wrap (((f+1:Nat):Int)-1)=(f:Int):=by rw[E7 (by omega) (by omega)];omega
  have hf4:f<4:=by omega
  have hg:(q3y N E)[f]? = some (sqT N.length (fwN (edM N E (f+1) E.length) N.length)):=S9 _ hf4
  have hl:(q3y N E).length=4:=K9
  have hn64:N.length<=64:=by omega
  unfold q82
  simp only[dcT (show(i:Int)<(N.length:Int)by omega),cond_true,J0 v0 (Int.natCast_nonneg i) (show(i:Int)<(N.length:Int)by omega),Int.toNat_natCast,Option.bind_some,hd',hw,hl,H7 hf4,hg,q5l hn64 hj hi,q5l hn64 hi hj,U2,j0q hj hi,j0q hi hj,B7 (show i<9223372036854775807 by omega),hd]
  cases fwN (edM N E (f+1) E.length) N.length j i<;>cases fwN (edM N E (f+1) E.length) N.length i j<;>rfl) (by
  unfold q82
  simp only[dcF (show ¬ (N.length:Int)<(N.length:Int)by omega),cond_false]) rfl
 refine Eq.trans h ?_
 rw[j4a]
 show some (Q0 (if V2 N E j=true then _ else _) _)=_
 split<;>rfl
theorem v1o (hn:N.length<=12) (hN:N.all D8=true) (z:Int×Int×Unit):A2 (q83 ((N,E,()),()) (q3y N E,())) ((0:Int),z,())=some (Q0 (((List.range N.length).find? fun j=>V2 N E j).map fun j:Nat=>(((9:Int),(j:Int),()),())) (.inl (z,()))):=by
 rw[<-q13]
 refine U6 (f:=q83 ((N,E,()),()) (q3y N E,())) N.length (fun i=>((i:Int),z,())) _ _ (fun j hj=>?_) ?_ rfl
 ·unfold q83
  simp only[dcT (show(j:Int)<(N.length:Int)by omega),cond_true,v1n hn hN hj z z,Option.bind_some]
  rw[B7 (by omega)]
  cases V2 N E j<;>rfl
 ·unfold q83
  simp only[dcF (show ¬ (N.length:Int)<(N.length:Int)by omega),cond_false]
end
def O6 (N:List C1) (E:List Edge):Int×Int×Unit :=
 if 12<N.length\/20<E.length then(1,0,())
 else match(List.range N.length).find? fun i=>!D8 (N.getD i v0)with
 | some i=>(2,(i:Int),())
 | none=>match(List.range E.length).find? fun i=>F3 N E i != 0 with
  | some i=>(F3 N E i,(i:Int),())
  | none=>match(List.range N.length).find? fun i=>S7 N E i with
   | some i=>(5,(i:Int),())
   | none=>match(List.range N.length).find? fun j=>V2 N E j with
    | some j=>(9,(j:Int),())
    | none=>(0,0,())
theorem z5v {N:List C1} (h:(List.range N.length).find? (fun i=>!D8 (N.getD i v0))=none):N.all D8=true:=by
 rw[List.all_eq_true]
 intro v hv
 obtain⟨i,hi,rfl⟩:=List.mem_iff_getElem.1 hv
 have:=q4g h i hi
 rw[List.getD_eq_getElem?_getD,List.getElem?_eq_getElem hi]at this
 simpa using this
theorem z2u (N:List C1) (E:List Edge):z2t ((N,E,()),())=some (O6 N E,()):=by
 unfold z2t O6
 by_cases h1:12<N.length
 ·simp only[dcT (show(N.length:Int)>12 by omega),cond_true,if_pos (Or.inl h1:12<N.length\/20<E.length)]
 by_cases h2:20<E.length
 ·simp only[dcF (show ¬ (N.length:Int)>12 by omega),dcT (show(E.length:Int)>20 by omega),cond_true,cond_false,if_pos (Or.inr h2:12<N.length\/20<E.length)]
 have hn:N.length<=12:=by omega
 have hE:E.length<=20:=by omega
 simp only[dcF (show ¬ (N.length:Int)>12 by omega),dcF (show ¬ (E.length:Int)>20 by omega),cond_false,if_neg (show ¬ (12<N.length\/20<E.length)by omega),v1i hn,Option.bind_some]
 cases hf1:(List.range N.length).find? fun i=>!D8 (N.getD i v0)with
 | some i=>rfl
 | none =>
  have hN:=z5v hf1
  simp only[Option.map_none,q4f,Sum.elim_inr,Sum.elim_inl,v1j hN hE,Option.bind_some]
  cases hf2:(List.range E.length).find? fun i=>F3 N E i != 0 with
  | some i=>rfl
  | none =>
   have hok:∀ j,j<E.length->F3 N E j=0:=fun j hj=>by simpa using q4g hf2 j hj
   simp only[Option.map_none,q4f,Sum.elim_inr,Sum.elim_inl,v1l hn hE hok,Option.bind_some]
   cases hf3:(List.range N.length).find? fun i=>S7 N E i with
   | some i=>rfl
   | none =>
    simp only[Option.map_none,q4f,Sum.elim_inr,Sum.elim_inl,v1m hn hE hok,v1o hn hN,Option.bind_some]
    cases hf4:(List.range N.length).find? fun j=>V2 N E j<;>rfl
end

section
open Go Go.Abs

theorem z1c (a b:Int):S1 (a,b,())=some ((a,b,()),()):=rfl
theorem v1q (n:Nat):List.replicate n (0:Int)=cl (tab n fun _=>0):=by
 unfold cl
 rw[show(tab n fun _=>0)=List.replicate n 0 from(q3k ..).symm,List.map_replicate]
 rfl
section
variable {N:List C1} {E:List Edge}
theorem y4l (hn:N.length<=12):A2 (q6t ((N,E,()),())) ((0:Int),())=some (Q0 (((List.range N.length).find? fun i=>!D8 (N.getD i v0)).map fun i:Nat=>((i:Int),())) (.inl ())):=by
 rw[<-q13]
 refine U6 (f:=q6t ((N,E,()),())) N.length (fun i=>((i:Int),())) _ _ (fun i hi=>?_) ?_ rfl
 ·unfold q6t
  simp only[dcT (show(i:Int)<(N.length:Int)by omega),cond_true,J0 v0 (Int.natCast_nonneg i) (show(i:Int)<(N.length:Int)by omega),Int.toNat_natCast,Option.bind_some,y6s]
  rw[B7 (by omega)]
  cases D8 (N.getD i v0)<;>rfl
 ·unfold q6t
  simp only[dcF (show ¬ (N.length:Int)<(N.length:Int)by omega),cond_false]
theorem y5m:(List.range E.length).findSome? (q49 N E)=((List.range E.length).find? fun i=>F3 N E i != 0).map fun i=>(cl (tab N.length (toW E i)),(F3 N E i,(i:Int),()),N1 E i,()):=by
 rw[<-q13]
 refine congrArg (fun f=>(List.range E.length).findSome? f) (funext fun i=>?_)
 unfold q49
 rw[K2]
theorem y4e {n v:Nat} (hv:v<2^n):((List.range n).findSome? fun j=>if v.testBit j=true then some (Sum.inl (((j:Int),()),()):(((Int×Unit)×Unit)⊕((Int×Unit)×Unit)⊕Empty))else none)=((List.range n).find? fun j=>v.testBit j).map fun j:Nat=>Sum.inl (((j:Int),()),()):=by
 rw[<-q13]
 refine congrArg (fun f=>(List.range n).findSome? f) (funext fun i=>?_)
 cases v.testBit i<;>rfl
theorem z0z (N:List C1) (E:List Edge):q6s ((N,E,()),())=some (O6 N E,()):=by
 unfold q6s O6
 by_cases h1:12<N.length
 ·simp only[dcT (show(N.length:Int)>12 by omega),cond_true,if_pos (Or.inl h1:12<N.length\/20<E.length),z1c,Option.bind_some]
 by_cases h2:20<E.length
 ·simp only[dcF (show ¬ (N.length:Int)>12 by omega),dcT (show(E.length:Int)>20 by omega),cond_true,cond_false,if_pos (Or.inr h2:12<N.length\/20<E.length),z1c,Option.bind_some]
 have hn:N.length<=12:=by omega
 have hE:E.length<=20:=by omega
 simp only[dcF (show ¬ (N.length:Int)>12 by omega),dcF (show ¬ (E.length:Int)>20 by omega),cond_false,if_neg (show ¬ (12<N.length\/20<E.length)by omega),y4l hn,Option.bind_some]
 cases hf1:(List.range N.length).find? fun i=>!D8 (N.getD i v0)with
 | some i =>
  simp only[Option.map_some,j43,Sum.elim_inl,Option.bind_some,dcT (show(i:Int)≥0 by omega),cond_true,z1c]
 | none =>
  have hN:=z5v hf1
  have hr4:B2 N.length 4=true:=by
   unfold B2
   rw[Bool.and_eq_true]
   exact⟨Nat.ble_eq_true_of_le (by omega),Nat.ble_eq_true_of_le (by omega)⟩
  have d1:decide ((-1:Int)≥0)=false:=by decide
  simp only[Option.map_none,q4f,Sum.elim_inr,Sum.elim_inl,Option.bind_some,d1,cond_false,dcT (show(0:Int)<=(N.length:Int)by omega),dcT (show(N.length:Int)<=(N.length:Int)by omega),Int.toNat_natCast,hr4,dcT (show(N.length:Int)<=9223372036854775807 by omega),Bool.and_self,cond_true,v1q,y4q hn hN hE,y5m]
  cases hf2:(List.range E.length).find? fun i=>F3 N E i != 0 with
  | some i =>
   have hne:(F3 N E i != 0)=true:=by have:=List.find?_some hf2;exact this
   simp only[Option.map_some,j43,Sum.elim_inl,Option.bind_some,hne,cond_true]
  | none =>
   have hok:∀ j,j<E.length->F3 N E j=0:=fun j hj=>by simpa using q4g hf2 j hj
   have hT:∀ a,toW E E.length a<2^N.length:=fun a=>j14 a E.length fun j hj=>⟨(q06 (hok j hj)).2.2.1,(q06 (hok j hj)).2.2.2.1⟩
   simp only[Option.map_none,q4f,Sum.elim_inr,Sum.elim_inl,Option.bind_some,y4s E hn,q13]
   cases hf3:(List.range N.length).find? fun i=>S7 N E i with
   | some i=>rfl
   | none =>
    have hb:=z6c N (toW E E.length) 4
    have h0:((0:Int) != 0)=false:=rfl
    have hs:(List.range N.length).find? (fun j=>(q0u N (toW E E.length) 4).testBit j)=(List.range N.length).find? fun j=>V2 N E j:=y68 fun j _=>v1t hN hok j
    simp only[Option.map_none,q4f,Sum.elim_inr,Sum.elim_inl,Option.bind_some,h0,cond_false,y4o E hn hT,q5y (z1r (L8 hn hb)),y4p hn hb,y4e hb,hs]
    cases hf4:(List.range N.length).find? fun j=>V2 N E j with
    | some j =>
     simp only[Option.map_some,Option.getD_some,Sum.elim_inl,Option.bind_some,dcT (show(j:Int)≥0 by omega),cond_true,z1c]
    | none =>
     simp only[Option.map_none,Option.getD_none,Sum.elim_inr,Sum.elim_inl,Option.bind_some,d1,cond_false]
end
end

section
open Go Go.Abs

section
variable {N:List C1} {E:List Edge}
theorem z1e {N:List C1} {E:List Edge} (h:(O6 N E).1=0):O6 N E=(0,0,())/\N.length<=12/\E.length<=20/\N.all D8=true/\(∀ j,j<E.length->F3 N E j=0)/\∀ j,j<N.length->V2 N E j=false:=by
 unfold O6 at h ⊢
 by_cases h1:12<N.length\/20<E.length
 ·rw[if_pos h1]at h;cases h
 rw[if_neg h1]at h ⊢
 cases hf1:(List.range N.length).find? fun i=>!D8 (N.getD i v0)with
 | some i=>rw[hf1]at h;cases h
 | none =>
  rw[hf1]at h
  simp only at h ⊢
  cases hf2:(List.range E.length).find? fun i=>F3 N E i != 0 with
  | some i =>
   rw[hf2]at h
   have:=List.find?_some hf2
   simp only[bne_iff_ne]at this
   exact absurd h this
  | none =>
   rw[hf2]at h
   simp only at h ⊢
   cases hf3:(List.range N.length).find? fun i=>S7 N E i with
   | some i=>rw[hf3]at h;cases h
   | none =>
    rw[hf3]at h
    simp only at h ⊢
    cases hf4:(List.range N.length).find? fun j=>V2 N E j with
    | some j=>rw[hf4]at h;cases h
    | none=>exact⟨rfl,by omega,by omega,z5v hf1,fun j hj=>by simpa using q4g hf2 j hj,q4g hf4⟩
end
end

section
open Go Go.Abs

open Classical in
end

section
open Go Go.Abs

end

section
open Go Go.Abs

end

section
open Go Go.Abs

def sq {α:Type} (n:Nat) (G:Nat->Nat->α):List α:=tab (n*n) fun p=>G (p / n) (p % n)
theorem z4y {α:Type} (n:Nat) (G:Nat->Nat->α):(sq n G).length=n*n:=T0 ..
theorem q76 {a b n:Nat} (ha:a<n) (hb:b<n):a*n+b<n*n:=by
 have:(a+1)*n<=n*n:=Nat.mul_le_mul_right n ha
 rw[Nat.succ_mul]at this;omega
theorem q74 {a b n:Nat} (hb:b<n):(a*n+b) / n=a:=by
 rw[Nat.mul_comm,Nat.mul_add_div (by omega),Nat.div_eq_of_lt hb];rfl
theorem q77 {a b n:Nat} (hb:b<n):(a*n+b) % n=b:=by
 rw[Nat.mul_comm,Nat.mul_add_mod,Nat.mod_eq_of_lt hb]
theorem z1h {p n:Nat} (hp:p<n*n):p / n<n/\p % n<n/\p / n*n+p % n=p:=by
 have hn:0<n:=Nat.pos_of_ne_zero fun h=>by rw[h]at hp;simp at hp
 exact⟨Nat.div_lt_of_lt_mul hp,Nat.mod_lt _ hn,Nat.div_add_mod' p n⟩
theorem q5k {n:Nat} (hn:n<=16):n*n<=256:=Nat.mul_le_mul hn hn
theorem q78 {a b n:Nat} (ha:a<n) (hb:b<n) (hn:n<=16):IntKind.i64.wrap (IntKind.i64.wrap ((a:Int)*(n:Int))+(b:Int))=((a*n+b:Nat):Int):=by
 have h1:=q76 ha hb
 have h2:=q5k hn
 have e:(a:Int)*(n:Int)=((a*n:Nat):Int):=by simp
 rw[e,E7 (x:=((a*n:Nat):Int)) (by omega) (by omega),E7 (by omega) (by omega)];rfl
theorem q96 {n:Nat} (hn:n<=16):IntKind.i64.wrap ((n:Int)*(n:Int))=((n*n:Nat):Int):=by
 have h2:=q5k hn
 have e:(n:Int)*(n:Int)=((n*n:Nat):Int):=by simp
 rw[e,E7 (by omega) (by omega)]
theorem q95 {α:Type} {n a b:Nat} (G:Nat->Nat->α) (ha:a<n) (hb:b<n):(sq n G)[a*n+b]? = some (G a b):=by
 unfold sq;rw[S9 _ (q76 ha hb),q74 hb,q77 hb]
theorem v4v {α:Type} {n a b:Nat} (G:Nat->Nat->α) (ha:a<n) (hb:b<n):A7 (sq n G) ((a*n+b:Nat):Int)=some (G a b):=by rw[U2,q95 G ha hb]
theorem z4x {α:Type} {n:Nat} {G G':Nat->Nat->α} (h:∀ a b,a<n->b<n->G a b=G' a b):sq n G=sq n G' :=
 J8 fun p hp=>h _ _ (z1h hp).1 (z1h hp).2.1
theorem j9y {α:Type} {n a b:Nat} (G:Nat->Nat->α) (ha:a<n) (hb:b<n) (v:α):(sq n G).set (a*n+b) v=sq n fun a' b'=>if a'=a/\b'=b then v else G a' b':=by
 unfold sq
 rw[q1h]
 refine J8 fun p hp=>?_
 have h:=z1h hp
 by_cases e:p=a*n+b
 ·subst e;rw[if_pos rfl,q74 hb,q77 hb];exact(if_pos ⟨rfl,rfl⟩).symm
 ·rw[if_neg e];refine(if_neg ?_).symm
  rintro ⟨h1,h2⟩
  rw[h1,h2]at h;exact e h.2.2.symm
theorem j7u {α:Type} (n:Nat) (v:α):List.replicate (n*n) v=sq n fun _ _=>v:=q3k ..
theorem q75 {a b n:Nat} (ha:a<n) (hb:b<n):inB ((a*n+b:Nat):Int) (n*n)=true:=H7 (q76 ha hb)
end

section
open Go Go.Abs

def B5 (N:List C1) (a:Nat):Nat:=(N.getD a v0).2.1.toNat
def P7 (v:C1):Sm:=if v.1=4 then(v.2.1,0,[0],())else if v.1=5 then(v.2.1-1,0,[],())else if v.1=6 then(v.2.1,1,[],())else(v.2.1,0,[],())
def B6 (N:List C1) (a:Nat):Sm:=P7 (N.getD a v0)
def edN (E:List Edge):List (Nat×Nat):=E.map fun e=>(e.1.toNat,e.2.1.toNat)
theorem j4s {v:C1} (h:D8 v=true):q38 (v,())=some (P7 v,0,()):=by
 have hd:=q2f h
 unfold q38 P7
 rw[j4t,h]
 simp only[Option.bind_some,Bool.not_true,cond_false,R5]
 rw[E7 (x:=v.2.1-1) (by omega) (by omega)]
 repeat' split
 all_goals rfl
theorem v0p {v:C1} (h:D8 v=true):q2o (v,())=some (P7 v,()):=by
 have hd:=q2f h
 unfold q2o P7
 simp only[R5]
 rw[E7 (x:=v.2.1-1) (by omega) (by omega)]
 repeat' split
 all_goals rfl
theorem y06 {v:C1} (h:D8 v=true):wfS (P7 v)/\kN (P7 v)<=v.2.1.toNat/\oN (P7 v)<=4/\oN (P7 v)=(V1 v).toNat/\∀ i,pN (P7 v) i=0\/(pN (P7 v) i=1/\i+1=v.2.1.toNat/\kN (P7 v)=v.2.1.toNat/\oN (P7 v)=v.2.1.toNat):=by
 have hm:=of_decide_eq_true h
 obtain⟨k,d,op,⟨⟩⟩:=v
 obtain⟨m1,m2,m3,m4,m5,m6,m7⟩:=hm
 simp only at m1 m2 m3 m4 m5 m6 m7
 unfold P7 V1 wfS kN oN pN
 simp only
 by_cases h4:k=4
 ·have:=m6 h4
  simp only[if_pos h4,List.length_cons,List.length_nil]
  refine⟨by omega,by omega,by omega,by omega,fun i=>.inl ?_⟩
  unfold plc
  split
  ·split<;>rfl
  ·cases i-kN (d,0,[0],())with
   | zero=>rfl
   | succ j=>simp
 ·by_cases h5:k=5
  ·have:=m7 (by omega)
   simp only[if_neg h4,if_pos h5,List.length_nil]
   refine⟨by omega,by omega,by omega,by omega,fun i=>.inl ?_⟩
   unfold plc
   split
   ·split<;>rfl
   ·simp
  ·by_cases h6:k=6
   ·simp only[if_neg h4,if_neg h5,if_pos h6,List.length_nil]
    refine⟨by omega,by omega,by omega,by omega,fun i=>?_⟩
    unfold plc kN
    simp only
    split
    ·split
     ·rename_i q1 q2;right;exact⟨rfl,q2,by simp⟩
     ·left;rfl
    ·left;simp
   ·simp only[if_neg h4,if_neg h5,if_neg h6,List.length_nil]
    refine⟨by omega,by omega,by omega,by omega,fun i=>.inl ?_⟩
    unfold plc
    split
    ·split<;>rfl
    ·simp
abbrev JbI:=Int×Int×Sm×Unit
noncomputable def q97 (N:List C1):(List JbI×Int×Unit)->Option ((List JbI×Int×Unit)⊕((List JbI×Unit)⊕Empty)):=fun y2 =>
 (cond (decide (y2.2.1<(N.length:Int))) ((A7 N y2.2.1).bind fun v3=>(cond (true&&B2 (y2.1.length+([(y2.2.1,y2.2.1,(v3.2.1,(0:Int),([]:(List Int)),()),())]).length) 56&&true&&true) (some (Sum.inl ((y2.1++[(y2.2.1,y2.2.1,(v3.2.1,(0:Int),([]:(List Int)),()),())]),(IntKind.i64.wrap (y2.2.1+(1:Int))),()))) none)) (some (Sum.inr (Sum.inl (y2.1,())))))
noncomputable def q98 (N:List C1) (E:List Edge) (v6:JbI):(List JbI×Int×Unit)->Option ((List JbI×Int×Unit)⊕((List JbI×Unit)⊕Empty)):=fun y11 =>
 (cond (decide (y11.2.1<(E.length:Int))) ((A7 E y11.2.1).bind fun v12=>(cond (v12.1 != v6.2.1) (some (Sum.inl (y11.1,(IntKind.i64.wrap (y11.2.1+(1:Int))),()))) ((A7 N v6.2.1).bind fun v13=>((q38 (v13,())).bind fun r14=>((q2w (v6.2.2.1,r14.1,())).bind fun r15=>(cond (r15.2.1==(0:Int)) (cond (true&&B2 (y11.1.length+([(v6.1,v12.2.1,r15.1,())]).length) 56&&true&&true) (some (Sum.inl ((y11.1++[(v6.1,v12.2.1,r15.1,())]),(IntKind.i64.wrap (y11.2.1+(1:Int))),()))) none) (some (Sum.inl (y11.1,(IntKind.i64.wrap (y11.2.1+(1:Int))),()))))))))) (some (Sum.inr (Sum.inl (y11.1,())))))
noncomputable def q5m (N:List C1) (E:List Edge):(List JbI×List (List Sm)×Unit)->Option ((List JbI×List (List Sm)×Unit)⊕((List (List Sm)×Unit)⊕Empty)):=fun y5 =>
 (cond (decide ((y5.1.length:Int)>(0:Int))) (cond (inB (0:Int) y5.1.length) ((y5.1[(0:Int).toNat]?).bind fun v6=>(cond (true&&decide (0<=(1:Int))&&decide ((1:Int)<=y5.1.length)) (cond (inB (IntKind.i64.wrap ((IntKind.i64.wrap (v6.1*(N.length:Int)))+v6.2.1)) y5.2.1.length) ((y5.2.1[(IntKind.i64.wrap ((IntKind.i64.wrap (v6.1*(N.length:Int)))+v6.2.1)).toNat]?).bind fun v7=>((q52 (v7,v6.2.2.1,())).bind fun r8=>(cond r8.1 (some (Sum.inl ((y5.1.drop (1:Int).toNat),(y5.2.1.set ((IntKind.i64.wrap ((IntKind.i64.wrap (v6.1*(N.length:Int)))+v6.2.1)).toNat) v7),()))) (((y5.2.1.set ((IntKind.i64.wrap ((IntKind.i64.wrap (v6.1*(N.length:Int)))+v6.2.1)).toNat) v7)[(IntKind.i64.wrap ((IntKind.i64.wrap (v6.1*(N.length:Int)))+v6.2.1)).toNat]?).bind fun v9=>(cond (true&&B2 (v9.length+([v6.2.2.1]).length) 40&&true&&true) ((q5q ((v9++[v6.2.2.1]),())).bind fun r10=>(((y5.2.1.set ((IntKind.i64.wrap ((IntKind.i64.wrap (v6.1*(N.length:Int)))+v6.2.1)).toNat) v7)[(IntKind.i64.wrap ((IntKind.i64.wrap (v6.1*(N.length:Int)))+v6.2.1)).toNat]?).bind fun _=>(cond (Nat.beq ((IntKind.i64.wrap ((IntKind.i64.wrap (v6.1*(N.length:Int)))+v6.2.1)).toNat) ((IntKind.i64.wrap ((IntKind.i64.wrap (v6.1*(N.length:Int)))+v6.2.1)).toNat)) ((A2 (q98 N E v6) ((y5.1.drop (1:Int).toNat),(0:Int),())).bind (Sum.elim (fun z16=>(some (Sum.inl (z16.1,((y5.2.1.set ((IntKind.i64.wrap ((IntKind.i64.wrap (v6.1*(N.length:Int)))+v6.2.1)).toNat) v7).set ((IntKind.i64.wrap ((IntKind.i64.wrap (v6.1*(N.length:Int)))+v6.2.1)).toNat) r10.1),())))) Empty.elim)) none))) none))))) none) none)) none) (some (Sum.inr (Sum.inl (y5.2.1,())))))
section
variable {N:List C1} {E:List Edge}
theorem z6v (hok:∀ j,j<E.length->F3 N E j=0):∀ e∈E,e.1=((e.1.toNat:Nat):Int)/\e.1.toNat<N.length/\e.2.1=((e.2.1.toNat:Nat):Int)/\e.2.1.toNat<N.length/\V1 (N.getD e.1.toNat v0)=(N.getD e.2.1.toNat v0).2.1:=by
 intro e he
 obtain⟨j,hj,rfl⟩:=List.mem_iff_getElem.1 he
 have h:=q06 (hok j hj)
 have g:E.getD j e0=E[j]:=by rw[List.getD_eq_getElem?_getD,List.getElem?_eq_getElem hj];rfl
 unfold frE toE poE at h
 rw[g]at h
 obtain⟨h1,h2,h3,h4,-,-,-,h5⟩:=h
 exact⟨by omega,by omega,by omega,by omega,h5⟩
theorem q3i (hN:N.all D8=true) {a:Nat} (ha:a<N.length):D8 (N.getD a v0)=true:=by
 have:=q7m hN (i:=(a:Int)) (by omega) (by omega)
 rwa [Int.toNat_natCast]at this
theorem z0x (hn:N.length<=12) (hN:N.all D8=true) (hok:∀ j,j<E.length->F3 N E j=0):GR N.length (B5 N) (B6 N) (edN E):=by
 refine⟨hn,fun a ha=>?_,fun a ha=>?_,fun a b he=>?_⟩
 ·have:=q2f (q3i hN ha)
  unfold B5
  omega
 ·obtain⟨h1,h2,h3,h4,h5⟩:=y06 (q3i hN ha)
  exact⟨h1,h2,h3,h5⟩
 ·obtain⟨e,he,h⟩:=List.mem_map.1 he
  obtain⟨q1,q2,q3,q4,q5⟩:=z6v hok e he
  cases h
  have:=(y06 (q3i hN q2)).2.2.2.1
  refine⟨q2,q4,?_⟩
  unfold B6 B5
  rw[this,q5]
theorem z6t (hN:N.all D8=true) {a:Nat} (ha:a<N.length):(N.getD a v0).2.1=((B5 N a:Nat):Int):=by
 have:=q2f (q3i hN ha)
 unfold B5
 omega
def H0 (j:Jb):JbI:=((j.1:Int),(j.2.1:Int),j.2.2,())
theorem y7c {l:List Sm} {s:Sm} (hl:∀ r∈l,okS r) (hs:okS s) (hn:l.length<=10000000):q52 (l,s,())=some (l.any fun r=>leS r s,()):=by
 have key:A2 (z2p (l,s,())) ((0:Int),())=some (if(List.range l.length).any (fun i=>leS (l.getD i (0,0,[],())) s)=true then .inl (true,())else .inr (.inl ())):=by
  refine q4r l.length () _ _ _ (fun i hi=>?_) ?_
  ·unfold z2p
   rw[List.getD_eq_getElem?_getD,List.getElem?_eq_getElem hi,Option.getD_some]
   simp only[dcT (show(i:Int)<(l.length:Int)by omega),cond_true,E9 hi,Option.bind_some,y09 (hl _ (List.getElem_mem hi)) hs,B7 (show i<9223372036854775807 by omega)]
   cases leS l[i] s<;>rfl
  ·unfold z2p
   simp only[dcF (show ¬ (l.length:Int)<(l.length:Int)by omega),cond_false]
 have e:(List.range l.length).any (fun i=>leS (l.getD i (0,0,[],())) s)=l.any fun r=>leS r s:=by
  rw[Bool.eq_iff_iff,List.any_eq_true,List.any_eq_true]
  constructor
  ·rintro ⟨i,hi,h⟩
   have hi:=List.mem_range.1 hi
   rw[List.getD_eq_getElem?_getD,List.getElem?_eq_getElem hi,Option.getD_some]at h
   exact⟨_,List.getElem_mem hi,h⟩
  ·rintro ⟨r,hr,h⟩
   obtain⟨i,hi,rfl⟩:=List.mem_iff_getElem.1 hr
   exact⟨i,List.mem_range.2 hi,by rw[List.getD_eq_getElem?_getD,List.getElem?_eq_getElem hi];exact h⟩
 unfold q52
 rw[key,e]
 cases l.any fun r=>leS r s<;>rfl
theorem y71 (hn:N.length<=12) (hN:N.all D8=true):A2 (q97 N) (([]:List JbI),(0:Int),())=some (.inl (((List.range N.length).map fun u=>(u,u,idS (B5 N u))).map H0,())):=by
 refine F6 N.length (fun i=>(((List.range i).map fun u=>(u,u,idS (B5 N u))).map H0,(i:Int),())) _ (fun i hi=>?_) ?_ rfl
 ·have hl:(((List.range i).map fun u=>(u,u,idS (B5 N u))).map H0).length=i:=by simp
  rw[List.range_succ,List.map_append,List.map_append]
  generalize ((List.range i).map fun u=>(u,u,idS (B5 N u))).map H0=J at *
  unfold q97
  simp only[dcT (show(i:Int)<(N.length:Int)by omega),cond_true,J0 v0 (Int.natCast_nonneg i) (show(i:Int)<(N.length:Int)by omega),Int.toNat_natCast,Option.bind_some,List.length_cons,List.length_nil,G3 (show J.length+(0+1)<=140737488355328 by omega) (show(J.length+(0+1))*56<=140737488355328 by omega),Bool.and_true,B7 (show i<9223372036854775807 by omega),z6t hN hi]
  rfl
 ·unfold q97
  simp only[dcF (show ¬ (N.length:Int)<(N.length:Int)by omega),cond_false]
theorem y65 (g:GR N.length (B5 N) (B6 N) (edN E)) (hN:N.all D8=true) (hE:E.length<=20) (hok:∀ j,j<E.length->F3 N E j=0) {u v:Nat} {s:Sm} (hv:v<N.length) (hs:bx s) (ho:oN s=B5 N v) {J:List JbI} (hJ:J.length<=1000000000) :
  A2 (q98 N E (H0 (u,v,s))) (J,(0:Int),())=some (.inl (J++(O5 (B6 N) (edN E) u v s).map H0,())):=by
 have hb:bx (B6 N v):=g.bxS hv
 have hk:kN (B6 N v)<=oN s:=by rw[ho];exact(g.s0 v hv).2.1
 have hpart:∀ i,((O5 (B6 N) (edN (E.take i)) u v s).map H0).length<=i:=fun i=>by
  unfold O5 edN
  rw[List.length_map,List.length_map]
  refine Nat.le_trans (List.length_filter_le ..) ?_
  rw[List.length_map,List.length_take];omega
 have key:A2 (q98 N E (H0 (u,v,s))) (J,(0:Int),())=some (.inl (J++(O5 (B6 N) (edN (E.take E.length)) u v s).map H0,())):=by
  refine F6 E.length (fun i=>(J++(O5 (B6 N) (edN (E.take i)) u v s).map H0,(i:Int),())) _ (fun i hi=>?_) ?_ ?_
  ·have hlen:=hpart i
   obtain⟨q1,q2,q3,q4,q5⟩:=z6v hok _ (List.getElem_mem hi)
   have hsplit:(O5 (B6 N) (edN (E.take (i+1))) u v s).map H0=(O5 (B6 N) (edN (E.take i)) u v s).map H0++(if E[i].1=(v:Int)then [H0 (u,E[i].2.1.toNat,cS s (B6 N v))]else []):=by
    rw[List.take_succ_eq_append_getElem hi]
    unfold O5 edN
    rw[List.map_append,List.filter_append,List.map_append,List.map_append]
    congr 1
    by_cases h:E[i].1=(v:Int)
    ·have:E[i].1.toNat=v:=by omega
     simp[h]
    ·have:¬ E[i].1.toNat=v:=by omega
     simp[h,this]
   rw[hsplit,<-List.append_assoc]
   have hl2:(J++(O5 (B6 N) (edN (E.take i)) u v s).map H0).length<=1000000000+20:=by rw[List.length_append];omega
   generalize J++(O5 (B6 N) (edN (E.take i)) u v s).map H0=K at *
   unfold q98
   simp only[dcT (show(i:Int)<(E.length:Int)by omega),cond_true,E9 hi,Option.bind_some,K2,B7 (show i<9223372036854775807 by omega)]
   show(if E[i].1=(v:Int)then _ else _)=_
   by_cases h:E[i].1=(v:Int)
   ·rw[if_pos h,if_pos h]
    have hgs:(A7 N (H0 (u,v,s)).2.1).bind (fun v13=>(q38 (v13,())))=some (B6 N v,0,()):=by
     show(A7 N (v:Int)).bind _=_
     rw[J0 v0 (Int.natCast_nonneg v) (show(v:Int)<(N.length:Int)by omega),Int.toNat_natCast,Option.bind_some]
     exact j4s (q3i hN hv)
    have hgi:A7 N (H0 (u,v,s)).2.1=some (N.getD v v0):=by
     show A7 N (v:Int)=_
     rw[J0 v0 (Int.natCast_nonneg v) (show(v:Int)<(N.length:Int)by omega),Int.toNat_natCast]
    have hth:q2w ((H0 (u,v,s)).2.2.1,P7 (N.getD v v0),())=some (cS s (B6 N v),0,()):=v5j hs hb hk
    simp only[hgi,Option.bind_some,j4s (q3i hN hv),hth,N2 (show(0:Int)=0 from rfl),cond_true,List.length_cons,List.length_nil,G3 (show K.length+(0+1)<=140737488355328 by omega) (show(K.length+(0+1))*56<=140737488355328 by omega),Bool.and_true]
    unfold H0
    simp only[<-q3]
   ·rw[if_neg h,if_neg h,List.append_nil]
  ·unfold q98
   simp only[dcF (show ¬ (E.length:Int)<(E.length:Int)by omega),cond_false]
  ·simp[O5,edN]
 rw[List.take_length]at key
 exact key
theorem v2i (g:GR N.length (B5 N) (B6 N) (edN E)) (hN:N.all D8=true) (hE:E.length<=20) (hok:∀ j,j<E.length->F3 N E j=0) {P:Tb} {u v:Nat} {s:Sm} {J:List Jb} (h:PI N.length (B5 N) (B6 N) (edN E) P ((u,v,s)::J)) (hJ:J.length<=1000000000) :
  q5m N E (((u,v,s)::J).map H0,sq N.length P,())=some (.inl (if(P u v).any (fun r=>leS r s)=true then(J.map H0,sq N.length P,())else((J++O5 (B6 N) (edN E) u v s).map H0,sq N.length (P3 P u v s),()))):=by
 obtain⟨hu,hv,hb,hsh⟩:=h.jbx g _ List.mem_cons_self
 have hn:=g.n12
 simp only at hu hv hb hsh
 have hPb:∀ x∈P u v,bx x:=fun x hx=>(h.gen u v x hx).2
 have hPl:=q31 (h.an u v) hPb
 have hidx:IntKind.i64.wrap (IntKind.i64.wrap ((u:Int)*(N.length:Int))+(v:Int))=((u*N.length+v:Nat):Int):=q78 hu hv (by omega)
 have hset:(sq N.length P).set (u*N.length+v) (P u v)=sq N.length P:=by
  rw[j9y P hu hv]
  refine z4x fun a b _ _=>?_
  split
  ·rename_i e;rw[e.1,e.2]
  ·rfl
 have hset2:(sq N.length P).set (u*N.length+v) (N7 (P u v++[s]))=sq N.length (P3 P u v s):=by
  rw[j9y P hu hv]
  exact z4x fun a b _ _=>rfl
 have hL:=v5g (l:=P u v++[s]) (by rw[List.length_append,List.length_cons,List.length_nil];omega) (fun x hx=>(List.mem_append.1 hx).elim (fun q=>(hPb x q).ok) fun q=>by rw[List.mem_singleton.1 q];exact hb.ok)
 have hkn:=y7c (l:=P u v) (s:=s) (fun r hr=>(hPb r hr).ok) hb.ok (by omega)
 have hext:=y65 g hN hE hok (u:=u) hv hb hsh.o (J:=J.map H0) (by rw[List.length_map];exact hJ)
 unfold q5m
 have e1:(((u,v,s)::J).map H0)[(0:Int).toNat]? = some (H0 (u,v,s)):=rfl
 have e2:((((u,v,s)::J).map H0).drop (1:Int).toNat)=J.map H0:=rfl
 have hlen:(((u,v,s)::J).map H0).length=J.length+1:=by simp
 have hin:inB (0:Int) (J.length+1)=true:=H7 (i:=0) (by omega)
 have d0:decide ((((J.length+1:Nat)):Int)>0)=true:=dcT (by omega)
 have d1:decide ((1:Int)<=((J.length+1:Nat):Int))=true:=dcT (by omega)
 have d2:decide ((0:Int)<=1)=true:=rfl
 simp only[hlen,d0,hin,d1,d2,e1,e2,cond_true,Option.bind_some,Bool.and_self,Bool.true_and]
 have w:IntKind.i64.wrap (IntKind.i64.wrap ((H0 (u,v,s)).1*(N.length:Int))+(H0 (u,v,s)).2.1)=((u*N.length+v:Nat):Int):=hidx
 simp only[w,z4y,q75 hu hv,cond_true,Int.toNat_natCast,q95 P hu hv,Option.bind_some,hset,show(H0 (u,v,s)).2.2.1=s from rfl,hkn]
 cases hc:(P u v).any fun r=>leS r s with
 | true=>simp
 | false =>
  simp only[cond_false,List.length_cons,List.length_nil,G3 (show(P u v).length+(0+1)<=140737488355328 by omega) (show((P u v).length+(0+1))*40<=140737488355328 by omega),Bool.and_true,cond_true,hL,Option.bind_some,Nat.beq_refl,hext,Sum.elim_inl,hset2,Bool.false_eq_true,if_false,List.map_append]
theorem z9y (g:GR N.length (B5 N) (B6 N) (edN E)) (hN:N.all D8=true) (hE:E.length<=20) (hok:∀ j,j<E.length->F3 N E j=0):∀ (m:Nat),m<=1000000000->∀ (P:Tb) (J:List Jb),PI N.length (B5 N) (B6 N) (edN E) P J->21*(22276800-q0x N.length P)+J.length<=m ->
  ∃ P':Tb,PI N.length (B5 N) (B6 N) (edN E) P' []/\A2 (q5m N E) (J.map H0,sq N.length P,())=some (.inl (sq N.length P',()))
 | m,hm,P,[],h,hl=>by
  refine⟨P,h,D6 ?_⟩
  unfold q5m
  simp
 | 0,hm,P,j::J,h,hl=>by rw[List.length_cons]at hl;omega
 | m+1,hm,P,(u,v,s)::J,h,hl=>by
  rw[List.length_cons]at hl
  rw[H9 (v2i g hN hE hok h (by omega))]
  by_cases hk:(P u v).any (fun r=>leS r s)=true
  ·rw[if_pos hk]
   exact z9y g hN hE hok m (by omega) P J (h.known (List.any_eq_true.1 hk)) (by omega)
  ·rw[if_neg hk]
   have hno:¬ ∃ y∈P u v,leS y s=true:=fun q=>hk (List.any_eq_true.2 q)
   obtain⟨h1,h2⟩:=h.put g hno
   have h3:=j34 N.length (P3 P u v s) g.n12
   have h4:(O5 (B6 N) (edN E) u v s).length<=20:=by
    unfold O5 edN
    rw[List.length_map]
    refine Nat.le_trans (List.length_filter_le ..) ?_
    rw[List.length_map];exact hE
   exact z9y g hN hE hok m (by omega) _ _ h1 (by rw[List.length_append];omega)
theorem v2h (h0:(O6 N E).1=0):∃ P:Tb,PF N.length (B5 N) (B6 N) (edN E) P/\(∀ u v,∀ x∈P u v,bx x)/\∃ J:List JbI,A2 (q97 N) (([]:List JbI),(0:Int),())=some (.inl (J,()))/\A2 (q5m N E) (J,List.replicate (N.length*N.length) ([]:List Sm),())=some (.inl (sq N.length P,())):=by
 obtain⟨e0,hn,hE,hN,hok,-⟩:=z1e h0
 have g:=z0x hn hN hok
 obtain⟨P,hP,hrun⟩:=z9y g hN hE hok 500000000 (by omega) (fun _ _=>[]) _ (PI.start g) (by rw[List.length_map,List.length_range];omega)
 rw[<-j7u]at hrun
 exact⟨P,hP.done,fun u v x hx=>(hP.gen u v x hx).2,_,y71 hn hN,hrun⟩
end
end

section
open Go Go.Abs

theorem j71 {s:Sm} (hw:wfS s) (o4:oN s<=4) (p0:∀ i,0<=pN s i/\pN s i<=1048576):okS s:=by
 have h1:=hw.2
 have hb:∀ v:Int,0<=v/\v<=1048576->bad v=false:=fun v h=>by
  unfold bad
  simp only[Bool.or_eq_false_iff,decide_eq_false_iff_not]
  omega
 have hd:0<=s.2.1/\s.2.1<=1048576:=by
  have:=p0 (kN s-1)
  unfold pN plc at this
  rw[if_pos (by omega),if_pos (by omega)]at this
  exact this
 have hl:∀ v∈s.2.2.1,0<=v/\v<=1048576:=by
  intro v hv
  obtain⟨i,hi,rfl⟩:=List.mem_iff_getElem.1 hv
  have:=p0 (kN s+i)
  unfold pN plc at this
  rw[if_neg (by omega),Nat.add_sub_cancel_left,List.getD_eq_getElem?_getD,List.getElem?_eq_getElem hi]at this
  exact this
 obtain⟨w1,w2⟩:=hw
 unfold oN at o4
 unfold kN at w2
 have hbb:(bad s.2.1||s.2.2.1.any bad)=false:=by
  rw[Bool.or_eq_false_iff]
  refine⟨hb _ hd,List.any_eq_false.2 fun v hv=>by rw[hb _ (hl v hv)];simp⟩
 show(if(4:Int)<1\/(4:Int)>4\/s.1<1\/s.1>(4:Int)\/(s.2.2.1.length:Int)>4-s.1 then(1:Int)else if(bad s.2.1||s.2.2.1.any bad)=true then 2 else 0)=0
 rw[if_neg (by omega),if_neg (by rw[hbb];simp)]
theorem v04 {s r:Sm} (hs:bx s) (hr:bx r):okS (cS s r):=by
 refine j71 (T1 hs.wf hr.wf) (by rw[J3];exact hr.o4) fun i=>?_
 have h1:=hs.p0 i
 have h2:=hr.p0 i
 by_cases hi:i<oN r
 ·rw[K7 hs.wf.2 hr.wf.2 hi]
  split<;>omega
 ·rw[q7w (by rw[J3];omega)];omega
theorem j76 {s:Sm} (h:wfS s):q0f s=((oN s:Nat):Int):=by
 have:=h.1
 unfold q0f oN
 omega
theorem v5k {a b:List Sm} (ha:a.length<=20000000) (hp:∀ s∈a,s.2.2.1.length<=1000000):z3f (a,b,())=some (decide (a=b),()):=by
 unfold z3f
 by_cases hl:a.length=b.length
 ·have key:A2 (z3g (a,b,())) ((0:Int),())=some (if(List.range a.length).any (fun i=>!decide (a.getD i (0,0,[],())=b.getD i (0,0,[],())))=true then .inl (false,())else .inr (.inl ())):=by
   refine q4r a.length () _ _ _ (fun i hi=>?_) ?_
   ·have hi2:i<b.length:=by omega
    unfold z3g
    rw[List.getD_eq_getElem?_getD,List.getElem?_eq_getElem hi,Option.getD_some,List.getD_eq_getElem?_getD,List.getElem?_eq_getElem hi2,Option.getD_some]
    simp only[dcT (show(i:Int)<(a.length:Int)by omega),cond_true,E9 hi,E9 hi2,Option.bind_some,j7n (hp _ (List.getElem_mem hi)),B7 (show i<9223372036854775807 by omega)]
    cases decide (a[i]=b[i])<;>rfl
   ·unfold z3g
    simp only[dcF (show ¬ (a.length:Int)<(a.length:Int)by omega),cond_false]
  have e:(List.range a.length).any (fun i=>!decide (a.getD i (0,0,[],())=b.getD i (0,0,[],())))=!decide (a=b):=by
   rw[Bool.eq_iff_iff,List.any_eq_true,Bool.not_eq_true',decide_eq_false_iff_not]
   constructor
   ·rintro ⟨i,hi,h⟩ e
    subst e
    simp at h
   ·intro hne
    apply Classical.byContradiction
    intro hc
    refine hne (List.ext_getElem hl fun i h1 h2=>?_)
    apply Classical.byContradiction
    intro h3
    refine hc ⟨i,List.mem_range.2 h1,?_⟩
    rw[List.getD_eq_getElem?_getD,List.getElem?_eq_getElem h1,List.getD_eq_getElem?_getD,List.getElem?_eq_getElem h2]
    simpa using h3
  simp only[L1 (show(a.length:Int)=(b.length:Int)by omega),cond_false,key,e]
  by_cases h:a=b
  ·simp[h]
  ·simp[h]
 ·have:¬ a=b:=fun e=>hl (by rw[e])
  simp only[R4 (show ¬ (a.length:Int)=(b.length:Int)by omega),cond_true,decide_eq_false this]
section
variable {N:List C1} {E:List Edge}
theorem v5q (hN:N.all D8=true) {a:Nat} (ha:a<N.length) (hb:bx (B6 N a)) {l K:List Sm} (hl:∀ r∈l,bx r/\kN r<=oN (B6 N a)) (hK:K.length+l.length<=20000000) (y2:Bool×Int×List (List Sm)×Unit) (hy:y2.2.1=(a:Int)) :
  A2 (q88 ((N,E,()),()) l y2) (K,(0:Int),())=some (.inl (K++l.map (cS (B6 N a)),())):=by
 have key:A2 (q88 ((N,E,()),()) l y2) (K,(0:Int),())=some (.inl (K++(l.take l.length).map (cS (B6 N a)),())):=by
  refine F6 l.length (fun i=>(K++(l.take i).map (cS (B6 N a)),(i:Int),())) _ (fun i hi=>?_) ?_ ?_
  ·have hlen:(K++(l.take i).map (cS (B6 N a))).length<=20000000:=by rw[List.length_append,List.length_map,List.length_take];omega
   rw[List.take_succ_eq_append_getElem hi,List.map_append,<-List.append_assoc]
   generalize K++(l.take i).map (cS (B6 N a))=M at *
   obtain⟨h1,h2⟩:=hl _ (List.getElem_mem hi)
   have hns:q2o (N.getD a v0,())=some (B6 N a,()):=v0p (q3i hN ha)
   unfold q88
   simp only[dcT (show(i:Int)<(l.length:Int)by omega),cond_true,E9 hi,hy,J0 v0 (Int.natCast_nonneg a) (show(a:Int)<(N.length:Int)by omega),Int.toNat_natCast,Option.bind_some,hns,v1a hb h1 h2,N2 (show(0:Int)=0 from rfl),List.length_cons,List.length_nil,G3 (show M.length+(0+1)<=140737488355328 by omega) (show(M.length+(0+1))*40<=140737488355328 by omega),Bool.and_true,B7 (show i<9223372036854775807 by omega)]
   rfl
  ·unfold q88
   simp only[dcF (show ¬ (l.length:Int)<(l.length:Int)by omega),cond_false]
  ·simp
 rw[List.take_length]at key
 exact key
def edT (N:List C1) (Q:Tb) (a b:Nat) (ed:List (Nat×Nat)):List Sm:=ed.flatMap fun e=>if e.1=a then(Q e.2 b).map (cS (B6 N a))else []
theorem z6u {Q:Tb} (hQ:∀ a b,(Q a b).length<=154700) (a b:Nat):∀ ed:List (Nat×Nat),(edT N Q a b ed).length<=ed.length*154700
 | []=>Nat.zero_le _
 | e::ed=>by
  have ih:=z6u hQ a b ed
  unfold edT at ih ⊢
  rw[List.flatMap_cons,List.length_append,List.length_cons,Nat.succ_mul]
  have:=hQ e.2 b
  split
  ·rw[List.length_map];omega
  ·rw[List.length_nil];omega
theorem y5n (g:GR N.length (B5 N) (B6 N) (edN E)) (hN:N.all D8=true) (hE:E.length<=20) (hok:∀ j,j<E.length->F3 N E j=0) {Q:Tb} (hQ:RI N.length (B5 N) (B6 N) (edN E) Q) {a b:Nat} (ha:a<N.length) (hb:b<N.length) (y2 y3:Bool×Int×List (List Sm)×Unit) (hy2:y2.2.1=(a:Int)) (hy3:y3.2.1=(b:Int)) {K:List Sm} (hK:K.length<=1) :
  A2 (q89 ((N,E,()),()) y2 y3 (sq N.length Q,())) (K,(0:Int),())=some (.inl (K++edT N Q a b (edN E),())):=by
 have hlenQ:∀ c d,(Q c d).length<=154700:=fun c d=>q31 (hQ.an c d) (hQ.bx g)
 have hn:=g.n12
 have key:A2 (q89 ((N,E,()),()) y2 y3 (sq N.length Q,())) (K,(0:Int),())=some (.inl (K++edT N Q a b (edN (E.take E.length)),())):=by
  refine F6 E.length (fun i=>(K++edT N Q a b (edN (E.take i)),(i:Int),())) _ (fun i hi=>?_) ?_ ?_
  ·have hl1:=z6u (N:=N) hlenQ a b (edN (E.take i))
   have hl2:(edN (E.take i)).length=i:=by unfold edN;rw[List.length_map,List.length_take];omega
   have hlen:(K++edT N Q a b (edN (E.take i))).length<=4000000:=by rw[List.length_append];omega
   obtain⟨q1,q2,q3,q4,q5⟩:=z6v hok _ (List.getElem_mem hi)
   have hsplit:edT N Q a b (edN (E.take (i+1)))=edT N Q a b (edN (E.take i))++(if E[i].1.toNat=a then(Q E[i].2.1.toNat b).map (cS (B6 N a))else []):=by
    rw[List.take_succ_eq_append_getElem hi]
    unfold edT edN
    rw[List.map_append,List.flatMap_append]
    simp
   rw[hsplit,<-List.append_assoc]
   generalize K++edT N Q a b (edN (E.take i))=M at *
   unfold q89
   simp only[dcT (show(i:Int)<(E.length:Int)by omega),cond_true,E9 hi,Option.bind_some,K2,B7 (show i<9223372036854775807 by omega),hy2,hy3]
   by_cases h:E[i].1=(a:Int)
   ·have h':E[i].1.toNat=a:=by omega
    rw[if_pos h,if_pos h',q3]
    have hx:=hlenQ E[i].2.1.toNat b
    have hcond:∀ r∈Q E[i].2.1.toNat b,bx r/\kN r<=oN (B6 N a):=fun r hr=>by
     refine⟨hQ.bx g r hr,?_⟩
     have h3:=(((hQ.gen _ _ r hr).1).ok g).2.2.k
     have h4:=(g.e a E[i].2.1.toNat (by rw[<-h'];exact List.mem_map.2 ⟨E[i],List.getElem_mem hi,rfl⟩)).2.2
     rw[h4];exact h3
    have ht:=v5q (E:=E) hN ha (g.bxS ha) hcond (K:=M) (by omega) y2 hy2
    simp only[q78 q4 hb (by omega),z4y,q75 q4 hb,cond_true,Int.toNat_natCast,q95 Q q4 hb,Option.bind_some,ht,Sum.elim_inl]
   ·have h':¬ E[i].1.toNat=a:=by omega
    rw[if_neg h,if_neg h',List.append_nil]
  ·unfold q89
   simp only[dcF (show ¬ (E.length:Int)<(E.length:Int)by omega),cond_false]
  ·simp[edT,edN]
 rw[List.take_length]at key
 exact key
def U7 (n:Nat) (T:Tb) (k:Nat):List (List Sm):=tab (n*n) fun p=>if p<k then T (p / n) (p % n)else []
def P6 (n:Nat) (T Q:Tb) (k:Nat):Bool:=(List.range k).all fun p=>decide (T (p / n) (p % n)=Q (p / n) (p % n))
theorem y83 {n a b:Nat} {T:Tb} (ha:a<n) (hb:b<n):(U7 n T (a*n+b)).set (a*n+b) (T a b)=U7 n T (a*n+b+1):=by
 unfold U7
 rw[q1h]
 refine J8 fun p hp=>?_
 by_cases h:p=a*n+b
 ·rw[if_pos h,if_pos (by omega),h,q74 hb,q77 hb]
 ·rw[if_neg h]
  by_cases h2:p<a*n+b
  ·rw[if_pos h2,if_pos (by omega)]
  ·rw[if_neg h2,if_neg (by omega)]
theorem y81 (n:Nat) (T:Tb):U7 n T (n*n)=sq n T:=J8 fun p hp=>if_pos hp
theorem y82 (n:Nat) (T:Tb):List.replicate (n*n) ([]:List Sm)=U7 n T 0:=by
 rw[show List.replicate (n*n) ([]:List Sm)=tab (n*n) fun _=>[]from q3k ..]
 exact J8 fun p hp=>(if_neg (by omega)).symm
theorem v2f {n a b:Nat} (T Q:Tb) (hb:b<n):P6 n T Q (a*n+b+1)=(P6 n T Q (a*n+b)&&decide (T a b=Q a b)):=by
 unfold P6
 rw[List.range_succ,List.all_append]
 simp only[List.all_cons,List.all_nil,Bool.and_true,q74 hb,q77 hb]
theorem sameT_all {n:Nat} {T Q:Tb}:P6 n T Q (n*n)=true↔∀ a b,a<n->b<n->T a b=Q a b:=by
 unfold P6
 rw[List.all_eq_true]
 constructor
 ·intro h a b ha hb
  have:=of_decide_eq_true (h (a*n+b) (List.mem_range.2 (q76 ha hb)))
  rwa [q74 hb,q77 hb]at this
 ·intro h p hp
  have:=z1h (List.mem_range.1 hp)
  exact decide_eq_true (h _ _ this.1 this.2.1)
theorem v1x (g:GR N.length (B5 N) (B6 N) (edN E)) (hN:N.all D8=true) (hE:E.length<=20) (hok:∀ j,j<E.length->F3 N E j=0) {Q:Tb} (hQ:RI N.length (B5 N) (B6 N) (edN E) Q) {a b:Nat} (ha:a<N.length) (hb:b<N.length) (y2:Bool×Int×List (List Sm)×Unit) (hy2:y2.2.1=(a:Int)) :
  q8a ((N,E,()),()) y2 (sq N.length Q,()) (P6 N.length (E0 N.length (B5 N) (B6 N) (edN E) Q) Q (a*N.length+b),(b:Int),U7 N.length (E0 N.length (B5 N) (B6 N) (edN E) Q) (a*N.length+b),()) =
   some (.inl (P6 N.length (E0 N.length (B5 N) (B6 N) (edN E) Q) Q (a*N.length+(b+1)),((b+1:Nat):Int),U7 N.length (E0 N.length (B5 N) (B6 N) (edN E) Q) (a*N.length+(b+1)),())):=by
 have hn:=g.n12
 have hlenQ:∀ c d,(Q c d).length<=154700:=fun c d=>q31 (hQ.an c d) (hQ.bx g)
 have hT:E0 N.length (B5 N) (B6 N) (edN E) Q a b=N7 (q1a (B5 N) (B6 N) (edN E) Q a b):=if_pos ⟨ha,hb⟩
 have hpre:q1a (B5 N) (B6 N) (edN E) Q a b=(if a=b then [idS (B5 N a)]else [])++edT N Q a b (edN E):=rfl
 have hnext:=hQ.next g
 have hl1:=z6u (N:=N) hlenQ a b (edN E)
 have hl2:(edN E).length=E.length:=List.length_map ..
 have hprel:(q1a (B5 N) (B6 N) (edN E) Q a b).length<=10000000:=by
  rw[hpre,List.length_append]
  have:(if a=b then [idS (B5 N a)]else []).length<=1:=by split<;>simp
  omega
 have hpok:∀ s∈q1a (B5 N) (B6 N) (edN E) Q a b,okS s/\q0f s=((B5 N b:Nat):Int):=fun s hs=>by
  rcases mem_pre.1 hs with⟨h1,rfl⟩ | ⟨c,r,he,hr,rfl⟩
  ·subst h1
   have hw:=q1r (g.d1 a ha).1
   refine⟨j71 hw (by rw[q4w];exact(g.d1 a ha).2) fun i=>by rw[q3j];omega,by rw[j76 hw,q4w]⟩
  ·have hbr:=hQ.bx g r hr
   have hsr:=((hQ.gen c b r hr).1.ok g).2.2
   exact⟨v04 (g.bxS ha) hbr,by rw[j76 (T1 (g.bxS ha).wf hbr.wf),J3,hsr.o]⟩
 have hF:=v0v hprel (fun s hs=>(hpok s hs).1) fun s hs r hr=>by rw[(hpok s hs).2,(hpok r hr).2]
 rw[<-hT]at hF
 have hTb:∀ x∈E0 N.length (B5 N) (B6 N) (edN E) Q a b,bx x:=hnext.bx g
 have hTl:=q31 (hnext.an a b) hTb
 have hsame:=v5k (a:=E0 N.length (B5 N) (B6 N) (edN E) Q a b) (b:=Q a b) (by omega) fun s hs=>by have:=q4z (hTb s hs).ok;omega
 have hset:=y83 (T:=E0 N.length (B5 N) (B6 N) (edN E) Q) ha hb
 have hss:=v2f (E0 N.length (B5 N) (B6 N) (edN E) Q) Q (a:=a) hb
 have hmk:∀ R:List (List Sm),R.length=N.length*N.length->(inB ((a*N.length+b:Nat):Int) R.length=true)/\∃ v,R[a*N.length+b]? = some v:=fun R hR=>by
  refine⟨by rw[hR];exact q75 ha hb,?_⟩
  have:=q76 ha hb
  exact⟨_,List.getElem?_eq_getElem (by omega)⟩
 generalize hRdef:U7 N.length (E0 N.length (B5 N) (B6 N) (edN E) Q) (a*N.length+b)=R at *
 have hRl:R.length=N.length*N.length:=by rw[<-hRdef];exact T0 ..
 obtain⟨hRin,v,hRv⟩:=hmk R hRl
 have hinit:(((cond ((a:Int)==(b:Int)) ((A7 N (a:Int)).bind fun v4=>(cond (B2 ([(v4.2.1,(0:Int),([]:(List Int)),())]).length 40&&true&&true) (some (Sum.inl ([(v4.2.1,(0:Int),([]:(List Int)),())],()))) none)) (some (Sum.inl (([]:(List (Int×(Int×((List Int)×Unit))))),())))):Option ((List Sm×Unit)⊕Empty)))=some (.inl ((if a=b then [idS (B5 N a)]else []),())):=by
  by_cases h:a=b
  ·rw[N2 (show(a:Int)=(b:Int)by omega),if_pos h,cond_true,J0 v0 (Int.natCast_nonneg a) (show(a:Int)<(N.length:Int)by omega),Int.toNat_natCast,Option.bind_some,z6t hN ha]
   rfl
  ·rw[q03 (show ¬ (a:Int)=(b:Int)by omega),if_neg h]
   rfl
 have hel:=fun y3 hy3=>y5n g hN hE hok hQ ha hb y2 y3 hy2 hy3 (K:=if a=b then [idS (B5 N a)]else []) (by split<;>simp)
 unfold q8a
 simp only[dcT (show(b:Int)<(N.length:Int)by omega),cond_true,hy2]
 have hinit':=hinit
 rw[hinit']
 simp only[Option.bind_some,Sum.elim_inl]
 rw[hel _ rfl]
 simp only[Option.bind_some,Sum.elim_inl,<-hpre,hF,q78 ha hb (show N.length<=16 by omega),hRin,cond_true,Int.toNat_natCast,hRv,z4y,q75 ha hb,q95 Q ha hb,hsame,B7 (show b<9223372036854775807 by omega),hset]
 rw[show a*N.length+(b+1)=a*N.length+b+1 from rfl,hss]
 cases decide (E0 N.length (B5 N) (B6 N) (edN E) Q a b=Q a b)with
 | true=>simp
 | false=>simp
theorem j7z (g:GR N.length (B5 N) (B6 N) (edN E)) (hN:N.all D8=true) (hE:E.length<=20) (hok:∀ j,j<E.length->F3 N E j=0) {Q:Tb} (hQ:RI N.length (B5 N) (B6 N) (edN E) Q) :
  A2 (z3d ((N,E,()),()) (sq N.length Q,())) (true,(0:Int),List.replicate (N.length*N.length) ([]:List Sm),())=some (.inl (P6 N.length (E0 N.length (B5 N) (B6 N) (edN E) Q) Q (N.length*N.length),sq N.length (E0 N.length (B5 N) (B6 N) (edN E) Q),())):=by
 have hn:=g.n12
 rw[<-y81 N.length (E0 N.length (B5 N) (B6 N) (edN E) Q)]
 refine F6 N.length (fun a=>(P6 N.length (E0 N.length (B5 N) (B6 N) (edN E) Q) Q (a*N.length),(a:Int),U7 N.length (E0 N.length (B5 N) (B6 N) (edN E) Q) (a*N.length),())) _ (fun a ha=>?_) ?_ ?_
 ·unfold z3d
  have hrow:∀ y2:Bool×Int×List (List Sm)×Unit,y2.2.1=(a:Int)->A2 (q8a ((N,E,()),()) y2 (sq N.length Q,())) (P6 N.length (E0 N.length (B5 N) (B6 N) (edN E) Q) Q (a*N.length),(0:Int),U7 N.length (E0 N.length (B5 N) (B6 N) (edN E) Q) (a*N.length),())=some (.inl (P6 N.length (E0 N.length (B5 N) (B6 N) (edN E) Q) Q ((a+1)*N.length),U7 N.length (E0 N.length (B5 N) (B6 N) (edN E) Q) ((a+1)*N.length),())):=fun y2 hy2=>by
   refine F6 N.length (fun b=>(P6 N.length (E0 N.length (B5 N) (B6 N) (edN E) Q) Q (a*N.length+b),(b:Int),U7 N.length (E0 N.length (B5 N) (B6 N) (edN E) Q) (a*N.length+b),())) _ (fun b hb=>v1x g hN hE hok hQ ha hb y2 hy2) ?_ rfl
   unfold q8a
   simp only[dcF (show ¬ (N.length:Int)<(N.length:Int)by omega),cond_false,Nat.succ_mul]
  simp only[dcT (show(a:Int)<(N.length:Int)by omega),cond_true]
  rw[hrow _ rfl]
  simp only[Option.bind_some,Sum.elim_inl,B7 (show a<9223372036854775807 by omega)]
 ·unfold z3d
  simp only[dcF (show ¬ (N.length:Int)<(N.length:Int)by omega),cond_false]
 ·rw[y82 N.length (E0 N.length (B5 N) (B6 N) (edN E) Q)]
  simp only[Nat.zero_mul]
  rfl
theorem v1w (g:GR N.length (B5 N) (B6 N) (edN E)) (hN:N.all D8=true) (hE:E.length<=20) (hok:∀ j,j<E.length->F3 N E j=0):∀ (m:Nat) (Q:Tb),RI N.length (B5 N) (B6 N) (edN E) Q->22276800-q0x N.length Q<=m ->
  ∃ Q':Tb,QF N.length (B5 N) (B6 N) (edN E) Q'/\A2 (q8b ((N,E,()),())) (sq N.length Q,())=some (.inl (sq N.length Q',())):=by
 intro m
 induction m with
 | zero =>
  intro Q hQ hm
  have hg:=hQ.grow g
  have hle:=j34 N.length (E0 N.length (B5 N) (B6 N) (edN E) Q) g.n12
  have hf:∀ a b,a<N.length->b<N.length->E0 N.length (B5 N) (B6 N) (edN E) Q a b=Q a b:=Classical.byContradiction fun hc=>by have:=hg hc;omega
  have hn:=g.n12
  have hsq:=q5k (n:=N.length) (by omega)
  refine⟨Q,hQ.fixed g hf,D6 ?_⟩
  unfold q8b
  simp only[q96 (n:=N.length) (by omega),dcT (show(0:Int)<=((N.length*N.length:Nat):Int)by omega),dcT (show((N.length*N.length:Nat):Int)<=((N.length*N.length:Nat):Int)by omega),Int.toNat_natCast,G3 (show N.length*N.length<=140737488355328 by omega) (show N.length*N.length*24<=140737488355328 by omega),dcT (show((N.length*N.length:Nat):Int)<=9223372036854775807 by omega),Bool.and_self,cond_true,j7z g hN hE hok hQ,Option.bind_some,Sum.elim_inl,sameT_all.2 hf,z4x hf]
 | succ m ih =>
  intro Q hQ hm
  have hn:=g.n12
  have hsq:=q5k (n:=N.length) (by omega)
  have hstep:q8b ((N,E,()),()) (sq N.length Q,())=some (cond (P6 N.length (E0 N.length (B5 N) (B6 N) (edN E) Q) Q (N.length*N.length)) (.inr (.inl (sq N.length (E0 N.length (B5 N) (B6 N) (edN E) Q),()))) (.inl (sq N.length (E0 N.length (B5 N) (B6 N) (edN E) Q),()))):=by
   unfold q8b
   simp only[q96 (n:=N.length) (by omega),dcT (show(0:Int)<=((N.length*N.length:Nat):Int)by omega),dcT (show((N.length*N.length:Nat):Int)<=((N.length*N.length:Nat):Int)by omega),Int.toNat_natCast,G3 (show N.length*N.length<=140737488355328 by omega) (show N.length*N.length*24<=140737488355328 by omega),dcT (show((N.length*N.length:Nat):Int)<=9223372036854775807 by omega),Bool.and_self,cond_true,j7z g hN hE hok hQ,Option.bind_some,Sum.elim_inl]
   cases P6 N.length (E0 N.length (B5 N) (B6 N) (edN E) Q) Q (N.length*N.length)<;>rfl
  cases hs:P6 N.length (E0 N.length (B5 N) (B6 N) (edN E) Q) Q (N.length*N.length)with
  | true =>
   have hf:=sameT_all.1 hs
   rw[hs]at hstep
   exact⟨Q,hQ.fixed g hf,by rw[D6 hstep,z4x hf]⟩
  | false =>
   rw[hs]at hstep
   rw[H9 hstep]
   have hg:=hQ.grow g fun hc=>by rw[sameT_all.2 hc]at hs;cases hs
   exact ih _ (hQ.next g) (by omega)
theorem v0r (h0:(O6 N E).1=0):∃ Q:Tb,QF N.length (B5 N) (B6 N) (edN E) Q/\q87 ((N,E,()),())=some (sq N.length Q,()):=by
 obtain⟨e0,hn,hE,hN,hok,-⟩:=z1e h0
 have g:=z0x hn hN hok
 obtain⟨Q,hQ,hrun⟩:=v1w g hN hE hok 22276800 (fun _ _=>[]) (RI.start g) (by omega)
 refine⟨Q,hQ,?_⟩
 have hsq:=q5k (n:=N.length) (by omega)
 unfold q87
 simp only[q96 (n:=N.length) (by omega),dcT (show(0:Int)<=((N.length*N.length:Nat):Int)by omega),dcT (show((N.length*N.length:Nat):Int)<=((N.length*N.length:Nat):Int)by omega),Int.toNat_natCast,G3 (show N.length*N.length<=140737488355328 by omega) (show N.length*N.length*24<=140737488355328 by omega),dcT (show((N.length*N.length:Nat):Int)<=9223372036854775807 by omega),Bool.and_self,cond_true,j7u,hrun,Option.bind_some,Sum.elim_inl]
theorem v2g (h0:(O6 N E).1=0):∃ P:Tb,(∀ u v,∀ x∈P u v,bx x)/\PF N.length (B5 N) (B6 N) (edN E) P/\QF N.length (B5 N) (B6 N) (edN E) P/\q87 ((N,E,()),())=some (sq N.length P,())/\∃ J:List JbI,A2 (q97 N) (([]:List JbI),(0:Int),())=some (.inl (J,()))/\A2 (q5m N E) (J,List.replicate (N.length*N.length) ([]:List Sm),())=some (.inl (sq N.length P,())):=by
 obtain⟨P,hP,hb,h1⟩:=v2h h0
 obtain⟨Q,hQ,h2⟩:=v0r h0
 obtain⟨e0,hn,hE,hN,hok,-⟩:=z1e h0
 have g:=z0x hn hN hok
 have:P=Q:=funext fun u=>funext fun v=>y1j g hP hQ u v
 subst this
 exact⟨P,hb,hP,hQ,h2,h1⟩
end
end

section
open Go Go.Abs

theorem v4n (l:List Int) (h:l.length<=1000000):R1 (l,())=some (l,()):=by
 unfold R1
 have hr:B2 (([]:List Int).length+l.length) 8=true:=q0l (by simpa using h)
 rw[hr];rfl
def app (n:Nat) (d:Int) (l t:List Int):List Int×Int :=
 if t.getD (n-1) 0+d>1048576 then([],6)else((t.take n++l).set (n-1) (t.getD (n-1) 0+d),0)
theorem v5f (n d:Int) (l t:List Int):q5p ((n,d,l,()),t,()) =
  some (if chk t≠0 then([],chk t,())else if sck n d l t.length≠0 then([],sck n d l t.length,())else((app n.toNat d l t).1,(app n.toNat d l t).2,())):=by
 unfold q5p
 simp only[y0e,j0u,Option.bind_some,K2]
 by_cases h1:chk t=0
 ·by_cases h2:sck n d l t.length=0
  ·obtain⟨t1,t2,t3⟩:=W3 h1
   obtain⟨s1,s2,s3,s4,s5,s6⟩:=N9 h2
   simp only[h1,h2,ne_eq,not_true_eq_false,if_false,if_true]
   have hc:(decide (0<=(0:Int))&&decide ((0:Int)<=n)&&decide (n<=(t.length:Int)))=true:=by simp;omega
   have htk:(t.drop (0:Int).toNat).take (n.toNat-(0:Int).toNat)=t.take n.toNat:=by simp
   have hlen:(t.take n.toNat).length=n.toNat:=by rw[List.length_take];omega
   rw[hc,cond_true,htk,v4n _ (by omega),Option.bind_some]
   have hr:B2 ((t.take n.toNat).length+l.length) 8=true:=q0l (by omega)
   have hw:IntKind.i64.wrap (n-1)=n-1:=E7 (by omega) (by omega)
   have hl:(t.take n.toNat++l).length=n.toNat+l.length:=by simp[hlen]
   have hib:inB (n-1) (t.take n.toNat++l).length=true:=by simp only[inB,hl,Bool.and_eq_true,decide_eq_true_eq];omega
   have hnat:(n-1).toNat=n.toNat-1:=by omega
   have hlt:n.toNat-1<t.length:=by omega
   have hg:(t.take n.toNat++l)[n.toNat-1]? = some t[n.toNat-1]:=by
    rw[List.getElem?_append_left (by omega),List.getElem?_take_of_lt (by omega),List.getElem?_eq_getElem hlt]
   have hgd:t.getD (n.toNat-1) 0=t[n.toNat-1]:=by rw[List.getD_eq_getElem?_getD,List.getElem?_eq_getElem hlt];rfl
   have ht:=t3 _ _ (List.getElem?_eq_getElem hlt)
   have hw2:IntKind.i64.wrap (t[n.toNat-1]+d)=t[n.toNat-1]+d:=E7 (by omega) (by omega)
   simp only[hr,Bool.and_true,cond_true,hw,hib,hnat,hg,Option.bind_some,hw2]
   have hib2:inB (n-1) ((t.take n.toNat++l).set (n.toNat-1) (t[n.toNat-1]+d)).length=true:=by rw[List.length_set];exact hib
   have hg2:((t.take n.toNat++l).set (n.toNat-1) (t[n.toNat-1]+d))[n.toNat-1]? = some (t[n.toNat-1]+d):=by
    rw[List.getElem?_set_self (by omega)]
   simp only[hib2,cond_true,hg2,Option.bind_some,j0v,Bool.not_not]
   unfold app
   rw[hgd]
   by_cases hb:t[n.toNat-1]+d>1048576
   ·have:bad (t[n.toNat-1]+d)=true:=by unfold bad;simp[hb]
    rw[this,if_pos hb];rfl
   ·have:bad (t[n.toNat-1]+d)=false:=by unfold bad;simp;omega
    rw[this,if_neg hb];rfl
  ·simp[h1,h2]
 ·simp[h1]
theorem v0y (n d:Int) (l:List Int) (hn:1<=n) (hn4:n<=4) (i:Nat) (hi:(i:Int)<n+l.length) (hl:l.length<=4) :
  X8 ((n,d,l,()),(i:Int),())=some (if(i:Int)≥n then l.getD (i-n.toNat) 0 else if(i:Int)=n-1 then d else 0,()):=by
 unfold X8
 simp only[q0y,R5]
 rw[E7 (by omega) (by omega),E7 (by omega) (by omega)]
 by_cases h1:(i:Int)≥n
 ·rw[if_pos h1,if_pos h1]
  have:(i:Int)-n=((i-n.toNat:Nat):Int):=by omega
  have hlt:i-n.toNat<l.length:=by omega
  rw[this,U2,List.getElem?_eq_getElem hlt,List.getD_eq_getElem?_getD,List.getElem?_eq_getElem hlt]
  rfl
 ·rw[if_neg h1,if_neg h1]
  split<;>rfl
theorem v0t (n d:Int) (l t:List Int):q8c ((n,d,l,()),t,()) =
  some (if chk t≠0 then([],chk t,())else if sck n d l t.length≠0 then([],sck n d l t.length,())else((app n.toNat d l t).1,(app n.toNat d l t).2,())):=by
 unfold q8c
 simp only[z3n,z9s,Option.bind_some,K2]
 by_cases h1:chk t=0
 ·by_cases h2:sck n d l t.length=0
  ·obtain⟨t1,t2,t3⟩:=W3 h1
   obtain⟨s1,s2,s3,s4,s5,s6⟩:=N9 h2
   simp only[h1,h2,ne_eq,not_true_eq_false,if_false,if_true]
   have hout:P4 ((n,d,l,()),())=some (n+l.length,()):=by
    unfold P4
    simp only
    rw[E7 (by omega) (by omega)]
   let val:Nat->Int:=fun i=>if(i:Int)≥n then l.getD (i-n.toNat) 0 else(if(i:Int)=n-1 then d else 0)+t.getD i 0
   have hstep:∀ (i:Nat),i<n.toNat+l.length->q55 ((n,d,l,()),t,()) ((List.range i).map val,(i:Int),())=some (if val i>1048576 then .inr (.inl ([],6,()))else .inl ((List.range (i+1)).map val,((i+1:Nat):Int),())):=by
    intro i hi
    unfold q55
    have hlt:((i:Int)<n+l.length):=by omega
    have hr:B2 (i+1) 8=true:=q0l (by omega)
    have hlen:((List.range i).map val).length=i:=by simp
    have hsucc:(List.range (i+1)).map val=(List.range i).map val++[val i]:=by rw[List.range_succ];simp
    simp only[hout,Option.bind_some,hlt,decide_true,cond_true,v0y n d l s1 (by omega) i hlt (by omega),hlen,List.length_singleton,hr,Bool.and_true]
    rw[E7 (x:=(i:Int)+1) (by omega) (by omega),hsucc]
    by_cases hn:(i:Int)<n
    ·have hge:¬ ((i:Int)≥n):=by omega
     have hit:i<t.length:=by omega
     have hti:=t3 _ _ (List.getElem?_eq_getElem hit)
     have hv:val i=(if(i:Int)=n-1 then d else 0)+t[i]:=by
      show(if(i:Int)≥n then _ else _)=_
      rw[if_neg hge,List.getD_eq_getElem?_getD,List.getElem?_eq_getElem hit];rfl
     have hw:IntKind.i64.wrap ((if(i:Int)=n-1 then d else 0)+t[i])=val i:=by
      rw[hv];split<;>exact E7 (by omega) (by omega)
     simp only[hn,decide_true,cond_true,U2,List.getElem?_eq_getElem hit,Option.bind_some,if_neg hge,hw,q0y]
     split<;>rfl
    ·have hge:(i:Int)≥n:=by omega
     have hv:val i=l.getD (i-n.toNat) 0:=by
      show(if(i:Int)≥n then _ else _)=_
      rw[if_pos hge]
     simp only[hn,decide_false,cond_false,if_pos hge,<-hv,q0y]
     split<;>rfl
   have hvn:val (n.toNat-1)=d+t.getD (n.toNat-1) 0:=by
    show(if((n.toNat-1:Nat):Int)≥n then _ else _)=_
    rw[if_neg (by omega),if_pos (by omega)]
   have hle:∀ i,i<n.toNat+l.length->i≠n.toNat-1->¬ val i>1048576:=by
    intro i hi hne
    show ¬ ((if(i:Int)≥n then _ else _):Int)>1048576
    by_cases hge:(i:Int)≥n
    ·rw[if_pos hge]
     have hlt:i-n.toNat<l.length:=by omega
     have:=s6 _ _ (List.getElem?_eq_getElem hlt)
     rw[List.getD_eq_getElem?_getD,List.getElem?_eq_getElem hlt]
     simp only[Option.getD_some];omega
    ·rw[if_neg hge,if_neg (by omega)]
     have hit:i<t.length:=by omega
     have:=t3 _ _ (List.getElem?_eq_getElem hit)
     rw[List.getD_eq_getElem?_getD,List.getElem?_eq_getElem hit]
     simp only[Option.getD_some];omega
   have hlt:n.toNat-1<t.length:=by omega
   unfold app
   by_cases hb:t.getD (n.toNat-1) 0+d>1048576
   ·rw[if_pos hb]
    have key:=j5t (f:=q55 ((n,d,l,()),t,())) (n.toNat-1) (fun i=>(List.range i).map val) (.inl ([],6,()))
     (fun i hi=>by rw[hstep i (by omega),if_neg (hle i (by omega) (by omega))]) (by rw[hstep _ (by omega),if_pos (by rw[hvn];omega)])
    simp only[List.range_zero,List.map_nil]at key
    rw[key];rfl
   ·rw[if_neg hb]
    have key:=j5t (f:=q55 ((n,d,l,()),t,()))
     (n.toNat+l.length) (fun i=>(List.range i).map val) (.inr (.inl ((List.range (n.toNat+l.length)).map val,())))
     (fun i hi=>by
      rw[hstep i hi]
      by_cases hne:i=n.toNat-1
      ·rw[if_neg (by rw[hne,hvn];omega)]
      ·rw[if_neg (hle i hi hne)]) (by
      have hge:¬ (((n.toNat+l.length:Nat):Int)<n+l.length):=by omega
      unfold q55
      simp only[hout,Option.bind_some,hge,decide_false,cond_false])
    simp only[List.range_zero,List.map_nil]at key
    rw[key]
    have heq:(List.range (n.toNat+l.length)).map val=(t.take n.toNat++l).set (n.toNat-1) (t.getD (n.toNat-1) 0+d):=by
     have hlen:(t.take n.toNat).length=n.toNat:=by rw[List.length_take];omega
     apply List.ext_getElem?
     intro i
     by_cases hi:i<n.toNat+l.length
     ·rw[List.getElem?_map,List.getElem?_range hi]
      show some (val i)=_
      by_cases hne:i=n.toNat-1
      ·rw[hne,List.getElem?_set_self (by simp[hlen];omega),hvn,Int.add_comm]
      ·rw[List.getElem?_set_ne (Ne.symm hne)]
       by_cases hge:(i:Int)≥n
       ·have hlt2:i-n.toNat<l.length:=by omega
        rw[List.getElem?_append_right (by omega),hlen,List.getElem?_eq_getElem hlt2]
        show some (if(i:Int)≥n then _ else _)=_
        rw[if_pos hge,List.getD_eq_getElem?_getD,List.getElem?_eq_getElem hlt2];rfl
       ·have hit:i<t.length:=by omega
        rw[List.getElem?_append_left (by omega),List.getElem?_take_of_lt (by omega),List.getElem?_eq_getElem hit]
        show some (if(i:Int)≥n then _ else _)=_
        rw[if_neg hge,if_neg (by omega),List.getD_eq_getElem?_getD,List.getElem?_eq_getElem hit]
        simp
     ·rw[List.getElem?_eq_none (by simp;omega),List.getElem?_eq_none (by simp[hlen];omega)]
    rw[heq];rfl
  ·simp[h1,h2]
 ·simp[h1]
end

end Go.Proofs.Tryz
