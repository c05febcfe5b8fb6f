/- The engine, part 29: sums of whole numbers, wrapped and not; a table into which a word's bits are put. -/
import Derived.Test.YtecofmaegcibeaaGreatDoorAbsStd
namespace Go.Abs
open Go
theorem k53 {k:IntKind} {x y:Int} (h:x % (2^k.bits:Int)=y % (2^k.bits:Int)):k.wrap x=k.wrap y:=by
 unfold IntKind.wrap;rw[h]
theorem v7n (k:IntKind) (x:Int):k.wrap x % (2^k.bits:Int)=x % (2^k.bits:Int):=by
 unfold IntKind.wrap
 dsimp only
 split
 ·rw[Int.sub_emod,Int.emod_self,fr,Int.sub_zero,fr]
 ·rw[fr]
theorem y8t (k:IntKind) (x y:Int):k.wrap (k.wrap x+y)=k.wrap (x+y):=k53 (by rw[Int.add_emod,v7n,<-Int.add_emod])
def O1 {U β:Type} (o:Option U) (e:β):U⊕β:=o.elim (.inr e) .inl
def y7k {σ U β:Type} (o:Option U) (s:σ):σ⊕(U⊕β):=o.elim (.inl s) λu=>.inr (.inl u)
theorem q0c {U β:Type} (e:β):O1 (none:Option U) e=.inr e:=rfl
theorem z4e {U β:Type} (u:U) (e:β):O1 (some u) e=.inl u:=rfl
theorem P5 {σ U β:Type} {f:σ->Option (σ⊕(U⊕β))} (n:Nat) (s:Nat->σ) (g:Nat->Option U) (e:β)
  (h:∀i:Nat,i<n->f (s i)=some (y7k (g i) (s (i+1)))) (hend:f (s n)=some (.inr (.inr e))) {s0:σ} (h0:s 0=s0) :
  A1 f s0=some (O1 ((List.range n).findSome? g) e):=by
 subst h0;rw[v6v (f:=f) n s (λi=>(g i).map .inl) (.inr e) (λi hi=>by rw[h i hi];cases g i<;>rfl) hend];have:(List.range n).findSome? (λi=>(g i).map (Sum.inl (β:=β)))=((List.range n).findSome? g).map .inl:=by
  generalize List.range n=l
  induction l with
  | nil=>rfl
  | cons a l ih=>rw[bM,bM,ih];cases g a<;>rfl
 rw[this];cases(List.range n).findSome? g<;>rfl
def I1:Nat->(Nat->Bool)->Nat
 | 0,_=>0
 | n+1,p=>I1 n p+cond (p n) 1 0
theorem j86 {p q:Nat->Bool}:∀{n:Nat},(∀i,i<n->p i=q i)->I1 n p=I1 n q
 | 0,_=>rfl
 | n+1,h=>by rw[I1,I1,j86 (n:=n) (λi hi=>h i (by omega)),h n (by omega)]
theorem j0l (p:Nat->Bool):∀(n:Nat),I1 n p<=n
 | 0=>ax 0
 | n+1=>by
  have:=j0l p n;rw[I1];cases p n<;>simp<;>omega
end Go.Abs
