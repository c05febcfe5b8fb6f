/- The engine, part 29: sums of whole numbers, wrapped and not; a table into which a word's bits are put. -/
import Derived.Test.YteeaadgpkammdaaGreatDoorAbsStd
namespace Go.Abs
open Go
def Q0 {U β:Type} (o:Option U) (e:β):U⊕β:=o.elim (.inr e) .inl
def j9z {σ U β:Type} (o:Option U) (s:σ):σ⊕(U⊕β):=o.elim (.inl s) fun u=>.inr (.inl u)
theorem q4f {U β:Type} (e:β):Q0 (none:Option U) e=.inr e:=rfl
theorem j43 {U β:Type} (u:U) (e:β):Q0 (some u) e=.inl u:=rfl
theorem U6 {σ U β:Type} {f:σ->Option (σ⊕(U⊕β))} (n:Nat) (s:Nat->σ) (g:Nat->Option U) (e:β)
  (h:∀ i:Nat,i<n->f (s i)=some (j9z (g i) (s (i+1)))) (hend:f (s n)=some (.inr (.inr e))) {s0:σ} (h0:s 0=s0) :
  A2 f s0=some (Q0 ((List.range n).findSome? g) e):=by
 subst h0
 rw[y7x (f:=f) n s (fun i=>(g i).map .inl) (.inr e) (fun i hi=>by rw[h i hi];cases g i<;>rfl) hend]
 have:(List.range n).findSome? (fun i=>(g i).map (Sum.inl (β:=β)))=((List.range n).findSome? g).map .inl:=by
  generalize List.range n=l
  induction l with
  | nil=>rfl
  | cons a l ih=>rw[List.findSome?_cons,List.findSome?_cons,ih];cases g a<;>rfl
 rw[this]
 cases(List.range n).findSome? g<;>rfl
def H3:Nat->(Nat->Bool)->Nat
 | 0,_=>0
 | n+1,p=>H3 n p+cond (p n) 1 0
theorem j30 {p q:Nat->Bool}:∀ {n:Nat},(∀ i,i<n->p i=q i)->H3 n p=H3 n q
 | 0,_=>rfl
 | n+1,h=>by rw[H3,H3,j30 (n:=n) (fun i hi=>h i (by omega)),h n (by omega)]
theorem z6q (p:Nat->Bool):∀ (n:Nat),H3 n p<=n
 | 0=>Nat.le_refl 0
 | n+1=>by
  have:=z6q p n
  rw[H3];cases p n<;>simp<;>omega
end Go.Abs
