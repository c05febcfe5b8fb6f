/- The engine, part 29: sums of whole numbers, wrapped and not; a table into which a word's bits are put. -/
import Derived.Test.YtppblbacbmebfaaGreatDoorAbsStd
namespace Go.Abs
open Go
def J4 {U β:Type} (o:Option U) (e:β):U⊕β:=o.elim (.inr e) .inl
def L8 {σ U β:Type} (o:Option U) (s:σ):σ⊕(U⊕β):=o.elim (.inl s) fun u=>.inr (.inl u)
theorem T3 {U β:Type} (e:β):J4 (none:Option U) e=.inr e:=rfl
theorem q1g {U β:Type} (u:U) (e:β):J4 (some u) e=.inl u:=rfl
theorem L3 {σ U β:Type} {f:σ->Option (σ⊕(U⊕β))} (n:Nat) (s:Nat->σ) (g:Nat->Option U) (e:β)
  (h:∀ i:Nat,i<n->f (s i)=some (L8 (g i) (s (i+1)))) (hend:f (s n)=some (.inr (.inr e))) {s0:σ} (h0:s 0=s0) :
  A4 f s0=some (J4 ((List.range n).findSome? g) e):=by
 subst h0
 rw[y84 (f:=f) n s (fun i=>(g i).map .inl) (.inr e) (fun i hi=>by rw[h i hi];cases g i<;>rfl) hend]
 have:(List.range n).findSome? (fun i=>(g i).map (Sum.inl (β:=β)))=((List.range n).findSome? g).map .inl:=by
  generalize List.range n=l
  induction l with
  | nil=>rfl
  | cons a l ih=>rw[List.findSome?_cons,List.findSome?_cons,ih];cases g a<;>rfl
 rw[this]
 cases(List.range n).findSome? g<;>rfl
def H0:Nat->(Nat->Bool)->Nat
 | 0,_=>0
 | n+1,p=>H0 n p+cond (p n) 1 0
theorem z6c {p q:Nat->Bool}:∀ {n:Nat},(∀ i,i<n->p i=q i)->H0 n p=H0 n q
 | 0,_=>rfl
 | n+1,h=>by rw[H0,H0,z6c (n:=n) (fun i hi=>h i (by omega)),h n (by omega)]
theorem z0d (p:Nat->Bool):∀ (n:Nat),H0 n p<=n
 | 0=>Nat.le_refl 0
 | n+1=>by
  have:=z0d p n
  rw[H0];cases p n<;>simp<;>omega
theorem j3q:∀ (n:Nat),H0 n (fun _=>false)=0
 | 0=>rfl
 | n+1=>by rw[H0,j3q n];rfl
end Go.Abs
