/- The engine, part 24: laws of loops, for the plain laws. -/
import Derived.Test.YtppblbacbmebfaaGreatDoorAbsLaw
import Derived.IntWalk
namespace Go.Abs
open Go
theorem K2 {σ β:Type} {f:σ->Option (σ⊕β)} {s s':σ} (h:f s=some (.inl s')):A4 f s=A4 f s':=by rw[j6d,h];rfl
theorem H1 {σ β:Type} {f:σ->Option (σ⊕β)} {s:σ} {b:β} (h:f s=some (.inr b)):A4 f s=some b:=by rw[j6d,h];rfl
theorem M0 {x:Int} (h1:-9223372036854775808<=x) (h2:x<=9223372036854775807):IntKind.i64.wrap x=x:=by
 exact IntWalk.i64_in x ⟨h1,h2⟩
theorem V1 {α:Type} (x y:Int) (p q:α):cond (x != y) p q=if x=y then q else p:=by
 by_cases h:x=y
 ·simp[h]
 ·have:(x != y)=true:=by simpa using h
  simp[h,this]
theorem R1 {α:Type} (x y:Int) (p q:α):cond (x==y) p q=if x=y then p else q:=by
 by_cases h:x=y
 ·simp[h]
 ·have:(x==y)=false:=by simpa using h
  simp[h,this]
theorem z6g {α:Type} (c:Prop) [Decidable c] (p q:α):cond (decide c) p q=if c then p else q:=by
 by_cases h:c<;>simp[h]
theorem J5 {α:Type} (l:List α) (i:Nat):A7 l (i:Int)=l[i]?:=by
 simp[A7]
theorem y81 {β:Type} {f:Int×Unit->Option ((Int×Unit)⊕β)} (n:Nat) (g:Nat->Option β) (e:β) (h:∀ i:Nat,i<n->f ((i:Int),())=some (match g i with
  | some b=>.inr b
  | none=>.inl (((i+1:Nat):Int),()))) (hend:f ((n:Int),())=some (.inr e)):A4 f (0,())=some (((List.range n).findSome? g).getD e):=by
 have key:∀ k i,i+k=n->A4 f ((i:Int),())=some (((List.range' i k).findSome? g).getD e):=by
  intro k
  induction k with
  | zero =>
   intro i hi;have:i=n:=by omega
   subst this;exact H1 hend
  | succ k ih =>
   intro i hi
   have hs:=h i (by omega)
   rw[List.range'_succ,List.findSome?_cons]
   cases hg:g i with
   | some b=>rw[hg]at hs;exact H1 hs
   | none=>rw[hg]at hs;rw[K2 hs];exact ih (i+1) (by omega)
 have:=key n 0 (by omega)
 rw[List.range_eq_range']
 exact this
theorem z2a {α β:Type} {f:Int×α×Unit->Option ((Int×α×Unit)⊕β)} (n:Nat) (s:Nat->α) (e:β) (h:∀ i:Nat,i<n->f ((i:Int),s i,())=some (.inl (((i+1:Nat):Int),s (i+1),())))
  (hend:f ((n:Int),s n,())=some (.inr e)):A4 f (0,s 0,())=some e:=by
 have key:∀ k i,i+k=n->A4 f ((i:Int),s i,())=some e:=by
  intro k
  induction k with
  | zero =>
   intro i hi;have:i=n:=by omega
   subst this;exact H1 hend
  | succ k ih=>intro i hi;rw[K2 (h i (by omega))];exact ih (i+1) (by omega)
 exact key n 0 (by omega)
theorem q3s {α β:Type} {f:α×Int×Unit->Option ((α×Int×Unit)⊕β)} (n:Nat) (s:Nat->α) (e:β) (h:∀ i:Nat,i<n->f (s i,(i:Int),())=some (.inl (s (i+1),((i+1:Nat):Int),())))
  (hend:f (s n,(n:Int),())=some (.inr e)):A4 f (s 0,0,())=some e:=by
 have key:∀ k i,i+k=n->A4 f (s i,(i:Int),())=some e:=by
  intro k
  induction k with
  | zero =>
   intro i hi;have:i=n:=by omega
   subst this;exact H1 hend
  | succ k ih=>intro i hi;rw[K2 (h i (by omega))];exact ih (i+1) (by omega)
 exact key n 0 (by omega)
theorem q5w {n:Nat} (h:n<=1000000):C2 n 8=true:=by
 unfold C2
 rw[Bool.and_eq_true]
 exact⟨Nat.ble_eq_true_of_le (by omega),Nat.ble_eq_true_of_le (by omega)⟩
end Go.Abs
