/- The engine, part 24: laws of loops, for the plain laws. -/
import Derived.Test.YtecofmaegcibeaaGreatDoorAbsLaw
import Derived.IntWalk
namespace Go.Abs
open Go
variable {β:Type}
theorem H4 {σ:Type} {f:σ->Option (σ⊕β)} {s s':σ} (h:f s=some (.inl s')):A1 f s=A1 f s':=by rw[y1n,h];rfl
theorem D9 {σ:Type} {f:σ->Option (σ⊕β)} {s:σ} {b:β} (h:f s=some (.inr b)):A1 f s=some b:=by rw[y1n,h];rfl
theorem F6 {x:Int} (h1:-9223372036854775808<=x) (h2:x<=9223372036854775807):IntKind.i64.wrap x=x:=by
 exact IntWalk.i64_in x ⟨h1,h2⟩
variable {α:Type}
theorem O0 (x y:Int) (p q:α):cond (x != y) p q=if x=y then q else p:=by
 by_cases h:x=y
 ·simp[h]
 ·have:(x != y)=true:=by simpa using h
  simp[h,this]
theorem q0b (x y:Int) (p q:α):cond (x==y) p q=if x=y then p else q:=by
 by_cases h:x=y
 ·simp[h]
 ·have:(x==y)=false:=by simpa using h
  simp[h,this]
theorem q36 (c:Prop) [Decidable c] (p q:α):cond (decide c) p q=if c then p else q:=by
 by_cases h:c<;>simp[h]
theorem X1 (l:List α) (i:Nat):A5 l (i:Int)=l[i]?:=by
 simp[A5]
theorem y1m {f:α×Int×Unit->Option ((α×Int×Unit)⊕β)} (n:Nat) (s:Nat->α) (e:β) (h:∀i:Nat,i<n->f (s i,(i:Int),())=some (.inl (s (i+1),((i+1:Nat):Int),()))) (hend:f (s n,(n:Int),())=some (.inr e)):A1 f (s 0,0,())=some e:=by
 have key:∀k i,i+k=n->A1 f (s i,(i:Int),())=some e:=by
  intro k
  induction k with
  | zero =>
   intro i hi;have:i=n:=by omega
   subst this;exact D9 hend
  | succ k ih=>intro i hi;rw[H4 (h i (by omega))];exact ih (i+1) (by omega)
 exact key n 0 (by omega)
theorem z5l {f:Int×Unit->Option ((Int×Unit)⊕β)} (l:List Int) (bad:Int->Bool) (b e:β) (h:∀(i:Nat) (v:Int),l[i]? = some v->f ((i:Int),())=some (if bad v=true then .inr b else .inl (((i+1:Nat):Int),()))) (hend:f ((l.length:Int),())=some (.inr e)):A1 f (0,())=some (if l.any bad=true then b else e):=by
 have key:∀k i,i+k=l.length->A1 f ((i:Int),())=some (if(l.drop i).any bad=true then b else e):=by
  intro k
  induction k with
  | zero =>
   intro i hi;have:i=l.length:=by omega
   subst this;rw[D9 hend];simp
  | succ k ih =>
   intro i hi;have hlt:i<l.length:=by omega
   have hs:=h i l[i] (af hlt);rw[aM hlt,cJ];by_cases hb:bad l[i]=true
   ·rw[if_pos hb]at hs;rw[D9 hs,hb];simp
   ·rw[if_neg hb]at hs;rw[H4 hs,ih (i+1) (by omega)];have:bad l[i]=false:=by simpa using hb
    rw[this,dh]
 simpa using key l.length 0 (by omega)
theorem q1r {n:Nat} (h:n<=1000000):A8 n 8=true:=by
 unfold A8;rw[ac];exact⟨bg (by omega),bg (by omega)⟩
end Go.Abs
