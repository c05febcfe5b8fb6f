/- The engine, part 24: laws of loops, for the plain laws. -/
import Derived.Test.YtkfjlcdaepckoaaAbsLaw
import Derived.IntWalk
namespace Go.Abs
open Go
theorem H4 {σ β:Type} {f:σ->Option (σ⊕β)} {s s':σ} (h:f s=some (.inl s')):A3 f s=A3 f s':=by rw[z89,h];rfl
theorem C0 {σ β:Type} {f:σ->Option (σ⊕β)} {s:σ} {b:β} (h:f s=some (.inr b)):A3 f s=some b:=by rw[z89,h];rfl
theorem D7 {x:Int} (h1:-9223372036854775808<=x) (h2:x<=9223372036854775807):IntKind.i64.wrap x=x:=by
 exact IntWalk.i64_in x ⟨h1,h2⟩
theorem q0n {α:Type} (x y:Int) (p q:α):cond (x != y) p q=if x=y then q else p:=by
 by_cases h:x=y
 ·simp[h]
 ·have:(x != y)=true:=by simpa using h
  simp[h,this]
theorem q9p {α:Type} (c:Prop) [Decidable c] (p q:α):cond (decide c) p q=if c then p else q:=by
 by_cases h:c<;>simp[h]
theorem I2 {α:Type} (l:List α) (i:Nat):A9 l (i:Int)=l[i]?:=by
 simp[A9]
theorem q6x {α β:Type} {f:α×Int×Unit->Option ((α×Int×Unit)⊕β)} (n:Nat) (s:Nat->α) (e:β) (h:∀ i:Nat,i<n->f (s i,(i:Int),())=some (.inl (s (i+1),((i+1:Nat):Int),())))
  (hend:f (s n,(n:Int),())=some (.inr e)):A3 f (s 0,0,())=some e:=by
 have key:∀ k i,i+k=n->A3 f (s i,(i:Int),())=some e:=by
  intro k
  induction k with
  | zero =>
   intro i hi;have:i=n:=by omega
   subst this;exact C0 hend
  | succ k ih=>intro i hi;rw[H4 (h i (by omega))];exact ih (i+1) (by omega)
 exact key n 0 (by omega)
theorem z87 {β:Type} {f:Int×Unit->Option ((Int×Unit)⊕β)} (l:List Int) (bad:Int->Bool) (b e:β) (h:∀ (i:Nat) (v:Int),l[i]? = some v->f ((i:Int),())=some (if bad v=true then .inr b else .inl (((i+1:Nat):Int),())))
  (hend:f ((l.length:Int),())=some (.inr e)):A3 f (0,())=some (if l.any bad=true then b else e):=by
 have key:∀ k i,i+k=l.length->A3 f ((i:Int),())=some (if(l.drop i).any bad=true then b else e):=by
  intro k
  induction k with
  | zero =>
   intro i hi
   have:i=l.length:=by omega
   subst this
   rw[C0 hend];simp
  | succ k ih =>
   intro i hi
   have hlt:i<l.length:=by omega
   have hs:=h i l[i] (List.getElem?_eq_getElem hlt)
   rw[List.drop_eq_getElem_cons hlt,List.any_cons]
   by_cases hb:bad l[i]=true
   ·rw[if_pos hb]at hs
    rw[C0 hs,hb];simp
   ·rw[if_neg hb]at hs
    rw[H4 hs,ih (i+1) (by omega)]
    have:bad l[i]=false:=by simpa using hb
    rw[this,Bool.false_or]
 simpa using key l.length 0 (by omega)
end Go.Abs
