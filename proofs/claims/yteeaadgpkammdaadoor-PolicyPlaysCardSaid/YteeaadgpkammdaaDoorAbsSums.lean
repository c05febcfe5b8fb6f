/- The engine, part 29: sums of whole numbers, wrapped and not; a table into which a word's bits are put. -/
import Derived.Test.YteeaadgpkammdaaDoorAbsStd
namespace Go.Abs
open Go
def exitOr {U β:Type} (o:Option U) (e:β):U ⊕ β:=o.elim (.inr e) .inl
def stepOr {σ U β:Type} (o:Option U) (s:σ):σ ⊕ (U ⊕ β):=o.elim (.inl s) fun u=>.inr (.inl u)
theorem exitOr_none {U β:Type} (e:β):exitOr (none:Option U) e=.inr e:=rfl
theorem loopM_exit {σ U β:Type} {f:σ→Option (σ ⊕ (U ⊕ β))} (n:Nat) (s:Nat→σ) (g:Nat→Option U) (e:β)
    (h:∀ i:Nat,i < n→f (s i)=some (stepOr (g i) (s (i+1)))) (hend:f (s n)=some (.inr (.inr e))) {s0:σ} (h0:s 0=s0) :
    loopM f s0=some (exitOr ((List.range n).findSome? g) e):=by
  subst h0
  rw [loopM_stop (f:=f) n s (fun i=>(g i).map .inl) (.inr e) (fun i hi=>by rw [h i hi]; cases g i <;> rfl) hend]
  have:(List.range n).findSome? (fun i=>(g i).map (Sum.inl (β:=β)))=((List.range n).findSome? g).map .inl:=by
    generalize List.range n=l
    induction l with
    | nil=>rfl
    | cons a l ih=>rw [List.findSome?_cons,List.findSome?_cons,ih]; cases g a <;> rfl
  rw [this]
  cases (List.range n).findSome? g <;> rfl
end Go.Abs
