/- The engine, part 29: sums of whole numbers, wrapped and not; a table into which a word's bits are put. -/
import Derived.Test.YtkfjlcdaepckoaaAbsStd
namespace Go.Abs
open Go
theorem y4q {k:IntKind} {x y:Int} (h:x % (2^k.bits:Int)=y % (2^k.bits:Int)):k.wrap x=k.wrap y:=by
 unfold IntKind.wrap;rw[h]
theorem j86 (k:IntKind) (x:Int):k.wrap x % (2^k.bits:Int)=x % (2^k.bits:Int):=by
 unfold IntKind.wrap
 dsimp only
 split
 ·rw[Int.sub_emod,Int.emod_self,Int.emod_emod,Int.sub_zero,Int.emod_emod]
 ·rw[Int.emod_emod]
theorem y4r (k:IntKind) (x:Int):k.wrap (k.wrap x)=k.wrap x:=y4q (j86 k x)
def z6k {U β:Type} (o:Option U) (e:β):U⊕β:=o.elim (.inr e) .inl
def y3h {σ U β:Type} (o:Option U) (s:σ):σ⊕(U⊕β):=o.elim (.inl s) fun u=>.inr (.inl u)
theorem z6l {U β:Type} (e:β):z6k (none:Option U) e=.inr e:=rfl
theorem q6w {σ U β:Type} {f:σ->Option (σ⊕(U⊕β))} (n:Nat) (s:Nat->σ) (g:Nat->Option U) (e:β)
  (h:∀ i:Nat,i<n->f (s i)=some (y3h (g i) (s (i+1)))) (hend:f (s n)=some (.inr (.inr e))) {s0:σ} (h0:s 0=s0) :
  A3 f s0=some (z6k ((List.range n).findSome? g) e):=by
 subst h0
 rw[z88 (f:=f) n s (fun i=>(g i).map .inl) (.inr e) (fun i hi=>by rw[h i hi];cases g i<;>rfl) hend]
 have:(List.range n).findSome? (fun i=>(g i).map (Sum.inl (β:=β)))=((List.range n).findSome? g).map .inl:=by
  generalize List.range n=l
  induction l with
  | nil=>rfl
  | cons a l ih=>rw[List.findSome?_cons,List.findSome?_cons,ih];cases g a<;>rfl
 rw[this]
 cases(List.range n).findSome? g<;>rfl
end Go.Abs
