/- slices.SortFunc, by the library's contract. -/
import Derived.Test.YtammjpalmmhokaaAbsSound11
import Derived.Test.YtammjpalmmhokaaProg
import Derived.Shelf.SlSortCmp.NoneTotal
import Derived.Shelf.Lay
import Derived.Ground.SlsfProg
namespace Go.Proofs
open Go Go.Shelf Go.Sort
set_option maxRecDepth 100000
shelf_lay_g SlLaysF.n6 Slsf 6 at Try 65 as Try.sortL65

/-- The function keeps the sort's contract. -/
theorem Try.sort65 : Go.Abs.Sort1 Try.prog 65 where
  fn := ⟨Try.f65, Try.func65, by kernel_rfl, by kernel_rfl⟩
  none := fun p cap fv w => AnyF.slices_SortFunc_none { Try.sortL65 with } p cap fv w
  sort := fun enc h1 cf hO g cb blk off cap d w eg hcmp hH hblk hsz => Any.slices_SortFunc Try.sortL65 enc h1 cf hO g cb blk off cap d w eg hcmp hH hblk hsz

end Go.Proofs
