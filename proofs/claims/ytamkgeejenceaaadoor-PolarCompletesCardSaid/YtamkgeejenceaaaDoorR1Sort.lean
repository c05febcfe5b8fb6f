/- slices.SortFunc, by the library's contract: at concepts. -/
import Derived.Test.YtamkgeejenceaaaDoorAbsSound12
import Derived.Test.YtamkgeejenceaaaDoorProg
import Derived.Shelf.SlSortCmp.NoneTotal
import Derived.Shelf.Lay
import Derived.Ground.SlsfProg
namespace Go.Proofs
open Go Go.Shelf Go.Sort
set_option maxRecDepth 100000
shelf_lay_g SlLaysF0.n6 Slsf 6 at Tryd 86 as Tryd.sortL86

theorem Tryd.agg114 (w : World) : (isAgg 114).run Tryd.prog w = .ok true w := by kernel_rfl
theorem Tryd.size114 (w : World) : (Go.sizeOf 114).run Tryd.prog w = .ok 2 w := by kernel_rfl
/-- The function keeps the sort's contract. -/
theorem Tryd.sortN86 : Go.Abs.SortN Tryd.prog 86 2 where
  fn := ⟨Tryd.f86, Tryd.func86, by kernel_rfl, by kernel_rfl⟩
  none := fun p cap fv w => AnyF.slices_SortFunc_none Tryd.sortL86 p cap fv w
  sort := fun enc hk h1 cf hO g cb blk off cap d w eg hcmp hH hblk hsz => AnyQ.slices_SortFunc Tryd.sortL86 2 Tryd.agg114 Tryd.size114 enc hk h1 cf hO g cb blk off cap d w eg hcmp hH hblk hsz
end Go.Proofs
