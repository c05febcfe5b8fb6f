/- slices.SortFunc at concepts, by the library's contract. -/
import Derived.Test.YtoddbincogignaaDoorAbsSound12
import Derived.Test.YtoddbincogignaaDoorProg
import Derived.Shelf.SlSortCmp.NoneTotal
import Derived.Shelf.Lay
import Derived.Ground.SlsfProg
namespace Go.Proofs
open Go Go.Shelf Go.Sort
set_option maxRecDepth 100000
shelf_lay_g SlLaysF0.n6 Slsf 6 at Tryd 11 as Tryd.sortL11

theorem Tryd.agg33 (w : World) : (isAgg 33).run Tryd.prog w = .ok true w := by kernel_rfl
theorem Tryd.size33 (w : World) : (Go.sizeOf 33).run Tryd.prog w = .ok 2 w := by kernel_rfl
/-- The function keeps the sort's contract. -/
theorem Tryd.sortN11 : Go.Abs.SortN Tryd.prog 11 2 where
  fn := ⟨Tryd.f11, Tryd.func11, by kernel_rfl, by kernel_rfl⟩
  none := fun p cap fv w => AnyF.slices_SortFunc_none Tryd.sortL11 p cap fv w
  sort := fun enc hk h1 cf hO g cb blk off cap d w eg hcmp hH hblk hsz => AnyQ.slices_SortFunc Tryd.sortL11 2 Tryd.agg33 Tryd.size33 enc hk h1 cf hO g cb blk off cap d w eg hcmp hH hblk hsz
end Go.Proofs
