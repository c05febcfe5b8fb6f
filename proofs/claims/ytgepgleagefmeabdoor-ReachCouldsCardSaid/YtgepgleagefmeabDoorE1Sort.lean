/- slices.SortFunc and maps.Clone, by the library's contracts, at what this program sorts and copies. -/
import Derived.Test.YtgepgleagefmeabDoorAbsSound14
import Derived.Test.YtgepgleagefmeabDoorProg
import Derived.Shelf.SlSortCmp.NoneTotal
import Derived.Shelf.Lay
import Derived.Ground.SlsfProg
namespace Go.Proofs
open Go Go.Shelf Go.Sort
set_option maxRecDepth 100000
shelf_lay_g SlLaysF0.n6 Slsf 6 at Tryd 57 as Tryd.sortL57
theorem Tryd.agg66 (w:World):(isAgg 66).run Tryd.prog w=.ok true w:=by kernel_rfl
theorem Tryd.size66 (w:World):(Go.sizeOf 66).run Tryd.prog w=.ok 3 w:=by kernel_rfl
theorem Tryd.sortN57:Go.Abs.SortN Tryd.prog 57 3 where
  fn:=⟨Tryd.f57,Tryd.func57,by kernel_rfl,by kernel_rfl⟩
  none:=fun p cap fv w=>AnyF.slices_SortFunc_none Tryd.sortL57 p cap fv w
  sort:=fun enc hk h1 cf hO g cb blk off cap d w eg hcmp hH hblk hsz=>AnyQ.slices_SortFunc Tryd.sortL57 3 Tryd.agg66 Tryd.size66 enc hk h1 cf hO g cb blk off cap d w eg hcmp hH hblk hsz
end Go.Proofs
