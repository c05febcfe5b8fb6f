/- slices.SortFunc and maps.Clone, by the library's contracts, at what this program sorts and copies. -/
import Derived.Test.YtgepgleagefmeabGreatDoorAbsSound14
import Derived.Test.YtgepgleagefmeabGreatDoorProg
import Derived.Shelf.SlSortCmp.NoneTotal
import Derived.Shelf.Lay
import Derived.Ground.SlsfProg
namespace Go.Proofs
open Go Go.Shelf Go.Sort
set_option maxRecDepth 100000
shelf_lay_g SlLaysF0.n6 Slsf 6 at Tryz 155 as Tryz.sortL155
shelf_lay_g SlLaysF.n6 Slsf 6 at Tryz 166 as Tryz.sortL166
theorem Tryz.agg125 (w:World):(isAgg 125).run Tryz.prog w=.ok true w:=by kernel_rfl
theorem Tryz.size125 (w:World):(Go.sizeOf 125).run Tryz.prog w=.ok 3 w:=by kernel_rfl
theorem Tryz.sortN155:Go.Abs.SortN Tryz.prog 155 3 where
  fn:=⟨Tryz.f155,Tryz.func155,by kernel_rfl,by kernel_rfl⟩
  none:=fun p cap fv w=>AnyF.slices_SortFunc_none Tryz.sortL155 p cap fv w
  sort:=fun enc hk h1 cf hO g cb blk off cap d w eg hcmp hH hblk hsz=>AnyQ.slices_SortFunc Tryz.sortL155 3 Tryz.agg125 Tryz.size125 enc hk h1 cf hO g cb blk off cap d w eg hcmp hH hblk hsz
theorem Tryz.sort166:Go.Abs.Sort1 Tryz.prog 166 where
  fn:=⟨Tryz.f166,Tryz.func166,by kernel_rfl,by kernel_rfl⟩
  none:=fun p cap fv w=>AnyF.slices_SortFunc_none { Tryz.sortL166 with } p cap fv w
  sort:=fun enc h1 cf hO g cb blk off cap d w eg hcmp hH hblk hsz=>Any.slices_SortFunc Tryz.sortL166 enc h1 cf hO g cb blk off cap d w eg hcmp hH hblk hsz
end Go.Proofs
