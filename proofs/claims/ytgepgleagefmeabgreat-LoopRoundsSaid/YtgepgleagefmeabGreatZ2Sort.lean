/- slices.SortFunc and maps.Clone, by the library's contracts, at what this program sorts and copies. -/
import Derived.Test.YtgepgleagefmeabGreatAbsSound14
import Derived.Test.YtgepgleagefmeabGreatProg
import Derived.Shelf.SlSortCmp.NoneTotal
import Derived.Shelf.Lay
import Derived.Ground.SlsfProg
import Derived.Shelf.SlMaps.Clone
namespace Go.Proofs
open Go Go.Shelf Go.Sort
set_option maxRecDepth 100000
shelf_lay_g SlLaysF.n6 Slsf 6 at Tryz 37 as Tryz.sortL37
shelf_lay_g SlLaysF0.n6 Slsf 6 at Tryz 69 as Tryz.sortL69
shelf_lay_g SlLaysF0.n6 Slsf 6 at Tryz 75 as Tryz.sortL75
shelf_lay_g SlLaysW.n5 Slmc 5 at Tryz 73 as Tryz.cloneL73
theorem Tryz.agg82 (w:World):(isAgg 82).run Tryz.prog w=.ok true w:=by kernel_rfl
theorem Tryz.size82 (w:World):(Go.sizeOf 82).run Tryz.prog w=.ok 3 w:=by kernel_rfl
theorem Tryz.agg32 (w:World):(isAgg 32).run Tryz.prog w=.ok true w:=by kernel_rfl
theorem Tryz.size32 (w:World):(Go.sizeOf 32).run Tryz.prog w=.ok 2 w:=by kernel_rfl
theorem Tryz.sort37:Go.Abs.Sort1 Tryz.prog 37 where
  fn:=⟨Tryz.f37,Tryz.func37,by kernel_rfl,by kernel_rfl⟩
  none:=fun p cap fv w=>AnyF.slices_SortFunc_none { Tryz.sortL37 with } p cap fv w
  sort:=fun enc h1 cf hO g cb blk off cap d w eg hcmp hH hblk hsz=>Any.slices_SortFunc Tryz.sortL37 enc h1 cf hO g cb blk off cap d w eg hcmp hH hblk hsz
theorem Tryz.sortN69:Go.Abs.SortN Tryz.prog 69 3 where
  fn:=⟨Tryz.f69,Tryz.func69,by kernel_rfl,by kernel_rfl⟩
  none:=fun p cap fv w=>AnyF.slices_SortFunc_none Tryz.sortL69 p cap fv w
  sort:=fun enc hk h1 cf hO g cb blk off cap d w eg hcmp hH hblk hsz=>AnyQ.slices_SortFunc Tryz.sortL69 3 Tryz.agg82 Tryz.size82 enc hk h1 cf hO g cb blk off cap d w eg hcmp hH hblk hsz
theorem Tryz.sortN75:Go.Abs.SortN Tryz.prog 75 2 where
  fn:=⟨Tryz.f75,Tryz.func75,by kernel_rfl,by kernel_rfl⟩
  none:=fun p cap fv w=>AnyF.slices_SortFunc_none Tryz.sortL75 p cap fv w
  sort:=fun enc hk h1 cf hO g cb blk off cap d w eg hcmp hH hblk hsz=>AnyQ.slices_SortFunc Tryz.sortL75 2 Tryz.agg32 Tryz.size32 enc hk h1 cf hO g cb blk off cap d w eg hcmp hH hblk hsz
theorem Tryz.clone73:Go.Abs.CloneF Tryz.prog 73 where
  fn:=⟨Tryz.f73,Tryz.func73,by kernel_rfl,by kernel_rfl⟩
  run:=fun b es clock w hb=>AnyW.maps_Clone Tryz.cloneL73 b es clock w hb
end Go.Proofs
