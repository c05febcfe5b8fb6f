/- slices.SortFunc and maps.Clone, by the library's contracts, at what this program sorts and copies. -/
import Derived.Test.YteeaadgpkammdaaGreatDoorAbsSound14
import Derived.Test.YteeaadgpkammdaaGreatDoorProg
import Derived.Shelf.SlSortCmp.NoneTotal
import Derived.Shelf.Lay
import Derived.Ground.SlsfProg
namespace Go.Proofs
open Go Go.Shelf Go.Sort
set_option maxRecDepth 100000
shelf_lay_g SlLaysF0.n6 Slsf 6 at Tryz 89 as Tryz.sortL89
shelf_lay_g SlLaysF0.n6 Slsf 6 at Tryz 120 as Tryz.sortL120
shelf_lay_g SlLaysF.n6 Slsf 6 at Tryz 161 as Tryz.sortL161
theorem Tryz.agg108 (w:World):(isAgg 108).run Tryz.prog w=.ok true w:=by kernel_rfl
theorem Tryz.size108 (w:World):(Go.sizeOf 108).run Tryz.prog w=.ok 3 w:=by kernel_rfl
theorem Tryz.agg118 (w:World):(isAgg 118).run Tryz.prog w=.ok true w:=by kernel_rfl
theorem Tryz.size118 (w:World):(Go.sizeOf 118).run Tryz.prog w=.ok 3 w:=by kernel_rfl
theorem Tryz.sortN89:Go.Abs.SortN Tryz.prog 89 3 where
 fn:=⟨Tryz.f89,Tryz.func89,by kernel_rfl,by kernel_rfl⟩
 none:=fun p cap fv w=>AnyF.slices_SortFunc_none Tryz.sortL89 p cap fv w
 sort:=fun enc hk h1 cf hO g cb blk off cap d w eg hcmp hH hblk hsz=>AnyQ.slices_SortFunc Tryz.sortL89 3 Tryz.agg108 Tryz.size108 enc hk h1 cf hO g cb blk off cap d w eg hcmp hH hblk hsz
theorem Tryz.sortN120:Go.Abs.SortN Tryz.prog 120 3 where
 fn:=⟨Tryz.f120,Tryz.func120,by kernel_rfl,by kernel_rfl⟩
 none:=fun p cap fv w=>AnyF.slices_SortFunc_none Tryz.sortL120 p cap fv w
 sort:=fun enc hk h1 cf hO g cb blk off cap d w eg hcmp hH hblk hsz=>AnyQ.slices_SortFunc Tryz.sortL120 3 Tryz.agg118 Tryz.size118 enc hk h1 cf hO g cb blk off cap d w eg hcmp hH hblk hsz
theorem Tryz.sort161:Go.Abs.Sort1 Tryz.prog 161 where
 fn:=⟨Tryz.f161,Tryz.func161,by kernel_rfl,by kernel_rfl⟩
 none:=fun p cap fv w=>AnyF.slices_SortFunc_none { Tryz.sortL161 with } p cap fv w
 sort:=fun enc h1 cf hO g cb blk off cap d w eg hcmp hH hblk hsz=>Any.slices_SortFunc Tryz.sortL161 enc h1 cf hO g cb blk off cap d w eg hcmp hH hblk hsz
end Go.Proofs
