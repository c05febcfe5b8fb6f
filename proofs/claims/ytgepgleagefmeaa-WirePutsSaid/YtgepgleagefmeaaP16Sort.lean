/- slices.SortFunc, by the library's contract, at rows, at histories' entries. -/
import Derived.Test.YtgepgleagefmeaaAbsSound14
import Derived.Test.YtgepgleagefmeaaProg
import Derived.Shelf.SlSortCmp.NoneTotal
import Derived.Shelf.Lay
import Derived.Ground.SlsfProg
namespace Go.Proofs
open Go Go.Shelf Go.Sort
set_option maxRecDepth 100000
shelf_lay_g SlLaysF0.n6 Slsf 6 at Try 93 as Try.sortL93
shelf_lay_g SlLaysF0.n6 Slsf 6 at Try 101 as Try.sortL101

theorem Try.agg117 (w : World) : (isAgg 117).run Try.prog w = .ok true w := by kernel_rfl
theorem Try.size117 (w : World) : (Go.sizeOf 117).run Try.prog w = .ok 3 w := by kernel_rfl
theorem Try.agg75 (w : World) : (isAgg 75).run Try.prog w = .ok true w := by kernel_rfl
theorem Try.size75 (w : World) : (Go.sizeOf 75).run Try.prog w = .ok 2 w := by kernel_rfl
/-- The function keeps the sort's contract. -/
theorem Try.sortN93 : Go.Abs.SortN Try.prog 93 3 where
  fn := ⟨Try.f93, Try.func93, by kernel_rfl, by kernel_rfl⟩
  none := fun p cap fv w => AnyF.slices_SortFunc_none Try.sortL93 p cap fv w
  sort := fun enc hk h1 cf hO g cb blk off cap d w eg hcmp hH hblk hsz => AnyQ.slices_SortFunc Try.sortL93 3 Try.agg117 Try.size117 enc hk h1 cf hO g cb blk off cap d w eg hcmp hH hblk hsz
/-- The function keeps the sort's contract. -/
theorem Try.sortN101 : Go.Abs.SortN Try.prog 101 2 where
  fn := ⟨Try.f101, Try.func101, by kernel_rfl, by kernel_rfl⟩
  none := fun p cap fv w => AnyF.slices_SortFunc_none Try.sortL101 p cap fv w
  sort := fun enc hk h1 cf hO g cb blk off cap d w eg hcmp hH hblk hsz => AnyQ.slices_SortFunc Try.sortL101 2 Try.agg75 Try.size75 enc hk h1 cf hO g cb blk off cap d w eg hcmp hH hblk hsz
end Go.Proofs
