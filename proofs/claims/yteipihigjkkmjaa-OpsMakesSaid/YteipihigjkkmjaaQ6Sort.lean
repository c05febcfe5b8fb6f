/- slices.SortFunc, by the library's contract: at rows, histories' entries, times. -/
import Derived.Test.YteipihigjkkmjaaAbsSound12
import Derived.Test.YteipihigjkkmjaaProg
import Derived.Shelf.SlSortCmp.NoneTotal
import Derived.Shelf.Lay
import Derived.Ground.SlsfProg
namespace Go.Proofs
open Go Go.Shelf Go.Sort
set_option maxRecDepth 100000
shelf_lay_g SlLaysF0.n6 Slsf 6 at Try 107 as Try.sortL107
shelf_lay_g SlLaysF0.n6 Slsf 6 at Try 116 as Try.sortL116
shelf_lay_g SlLaysF.n6 Slsf 6 at Try 130 as Try.sortL130

theorem Try.agg125 (w : World) : (isAgg 125).run Try.prog w = .ok true w := by kernel_rfl
theorem Try.size125 (w : World) : (Go.sizeOf 125).run Try.prog w = .ok 3 w := by kernel_rfl
theorem Try.agg79 (w : World) : (isAgg 79).run Try.prog w = .ok true w := by kernel_rfl
theorem Try.size79 (w : World) : (Go.sizeOf 79).run Try.prog w = .ok 2 w := by kernel_rfl
/-- The function keeps the sort's contract. -/
theorem Try.sort130 : Go.Abs.Sort1 Try.prog 130 where
  fn := ⟨Try.f130, Try.func130, by kernel_rfl, by kernel_rfl⟩
  none := fun p cap fv w => AnyF.slices_SortFunc_none { Try.sortL130 with } p cap fv w
  sort := fun enc h1 cf hO g cb blk off cap d w eg hcmp hH hblk hsz => Any.slices_SortFunc Try.sortL130 enc h1 cf hO g cb blk off cap d w eg hcmp hH hblk hsz
/-- The function keeps the sort's contract. -/
theorem Try.sortN107 : Go.Abs.SortN Try.prog 107 3 where
  fn := ⟨Try.f107, Try.func107, by kernel_rfl, by kernel_rfl⟩
  none := fun p cap fv w => AnyF.slices_SortFunc_none Try.sortL107 p cap fv w
  sort := fun enc hk h1 cf hO g cb blk off cap d w eg hcmp hH hblk hsz => AnyQ.slices_SortFunc Try.sortL107 3 Try.agg125 Try.size125 enc hk h1 cf hO g cb blk off cap d w eg hcmp hH hblk hsz
/-- The function keeps the sort's contract. -/
theorem Try.sortN116 : Go.Abs.SortN Try.prog 116 2 where
  fn := ⟨Try.f116, Try.func116, by kernel_rfl, by kernel_rfl⟩
  none := fun p cap fv w => AnyF.slices_SortFunc_none Try.sortL116 p cap fv w
  sort := fun enc hk h1 cf hO g cb blk off cap d w eg hcmp hH hblk hsz => AnyQ.slices_SortFunc Try.sortL116 2 Try.agg79 Try.size79 enc hk h1 cf hO g cb blk off cap d w eg hcmp hH hblk hsz
end Go.Proofs
