/- slices.SortFunc, by the library's contract: and maps.Clone, by the library: at summaries, times, histories' entries, rows. -/
import Derived.Test.YtoddbincogignaaAbsSound14
import Derived.Test.YtoddbincogignaaProg
import Derived.Shelf.SlSortCmp.NoneTotal
import Derived.Shelf.Lay
import Derived.Ground.SlsfProg
import Derived.Shelf.SlMaps.Clone
namespace Go.Proofs
open Go Go.Shelf Go.Sort
set_option maxRecDepth 100000
shelf_lay_g SlLaysF0.n6 Slsf 6 at Try 123 as Try.sortL123
shelf_lay_g SlLaysW.n5 Slmc 5 at Try 164 as Try.cloneL164
shelf_lay_g SlLaysF.n6 Slsf 6 at Try 144 as Try.sortL144
shelf_lay_g SlLaysF0.n6 Slsf 6 at Try 153 as Try.sortL153
shelf_lay_g SlLaysF0.n6 Slsf 6 at Try 165 as Try.sortL165

theorem Try.agg95 (w : World) : (isAgg 95).run Try.prog w = .ok true w := by kernel_rfl
theorem Try.size95 (w : World) : (Go.sizeOf 95).run Try.prog w = .ok 3 w := by kernel_rfl
theorem Try.agg67 (w : World) : (isAgg 67).run Try.prog w = .ok true w := by kernel_rfl
theorem Try.size67 (w : World) : (Go.sizeOf 67).run Try.prog w = .ok 2 w := by kernel_rfl
theorem Try.agg110 (w : World) : (isAgg 110).run Try.prog w = .ok true w := by kernel_rfl
theorem Try.size110 (w : World) : (Go.sizeOf 110).run Try.prog w = .ok 3 w := by kernel_rfl
/-- The function keeps the sort's contract. -/
theorem Try.sort144 : Go.Abs.Sort1 Try.prog 144 where
  fn := ⟨Try.f144, Try.func144, by kernel_rfl, by kernel_rfl⟩
  none := fun p cap fv w => AnyF.slices_SortFunc_none { Try.sortL144 with } p cap fv w
  sort := fun enc h1 cf hO g cb blk off cap d w eg hcmp hH hblk hsz => Any.slices_SortFunc Try.sortL144 enc h1 cf hO g cb blk off cap d w eg hcmp hH hblk hsz
/-- The function keeps the sort's contract. -/
theorem Try.sortN123 : Go.Abs.SortN Try.prog 123 3 where
  fn := ⟨Try.f123, Try.func123, by kernel_rfl, by kernel_rfl⟩
  none := fun p cap fv w => AnyF.slices_SortFunc_none Try.sortL123 p cap fv w
  sort := fun enc hk h1 cf hO g cb blk off cap d w eg hcmp hH hblk hsz => AnyQ.slices_SortFunc Try.sortL123 3 Try.agg95 Try.size95 enc hk h1 cf hO g cb blk off cap d w eg hcmp hH hblk hsz
/-- The function keeps the sort's contract. -/
theorem Try.sortN153 : Go.Abs.SortN Try.prog 153 2 where
  fn := ⟨Try.f153, Try.func153, by kernel_rfl, by kernel_rfl⟩
  none := fun p cap fv w => AnyF.slices_SortFunc_none Try.sortL153 p cap fv w
  sort := fun enc hk h1 cf hO g cb blk off cap d w eg hcmp hH hblk hsz => AnyQ.slices_SortFunc Try.sortL153 2 Try.agg67 Try.size67 enc hk h1 cf hO g cb blk off cap d w eg hcmp hH hblk hsz
/-- The function keeps the sort's contract. -/
theorem Try.sortN165 : Go.Abs.SortN Try.prog 165 3 where
  fn := ⟨Try.f165, Try.func165, by kernel_rfl, by kernel_rfl⟩
  none := fun p cap fv w => AnyF.slices_SortFunc_none Try.sortL165 p cap fv w
  sort := fun enc hk h1 cf hO g cb blk off cap d w eg hcmp hH hblk hsz => AnyQ.slices_SortFunc Try.sortL165 3 Try.agg110 Try.size110 enc hk h1 cf hO g cb blk off cap d w eg hcmp hH hblk hsz
/-- The function keeps the copy's contract. -/
theorem Try.clone164 : Go.Abs.CloneF Try.prog 164 where
  fn := ⟨Try.f164, Try.func164, by kernel_rfl, by kernel_rfl⟩
  run := fun b es clock w hb => AnyW.maps_Clone Try.cloneL164 b es clock w hb
end Go.Proofs
