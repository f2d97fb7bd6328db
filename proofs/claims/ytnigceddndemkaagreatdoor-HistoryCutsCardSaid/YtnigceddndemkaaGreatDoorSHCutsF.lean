/- Facts of HistoryCuts. -/
import Derived.Test.YtnigceddndemkaaGreatDoorSFacts
namespace Go.Proofs.YtnigceddndemkaaGreatDoor
open Go Go.ChangeShapes Go.WideShapes
set_option maxRecDepth 100000
theorem historyCuts_goes : false = Rows.historyCutsRow.goesBy Tryz.pinned.checked.prog := by kernel_rfl
theorem historyCuts_inPlace : (Rows.historyCutsRow.inPlace == Tryz.pinned.checked.prog.inPlace 11) = true := by kernel_rfl
theorem historyCuts_unfollowed : (Rows.historyCutsRow.unfollowed == Tryz.pinned.checked.prog.unfollowed 11) = true := by kernel_rfl
theorem historyCuts_recurses : (Rows.historyCutsRow.recurses == Tryz.pinned.checked.prog.recurses 11) = true := by kernel_rfl
theorem historyCuts_named : (Rows.historyCutsRow.named == Tryz.pinned.checked.prog.varsNamed 11) = true := by kernel_rfl
theorem historyCuts_closed : joinedFacts Tryz.pinned.checked.prog 11 Tryz.f11 (OpenSpec.ofChange Rows.historyCutsSpec).bare Rows.historyCutsRow = true := by
  unfold joinedFacts
  rw [historyCuts_inPlace, historyCuts_unfollowed, historyCuts_recurses, historyCuts_named, sLaidOut, sMapsRowed, sStops, sKnobs, sPlainKeys, sStopsHeard, sMayEnter, sLifts, sMake]
  kernel_rfl
end Go.Proofs.YtnigceddndemkaaGreatDoor
