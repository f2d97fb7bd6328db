/- Facts of HistoryIntervals. -/
import Derived.Test.YtnigceddndemkaaGreatDoorSFacts
namespace Go.Proofs.YtnigceddndemkaaGreatDoor
open Go Go.ChangeShapes Go.WideShapes
set_option maxRecDepth 100000
theorem historyIntervals_goes : false = Rows.historyIntervalsRow.goesBy Tryz.pinned.checked.prog := by kernel_rfl
theorem historyIntervals_inPlace : (Rows.historyIntervalsRow.inPlace == Tryz.pinned.checked.prog.inPlace 9) = true := by kernel_rfl
theorem historyIntervals_unfollowed : (Rows.historyIntervalsRow.unfollowed == Tryz.pinned.checked.prog.unfollowed 9) = true := by kernel_rfl
theorem historyIntervals_recurses : (Rows.historyIntervalsRow.recurses == Tryz.pinned.checked.prog.recurses 9) = true := by kernel_rfl
theorem historyIntervals_named : (Rows.historyIntervalsRow.named == Tryz.pinned.checked.prog.varsNamed 9) = true := by kernel_rfl
theorem historyIntervals_closed : joinedFacts Tryz.pinned.checked.prog 9 Tryz.f9 (OpenSpec.ofChange Rows.historyIntervalsSpec).bare Rows.historyIntervalsRow = true := by
  unfold joinedFacts
  rw [historyIntervals_inPlace, historyIntervals_unfollowed, historyIntervals_recurses, historyIntervals_named, sLaidOut, sMapsRowed, sStops, sKnobs, sPlainKeys, sStopsHeard, sMayEnter, sLifts, sMake]
  kernel_rfl
end Go.Proofs.YtnigceddndemkaaGreatDoor
