/- Facts of HistoryPairs. -/
import Derived.Test.YtnigceddndemkaaGreatDoorSFacts
namespace Go.Proofs.YtnigceddndemkaaGreatDoor
open Go Go.ChangeShapes Go.WideShapes
set_option maxRecDepth 100000
theorem historyPairs_goes : false = Rows.historyPairsRow.goesBy Tryz.pinned.checked.prog := by kernel_rfl
theorem historyPairs_inPlace : (Rows.historyPairsRow.inPlace == Tryz.pinned.checked.prog.inPlace 8) = true := by kernel_rfl
theorem historyPairs_unfollowed : (Rows.historyPairsRow.unfollowed == Tryz.pinned.checked.prog.unfollowed 8) = true := by kernel_rfl
theorem historyPairs_recurses : (Rows.historyPairsRow.recurses == Tryz.pinned.checked.prog.recurses 8) = true := by kernel_rfl
theorem historyPairs_named : (Rows.historyPairsRow.named == Tryz.pinned.checked.prog.varsNamed 8) = true := by kernel_rfl
theorem historyPairs_closed : joinedFacts Tryz.pinned.checked.prog 8 Tryz.f8 (OpenSpec.ofChange Rows.historyPairsSpec).bare Rows.historyPairsRow = true := by
  unfold joinedFacts
  rw [historyPairs_inPlace, historyPairs_unfollowed, historyPairs_recurses, historyPairs_named, sLaidOut, sMapsRowed, sStops, sKnobs, sPlainKeys, sStopsHeard, sMayEnter, sLifts, sMake]
  kernel_rfl
end Go.Proofs.YtnigceddndemkaaGreatDoor
