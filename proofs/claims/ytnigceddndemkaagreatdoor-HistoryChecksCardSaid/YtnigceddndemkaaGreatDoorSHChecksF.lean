/- Facts of HistoryChecks. -/
import Derived.Test.YtnigceddndemkaaGreatDoorSFacts
namespace Go.Proofs.YtnigceddndemkaaGreatDoor
open Go Go.ChangeShapes Go.WideShapes
set_option maxRecDepth 100000
theorem historyChecks_goes : false = Rows.historyChecksRow.goesBy Tryz.pinned.checked.prog := by kernel_rfl
theorem historyChecks_inPlace : (Rows.historyChecksRow.inPlace == Tryz.pinned.checked.prog.inPlace 10) = true := by kernel_rfl
theorem historyChecks_unfollowed : (Rows.historyChecksRow.unfollowed == Tryz.pinned.checked.prog.unfollowed 10) = true := by kernel_rfl
theorem historyChecks_recurses : (Rows.historyChecksRow.recurses == Tryz.pinned.checked.prog.recurses 10) = true := by kernel_rfl
theorem historyChecks_named : (Rows.historyChecksRow.named == Tryz.pinned.checked.prog.varsNamed 10) = true := by kernel_rfl
theorem historyChecks_closed : joinedFacts Tryz.pinned.checked.prog 10 Tryz.f10 (OpenSpec.ofChange Rows.historyChecksSpec).bare Rows.historyChecksRow = true := by
  unfold joinedFacts
  rw [historyChecks_inPlace, historyChecks_unfollowed, historyChecks_recurses, historyChecks_named, sLaidOut, sMapsRowed, sStops, sKnobs, sPlainKeys, sStopsHeard, sMayEnter, sLifts, sMake]
  kernel_rfl
end Go.Proofs.YtnigceddndemkaaGreatDoor
