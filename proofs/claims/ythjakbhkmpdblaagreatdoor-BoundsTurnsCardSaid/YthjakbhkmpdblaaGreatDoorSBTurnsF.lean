/- Facts of BoundsTurns. -/
import Derived.Test.YthjakbhkmpdblaaGreatDoorSFacts
set_option maxRecDepth 100000
namespace Go.Proofs.YthjakbhkmpdblaaGreatDoor
open Go Go.ChangeShapes Go.WideShapes
theorem boundsTurns_goes : false = Rows.boundsTurnsRow.goesBy Tryz.pinned.checked.prog := by kernel_rfl
theorem boundsTurns_inPlace : (Rows.boundsTurnsRow.inPlace == Tryz.pinned.checked.prog.inPlace 3) = true := by kernel_rfl
theorem boundsTurns_unfollowed : (Rows.boundsTurnsRow.unfollowed == Tryz.pinned.checked.prog.unfollowed 3) = true := by kernel_rfl
theorem boundsTurns_recurses : (Rows.boundsTurnsRow.recurses == Tryz.pinned.checked.prog.recurses 3) = true := by kernel_rfl
theorem boundsTurns_named : (Rows.boundsTurnsRow.named == Tryz.pinned.checked.prog.varsNamed 3) = true := by kernel_rfl
theorem boundsTurns_closed : joinedFacts Tryz.pinned.checked.prog 3 Tryz.f3 (OpenSpec.ofChange Rows.boundsTurnsSpec).bare Rows.boundsTurnsRow = true := by
  unfold joinedFacts
  rw [boundsTurns_inPlace, boundsTurns_unfollowed, boundsTurns_recurses, boundsTurns_named, sLaidOut, sMapsRowed, sStops, sKnobs, sPlainKeys, sStopsHeard, sMayEnter, sLifts, sMake]
  kernel_rfl
end Go.Proofs.YthjakbhkmpdblaaGreatDoor
