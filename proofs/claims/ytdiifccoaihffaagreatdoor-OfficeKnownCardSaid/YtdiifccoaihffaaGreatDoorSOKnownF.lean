/- Facts of OfficeKnown. -/
import Derived.Test.YtdiifccoaihffaaGreatDoorSFacts
set_option maxRecDepth 100000
namespace Go.Proofs.YtdiifccoaihffaaGreatDoor
open Go Go.ChangeShapes Go.WideShapes
theorem officeKnown_goes : false = Rows.officeKnownRow.goesBy Tryz.pinned.checked.prog := by kernel_rfl
theorem officeKnown_inPlace : (Rows.officeKnownRow.inPlace == Tryz.pinned.checked.prog.inPlace 3) = true := by kernel_rfl
theorem officeKnown_unfollowed : (Rows.officeKnownRow.unfollowed == Tryz.pinned.checked.prog.unfollowed 3) = true := by kernel_rfl
theorem officeKnown_recurses : (Rows.officeKnownRow.recurses == Tryz.pinned.checked.prog.recurses 3) = true := by kernel_rfl
theorem officeKnown_named : (Rows.officeKnownRow.named == Tryz.pinned.checked.prog.varsNamed 3) = true := by kernel_rfl
theorem officeKnown_closed : joinedFacts Tryz.pinned.checked.prog 3 Tryz.f3 (OpenSpec.ofChange Rows.officeKnownSpec).bare Rows.officeKnownRow = true := by
  unfold joinedFacts
  rw [officeKnown_inPlace, officeKnown_unfollowed, officeKnown_recurses, officeKnown_named, sLaidOut, sMapsRowed, sStops, sKnobs, sPlainKeys, sStopsHeard, sMayEnter, sLifts, sMake]
  kernel_rfl
end Go.Proofs.YtdiifccoaihffaaGreatDoor
