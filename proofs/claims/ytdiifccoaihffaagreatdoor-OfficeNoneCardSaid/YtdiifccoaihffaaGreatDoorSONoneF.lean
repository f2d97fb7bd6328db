/- Facts of OfficeNone. -/
import Derived.Test.YtdiifccoaihffaaGreatDoorSFacts
set_option maxRecDepth 100000
namespace Go.Proofs.YtdiifccoaihffaaGreatDoor
open Go Go.ChangeShapes Go.WideShapes
theorem officeNone_goes : false = Rows.officeNoneRow.goesBy Tryz.pinned.checked.prog := by kernel_rfl
theorem officeNone_inPlace : (Rows.officeNoneRow.inPlace == Tryz.pinned.checked.prog.inPlace 7) = true := by kernel_rfl
theorem officeNone_unfollowed : (Rows.officeNoneRow.unfollowed == Tryz.pinned.checked.prog.unfollowed 7) = true := by kernel_rfl
theorem officeNone_recurses : (Rows.officeNoneRow.recurses == Tryz.pinned.checked.prog.recurses 7) = true := by kernel_rfl
theorem officeNone_named : (Rows.officeNoneRow.named == Tryz.pinned.checked.prog.varsNamed 7) = true := by kernel_rfl
theorem officeNone_closed : joinedFacts Tryz.pinned.checked.prog 7 Tryz.f7 (OpenSpec.ofChange Rows.officeNoneSpec).bare Rows.officeNoneRow = true := by
  unfold joinedFacts
  rw [officeNone_inPlace, officeNone_unfollowed, officeNone_recurses, officeNone_named, sLaidOut, sMapsRowed, sStops, sKnobs, sPlainKeys, sStopsHeard, sMayEnter, sLifts, sMake]
  kernel_rfl
end Go.Proofs.YtdiifccoaihffaaGreatDoor
