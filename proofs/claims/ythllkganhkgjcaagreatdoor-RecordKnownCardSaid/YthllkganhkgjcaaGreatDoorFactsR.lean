/- Closed facts of RecordKnown's row. -/
import Derived.Test.YthllkganhkgjcaaGreatDoorCards
import Derived.ProofKit
import Derived.JoinedCond
namespace Go.Proofs.YthllkganhkgjcaaGreatDoor
open Go
theorem known_inPlace : (Rows.recordKnownRow.inPlace == Tryz.pinned.checked.prog.inPlace 5) = true := by kernel_rfl
theorem known_unfollowed : (Rows.recordKnownRow.unfollowed == Tryz.pinned.checked.prog.unfollowed 5) = true := by kernel_rfl
theorem known_recurses : (Rows.recordKnownRow.recurses == Tryz.pinned.checked.prog.recurses 5) = true := by kernel_rfl
theorem known_named : (Rows.recordKnownRow.named == Tryz.pinned.checked.prog.varsNamed 5) = true := by kernel_rfl
theorem known_closed : joinedFacts Tryz.pinned.checked.prog 5 Tryz.f5 (OpenSpec.ofChange Rows.recordKnownSpec).bare Rows.recordKnownRow = true := by
  unfold joinedFacts
  rw [known_inPlace, known_unfollowed, known_recurses, known_named]
  kernel_rfl
end Go.Proofs.YthllkganhkgjcaaGreatDoor
