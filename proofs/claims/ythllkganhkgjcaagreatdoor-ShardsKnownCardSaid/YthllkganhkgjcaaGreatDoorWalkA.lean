/- The walk of ShardsKnown, reckoned by the engine. -/
import Derived.Test.YthllkganhkgjcaaGreatDoorEngBase
namespace Go.Proofs.YthllkganhkgjcaaGreatDoor
open Go Go.Eng Go.RowKit
theorem shardsKnown_walk (w : World) : Calls Tryz.prog 3 #[] w fun e w' => e = .returned (.bool true) ∧ Grown w w' :=
  closed_calls follows rfl looked 100 (args := []) rfl (by kernel_rfl) w
end Go.Proofs.YthllkganhkgjcaaGreatDoor
