/- awake, reckoned: it answers true in every world where the package variables lie. -/
import Derived.Test.YtnigceddndemkaaGreatDoorSAwakeB
namespace Go.Proofs.YtnigceddndemkaaGreatDoor
open Go Go.Eng Go.RowKit
set_option maxRecDepth 100000
theorem awake24_calls (w : World) (hl : LaidG globW w.heap) : Calls Tryz.prog 38 #[] w fun e w' => e = .returned (.bool true) ∧ Quiet w w' :=
  closed_quiet followsW lookedF specW_ok 200 (gs := globW) (N := 7) rfl rfl (args := []) rfl (by kernel_rfl) w hl
end Go.Proofs.YtnigceddndemkaaGreatDoor
