/- awake, reckoned: it answers true in every world. -/
import Derived.Test.YtnigceddndemkaaGreatDoorSAwakeB
namespace Go.Proofs.YtnigceddndemkaaGreatDoor
open Go Go.Eng Go.RowKit
set_option maxRecDepth 100000
theorem U9(w:World):Calls Tryz.prog 16 #[] w λe w'=>e=.returned (.bool true)/\Quiet w w':=
 sQ J3 a9s a7s 200 (gs:=[]) (N:=1) rfl rfl (args:=[]) rfl (by kernel_rfl) w (λ_ h=>by cases h)
end Go.Proofs.YtnigceddndemkaaGreatDoor
