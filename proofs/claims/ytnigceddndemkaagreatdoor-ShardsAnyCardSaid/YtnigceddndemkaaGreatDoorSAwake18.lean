/- awake, reckoned: it answers true in every world. -/
import Derived.Test.YtnigceddndemkaaGreatDoorSAwakeB
namespace Go.Proofs.YtnigceddndemkaaGreatDoor
open Go Go.Eng Go.RowKit
set_option maxRecDepth 100000
theorem OB(w:World):Calls Tryz.prog 16 #[] w λe w'=>e=.returned (.bool true)/\Quiet w w':=
 rC CZ a6n a3B 200 (gs:=[]) (N:=1) rfl rfl (args:=[]) rfl (by kernel_rfl) w (λ_ h=>by cases h)
end Go.Proofs.YtnigceddndemkaaGreatDoor
