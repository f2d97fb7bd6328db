/- awake, reckoned: it answers true in every world where the package variables lie. -/
import Derived.Test.YtmaoneengdafhaaGreatDoorSAwakeB
set_option linter.unusedVariables false
set_option linter.unusedSimpArgs false
set_option linter.unusedSectionVars false
set_option linter.defProp false
set_option maxRecDepth 100000
namespace Go.Proofs.YtmaoneengdafhaaGreatDoor
open Go Go.Eng Go.RowKit
def Gi(w:World)(hl:BC jz w.heap):Calls Tryz.prog 7 #[] w λe w'=>e=.returned (.bool true)/\dx w w':=
 oy zi ZK SS 200 (gs:=jz) (N:=7) rfl rfl (args:=[]) rfl (by kernel_rfl) w hl
end Go.Proofs.YtmaoneengdafhaaGreatDoor
