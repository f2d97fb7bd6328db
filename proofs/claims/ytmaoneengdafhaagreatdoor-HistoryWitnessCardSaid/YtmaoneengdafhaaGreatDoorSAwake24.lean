/- awake, reckoned: it answers true in every world where the package variables lie. -/
import Derived.Test.YtmaoneengdafhaaGreatDoorSAwakeB
set_option linter.defProp false
set_option maxRecDepth 100000
namespace Go.Proofs.YtmaoneengdafhaaGreatDoor
open Go Go.Eng Go.RowKit
def L2(w:World)(hl:GN lU w.heap):Calls Tryz.prog 7 #[] w λe w'=>e=.returned (.bool true)/\eG w w':=
 rX Dr agn ack 200 (gs:=lU) (N:=7) rfl rfl (args:=[]) rfl (by kernel_rfl) w hl
end Go.Proofs.YtmaoneengdafhaaGreatDoor
