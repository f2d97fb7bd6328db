/- The example of the document, reckoned: it answers true in every world where the package variable lies. -/
import Derived.Test.YtekljimefjclgaaGreatDoorSCheck
set_option linter.unusedVariables false
set_option linter.unusedSimpArgs false
set_option linter.unusedSectionVars false
set_option linter.defProp false
set_option maxRecDepth 100000
namespace Go.Proofs.YtekljimefjclgaaGreatDoor
open Go Go.Eng Go.RowKit
def IH:∀b∈Na,∀w:World,rl [(0,[])] w.heap->Calls Tryz.prog 70 #[.string b] w λe w'=>e=.returned (.bool true)/\cW w w':=by
 intro b hb w hl;obtain rfl:b=⟨#[115]⟩:=by simpa[Na]using hb
 exact tS C4 HB TA 100 (gs:=[(0,[])]) (N:=4) rfl rfl (args:=[.string ⟨#[115]⟩]) rfl (by kernel_rfl) w hl
def NH:bB Tryz.prog aj.ng (UA 70 Na (Rk 75)):=PI (by decide) Tryz.func70 (by kernel_rfl) rfl LK IH
def C8(w:World)(hl:rl iO w.heap):Calls Tryz.prog 7 #[] w λe w'=>e=.returned (.bool true)/\cW w w':=
 tS C4 (vZ (F:=70) HB) NH 200 (gs:=iO) (N:=4) rfl rfl (args:=[]) rfl (by kernel_rfl) w hl
end Go.Proofs.YtekljimefjclgaaGreatDoor
