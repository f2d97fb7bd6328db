/- The example of the document, reckoned: it answers true in every world where the package variable lies. -/
import Derived.Test.YtekljimefjclgaaGreatDoorSCheck
set_option linter.unusedVariables false
set_option linter.unusedSimpArgs false
set_option linter.unusedSectionVars false
set_option linter.defProp false
set_option maxRecDepth 100000
namespace Go.Proofs.YtekljimefjclgaaGreatDoor
open Go Go.Eng Go.RowKit
def Mv:∀b∈SM,∀w:World,tI [(0,[])] w.heap->Calls Tryz.prog 70 #[.string b] w λe w'=>e=.returned (.bool true)/\dH w w':=by
 intro b hb w hl;obtain rfl:b=⟨#[115]⟩:=by simpa[SM]using hb
 exact wA Hb Lv ZZ 100 (gs:=[(0,[])]) (N:=4) rfl rfl (args:=[.string ⟨#[115]⟩]) rfl (by kernel_rfl) w hl
def SQ:bV Tryz.prog ak.ng (Yy 70 SM (WK 75)):=Vg (by decide) Tryz.func70 (by kernel_rfl) rfl Sr Mv
def Gb(w:World)(hl:tI jF w.heap):Calls Tryz.prog 7 #[] w λe w'=>e=.returned (.bool true)/\dH w w':=
 wA Hb (yS (F:=70) Lv) SQ 200 (gs:=jF) (N:=4) rfl rfl (args:=[]) rfl (by kernel_rfl) w hl
end Go.Proofs.YtekljimefjclgaaGreatDoor
