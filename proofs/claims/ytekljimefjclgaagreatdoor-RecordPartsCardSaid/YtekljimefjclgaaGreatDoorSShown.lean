/- The example of the document, reckoned: it answers true in every world where the package variable lies. -/
import Derived.Test.YtekljimefjclgaaGreatDoorSCheck
set_option linter.unusedVariables false
set_option linter.unusedSimpArgs false
set_option linter.unusedSectionVars false
set_option linter.defProp false
set_option maxRecDepth 100000
namespace Go.Proofs.YtekljimefjclgaaGreatDoor
open Go Go.Eng Go.RowKit
def Ql:∀b∈SJ,∀w:World,vI [(0,[])] w.heap->Calls Tryz.prog 70 #[.string b] w λe w'=>e=.returned (.bool true)/\ej w w':=by
 intro b hb w hl;obtain rfl:b=⟨#[115]⟩:=by simpa[SJ]using hb
 exact yh IX Oh adG 100 (gs:=[(0,[])]) (N:=4) rfl rfl (args:=[.string ⟨#[115]⟩]) rfl (by kernel_rfl) w hl
def SB:cw Tryz.prog ak.ng (acp 70 SJ (chk 75)):=XE (by decide) Tryz.func70 (by kernel_rfl) rfl TP Ql
def Kb(w:World)(hl:vI kT w.heap):Calls Tryz.prog 7 #[] w λe w'=>e=.returned (.bool true)/\ej w w':=
 yh IX (AA (F:=70) Oh) SB 200 (gs:=kT) (N:=4) rfl rfl (args:=[]) rfl (by kernel_rfl) w hl
end Go.Proofs.YtekljimefjclgaaGreatDoor
