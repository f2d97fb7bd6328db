/- Facts of RecordChecks. -/
import Derived.Test.YtekljimefjclgaaGreatDoorSFacts
set_option linter.unusedVariables false
set_option linter.unusedSimpArgs false
set_option linter.unusedSectionVars false
set_option linter.defProp false
set_option maxRecDepth 100000
namespace Go.Proofs.YtekljimefjclgaaGreatDoor
open Go Go.ChangeShapes Go.WideShapes
def we:false=Rows.recordChecksRow.goesBy Tryz.pinned.checked.prog:=by kernel_rfl
def rZ:(Rows.recordChecksRow.inPlace==Tryz.pinned.checked.prog.inPlace 3)=true:=by kernel_rfl
def pu:(Rows.recordChecksRow.unfollowed==Tryz.pinned.checked.prog.unfollowed 3)=true:=by kernel_rfl
def qD:(Rows.recordChecksRow.recurses==Tryz.pinned.checked.prog.recurses 3)=true:=by kernel_rfl
def uA:(Rows.recordChecksRow.named==Tryz.pinned.checked.prog.varsNamed 3)=true:=by kernel_rfl
def tr:joinedFacts Tryz.pinned.checked.prog 3 Tryz.f3 (OpenSpec.ofChange Rows.recordChecksSpec).bare Rows.recordChecksRow=true:=by unfold joinedFacts;rw[rZ,pu,qD,uA,Sh,Jj,Yl,Xq,Iq,GH,MH,YL,afe];kernel_rfl
end Go.Proofs.YtekljimefjclgaaGreatDoor
