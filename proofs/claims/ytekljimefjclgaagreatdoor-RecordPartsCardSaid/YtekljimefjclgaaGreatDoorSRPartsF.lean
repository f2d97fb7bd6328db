/- Facts of RecordParts. -/
import Derived.Test.YtekljimefjclgaaGreatDoorSFacts
set_option linter.unusedVariables false
set_option linter.unusedSimpArgs false
set_option linter.unusedSectionVars false
set_option linter.defProp false
set_option maxRecDepth 100000
namespace Go.Proofs.YtekljimefjclgaaGreatDoor
open Go Go.ChangeShapes Go.WideShapes
def zp:false=Rows.recordPartsRow.goesBy Tryz.pinned.checked.prog:=by kernel_rfl
def vz:(Rows.recordPartsRow.inPlace==Tryz.pinned.checked.prog.inPlace 5)=true:=by kernel_rfl
def rS:(Rows.recordPartsRow.unfollowed==Tryz.pinned.checked.prog.unfollowed 5)=true:=by kernel_rfl
def uf:(Rows.recordPartsRow.recurses==Tryz.pinned.checked.prog.recurses 5)=true:=by kernel_rfl
def wZ:(Rows.recordPartsRow.named==Tryz.pinned.checked.prog.varsNamed 5)=true:=by kernel_rfl
def wd:joinedFacts Tryz.pinned.checked.prog 5 Tryz.f5 (OpenSpec.ofChange Rows.recordPartsSpec).bare Rows.recordPartsRow=true:=by unfold joinedFacts;rw[vz,rS,uf,wZ,WD,MV,aaJ,adQ,Mo,Kc,Pr,acb,afy];kernel_rfl
end Go.Proofs.YtekljimefjclgaaGreatDoor
