/- Facts of RecordLocks. -/
import Derived.Test.YtekljimefjclgaaGreatDoorSFacts
set_option linter.unusedVariables false
set_option linter.unusedSimpArgs false
set_option linter.unusedSectionVars false
set_option linter.defProp false
set_option maxRecDepth 100000
namespace Go.Proofs.YtekljimefjclgaaGreatDoor
open Go Go.ChangeShapes Go.WideShapes
def ux:false=Rows.recordLocksRow.goesBy Tryz.pinned.checked.prog:=by kernel_rfl
def qS:(Rows.recordLocksRow.inPlace==Tryz.pinned.checked.prog.inPlace 4)=true:=by kernel_rfl
def n8:(Rows.recordLocksRow.unfollowed==Tryz.pinned.checked.prog.unfollowed 4)=true:=by kernel_rfl
def pg:(Rows.recordLocksRow.recurses==Tryz.pinned.checked.prog.recurses 4)=true:=by kernel_rfl
def tZ:(Rows.recordLocksRow.named==Tryz.pinned.checked.prog.varsNamed 4)=true:=by kernel_rfl
def sq:joinedFacts Tryz.pinned.checked.prog 4 Tryz.f4 (OpenSpec.ofChange Rows.recordLocksSpec).bare Rows.recordLocksRow=true:=by unfold joinedFacts;rw[qS,n8,pg,tZ,Mz,F5,SU,UN,Fy,EB,JB,SK,WJ];kernel_rfl
end Go.Proofs.YtekljimefjclgaaGreatDoor
