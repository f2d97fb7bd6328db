/- Facts of HistoryWidens. -/
import Derived.Test.YtmaoneengdafhaaGreatDoorSFacts
set_option linter.unusedVariables false
set_option linter.unusedSimpArgs false
set_option linter.unusedSectionVars false
set_option linter.defProp false
set_option maxRecDepth 100000
namespace Go.Proofs.YtmaoneengdafhaaGreatDoor
open Go Go.ChangeShapes Go.WideShapes
def x8:false=Rows.historyWidensRow.goesBy Tryz.pinned.checked.prog:=by kernel_rfl
def tV:(Rows.historyWidensRow.inPlace==Tryz.pinned.checked.prog.inPlace 4)=true:=by kernel_rfl
def qC:(Rows.historyWidensRow.unfollowed==Tryz.pinned.checked.prog.unfollowed 4)=true:=by kernel_rfl
def sJ:(Rows.historyWidensRow.recurses==Tryz.pinned.checked.prog.recurses 4)=true:=by kernel_rfl
def xg:(Rows.historyWidensRow.named==Tryz.pinned.checked.prog.varsNamed 4)=true:=by kernel_rfl
def vJ:joinedFacts Tryz.pinned.checked.prog 4 Tryz.f4 (OpenSpec.ofChange Rows.historyWidensSpec).bare Rows.historyWidensRow=true:=by unfold joinedFacts;rw[tV,qC,sJ,xg,Uj,Np,aen,aed,M2,Kx,Ru,abY,afw];kernel_rfl
end Go.Proofs.YtmaoneengdafhaaGreatDoor
