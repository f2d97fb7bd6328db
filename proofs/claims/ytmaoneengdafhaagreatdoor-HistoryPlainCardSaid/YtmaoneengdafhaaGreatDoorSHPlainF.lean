/- Facts of HistoryPlain. -/
import Derived.Test.YtmaoneengdafhaaGreatDoorSFacts
set_option linter.unusedVariables false
set_option linter.unusedSimpArgs false
set_option linter.unusedSectionVars false
set_option linter.defProp false
set_option maxRecDepth 100000
namespace Go.Proofs.YtmaoneengdafhaaGreatDoor
open Go Go.ChangeShapes Go.WideShapes
def C7:false=Rows.historyPlainRow.goesBy Tryz.pinned.checked.prog:=by kernel_rfl
def zK:(Rows.historyPlainRow.inPlace==Tryz.pinned.checked.prog.inPlace 5)=true:=by kernel_rfl
def wt:(Rows.historyPlainRow.unfollowed==Tryz.pinned.checked.prog.unfollowed 5)=true:=by kernel_rfl
def yq:(Rows.historyPlainRow.recurses==Tryz.pinned.checked.prog.recurses 5)=true:=by kernel_rfl
def Cn:(Rows.historyPlainRow.named==Tryz.pinned.checked.prog.varsNamed 5)=true:=by kernel_rfl
def Bq:joinedFacts Tryz.pinned.checked.prog 5 Tryz.f5 (OpenSpec.ofChange Rows.historyPlainSpec).bare Rows.historyPlainRow=true:=by unfold joinedFacts;rw[zK,wt,yq,Cn,aa1,Uw,amh,amv,TN,RZ,YF,ajE,an4];kernel_rfl
end Go.Proofs.YtmaoneengdafhaaGreatDoor
