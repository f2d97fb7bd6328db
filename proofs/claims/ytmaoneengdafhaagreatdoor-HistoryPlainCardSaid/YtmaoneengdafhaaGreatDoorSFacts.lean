/- Facts of the seat's program that each statement wants. -/
import Derived.Test.YtmaoneengdafhaaGreatDoorRows
import Derived.Test.YtmaoneengdafhaaGreatDoorCards
import Derived.JoinedOf
import Derived.KernelRfl
set_option linter.unusedVariables false
set_option linter.unusedSimpArgs false
set_option linter.unusedSectionVars false
set_option linter.defProp false
set_option maxRecDepth 100000
namespace Go.Proofs.YtmaoneengdafhaaGreatDoor
open Go
def aa1:laidOutB Tryz.pinned.checked.prog=true:=by kernel_rfl
def Uw:mapsRowed Tryz.pinned.checked.prog=true:=by kernel_rfl
def amh:(Tryz.pinned.checked.prog.stops==[])=true:=by kernel_rfl
def amv:(Tryz.pinned.checked.prog.stopKnobs==[])=true:=by kernel_rfl
def alS:false=Tryz.pinned.checked.prog.looks []:=by kernel_rfl
def TN:Tryz.pinned.checked.prog.plainKeys=true:=by kernel_rfl
def RZ:Tryz.pinned.checked.prog.stopsHeard=true:=by kernel_rfl
def YF:Tryz.pinned.checked.prog.mayEnter=true:=by kernel_rfl
def ajE:Tryz.pinned.checked.prog.liftsFinal=Rows.historyWitnessRow.lifted:=by kernel_rfl
def an4:Tryz.pinned.checked.prog.make=some Rows.historyWitnessRow.make:=by kernel_rfl
end Go.Proofs.YtmaoneengdafhaaGreatDoor
