/- Facts of the seat's program that each statement wants. -/
import Derived.Test.YtmaoneengdafhaaGreatDoorRows
import Derived.Test.YtmaoneengdafhaaGreatDoorCards
import Derived.JoinedOf
import Derived.KernelRfl
set_option linter.unusedVariables false
set_option linter.unusedSimpArgs false
set_option linter.unusedSectionVars false
set_option linter.defProp false
set_option maxRecDepth 100000
namespace Go.Proofs.YtmaoneengdafhaaGreatDoor
open Go
def Uj:laidOutB Tryz.pinned.checked.prog=true:=by kernel_rfl
def Np:mapsRowed Tryz.pinned.checked.prog=true:=by kernel_rfl
def aen:(Tryz.pinned.checked.prog.stops==[])=true:=by kernel_rfl
def aed:(Tryz.pinned.checked.prog.stopKnobs==[])=true:=by kernel_rfl
def ac5:false=Tryz.pinned.checked.prog.looks []:=by kernel_rfl
def M2:Tryz.pinned.checked.prog.plainKeys=true:=by kernel_rfl
def Kx:Tryz.pinned.checked.prog.stopsHeard=true:=by kernel_rfl
def Ru:Tryz.pinned.checked.prog.mayEnter=true:=by kernel_rfl
def abY:Tryz.pinned.checked.prog.liftsFinal=Rows.historyWitnessRow.lifted:=by kernel_rfl
def afw:Tryz.pinned.checked.prog.make=some Rows.historyWitnessRow.make:=by kernel_rfl
end Go.Proofs.YtmaoneengdafhaaGreatDoor
