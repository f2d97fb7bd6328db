/- Facts of the seat's program that each statement wants. -/
import Derived.Test.YtekljimefjclgaaGreatDoorRows
import Derived.Test.YtekljimefjclgaaGreatDoorCards
import Derived.JoinedOf
import Derived.KernelRfl
set_option linter.unusedVariables false
set_option linter.unusedSimpArgs false
set_option linter.unusedSectionVars false
set_option linter.defProp false
set_option maxRecDepth 100000
namespace Go.Proofs.YtekljimefjclgaaGreatDoor
open Go
def Mz:laidOutB Tryz.pinned.checked.prog=true:=by kernel_rfl
def F5:mapsRowed Tryz.pinned.checked.prog=true:=by kernel_rfl
def SU:(Tryz.pinned.checked.prog.stops==[])=true:=by kernel_rfl
def UN:(Tryz.pinned.checked.prog.stopKnobs==[])=true:=by kernel_rfl
def TW:false=Tryz.pinned.checked.prog.looks []:=by kernel_rfl
def Fy:Tryz.pinned.checked.prog.plainKeys=true:=by kernel_rfl
def EB:Tryz.pinned.checked.prog.stopsHeard=true:=by kernel_rfl
def JB:Tryz.pinned.checked.prog.mayEnter=true:=by kernel_rfl
def SK:Tryz.pinned.checked.prog.liftsFinal=Rows.recordChecksRow.lifted:=by kernel_rfl
def WJ:Tryz.pinned.checked.prog.make=some Rows.recordChecksRow.make:=by kernel_rfl
end Go.Proofs.YtekljimefjclgaaGreatDoor
