/- Facts of the seat's program that each statement wants. -/
import Derived.Test.YtekljimefjclgaaGreatDoorRows
import Derived.Test.YtekljimefjclgaaGreatDoorCards
import Derived.JoinedOf
import Derived.KernelRfl
set_option linter.unusedVariables false
set_option linter.unusedSimpArgs false
set_option linter.unusedSectionVars false
set_option linter.defProp false
set_option maxRecDepth 100000
namespace Go.Proofs.YtekljimefjclgaaGreatDoor
open Go
def WD:laidOutB Tryz.pinned.checked.prog=true:=by kernel_rfl
def MV:mapsRowed Tryz.pinned.checked.prog=true:=by kernel_rfl
def aaJ:(Tryz.pinned.checked.prog.stops==[])=true:=by kernel_rfl
def adQ:(Tryz.pinned.checked.prog.stopKnobs==[])=true:=by kernel_rfl
def aaL:false=Tryz.pinned.checked.prog.looks []:=by kernel_rfl
def Mo:Tryz.pinned.checked.prog.plainKeys=true:=by kernel_rfl
def Kc:Tryz.pinned.checked.prog.stopsHeard=true:=by kernel_rfl
def Pr:Tryz.pinned.checked.prog.mayEnter=true:=by kernel_rfl
def acb:Tryz.pinned.checked.prog.liftsFinal=Rows.recordChecksRow.lifted:=by kernel_rfl
def afy:Tryz.pinned.checked.prog.make=some Rows.recordChecksRow.make:=by kernel_rfl
end Go.Proofs.YtekljimefjclgaaGreatDoor
