/- Facts of the seat's program that each statement wants. -/
import Derived.Test.YtmaoneengdafhaaGreatDoorRows
import Derived.Test.YtmaoneengdafhaaGreatDoorCards
import Derived.JoinedOf
import Derived.KernelRfl
set_option linter.defProp false
set_option maxRecDepth 100000
namespace Go.Proofs.YtmaoneengdafhaaGreatDoor
open Go
def aeP:laidOutB Tryz.pinned.checked.prog=true:=by kernel_rfl
def VG:mapsRowed Tryz.pinned.checked.prog=true:=by kernel_rfl
def akg:(Tryz.pinned.checked.prog.stops==[])=true:=by kernel_rfl
def ajz:(Tryz.pinned.checked.prog.stopKnobs==[])=true:=by kernel_rfl
def al0:false=Tryz.pinned.checked.prog.looks []:=by kernel_rfl
def UQ:Tryz.pinned.checked.prog.plainKeys=true:=by kernel_rfl
def QB:Tryz.pinned.checked.prog.stopsHeard=true:=by kernel_rfl
def Y2:Tryz.pinned.checked.prog.mayEnter=true:=by kernel_rfl
def aj6:Tryz.pinned.checked.prog.liftsFinal=Rows.historyWitnessRow.lifted:=by kernel_rfl
def apW:Tryz.pinned.checked.prog.make=some Rows.historyWitnessRow.make:=by kernel_rfl
end Go.Proofs.YtmaoneengdafhaaGreatDoor
