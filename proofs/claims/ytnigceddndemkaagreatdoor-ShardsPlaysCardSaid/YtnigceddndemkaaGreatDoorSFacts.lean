/- Facts of the seat's program that each statement wants. -/
import Derived.Test.YtnigceddndemkaaGreatDoorRows
import Derived.Test.YtnigceddndemkaaGreatDoorCards
import Derived.JoinedOf
import Derived.KernelRfl
namespace Go.Proofs.YtnigceddndemkaaGreatDoor
open Go
set_option maxRecDepth 100000
theorem a8v:laidOutB Tryz.pinned.checked.prog=true:=by kernel_rfl
theorem a2F:mapsRowed Tryz.pinned.checked.prog=true:=by kernel_rfl
theorem aBn:(Tryz.pinned.checked.prog.stops==[])=true:=by kernel_rfl
theorem aBi:(Tryz.pinned.checked.prog.stopKnobs==[])=true:=by kernel_rfl
theorem aBd:true=Tryz.pinned.checked.prog.looks []:=by kernel_rfl
theorem a3c:Tryz.pinned.checked.prog.plainKeys=true:=by kernel_rfl
theorem a1e:Tryz.pinned.checked.prog.stopsHeard=true:=by kernel_rfl
theorem a5l:Tryz.pinned.checked.prog.mayEnter=true:=by kernel_rfl
theorem aB5:Tryz.pinned.checked.prog.liftsFinal=Rows.historyPairsRow.lifted:=by kernel_rfl
theorem aDY:Tryz.pinned.checked.prog.make=some Rows.historyPairsRow.make:=by kernel_rfl
end Go.Proofs.YtnigceddndemkaaGreatDoor
