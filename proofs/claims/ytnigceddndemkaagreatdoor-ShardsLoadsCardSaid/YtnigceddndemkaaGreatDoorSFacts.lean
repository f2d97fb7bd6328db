/- Facts of the seat's program that each statement wants. -/
import Derived.Test.YtnigceddndemkaaGreatDoorRows
import Derived.Test.YtnigceddndemkaaGreatDoorCards
import Derived.JoinedOf
import Derived.KernelRfl
namespace Go.Proofs.YtnigceddndemkaaGreatDoor
open Go
set_option maxRecDepth 100000
theorem a6y:laidOutB Tryz.pinned.checked.prog=true:=by kernel_rfl
theorem a1G:mapsRowed Tryz.pinned.checked.prog=true:=by kernel_rfl
theorem aBI:(Tryz.pinned.checked.prog.stops==[])=true:=by kernel_rfl
theorem aA1:(Tryz.pinned.checked.prog.stopKnobs==[])=true:=by kernel_rfl
theorem aBM:true=Tryz.pinned.checked.prog.looks []:=by kernel_rfl
theorem a1X:Tryz.pinned.checked.prog.plainKeys=true:=by kernel_rfl
theorem ZY:Tryz.pinned.checked.prog.stopsHeard=true:=by kernel_rfl
theorem a5D:Tryz.pinned.checked.prog.mayEnter=true:=by kernel_rfl
theorem aCd:Tryz.pinned.checked.prog.liftsFinal=Rows.historyPairsRow.lifted:=by kernel_rfl
theorem aCH:Tryz.pinned.checked.prog.make=some Rows.historyPairsRow.make:=by kernel_rfl
end Go.Proofs.YtnigceddndemkaaGreatDoor
