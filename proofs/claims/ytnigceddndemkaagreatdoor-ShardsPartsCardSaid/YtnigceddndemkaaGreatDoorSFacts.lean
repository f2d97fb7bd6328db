/- Facts of the seat's program that each statement wants. -/
import Derived.Test.YtnigceddndemkaaGreatDoorRows
import Derived.Test.YtnigceddndemkaaGreatDoorCards
import Derived.JoinedOf
import Derived.KernelRfl
namespace Go.Proofs.YtnigceddndemkaaGreatDoor
open Go
set_option maxRecDepth 100000
theorem Z8:laidOutB Tryz.pinned.checked.prog=true:=by kernel_rfl
theorem U4:mapsRowed Tryz.pinned.checked.prog=true:=by kernel_rfl
theorem a5a:(Tryz.pinned.checked.prog.stops==[])=true:=by kernel_rfl
theorem a4u:(Tryz.pinned.checked.prog.stopKnobs==[])=true:=by kernel_rfl
theorem a5r:true=Tryz.pinned.checked.prog.looks []:=by kernel_rfl
theorem UR:Tryz.pinned.checked.prog.plainKeys=true:=by kernel_rfl
theorem QC:Tryz.pinned.checked.prog.stopsHeard=true:=by kernel_rfl
theorem Y3:Tryz.pinned.checked.prog.mayEnter=true:=by kernel_rfl
theorem a3R:Tryz.pinned.checked.prog.liftsFinal=Rows.historyPairsRow.lifted:=by kernel_rfl
theorem a5S:Tryz.pinned.checked.prog.make=some Rows.historyPairsRow.make:=by kernel_rfl
end Go.Proofs.YtnigceddndemkaaGreatDoor
