/- Facts of the seat's program that each statement wants. -/
import Derived.Test.YtnigceddndemkaaGreatDoorRows
import Derived.Test.YtnigceddndemkaaGreatDoorCards
import Derived.JoinedOf
import Derived.KernelRfl
namespace Go.Proofs.YtnigceddndemkaaGreatDoor
open Go
set_option maxRecDepth 100000
theorem UA:laidOutB Tryz.pinned.checked.prog=true:=by kernel_rfl
theorem L6:mapsRowed Tryz.pinned.checked.prog=true:=by kernel_rfl
theorem ZN:(Tryz.pinned.checked.prog.stops==[])=true:=by kernel_rfl
theorem a0g:(Tryz.pinned.checked.prog.stopKnobs==[])=true:=by kernel_rfl
theorem a0s:true=Tryz.pinned.checked.prog.looks []:=by kernel_rfl
theorem LF:Tryz.pinned.checked.prog.plainKeys=true:=by kernel_rfl
theorem K5:Tryz.pinned.checked.prog.stopsHeard=true:=by kernel_rfl
theorem P3:Tryz.pinned.checked.prog.mayEnter=true:=by kernel_rfl
theorem a0B:Tryz.pinned.checked.prog.liftsFinal=Rows.historyPairsRow.lifted:=by kernel_rfl
theorem a2s:Tryz.pinned.checked.prog.make=some Rows.historyPairsRow.make:=by kernel_rfl
end Go.Proofs.YtnigceddndemkaaGreatDoor
