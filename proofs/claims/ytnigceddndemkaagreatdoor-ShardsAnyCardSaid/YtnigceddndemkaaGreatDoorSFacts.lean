/- Facts of the seat's program that each statement wants. -/
import Derived.Test.YtnigceddndemkaaGreatDoorRows
import Derived.Test.YtnigceddndemkaaGreatDoorCards
import Derived.JoinedOf
import Derived.KernelRfl
namespace Go.Proofs.YtnigceddndemkaaGreatDoor
open Go
set_option maxRecDepth 100000
theorem a4i:laidOutB Tryz.pinned.checked.prog=true:=by kernel_rfl
theorem a0t:mapsRowed Tryz.pinned.checked.prog=true:=by kernel_rfl
theorem a9b:(Tryz.pinned.checked.prog.stops==[])=true:=by kernel_rfl
theorem a9N:(Tryz.pinned.checked.prog.stopKnobs==[])=true:=by kernel_rfl
theorem a9p:true=Tryz.pinned.checked.prog.looks []:=by kernel_rfl
theorem Z9:Tryz.pinned.checked.prog.plainKeys=true:=by kernel_rfl
theorem XF:Tryz.pinned.checked.prog.stopsHeard=true:=by kernel_rfl
theorem a1K:Tryz.pinned.checked.prog.mayEnter=true:=by kernel_rfl
theorem a8P:Tryz.pinned.checked.prog.liftsFinal=Rows.historyPairsRow.lifted:=by kernel_rfl
theorem aBc:Tryz.pinned.checked.prog.make=some Rows.historyPairsRow.make:=by kernel_rfl
end Go.Proofs.YtnigceddndemkaaGreatDoor
