/- Facts of the seat's program that each statement wants. -/
import Derived.Test.YthjakbhkmpdblaaGreatDoorRows
import Derived.Test.YthjakbhkmpdblaaGreatDoorCards
import Derived.JoinedOf
import Derived.KernelRfl
set_option maxRecDepth 100000
namespace Go.Proofs.YthjakbhkmpdblaaGreatDoor
open Go
theorem sLaidOut : laidOutB Tryz.pinned.checked.prog = true := by kernel_rfl
theorem sMapsRowed : mapsRowed Tryz.pinned.checked.prog = true := by kernel_rfl
theorem sStops : (Tryz.pinned.checked.prog.stops == []) = true := by kernel_rfl
theorem sKnobs : (Tryz.pinned.checked.prog.stopKnobs == []) = true := by kernel_rfl
theorem sLooks : true = Tryz.pinned.checked.prog.looks [] := by kernel_rfl
theorem sPlainKeys : Tryz.pinned.checked.prog.plainKeys = false := by kernel_rfl
theorem sStopsHeard : Tryz.pinned.checked.prog.stopsHeard = true := by kernel_rfl
theorem sMayEnter : Tryz.pinned.checked.prog.mayEnter = true := by kernel_rfl
theorem sLifts : Tryz.pinned.checked.prog.liftsFinal = Rows.boundsTurnsRow.lifted := by kernel_rfl
theorem sMake : Tryz.pinned.checked.prog.make = some Rows.boundsTurnsRow.make := by kernel_rfl
end Go.Proofs.YthjakbhkmpdblaaGreatDoor
