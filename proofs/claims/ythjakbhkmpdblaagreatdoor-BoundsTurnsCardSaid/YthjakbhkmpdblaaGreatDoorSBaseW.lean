/- What the seat's reckoned calls rest on. -/
import Derived.Test.YthjakbhkmpdblaaGreatDoorPartC
import Derived.Test.YthjakbhkmpdblaaGreatDoorChecked
namespace Go.Proofs.YthjakbhkmpdblaaGreatDoor
open Go Go.Eng
noncomputable instance (priority := low) plansW : PlanTab := trieTab (fun id ops => T.get (path (planKey id ops)) tab) [0]
def nameW : List ByteArray := [⟨#[97]⟩, ⟨#[98]⟩]
def badW : List Nat := [2, 3, 5, 8, 10, 12, 21, 22, 23, 24, 26, 51, 52, 54, 71, 72, 81, 120, 121, 122, 123, 124, 155, 156, 158, 172, 233, 274, 357, 373]
theorem followsW : Tryz.prog.follows .mixedOrders = true := by kernel_rfl
theorem lookedW : funsOk [0] badW 0 Tryz.prog.funcs.toList = true := by kernel_rfl
end Go.Proofs.YthjakbhkmpdblaaGreatDoor
