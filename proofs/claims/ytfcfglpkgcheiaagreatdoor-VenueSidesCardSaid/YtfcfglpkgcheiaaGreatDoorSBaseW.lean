/- What the seat's reckoned calls of the venue rest on. -/
import Derived.Test.YtfcfglpkgcheiaaGreatDoorEngB
import Derived.Test.YtfcfglpkgcheiaaGreatDoorOpnA
import Derived.Test.YtfcfglpkgcheiaaGreatDoorSTab
import Derived.Test.YtfcfglpkgcheiaaGreatDoorSGlob
import Derived.Test.YtfcfglpkgcheiaaGreatDoorChecked
namespace Go.Proofs.YtfcfglpkgcheiaaGreatDoor
open Go Go.Eng
/-- nothing is known of the package variables -/
@[reducible] noncomputable def plansN : PlanTab := trieTab (fun id ops => T.get (path (planKey id ops)) tab) []
noncomputable instance plansW : PlanTab := trieTab (fun id ops => T.get (path (planKey id ops)) tab) [0, 2, 3] (fun t => Nat.beq t 70)
def nameW : List ByteArray := [⟨#[104, 97, 108, 108]⟩, ⟨#[98, 111, 120]⟩]
noncomputable def nameVal (args : List Value) (_ : AW) : Option Value := match args with
  | [.string b] => (match nameW.any (bytesEq b) with
    | true => some (.bool true)
    | false => none)
  | _ => none
noncomputable def specW : Eng.Callee := specL [(47, quietC 47 joinVal), (60, copyC 60 70), (51, quietC 51 nameVal)]
def badW : List Nat := [2, 3, 4, 5, 8, 10, 11, 13, 15, 17, 19, 21, 22, 23, 25, 27, 28, 29, 36, 37, 38, 41, 44, 56, 66, 67, 110, 143]
def badN : List Nat := [2, 3, 4, 5, 6, 7, 8, 9, 10, 11, 12, 13, 14, 15, 16, 17, 18, 19, 20, 21, 22, 23, 24, 25, 26, 27, 28, 29, 30, 31, 32, 33, 34, 35, 36, 37, 38, 39, 40, 41, 42, 43, 44, 45, 46, 47, 48, 49, 50, 52, 53, 54, 55, 56, 57, 58, 59, 60, 61, 62, 63, 65, 66, 67, 68, 69, 70, 71, 72, 73, 74, 75, 76, 77, 78, 80, 81, 82, 83, 84, 92, 93, 94, 95, 96, 97, 99, 100, 101, 102, 107, 108, 109, 110, 143]
theorem followsW : Tryz.prog.follows .mixedOrders = true := by kernel_rfl
theorem lookedW : funsOk [0, 2, 3] badW 0 Tryz.prog.funcs.toList = true := by kernel_rfl
theorem lookedN : funsOk [] badN 0 Tryz.prog.funcs.toList = true := by kernel_rfl
end Go.Proofs.YtfcfglpkgcheiaaGreatDoor
