/- What the seat's reckoned calls of the venue rest on. -/
import Derived.Test.YtfcfglpkgcheiaaDoorEngB
import Derived.Test.YtfcfglpkgcheiaaDoorOpnA
import Derived.Test.YtfcfglpkgcheiaaDoorSTab
import Derived.Test.YtfcfglpkgcheiaaDoorSGlob
import Derived.Test.YtfcfglpkgcheiaaDoorChecked
namespace Go.Proofs.YtfcfglpkgcheiaaDoor
open Go Go.Eng
/-- nothing is known of the package variables -/
@[reducible] noncomputable def plansN : PlanTab := trieTab (fun id ops => T.get (path (planKey id ops)) tab) []
noncomputable instance plansW : PlanTab := trieTab (fun id ops => T.get (path (planKey id ops)) tab) [1, 3, 4] (fun t => Nat.beq t 105)
def nameW : List ByteArray := [⟨#[104, 97, 108, 108]⟩, ⟨#[98, 111, 120]⟩]
noncomputable def nameVal (args : List Value) (_ : AW) : Option Value := match args with
  | [.string b] => (match nameW.any (bytesEq b) with
    | true => some (.bool true)
    | false => none)
  | _ => none
noncomputable def specW : Eng.Callee := specL [(69, quietC 69 joinVal), (83, copyC 83 105), (76, quietC 76 nameVal)]
def badW : List Nat := [2, 3, 4, 5, 6, 7, 8, 9, 10, 11, 12, 13, 14, 15, 16, 17, 18, 19, 20, 21, 22, 23, 24, 25, 26, 27, 28, 29, 37, 40, 41, 43, 44, 45, 46, 47, 49, 50, 51, 52, 61, 62, 63, 64, 65, 66, 81, 82, 101, 102, 134, 168]
def badN : List Nat := 106 :: 132 :: 133 :: badW
theorem followsW : Tryd.prog.follows .mixedOrders = true := by kernel_rfl
theorem lookedW : funsOk [1, 3, 4] badW 0 Tryd.prog.funcs.toList = true := by kernel_rfl
theorem lookedN : funsOk [] badN 0 Tryd.prog.funcs.toList = true := by kernel_rfl
end Go.Proofs.YtfcfglpkgcheiaaDoor
