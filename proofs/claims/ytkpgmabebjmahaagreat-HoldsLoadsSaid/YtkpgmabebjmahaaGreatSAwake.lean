/- awake, reckoned: it answers true in every world. -/
import Derived.Test.YtkpgmabebjmahaaGreatEngB
import Derived.Test.YtkpgmabebjmahaaGreatOpnA
import Derived.Test.YtkpgmabebjmahaaGreatSTab
import Derived.Test.YtkpgmabebjmahaaGreatChecked
import Derived.KernelRfl
namespace Go.Proofs.YtkpgmabebjmahaaGreat
open Go Go.Eng Go.RowKit
noncomputable instance (priority := low) plansW : PlanTab := trieTab (fun id ops => T.get (path (planKey id ops)) tab) []
theorem followsW : Tryz.prog.follows .mixedOrders = true := by kernel_rfl
def badV : List Nat := [2, 3, 5, 6, 8, 9, 17, 18, 20, 21, 22, 23, 24, 25, 26, 27, 28, 29, 30, 31, 32, 45, 47, 48, 49, 50, 51, 52, 53, 54, 55, 62, 63, 64, 66, 67, 68, 69, 70, 71, 72, 73, 74, 75, 76, 77, 81, 82, 83, 84, 85, 86, 87, 88, 89, 90, 91, 92, 93, 94, 95, 96, 97, 98, 99]
theorem lookedV : funsOk [] badV 0 Tryz.prog.funcs.toList = true := by kernel_rfl
theorem awake4_calls (w : World) : Calls Tryz.prog 4 #[] w fun e w' => e = .returned (.bool true) ∧ Quiet w w' :=
  closed_quiet followsW lookedV noSpec 100 (gs := []) (N := 1) rfl rfl (args := []) rfl (by kernel_rfl) w (fun _ h => by cases h)
end Go.Proofs.YtkpgmabebjmahaaGreat
