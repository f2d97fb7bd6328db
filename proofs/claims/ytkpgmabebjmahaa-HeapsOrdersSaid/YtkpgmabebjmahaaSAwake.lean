/- awake, reckoned: it answers true in every world. -/
import Derived.Test.YtkpgmabebjmahaaEngB
import Derived.Test.YtkpgmabebjmahaaOpnA
import Derived.Test.YtkpgmabebjmahaaSTab
import Derived.Test.YtkpgmabebjmahaaChecked
import Derived.KernelRfl
namespace Go.Proofs.Ytkpgmabebjmahaa
open Go Go.Eng Go.RowKit
noncomputable instance (priority := low) plansW : PlanTab := trieTab (fun id ops => T.get (path (planKey id ops)) tab) []
def badW : List Nat := [2, 3, 4, 5, 6, 7, 8, 9, 10, 11, 13, 14, 17, 18, 19, 20, 21, 22, 23, 27, 28, 29, 30, 31, 32, 33, 34, 36, 37, 39, 40, 41, 42, 43, 44, 45, 46, 47, 48, 49, 52, 55, 56, 57, 58, 59, 60, 61, 62, 63, 64, 65, 66, 67, 72, 74, 75, 76, 77, 78, 79, 80, 81, 82, 83, 84, 85, 86, 87, 88, 89, 90, 91, 92, 93, 95, 96, 97, 98, 99, 100, 101, 102, 105, 106, 107, 108, 109, 110, 111, 112, 113, 114, 115, 116, 117, 118, 119, 120, 121, 122, 123, 124, 125, 126, 127, 128, 129, 130, 131, 132, 133, 134, 135, 136, 137, 138, 139, 140, 141, 142, 143, 144, 145, 146, 147, 148, 149, 150, 151, 152, 153, 154, 155, 156, 157, 158, 159, 160, 161, 162, 163, 164, 165, 166, 195, 196, 197, 198, 199, 200, 201, 202, 203, 204, 205]
theorem followsW : Try.prog.follows .mixedOrders = true := by kernel_rfl
theorem lookedW : funsOk [] badW 0 Try.prog.funcs.toList = true := by kernel_rfl
theorem awake_calls (w : World) : Calls Try.prog 12 #[] w fun e w' => e = .returned (.bool true) ∧ Quiet w w' :=
  closed_quiet followsW lookedW noSpec 100 (gs := []) (N := 1) rfl rfl (args := []) rfl (by kernel_rfl) w (fun _ h => by cases h)
def badV : List Nat := [2, 3, 4, 5, 6, 7, 8, 9, 10, 11, 12, 13, 14, 15, 16, 23, 24, 25, 26, 27, 28, 29, 30, 31, 32, 33, 34, 35, 36, 37, 38, 39, 40, 41, 42, 43, 44, 45, 47, 48, 50, 51, 52, 54, 66, 67, 68, 69, 72, 73, 74, 75, 76, 77, 78, 79, 80, 81, 82, 83, 84, 85, 86, 87, 88, 89, 90, 91, 92, 100, 101, 102, 103, 105, 106, 107, 108, 109, 110, 111, 112, 113, 114, 115, 116, 117, 120, 121, 122, 123, 125, 126, 127, 128, 129, 130, 131, 132, 133, 134, 135, 136, 137, 138, 139, 140, 141, 142, 143, 144, 145, 146, 147, 148, 149, 150, 151, 152, 153, 154, 155, 156, 157, 158, 159, 160, 161, 162, 163, 164, 165, 166, 190, 191, 192, 193, 195, 196, 197, 198, 199, 200]
theorem lookedV : funsOk [] badV 0 Try.prog.funcs.toList = true := by kernel_rfl
theorem awake17_calls (w : World) : Calls Try.prog 17 #[] w fun e w' => e = .returned (.bool true) ∧ Quiet w w' :=
  closed_quiet followsW lookedV noSpec 100 (gs := []) (N := 1) rfl rfl (args := []) rfl (by kernel_rfl) w (fun _ h => by cases h)
end Go.Proofs.Ytkpgmabebjmahaa
