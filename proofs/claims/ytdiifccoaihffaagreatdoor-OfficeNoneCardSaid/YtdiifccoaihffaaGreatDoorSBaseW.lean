/- What the seat's reckoned calls rest on. -/
import Derived.Test.YtdiifccoaihffaaGreatDoorPartC
import Derived.Test.YtdiifccoaihffaaGreatDoorChecked
namespace Go.Proofs.YtdiifccoaihffaaGreatDoor
open Go Go.Eng
noncomputable instance (priority := low) plansW : PlanTab := trieTab (fun id ops => T.get (path (planKey id ops)) tab) [0]
def nameW : List ByteArray := [⟨#[97]⟩, ⟨#[98]⟩]
def badW : List Nat := [2, 4, 5, 6, 8, 9, 11, 15, 17, 19, 21, 22, 23, 24, 25, 26, 28, 29, 35, 36, 38, 41, 49, 50, 51, 52, 53, 54, 55, 56, 57, 58, 59, 60, 61, 62, 63, 66, 74, 75, 76, 77, 103, 104, 105, 106, 107, 108, 109, 110, 111, 112, 113, 114, 115, 116, 117, 132, 133, 134, 135, 168, 169, 170, 171, 172, 173, 174, 175, 176, 177, 178, 179, 180, 181, 182, 183, 184, 185, 186, 187, 200, 201, 202, 203, 204, 205, 206, 207, 208, 209, 210, 211, 212, 213, 253, 254, 255, 256, 257, 258, 259, 260, 261, 262, 263, 264, 271, 272, 273, 274, 275, 276, 277, 278, 279, 280, 296, 299, 300, 301, 302, 303, 304, 306, 328, 329, 330, 331, 332, 333, 345, 346, 347, 356, 392, 394, 395, 396, 397, 398, 410]
theorem followsW : Tryz.prog.follows .mixedOrders = true := by kernel_rfl
theorem lookedW : funsOk [0] badW 0 Tryz.prog.funcs.toList = true := by kernel_rfl
end Go.Proofs.YtdiifccoaihffaaGreatDoor
