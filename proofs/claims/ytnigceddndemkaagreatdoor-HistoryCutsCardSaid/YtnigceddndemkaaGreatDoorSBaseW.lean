/- What the seat's reckoned calls of the venue rest on. -/
import Derived.Test.YtnigceddndemkaaGreatDoorEngB
import Derived.Test.YtnigceddndemkaaGreatDoorOpnA
import Derived.Test.YtnigceddndemkaaGreatDoorSTab
import Derived.Test.YtnigceddndemkaaGreatDoorSGlob
import Derived.Test.YtnigceddndemkaaGreatDoorChecked
namespace Go.Proofs.YtnigceddndemkaaGreatDoor
open Go Go.Eng
@[reducible] noncomputable def plansN : PlanTab := trieTab (fun id ops => T.get (path (planKey id ops)) tab) []
noncomputable instance (priority := low) plansW : PlanTab := trieTab (fun id ops => T.get (path (planKey id ops)) tab) [0, 1, 3, 4] (fun t => Nat.beq t 246)
def nameW : List ByteArray := [⟨#[115]⟩, ⟨#[104, 97, 108, 108]⟩, ⟨#[98, 111, 120]⟩]
noncomputable def nameVal (args : List Value) (_ : AW) : Option Value := match args with
  | [.string b] => (match nameW.any (bytesEq b) with
    | true => some (.bool true)
    | false => none)
  | _ => none
noncomputable def specW : Eng.Callee := specL [(215, quietC 215 joinVal), (218, copyC 218 246), (233, quietC 233 nameVal), (162, chk 162)]
def badW : List Nat := [2, 3, 4, 5, 6, 7, 8, 9, 10, 11, 12, 13, 14, 15, 18, 24, 25, 26, 27, 28, 29, 30, 34, 35, 36, 37, 40, 42, 43, 45, 47, 48, 49, 50, 51, 52, 53, 54, 55, 56, 57, 58, 60, 61, 62, 63, 64, 85, 86, 87, 88, 89, 90, 91, 92, 93, 94, 95, 104, 105, 109, 110, 112, 114, 115, 119, 120, 121, 122, 123, 124, 125, 126, 127, 128, 153, 154, 155, 162, 165, 166, 172, 173, 174, 175, 176, 177, 178, 179, 180, 181, 182, 183, 184, 185, 186, 211, 212, 213, 228, 229, 230, 231, 232, 267, 268, 269, 270, 302, 326, 347, 379, 380, 381, 382, 383, 399]
def badN : List Nat := [2, 3, 4, 5, 6, 7, 8, 9, 10, 11, 12, 13, 14, 15, 16, 17, 18, 19, 20, 21, 22, 23, 24, 25, 26, 27, 28, 29, 30, 31, 32, 33, 34, 35, 36, 37, 38, 39, 40, 41, 42, 43, 44, 45, 46, 47, 48, 49, 50, 51, 52, 53, 54, 55, 56, 57, 58, 59, 60, 61, 62, 63, 64, 65, 66, 67, 68, 69, 70, 71, 72, 73, 74, 75, 76, 77, 78, 79, 80, 81, 82, 83, 84, 85, 86, 87, 88, 89, 90, 91, 92, 93, 94, 95, 96, 97, 98, 99, 100, 101, 102, 103, 104, 105, 106, 107, 108, 109, 110, 111, 112, 113, 114, 115, 116, 117, 118, 119, 120, 121, 122, 123, 124, 125, 126, 127, 128, 129, 130, 131, 132, 133, 134, 135, 136, 137, 138, 139, 140, 141, 142, 143, 144, 145, 146, 147, 148, 149, 150, 151, 152, 153, 154, 155, 156, 157, 158, 159, 160, 161, 162, 163, 164, 165, 166, 167, 168, 169, 170, 171, 172, 173, 174, 175, 176, 177, 178, 179, 180, 181, 182, 183, 184, 185, 186, 187, 188, 189, 190, 191, 192, 193, 194, 195, 196, 197, 198, 199, 200, 201, 202, 203, 204, 205, 206, 207, 208, 209, 210, 211, 212, 213, 214, 215, 216, 217, 218, 219, 220, 221, 222, 223, 224, 225, 226, 227, 228, 229, 230, 231, 232, 234, 235, 236, 237, 238, 239, 240, 241, 242, 243, 244, 245, 246, 247, 248, 249, 250, 252, 253, 254, 255, 256, 257, 258, 259, 260, 261, 262, 263, 264, 265, 266, 267, 268, 269, 270, 272, 273, 274, 275, 276, 277, 278, 279, 280, 281, 282, 283, 284, 285, 286, 287, 288, 289, 290, 291, 292, 293, 294, 295, 296, 297, 298, 299, 300, 301, 302, 310, 312, 313, 314, 315, 316, 317, 318, 319, 320, 321, 322, 323, 324, 325, 326, 331, 332, 333, 334, 335, 336, 337, 338, 339, 340, 341, 342, 343, 344, 345, 346, 347, 350, 351, 352, 353, 354, 359, 360, 379, 380, 381, 382, 383, 385, 386, 387, 388, 389, 399]
theorem followsW : Tryz.prog.follows .mixedOrders = true := by kernel_rfl
theorem lookedW : funsOk [0, 1, 3, 4] badW 0 Tryz.prog.funcs.toList = true := by kernel_rfl
theorem lookedN : funsOk [] badN 0 Tryz.prog.funcs.toList = true := by kernel_rfl
end Go.Proofs.YtnigceddndemkaaGreatDoor
