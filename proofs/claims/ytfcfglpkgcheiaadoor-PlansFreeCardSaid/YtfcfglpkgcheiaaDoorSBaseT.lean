/- What this seat's reckoned calls rest on. -/
import Derived.Test.YtfcfglpkgcheiaaDoorEngB
import Derived.Test.YtfcfglpkgcheiaaDoorSTab
import Derived.Test.YtfcfglpkgcheiaaDoorChecked
namespace Go.Proofs.YtfcfglpkgcheiaaDoor
open Go Go.Eng
noncomputable instance plans : PlanTab := trieTab (fun id ops => T.get (path (planKey id ops)) tab) [0]
theorem follows : Tryd.prog.follows .mixedOrders = true := by kernel_rfl
theorem looked : funsOk [0] [2, 3, 4, 5, 6, 7, 8, 9, 10, 11, 13, 14, 15, 17, 19, 22, 24, 25, 26, 28, 29, 30, 31, 33, 34, 36, 43, 44, 45, 46, 47, 49, 51, 52, 53, 54, 61, 62, 63, 64, 65, 67, 68, 69, 70, 71, 72, 81, 82, 83, 84, 85, 86, 101, 102, 104, 105, 106, 107, 108, 123, 124, 125, 126, 132, 133, 134, 168] 0 Tryd.prog.funcs.toList = true := by kernel_rfl
theorem own : ownKnob Tryd.prog.godebug = none := by kernel_rfl
end Go.Proofs.YtfcfglpkgcheiaaDoor
