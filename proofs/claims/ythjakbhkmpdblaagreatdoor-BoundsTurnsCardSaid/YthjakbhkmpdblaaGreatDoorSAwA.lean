/- The example's schedules, reckoned. -/
import Derived.Test.YthjakbhkmpdblaaGreatDoorSAwF
set_option maxRecDepth 100000
namespace Go.Proofs.YthjakbhkmpdblaaGreatDoor
open Go Go.Eng Go.RowKit
def allR : Value := tup [.agg ⟨[i64 2, i64 0, slO 12 2 1, .bool true]⟩, i64 0]
def allN : List (Nat × List Value) := [(12, [slO 13 2 1, slO 14 2 1]), (13, [i64 1, i64 2]), (14, [i64 2, i64 1])]
theorem all_rec : okRes gsX 12 allR allN (aCallF Tryz.prog bad6 sp135 200 (.func (.func 16) #[] #[]) [wkX, i64 100] (WG gsX 12)) = true := by kernel_rfl
end Go.Proofs.YthjakbhkmpdblaaGreatDoor
