/- The example's fair run, reckoned. -/
import Derived.Test.YthjakbhkmpdblaaGreatDoorSAwM
set_option maxRecDepth 100000
namespace Go.Proofs.YthjakbhkmpdblaaGreatDoor
open Go Go.Eng Go.RowKit
def rpX (e dl : Int) : List Value := [i64 e, i64 0, i64 0, i64 dl, .int .u32 0, .int .u32 0, .int .u64 0, .int .u64 0, i64 0]
def fairR : Value := tup [.agg ⟨[i64 6, slO 12 2 1, sl 13 2] ++ (venX ++ [i64 0, sl 16 6, sl 17 2]) ++ [.bool true]⟩, i64 0]
def fairN : List (Nat × List Value) := [(12, [i64 1, i64 2]), (13, [slO 14 1 9, slO 15 1 9]), (14, rpX 0 10), (15, rpX 15 0), (16, z5 ++ (z5 ++ (z5 ++ (seX 1 1 10 ++ (z5 ++ z5))))), (17, [.slice none 0 0, .slice none 0 0])]
theorem fair_rec : okRes gsX 12 fairR fairN (aCallF Tryz.prog bad6 sp135 200 (.func (.func 18) #[] #[]) [wkX] (WG gsX 12)) = true := by kernel_rfl
end Go.Proofs.YthjakbhkmpdblaaGreatDoor
