/- The example's picked run, reckoned. -/
import Derived.Test.YthjakbhkmpdblaaGreatDoorSAwF
set_option maxRecDepth 100000
namespace Go.Proofs.YthjakbhkmpdblaaGreatDoor
open Go Go.Eng Go.RowKit
def gsP : List (Nat × List Value) := gsX ++ [(12, [i64 1, i64 0, i64 0])]
def playR : Value := tup [.agg ⟨[i64 3, slO 13 1 1, sl 14 2] ++ (venX ++ [i64 0, sl 16 6, sl 17 2]) ++ [.bool false]⟩, i64 0]
def playN : List (Nat × List Value) := [(13, [i64 2]), (14, [.slice none 0 0, slO 15 1 9]), (15, rpX 0 10), (16, z5 ++ (z5 ++ (z5 ++ (seX 1 2 10 ++ (z5 ++ z5))))), (17, [.slice none 0 0, .slice none 0 0])]
theorem play_rec : okRes gsP 13 playR playN (aCallF Tryz.prog bad6 sp135 200 (.func (.func 14) #[] #[]) [wkX, sl 12 3] (WG gsP 13)) = true := by kernel_rfl
end Go.Proofs.YthjakbhkmpdblaaGreatDoor
