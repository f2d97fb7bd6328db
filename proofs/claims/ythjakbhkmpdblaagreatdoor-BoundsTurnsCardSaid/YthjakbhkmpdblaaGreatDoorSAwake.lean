/- The calls of the example answer as the document says: reckoned, in every world where the package variable lies. -/
import Derived.Test.YthjakbhkmpdblaaGreatDoorSAwP
import Derived.Test.YthjakbhkmpdblaaGreatDoorSAwA
set_option maxRecDepth 100000
namespace Go.Proofs.YthjakbhkmpdblaaGreatDoor
open Go Go.Eng Go.RowKit
theorem one_res {F N : Nat} {bad : List Nat} {spec : Eng.Callee} {gs : List (Nat × List Value)} {a : List Value} {r : Value} {new : List (Nat × List Value)} (h : okRes gs N r new (aCallF Tryz.prog bad spec 200 (.func (.func F) #[] #[]) a (WG gs N)) = true) :
    ∀ x ∈ [(a, r, new)], okRes gs N x.2.1 x.2.2 (aCallF Tryz.prog bad spec 200 (.func (.func F) #[] #[]) x.1 (WG gs N)) = true := by
  intro x hx
  obtain rfl := List.mem_singleton.1 hx
  exact h
noncomputable def sp18 : Eng.Callee := memoR 18 PlanTab.ng gsX 12 [([wkX], fairR, fairN)] sp135
theorem ok18 : CalleeOK Tryz.prog PlanTab.ng sp18 := memoR_ok followsW look6 ok135 ok135 (by kernel_rfl) (one_res fair_rec)
noncomputable def sp14 : Eng.Callee := memoR 14 PlanTab.ng gsP 13 [([wkX, sl 12 3], playR, playN)] sp18
theorem ok14 : CalleeOK Tryz.prog PlanTab.ng sp14 := memoR_ok followsW look6 ok135 ok18 (by kernel_rfl) (one_res play_rec)
noncomputable def sp16 : Eng.Callee := memoR 16 PlanTab.ng gsX 12 [([wkX, i64 100], allR, allN)] sp14
theorem ok16 : CalleeOK Tryz.prog PlanTab.ng sp16 := memoR_ok followsW look6 ok135 ok14 (by kernel_rfl) (one_res all_rec)
def bad9 : List Nat := 16 :: 14 :: 18 :: bad6
theorem look9 : funsOk PlanTab.ng bad9 0 Tryz.prog.funcs.toList = true := funsOk_more (funsOk_more (funsOk_more look6))
theorem shown_calls (w : World) (hl : LaidG globW w.heap) : Calls Tryz.prog 6 #[] w fun e w' => e = .returned (.bool true) ∧ Quiet w w' :=
  closed_quiet followsW look9 ok16 200 (gs := globW) (N := 4) rfl rfl (args := []) rfl (by kernel_rfl) w hl
end Go.Proofs.YthjakbhkmpdblaaGreatDoor
