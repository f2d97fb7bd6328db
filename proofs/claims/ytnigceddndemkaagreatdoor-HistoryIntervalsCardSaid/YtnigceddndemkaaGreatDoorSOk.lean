/- The engine's answers are those of the model, in this seat. -/
import Derived.Test.YtnigceddndemkaaGreatDoorSAwake18
import Derived.Test.YtnigceddndemkaaGreatDoorSAwake24
import Derived.Test.YtnigceddndemkaaGreatDoorSBase
import Derived.Test.YtnigceddndemkaaGreatDoorSSortF
import Derived.Test.YtnigceddndemkaaGreatDoorSClo
namespace Go.Proofs.YtnigceddndemkaaGreatDoor
open Go Go.Eng Go.RowKit
set_option maxRecDepth 100000
theorem followsO : Tryz.prog.follows .mixedOrders = true := by kernel_rfl
theorem lookedO : funsOk (opens.ng) bads 0 Tryz.prog.funcs.toList = true := by kernel_rfl
theorem memo_at {F : Nat} {fn : Func} {body : Code} (hfn : Tryz.prog.funcs[F]? = some fn) (hname : (fn.name == "runtime.NumGoroutine") = false) (hb : fn.body = some body) (hc : ∀ w : World, LaidG globW w.heap → Calls Tryz.prog F #[] w fun e w' => e = .returned (.bool true) ∧ Quiet w w') : @CalleeOK opens Tryz.prog opens.ng (@memoV opens F globW awakeV) := by
  refine @memoV_ok opens _ _ F _ _ hfn hname hb _ (by kernel_rfl) _ ?_
  intro args v hv w hl
  match args, hv with
  | [], hv =>
    simp only [awakeV, Option.some.injEq] at hv
    subst hv
    exact hc w hl
theorem chk_at : @CalleeOK opens Tryz.prog opens.ng (@chk opens 162) := @chk_ok opens _ _ (by decide) 162 _ _ Tryz.func162 (by kernel_rfl) rfl check_in check_out
theorem memo16 : @CalleeOK opens Tryz.prog opens.ng (@memoV opens 16 globW awakeV) := memo_at Tryz.func16 (by kernel_rfl) rfl awake18_calls
theorem memo38 : @CalleeOK opens Tryz.prog opens.ng (@memoV opens 38 globW awakeV) := memo_at Tryz.func38 (by kernel_rfl) rfl awake24_calls
theorem specs1_ok : @CalleeOK opens Tryz.prog opens.ng specs1 := by
  refine @specL_ok opens _ _ _ ?_
  intro x hx
  have h2 : x = (16, @memoV opens 16 globW awakeV) ∨ x = (38, @memoV opens 38 globW awakeV) ∨ x = (162, @chk opens 162) := by simpa using hx
  rcases h2 with rfl | rfl | rfl
  · exact memo16
  · exact memo38
  · exact chk_at
theorem om1_ok : @CalleeOK opens Tryz.prog opens.ng om1 := @om_ok opens _ _ _ followsO lookedO specs1_ok
theorem specs_ok : @CalleeOK opens Tryz.prog opens.ng specs := by
  refine @specL_ok opens _ _ _ ?_
  intro x hx
  have h2 : x = (16, @memoV opens 16 globW awakeV) ∨ x = (38, @memoV opens 38 globW awakeV) ∨ x = (162, @chk opens 162) ∨ x = (78, @sortFC opens Tryz.prog (@ansOm opens om1) [0, 1, 3, 4] true 2 78) ∨ x = (274, @sortFC opens Tryz.prog (@ansPtr opens om1 275 276) [0, 1, 3, 4] false 1 274) := by simpa using hx
  rcases h2 with rfl | rfl | rfl | rfl | rfl
  · exact memo16
  · exact memo38
  · exact chk_at
  · exact @sortFC_ok opens _ _ _ _ _ _ (by decide) (fun h => by cases h) bodyH (@ansOm_ok opens _ _ _ om1_ok) sortsH
  · exact @sortFC_ok opens _ _ _ _ _ _ (by decide) (fun _ => rfl) bodyG (@ansPtr_ok opens _ _ _ _ _ om1_ok clo275) sortsG
theorem omS_ok : @CalleeOK opens Tryz.prog opens.ng omS := @om_ok opens _ _ _ followsO lookedO specs_ok
end Go.Proofs.YtnigceddndemkaaGreatDoor
