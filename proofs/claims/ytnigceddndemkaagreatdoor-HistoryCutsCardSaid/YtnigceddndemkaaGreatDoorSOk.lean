/- The engine's answers are those of the model, in this seat. -/
import Derived.Test.YtnigceddndemkaaGreatDoorSAwake24
import Derived.Test.YtnigceddndemkaaGreatDoorSBase
namespace Go.Proofs.YtnigceddndemkaaGreatDoor
open Go Go.Eng Go.RowKit
set_option maxRecDepth 100000
theorem followsO : Tryz.prog.follows .mixedOrders = true := by kernel_rfl
theorem lookedO : funsOk (opens.ng) bads 0 Tryz.prog.funcs.toList = true := by kernel_rfl
theorem memo_at {F : Nat} {fn : Func} {body : Code} (hfn : Tryz.prog.funcs[F]? = some fn) (hname : (fn.name == "runtime.NumGoroutine") = false) (hb : fn.body = some body) (hc : ∀ w : World, LaidG globW w.heap → Calls Tryz.prog F #[] w fun e w' => e = .returned (.bool true) ∧ Quiet w w') : @CalleeOK opens Tryz.prog opens.ng (@memoV opens F globW awakeV) := by
  refine @memoV_ok opens _ _ F _ _ hfn hname hb _ (by kernel_rfl) _ ?_
  intro args v hv w hl
  match args, hv with
  | [], hv =>
    simp only [awakeV, Option.some.injEq] at hv
    subst hv
    exact hc w hl
theorem chk_at : @CalleeOK opens Tryz.prog opens.ng (@chk opens 162) := @chk_ok opens _ _ (by decide) 162 _ _ Tryz.func162 (by kernel_rfl) rfl check_in check_out
theorem memo38 : @CalleeOK opens Tryz.prog opens.ng (@memoV opens 38 globW awakeV) := memo_at Tryz.func38 (by kernel_rfl) rfl awake24_calls
theorem specs_ok : @CalleeOK opens Tryz.prog opens.ng specs := by
  refine @specL_ok opens _ _ _ ?_
  intro x hx
  have h2 : x = (38, @memoV opens 38 globW awakeV) ∨ x = (162, @chk opens 162) := by simpa using hx
  rcases h2 with rfl | rfl
  · exact memo38
  · exact chk_at
theorem omS_ok : @CalleeOK opens Tryz.prog opens.ng omS := @om_ok opens _ _ _ followsO lookedO specs_ok
end Go.Proofs.YtnigceddndemkaaGreatDoor
