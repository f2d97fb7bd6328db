/- The engine's answers are those of the model, in this seat. -/
import Derived.Test.YtkpgmabebjmahaaGreatSAwake
import Derived.Test.YtkpgmabebjmahaaGreatSBase
import Derived.Test.YtkpgmabebjmahaaGreatSSortF
import Derived.Test.YtkpgmabebjmahaaGreatSClo
namespace Go.Proofs.YtkpgmabebjmahaaGreat
open Go Go.Eng Go.RowKit
theorem followsO : Tryz.prog.follows .mixedOrders = true := by kernel_rfl
theorem lookedO : funsOk (opens.ng) bads 0 Tryz.prog.funcs.toList = true := by kernel_rfl
theorem memo_ok : @CalleeOK opens Tryz.prog opens.ng (@memoV opens 4 [] awakeV) := by
  refine @memoV_ok opens _ _ 4 _ _ Tryz.func4 (by kernel_rfl) rfl _ (by kernel_rfl) _ ?_
  intro args v hv w hl
  match args, hv with
  | [], hv =>
    simp only [awakeV, Option.some.injEq] at hv
    subst hv
    exact awake4_calls w
theorem specs1_ok : @CalleeOK opens Tryz.prog opens.ng specs1 := by
  refine @specL_ok opens _ _ _ ?_
  intro x hx
  have h2 : x = (4, @memoV opens 4 [] awakeV) := by simpa using hx
  subst h2
  exact memo_ok
theorem om1_ok : @CalleeOK opens Tryz.prog opens.ng om1 := @om_ok opens _ _ _ followsO lookedO specs1_ok
theorem specs_ok : @CalleeOK opens Tryz.prog opens.ng specs := by
  refine @specL_ok opens _ _ _ ?_
  intro x hx
  have h2 : x = (4, @memoV opens 4 [] awakeV) ∨ x = (23, @sortFC opens Tryz.prog (@ansOm opens om1) [] true 2 23) ∨ x = (63, @sortFC opens Tryz.prog (@ansPtr opens om1 64 65) [] false 1 63) := by simpa using hx
  rcases h2 with rfl | rfl | rfl
  · exact memo_ok
  · exact @sortFC_ok opens _ _ _ _ _ _ (by decide) (fun h => by cases h) bodyH (@ansOm_ok opens _ _ _ om1_ok) sortsH
  · exact @sortFC_ok opens _ _ _ _ _ _ (by decide) (fun _ => rfl) bodyG (@ansPtr_ok opens _ _ _ _ _ om1_ok clo64) sortsG
theorem omS_ok : @CalleeOK opens Tryz.prog opens.ng omS := @om_ok opens _ _ _ followsO lookedO specs_ok
end Go.Proofs.YtkpgmabebjmahaaGreat
