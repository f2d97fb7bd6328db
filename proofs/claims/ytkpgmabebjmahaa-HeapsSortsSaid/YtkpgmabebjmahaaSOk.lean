/- The engine's answers are those of the model, in this seat. -/
import Derived.Test.YtkpgmabebjmahaaSAwake
import Derived.Test.YtkpgmabebjmahaaSBase
namespace Go.Proofs.Ytkpgmabebjmahaa
open Go Go.Eng Go.RowKit
theorem followsO : Try.prog.follows .mixedOrders = true := by kernel_rfl
theorem lookedO : funsOk (opens.ng) bads 0 Try.prog.funcs.toList = true := by kernel_rfl
theorem specs_ok : @CalleeOK opens Try.prog opens.ng specs := by
  refine @specL_ok opens _ _ _ ?_
  intro x hx
  have h2 : x = (12, @memoV opens 12 [] awakeV) := by simpa using hx
  subst h2
  refine @memoV_ok opens _ _ 12 _ _ Try.func12 (by kernel_rfl) rfl _ (by kernel_rfl) _ ?_
  intro args v hv w hl
  match args, hv with
  | [], hv =>
    simp only [awakeV, Option.some.injEq] at hv
    subst hv
    exact awake_calls w
theorem omS_ok : @CalleeOK opens Try.prog opens.ng omS := @om_ok opens _ _ _ followsO lookedO specs_ok
end Go.Proofs.Ytkpgmabebjmahaa
