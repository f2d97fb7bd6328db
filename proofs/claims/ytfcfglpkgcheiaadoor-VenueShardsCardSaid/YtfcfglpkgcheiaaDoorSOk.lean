/- The engine's answers are those of the model, in this seat. -/
import Derived.Test.YtfcfglpkgcheiaaDoorSAwake
import Derived.Test.YtfcfglpkgcheiaaDoorSBase
import Derived.Test.YtfcfglpkgcheiaaDoorSSortT
namespace Go.Proofs.YtfcfglpkgcheiaaDoor
open Go Go.Eng Go.RowKit
theorem followsO : Tryd.prog.follows .mixedOrders = true := by kernel_rfl
theorem lookedO : funsOk (opens.ng) bads 0 Tryd.prog.funcs.toList = true := by kernel_rfl
theorem specs_ok : @CalleeOK opens Tryd.prog opens.ng specs := by
  refine @specL_ok opens _ _ _ ?_
  intro x hx
  have h2 : x = (30, @memoV opens 30 globW awakeV) ∨ x = (58, @sortC opens 58) := by simpa using hx
  rcases h2 with rfl | rfl
  · refine @memoV_ok opens _ _ 30 _ _ Tryd.func30 (by kernel_rfl) rfl _ (by kernel_rfl) _ ?_
    intro args v hv w hl
    match args, hv with
    | [], hv =>
      simp only [awakeV, Option.some.injEq] at hv
      subst hv
      exact awake_calls w hl
  · exact @sortC_ok opens _ _ 58 _ _ Tryd.func58 (by kernel_rfl) rfl fun blk off cap zs w hH hb hl => Any.slices_Sort_int laysS blk off cap zs w hH hb hl
theorem omS_ok : @CalleeOK opens Tryd.prog opens.ng omS := @om_ok opens _ _ _ followsO lookedO specs_ok
end Go.Proofs.YtfcfglpkgcheiaaDoor
