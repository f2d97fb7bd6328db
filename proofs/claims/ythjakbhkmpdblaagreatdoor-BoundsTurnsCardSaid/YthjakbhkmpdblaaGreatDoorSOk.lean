/- The engine's answers are those of the model, in this seat. -/
import Derived.Test.YthjakbhkmpdblaaGreatDoorSAwake
import Derived.Test.YthjakbhkmpdblaaGreatDoorPartD
set_option maxRecDepth 100000
namespace Go.Proofs.YthjakbhkmpdblaaGreatDoor
open Go Go.Eng Go.RowKit
theorem followsO : Tryz.prog.follows .mixedOrders = true := by kernel_rfl
theorem lookedO : funsOk (opens.ng) bads 0 Tryz.prog.funcs.toList = true := by kernel_rfl
theorem specs_ok : @CalleeOK opens Tryz.prog opens.ng specs := by
  refine @specL_ok opens _ _ _ ?_
  intro x hx
  have h2 : x = (6, @memoV opens 6 globW shownV) ∨ x = (21, @chk opens 21) ∨ x = (102, @sortC opens 102) := by simpa using hx
  rcases h2 with rfl | rfl | rfl
  · refine @memoV_ok opens _ _ 6 _ _ Tryz.func6 (by kernel_rfl) rfl _ (by kernel_rfl) _ ?_
    intro args v hv w hl
    match args, hv with
    | [], hv =>
      simp only [shownV, Option.some.injEq] at hv
      subst hv
      exact shown_calls w hl
  · exact @chk_ok opens _ _ (by decide) 21 _ _ Tryz.func21 (by kernel_rfl) rfl check_in check_out
  · exact @sortC_ok opens _ _ 102 _ _ Tryz.func102 (by kernel_rfl) rfl fun blk off cap zs w hH hb hl => AnyM.slices_Sort_int laysS blk off cap zs w hH hb hl
theorem omS_ok : @CalleeOK opens Tryz.prog opens.ng omS := @om_ok opens _ _ _ followsO lookedO specs_ok
end Go.Proofs.YthjakbhkmpdblaaGreatDoor
