/- The engine's answers are those of the model, in this seat. -/
import Derived.Test.YtkpgmabebjmahaaSAwake
import Derived.Test.YtkpgmabebjmahaaSBase
import Derived.Test.YtkpgmabebjmahaaSSortF
import Derived.Test.YtkpgmabebjmahaaSClo
namespace Go.Proofs.Ytkpgmabebjmahaa
open Go Go.Eng Go.RowKit
theorem followsO : Try.prog.follows .mixedOrders = true := by kernel_rfl
theorem lookedO : funsOk (opens.ng) bads 0 Try.prog.funcs.toList = true := by kernel_rfl
theorem memo_ok (i : Nat) (h : i = 12 ∨ i = 17) : @CalleeOK opens Try.prog opens.ng (@memoV opens i [] awakeV) := by
  have key : ∀ args v, awakeV args = some v → args = [] ∧ v = .bool true := fun args v hv => by
    match args, hv with
    | [], hv =>
      simp only [awakeV, Option.some.injEq] at hv
      exact ⟨rfl, hv.symm⟩
  rcases h with rfl | rfl
  · refine @memoV_ok opens _ _ 12 _ _ Try.func12 (by kernel_rfl) rfl _ (by kernel_rfl) _ ?_
    intro args v hv w hl
    obtain ⟨rfl, rfl⟩ := key args v hv
    exact awake_calls w
  · refine @memoV_ok opens _ _ 17 _ _ Try.func17 (by kernel_rfl) rfl _ (by kernel_rfl) _ ?_
    intro args v hv w hl
    obtain ⟨rfl, rfl⟩ := key args v hv
    exact awake17_calls w
theorem specs1_ok : @CalleeOK opens Try.prog opens.ng specs1 := by
  refine @specL_ok opens _ _ _ ?_
  intro x hx
  have h2 : x = (12, @memoV opens 12 [] awakeV) ∨ x = (17, @memoV opens 17 [] awakeV) := by simpa using hx
  rcases h2 with rfl | rfl
  · exact memo_ok 12 (.inl rfl)
  · exact memo_ok 17 (.inr rfl)
theorem om1_ok : @CalleeOK opens Try.prog opens.ng om1 := @om_ok opens _ _ _ followsO lookedO specs1_ok
theorem specs_ok : @CalleeOK opens Try.prog opens.ng specs := by
  refine @specL_ok opens _ _ _ ?_
  intro x hx
  have h2 : x = (12, @memoV opens 12 [] awakeV) ∨ x = (17, @memoV opens 17 [] awakeV) ∨ x = (83, @sortFC opens Try.prog (@ansOm opens om1) [] true 2 83) ∨ x = (101, @sortFC opens Try.prog (@ansPtr opens om1 102 103) [] false 1 101) ∨ x = (122, @sortFC opens Try.prog (@ansPtr opens om1 123 124) [] false 1 122) := by simpa using hx
  rcases h2 with rfl | rfl | rfl | rfl | rfl
  · exact memo_ok 12 (.inl rfl)
  · exact memo_ok 17 (.inr rfl)
  · exact @sortFC_ok opens _ _ _ _ _ _ (by decide) (fun h => by cases h) bodyH (@ansOm_ok opens _ _ _ om1_ok) sortsH
  · exact @sortFC_ok opens _ _ _ _ _ _ (by decide) (fun _ => rfl) bodyE (@ansPtr_ok opens _ _ _ _ _ om1_ok clo102) sortsE
  · exact @sortFC_ok opens _ _ _ _ _ _ (by decide) (fun _ => rfl) bodyG (@ansPtr_ok opens _ _ _ _ _ om1_ok clo123) sortsG
theorem omS_ok : @CalleeOK opens Try.prog opens.ng omS := @om_ok opens _ _ _ followsO lookedO specs_ok
end Go.Proofs.Ytkpgmabebjmahaa
