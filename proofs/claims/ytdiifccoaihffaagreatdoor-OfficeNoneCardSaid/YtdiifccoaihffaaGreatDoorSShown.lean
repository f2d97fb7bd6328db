/- The examples of the document, reckoned: they answer true in every world where the package variable lies. -/
import Derived.Test.YtdiifccoaihffaaGreatDoorSCheck
import Derived.Test.YtdiifccoaihffaaGreatDoorSKeys
set_option maxRecDepth 100000
namespace Go.Proofs.YtdiifccoaihffaaGreatDoor
open Go Go.Eng Go.RowKit
theorem names_a : ∀ w : World, LaidG [(0, [])] w.heap → Calls Tryz.prog 215 #[.string ⟨#[97]⟩] w fun e w' => e = .returned (.bool true) ∧ Quiet w w' := fun w hl =>
  closed_quiet followsW lookedW noSpec 100 (gs := [(0, [])]) (N := 4) rfl rfl (args := [.string ⟨#[97]⟩]) rfl (by kernel_rfl) w hl
theorem names_b : ∀ w : World, LaidG [(0, [])] w.heap → Calls Tryz.prog 215 #[.string ⟨#[98]⟩] w fun e w' => e = .returned (.bool true) ∧ Quiet w w' := fun w hl =>
  closed_quiet followsW lookedW noSpec 100 (gs := [(0, [])]) (N := 4) rfl rfl (args := [.string ⟨#[98]⟩]) rfl (by kernel_rfl) w hl
theorem names_okW : ∀ b ∈ nameW, ∀ w : World, LaidG [(0, [])] w.heap → Calls Tryz.prog 215 #[.string b] w fun e w' => e = .returned (.bool true) ∧ Quiet w w' := by
  intro b hb w hl
  have h2 : b = ⟨#[97]⟩ ∨ b = ⟨#[98]⟩ := by simpa [nameW] using hb
  rcases h2 with rfl | rfl
  · exact names_a w hl
  · exact names_b w hl
noncomputable def specW : Eng.Callee := memo 215 nameW (specL [(41, chk 41), (49, sdC 49 102), (50, keyC 50 102 85)])
theorem specW_ok : CalleeOK Tryz.prog PlanTab.ng specW := memo_ok (by decide) Tryz.func215 (by kernel_rfl) rfl (specL_ok fun x hx => by
  have h2 : x = (41, chk 41) ∨ x = (49, sdC 49 102) ∨ x = (50, keyC 50 102 85) := by simpa using hx
  rcases h2 with rfl | rfl | rfl
  · exact check_ok
  · exact sorted_ok
  · exact keys_ok) names_okW
end Go.Proofs.YtdiifccoaihffaaGreatDoor
