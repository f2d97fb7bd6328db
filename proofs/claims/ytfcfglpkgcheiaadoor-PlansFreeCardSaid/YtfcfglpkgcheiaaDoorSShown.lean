/- The example of the document, reckoned: it answers true in every world where the package variable lies. -/
import Derived.Test.YtfcfglpkgcheiaaDoorSCheck
namespace Go.Proofs.YtfcfglpkgcheiaaDoor
open Go Go.Eng Go.RowKit
def names : List ByteArray := [⟨#[97]⟩, ⟨#[98]⟩]
theorem names_ok : ∀ b ∈ names, ∀ w : World, LaidG [(0, [])] w.heap → Calls Tryd.prog 76 #[.string b] w fun e w' => e = .returned (.bool true) ∧ Quiet w w' := by
  intro b hb w hl
  have h2 : b = ⟨#[97]⟩ ∨ b = ⟨#[98]⟩ := by simpa [names] using hb
  rcases h2 with rfl | rfl
  · exact closed_quiet follows looked noSpec 100 (gs := [(0, [])]) (N := 4) rfl rfl (args := [.string ⟨#[97]⟩]) rfl (by kernel_rfl) w hl
  · exact closed_quiet follows looked noSpec 100 (gs := [(0, [])]) (N := 4) rfl rfl (args := [.string ⟨#[98]⟩]) rfl (by kernel_rfl) w hl
theorem specT_ok : CalleeOK Tryd.prog PlanTab.ng (memo 76 names (chk 14)) := memo_ok (by decide) Tryd.func76 (by kernel_rfl) rfl check_ok names_ok
theorem shown_calls (w : World) (hl : LaidG [(0, usesV)] w.heap) : Calls Tryd.prog 16 #[] w fun e w' => e = .returned (.bool true) ∧ Quiet w w' :=
  closed_quiet follows (funsOk_more (F := 76) looked) specT_ok 100 (gs := [(0, usesV)]) (N := 4) rfl rfl (args := []) rfl (by kernel_rfl) w hl
end Go.Proofs.YtfcfglpkgcheiaaDoor
