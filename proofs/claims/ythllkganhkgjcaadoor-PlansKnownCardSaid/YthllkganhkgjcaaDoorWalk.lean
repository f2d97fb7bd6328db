/- The walk of PlansKnown, reckoned by the engine; the law on names is reckoned once for each name that comes. -/
import Derived.Test.YthllkganhkgjcaaDoorCheck
namespace Go.Proofs.YthllkganhkgjcaaDoor
open Go Go.Eng Go.RowKit
def usesL : List Int := [0, 1, 7, 27, 7, 7, 99, 67, 7, 64, 11, 11, 128]
def usesV : List Value := usesL.map (Value.int .i64)
def names : List ByteArray := [⟨#[97]⟩, ⟨#[98]⟩]
theorem names_ok : ∀ b ∈ names, ∀ w : World, LaidG [(0, [])] w.heap → Calls Tryd.prog 28 #[.string b] w fun e w' => e = .returned (.bool true) ∧ Quiet w w' := by
  intro b hb w hl
  have h2 : b = ⟨#[97]⟩ ∨ b = ⟨#[98]⟩ := by simpa [names] using hb
  rcases h2 with rfl | rfl
  · exact closed_quiet follows looked noSpec 100 (gs := [(0, [])]) (N := 4) rfl rfl (args := [.string ⟨#[97]⟩]) rfl (by kernel_rfl) w hl
  · exact closed_quiet follows looked noSpec 100 (gs := [(0, [])]) (N := 4) rfl rfl (args := [.string ⟨#[98]⟩]) rfl (by kernel_rfl) w hl
theorem spec_ok : CalleeOK Tryd.prog PlanTab.ng (memo 28 names (chk 23)) := memo_ok (by decide) Tryd.func28 (by kernel_rfl) rfl check_ok names_ok
theorem plansKnown_walk (w : World) (hl : LaidG [(0, usesV)] w.heap) : Calls Tryd.prog 3 #[] w fun e w' => e = .returned (.bool true) ∧ Grown w w' :=
  closed_callsG follows (funsOk_more (F := 28) looked) spec_ok 100 (gs := [(0, usesV)]) (N := 4) rfl rfl (args := []) rfl (by kernel_rfl) w hl
end Go.Proofs.YthllkganhkgjcaaDoor
