/- The walk of RecordKnown, reckoned by the engine; the law on names is reckoned once for each name that comes. -/
import Derived.Test.YthllkganhkgjcaaGreatDoorCheck
namespace Go.Proofs.YthllkganhkgjcaaGreatDoor
open Go Go.Eng Go.RowKit
def usesL : List Int := [0, 1, 7, 27, 7, 7, 99, 67, 7, 64, 11, 11, 128]
def usesV : List Value := usesL.map (Value.int .i64)
def names : List ByteArray := [⟨#[115]⟩]
theorem names_ok : ∀ b ∈ names, ∀ w : World, LaidG [(0, [])] w.heap → Calls Tryz.prog 188 #[.string b] w fun e w' => e = .returned (.bool true) ∧ Quiet w w' := by
  intro b hb w hl
  obtain rfl : b = ⟨#[115]⟩ := by simpa [names] using hb
  exact closed_quiet follows looked noSpec 100 (gs := [(0, [])]) (N := 4) rfl rfl (args := [.string ⟨#[115]⟩]) rfl (by kernel_rfl) w hl
theorem spec_ok : CalleeOK Tryz.prog PlanTab.ng (memo 188 names (chk 76)) := memo_ok (by decide) Tryz.func188 (by kernel_rfl) rfl check_ok names_ok
theorem recordKnown_walk (w : World) (hl : LaidG [(0, usesV)] w.heap) : Calls Tryz.prog 5 #[] w fun e w' => e = .returned (.bool true) ∧ Grown w w' :=
  closed_callsG follows (funsOk_more (F := 188) looked) spec_ok 100 (gs := [(0, usesV)]) (N := 4) rfl rfl (args := []) rfl (by kernel_rfl) w hl
end Go.Proofs.YthllkganhkgjcaaGreatDoor
