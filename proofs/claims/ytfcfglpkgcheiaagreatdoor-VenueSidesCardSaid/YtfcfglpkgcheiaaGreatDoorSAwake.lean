/- awake, reckoned: it answers true in every world where the package variables lie. -/
import Derived.Test.YtfcfglpkgcheiaaGreatDoorSBaseW
import Derived.Test.YtfcfglpkgcheiaaGreatDoorSLays
import Derived.Shelf.Strings.Builder1
namespace Go.Proofs.YtfcfglpkgcheiaaGreatDoor
open Go Go.Eng Go.RowKit
theorem names_okW : ∀ b ∈ nameW, ∀ w : World, Calls Tryz.prog 51 #[.string b] w fun e w' => e = .returned (.bool true) ∧ Quiet w w' := by
  intro b hb w
  have h2 : b = ⟨#[104, 97, 108, 108]⟩ ∨ b = ⟨#[98, 111, 120]⟩ := by simpa [nameW] using hb
  rcases h2 with rfl | rfl
  · exact @closed_quiet plansN _ followsW _ lookedN _ (@noSpec plansN _ _) 100 [] 4 rfl rfl 51 [.string ⟨#[104, 97, 108, 108]⟩] rfl (by kernel_rfl) w (fun _ h => by cases h)
  · exact @closed_quiet plansN _ followsW _ lookedN _ (@noSpec plansN _ _) 100 [] 4 rfl rfl 51 [.string ⟨#[98, 111, 120]⟩] rfl (by kernel_rfl) w (fun _ h => by cases h)
theorem specW_ok : CalleeOK Tryz.prog PlanTab.ng specW := by
  refine specL_ok ?_
  intro x hx
  have h2 : x = (47, quietC 47 joinVal) ∨ x = (60, copyC 60 70) ∨ x = (51, quietC 51 nameVal) := by simpa using hx
  rcases h2 with rfl | rfl | rfl
  · exact quietC_ok Tryz.func47 (by kernel_rfl) rfl fun args W v h => joinVal_ok (fun bk o c xs sep w => Any.strings_Join laysJ laysX bk o c xs sep w) h
  · exact copyC_ok Tryz.func60 (by kernel_rfl) rfl rfl (fun b w h => Any.Builder_copyCheck_used laysC laysX.toX72 b w h) (fun b w h0 h1 h2 => Any.Builder_copyCheck_fresh laysC laysX.toX72 b w h0 h1 h2)
  · refine quietC_ok Tryz.func51 (by kernel_rfl) rfl fun args W v h => ?_
    unfold nameVal at h
    split at h
    case h_2 => cases h
    rename_i b
    split at h
    case h_2 => cases h
    rename_i hn
    injection h with h
    subst h
    refine ⟨rfl, fun σ w args' hW hargs => ?_⟩
    obtain ⟨x', l', rfl, hx, hl⟩ := hargs.of_cons
    obtain rfl := hl.of_nil
    have hs : x' = .string b := VR.string_inv hx
    subst hs
    obtain ⟨b', hb', hbb⟩ := List.any_eq_true.1 hn
    have := bytesEq_eq hbb
    subst this
    exact names_okW _ hb' w
theorem awake_calls (w : World) (hl : LaidG globW w.heap) : Calls Tryz.prog 6 #[] w fun e w' => e = .returned (.bool true) ∧ Quiet w w' :=
  closed_quiet followsW (funsOk_more (F := 47) (funsOk_more (F := 60) (funsOk_more (F := 51) lookedW))) specW_ok 100 (gs := globW) (N := 6) rfl rfl (args := []) rfl (by kernel_rfl) w hl
end Go.Proofs.YtfcfglpkgcheiaaGreatDoor
