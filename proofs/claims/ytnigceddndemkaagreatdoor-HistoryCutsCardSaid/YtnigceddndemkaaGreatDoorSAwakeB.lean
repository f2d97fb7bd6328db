/- awake, reckoned: it answers true in every world where the package variables lie. -/
import Derived.Test.YtnigceddndemkaaGreatDoorSBaseW
import Derived.Test.YtnigceddndemkaaGreatDoorSCheck
import Derived.Test.YtnigceddndemkaaGreatDoorSLays
import Derived.Shelf.Strings.Builder1
namespace Go.Proofs.YtnigceddndemkaaGreatDoor
open Go Go.Eng Go.RowKit
set_option maxRecDepth 100000
theorem names_okW : ∀ b ∈ nameW, ∀ w : World, Calls Tryz.prog 233 #[.string b] w fun e w' => e = .returned (.bool true) ∧ Quiet w w' := by
  intro b hb w
  have h2 : b = ⟨#[115]⟩ ∨ b = ⟨#[104, 97, 108, 108]⟩ ∨ b = ⟨#[98, 111, 120]⟩ := by simpa [nameW] using hb
  rcases h2 with rfl | rfl | rfl
  · exact @closed_quiet plansN _ followsW _ lookedN _ (@noSpec plansN _ _) 100 [] 4 rfl rfl 233 [.string ⟨#[115]⟩] rfl (by kernel_rfl) w (fun _ h => by cases h)
  · exact @closed_quiet plansN _ followsW _ lookedN _ (@noSpec plansN _ _) 100 [] 4 rfl rfl 233 [.string ⟨#[104, 97, 108, 108]⟩] rfl (by kernel_rfl) w (fun _ h => by cases h)
  · exact @closed_quiet plansN _ followsW _ lookedN _ (@noSpec plansN _ _) 100 [] 4 rfl rfl 233 [.string ⟨#[98, 111, 120]⟩] rfl (by kernel_rfl) w (fun _ h => by cases h)
theorem specW_ok : CalleeOK Tryz.prog PlanTab.ng specW := by
  refine specL_ok ?_
  intro x hx
  have h2 : x = (215, quietC 215 joinVal) ∨ x = (218, copyC 218 246) ∨ x = (233, quietC 233 nameVal) ∨ x = (162, chk 162) := by simpa using hx
  rcases h2 with rfl | rfl | rfl | rfl
  · exact quietC_ok Tryz.func215 (by kernel_rfl) rfl fun args W v h => joinVal_ok (fun bk o c xs sep w => Any.strings_Join laysJ laysX bk o c xs sep w) h
  · exact copyC_ok Tryz.func218 (by kernel_rfl) rfl rfl (fun b w h => Any.Builder_copyCheck_used laysC laysX.toX72 b w h) (fun b w h0 h1 h2 => Any.Builder_copyCheck_fresh laysC laysX.toX72 b w h0 h1 h2)
  · refine quietC_ok Tryz.func233 (by kernel_rfl) rfl fun args W v h => ?_
    unfold nameVal at h
    split at h
    case h_2 => cases h
    rename_i b
    split at h
    case h_2 => cases h
    rename_i hn
    injection h with h
    subst h
    refine ⟨rfl, fun σ w args' hW hargs => ?_⟩
    obtain ⟨x', l', rfl, hx, hl⟩ := hargs.of_cons
    obtain rfl := hl.of_nil
    have hs : x' = .string b := VR.string_inv hx
    subst hs
    obtain ⟨b', hb', hbb⟩ := List.any_eq_true.1 hn
    have := bytesEq_eq hbb
    subst this
    exact names_okW _ hb' w
  · exact check_ok
theorem lookedF : funsOk [0, 1, 3, 4] (215 :: 218 :: 233 :: badW) 0 Tryz.prog.funcs.toList = true := funsOk_more (F := 215) (funsOk_more (F := 218) (funsOk_more (F := 233) lookedW))
end Go.Proofs.YtnigceddndemkaaGreatDoor
