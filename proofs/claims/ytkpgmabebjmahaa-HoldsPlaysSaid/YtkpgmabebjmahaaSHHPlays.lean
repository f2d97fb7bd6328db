/- HoldsPlays answers true at every seats and calls. -/
import Derived.Test.YtkpgmabebjmahaaPlainB
import Derived.Test.YtkpgmabebjmahaaSOk
import Derived.Test.YtkpgmabebjmahaaRows
import Derived.WalkKit
import Derived.ProofKit
import Derived.HandedShaped
namespace Go.Proofs.Ytkpgmabebjmahaa
open Go Go.Eng Go.ChangeShapes Go.WideShapes Go.ChangeAt Go.RowKit
set_option linter.unusedVariables false
theorem holdsPlays_all {H : Type} {enc : TypeId × Value → H} {W : World} {args : List Value} {ds : List (DataW H)} {p : List MemPlace} (h : DataW.TrodAll enc Try.prog W 0 (fun _ => true) true [3, 86] args ds p) :
    ∃ v0 v1 d0 d1 p0 p1, args = [v0, v1] ∧ ds = [d0, d1] ∧ DataW.Trod enc Try.prog W 0 (fun _ => true) true 3 v0 d0 p0 ∧ DataW.Trod enc Try.prog W 0 (fun _ => true) true 86 v1 d1 p1 := by
  obtain ⟨v0, _, d0, _, _, _, rfl, rfl, rfl, h0, h1'⟩ := trodAll_cons h
  obtain ⟨v1, _, d1, _, _, _, rfl, rfl, rfl, h1, h2'⟩ := trodAll_cons h1'
  obtain ⟨rfl, rfl, rfl⟩ := trodAll_nil h2'
  exact ⟨v0, v1, d0, d1, _, _, rfl, rfl, h0, h1⟩
set_option maxRecDepth 100000 in
theorem holdsPlays_lifted (os : Os) (started : os.Started) (H : Type) (enc : TypeId × Value → H) :
    ReturnsInHanded {} Try.checked os 10 .any (Rows.holdsPlaysSpec.pre6 enc Try.prog Try.f10 Rows.holdsPlaysRow.domain false) (Rows.holdsPlaysSpec.post enc Try.prog Try.f10 false true false false) := by
  refine returnsInHanded_of_change_shaped (C := Try.checked) own started (by kernel_rfl) Try.func10
    (ChangeSpec.witness6 (enc := enc) (C := Try.checked) false ⟨#[], #[.int .i64 0, .slice none 0 0], []⟩ 8 (by kernel_rfl) (by kernel_rfl) (by kernel_rfl) (by kernel_rfl)) ?_
  intro W base args ds gs before hval hW hcnd _ hsh _
  have hW' := hW
  obtain ⟨p, q, hA0, hV, rfl, hfz, hnd⟩ := hW
  have hA : DataW.TrodAll enc Try.prog W 0 (fun _ => true) true Try.f10.params.toList args.toList ds p := hA0
  rw [Try.params10] at hA hval
  obtain ⟨v0, v1, d0, d1, p0, p1, hargs, rfl, h0, h1⟩ := holdsPlays_all hA
  obtain rfl : args = #[v0, v1] := Array.toList_inj.1 hargs
  obtain ⟨seats, rfl⟩ := okWide_int Try.underlying3 (hval 0 3 v0 rfl rfl)
  obtain ⟨σ1, W1, l, u, o1, s1, l1, r1, a1⟩ := Ho.openCas (openG hsh) (hval 1 86 v1 rfl rfl) h1
  have o9 := o1
  have hc := open_calls omS_ok o9 (args := [.int .i64 seats, u]) (.cons (.int _ _) (.cons r1 .nil)) (Ho.plays_ok a1)
  refine hc.mono fun e W' ⟨he, hq⟩ => ⟨_, he, ?_⟩
  exact post_true kidsT fullT (by rw [Try.params10]; intro t ht; revert t; exact of_decide_eq_true (by kernel_rfl)) hW' hq rfl rfl rfl Try.underlying4
theorem holdsPlays_inPlace : (Rows.holdsPlaysRow.inPlace == Try.pinned.checked.prog.inPlace 10) = true := by kernel_rfl
theorem holdsPlays_unfollowed : (Rows.holdsPlaysRow.unfollowed == Try.pinned.checked.prog.unfollowed 10) = true := by kernel_rfl
theorem holdsPlays_recurses : (Rows.holdsPlaysRow.recurses == Try.pinned.checked.prog.recurses 10) = true := by kernel_rfl
theorem holdsPlays_named : (Rows.holdsPlaysRow.named == Try.pinned.checked.prog.varsNamed 10) = true := by kernel_rfl
theorem holdsPlays_holds : Rows.HoldsPlaysSaid :=
  OpenClaim.holds_of_wide 10 Try.f10 rfl rfl rfl rfl rfl rfl rfl ⟨rfl, rfl, rfl, rfl, rfl⟩ rfl rfl rfl rfl rfl (by kernel_rfl) Try.func10 (by kernel_rfl)
    (of_decide_eq_true (by kernel_rfl)) (by unfold Func.isWrapper; first | (rw [if_pos (by decide +kernel)]; kernel_rfl) | (rw [if_neg (by decide +kernel)]; exact ⟨rfl, rfl⟩))
    (fun os started H enc _ => holdsPlays_lifted os started H enc)
end Go.Proofs.Ytkpgmabebjmahaa
