/- HeapsPlays answers true at every kind, state and calls. -/
import Derived.Test.YtkpgmabebjmahaaPlainB
import Derived.Test.YtkpgmabebjmahaaPlainA
import Derived.Test.YtkpgmabebjmahaaSOk
import Derived.Test.YtkpgmabebjmahaaRows
import Derived.WalkKit
import Derived.ProofKit
import Derived.HandedShaped
namespace Go.Proofs.Ytkpgmabebjmahaa
open Go Go.Eng Go.ChangeShapes Go.WideShapes Go.ChangeAt Go.RowKit
set_option linter.unusedVariables false
theorem heapsPlays_all {H : Type} {enc : TypeId × Value → H} {W : World} {args : List Value} {ds : List (DataW H)} {p : List MemPlace} (h : DataW.TrodAll enc Try.prog W 0 (fun _ => true) true [5, 60, 78] args ds p) :
    ∃ v0 v1 v2 d0 d1 d2 p0 p1 p2, args = [v0, v1, v2] ∧ ds = [d0, d1, d2] ∧ DataW.Trod enc Try.prog W 0 (fun _ => true) true 5 v0 d0 p0 ∧ DataW.Trod enc Try.prog W 0 (fun _ => true) true 60 v1 d1 p1 ∧ DataW.Trod enc Try.prog W 0 (fun _ => true) true 78 v2 d2 p2 := by
  obtain ⟨v0, _, d0, _, _, _, rfl, rfl, rfl, h0, h1'⟩ := trodAll_cons h
  obtain ⟨v1, _, d1, _, _, _, rfl, rfl, rfl, h1, h2'⟩ := trodAll_cons h1'
  obtain ⟨v2, _, d2, _, _, _, rfl, rfl, rfl, h2, h3'⟩ := trodAll_cons h2'
  obtain ⟨rfl, rfl, rfl⟩ := trodAll_nil h3'
  exact ⟨v0, v1, v2, d0, d1, d2, _, _, _, rfl, rfl, h0, h1, h2⟩
set_option maxRecDepth 100000 in
theorem heapsPlays_lifted (os : Os) (started : os.Started) (H : Type) (enc : TypeId × Value → H) :
    ReturnsInHanded {} Try.checked os 8 .any (Rows.heapsPlaysSpec.pre6 enc Try.prog Try.f8 Rows.heapsPlaysRow.domain false) (Rows.heapsPlaysSpec.post enc Try.prog Try.f8 false true false false) := by
  refine returnsInHanded_of_change_shaped (C := Try.checked) own started (by kernel_rfl) Try.func8
    (ChangeSpec.witness6 (enc := enc) (C := Try.checked) false ⟨#[], #[.int .u8 0, .agg #[.int .i64 0, .slice none 0 0], .slice none 0 0], []⟩ 8 (by kernel_rfl) (by kernel_rfl) (by kernel_rfl) (by kernel_rfl)) ?_
  intro W base args ds gs before hval hW hcnd _ hsh _
  have hW' := hW
  obtain ⟨p, q, hA0, hV, rfl, hfz, hnd⟩ := hW
  have hA : DataW.TrodAll enc Try.prog W 0 (fun _ => true) true Try.f8.params.toList args.toList ds p := hA0
  rw [Try.params8] at hA hval
  obtain ⟨v0, v1, v2, d0, d1, d2, p0, p1, p2, hargs, rfl, h0, h1, h2⟩ := heapsPlays_all hA
  obtain rfl : args = #[v0, v1, v2] := Array.toList_inj.1 hargs
  obtain ⟨k, rfl⟩ := okWide_int Try.underlying5 (hval 0 5 v0 rfl rfl)
  obtain ⟨σ1, W1, nx, iv, L, o1, s1, l1, r1, a1⟩ := openState (openG hsh) (hval 1 60 v1 rfl rfl) h1
  obtain ⟨σ2, W2, l, u, o2, s2, l2, r2, a2⟩ := openCaQ o1 (hval 2 78 v2 rfl rfl) h2
  have o9 := o2
  have hc := open_calls omS_ok o9 (args := [.int .u8 k, sV nx iv, u]) (.cons (.int _ _) (.cons (liftV s2 r1) (.cons r2 .nil))) (hplays_ok a2 (liftQ l2 a1))
  refine hc.mono fun e W' ⟨he, hq⟩ => ⟨_, he, ?_⟩
  exact post_true kidsT fullT (by rw [Try.params8]; intro t ht; revert t; exact of_decide_eq_true (by kernel_rfl)) hW' hq rfl rfl rfl Try.underlying4
theorem heapsPlays_inPlace : (Rows.heapsPlaysRow.inPlace == Try.pinned.checked.prog.inPlace 8) = true := by kernel_rfl
theorem heapsPlays_unfollowed : (Rows.heapsPlaysRow.unfollowed == Try.pinned.checked.prog.unfollowed 8) = true := by kernel_rfl
theorem heapsPlays_recurses : (Rows.heapsPlaysRow.recurses == Try.pinned.checked.prog.recurses 8) = true := by kernel_rfl
theorem heapsPlays_named : (Rows.heapsPlaysRow.named == Try.pinned.checked.prog.varsNamed 8) = true := by kernel_rfl
theorem heapsPlays_holds : Rows.HeapsPlaysSaid :=
  OpenClaim.holds_of_wide 8 Try.f8 rfl rfl rfl rfl rfl rfl rfl ⟨rfl, rfl, rfl, rfl, rfl⟩ rfl rfl rfl rfl rfl (by kernel_rfl) Try.func8 (by kernel_rfl)
    (of_decide_eq_true (by kernel_rfl)) (by unfold Func.isWrapper; first | (rw [if_pos (by decide +kernel)]; kernel_rfl) | (rw [if_neg (by decide +kernel)]; exact ⟨rfl, rfl⟩))
    (fun os started H enc _ => heapsPlays_lifted os started H enc)
end Go.Proofs.Ytkpgmabebjmahaa
