/- HoldsLoads answers true at every seats, entries and calls. -/
import Derived.Test.YtkpgmabebjmahaaGreatPlainB
import Derived.Test.YtkpgmabebjmahaaGreatPlainA
import Derived.Test.YtkpgmabebjmahaaGreatSOk
import Derived.Test.YtkpgmabebjmahaaGreatRows
import Derived.WalkKit
import Derived.ProofKit
import Derived.HandedShaped
namespace Go.Proofs.YtkpgmabebjmahaaGreat
open Go Go.Eng Go.ChangeShapes Go.WideShapes Go.ChangeAt Go.RowKit
set_option linter.unusedVariables false
theorem holdsLoads_all {H : Type} {enc : TypeId × Value → H} {W : World} {args : List Value} {ds : List (DataW H)} {p : List MemPlace} (h : DataW.TrodAll enc Tryz.prog W 0 (fun _ => true) true [3, 22, 23] args ds p) :
    ∃ v0 v1 v2 d0 d1 d2 p0 p1 p2, args = [v0, v1, v2] ∧ ds = [d0, d1, d2] ∧ DataW.Trod enc Tryz.prog W 0 (fun _ => true) true 3 v0 d0 p0 ∧ DataW.Trod enc Tryz.prog W 0 (fun _ => true) true 22 v1 d1 p1 ∧ DataW.Trod enc Tryz.prog W 0 (fun _ => true) true 23 v2 d2 p2 := by
  obtain ⟨v0, _, d0, _, _, _, rfl, rfl, rfl, h0, h1'⟩ := trodAll_cons h
  obtain ⟨v1, _, d1, _, _, _, rfl, rfl, rfl, h1, h2'⟩ := trodAll_cons h1'
  obtain ⟨v2, _, d2, _, _, _, rfl, rfl, rfl, h2, h3'⟩ := trodAll_cons h2'
  obtain ⟨rfl, rfl, rfl⟩ := trodAll_nil h3'
  exact ⟨v0, v1, v2, d0, d1, d2, _, _, _, rfl, rfl, h0, h1, h2⟩
set_option maxRecDepth 100000 in
theorem holdsLoads_lifted (os : Os) (started : os.Started) (H : Type) (enc : TypeId × Value → H) :
    ReturnsInHanded {} Tryz.checked os 3 .any (Rows.holdsLoadsSpec.pre6 enc Tryz.prog Tryz.f3 Rows.holdsLoadsRow.domain false) (Rows.holdsLoadsSpec.post enc Tryz.prog Tryz.f3 false true false false) := by
  refine returnsInHanded_of_change_shaped (C := Tryz.checked) own started (by kernel_rfl) Tryz.func3
    (ChangeSpec.witness6 (enc := enc) (C := Tryz.checked) false ⟨#[], #[.int .i64 0, .slice none 0 0, .slice none 0 0], []⟩ 8 (by kernel_rfl) (by kernel_rfl) (by kernel_rfl) (by kernel_rfl)) ?_
  intro W base args ds gs before hval hW hcnd _ hsh _
  have hW' := hW
  obtain ⟨p, q, hA0, hV, rfl, hfz, hnd⟩ := hW
  have hA : DataW.TrodAll enc Tryz.prog W 0 (fun _ => true) true Tryz.f3.params.toList args.toList ds p := hA0
  rw [Tryz.params3] at hA hval
  obtain ⟨v0, v1, v2, d0, d1, d2, p0, p1, p2, hargs, rfl, h0, h1, h2⟩ := holdsLoads_all hA
  obtain rfl : args = #[v0, v1, v2] := Array.toList_inj.1 hargs
  obtain ⟨seats, rfl⟩ := okWide_int Tryz.underlying3 (hval 0 3 v0 rfl rfl)
  obtain ⟨σ1, W1, l, u, o1, s1, l1, r1, a1⟩ := Ho.openHoL (openG hsh) (hval 1 22 v1 rfl rfl) h1
  obtain ⟨σ2, W2, x, u2, o2, s2, l2, r2, a2⟩ := Ho.openCas o1 (hval 2 23 v2 rfl rfl) h2
  have o9 := o2
  have hc := open_calls omS_ok o9 (args := [.int .i64 seats, u, u2]) (.cons (.int _ _) (.cons (liftV s2 r1) (.cons r2 .nil))) (Ho.loads_ok (a1.mono l2) a2)
  refine hc.mono fun e W' ⟨he, hq⟩ => ⟨_, he, ?_⟩
  exact post_true kidsT fullT (by rw [Tryz.params3]; intro t ht; revert t; exact of_decide_eq_true (by kernel_rfl)) hW' hq rfl rfl rfl Tryz.underlying4
theorem holdsLoads_inPlace : (Rows.holdsLoadsRow.inPlace == Tryz.pinned.checked.prog.inPlace 3) = true := by kernel_rfl
theorem holdsLoads_unfollowed : (Rows.holdsLoadsRow.unfollowed == Tryz.pinned.checked.prog.unfollowed 3) = true := by kernel_rfl
theorem holdsLoads_recurses : (Rows.holdsLoadsRow.recurses == Tryz.pinned.checked.prog.recurses 3) = true := by kernel_rfl
theorem holdsLoads_named : (Rows.holdsLoadsRow.named == Tryz.pinned.checked.prog.varsNamed 3) = true := by kernel_rfl
theorem holdsLoads_holds : Rows.HoldsLoadsSaid :=
  OpenClaim.holds_of_wide 3 Tryz.f3 rfl rfl rfl rfl rfl rfl rfl ⟨rfl, rfl, rfl, rfl, rfl⟩ rfl rfl rfl rfl rfl (by kernel_rfl) Tryz.func3 (by kernel_rfl)
    (of_decide_eq_true (by kernel_rfl)) (by unfold Func.isWrapper; first | (rw [if_pos (by decide +kernel)]; kernel_rfl) | (rw [if_neg (by decide +kernel)]; exact ⟨rfl, rfl⟩))
    (fun os started H enc _ => holdsLoads_lifted os started H enc)
end Go.Proofs.YtkpgmabebjmahaaGreat
