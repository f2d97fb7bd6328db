/- HeapsOrders answers true at every numbers and picks. -/
import Derived.Test.YtkpgmabebjmahaaPlainB
import Derived.Test.YtkpgmabebjmahaaSOk
import Derived.Test.YtkpgmabebjmahaaRows
import Derived.WalkKit
import Derived.ProofKit
import Derived.HandedShaped
namespace Go.Proofs.Ytkpgmabebjmahaa
open Go Go.Eng Go.ChangeShapes Go.WideShapes Go.ChangeAt Go.RowKit
set_option linter.unusedVariables false
theorem heapsOrders_all {H : Type} {enc : TypeId × Value → H} {W : World} {args : List Value} {ds : List (DataW H)} {p : List MemPlace} (h : DataW.TrodAll enc Try.prog W 0 (fun _ => true) true [22, 47] args ds p) :
    ∃ v0 v1 d0 d1 p0 p1, args = [v0, v1] ∧ ds = [d0, d1] ∧ DataW.Trod enc Try.prog W 0 (fun _ => true) true 22 v0 d0 p0 ∧ DataW.Trod enc Try.prog W 0 (fun _ => true) true 47 v1 d1 p1 := by
  obtain ⟨v0, _, d0, _, _, _, rfl, rfl, rfl, h0, h1'⟩ := trodAll_cons h
  obtain ⟨v1, _, d1, _, _, _, rfl, rfl, rfl, h1, h2'⟩ := trodAll_cons h1'
  obtain ⟨rfl, rfl, rfl⟩ := trodAll_nil h2'
  exact ⟨v0, v1, d0, d1, _, _, rfl, rfl, h0, h1⟩
set_option maxRecDepth 100000 in
theorem heapsOrders_lifted (os : Os) (started : os.Started) (H : Type) (enc : TypeId × Value → H) :
    ReturnsInHanded {} Try.checked os 7 .any (Rows.heapsOrdersSpec.pre6 enc Try.prog Try.f7 Rows.heapsOrdersRow.domain false) (Rows.heapsOrdersSpec.post enc Try.prog Try.f7 false true false false) := by
  refine returnsInHanded_of_change_shaped (C := Try.checked) own started (by kernel_rfl) Try.func7
    (ChangeSpec.witness6 (enc := enc) (C := Try.checked) false ⟨#[], #[.slice none 0 0, .slice none 0 0], []⟩ 8 (by kernel_rfl) (by kernel_rfl) (by kernel_rfl) (by kernel_rfl)) ?_
  intro W base args ds gs before hval hW hcnd _ hsh _
  have hW' := hW
  obtain ⟨p, q, hA0, hV, rfl, hfz, hnd⟩ := hW
  have hA : DataW.TrodAll enc Try.prog W 0 (fun _ => true) true Try.f7.params.toList args.toList ds p := hA0
  rw [Try.params7] at hA hval
  obtain ⟨v0, v1, d0, d1, p0, p1, hargs, rfl, h0, h1⟩ := heapsOrders_all hA
  obtain rfl : args = #[v0, v1] := Array.toList_inj.1 hargs
  obtain ⟨σ1, W1, l, u, o1, s1, l1, r1, a1⟩ := openInts (openG hsh) (hval 0 22 v0 rfl rfl) h0
  obtain ⟨σ2, W2, ps, u2, o2, s2, l2, r2, a2⟩ := openPks o1 (hval 1 47 v1 rfl rfl) h1
  have o9 := o2
  have hc := open_calls omS_ok o9 (args := [u, u2]) (.cons (liftV s2 r1) (.cons r2 .nil)) (orders_ok (liftI l2 a1) a2)
  refine hc.mono fun e W' ⟨he, hq⟩ => ⟨_, he, ?_⟩
  exact post_true kidsT fullT (by rw [Try.params7]; intro t ht; revert t; exact of_decide_eq_true (by kernel_rfl)) hW' hq rfl rfl rfl Try.underlying4
theorem heapsOrders_inPlace : (Rows.heapsOrdersRow.inPlace == Try.pinned.checked.prog.inPlace 7) = true := by kernel_rfl
theorem heapsOrders_unfollowed : (Rows.heapsOrdersRow.unfollowed == Try.pinned.checked.prog.unfollowed 7) = true := by kernel_rfl
theorem heapsOrders_recurses : (Rows.heapsOrdersRow.recurses == Try.pinned.checked.prog.recurses 7) = true := by kernel_rfl
theorem heapsOrders_named : (Rows.heapsOrdersRow.named == Try.pinned.checked.prog.varsNamed 7) = true := by kernel_rfl
theorem heapsOrders_holds : Rows.HeapsOrdersSaid :=
  OpenClaim.holds_of_wide 7 Try.f7 rfl rfl rfl rfl rfl rfl rfl ⟨rfl, rfl, rfl, rfl, rfl⟩ rfl rfl rfl rfl rfl (by kernel_rfl) Try.func7 (by kernel_rfl)
    (of_decide_eq_true (by kernel_rfl)) (by unfold Func.isWrapper; first | (rw [if_pos (by decide +kernel)]; kernel_rfl) | (rw [if_neg (by decide +kernel)]; exact ⟨rfl, rfl⟩))
    (fun os started H enc _ => heapsOrders_lifted os started H enc)
end Go.Proofs.Ytkpgmabebjmahaa
