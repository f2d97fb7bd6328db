/- HoldsOrder answers true at every deadlines, turn and entry. -/
import Derived.Test.YtkpgmabebjmahaaPlainB
import Derived.Test.YtkpgmabebjmahaaPlainA
import Derived.Test.YtkpgmabebjmahaaSOk
import Derived.Test.YtkpgmabebjmahaaRows
import Derived.WalkKit
import Derived.ProofKit
import Derived.HandedShaped
namespace Go.Proofs.Ytkpgmabebjmahaa
open Go Go.Eng Go.ChangeShapes Go.WideShapes Go.ChangeAt Go.RowKit
set_option linter.unusedVariables false
theorem holdsOrder_all {H : Type} {enc : TypeId × Value → H} {W : World} {args : List Value} {ds : List (DataW H)} {p : List MemPlace} (h : DataW.TrodAll enc Try.prog W 0 (fun _ => true) true [34, 5, 43] args ds p) :
    ∃ v0 v1 v2 d0 d1 d2 p0 p1 p2, args = [v0, v1, v2] ∧ ds = [d0, d1, d2] ∧ DataW.Trod enc Try.prog W 0 (fun _ => true) true 34 v0 d0 p0 ∧ DataW.Trod enc Try.prog W 0 (fun _ => true) true 5 v1 d1 p1 ∧ DataW.Trod enc Try.prog W 0 (fun _ => true) true 43 v2 d2 p2 := by
  obtain ⟨v0, _, d0, _, _, _, rfl, rfl, rfl, h0, h1'⟩ := trodAll_cons h
  obtain ⟨v1, _, d1, _, _, _, rfl, rfl, rfl, h1, h2'⟩ := trodAll_cons h1'
  obtain ⟨v2, _, d2, _, _, _, rfl, rfl, rfl, h2, h3'⟩ := trodAll_cons h2'
  obtain ⟨rfl, rfl, rfl⟩ := trodAll_nil h3'
  exact ⟨v0, v1, v2, d0, d1, d2, _, _, _, rfl, rfl, h0, h1, h2⟩
set_option maxRecDepth 100000 in
theorem holdsOrder_lifted (os : Os) (started : os.Started) (H : Type) (enc : TypeId × Value → H) :
    ReturnsInHanded {} Try.checked os 11 .any (Rows.holdsOrderSpec.pre6 enc Try.prog Try.f11 Rows.holdsOrderRow.domain false) (Rows.holdsOrderSpec.post enc Try.prog Try.f11 false true false false) := by
  refine returnsInHanded_of_change_shaped (C := Try.checked) own started (by kernel_rfl) Try.func11
    (ChangeSpec.witness6 (enc := enc) (C := Try.checked) false ⟨#[], #[.slice none 0 0, .int .u8 0, .agg #[.int .i64 0, .int .i64 0]], []⟩ 8 (by kernel_rfl) (by kernel_rfl) (by kernel_rfl) (by kernel_rfl)) ?_
  intro W base args ds gs before hval hW hcnd _ hsh _
  have hW' := hW
  obtain ⟨p, q, hA0, hV, rfl, hfz, hnd⟩ := hW
  have hA : DataW.TrodAll enc Try.prog W 0 (fun _ => true) true Try.f11.params.toList args.toList ds p := hA0
  rw [Try.params11] at hA hval
  obtain ⟨v0, v1, v2, d0, d1, d2, p0, p1, p2, hargs, rfl, h0, h1, h2⟩ := holdsOrder_all hA
  obtain rfl : args = #[v0, v1, v2] := Array.toList_inj.1 hargs
  obtain ⟨σ1, W1, l, u, o1, s1, l1, r1, a1, ab⟩ := Ho.openDl (openG hsh) (hval 0 34 v0 rfl rfl) h0
  obtain ⟨tn, rfl, htn⟩ := Ho.u8_in (hval 1 5 v1 rfl rfl)
  obtain ⟨x, rfl⟩ := Ho.openHo (hval 2 43 v2 rfl rfl) h2
  have o9 := o1
  have hc := open_calls omS_ok o9 (args := [u, .int .u8 (tn : Int), .agg #[.int .i64 x.1, .int .i64 x.2]]) (.cons r1 (.cons (.int _ _) (.cons (plain_refl rfl) .nil))) (Ho.order_ok a1 ab htn)
  refine hc.mono fun e W' ⟨he, hq⟩ => ⟨_, he, ?_⟩
  exact post_true kidsT fullT (by rw [Try.params11]; intro t ht; revert t; exact of_decide_eq_true (by kernel_rfl)) hW' hq rfl rfl rfl Try.underlying4
theorem holdsOrder_inPlace : (Rows.holdsOrderRow.inPlace == Try.pinned.checked.prog.inPlace 11) = true := by kernel_rfl
theorem holdsOrder_unfollowed : (Rows.holdsOrderRow.unfollowed == Try.pinned.checked.prog.unfollowed 11) = true := by kernel_rfl
theorem holdsOrder_recurses : (Rows.holdsOrderRow.recurses == Try.pinned.checked.prog.recurses 11) = true := by kernel_rfl
theorem holdsOrder_named : (Rows.holdsOrderRow.named == Try.pinned.checked.prog.varsNamed 11) = true := by kernel_rfl
theorem holdsOrder_holds : Rows.HoldsOrderSaid :=
  OpenClaim.holds_of_wide 11 Try.f11 rfl rfl rfl rfl rfl rfl rfl ⟨rfl, rfl, rfl, rfl, rfl⟩ rfl rfl rfl rfl rfl (by kernel_rfl) Try.func11 (by kernel_rfl)
    (of_decide_eq_true (by kernel_rfl)) (by unfold Func.isWrapper; first | (rw [if_pos (by decide +kernel)]; kernel_rfl) | (rw [if_neg (by decide +kernel)]; exact ⟨rfl, rfl⟩))
    (fun os started H enc _ => holdsOrder_lifted os started H enc)
end Go.Proofs.Ytkpgmabebjmahaa
