/- PlansFree answers true at every venue, operations and picks. -/
import Derived.Test.YtfcfglpkgcheiaaDoorPlainA
import Derived.Test.YtfcfglpkgcheiaaDoorSLaid
namespace Go.Proofs.YtfcfglpkgcheiaaDoor
open Go Go.Eng Go.ChangeShapes Go.WideShapes Go.ChangeAt Go.RowKit
set_option linter.unusedVariables false
def plansFreeZ : Array Value := #[venZ, .slice none 0 0, .slice none 0 0]
theorem plansFree_met (os : Os) : laidMet Tryd.prog Rows.plansFreeRow.laid ((laidWorld os).forCall (fun _ _ => 0) ⟨#[], plansFreeZ, []⟩).memory :=
  laidMet_of_run' 8 (by kernel_rfl) (by kernel_rfl)
theorem plansFree_reads (os : Os) {H : Type} (enc : TypeId × Value → H) : ∃ places, DataW.whole enc Tryd.prog ((laidWorld os).forCall (fun _ _ => 0) ⟨#[], plansFreeZ, []⟩).memory Tryd.f6.params.toList Rows.plansFreeSpec.vars false (plansFreeZ : Array Value).toList 8 = some ([venD, .nil, .nil], [], places) :=
  ⟨[], by kernel_rfl⟩
theorem plansFree_all {H : Type} {enc : TypeId × Value → H} {W : World} {args : List Value} {ds : List (DataW H)} {p : List MemPlace} (h : DataW.TrodAll enc Tryd.prog W 0 (fun _ => true) true [36, 50, 51] args ds p) :
    ∃ v0 v1 v2 d0 d1 d2 p0 p1 p2, args = [v0, v1, v2] ∧ ds = [d0, d1, d2] ∧ DataW.Trod enc Tryd.prog W 0 (fun _ => true) true 36 v0 d0 p0 ∧ DataW.Trod enc Tryd.prog W 0 (fun _ => true) true 50 v1 d1 p1 ∧ DataW.Trod enc Tryd.prog W 0 (fun _ => true) true 51 v2 d2 p2 := by
  obtain ⟨v0, _, d0, _, _, _, rfl, rfl, rfl, h0, h1'⟩ := trodAll_cons h
  obtain ⟨v1, _, d1, _, _, _, rfl, rfl, rfl, h1, h2'⟩ := trodAll_cons h1'
  obtain ⟨v2, _, d2, _, _, _, rfl, rfl, rfl, h2, h3'⟩ := trodAll_cons h2'
  obtain ⟨rfl, rfl, rfl⟩ := trodAll_nil h3'
  exact ⟨v0, v1, v2, d0, d1, d2, _, _, _, rfl, rfl, h0, h1, h2⟩
set_option maxRecDepth 100000 in
theorem plansFree_contract (H : Type) (enc : TypeId × Value → H) (W : World) (base : Nat) (args : Array Value) (ds gs : List (DataW H)) (before : List MemPlace)
    (hval : ∀ (j : Nat) t v, Tryd.f6.params[j]? = some t → args[j]? = some v → Value.okWide Tryd.prog W .any base t v) (hW : DataW.Whole enc Tryd.prog Tryd.f6.params.toList Rows.plansFreeSpec.vars false W args.toList ds gs before) (hL : laidMetH Tryd.prog Rows.plansFreeRow.laid W) :
    Calls Tryd.prog 6 args W fun e W' => ∃ v, e = .returned v ∧ Rows.plansFreeSpec.post enc Tryd.prog Tryd.f6 false true false false W args v W' := by
  have hW' := hW
  obtain ⟨p, q, hA0, hV, rfl, hfz, hnd⟩ := hW
  have hA : DataW.TrodAll enc Tryd.prog W 0 (fun _ => true) true Tryd.f6.params.toList args.toList ds p := hA0
  rw [Tryd.params6] at hA hval
  obtain ⟨v0, v1, v2, d0, d1, d2, p0, p1, p2, hargs, rfl, h0, h1, h2⟩ := plansFree_all hA
  obtain rfl : args = #[v0, v1, v2] := Array.toList_inj.1 hargs
  have hl := uses_laid hL
  obtain ⟨σ1, W1, v, sv, o1, s1, l1, r1, a1⟩ := openVen (openG hl) (hval 0 36 v0 rfl rfl) h0
  obtain ⟨σ2, W2, ops, ov, o2, s2, l2, r2, a2⟩ := openOps o1 (hval 1 50 v1 rfl rfl) h1
  obtain ⟨σ3, W3, pks, pv, o3, s3, l3, r3, a3, b3⟩ := openBytes o2 (hval 2 51 v2 rfl rfl) h2
  have o9 := o3
  have s9 := (s1.trans s2).trans s3
  have hc := open_calls omS_ok o9 s9 (args := [venV v sv, ov, pv]) (.cons (r1.mono (s2.trans s3)) (.cons (r2.mono s3) (.cons r3 .nil))) (free_card l1 a1 l2 a2 l3 a3 b3)
  refine hc.mono fun e W' ⟨he, hq⟩ => ⟨_, he, ?_⟩
  exact post_true kidsT fullT (by rw [Tryd.params6]; intro t ht; revert t; exact of_decide_eq_true (by kernel_rfl)) hW' hq rfl rfl rfl Tryd.underlying4
set_option maxRecDepth 100000 in
theorem plansFree_lifted (os : Os) (started : os.Started) (H : Type) (enc : TypeId × Value → H) (F : Stop.Interp) :
    ReturnsInHanded {} Tryd.checked os 6 .any ((OpenSpec.ofChange Rows.plansFreeSpec).preRow enc Tryd.prog Tryd.f6 Rows.plansFreeRow.domain false Rows.plansFreeRow.laid) (((OpenSpec.ofChange Rows.plansFreeSpec).at F).post enc Tryd.prog Tryd.f6 false true false false) := by
  obtain ⟨places, hx⟩ := plansFree_reads os enc
  refine returnsInHanded_of_row (C := Tryd.checked) (s := OpenSpec.ofChange Rows.plansFreeSpec) own started (by kernel_rfl) Tryd.func6
    (witness_row_at (enc := enc) (C := Tryd.checked) false (laidWorld os) plansFreeZ rfl (by kernel_rfl) (by kernel_rfl) (by kernel_rfl)
      (OpenSpec.preRow_of_cond 8 hx (by kernel_rfl) (fun k hk => by cases hk) (by kernel_rfl) (plansFree_met os))) ?_
  intro W base args ds gs before hval hW _ _ _ hL _ _
  exact plansFree_contract H enc W base args ds gs before hval hW hL
theorem plansFree_inPlace : (Rows.plansFreeRow.inPlace == Tryd.pinned.checked.prog.inPlace 6) = true := by kernel_rfl
theorem plansFree_unfollowed : (Rows.plansFreeRow.unfollowed == Tryd.pinned.checked.prog.unfollowed 6) = true := by kernel_rfl
theorem plansFree_recurses : (Rows.plansFreeRow.recurses == Tryd.pinned.checked.prog.recurses 6) = true := by kernel_rfl
theorem plansFree_named : (Rows.plansFreeRow.named == Tryd.pinned.checked.prog.varsNamed 6) = true := by kernel_rfl
theorem plansFree_closed : joinedFacts Tryd.pinned.checked.prog 6 Tryd.f6 (OpenSpec.ofChange Rows.plansFreeSpec).bare Rows.plansFreeRow = true := by
  unfold joinedFacts
  rw [plansFree_inPlace, plansFree_unfollowed, plansFree_recurses, plansFree_named]
  kernel_rfl
theorem plansFree_said : Rows.PlansFreeSaid :=
  OpenClaim.holds_of_cond 6 Tryd.f6 rfl rfl rfl rfl rfl rfl rfl ⟨rfl, rfl, rfl, rfl, rfl⟩ rfl rfl rfl rfl rfl (by kernel_rfl) Tryd.func6 plansFree_closed
    (of_decide_eq_true (by kernel_rfl)) (by unfold Func.isWrapper; first | (rw [if_pos (by decide +kernel)]; kernel_rfl) | (rw [if_neg (by decide +kernel)]; exact ⟨rfl, rfl⟩))
    (fun os started H enc _ F => by rw [OpenClaim.pre_eq_preRow]; exact plansFree_lifted os started H enc F)
theorem plansFree_plain (f : FuncId) (fn : Func) (hf : Tryd.pinned.checked.prog.funcNamed "groundling/groundlinglaw22.PlansFree" = some f) (hfn : Tryd.pinned.checked.prog.funcs[f]? = some fn) :
    false = Tryd.pinned.checked.prog.looks [] ∧ ∀ (j : Nat) t, fn.params[j]? = some t → Tryd.pinned.checked.prog.wantsStandIn t = false := by
  obtain rfl : f = 6 := Option.some.inj ((show Tryd.prog.funcNamed "groundling/groundlinglaw22.PlansFree" = some 6 by kernel_rfl).symm.trans hf) |>.symm
  obtain rfl : fn = Tryd.f6 := (Option.some.inj (Tryd.func6.symm.trans hfn)).symm
  refine ⟨by kernel_rfl, fun j t ht => ?_⟩
  rw [Tryd.params6] at ht
  have hm := Array.mem_of_getElem? ht
  simp only [List.mem_toArray, List.mem_cons, List.not_mem_nil, or_false] at hm
  rcases hm with rfl | rfl | rfl
  · exact (show Tryd.prog.wantsStandIn 36 = false by kernel_rfl)
  · exact (show Tryd.prog.wantsStandIn 50 = false by kernel_rfl)
  · exact (show Tryd.prog.wantsStandIn 51 = false by kernel_rfl)
theorem plansFree_card : Rows.PlansFreeCardSaid :=
  Claim7.holds_tied_plain_at .later [] _ _ _ _ plansFree_said (fun _ h => by cases h) (by kernel_rfl) (fun _ h => by cases h) plansFree_row_tie rfl ⟨rfl, rfl⟩ (by kernel_rfl) rfl plansFree_plain (by kernel_rfl)
end Go.Proofs.YtfcfglpkgcheiaaDoor
