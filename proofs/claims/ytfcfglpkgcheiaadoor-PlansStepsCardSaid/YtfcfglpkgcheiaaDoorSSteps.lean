/- PlansSteps answers true at every venue, operation and number. -/
import Derived.Test.YtfcfglpkgcheiaaDoorPlainB
import Derived.Test.YtfcfglpkgcheiaaDoorSLaid
namespace Go.Proofs.YtfcfglpkgcheiaaDoor
open Go Go.Eng Go.ChangeShapes Go.WideShapes Go.ChangeAt Go.RowKit
set_option linter.unusedVariables false
def plansStepsZ : Array Value := #[venZ, opZ1, .int .i64 0]
theorem plansSteps_met (os : Os) : laidMet Tryd.prog Rows.plansStepsRow.laid ((laidWorld os).forCall (fun _ _ => 0) ⟨#[], plansStepsZ, []⟩).memory :=
  laidMet_of_run' 8 (by kernel_rfl) (by kernel_rfl)
theorem plansSteps_reads (os : Os) {H : Type} (enc : TypeId × Value → H) : ∃ places, DataW.whole enc Tryd.prog ((laidWorld os).forCall (fun _ _ => 0) ⟨#[], plansStepsZ, []⟩).memory Tryd.f5.params.toList Rows.plansStepsSpec.vars false (plansStepsZ : Array Value).toList 8 = some ([venD, opD, .lit (.int .i64 0)], [], places) :=
  ⟨[], by kernel_rfl⟩
theorem plansSteps_all {H : Type} {enc : TypeId × Value → H} {W : World} {args : List Value} {ds : List (DataW H)} {p : List MemPlace} (h : DataW.TrodAll enc Tryd.prog W 0 (fun _ => true) true [36, 27, 3] args ds p) :
    ∃ v0 v1 v2 d0 d1 d2 p0 p1 p2, args = [v0, v1, v2] ∧ ds = [d0, d1, d2] ∧ DataW.Trod enc Tryd.prog W 0 (fun _ => true) true 36 v0 d0 p0 ∧ DataW.Trod enc Tryd.prog W 0 (fun _ => true) true 27 v1 d1 p1 ∧ DataW.Trod enc Tryd.prog W 0 (fun _ => true) true 3 v2 d2 p2 := by
  obtain ⟨v0, _, d0, _, _, _, rfl, rfl, rfl, h0, h1'⟩ := trodAll_cons h
  obtain ⟨v1, _, d1, _, _, _, rfl, rfl, rfl, h1, h2'⟩ := trodAll_cons h1'
  obtain ⟨v2, _, d2, _, _, _, rfl, rfl, rfl, h2, h3'⟩ := trodAll_cons h2'
  obtain ⟨rfl, rfl, rfl⟩ := trodAll_nil h3'
  exact ⟨v0, v1, v2, d0, d1, d2, _, _, _, rfl, rfl, h0, h1, h2⟩
set_option maxRecDepth 100000 in
theorem plansSteps_contract (H : Type) (enc : TypeId × Value → H) (W : World) (base : Nat) (args : Array Value) (ds gs : List (DataW H)) (before : List MemPlace)
    (hval : ∀ (j : Nat) t v, Tryd.f5.params[j]? = some t → args[j]? = some v → Value.okWide Tryd.prog W .any base t v) (hW : DataW.Whole enc Tryd.prog Tryd.f5.params.toList Rows.plansStepsSpec.vars false W args.toList ds gs before) (hL : laidMetH Tryd.prog Rows.plansStepsRow.laid W) :
    Calls Tryd.prog 5 args W fun e W' => ∃ v, e = .returned v ∧ Rows.plansStepsSpec.post enc Tryd.prog Tryd.f5 false true false false W args v W' := by
  have hW' := hW
  obtain ⟨p, q, hA0, hV, rfl, hfz, hnd⟩ := hW
  have hA : DataW.TrodAll enc Tryd.prog W 0 (fun _ => true) true Tryd.f5.params.toList args.toList ds p := hA0
  rw [Tryd.params5] at hA hval
  obtain ⟨v0, v1, v2, d0, d1, d2, p0, p1, p2, hargs, rfl, h0, h1, h2⟩ := plansSteps_all hA
  obtain rfl : args = #[v0, v1, v2] := Array.toList_inj.1 hargs
  have hl := uses_laid hL
  obtain ⟨σ1, W1, v, sv, o1, s1, l1, r1, a1⟩ := openVen (openG hl) (hval 0 36 v0 rfl rfl) h0
  obtain ⟨o, rfl⟩ := openOp (hval 1 27 v1 rfl rfl) h1
  obtain ⟨i0, rfl⟩ := okWide_int Tryd.underlying3 (hval 2 3 v2 rfl rfl)
  have o9 := o1
  have s9 := s1
  have hc := open_calls omS_ok o9 s9 (args := [venV v sv, opV o, .int .i64 i0]) (.cons r1 (.cons (plain_refl (opV_plain o)) (.cons (.int _ _) .nil))) (plansSteps_om a1 (gw_le l1))
  refine hc.mono fun e W' ⟨he, hq⟩ => ⟨_, he, ?_⟩
  exact post_true kidsT fullT (by rw [Tryd.params5]; intro t ht; revert t; exact of_decide_eq_true (by kernel_rfl)) hW' hq rfl rfl rfl Tryd.underlying4
set_option maxRecDepth 100000 in
theorem plansSteps_lifted (os : Os) (started : os.Started) (H : Type) (enc : TypeId × Value → H) (F : Stop.Interp) :
    ReturnsInHanded {} Tryd.checked os 5 .any ((OpenSpec.ofChange Rows.plansStepsSpec).preRow enc Tryd.prog Tryd.f5 Rows.plansStepsRow.domain false Rows.plansStepsRow.laid) (((OpenSpec.ofChange Rows.plansStepsSpec).at F).post enc Tryd.prog Tryd.f5 false true false false) := by
  obtain ⟨places, hx⟩ := plansSteps_reads os enc
  refine returnsInHanded_of_row (C := Tryd.checked) (s := OpenSpec.ofChange Rows.plansStepsSpec) own started (by kernel_rfl) Tryd.func5
    (witness_row_at (enc := enc) (C := Tryd.checked) false (laidWorld os) plansStepsZ rfl (by kernel_rfl) (by kernel_rfl) (by kernel_rfl)
      (OpenSpec.preRow_of_cond 8 hx (by kernel_rfl) (fun k hk => by cases hk) (by kernel_rfl) (plansSteps_met os))) ?_
  intro W base args ds gs before hval hW _ _ _ hL _ _
  exact plansSteps_contract H enc W base args ds gs before hval hW hL
theorem plansSteps_inPlace : (Rows.plansStepsRow.inPlace == Tryd.pinned.checked.prog.inPlace 5) = true := by kernel_rfl
theorem plansSteps_unfollowed : (Rows.plansStepsRow.unfollowed == Tryd.pinned.checked.prog.unfollowed 5) = true := by kernel_rfl
theorem plansSteps_recurses : (Rows.plansStepsRow.recurses == Tryd.pinned.checked.prog.recurses 5) = true := by kernel_rfl
theorem plansSteps_named : (Rows.plansStepsRow.named == Tryd.pinned.checked.prog.varsNamed 5) = true := by kernel_rfl
theorem plansSteps_closed : joinedFacts Tryd.pinned.checked.prog 5 Tryd.f5 (OpenSpec.ofChange Rows.plansStepsSpec).bare Rows.plansStepsRow = true := by
  unfold joinedFacts
  rw [plansSteps_inPlace, plansSteps_unfollowed, plansSteps_recurses, plansSteps_named]
  kernel_rfl
theorem plansSteps_said : Rows.PlansStepsSaid :=
  OpenClaim.holds_of_cond 5 Tryd.f5 rfl rfl rfl rfl rfl rfl rfl ⟨rfl, rfl, rfl, rfl, rfl⟩ rfl rfl rfl rfl rfl (by kernel_rfl) Tryd.func5 plansSteps_closed
    (of_decide_eq_true (by kernel_rfl)) (by unfold Func.isWrapper; first | (rw [if_pos (by decide +kernel)]; kernel_rfl) | (rw [if_neg (by decide +kernel)]; exact ⟨rfl, rfl⟩))
    (fun os started H enc _ F => by rw [OpenClaim.pre_eq_preRow]; exact plansSteps_lifted os started H enc F)
theorem plansSteps_plain (f : FuncId) (fn : Func) (hf : Tryd.pinned.checked.prog.funcNamed "groundling/groundlinglaw22.PlansSteps" = some f) (hfn : Tryd.pinned.checked.prog.funcs[f]? = some fn) :
    false = Tryd.pinned.checked.prog.looks [] ∧ ∀ (j : Nat) t, fn.params[j]? = some t → Tryd.pinned.checked.prog.wantsStandIn t = false := by
  obtain rfl : f = 5 := Option.some.inj ((show Tryd.prog.funcNamed "groundling/groundlinglaw22.PlansSteps" = some 5 by kernel_rfl).symm.trans hf) |>.symm
  obtain rfl : fn = Tryd.f5 := (Option.some.inj (Tryd.func5.symm.trans hfn)).symm
  refine ⟨by kernel_rfl, fun j t ht => ?_⟩
  rw [Tryd.params5] at ht
  have hm := Array.mem_of_getElem? ht
  simp only [List.mem_toArray, List.mem_cons, List.not_mem_nil, or_false] at hm
  rcases hm with rfl | rfl | rfl
  · exact (show Tryd.prog.wantsStandIn 36 = false by kernel_rfl)
  · exact (show Tryd.prog.wantsStandIn 27 = false by kernel_rfl)
  · exact (show Tryd.prog.wantsStandIn 3 = false by kernel_rfl)
theorem plansSteps_card : Rows.PlansStepsCardSaid :=
  Claim7.holds_tied_plain_at .later [] _ _ _ _ plansSteps_said (fun _ h => by cases h) (by kernel_rfl) (fun _ h => by cases h) plansSteps_row_tie rfl ⟨rfl, rfl⟩ (by kernel_rfl) rfl plansSteps_plain (by kernel_rfl)
end Go.Proofs.YtfcfglpkgcheiaaDoor
