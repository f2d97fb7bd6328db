/- PlansConflicts answers true at every venue and two operations. -/
import Derived.Test.YtfcfglpkgcheiaaDoorPlainB
import Derived.Test.YtfcfglpkgcheiaaDoorSLaid
namespace Go.Proofs.YtfcfglpkgcheiaaDoor
open Go Go.Eng Go.ChangeShapes Go.WideShapes Go.ChangeAt Go.RowKit
set_option linter.unusedVariables false
def plansConflictsZ : Array Value := #[venZ, opZ1, opZ1]
theorem plansConflicts_met (os : Os) : laidMet Tryd.prog Rows.plansConflictsRow.laid ((laidWorld os).forCall (fun _ _ => 0) ⟨#[], plansConflictsZ, []⟩).memory :=
  laidMet_of_run' 8 (by kernel_rfl) (by kernel_rfl)
theorem plansConflicts_reads (os : Os) {H : Type} (enc : TypeId × Value → H) : ∃ places, DataW.whole enc Tryd.prog ((laidWorld os).forCall (fun _ _ => 0) ⟨#[], plansConflictsZ, []⟩).memory Tryd.f7.params.toList Rows.plansConflictsSpec.vars false (plansConflictsZ : Array Value).toList 8 = some ([venD, opD, opD], [], places) :=
  ⟨[], by kernel_rfl⟩
theorem plansConflicts_all {H : Type} {enc : TypeId × Value → H} {W : World} {args : List Value} {ds : List (DataW H)} {p : List MemPlace} (h : DataW.TrodAll enc Tryd.prog W 0 (fun _ => true) true [36, 27, 27] args ds p) :
    ∃ v0 v1 v2 d0 d1 d2 p0 p1 p2, args = [v0, v1, v2] ∧ ds = [d0, d1, d2] ∧ DataW.Trod enc Tryd.prog W 0 (fun _ => true) true 36 v0 d0 p0 ∧ DataW.Trod enc Tryd.prog W 0 (fun _ => true) true 27 v1 d1 p1 ∧ DataW.Trod enc Tryd.prog W 0 (fun _ => true) true 27 v2 d2 p2 := by
  obtain ⟨v0, _, d0, _, _, _, rfl, rfl, rfl, h0, h1'⟩ := trodAll_cons h
  obtain ⟨v1, _, d1, _, _, _, rfl, rfl, rfl, h1, h2'⟩ := trodAll_cons h1'
  obtain ⟨v2, _, d2, _, _, _, rfl, rfl, rfl, h2, h3'⟩ := trodAll_cons h2'
  obtain ⟨rfl, rfl, rfl⟩ := trodAll_nil h3'
  exact ⟨v0, v1, v2, d0, d1, d2, _, _, _, rfl, rfl, h0, h1, h2⟩
set_option maxRecDepth 100000 in
theorem plansConflicts_contract (H : Type) (enc : TypeId × Value → H) (W : World) (base : Nat) (args : Array Value) (ds gs : List (DataW H)) (before : List MemPlace)
    (hval : ∀ (j : Nat) t v, Tryd.f7.params[j]? = some t → args[j]? = some v → Value.okWide Tryd.prog W .any base t v) (hW : DataW.Whole enc Tryd.prog Tryd.f7.params.toList Rows.plansConflictsSpec.vars false W args.toList ds gs before) (hL : laidMetH Tryd.prog Rows.plansConflictsRow.laid W) :
    Calls Tryd.prog 7 args W fun e W' => ∃ v, e = .returned v ∧ Rows.plansConflictsSpec.post enc Tryd.prog Tryd.f7 false true false false W args v W' := by
  have hW' := hW
  obtain ⟨p, q, hA0, hV, rfl, hfz, hnd⟩ := hW
  have hA : DataW.TrodAll enc Tryd.prog W 0 (fun _ => true) true Tryd.f7.params.toList args.toList ds p := hA0
  rw [Tryd.params7] at hA hval
  obtain ⟨v0, v1, v2, d0, d1, d2, p0, p1, p2, hargs, rfl, h0, h1, h2⟩ := plansConflicts_all hA
  obtain rfl : args = #[v0, v1, v2] := Array.toList_inj.1 hargs
  have hl := uses_laid hL
  obtain ⟨σ1, W1, v, sv, o1, s1, l1, r1, a1⟩ := openVen (openG hl) (hval 0 36 v0 rfl rfl) h0
  obtain ⟨a, rfl⟩ := openOp (hval 1 27 v1 rfl rfl) h1
  obtain ⟨b, rfl⟩ := openOp (hval 2 27 v2 rfl rfl) h2
  have o9 := o1
  have s9 := s1
  have hc := open_calls omS_ok o9 s9 (args := [venV v sv, opV a, opV b]) (.cons r1 (.cons (plain_refl (opV_plain a)) (.cons (plain_refl (opV_plain b)) .nil))) (plansConflicts_om a1 (gw_le l1))
  refine hc.mono fun e W' ⟨he, hq⟩ => ⟨_, he, ?_⟩
  exact post_true kidsT fullT (by rw [Tryd.params7]; intro t ht; revert t; exact of_decide_eq_true (by kernel_rfl)) hW' hq rfl rfl rfl Tryd.underlying4
set_option maxRecDepth 100000 in
theorem plansConflicts_lifted (os : Os) (started : os.Started) (H : Type) (enc : TypeId × Value → H) (F : Stop.Interp) :
    ReturnsInHanded {} Tryd.checked os 7 .any ((OpenSpec.ofChange Rows.plansConflictsSpec).preRow enc Tryd.prog Tryd.f7 Rows.plansConflictsRow.domain false Rows.plansConflictsRow.laid) (((OpenSpec.ofChange Rows.plansConflictsSpec).at F).post enc Tryd.prog Tryd.f7 false true false false) := by
  obtain ⟨places, hx⟩ := plansConflicts_reads os enc
  refine returnsInHanded_of_row (C := Tryd.checked) (s := OpenSpec.ofChange Rows.plansConflictsSpec) own started (by kernel_rfl) Tryd.func7
    (witness_row_at (enc := enc) (C := Tryd.checked) false (laidWorld os) plansConflictsZ rfl (by kernel_rfl) (by kernel_rfl) (by kernel_rfl)
      (OpenSpec.preRow_of_cond 8 hx (by kernel_rfl) (fun k hk => by cases hk) (by kernel_rfl) (plansConflicts_met os))) ?_
  intro W base args ds gs before hval hW _ _ _ hL _ _
  exact plansConflicts_contract H enc W base args ds gs before hval hW hL
theorem plansConflicts_inPlace : (Rows.plansConflictsRow.inPlace == Tryd.pinned.checked.prog.inPlace 7) = true := by kernel_rfl
theorem plansConflicts_unfollowed : (Rows.plansConflictsRow.unfollowed == Tryd.pinned.checked.prog.unfollowed 7) = true := by kernel_rfl
theorem plansConflicts_recurses : (Rows.plansConflictsRow.recurses == Tryd.pinned.checked.prog.recurses 7) = true := by kernel_rfl
theorem plansConflicts_named : (Rows.plansConflictsRow.named == Tryd.pinned.checked.prog.varsNamed 7) = true := by kernel_rfl
theorem plansConflicts_closed : joinedFacts Tryd.pinned.checked.prog 7 Tryd.f7 (OpenSpec.ofChange Rows.plansConflictsSpec).bare Rows.plansConflictsRow = true := by
  unfold joinedFacts
  rw [plansConflicts_inPlace, plansConflicts_unfollowed, plansConflicts_recurses, plansConflicts_named]
  kernel_rfl
theorem plansConflicts_said : Rows.PlansConflictsSaid :=
  OpenClaim.holds_of_cond 7 Tryd.f7 rfl rfl rfl rfl rfl rfl rfl ⟨rfl, rfl, rfl, rfl, rfl⟩ rfl rfl rfl rfl rfl (by kernel_rfl) Tryd.func7 plansConflicts_closed
    (of_decide_eq_true (by kernel_rfl)) (by unfold Func.isWrapper; first | (rw [if_pos (by decide +kernel)]; kernel_rfl) | (rw [if_neg (by decide +kernel)]; exact ⟨rfl, rfl⟩))
    (fun os started H enc _ F => by rw [OpenClaim.pre_eq_preRow]; exact plansConflicts_lifted os started H enc F)
theorem plansConflicts_plain (f : FuncId) (fn : Func) (hf : Tryd.pinned.checked.prog.funcNamed "groundling/groundlinglaw22.PlansConflicts" = some f) (hfn : Tryd.pinned.checked.prog.funcs[f]? = some fn) :
    false = Tryd.pinned.checked.prog.looks [] ∧ ∀ (j : Nat) t, fn.params[j]? = some t → Tryd.pinned.checked.prog.wantsStandIn t = false := by
  obtain rfl : f = 7 := Option.some.inj ((show Tryd.prog.funcNamed "groundling/groundlinglaw22.PlansConflicts" = some 7 by kernel_rfl).symm.trans hf) |>.symm
  obtain rfl : fn = Tryd.f7 := (Option.some.inj (Tryd.func7.symm.trans hfn)).symm
  refine ⟨by kernel_rfl, fun j t ht => ?_⟩
  rw [Tryd.params7] at ht
  have hm := Array.mem_of_getElem? ht
  simp only [List.mem_toArray, List.mem_cons, List.not_mem_nil, or_false] at hm
  rcases hm with rfl | rfl | rfl
  · exact (show Tryd.prog.wantsStandIn 36 = false by kernel_rfl)
  · exact (show Tryd.prog.wantsStandIn 27 = false by kernel_rfl)
  · exact (show Tryd.prog.wantsStandIn 27 = false by kernel_rfl)
theorem plansConflicts_card : Rows.PlansConflictsCardSaid :=
  Claim7.holds_tied_plain_at .later [] _ _ _ _ plansConflicts_said (fun _ h => by cases h) (by kernel_rfl) (fun _ h => by cases h) plansConflicts_row_tie rfl ⟨rfl, rfl⟩ (by kernel_rfl) rfl plansConflicts_plain (by kernel_rfl)
end Go.Proofs.YtfcfglpkgcheiaaDoor
