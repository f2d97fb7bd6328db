/- PlansRounds answers true at every venue and operations. -/
import Derived.Test.YtfcfglpkgcheiaaDoorPlainB
import Derived.Test.YtfcfglpkgcheiaaDoorSLaid
namespace Go.Proofs.YtfcfglpkgcheiaaDoor
open Go Go.Eng Go.ChangeShapes Go.WideShapes Go.ChangeAt Go.RowKit
set_option linter.unusedVariables false
def plansRoundsZ : Array Value := #[venZ, .slice none 0 0]
theorem plansRounds_met (os : Os) : laidMet Tryd.prog Rows.plansRoundsRow.laid ((laidWorld os).forCall (fun _ _ => 0) ⟨#[], plansRoundsZ, []⟩).memory :=
  laidMet_of_run' 8 (by kernel_rfl) (by kernel_rfl)
theorem plansRounds_reads (os : Os) {H : Type} (enc : TypeId × Value → H) : ∃ places, DataW.whole enc Tryd.prog ((laidWorld os).forCall (fun _ _ => 0) ⟨#[], plansRoundsZ, []⟩).memory Tryd.f8.params.toList Rows.plansRoundsSpec.vars false (plansRoundsZ : Array Value).toList 8 = some ([venD, .nil], [], places) :=
  ⟨[], by kernel_rfl⟩
theorem plansRounds_all {H : Type} {enc : TypeId × Value → H} {W : World} {args : List Value} {ds : List (DataW H)} {p : List MemPlace} (h : DataW.TrodAll enc Tryd.prog W 0 (fun _ => true) true [36, 50] args ds p) :
    ∃ v0 v1 d0 d1 p0 p1, args = [v0, v1] ∧ ds = [d0, d1] ∧ DataW.Trod enc Tryd.prog W 0 (fun _ => true) true 36 v0 d0 p0 ∧ DataW.Trod enc Tryd.prog W 0 (fun _ => true) true 50 v1 d1 p1 := by
  obtain ⟨v0, _, d0, _, _, _, rfl, rfl, rfl, h0, h1'⟩ := trodAll_cons h
  obtain ⟨v1, _, d1, _, _, _, rfl, rfl, rfl, h1, h2'⟩ := trodAll_cons h1'
  obtain ⟨rfl, rfl, rfl⟩ := trodAll_nil h2'
  exact ⟨v0, v1, d0, d1, _, _, rfl, rfl, h0, h1⟩
set_option maxRecDepth 100000 in
theorem plansRounds_contract (H : Type) (enc : TypeId × Value → H) (W : World) (base : Nat) (args : Array Value) (ds gs : List (DataW H)) (before : List MemPlace)
    (hval : ∀ (j : Nat) t v, Tryd.f8.params[j]? = some t → args[j]? = some v → Value.okWide Tryd.prog W .any base t v) (hW : DataW.Whole enc Tryd.prog Tryd.f8.params.toList Rows.plansRoundsSpec.vars false W args.toList ds gs before) (hL : laidMetH Tryd.prog Rows.plansRoundsRow.laid W) :
    Calls Tryd.prog 8 args W fun e W' => ∃ v, e = .returned v ∧ Rows.plansRoundsSpec.post enc Tryd.prog Tryd.f8 false true false false W args v W' := by
  have hW' := hW
  obtain ⟨p, q, hA0, hV, rfl, hfz, hnd⟩ := hW
  have hA : DataW.TrodAll enc Tryd.prog W 0 (fun _ => true) true Tryd.f8.params.toList args.toList ds p := hA0
  rw [Tryd.params8] at hA hval
  obtain ⟨v0, v1, d0, d1, p0, p1, hargs, rfl, h0, h1⟩ := plansRounds_all hA
  obtain rfl : args = #[v0, v1] := Array.toList_inj.1 hargs
  have hl := uses_laid hL
  obtain ⟨σ1, W1, v, sv, o1, s1, l1, r1, a1⟩ := openVen (openG hl) (hval 0 36 v0 rfl rfl) h0
  obtain ⟨σ2, W2, ops, ov, o2, s2, l2, r2, a2⟩ := openOps o1 (hval 1 50 v1 rfl rfl) h1
  have o9 := o2
  have s9 := s1.trans s2
  have hc := open_calls omS_ok o9 s9 (args := [venV v sv, ov]) (.cons (r1.mono s2) (.cons r2 .nil)) (plansRounds_om (secs_up a1 l2) (gw_le (le_up l1 l2)) a2)
  refine hc.mono fun e W' ⟨he, hq⟩ => ⟨_, he, ?_⟩
  exact post_true kidsT fullT (by rw [Tryd.params8]; intro t ht; revert t; exact of_decide_eq_true (by kernel_rfl)) hW' hq rfl rfl rfl Tryd.underlying4
set_option maxRecDepth 100000 in
theorem plansRounds_lifted (os : Os) (started : os.Started) (H : Type) (enc : TypeId × Value → H) (F : Stop.Interp) :
    ReturnsInHanded {} Tryd.checked os 8 .any ((OpenSpec.ofChange Rows.plansRoundsSpec).preRow enc Tryd.prog Tryd.f8 Rows.plansRoundsRow.domain false Rows.plansRoundsRow.laid) (((OpenSpec.ofChange Rows.plansRoundsSpec).at F).post enc Tryd.prog Tryd.f8 false true false false) := by
  obtain ⟨places, hx⟩ := plansRounds_reads os enc
  refine returnsInHanded_of_row (C := Tryd.checked) (s := OpenSpec.ofChange Rows.plansRoundsSpec) own started (by kernel_rfl) Tryd.func8
    (witness_row_at (enc := enc) (C := Tryd.checked) false (laidWorld os) plansRoundsZ rfl (by kernel_rfl) (by kernel_rfl) (by kernel_rfl)
      (OpenSpec.preRow_of_cond 8 hx (by kernel_rfl) (fun k hk => by cases hk) (by kernel_rfl) (plansRounds_met os))) ?_
  intro W base args ds gs before hval hW _ _ _ hL _ _
  exact plansRounds_contract H enc W base args ds gs before hval hW hL
theorem plansRounds_inPlace : (Rows.plansRoundsRow.inPlace == Tryd.pinned.checked.prog.inPlace 8) = true := by kernel_rfl
theorem plansRounds_unfollowed : (Rows.plansRoundsRow.unfollowed == Tryd.pinned.checked.prog.unfollowed 8) = true := by kernel_rfl
theorem plansRounds_recurses : (Rows.plansRoundsRow.recurses == Tryd.pinned.checked.prog.recurses 8) = true := by kernel_rfl
theorem plansRounds_named : (Rows.plansRoundsRow.named == Tryd.pinned.checked.prog.varsNamed 8) = true := by kernel_rfl
theorem plansRounds_closed : joinedFacts Tryd.pinned.checked.prog 8 Tryd.f8 (OpenSpec.ofChange Rows.plansRoundsSpec).bare Rows.plansRoundsRow = true := by
  unfold joinedFacts
  rw [plansRounds_inPlace, plansRounds_unfollowed, plansRounds_recurses, plansRounds_named]
  kernel_rfl
theorem plansRounds_said : Rows.PlansRoundsSaid :=
  OpenClaim.holds_of_cond 8 Tryd.f8 rfl rfl rfl rfl rfl rfl rfl ⟨rfl, rfl, rfl, rfl, rfl⟩ rfl rfl rfl rfl rfl (by kernel_rfl) Tryd.func8 plansRounds_closed
    (of_decide_eq_true (by kernel_rfl)) (by unfold Func.isWrapper; first | (rw [if_pos (by decide +kernel)]; kernel_rfl) | (rw [if_neg (by decide +kernel)]; exact ⟨rfl, rfl⟩))
    (fun os started H enc _ F => by rw [OpenClaim.pre_eq_preRow]; exact plansRounds_lifted os started H enc F)
theorem plansRounds_plain (f : FuncId) (fn : Func) (hf : Tryd.pinned.checked.prog.funcNamed "groundling/groundlinglaw22.PlansRounds" = some f) (hfn : Tryd.pinned.checked.prog.funcs[f]? = some fn) :
    false = Tryd.pinned.checked.prog.looks [] ∧ ∀ (j : Nat) t, fn.params[j]? = some t → Tryd.pinned.checked.prog.wantsStandIn t = false := by
  obtain rfl : f = 8 := Option.some.inj ((show Tryd.prog.funcNamed "groundling/groundlinglaw22.PlansRounds" = some 8 by kernel_rfl).symm.trans hf) |>.symm
  obtain rfl : fn = Tryd.f8 := (Option.some.inj (Tryd.func8.symm.trans hfn)).symm
  refine ⟨by kernel_rfl, fun j t ht => ?_⟩
  rw [Tryd.params8] at ht
  have hm := Array.mem_of_getElem? ht
  simp only [List.mem_toArray, List.mem_cons, List.not_mem_nil, or_false] at hm
  rcases hm with rfl | rfl
  · exact (show Tryd.prog.wantsStandIn 36 = false by kernel_rfl)
  · exact (show Tryd.prog.wantsStandIn 50 = false by kernel_rfl)
theorem plansRounds_card : Rows.PlansRoundsCardSaid :=
  Claim7.holds_tied_plain_at .later [] _ _ _ _ plansRounds_said (fun _ h => by cases h) (by kernel_rfl) (fun _ h => by cases h) plansRounds_row_tie rfl ⟨rfl, rfl⟩ (by kernel_rfl) rfl plansRounds_plain (by kernel_rfl)
end Go.Proofs.YtfcfglpkgcheiaaDoor
