/- BoundsTurns answers true at all work, every venue and every number. -/
import Derived.Test.YthjakbhkmpdblaaGreatDoorSLaid
import Derived.Test.YthjakbhkmpdblaaGreatDoorSBTurnsF
set_option linter.unusedVariables false
namespace Go.Proofs.YthjakbhkmpdblaaGreatDoor
open Go Go.Eng Go.ChangeShapes Go.WideShapes Go.ChangeAt Go.RowKit
def boundsTurnsZ : Array Value := #[workZ, venZ, .int .i64 0]
theorem boundsTurns_met (os : Os) : laidMet Tryz.prog Rows.boundsTurnsRow.laid ((laidWorld os).forCall (fun _ _ => 0) ⟨#[], boundsTurnsZ, []⟩).memory :=
  laidMet_of_run' 8 (by kernel_rfl) (by kernel_rfl)
theorem boundsTurns_reads (os : Os) {H : Type} (enc : TypeId × Value → H) : ∃ places, DataW.whole enc Tryz.prog ((laidWorld os).forCall (fun _ _ => 0) ⟨#[], boundsTurnsZ, []⟩).memory Tryz.f3.params.toList Rows.boundsTurnsSpec.vars false (boundsTurnsZ : Array Value).toList 8 = some ([workD, venD, .lit (.int .i64 0)], [], places) :=
  ⟨[], by kernel_rfl⟩
theorem boundsTurns_all {H : Type} {enc : TypeId × Value → H} {W : World} {args : List Value} {ds : List (DataW H)} {p : List MemPlace} (h : DataW.TrodAll enc Tryz.prog W 0 (fun _ => true) true [31, 24, 3] args ds p) :
    ∃ v0 v1 v2 d0 d1 d2 p0 p1 p2, args = [v0, v1, v2] ∧ ds = [d0, d1, d2] ∧ DataW.Trod enc Tryz.prog W 0 (fun _ => true) true 31 v0 d0 p0 ∧ DataW.Trod enc Tryz.prog W 0 (fun _ => true) true 24 v1 d1 p1 ∧ DataW.Trod enc Tryz.prog W 0 (fun _ => true) true 3 v2 d2 p2 := by
  obtain ⟨v0, _, d0, _, _, _, rfl, rfl, rfl, h0, h1'⟩ := trodAll_cons h
  obtain ⟨v1, _, d1, _, _, _, rfl, rfl, rfl, h1, h2'⟩ := trodAll_cons h1'
  obtain ⟨v2, _, d2, _, _, _, rfl, rfl, rfl, h2, h3'⟩ := trodAll_cons h2'
  obtain ⟨rfl, rfl, rfl⟩ := trodAll_nil h3'
  exact ⟨v0, v1, v2, d0, d1, d2, _, _, _, rfl, rfl, h0, h1, h2⟩
set_option maxRecDepth 100000 in
theorem boundsTurns_contract (H : Type) (enc : TypeId × Value → H) (W : World) (base : Nat) (args : Array Value) (ds gs : List (DataW H)) (before : List MemPlace)
    (hval : ∀ (j : Nat) t v, Tryz.f3.params[j]? = some t → args[j]? = some v → Value.okWide Tryz.prog W .any base t v) (hW : DataW.Whole enc Tryz.prog Tryz.f3.params.toList Rows.boundsTurnsSpec.vars false W args.toList ds gs before) (hL : laidMetH Tryz.prog Rows.boundsTurnsRow.laid W) :
    Calls Tryz.prog 3 args W fun e W' => ∃ v, e = .returned v ∧ Rows.boundsTurnsSpec.post enc Tryz.prog Tryz.f3 false true false false W args v W' := by
  have hW' := hW
  obtain ⟨p, q, hA0, hV, rfl, hfz, hnd⟩ := hW
  have hA : DataW.TrodAll enc Tryz.prog W 0 (fun _ => true) true Tryz.f3.params.toList args.toList ds p := hA0
  rw [Tryz.params3] at hA hval
  obtain ⟨v0, v1, v2, d0, d1, d2, p0, p1, p2, hargs, rfl, h0, h1, h2⟩ := boundsTurns_all hA
  obtain rfl : args = #[v0, v1, v2] := Array.toList_inj.1 hargs
  have hl := uses_laid hL
  obtain ⟨σ1, W1, x, ll, sv, sq, qq, wv, o1, s1, l1, r1, a1⟩ := openWork (openG hl) (hval 0 31 v0 rfl rfl) h0
  obtain ⟨σ2, W2, v, sv2, o2, s2, l2, r2, a2⟩ := openVen o1 (hval 1 24 v1 rfl rfl) h1
  obtain ⟨n, rfl⟩ := okWide_int Tryz.underlying3 (hval 2 3 v2 rfl rfl)
  have hc := open_calls omS_ok o2 (s1.trans s2) (args := [wkV x sv sq qq wv, venV v sv2, .int .i64 n]) (.cons (r1.mono s2) (.cons r2 (.cons (.int _ _) .nil))) (turns_om (gw_le (l1.trans l2)) (a1.mono l2) a2)
  refine hc.mono fun e W' ⟨he, hq⟩ => ⟨_, he, ?_⟩
  exact post_true kidsT fullT (by rw [Tryz.params3]; intro t ht; revert t; exact of_decide_eq_true (by kernel_rfl)) hW' hq rfl rfl rfl Tryz.underlying4
set_option maxRecDepth 100000 in
theorem boundsTurns_lifted (os : Os) (started : os.Started) (H : Type) (enc : TypeId × Value → H) (F : Stop.Interp) :
    ReturnsInHanded {} Tryz.checked os 3 .any ((OpenSpec.ofChange Rows.boundsTurnsSpec).preRow enc Tryz.prog Tryz.f3 Rows.boundsTurnsRow.domain false Rows.boundsTurnsRow.laid) (((OpenSpec.ofChange Rows.boundsTurnsSpec).at F).post enc Tryz.prog Tryz.f3 false true false false) := by
  obtain ⟨places, hx⟩ := boundsTurns_reads os enc
  refine returnsInHanded_of_row (C := Tryz.checked) (s := OpenSpec.ofChange Rows.boundsTurnsSpec) own started (by kernel_rfl) Tryz.func3
    (witness_row_at (enc := enc) (C := Tryz.checked) false (laidWorld os) boundsTurnsZ rfl (by kernel_rfl) (by kernel_rfl) (by kernel_rfl)
      (OpenSpec.preRow_of_cond 8 hx (by kernel_rfl) (fun k hk => by cases hk) (by kernel_rfl) (boundsTurns_met os))) ?_
  intro W base args ds gs before hval hW _ _ _ hL _ _
  exact boundsTurns_contract H enc W base args ds gs before hval hW hL
theorem boundsTurns_said : Rows.BoundsTurnsSaid :=
  OpenClaim.holds_of_cond 3 Tryz.f3 rfl rfl rfl rfl rfl rfl rfl ⟨rfl, rfl, rfl, rfl, rfl⟩ rfl rfl rfl rfl rfl (by kernel_rfl) Tryz.func3 boundsTurns_closed
    (of_decide_eq_true (by kernel_rfl)) (by unfold Func.isWrapper; first | (rw [if_pos (by decide +kernel)]; kernel_rfl) | (rw [if_neg (by decide +kernel)]; exact ⟨rfl, rfl⟩))
    (fun os started H enc _ F => by rw [OpenClaim.pre_eq_preRow]; exact boundsTurns_lifted os started H enc F)
theorem boundsTurns_plain (f : FuncId) (fn : Func) (hf : Tryz.pinned.checked.prog.funcNamed "groundling/groundlinglaw33.BoundsTurns" = some f) (hfn : Tryz.pinned.checked.prog.funcs[f]? = some fn) :
    true = Tryz.pinned.checked.prog.looks [] ∧ ∀ (j : Nat) t, fn.params[j]? = some t → Tryz.pinned.checked.prog.wantsStandIn t = false := by
  obtain rfl : f = 3 := Option.some.inj ((show Tryz.prog.funcNamed "groundling/groundlinglaw33.BoundsTurns" = some 3 by kernel_rfl).symm.trans hf) |>.symm
  obtain rfl : fn = Tryz.f3 := (Option.some.inj (Tryz.func3.symm.trans hfn)).symm
  refine ⟨sLooks, fun j t ht => ?_⟩
  rw [Tryz.params3] at ht
  have hm := Array.mem_of_getElem? ht
  simp only [List.mem_toArray, List.mem_cons, List.not_mem_nil, or_false] at hm
  rcases hm with rfl | rfl | rfl
  · exact (show Tryz.prog.wantsStandIn 31 = false by kernel_rfl)
  · exact (show Tryz.prog.wantsStandIn 24 = false by kernel_rfl)
  · exact (show Tryz.prog.wantsStandIn 3 = false by kernel_rfl)
theorem boundsTurns_card : Rows.BoundsTurnsCardSaid :=
  Claim7.holds_tied_plain_at .later [] _ _ _ _ boundsTurns_said (fun _ h => by cases h) (by kernel_rfl) (fun _ h => by cases h) boundsTurns_row_tie rfl ⟨rfl, rfl⟩ (by kernel_rfl) rfl boundsTurns_plain boundsTurns_goes
end Go.Proofs.YthjakbhkmpdblaaGreatDoor
