/- HistoryIntervals answers true at every history and four numbers. -/
import Derived.Test.YtnigceddndemkaaGreatDoorPlainB
import Derived.Test.YtnigceddndemkaaGreatDoorSLaid
import Derived.Test.YtnigceddndemkaaGreatDoorSHIntervalsF
namespace Go.Proofs.YtnigceddndemkaaGreatDoor
open Go Go.Eng Go.ChangeShapes Go.WideShapes Go.ChangeAt Go.RowKit
set_option linter.unusedVariables false
def historyIntervalsZ : Array Value := #[hisZ, .agg #[.int .u16 0, .int .u16 0, .int .u16 0, .int .u16 0]]
theorem historyIntervals_met (os : Os) : laidMet Tryz.prog Rows.historyIntervalsRow.laid ((laidWorld os).forCall (fun _ _ => 0) ⟨#[], historyIntervalsZ, []⟩).memory :=
  laidMet_of_run' 8 (by kernel_rfl) (by kernel_rfl)
theorem historyIntervals_reads (os : Os) {H : Type} (enc : TypeId × Value → H) : ∃ places, DataW.whole enc Tryz.prog ((laidWorld os).forCall (fun _ _ => 0) ⟨#[], historyIntervalsZ, []⟩).memory Tryz.f9.params.toList Rows.historyIntervalsSpec.vars false (historyIntervalsZ : Array Value).toList 8 = some ([hisD, .agg [.lit (.int .u16 0), .lit (.int .u16 0), .lit (.int .u16 0), .lit (.int .u16 0)]], [], places) :=
  ⟨[], by kernel_rfl⟩
theorem historyIntervals_all {H : Type} {enc : TypeId × Value → H} {W : World} {args : List Value} {ds : List (DataW H)} {p : List MemPlace} (h : DataW.TrodAll enc Tryz.prog W 0 (fun _ => true) true [82, 88] args ds p) :
    ∃ v0 v1 d0 d1 p0 p1, args = [v0, v1] ∧ ds = [d0, d1] ∧ DataW.Trod enc Tryz.prog W 0 (fun _ => true) true 82 v0 d0 p0 ∧ DataW.Trod enc Tryz.prog W 0 (fun _ => true) true 88 v1 d1 p1 := by
  obtain ⟨v0, _, d0, _, _, _, rfl, rfl, rfl, h0, h1'⟩ := trodAll_cons h
  obtain ⟨v1, _, d1, _, _, _, rfl, rfl, rfl, h1, h2'⟩ := trodAll_cons h1'
  obtain ⟨rfl, rfl, rfl⟩ := trodAll_nil h2'
  exact ⟨v0, v1, d0, d1, _, _, rfl, rfl, h0, h1⟩
set_option maxRecDepth 100000 in
theorem historyIntervals_contract (H : Type) (enc : TypeId × Value → H) (W : World) (base : Nat) (args : Array Value) (ds gs : List (DataW H)) (before : List MemPlace)
    (hval : ∀ (j : Nat) t v, Tryz.f9.params[j]? = some t → args[j]? = some v → Value.okWide Tryz.prog W .any base t v) (hW : DataW.Whole enc Tryz.prog Tryz.f9.params.toList Rows.historyIntervalsSpec.vars false W args.toList ds gs before) (hL : laidMetH Tryz.prog Rows.historyIntervalsRow.laid W) :
    Calls Tryz.prog 9 args W fun e W' => ∃ v, e = .returned v ∧ Rows.historyIntervalsSpec.post enc Tryz.prog Tryz.f9 false true false false W args v W' := by
  have hW' := hW
  obtain ⟨p, q, hA0, hV, rfl, hfz, hnd⟩ := hW
  have hA : DataW.TrodAll enc Tryz.prog W 0 (fun _ => true) true Tryz.f9.params.toList args.toList ds p := hA0
  rw [Tryz.params9] at hA hval
  obtain ⟨v0, v1, d0, d1, p0, p1, hargs, rfl, h0, h1⟩ := historyIntervals_all hA
  obtain rfl : args = #[v0, v1] := Array.toList_inj.1 hargs
  have hl := uses_laid hL
  obtain ⟨σ1, W1, v, sv, ev, l, o1, s1, l1, r1, a1⟩ := openHis (openG hl) (hval 0 82 v0 rfl rfl) h0
  obtain ⟨x, hx, rfl⟩ := openArr (hval 1 88 v1 rfl rfl)
  have o9 := o1
  have s9 := s1
  have hc := open_calls omS_ok o9 s9 (args := [hiV v sv ev, .agg (arC x).toArray]) (.cons r1 (.cons (plain_refl rfl) .nil)) (histIntervals_all (gw_le l1) a1 x hx)
  refine hc.mono fun e W' ⟨he, hq⟩ => ⟨_, he, ?_⟩
  exact post_true kidsT fullT (by rw [Tryz.params9]; intro t ht; revert t; exact of_decide_eq_true (by kernel_rfl)) hW' hq rfl rfl rfl Tryz.underlying4
set_option maxRecDepth 100000 in
theorem historyIntervals_lifted (os : Os) (started : os.Started) (H : Type) (enc : TypeId × Value → H) (F : Stop.Interp) :
    ReturnsInHanded {} Tryz.checked os 9 .any ((OpenSpec.ofChange Rows.historyIntervalsSpec).preRow enc Tryz.prog Tryz.f9 Rows.historyIntervalsRow.domain false Rows.historyIntervalsRow.laid) (((OpenSpec.ofChange Rows.historyIntervalsSpec).at F).post enc Tryz.prog Tryz.f9 false true false false) := by
  obtain ⟨places, hx⟩ := historyIntervals_reads os enc
  refine returnsInHanded_of_row (C := Tryz.checked) (s := OpenSpec.ofChange Rows.historyIntervalsSpec) own started (by kernel_rfl) Tryz.func9
    (witness_row_at (enc := enc) (C := Tryz.checked) false (laidWorld os) historyIntervalsZ rfl (by kernel_rfl) (by kernel_rfl) (by kernel_rfl)
      (OpenSpec.preRow_of_cond 8 hx (by kernel_rfl) (fun k hk => by cases hk) (by kernel_rfl) (historyIntervals_met os))) ?_
  intro W base args ds gs before hval hW _ _ _ hL _ _
  exact historyIntervals_contract H enc W base args ds gs before hval hW hL
theorem historyIntervals_said : Rows.HistoryIntervalsSaid :=
  OpenClaim.holds_of_cond 9 Tryz.f9 rfl rfl rfl rfl rfl rfl rfl ⟨rfl, rfl, rfl, rfl, rfl⟩ rfl rfl rfl rfl rfl (by kernel_rfl) Tryz.func9 historyIntervals_closed
    (of_decide_eq_true (by kernel_rfl)) (by unfold Func.isWrapper; first | (rw [if_pos (by decide +kernel)]; kernel_rfl) | (rw [if_neg (by decide +kernel)]; exact ⟨rfl, rfl⟩))
    (fun os started H enc _ F => by rw [OpenClaim.pre_eq_preRow]; exact historyIntervals_lifted os started H enc F)
theorem historyIntervals_plain (f : FuncId) (fn : Func) (hf : Tryz.pinned.checked.prog.funcNamed "groundling/groundlinglaw24.HistoryIntervals" = some f) (hfn : Tryz.pinned.checked.prog.funcs[f]? = some fn) :
    true = Tryz.pinned.checked.prog.looks [] ∧ ∀ (j : Nat) t, fn.params[j]? = some t → Tryz.pinned.checked.prog.wantsStandIn t = false := by
  obtain rfl : f = 9 := Option.some.inj ((show Tryz.prog.funcNamed "groundling/groundlinglaw24.HistoryIntervals" = some 9 by kernel_rfl).symm.trans hf) |>.symm
  obtain rfl : fn = Tryz.f9 := (Option.some.inj (Tryz.func9.symm.trans hfn)).symm
  refine ⟨sLooks, fun j t ht => ?_⟩
  rw [Tryz.params9] at ht
  have hm := Array.mem_of_getElem? ht
  simp only [List.mem_toArray, List.mem_cons, List.not_mem_nil, or_false] at hm
  rcases hm with rfl | rfl
  · exact (show Tryz.prog.wantsStandIn 82 = false by kernel_rfl)
  · exact (show Tryz.prog.wantsStandIn 88 = false by kernel_rfl)
theorem historyIntervals_card : Rows.HistoryIntervalsCardSaid :=
  Claim7.holds_tied_plain_at .later [] _ _ _ _ historyIntervals_said (fun _ h => by cases h) (by kernel_rfl) (fun _ h => by cases h) historyIntervals_row_tie rfl ⟨rfl, rfl⟩ (by kernel_rfl) rfl historyIntervals_plain historyIntervals_goes
end Go.Proofs.YtnigceddndemkaaGreatDoor
