/- HistoryCuts answers true at every history and number. -/
import Derived.Test.YtnigceddndemkaaGreatDoorPlainB
import Derived.Test.YtnigceddndemkaaGreatDoorSLaid
import Derived.Test.YtnigceddndemkaaGreatDoorSHCutsF
namespace Go.Proofs.YtnigceddndemkaaGreatDoor
open Go Go.Eng Go.ChangeShapes Go.WideShapes Go.ChangeAt Go.RowKit
set_option linter.unusedVariables false
def historyCutsZ : Array Value := #[hisZ, .int .i64 0]
theorem historyCuts_met (os : Os) : laidMet Tryz.prog Rows.historyCutsRow.laid ((laidWorld os).forCall (fun _ _ => 0) ⟨#[], historyCutsZ, []⟩).memory :=
  laidMet_of_run' 8 (by kernel_rfl) (by kernel_rfl)
theorem historyCuts_reads (os : Os) {H : Type} (enc : TypeId × Value → H) : ∃ places, DataW.whole enc Tryz.prog ((laidWorld os).forCall (fun _ _ => 0) ⟨#[], historyCutsZ, []⟩).memory Tryz.f11.params.toList Rows.historyCutsSpec.vars false (historyCutsZ : Array Value).toList 8 = some ([hisD, .lit (.int .i64 0)], [], places) :=
  ⟨[], by kernel_rfl⟩
theorem historyCuts_all {H : Type} {enc : TypeId × Value → H} {W : World} {args : List Value} {ds : List (DataW H)} {p : List MemPlace} (h : DataW.TrodAll enc Tryz.prog W 0 (fun _ => true) true [82, 3] args ds p) :
    ∃ v0 v1 d0 d1 p0 p1, args = [v0, v1] ∧ ds = [d0, d1] ∧ DataW.Trod enc Tryz.prog W 0 (fun _ => true) true 82 v0 d0 p0 ∧ DataW.Trod enc Tryz.prog W 0 (fun _ => true) true 3 v1 d1 p1 := by
  obtain ⟨v0, _, d0, _, _, _, rfl, rfl, rfl, h0, h1'⟩ := trodAll_cons h
  obtain ⟨v1, _, d1, _, _, _, rfl, rfl, rfl, h1, h2'⟩ := trodAll_cons h1'
  obtain ⟨rfl, rfl, rfl⟩ := trodAll_nil h2'
  exact ⟨v0, v1, d0, d1, _, _, rfl, rfl, h0, h1⟩
set_option maxRecDepth 100000 in
theorem historyCuts_contract (H : Type) (enc : TypeId × Value → H) (W : World) (base : Nat) (args : Array Value) (ds gs : List (DataW H)) (before : List MemPlace)
    (hval : ∀ (j : Nat) t v, Tryz.f11.params[j]? = some t → args[j]? = some v → Value.okWide Tryz.prog W .any base t v) (hW : DataW.Whole enc Tryz.prog Tryz.f11.params.toList Rows.historyCutsSpec.vars false W args.toList ds gs before) (hL : laidMetH Tryz.prog Rows.historyCutsRow.laid W) :
    Calls Tryz.prog 11 args W fun e W' => ∃ v, e = .returned v ∧ Rows.historyCutsSpec.post enc Tryz.prog Tryz.f11 false true false false W args v W' := by
  have hW' := hW
  obtain ⟨p, q, hA0, hV, rfl, hfz, hnd⟩ := hW
  have hA : DataW.TrodAll enc Tryz.prog W 0 (fun _ => true) true Tryz.f11.params.toList args.toList ds p := hA0
  rw [Tryz.params11] at hA hval
  obtain ⟨v0, v1, d0, d1, p0, p1, hargs, rfl, h0, h1⟩ := historyCuts_all hA
  obtain rfl : args = #[v0, v1] := Array.toList_inj.1 hargs
  have hl := uses_laid hL
  obtain ⟨σ1, W1, v, sv, ev, l, o1, s1, l1, r1, a1, k1⟩ := openHis2 (openG hl) (hval 0 82 v0 rfl rfl) h0
  obtain ⟨i, rfl⟩ := okWide_int Tryz.underlying3 (hval 1 3 v1 rfl rfl)
  have o9 := o1
  have s9 := s1
  have hc := open_calls omS_ok o9 s9 (args := [hiV v sv ev, .int .i64 i]) (.cons r1 (.cons (.int _ _) .nil)) (histCuts_all (gw_le l1) a1 k1 i)
  refine hc.mono fun e W' ⟨he, hq⟩ => ⟨_, he, ?_⟩
  exact post_true kidsT fullT (by rw [Tryz.params11]; intro t ht; revert t; exact of_decide_eq_true (by kernel_rfl)) hW' hq rfl rfl rfl Tryz.underlying4
set_option maxRecDepth 100000 in
theorem historyCuts_lifted (os : Os) (started : os.Started) (H : Type) (enc : TypeId × Value → H) (F : Stop.Interp) :
    ReturnsInHanded {} Tryz.checked os 11 .any ((OpenSpec.ofChange Rows.historyCutsSpec).preRow enc Tryz.prog Tryz.f11 Rows.historyCutsRow.domain false Rows.historyCutsRow.laid) (((OpenSpec.ofChange Rows.historyCutsSpec).at F).post enc Tryz.prog Tryz.f11 false true false false) := by
  obtain ⟨places, hx⟩ := historyCuts_reads os enc
  refine returnsInHanded_of_row (C := Tryz.checked) (s := OpenSpec.ofChange Rows.historyCutsSpec) own started (by kernel_rfl) Tryz.func11
    (witness_row_at (enc := enc) (C := Tryz.checked) false (laidWorld os) historyCutsZ rfl (by kernel_rfl) (by kernel_rfl) (by kernel_rfl)
      (OpenSpec.preRow_of_cond 8 hx (by kernel_rfl) (fun k hk => by cases hk) (by kernel_rfl) (historyCuts_met os))) ?_
  intro W base args ds gs before hval hW _ _ _ hL _ _
  exact historyCuts_contract H enc W base args ds gs before hval hW hL
theorem historyCuts_said : Rows.HistoryCutsSaid :=
  OpenClaim.holds_of_cond 11 Tryz.f11 rfl rfl rfl rfl rfl rfl rfl ⟨rfl, rfl, rfl, rfl, rfl⟩ rfl rfl rfl rfl rfl (by kernel_rfl) Tryz.func11 historyCuts_closed
    (of_decide_eq_true (by kernel_rfl)) (by unfold Func.isWrapper; first | (rw [if_pos (by decide +kernel)]; kernel_rfl) | (rw [if_neg (by decide +kernel)]; exact ⟨rfl, rfl⟩))
    (fun os started H enc _ F => by rw [OpenClaim.pre_eq_preRow]; exact historyCuts_lifted os started H enc F)
theorem historyCuts_plain (f : FuncId) (fn : Func) (hf : Tryz.pinned.checked.prog.funcNamed "groundling/groundlinglaw24.HistoryCuts" = some f) (hfn : Tryz.pinned.checked.prog.funcs[f]? = some fn) :
    true = Tryz.pinned.checked.prog.looks [] ∧ ∀ (j : Nat) t, fn.params[j]? = some t → Tryz.pinned.checked.prog.wantsStandIn t = false := by
  obtain rfl : f = 11 := Option.some.inj ((show Tryz.prog.funcNamed "groundling/groundlinglaw24.HistoryCuts" = some 11 by kernel_rfl).symm.trans hf) |>.symm
  obtain rfl : fn = Tryz.f11 := (Option.some.inj (Tryz.func11.symm.trans hfn)).symm
  refine ⟨sLooks, fun j t ht => ?_⟩
  rw [Tryz.params11] at ht
  have hm := Array.mem_of_getElem? ht
  simp only [List.mem_toArray, List.mem_cons, List.not_mem_nil, or_false] at hm
  rcases hm with rfl | rfl
  · exact (show Tryz.prog.wantsStandIn 82 = false by kernel_rfl)
  · exact (show Tryz.prog.wantsStandIn 3 = false by kernel_rfl)
theorem historyCuts_card : Rows.HistoryCutsCardSaid :=
  Claim7.holds_tied_plain_at .later [] _ _ _ _ historyCuts_said (fun _ h => by cases h) (by kernel_rfl) (fun _ h => by cases h) historyCuts_row_tie rfl ⟨rfl, rfl⟩ (by kernel_rfl) rfl historyCuts_plain historyCuts_goes
end Go.Proofs.YtnigceddndemkaaGreatDoor
