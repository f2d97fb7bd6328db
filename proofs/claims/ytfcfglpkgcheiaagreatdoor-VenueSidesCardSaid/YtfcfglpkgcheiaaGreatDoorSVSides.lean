/- VenueSides answers true at every venue, seat and name. -/
import Derived.Test.YtfcfglpkgcheiaaGreatDoorPlainA
import Derived.Test.YtfcfglpkgcheiaaGreatDoorSLaid
namespace Go.Proofs.YtfcfglpkgcheiaaGreatDoor
open Go Go.Eng Go.ChangeShapes Go.WideShapes Go.ChangeAt Go.RowKit
set_option linter.unusedVariables false
def venueSidesZ : Array Value := #[venZ, .int .i64 0, .string ⟨#[]⟩]
theorem venueSides_met (os : Os) : laidMet Tryz.prog Rows.venueSidesRow.laid ((laidWorld os).forCall (fun _ _ => 0) ⟨#[], venueSidesZ, []⟩).memory :=
  laidMet_of_run' 8 (by kernel_rfl) (by kernel_rfl)
theorem venueSides_reads (os : Os) {H : Type} (enc : TypeId × Value → H) : ∃ places, DataW.whole enc Tryz.prog ((laidWorld os).forCall (fun _ _ => 0) ⟨#[], venueSidesZ, []⟩).memory Tryz.f5.params.toList Rows.venueSidesSpec.vars false (venueSidesZ : Array Value).toList 8 = some ([venD, .lit (.int .i64 0), .lit (.string [])], [], places) :=
  ⟨[], by kernel_rfl⟩
theorem venueSides_all {H : Type} {enc : TypeId × Value → H} {W : World} {args : List Value} {ds : List (DataW H)} {p : List MemPlace} (h : DataW.TrodAll enc Tryz.prog W 0 (fun _ => true) true [24, 3, 9] args ds p) :
    ∃ v0 v1 v2 d0 d1 d2 p0 p1 p2, args = [v0, v1, v2] ∧ ds = [d0, d1, d2] ∧ DataW.Trod enc Tryz.prog W 0 (fun _ => true) true 24 v0 d0 p0 ∧ DataW.Trod enc Tryz.prog W 0 (fun _ => true) true 3 v1 d1 p1 ∧ DataW.Trod enc Tryz.prog W 0 (fun _ => true) true 9 v2 d2 p2 := by
  obtain ⟨v0, _, d0, _, _, _, rfl, rfl, rfl, h0, h1'⟩ := trodAll_cons h
  obtain ⟨v1, _, d1, _, _, _, rfl, rfl, rfl, h1, h2'⟩ := trodAll_cons h1'
  obtain ⟨v2, _, d2, _, _, _, rfl, rfl, rfl, h2, h3'⟩ := trodAll_cons h2'
  obtain ⟨rfl, rfl, rfl⟩ := trodAll_nil h3'
  exact ⟨v0, v1, v2, d0, d1, d2, _, _, _, rfl, rfl, h0, h1, h2⟩
set_option maxRecDepth 100000 in
theorem venueSides_contract (H : Type) (enc : TypeId × Value → H) (W : World) (base : Nat) (args : Array Value) (ds gs : List (DataW H)) (before : List MemPlace)
    (hval : ∀ (j : Nat) t v, Tryz.f5.params[j]? = some t → args[j]? = some v → Value.okWide Tryz.prog W .any base t v) (hW : DataW.Whole enc Tryz.prog Tryz.f5.params.toList Rows.venueSidesSpec.vars false W args.toList ds gs before) (hL : laidMetH Tryz.prog Rows.venueSidesRow.laid W) :
    Calls Tryz.prog 5 args W fun e W' => ∃ v, e = .returned v ∧ Rows.venueSidesSpec.post enc Tryz.prog Tryz.f5 false true false false W args v W' := by
  have hW' := hW
  obtain ⟨p, q, hA0, hV, rfl, hfz, hnd⟩ := hW
  have hA : DataW.TrodAll enc Tryz.prog W 0 (fun _ => true) true Tryz.f5.params.toList args.toList ds p := hA0
  rw [Tryz.params5] at hA hval
  obtain ⟨v0, v1, v2, d0, d1, d2, p0, p1, p2, hargs, rfl, h0, h1, h2⟩ := venueSides_all hA
  obtain rfl : args = #[v0, v1, v2] := Array.toList_inj.1 hargs
  have hl := uses_laid hL
  obtain ⟨σ1, W1, v, sv, o1, s1, l1, r1, a1⟩ := openVen (openG hl) (hval 0 24 v0 rfl rfl) h0
  obtain ⟨n, rfl⟩ := okWide_int Tryz.underlying3 (hval 1 3 v1 rfl rfl)
  obtain ⟨nm, rfl⟩ := openStr Tryz.underlying9 (hval 2 9 v2 rfl rfl)
  have o9 := o1
  have s9 := s1
  have hc := open_calls omS_ok o9 s9 (args := [venV v sv, .int .i64 n, .string (bytesL nm)]) (.cons r1 (.cons (.int _ _) (.cons (.string _) .nil))) (venueSides_om a1 (gw_le l1))
  refine hc.mono fun e W' ⟨he, hq⟩ => ⟨_, he, ?_⟩
  exact post_true kidsT fullT (by rw [Tryz.params5]; intro t ht; revert t; exact of_decide_eq_true (by kernel_rfl)) hW' hq rfl rfl rfl Tryz.underlying4
set_option maxRecDepth 100000 in
theorem venueSides_lifted (os : Os) (started : os.Started) (H : Type) (enc : TypeId × Value → H) (F : Stop.Interp) :
    ReturnsInHanded {} Tryz.checked os 5 .any ((OpenSpec.ofChange Rows.venueSidesSpec).preRow enc Tryz.prog Tryz.f5 Rows.venueSidesRow.domain false Rows.venueSidesRow.laid) (((OpenSpec.ofChange Rows.venueSidesSpec).at F).post enc Tryz.prog Tryz.f5 false true false false) := by
  obtain ⟨places, hx⟩ := venueSides_reads os enc
  refine returnsInHanded_of_row (C := Tryz.checked) (s := OpenSpec.ofChange Rows.venueSidesSpec) own started (by kernel_rfl) Tryz.func5
    (witness_row_at (enc := enc) (C := Tryz.checked) false (laidWorld os) venueSidesZ rfl (by kernel_rfl) (by kernel_rfl) (by kernel_rfl)
      (OpenSpec.preRow_of_cond 8 hx (by kernel_rfl) (fun k hk => by cases hk) (by kernel_rfl) (venueSides_met os))) ?_
  intro W base args ds gs before hval hW _ _ _ hL _ _
  exact venueSides_contract H enc W base args ds gs before hval hW hL
theorem venueSides_inPlace : (Rows.venueSidesRow.inPlace == Tryz.pinned.checked.prog.inPlace 5) = true := by kernel_rfl
theorem venueSides_unfollowed : (Rows.venueSidesRow.unfollowed == Tryz.pinned.checked.prog.unfollowed 5) = true := by kernel_rfl
theorem venueSides_recurses : (Rows.venueSidesRow.recurses == Tryz.pinned.checked.prog.recurses 5) = true := by kernel_rfl
theorem venueSides_named : (Rows.venueSidesRow.named == Tryz.pinned.checked.prog.varsNamed 5) = true := by kernel_rfl
theorem venueSides_closed : joinedFacts Tryz.pinned.checked.prog 5 Tryz.f5 (OpenSpec.ofChange Rows.venueSidesSpec).bare Rows.venueSidesRow = true := by
  unfold joinedFacts
  rw [venueSides_inPlace, venueSides_unfollowed, venueSides_recurses, venueSides_named]
  kernel_rfl
theorem venueSides_said : Rows.VenueSidesSaid :=
  OpenClaim.holds_of_cond 5 Tryz.f5 rfl rfl rfl rfl rfl rfl rfl ⟨rfl, rfl, rfl, rfl, rfl⟩ rfl rfl rfl rfl rfl (by kernel_rfl) Tryz.func5 venueSides_closed
    (of_decide_eq_true (by kernel_rfl)) (by unfold Func.isWrapper; first | (rw [if_pos (by decide +kernel)]; kernel_rfl) | (rw [if_neg (by decide +kernel)]; exact ⟨rfl, rfl⟩))
    (fun os started H enc _ F => by rw [OpenClaim.pre_eq_preRow]; exact venueSides_lifted os started H enc F)
theorem venueSides_plain (f : FuncId) (fn : Func) (hf : Tryz.pinned.checked.prog.funcNamed "groundling/groundlinglaw15.VenueSides" = some f) (hfn : Tryz.pinned.checked.prog.funcs[f]? = some fn) :
    false = Tryz.pinned.checked.prog.looks [] ∧ ∀ (j : Nat) t, fn.params[j]? = some t → Tryz.pinned.checked.prog.wantsStandIn t = false := by
  obtain rfl : f = 5 := Option.some.inj ((show Tryz.prog.funcNamed "groundling/groundlinglaw15.VenueSides" = some 5 by kernel_rfl).symm.trans hf) |>.symm
  obtain rfl : fn = Tryz.f5 := (Option.some.inj (Tryz.func5.symm.trans hfn)).symm
  refine ⟨by kernel_rfl, fun j t ht => ?_⟩
  rw [Tryz.params5] at ht
  have hm := Array.mem_of_getElem? ht
  simp only [List.mem_toArray, List.mem_cons, List.not_mem_nil, or_false] at hm
  rcases hm with rfl | rfl | rfl
  · exact (show Tryz.prog.wantsStandIn 24 = false by kernel_rfl)
  · exact (show Tryz.prog.wantsStandIn 3 = false by kernel_rfl)
  · exact (show Tryz.prog.wantsStandIn 9 = false by kernel_rfl)
theorem venueSides_card : Rows.VenueSidesCardSaid :=
  Claim7.holds_tied_plain_at .later [] _ _ _ _ venueSides_said (fun _ h => by cases h) (by kernel_rfl) (fun _ h => by cases h) venueSides_row_tie rfl ⟨rfl, rfl⟩ (by kernel_rfl) rfl venueSides_plain (by kernel_rfl)
end Go.Proofs.YtfcfglpkgcheiaaGreatDoor
