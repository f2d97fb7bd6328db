/- VenuePlaces answers true at every venue, seat and place. -/
import Derived.Test.YtfcfglpkgcheiaaGreatDoorPlainA
import Derived.Test.YtfcfglpkgcheiaaGreatDoorSLaid
namespace Go.Proofs.YtfcfglpkgcheiaaGreatDoor
open Go Go.Eng Go.ChangeShapes Go.WideShapes Go.ChangeAt Go.RowKit
set_option linter.unusedVariables false
def venuePlacesZ : Array Value := #[venZ, .int .i64 0, plcZ]
theorem venuePlaces_met (os : Os) : laidMet Tryz.prog Rows.venuePlacesRow.laid ((laidWorld os).forCall (fun _ _ => 0) ⟨#[], venuePlacesZ, []⟩).memory :=
  laidMet_of_run' 8 (by kernel_rfl) (by kernel_rfl)
theorem venuePlaces_reads (os : Os) {H : Type} (enc : TypeId × Value → H) : ∃ places, DataW.whole enc Tryz.prog ((laidWorld os).forCall (fun _ _ => 0) ⟨#[], venuePlacesZ, []⟩).memory Tryz.f4.params.toList Rows.venuePlacesSpec.vars false (venuePlacesZ : Array Value).toList 8 = some ([venD, .lit (.int .i64 0), plcD], [], places) :=
  ⟨[], by kernel_rfl⟩
theorem venuePlaces_all {H : Type} {enc : TypeId × Value → H} {W : World} {args : List Value} {ds : List (DataW H)} {p : List MemPlace} (h : DataW.TrodAll enc Tryz.prog W 0 (fun _ => true) true [24, 3, 34] args ds p) :
    ∃ v0 v1 v2 d0 d1 d2 p0 p1 p2, args = [v0, v1, v2] ∧ ds = [d0, d1, d2] ∧ DataW.Trod enc Tryz.prog W 0 (fun _ => true) true 24 v0 d0 p0 ∧ DataW.Trod enc Tryz.prog W 0 (fun _ => true) true 3 v1 d1 p1 ∧ DataW.Trod enc Tryz.prog W 0 (fun _ => true) true 34 v2 d2 p2 := by
  obtain ⟨v0, _, d0, _, _, _, rfl, rfl, rfl, h0, h1'⟩ := trodAll_cons h
  obtain ⟨v1, _, d1, _, _, _, rfl, rfl, rfl, h1, h2'⟩ := trodAll_cons h1'
  obtain ⟨v2, _, d2, _, _, _, rfl, rfl, rfl, h2, h3'⟩ := trodAll_cons h2'
  obtain ⟨rfl, rfl, rfl⟩ := trodAll_nil h3'
  exact ⟨v0, v1, v2, d0, d1, d2, _, _, _, rfl, rfl, h0, h1, h2⟩
set_option maxRecDepth 100000 in
theorem venuePlaces_contract (H : Type) (enc : TypeId × Value → H) (W : World) (base : Nat) (args : Array Value) (ds gs : List (DataW H)) (before : List MemPlace)
    (hval : ∀ (j : Nat) t v, Tryz.f4.params[j]? = some t → args[j]? = some v → Value.okWide Tryz.prog W .any base t v) (hW : DataW.Whole enc Tryz.prog Tryz.f4.params.toList Rows.venuePlacesSpec.vars false W args.toList ds gs before) (hL : laidMetH Tryz.prog Rows.venuePlacesRow.laid W) :
    Calls Tryz.prog 4 args W fun e W' => ∃ v, e = .returned v ∧ Rows.venuePlacesSpec.post enc Tryz.prog Tryz.f4 false true false false W args v W' := by
  have hW' := hW
  obtain ⟨p, q, hA0, hV, rfl, hfz, hnd⟩ := hW
  have hA : DataW.TrodAll enc Tryz.prog W 0 (fun _ => true) true Tryz.f4.params.toList args.toList ds p := hA0
  rw [Tryz.params4] at hA hval
  obtain ⟨v0, v1, v2, d0, d1, d2, p0, p1, p2, hargs, rfl, h0, h1, h2⟩ := venuePlaces_all hA
  obtain rfl : args = #[v0, v1, v2] := Array.toList_inj.1 hargs
  have hl := uses_laid hL
  obtain ⟨σ1, W1, v, sv, o1, s1, l1, r1, a1⟩ := openVen (openG hl) (hval 0 24 v0 rfl rfl) h0
  obtain ⟨n, rfl⟩ := okWide_int Tryz.underlying3 (hval 1 3 v1 rfl rfl)
  obtain ⟨a, b, c, rfl⟩ := openPlc (hval 2 34 v2 rfl rfl) h2
  have o9 := o1
  have s9 := s1
  have hc := open_calls omS_ok o9 s9 (args := [venV v sv, .int .i64 n, .agg #[.int .i64 a, .int .i64 b, .int .i64 c]]) (.cons r1 (.cons (.int _ _) (.cons (plain_refl rfl) .nil))) (venuePlaces_om a1 (gw_le l1))
  refine hc.mono fun e W' ⟨he, hq⟩ => ⟨_, he, ?_⟩
  exact post_true kidsT fullT (by rw [Tryz.params4]; intro t ht; revert t; exact of_decide_eq_true (by kernel_rfl)) hW' hq rfl rfl rfl Tryz.underlying4
set_option maxRecDepth 100000 in
theorem venuePlaces_lifted (os : Os) (started : os.Started) (H : Type) (enc : TypeId × Value → H) (F : Stop.Interp) :
    ReturnsInHanded {} Tryz.checked os 4 .any ((OpenSpec.ofChange Rows.venuePlacesSpec).preRow enc Tryz.prog Tryz.f4 Rows.venuePlacesRow.domain false Rows.venuePlacesRow.laid) (((OpenSpec.ofChange Rows.venuePlacesSpec).at F).post enc Tryz.prog Tryz.f4 false true false false) := by
  obtain ⟨places, hx⟩ := venuePlaces_reads os enc
  refine returnsInHanded_of_row (C := Tryz.checked) (s := OpenSpec.ofChange Rows.venuePlacesSpec) own started (by kernel_rfl) Tryz.func4
    (witness_row_at (enc := enc) (C := Tryz.checked) false (laidWorld os) venuePlacesZ rfl (by kernel_rfl) (by kernel_rfl) (by kernel_rfl)
      (OpenSpec.preRow_of_cond 8 hx (by kernel_rfl) (fun k hk => by cases hk) (by kernel_rfl) (venuePlaces_met os))) ?_
  intro W base args ds gs before hval hW _ _ _ hL _ _
  exact venuePlaces_contract H enc W base args ds gs before hval hW hL
theorem venuePlaces_inPlace : (Rows.venuePlacesRow.inPlace == Tryz.pinned.checked.prog.inPlace 4) = true := by kernel_rfl
theorem venuePlaces_unfollowed : (Rows.venuePlacesRow.unfollowed == Tryz.pinned.checked.prog.unfollowed 4) = true := by kernel_rfl
theorem venuePlaces_recurses : (Rows.venuePlacesRow.recurses == Tryz.pinned.checked.prog.recurses 4) = true := by kernel_rfl
theorem venuePlaces_named : (Rows.venuePlacesRow.named == Tryz.pinned.checked.prog.varsNamed 4) = true := by kernel_rfl
theorem venuePlaces_closed : joinedFacts Tryz.pinned.checked.prog 4 Tryz.f4 (OpenSpec.ofChange Rows.venuePlacesSpec).bare Rows.venuePlacesRow = true := by
  unfold joinedFacts
  rw [venuePlaces_inPlace, venuePlaces_unfollowed, venuePlaces_recurses, venuePlaces_named]
  kernel_rfl
theorem venuePlaces_said : Rows.VenuePlacesSaid :=
  OpenClaim.holds_of_cond 4 Tryz.f4 rfl rfl rfl rfl rfl rfl rfl ⟨rfl, rfl, rfl, rfl, rfl⟩ rfl rfl rfl rfl rfl (by kernel_rfl) Tryz.func4 venuePlaces_closed
    (of_decide_eq_true (by kernel_rfl)) (by unfold Func.isWrapper; first | (rw [if_pos (by decide +kernel)]; kernel_rfl) | (rw [if_neg (by decide +kernel)]; exact ⟨rfl, rfl⟩))
    (fun os started H enc _ F => by rw [OpenClaim.pre_eq_preRow]; exact venuePlaces_lifted os started H enc F)
theorem venuePlaces_plain (f : FuncId) (fn : Func) (hf : Tryz.pinned.checked.prog.funcNamed "groundling/groundlinglaw15.VenuePlaces" = some f) (hfn : Tryz.pinned.checked.prog.funcs[f]? = some fn) :
    false = Tryz.pinned.checked.prog.looks [] ∧ ∀ (j : Nat) t, fn.params[j]? = some t → Tryz.pinned.checked.prog.wantsStandIn t = false := by
  obtain rfl : f = 4 := Option.some.inj ((show Tryz.prog.funcNamed "groundling/groundlinglaw15.VenuePlaces" = some 4 by kernel_rfl).symm.trans hf) |>.symm
  obtain rfl : fn = Tryz.f4 := (Option.some.inj (Tryz.func4.symm.trans hfn)).symm
  refine ⟨by kernel_rfl, fun j t ht => ?_⟩
  rw [Tryz.params4] at ht
  have hm := Array.mem_of_getElem? ht
  simp only [List.mem_toArray, List.mem_cons, List.not_mem_nil, or_false] at hm
  rcases hm with rfl | rfl | rfl
  · exact (show Tryz.prog.wantsStandIn 24 = false by kernel_rfl)
  · exact (show Tryz.prog.wantsStandIn 3 = false by kernel_rfl)
  · exact (show Tryz.prog.wantsStandIn 34 = false by kernel_rfl)
theorem venuePlaces_card : Rows.VenuePlacesCardSaid :=
  Claim7.holds_tied_plain_at .later [] _ _ _ _ venuePlaces_said (fun _ h => by cases h) (by kernel_rfl) (fun _ h => by cases h) venuePlaces_row_tie rfl ⟨rfl, rfl⟩ (by kernel_rfl) rfl venuePlaces_plain (by kernel_rfl)
end Go.Proofs.YtfcfglpkgcheiaaGreatDoor
