/- VenueChecks answers true at every venue. -/
import Derived.Test.YtfcfglpkgcheiaaGreatDoorPlainA
import Derived.Test.YtfcfglpkgcheiaaGreatDoorSLaid
namespace Go.Proofs.YtfcfglpkgcheiaaGreatDoor
open Go Go.Eng Go.ChangeShapes Go.WideShapes Go.ChangeAt Go.RowKit
set_option linter.unusedVariables false
def venueChecksZ : Array Value := #[venZ]
theorem venueChecks_met (os : Os) : laidMet Tryz.prog Rows.venueChecksRow.laid ((laidWorld os).forCall (fun _ _ => 0) ⟨#[], venueChecksZ, []⟩).memory :=
  laidMet_of_run' 8 (by kernel_rfl) (by kernel_rfl)
theorem venueChecks_reads (os : Os) {H : Type} (enc : TypeId × Value → H) : ∃ places, DataW.whole enc Tryz.prog ((laidWorld os).forCall (fun _ _ => 0) ⟨#[], venueChecksZ, []⟩).memory Tryz.f3.params.toList Rows.venueChecksSpec.vars false (venueChecksZ : Array Value).toList 8 = some ([venD], [], places) :=
  ⟨[], by kernel_rfl⟩
theorem venueChecks_all {H : Type} {enc : TypeId × Value → H} {W : World} {args : List Value} {ds : List (DataW H)} {p : List MemPlace} (h : DataW.TrodAll enc Tryz.prog W 0 (fun _ => true) true [24] args ds p) :
    ∃ v0 d0 p0, args = [v0] ∧ ds = [d0] ∧ DataW.Trod enc Tryz.prog W 0 (fun _ => true) true 24 v0 d0 p0 := by
  obtain ⟨v0, _, d0, _, _, _, rfl, rfl, rfl, h0, h1'⟩ := trodAll_cons h
  obtain ⟨rfl, rfl, rfl⟩ := trodAll_nil h1'
  exact ⟨v0, d0, _, rfl, rfl, h0⟩
set_option maxRecDepth 100000 in
theorem venueChecks_contract (H : Type) (enc : TypeId × Value → H) (W : World) (base : Nat) (args : Array Value) (ds gs : List (DataW H)) (before : List MemPlace)
    (hval : ∀ (j : Nat) t v, Tryz.f3.params[j]? = some t → args[j]? = some v → Value.okWide Tryz.prog W .any base t v) (hW : DataW.Whole enc Tryz.prog Tryz.f3.params.toList Rows.venueChecksSpec.vars false W args.toList ds gs before) (hL : laidMetH Tryz.prog Rows.venueChecksRow.laid W) :
    Calls Tryz.prog 3 args W fun e W' => ∃ v, e = .returned v ∧ Rows.venueChecksSpec.post enc Tryz.prog Tryz.f3 false true false false W args v W' := by
  have hW' := hW
  obtain ⟨p, q, hA0, hV, rfl, hfz, hnd⟩ := hW
  have hA : DataW.TrodAll enc Tryz.prog W 0 (fun _ => true) true Tryz.f3.params.toList args.toList ds p := hA0
  rw [Tryz.params3] at hA hval
  obtain ⟨v0, d0, p0, hargs, rfl, h0⟩ := venueChecks_all hA
  obtain rfl : args = #[v0] := Array.toList_inj.1 hargs
  have hl := uses_laid hL
  obtain ⟨σ1, W1, v, sv, o1, s1, l1, r1, a1⟩ := openVen (openG hl) (hval 0 24 v0 rfl rfl) h0
  have o9 := o1
  have s9 := s1
  have hc := open_calls omS_ok o9 s9 (args := [venV v sv]) (.cons r1 .nil) (venueChecks_om a1 (gw_le l1))
  refine hc.mono fun e W' ⟨he, hq⟩ => ⟨_, he, ?_⟩
  exact post_true kidsT fullT (by rw [Tryz.params3]; intro t ht; revert t; exact of_decide_eq_true (by kernel_rfl)) hW' hq rfl rfl rfl Tryz.underlying4
set_option maxRecDepth 100000 in
theorem venueChecks_lifted (os : Os) (started : os.Started) (H : Type) (enc : TypeId × Value → H) (F : Stop.Interp) :
    ReturnsInHanded {} Tryz.checked os 3 .any ((OpenSpec.ofChange Rows.venueChecksSpec).preRow enc Tryz.prog Tryz.f3 Rows.venueChecksRow.domain false Rows.venueChecksRow.laid) (((OpenSpec.ofChange Rows.venueChecksSpec).at F).post enc Tryz.prog Tryz.f3 false true false false) := by
  obtain ⟨places, hx⟩ := venueChecks_reads os enc
  refine returnsInHanded_of_row (C := Tryz.checked) (s := OpenSpec.ofChange Rows.venueChecksSpec) own started (by kernel_rfl) Tryz.func3
    (witness_row_at (enc := enc) (C := Tryz.checked) false (laidWorld os) venueChecksZ rfl (by kernel_rfl) (by kernel_rfl) (by kernel_rfl)
      (OpenSpec.preRow_of_cond 8 hx (by kernel_rfl) (fun k hk => by cases hk) (by kernel_rfl) (venueChecks_met os))) ?_
  intro W base args ds gs before hval hW _ _ _ hL _ _
  exact venueChecks_contract H enc W base args ds gs before hval hW hL
theorem venueChecks_inPlace : (Rows.venueChecksRow.inPlace == Tryz.pinned.checked.prog.inPlace 3) = true := by kernel_rfl
theorem venueChecks_unfollowed : (Rows.venueChecksRow.unfollowed == Tryz.pinned.checked.prog.unfollowed 3) = true := by kernel_rfl
theorem venueChecks_recurses : (Rows.venueChecksRow.recurses == Tryz.pinned.checked.prog.recurses 3) = true := by kernel_rfl
theorem venueChecks_named : (Rows.venueChecksRow.named == Tryz.pinned.checked.prog.varsNamed 3) = true := by kernel_rfl
theorem venueChecks_closed : joinedFacts Tryz.pinned.checked.prog 3 Tryz.f3 (OpenSpec.ofChange Rows.venueChecksSpec).bare Rows.venueChecksRow = true := by
  unfold joinedFacts
  rw [venueChecks_inPlace, venueChecks_unfollowed, venueChecks_recurses, venueChecks_named]
  kernel_rfl
theorem venueChecks_said : Rows.VenueChecksSaid :=
  OpenClaim.holds_of_cond 3 Tryz.f3 rfl rfl rfl rfl rfl rfl rfl ⟨rfl, rfl, rfl, rfl, rfl⟩ rfl rfl rfl rfl rfl (by kernel_rfl) Tryz.func3 venueChecks_closed
    (of_decide_eq_true (by kernel_rfl)) (by unfold Func.isWrapper; first | (rw [if_pos (by decide +kernel)]; kernel_rfl) | (rw [if_neg (by decide +kernel)]; exact ⟨rfl, rfl⟩))
    (fun os started H enc _ F => by rw [OpenClaim.pre_eq_preRow]; exact venueChecks_lifted os started H enc F)
theorem venueChecks_plain (f : FuncId) (fn : Func) (hf : Tryz.pinned.checked.prog.funcNamed "groundling/groundlinglaw15.VenueChecks" = some f) (hfn : Tryz.pinned.checked.prog.funcs[f]? = some fn) :
    false = Tryz.pinned.checked.prog.looks [] ∧ ∀ (j : Nat) t, fn.params[j]? = some t → Tryz.pinned.checked.prog.wantsStandIn t = false := by
  obtain rfl : f = 3 := Option.some.inj ((show Tryz.prog.funcNamed "groundling/groundlinglaw15.VenueChecks" = some 3 by kernel_rfl).symm.trans hf) |>.symm
  obtain rfl : fn = Tryz.f3 := (Option.some.inj (Tryz.func3.symm.trans hfn)).symm
  refine ⟨by kernel_rfl, fun j t ht => ?_⟩
  rw [Tryz.params3] at ht
  have hm := Array.mem_of_getElem? ht
  simp only [List.mem_toArray, List.mem_cons, List.not_mem_nil, or_false] at hm
  rcases hm with rfl
  · exact (show Tryz.prog.wantsStandIn 24 = false by kernel_rfl)
theorem venueChecks_card : Rows.VenueChecksCardSaid :=
  Claim7.holds_tied_plain_at .later [] _ _ _ _ venueChecks_said (fun _ h => by cases h) (by kernel_rfl) (fun _ h => by cases h) venueChecks_row_tie rfl ⟨rfl, rfl⟩ (by kernel_rfl) rfl venueChecks_plain (by kernel_rfl)
end Go.Proofs.YtfcfglpkgcheiaaGreatDoor
