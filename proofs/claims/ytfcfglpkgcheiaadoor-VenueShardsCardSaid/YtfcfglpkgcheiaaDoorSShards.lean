/- VenueShards answers true at every venue. -/
import Derived.Test.YtfcfglpkgcheiaaDoorPlainA
import Derived.Test.YtfcfglpkgcheiaaDoorSLaid
namespace Go.Proofs.YtfcfglpkgcheiaaDoor
open Go Go.Eng Go.ChangeShapes Go.WideShapes Go.ChangeAt Go.RowKit
set_option linter.unusedVariables false
def venueShardsZ : Array Value := #[venZ]
theorem venueShards_met (os : Os) : laidMet Tryd.prog Rows.venueShardsRow.laid ((laidWorld os).forCall (fun _ _ => 0) ⟨#[], venueShardsZ, []⟩).memory :=
  laidMet_of_run' 8 (by kernel_rfl) (by kernel_rfl)
theorem venueShards_reads (os : Os) {H : Type} (enc : TypeId × Value → H) : ∃ places, DataW.whole enc Tryd.prog ((laidWorld os).forCall (fun _ _ => 0) ⟨#[], venueShardsZ, []⟩).memory Tryd.f11.params.toList Rows.venueShardsSpec.vars false (venueShardsZ : Array Value).toList 8 = some ([venD], [], places) :=
  ⟨[], by kernel_rfl⟩
theorem venueShards_all {H : Type} {enc : TypeId × Value → H} {W : World} {args : List Value} {ds : List (DataW H)} {p : List MemPlace} (h : DataW.TrodAll enc Tryd.prog W 0 (fun _ => true) true [36] args ds p) :
    ∃ v0 d0 p0, args = [v0] ∧ ds = [d0] ∧ DataW.Trod enc Tryd.prog W 0 (fun _ => true) true 36 v0 d0 p0 := by
  obtain ⟨v0, _, d0, _, _, _, rfl, rfl, rfl, h0, h1'⟩ := trodAll_cons h
  obtain ⟨rfl, rfl, rfl⟩ := trodAll_nil h1'
  exact ⟨v0, d0, _, rfl, rfl, h0⟩
set_option maxRecDepth 100000 in
theorem venueShards_contract (H : Type) (enc : TypeId × Value → H) (W : World) (base : Nat) (args : Array Value) (ds gs : List (DataW H)) (before : List MemPlace)
    (hval : ∀ (j : Nat) t v, Tryd.f11.params[j]? = some t → args[j]? = some v → Value.okWide Tryd.prog W .any base t v) (hW : DataW.Whole enc Tryd.prog Tryd.f11.params.toList Rows.venueShardsSpec.vars false W args.toList ds gs before) (hL : laidMetH Tryd.prog Rows.venueShardsRow.laid W) :
    Calls Tryd.prog 11 args W fun e W' => ∃ v, e = .returned v ∧ Rows.venueShardsSpec.post enc Tryd.prog Tryd.f11 false true false false W args v W' := by
  have hW' := hW
  obtain ⟨p, q, hA0, hV, rfl, hfz, hnd⟩ := hW
  have hA : DataW.TrodAll enc Tryd.prog W 0 (fun _ => true) true Tryd.f11.params.toList args.toList ds p := hA0
  rw [Tryd.params11] at hA hval
  obtain ⟨v0, d0, p0, hargs, rfl, h0⟩ := venueShards_all hA
  obtain rfl : args = #[v0] := Array.toList_inj.1 hargs
  have hl := uses_laid hL
  obtain ⟨σ1, W1, v, sv, o1, s1, l1, r1, a1⟩ := openVen (openG hl) (hval 0 36 v0 rfl rfl) h0
  have o9 := o1
  have s9 := s1
  have hc := open_calls omS_ok o9 s9 (args := [venV v sv]) (.cons r1 .nil) (venueShards_om a1 (gw_le l1))
  refine hc.mono fun e W' ⟨he, hq⟩ => ⟨_, he, ?_⟩
  exact post_true kidsT fullT (by rw [Tryd.params11]; intro t ht; revert t; exact of_decide_eq_true (by kernel_rfl)) hW' hq rfl rfl rfl Tryd.underlying4
set_option maxRecDepth 100000 in
theorem venueShards_lifted (os : Os) (started : os.Started) (H : Type) (enc : TypeId × Value → H) (F : Stop.Interp) :
    ReturnsInHanded {} Tryd.checked os 11 .any ((OpenSpec.ofChange Rows.venueShardsSpec).preRow enc Tryd.prog Tryd.f11 Rows.venueShardsRow.domain false Rows.venueShardsRow.laid) (((OpenSpec.ofChange Rows.venueShardsSpec).at F).post enc Tryd.prog Tryd.f11 false true false false) := by
  obtain ⟨places, hx⟩ := venueShards_reads os enc
  refine returnsInHanded_of_row (C := Tryd.checked) (s := OpenSpec.ofChange Rows.venueShardsSpec) own started (by kernel_rfl) Tryd.func11
    (witness_row_at (enc := enc) (C := Tryd.checked) false (laidWorld os) venueShardsZ rfl (by kernel_rfl) (by kernel_rfl) (by kernel_rfl)
      (OpenSpec.preRow_of_cond 8 hx (by kernel_rfl) (fun k hk => by cases hk) (by kernel_rfl) (venueShards_met os))) ?_
  intro W base args ds gs before hval hW _ _ _ hL _ _
  exact venueShards_contract H enc W base args ds gs before hval hW hL
theorem venueShards_inPlace : (Rows.venueShardsRow.inPlace == Tryd.pinned.checked.prog.inPlace 11) = true := by kernel_rfl
theorem venueShards_unfollowed : (Rows.venueShardsRow.unfollowed == Tryd.pinned.checked.prog.unfollowed 11) = true := by kernel_rfl
theorem venueShards_recurses : (Rows.venueShardsRow.recurses == Tryd.pinned.checked.prog.recurses 11) = true := by kernel_rfl
theorem venueShards_named : (Rows.venueShardsRow.named == Tryd.pinned.checked.prog.varsNamed 11) = true := by kernel_rfl
theorem venueShards_closed : joinedFacts Tryd.pinned.checked.prog 11 Tryd.f11 (OpenSpec.ofChange Rows.venueShardsSpec).bare Rows.venueShardsRow = true := by
  unfold joinedFacts
  rw [venueShards_inPlace, venueShards_unfollowed, venueShards_recurses, venueShards_named]
  kernel_rfl
theorem venueShards_said : Rows.VenueShardsSaid :=
  OpenClaim.holds_of_cond 11 Tryd.f11 rfl rfl rfl rfl rfl rfl rfl ⟨rfl, rfl, rfl, rfl, rfl⟩ rfl rfl rfl rfl rfl (by kernel_rfl) Tryd.func11 venueShards_closed
    (of_decide_eq_true (by kernel_rfl)) (by unfold Func.isWrapper; first | (rw [if_pos (by decide +kernel)]; kernel_rfl) | (rw [if_neg (by decide +kernel)]; exact ⟨rfl, rfl⟩))
    (fun os started H enc _ F => by rw [OpenClaim.pre_eq_preRow]; exact venueShards_lifted os started H enc F)
theorem venueShards_plain (f : FuncId) (fn : Func) (hf : Tryd.pinned.checked.prog.funcNamed "groundling/groundlinglaw15.VenueShards" = some f) (hfn : Tryd.pinned.checked.prog.funcs[f]? = some fn) :
    false = Tryd.pinned.checked.prog.looks [] ∧ ∀ (j : Nat) t, fn.params[j]? = some t → Tryd.pinned.checked.prog.wantsStandIn t = false := by
  obtain rfl : f = 11 := Option.some.inj ((show Tryd.prog.funcNamed "groundling/groundlinglaw15.VenueShards" = some 11 by kernel_rfl).symm.trans hf) |>.symm
  obtain rfl : fn = Tryd.f11 := (Option.some.inj (Tryd.func11.symm.trans hfn)).symm
  refine ⟨by kernel_rfl, fun j t ht => ?_⟩
  rw [Tryd.params11] at ht
  have hm := Array.mem_of_getElem? ht
  simp only [List.mem_toArray, List.mem_cons, List.not_mem_nil, or_false] at hm
  rcases hm with rfl
  · exact (show Tryd.prog.wantsStandIn 36 = false by kernel_rfl)
theorem venueShards_card : Rows.VenueShardsCardSaid :=
  Claim7.holds_tied_plain_at .later [] _ _ _ _ venueShards_said (fun _ h => by cases h) (by kernel_rfl) (fun _ h => by cases h) venueShards_row_tie rfl ⟨rfl, rfl⟩ (by kernel_rfl) rfl venueShards_plain (by kernel_rfl)
end Go.Proofs.YtfcfglpkgcheiaaDoor
