/- VenueBeside answers true at every venue. -/
import Derived.Test.YtfcfglpkgcheiaaDoorPlainA
import Derived.Test.YtfcfglpkgcheiaaDoorSLaid
namespace Go.Proofs.YtfcfglpkgcheiaaDoor
open Go Go.Eng Go.ChangeShapes Go.WideShapes Go.ChangeAt Go.RowKit
set_option linter.unusedVariables false
def venueBesideZ : Array Value := #[venZ]
theorem venueBeside_met (os : Os) : laidMet Tryd.prog Rows.venueBesideRow.laid ((laidWorld os).forCall (fun _ _ => 0) ⟨#[], venueBesideZ, []⟩).memory :=
  laidMet_of_run' 8 (by kernel_rfl) (by kernel_rfl)
theorem venueBeside_reads (os : Os) {H : Type} (enc : TypeId × Value → H) : ∃ places, DataW.whole enc Tryd.prog ((laidWorld os).forCall (fun _ _ => 0) ⟨#[], venueBesideZ, []⟩).memory Tryd.f10.params.toList Rows.venueBesideSpec.vars false (venueBesideZ : Array Value).toList 8 = some ([venD], [], places) :=
  ⟨[], by kernel_rfl⟩
theorem venueBeside_all {H : Type} {enc : TypeId × Value → H} {W : World} {args : List Value} {ds : List (DataW H)} {p : List MemPlace} (h : DataW.TrodAll enc Tryd.prog W 0 (fun _ => true) true [36] args ds p) :
    ∃ v0 d0 p0, args = [v0] ∧ ds = [d0] ∧ DataW.Trod enc Tryd.prog W 0 (fun _ => true) true 36 v0 d0 p0 := by
  obtain ⟨v0, _, d0, _, _, _, rfl, rfl, rfl, h0, h1'⟩ := trodAll_cons h
  obtain ⟨rfl, rfl, rfl⟩ := trodAll_nil h1'
  exact ⟨v0, d0, _, rfl, rfl, h0⟩
set_option maxRecDepth 100000 in
theorem venueBeside_contract (H : Type) (enc : TypeId × Value → H) (W : World) (base : Nat) (args : Array Value) (ds gs : List (DataW H)) (before : List MemPlace)
    (hval : ∀ (j : Nat) t v, Tryd.f10.params[j]? = some t → args[j]? = some v → Value.okWide Tryd.prog W .any base t v) (hW : DataW.Whole enc Tryd.prog Tryd.f10.params.toList Rows.venueBesideSpec.vars false W args.toList ds gs before) (hL : laidMetH Tryd.prog Rows.venueBesideRow.laid W) :
    Calls Tryd.prog 10 args W fun e W' => ∃ v, e = .returned v ∧ Rows.venueBesideSpec.post enc Tryd.prog Tryd.f10 false true false false W args v W' := by
  have hW' := hW
  obtain ⟨p, q, hA0, hV, rfl, hfz, hnd⟩ := hW
  have hA : DataW.TrodAll enc Tryd.prog W 0 (fun _ => true) true Tryd.f10.params.toList args.toList ds p := hA0
  rw [Tryd.params10] at hA hval
  obtain ⟨v0, d0, p0, hargs, rfl, h0⟩ := venueBeside_all hA
  obtain rfl : args = #[v0] := Array.toList_inj.1 hargs
  have hl := uses_laid hL
  obtain ⟨σ1, W1, v, sv, o1, s1, l1, r1, a1⟩ := openVen (openG hl) (hval 0 36 v0 rfl rfl) h0
  have o9 := o1
  have s9 := s1
  have hc := open_calls omS_ok o9 s9 (args := [venV v sv]) (.cons r1 .nil) (venueBeside_om a1 (gw_le l1))
  refine hc.mono fun e W' ⟨he, hq⟩ => ⟨_, he, ?_⟩
  exact post_true kidsT fullT (by rw [Tryd.params10]; intro t ht; revert t; exact of_decide_eq_true (by kernel_rfl)) hW' hq rfl rfl rfl Tryd.underlying4
set_option maxRecDepth 100000 in
theorem venueBeside_lifted (os : Os) (started : os.Started) (H : Type) (enc : TypeId × Value → H) (F : Stop.Interp) :
    ReturnsInHanded {} Tryd.checked os 10 .any ((OpenSpec.ofChange Rows.venueBesideSpec).preRow enc Tryd.prog Tryd.f10 Rows.venueBesideRow.domain false Rows.venueBesideRow.laid) (((OpenSpec.ofChange Rows.venueBesideSpec).at F).post enc Tryd.prog Tryd.f10 false true false false) := by
  obtain ⟨places, hx⟩ := venueBeside_reads os enc
  refine returnsInHanded_of_row (C := Tryd.checked) (s := OpenSpec.ofChange Rows.venueBesideSpec) own started (by kernel_rfl) Tryd.func10
    (witness_row_at (enc := enc) (C := Tryd.checked) false (laidWorld os) venueBesideZ rfl (by kernel_rfl) (by kernel_rfl) (by kernel_rfl)
      (OpenSpec.preRow_of_cond 8 hx (by kernel_rfl) (fun k hk => by cases hk) (by kernel_rfl) (venueBeside_met os))) ?_
  intro W base args ds gs before hval hW _ _ _ hL _ _
  exact venueBeside_contract H enc W base args ds gs before hval hW hL
theorem venueBeside_inPlace : (Rows.venueBesideRow.inPlace == Tryd.pinned.checked.prog.inPlace 10) = true := by kernel_rfl
theorem venueBeside_unfollowed : (Rows.venueBesideRow.unfollowed == Tryd.pinned.checked.prog.unfollowed 10) = true := by kernel_rfl
theorem venueBeside_recurses : (Rows.venueBesideRow.recurses == Tryd.pinned.checked.prog.recurses 10) = true := by kernel_rfl
theorem venueBeside_named : (Rows.venueBesideRow.named == Tryd.pinned.checked.prog.varsNamed 10) = true := by kernel_rfl
theorem venueBeside_closed : joinedFacts Tryd.pinned.checked.prog 10 Tryd.f10 (OpenSpec.ofChange Rows.venueBesideSpec).bare Rows.venueBesideRow = true := by
  unfold joinedFacts
  rw [venueBeside_inPlace, venueBeside_unfollowed, venueBeside_recurses, venueBeside_named]
  kernel_rfl
theorem venueBeside_said : Rows.VenueBesideSaid :=
  OpenClaim.holds_of_cond 10 Tryd.f10 rfl rfl rfl rfl rfl rfl rfl ⟨rfl, rfl, rfl, rfl, rfl⟩ rfl rfl rfl rfl rfl (by kernel_rfl) Tryd.func10 venueBeside_closed
    (of_decide_eq_true (by kernel_rfl)) (by unfold Func.isWrapper; first | (rw [if_pos (by decide +kernel)]; kernel_rfl) | (rw [if_neg (by decide +kernel)]; exact ⟨rfl, rfl⟩))
    (fun os started H enc _ F => by rw [OpenClaim.pre_eq_preRow]; exact venueBeside_lifted os started H enc F)
theorem venueBeside_plain (f : FuncId) (fn : Func) (hf : Tryd.pinned.checked.prog.funcNamed "groundling/groundlinglaw15.VenueBeside" = some f) (hfn : Tryd.pinned.checked.prog.funcs[f]? = some fn) :
    false = Tryd.pinned.checked.prog.looks [] ∧ ∀ (j : Nat) t, fn.params[j]? = some t → Tryd.pinned.checked.prog.wantsStandIn t = false := by
  obtain rfl : f = 10 := Option.some.inj ((show Tryd.prog.funcNamed "groundling/groundlinglaw15.VenueBeside" = some 10 by kernel_rfl).symm.trans hf) |>.symm
  obtain rfl : fn = Tryd.f10 := (Option.some.inj (Tryd.func10.symm.trans hfn)).symm
  refine ⟨by kernel_rfl, fun j t ht => ?_⟩
  rw [Tryd.params10] at ht
  have hm := Array.mem_of_getElem? ht
  simp only [List.mem_toArray, List.mem_cons, List.not_mem_nil, or_false] at hm
  rcases hm with rfl
  · exact (show Tryd.prog.wantsStandIn 36 = false by kernel_rfl)
theorem venueBeside_card : Rows.VenueBesideCardSaid :=
  Claim7.holds_tied_plain_at .later [] _ _ _ _ venueBeside_said (fun _ h => by cases h) (by kernel_rfl) (fun _ h => by cases h) venueBeside_row_tie rfl ⟨rfl, rfl⟩ (by kernel_rfl) rfl venueBeside_plain (by kernel_rfl)
end Go.Proofs.YtfcfglpkgcheiaaDoor
