/- OfficeKnown answers true: the examples of the document. -/
import Derived.Test.YtdiifccoaihffaaGreatDoorSLaid
import Derived.Test.YtdiifccoaihffaaGreatDoorSOKnownF
set_option linter.unusedVariables false
namespace Go.Proofs.YtdiifccoaihffaaGreatDoor
open Go Go.Eng Go.ChangeShapes Go.WideShapes Go.ChangeAt Go.RowKit
def officeKnownZ : Array Value := #[]
theorem officeKnown_met (os : Os) : laidMet Tryz.prog Rows.officeKnownRow.laid ((laidWorld os).forCall (fun _ _ => 0) ⟨#[], officeKnownZ, []⟩).memory :=
  laidMet_of_run' 8 (by kernel_rfl) (by kernel_rfl)
theorem officeKnown_reads (os : Os) {H : Type} (enc : TypeId × Value → H) : ∃ places, DataW.whole enc Tryz.prog ((laidWorld os).forCall (fun _ _ => 0) ⟨#[], officeKnownZ, []⟩).memory Tryz.f3.params.toList Rows.officeKnownSpec.vars false (officeKnownZ : Array Value).toList 8 = some ([], [], places) :=
  ⟨[], by kernel_rfl⟩
set_option maxRecDepth 100000 in
theorem shown_calls0 (w : World) (hl : LaidG globW w.heap) : Calls Tryz.prog 3 #[] w fun e w' => e = .returned (.bool true) ∧ Quiet w w' :=
  closed_quiet followsW (funsOk_more (F := 215) lookedW) specW_ok 200 (gs := globW) (N := 4) rfl rfl (args := []) rfl (by kernel_rfl) w hl
set_option maxRecDepth 100000 in
theorem officeKnown_contract (H : Type) (enc : TypeId × Value → H) (W : World) (base : Nat) (args : Array Value) (ds gs : List (DataW H)) (before : List MemPlace)
    (hval : ∀ (j : Nat) t v, Tryz.f3.params[j]? = some t → args[j]? = some v → Value.okWide Tryz.prog W .any base t v) (hW : DataW.Whole enc Tryz.prog Tryz.f3.params.toList Rows.officeKnownSpec.vars false W args.toList ds gs before) (hL : laidMetH Tryz.prog Rows.officeKnownRow.laid W) :
    Calls Tryz.prog 3 args W fun e W' => ∃ v, e = .returned v ∧ Rows.officeKnownSpec.post enc Tryz.prog Tryz.f3 false true false false W args v W' := by
  have hW' := hW
  obtain ⟨p, q, hA0, hV, rfl, hfz, hnd⟩ := hW
  have hA : DataW.TrodAll enc Tryz.prog W 0 (fun _ => true) true Tryz.f3.params.toList args.toList ds p := hA0
  rw [Tryz.params3] at hA hval
  obtain ⟨hargs, rfl, rfl⟩ := trodAll_nil hA
  obtain rfl : args = #[] := by cases args; simp_all
  refine (shown_calls0 W (uses_laid hL)).mono fun e W' ⟨he, hq⟩ => ⟨_, he, ?_⟩
  exact post_true kidsT fullT (by rw [Tryz.params3]; intro t ht; revert t; exact of_decide_eq_true (by kernel_rfl)) hW' hq rfl rfl rfl Tryz.underlying4
set_option maxRecDepth 100000 in
theorem officeKnown_lifted (os : Os) (started : os.Started) (H : Type) (enc : TypeId × Value → H) (F : Stop.Interp) :
    ReturnsInHanded {} Tryz.checked os 3 .any ((OpenSpec.ofChange Rows.officeKnownSpec).preRow enc Tryz.prog Tryz.f3 Rows.officeKnownRow.domain false Rows.officeKnownRow.laid) (((OpenSpec.ofChange Rows.officeKnownSpec).at F).post enc Tryz.prog Tryz.f3 false true false false) := by
  obtain ⟨places, hx⟩ := officeKnown_reads os enc
  refine returnsInHanded_of_row (C := Tryz.checked) (s := OpenSpec.ofChange Rows.officeKnownSpec) own started (by kernel_rfl) Tryz.func3
    (witness_row_at (enc := enc) (C := Tryz.checked) false (laidWorld os) officeKnownZ rfl (by kernel_rfl) (by kernel_rfl) (by kernel_rfl)
      (OpenSpec.preRow_of_cond 8 hx (by kernel_rfl) (fun k hk => by cases hk) (by kernel_rfl) (officeKnown_met os))) ?_
  intro W base args ds gs before hval hW _ _ _ hL _ _
  exact officeKnown_contract H enc W base args ds gs before hval hW hL
theorem officeKnown_said : Rows.OfficeKnownSaid :=
  OpenClaim.holds_of_cond 3 Tryz.f3 rfl rfl rfl rfl rfl rfl rfl ⟨rfl, rfl, rfl, rfl, rfl⟩ rfl rfl rfl rfl rfl (by kernel_rfl) Tryz.func3 officeKnown_closed
    (of_decide_eq_true (by kernel_rfl)) (by unfold Func.isWrapper; first | (rw [if_pos (by decide +kernel)]; kernel_rfl) | (rw [if_neg (by decide +kernel)]; exact ⟨rfl, rfl⟩))
    (fun os started H enc _ F => by rw [OpenClaim.pre_eq_preRow]; exact officeKnown_lifted os started H enc F)
theorem officeKnown_plain (f : FuncId) (fn : Func) (hf : Tryz.pinned.checked.prog.funcNamed "groundling/groundlinglaw26.OfficeKnown" = some f) (hfn : Tryz.pinned.checked.prog.funcs[f]? = some fn) :
    true = Tryz.pinned.checked.prog.looks [] ∧ ∀ (j : Nat) t, fn.params[j]? = some t → Tryz.pinned.checked.prog.wantsStandIn t = false := by
  obtain rfl : f = 3 := Option.some.inj ((show Tryz.prog.funcNamed "groundling/groundlinglaw26.OfficeKnown" = some 3 by kernel_rfl).symm.trans hf) |>.symm
  obtain rfl : fn = Tryz.f3 := (Option.some.inj (Tryz.func3.symm.trans hfn)).symm
  refine ⟨sLooks, fun j t ht => ?_⟩
  rw [Tryz.params3] at ht
  simp at ht
theorem officeKnown_card : Rows.OfficeKnownCardSaid :=
  Claim7.holds_tied_plain_at .later [] _ _ _ _ officeKnown_said (fun _ h => by cases h) (by kernel_rfl) (fun _ h => by cases h) officeKnown_row_tie rfl ⟨rfl, rfl⟩ (by kernel_rfl) rfl officeKnown_plain officeKnown_goes
end Go.Proofs.YtdiifccoaihffaaGreatDoor
