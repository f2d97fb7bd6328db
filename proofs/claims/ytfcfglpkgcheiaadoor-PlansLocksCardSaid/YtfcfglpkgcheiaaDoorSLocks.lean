/- PlansLocks answers true at every venue and operation. -/
import Derived.Test.YtfcfglpkgcheiaaDoorPlainB
import Derived.Test.YtfcfglpkgcheiaaDoorSLaid
namespace Go.Proofs.YtfcfglpkgcheiaaDoor
open Go Go.Eng Go.ChangeShapes Go.WideShapes Go.ChangeAt Go.RowKit
set_option linter.unusedVariables false
def plansLocksZ : Array Value := #[venZ, opZ1]
theorem plansLocks_met (os : Os) : laidMet Tryd.prog Rows.plansLocksRow.laid ((laidWorld os).forCall (fun _ _ => 0) ⟨#[], plansLocksZ, []⟩).memory :=
  laidMet_of_run' 8 (by kernel_rfl) (by kernel_rfl)
theorem plansLocks_reads (os : Os) {H : Type} (enc : TypeId × Value → H) : ∃ places, DataW.whole enc Tryd.prog ((laidWorld os).forCall (fun _ _ => 0) ⟨#[], plansLocksZ, []⟩).memory Tryd.f4.params.toList Rows.plansLocksSpec.vars false (plansLocksZ : Array Value).toList 8 = some ([venD, opD], [], places) :=
  ⟨[], by kernel_rfl⟩
theorem plansLocks_all {H : Type} {enc : TypeId × Value → H} {W : World} {args : List Value} {ds : List (DataW H)} {p : List MemPlace} (h : DataW.TrodAll enc Tryd.prog W 0 (fun _ => true) true [36, 27] args ds p) :
    ∃ v0 v1 d0 d1 p0 p1, args = [v0, v1] ∧ ds = [d0, d1] ∧ DataW.Trod enc Tryd.prog W 0 (fun _ => true) true 36 v0 d0 p0 ∧ DataW.Trod enc Tryd.prog W 0 (fun _ => true) true 27 v1 d1 p1 := by
  obtain ⟨v0, _, d0, _, _, _, rfl, rfl, rfl, h0, h1'⟩ := trodAll_cons h
  obtain ⟨v1, _, d1, _, _, _, rfl, rfl, rfl, h1, h2'⟩ := trodAll_cons h1'
  obtain ⟨rfl, rfl, rfl⟩ := trodAll_nil h2'
  exact ⟨v0, v1, d0, d1, _, _, rfl, rfl, h0, h1⟩
set_option maxRecDepth 100000 in
theorem plansLocks_contract (H : Type) (enc : TypeId × Value → H) (W : World) (base : Nat) (args : Array Value) (ds gs : List (DataW H)) (before : List MemPlace)
    (hval : ∀ (j : Nat) t v, Tryd.f4.params[j]? = some t → args[j]? = some v → Value.okWide Tryd.prog W .any base t v) (hW : DataW.Whole enc Tryd.prog Tryd.f4.params.toList Rows.plansLocksSpec.vars false W args.toList ds gs before) (hL : laidMetH Tryd.prog Rows.plansLocksRow.laid W) :
    Calls Tryd.prog 4 args W fun e W' => ∃ v, e = .returned v ∧ Rows.plansLocksSpec.post enc Tryd.prog Tryd.f4 false true false false W args v W' := by
  have hW' := hW
  obtain ⟨p, q, hA0, hV, rfl, hfz, hnd⟩ := hW
  have hA : DataW.TrodAll enc Tryd.prog W 0 (fun _ => true) true Tryd.f4.params.toList args.toList ds p := hA0
  rw [Tryd.params4] at hA hval
  obtain ⟨v0, v1, d0, d1, p0, p1, hargs, rfl, h0, h1⟩ := plansLocks_all hA
  obtain rfl : args = #[v0, v1] := Array.toList_inj.1 hargs
  have hl := uses_laid hL
  obtain ⟨σ1, W1, v, sv, o1, s1, l1, r1, a1⟩ := openVen (openG hl) (hval 0 36 v0 rfl rfl) h0
  obtain ⟨o, rfl⟩ := openOp (hval 1 27 v1 rfl rfl) h1
  have o9 := o1
  have s9 := s1
  have hc := open_calls omS_ok o9 s9 (args := [venV v sv, opV o]) (.cons r1 (.cons (plain_refl (opV_plain o)) .nil)) (plansLocks_om a1 (gw_le l1))
  refine hc.mono fun e W' ⟨he, hq⟩ => ⟨_, he, ?_⟩
  exact post_true kidsT fullT (by rw [Tryd.params4]; intro t ht; revert t; exact of_decide_eq_true (by kernel_rfl)) hW' hq rfl rfl rfl Tryd.underlying4
set_option maxRecDepth 100000 in
theorem plansLocks_lifted (os : Os) (started : os.Started) (H : Type) (enc : TypeId × Value → H) (F : Stop.Interp) :
    ReturnsInHanded {} Tryd.checked os 4 .any ((OpenSpec.ofChange Rows.plansLocksSpec).preRow enc Tryd.prog Tryd.f4 Rows.plansLocksRow.domain false Rows.plansLocksRow.laid) (((OpenSpec.ofChange Rows.plansLocksSpec).at F).post enc Tryd.prog Tryd.f4 false true false false) := by
  obtain ⟨places, hx⟩ := plansLocks_reads os enc
  refine returnsInHanded_of_row (C := Tryd.checked) (s := OpenSpec.ofChange Rows.plansLocksSpec) own started (by kernel_rfl) Tryd.func4
    (witness_row_at (enc := enc) (C := Tryd.checked) false (laidWorld os) plansLocksZ rfl (by kernel_rfl) (by kernel_rfl) (by kernel_rfl)
      (OpenSpec.preRow_of_cond 8 hx (by kernel_rfl) (fun k hk => by cases hk) (by kernel_rfl) (plansLocks_met os))) ?_
  intro W base args ds gs before hval hW _ _ _ hL _ _
  exact plansLocks_contract H enc W base args ds gs before hval hW hL
theorem plansLocks_inPlace : (Rows.plansLocksRow.inPlace == Tryd.pinned.checked.prog.inPlace 4) = true := by kernel_rfl
theorem plansLocks_unfollowed : (Rows.plansLocksRow.unfollowed == Tryd.pinned.checked.prog.unfollowed 4) = true := by kernel_rfl
theorem plansLocks_recurses : (Rows.plansLocksRow.recurses == Tryd.pinned.checked.prog.recurses 4) = true := by kernel_rfl
theorem plansLocks_named : (Rows.plansLocksRow.named == Tryd.pinned.checked.prog.varsNamed 4) = true := by kernel_rfl
theorem plansLocks_closed : joinedFacts Tryd.pinned.checked.prog 4 Tryd.f4 (OpenSpec.ofChange Rows.plansLocksSpec).bare Rows.plansLocksRow = true := by
  unfold joinedFacts
  rw [plansLocks_inPlace, plansLocks_unfollowed, plansLocks_recurses, plansLocks_named]
  kernel_rfl
theorem plansLocks_said : Rows.PlansLocksSaid :=
  OpenClaim.holds_of_cond 4 Tryd.f4 rfl rfl rfl rfl rfl rfl rfl ⟨rfl, rfl, rfl, rfl, rfl⟩ rfl rfl rfl rfl rfl (by kernel_rfl) Tryd.func4 plansLocks_closed
    (of_decide_eq_true (by kernel_rfl)) (by unfold Func.isWrapper; first | (rw [if_pos (by decide +kernel)]; kernel_rfl) | (rw [if_neg (by decide +kernel)]; exact ⟨rfl, rfl⟩))
    (fun os started H enc _ F => by rw [OpenClaim.pre_eq_preRow]; exact plansLocks_lifted os started H enc F)
theorem plansLocks_plain (f : FuncId) (fn : Func) (hf : Tryd.pinned.checked.prog.funcNamed "groundling/groundlinglaw22.PlansLocks" = some f) (hfn : Tryd.pinned.checked.prog.funcs[f]? = some fn) :
    false = Tryd.pinned.checked.prog.looks [] ∧ ∀ (j : Nat) t, fn.params[j]? = some t → Tryd.pinned.checked.prog.wantsStandIn t = false := by
  obtain rfl : f = 4 := Option.some.inj ((show Tryd.prog.funcNamed "groundling/groundlinglaw22.PlansLocks" = some 4 by kernel_rfl).symm.trans hf) |>.symm
  obtain rfl : fn = Tryd.f4 := (Option.some.inj (Tryd.func4.symm.trans hfn)).symm
  refine ⟨by kernel_rfl, fun j t ht => ?_⟩
  rw [Tryd.params4] at ht
  have hm := Array.mem_of_getElem? ht
  simp only [List.mem_toArray, List.mem_cons, List.not_mem_nil, or_false] at hm
  rcases hm with rfl | rfl
  · exact (show Tryd.prog.wantsStandIn 36 = false by kernel_rfl)
  · exact (show Tryd.prog.wantsStandIn 27 = false by kernel_rfl)
theorem plansLocks_card : Rows.PlansLocksCardSaid :=
  Claim7.holds_tied_plain_at .later [] _ _ _ _ plansLocks_said (fun _ h => by cases h) (by kernel_rfl) (fun _ h => by cases h) plansLocks_row_tie rfl ⟨rfl, rfl⟩ (by kernel_rfl) rfl plansLocks_plain (by kernel_rfl)
end Go.Proofs.YtfcfglpkgcheiaaDoor
