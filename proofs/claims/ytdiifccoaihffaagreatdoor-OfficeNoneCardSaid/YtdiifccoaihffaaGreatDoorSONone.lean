/- OfficeNone answers true at every task and operation. -/
import Derived.Test.YtdiifccoaihffaaGreatDoorSLaid
import Derived.Test.YtdiifccoaihffaaGreatDoorSONoneF
set_option linter.unusedVariables false
namespace Go.Proofs.YtdiifccoaihffaaGreatDoor
open Go Go.Eng Go.ChangeShapes Go.WideShapes Go.ChangeAt Go.RowKit
def officeNoneZ : Array Value := #[.int .i64 0, .agg #[.int .i64 0, .int .u32 0, .int .i64 0, .int .i64 0, .int .i64 0, .int .i64 0, .int .u32 0, .int .u32 0, .int .u32 0, .int .u64 0, .int .u64 0, .int .i64 0]]
def officeNoneD {H : Type} : DataW H := .agg [.lit (.int .i64 0), .lit (.int .u32 0), .lit (.int .i64 0), .lit (.int .i64 0), .lit (.int .i64 0), .lit (.int .i64 0), .lit (.int .u32 0), .agg [.lit (.int .u32 0), .lit (.int .u32 0), .lit (.int .u64 0), .lit (.int .u64 0)], .lit (.int .i64 0)]
theorem officeNone_flat : flatK Tryz.prog 4 42 = some [.i64, .u32, .i64, .i64, .i64, .i64, .u32, .u32, .u32, .u64, .u64, .i64] := by kernel_rfl
set_option maxRecDepth 100000 in
theorem officeNone_walk (t x0 x1 x2 x3 x4 x5 x6 x7 x8 x9 x10 x11 : Int) (w : World) (hl : LaidG globW w.heap) : Calls Tryz.prog 7 #[.int .i64 t, .agg #[.int .i64 x0, .int .u32 x1, .int .i64 x2, .int .i64 x3, .int .i64 x4, .int .i64 x5, .int .u32 x6, .int .u32 x7, .int .u32 x8, .int .u64 x9, .int .u64 x10, .int .i64 x11]] w fun e w' => e = .returned (.bool true) ∧ Quiet w w' :=
  closed_quiet followsW (funsOk_more (F := 215) lookedW) specW_ok 200 (gs := globW) (N := 4) rfl rfl (args := [.int .i64 t, .agg #[.int .i64 x0, .int .u32 x1, .int .i64 x2, .int .i64 x3, .int .i64 x4, .int .i64 x5, .int .u32 x6, .int .u32 x7, .int .u32 x8, .int .u64 x9, .int .u64 x10, .int .i64 x11]]) rfl (by kernel_rfl) w hl
theorem officeNone_met (os : Os) : laidMet Tryz.prog Rows.officeNoneRow.laid ((laidWorld os).forCall (fun _ _ => 0) ⟨#[], officeNoneZ, []⟩).memory :=
  laidMet_of_run' 8 (by kernel_rfl) (by kernel_rfl)
theorem officeNone_reads (os : Os) {H : Type} (enc : TypeId × Value → H) : ∃ places, DataW.whole enc Tryz.prog ((laidWorld os).forCall (fun _ _ => 0) ⟨#[], officeNoneZ, []⟩).memory Tryz.f7.params.toList Rows.officeNoneSpec.vars false (officeNoneZ : Array Value).toList 8 = some ([.lit (.int .i64 0), officeNoneD], [], places) :=
  ⟨[], by kernel_rfl⟩
theorem officeNone_all {H : Type} {enc : TypeId × Value → H} {W : World} {args : List Value} {ds : List (DataW H)} {p : List MemPlace} (h : DataW.TrodAll enc Tryz.prog W 0 (fun _ => true) true [3, 42] args ds p) :
    ∃ v0 v1 d0 d1 p0 p1, args = [v0, v1] ∧ ds = [d0, d1] ∧ DataW.Trod enc Tryz.prog W 0 (fun _ => true) true 3 v0 d0 p0 ∧ DataW.Trod enc Tryz.prog W 0 (fun _ => true) true 42 v1 d1 p1 := by
  obtain ⟨v0, _, d0, _, _, _, rfl, rfl, rfl, h0, h1'⟩ := trodAll_cons h
  obtain ⟨v1, _, d1, _, _, _, rfl, rfl, rfl, h1, h2'⟩ := trodAll_cons h1'
  obtain ⟨rfl, rfl, rfl⟩ := trodAll_nil h2'
  exact ⟨v0, v1, d0, d1, _, _, rfl, rfl, h0, h1⟩
set_option maxRecDepth 100000 in
theorem officeNone_contract (H : Type) (enc : TypeId × Value → H) (W : World) (base : Nat) (args : Array Value) (ds gs : List (DataW H)) (before : List MemPlace)
    (hval : ∀ (j : Nat) t v, Tryz.f7.params[j]? = some t → args[j]? = some v → Value.okWide Tryz.prog W .any base t v) (hW : DataW.Whole enc Tryz.prog Tryz.f7.params.toList Rows.officeNoneSpec.vars false W args.toList ds gs before) (hL : laidMetH Tryz.prog Rows.officeNoneRow.laid W) :
    Calls Tryz.prog 7 args W fun e W' => ∃ v, e = .returned v ∧ Rows.officeNoneSpec.post enc Tryz.prog Tryz.f7 false true false false W args v W' := by
  have hW' := hW
  obtain ⟨p, q, hA0, hV, rfl, hfz, hnd⟩ := hW
  have hA : DataW.TrodAll enc Tryz.prog W 0 (fun _ => true) true Tryz.f7.params.toList args.toList ds p := hA0
  rw [Tryz.params7] at hA hval
  obtain ⟨v0, v1, d0, d1, p0, p1, hargs, rfl, h0, h1⟩ := officeNone_all hA
  obtain rfl : args = #[v0, v1] := Array.toList_inj.1 hargs
  obtain ⟨n, rfl⟩ := okWide_int Tryz.underlying3 (hval 0 3 v0 rfl rfl)
  obtain ⟨ns, hn, rfl, rfl, again⟩ := open_flat Tryz.underlying42 officeNone_flat (hval 1 42 v1 rfl rfl) h1
  obtain ⟨x0, x1, x2, x3, x4, x5, x6, x7, x8, x9, x10, x11, rfl⟩ : ∃ x0 x1 x2 x3 x4 x5 x6 x7 x8 x9 x10 x11, ns = [x0, x1, x2, x3, x4, x5, x6, x7, x8, x9, x10, x11] := by
    match ns, hn with
    | [x0, x1, x2, x3, x4, x5, x6, x7, x8, x9, x10, x11], _ => exact ⟨x0, x1, x2, x3, x4, x5, x6, x7, x8, x9, x10, x11, rfl⟩
  refine (officeNone_walk n x0 x1 x2 x3 x4 x5 x6 x7 x8 x9 x10 x11 W (uses_laid hL)).mono fun e W' ⟨he, hq⟩ => ⟨_, he, ?_⟩
  exact post_true kidsT fullT (by rw [Tryz.params7]; intro t ht; revert t; exact of_decide_eq_true (by kernel_rfl)) hW' hq rfl rfl rfl Tryz.underlying4
set_option maxRecDepth 100000 in
theorem officeNone_lifted (os : Os) (started : os.Started) (H : Type) (enc : TypeId × Value → H) (F : Stop.Interp) :
    ReturnsInHanded {} Tryz.checked os 7 .any ((OpenSpec.ofChange Rows.officeNoneSpec).preRow enc Tryz.prog Tryz.f7 Rows.officeNoneRow.domain false Rows.officeNoneRow.laid) (((OpenSpec.ofChange Rows.officeNoneSpec).at F).post enc Tryz.prog Tryz.f7 false true false false) := by
  obtain ⟨places, hx⟩ := officeNone_reads os enc
  refine returnsInHanded_of_row (C := Tryz.checked) (s := OpenSpec.ofChange Rows.officeNoneSpec) own started (by kernel_rfl) Tryz.func7
    (witness_row_at (enc := enc) (C := Tryz.checked) false (laidWorld os) officeNoneZ rfl (by kernel_rfl) (by kernel_rfl) (by kernel_rfl)
      (OpenSpec.preRow_of_cond 8 hx (by kernel_rfl) (fun k hk => by cases hk) (by kernel_rfl) (officeNone_met os))) ?_
  intro W base args ds gs before hval hW _ _ _ hL _ _
  exact officeNone_contract H enc W base args ds gs before hval hW hL
theorem officeNone_said : Rows.OfficeNoneSaid :=
  OpenClaim.holds_of_cond 7 Tryz.f7 rfl rfl rfl rfl rfl rfl rfl ⟨rfl, rfl, rfl, rfl, rfl⟩ rfl rfl rfl rfl rfl (by kernel_rfl) Tryz.func7 officeNone_closed
    (of_decide_eq_true (by kernel_rfl)) (by unfold Func.isWrapper; first | (rw [if_pos (by decide +kernel)]; kernel_rfl) | (rw [if_neg (by decide +kernel)]; exact ⟨rfl, rfl⟩))
    (fun os started H enc _ F => by rw [OpenClaim.pre_eq_preRow]; exact officeNone_lifted os started H enc F)
theorem officeNone_plain (f : FuncId) (fn : Func) (hf : Tryz.pinned.checked.prog.funcNamed "groundling/groundlinglaw26.OfficeNone" = some f) (hfn : Tryz.pinned.checked.prog.funcs[f]? = some fn) :
    true = Tryz.pinned.checked.prog.looks [] ∧ ∀ (j : Nat) t, fn.params[j]? = some t → Tryz.pinned.checked.prog.wantsStandIn t = false := by
  obtain rfl : f = 7 := Option.some.inj ((show Tryz.prog.funcNamed "groundling/groundlinglaw26.OfficeNone" = some 7 by kernel_rfl).symm.trans hf) |>.symm
  obtain rfl : fn = Tryz.f7 := (Option.some.inj (Tryz.func7.symm.trans hfn)).symm
  refine ⟨sLooks, fun j t ht => ?_⟩
  rw [Tryz.params7] at ht
  have hm := Array.mem_of_getElem? ht
  simp only [List.mem_toArray, List.mem_cons, List.not_mem_nil, or_false] at hm
  rcases hm with rfl | rfl
  · exact (show Tryz.prog.wantsStandIn 3 = false by kernel_rfl)
  · exact (show Tryz.prog.wantsStandIn 42 = false by kernel_rfl)
theorem officeNone_card : Rows.OfficeNoneCardSaid :=
  Claim7.holds_tied_plain_at .later [] _ _ _ _ officeNone_said (fun _ h => by cases h) (by kernel_rfl) (fun _ h => by cases h) officeNone_row_tie rfl ⟨rfl, rfl⟩ (by kernel_rfl) rfl officeNone_plain officeNone_goes
end Go.Proofs.YtdiifccoaihffaaGreatDoor
