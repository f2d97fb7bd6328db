/- ShardsNone answers true, whatever its argument and the world it is called in. The package variables are listed (the card ties them); the walk reads none of them. -/
import Derived.Test.YthllkganhkgjcaaGreatDoorWalkB
import Derived.Test.YthllkganhkgjcaaGreatDoorEngW
import Derived.Test.YthllkganhkgjcaaGreatDoorCards
import Derived.Test.YthllkganhkgjcaaGreatDoorTie
import Derived.WalkKit
import Derived.ProofKit
import Derived.OpenShut
import Derived.Deep.DeepHandedRow
import Derived.Lib.LaidTab
namespace Go.Proofs.YthllkganhkgjcaaGreatDoor
open Go Go.Eng Go.ChangeShapes Go.WideShapes Go.ChangeAt Go.RowKit
set_option linter.unusedVariables false

/-- the cells that the listed tables hold -/
noncomputable def firstCells : List Value := match Go.Pinned.utf8First with
  | .agg l => l.map fun d => match d with
    | .lit (.int k n) => Value.int k n
    | _ => .nilFunc
  | _ => []
noncomputable def rangeCells : List Value := (([128, 191, 160, 191, 128, 159, 144, 191, 128, 143] ++ List.replicate 22 0 : List Int)).map (Value.int .u8)
noncomputable def setCells (cs : List Value) : Obj → Obj
  | .cells _ t frozen => .cells cs.toArray t frozen
  | o => o
/-- a world for the witness -/
noncomputable def laidWorld (os : Os) : World :=
  { World.holding Tryz.prog os ⟨#[], #[], []⟩ with heap := ((World.holding Tryz.prog os ⟨#[], #[], []⟩).heap.modify 1 (setCells firstCells)).modify 2 (setCells rangeCells) }

def noneD {H : Type} : DataW H := .agg [.lit (.int .u8 0), .lit (.int .i64 0), .lit (.int .i64 0), .agg [.lit (.int .i64 0), .lit (.int .u32 0), .lit (.int .i64 0), .lit (.int .u64 0), .lit (.int .u64 0)]]
theorem shardsNone_met (os : Os) : laidMet Tryz.prog Rows.shardsNoneRow.laid ((laidWorld os).forCall (fun _ _ => 0) ⟨#[], #[.agg #[.int .u8 0, .int .i64 0, .int .i64 0, .int .i64 0, .int .u32 0, .int .i64 0, .int .u64 0, .int .u64 0]], []⟩).memory :=
  laidMet_of_run' 8 (by kernel_rfl) (by kernel_rfl)
theorem shardsNone_reads (os : Os) {H : Type} (enc : TypeId × Value → H) : ∃ places, DataW.whole enc Tryz.prog ((laidWorld os).forCall (fun _ _ => 0) ⟨#[], #[.agg #[.int .u8 0, .int .i64 0, .int .i64 0, .int .i64 0, .int .u32 0, .int .i64 0, .int .u64 0, .int .u64 0]], []⟩).memory Tryz.f4.params.toList Rows.shardsNoneSpec.vars false (#[.agg #[.int .u8 0, .int .i64 0, .int .i64 0, .int .i64 0, .int .u32 0, .int .i64 0, .int .u64 0, .int .u64 0]] : Array Value).toList 8 = some ([noneD], [], places) :=
  ⟨[], by kernel_rfl⟩
theorem shardsNone_flat : flatK Tryz.prog 4 52 = some [.u8, .i64, .i64, .i64, .u32, .i64, .u64, .u64] := by kernel_rfl
set_option maxRecDepth 100000 in
theorem shardsNone_contract (H : Type) (enc : TypeId × Value → H) (W : World) (base : Nat) (args : Array Value) (ds gs : List (DataW H)) (before : List MemPlace)
    (hval : ∀ (j : Nat) t v, Tryz.f4.params[j]? = some t → args[j]? = some v → Value.okWide Tryz.prog W .any base t v) (hW : DataW.Whole enc Tryz.prog Tryz.f4.params.toList Rows.shardsNoneSpec.vars false W args.toList ds gs before) :
    Calls Tryz.prog 4 args W fun e W' => ∃ v, e = .returned v ∧ Rows.shardsNoneSpec.post enc Tryz.prog Tryz.f4 false true false false W args v W' := by
  have hW' := hW
  obtain ⟨p, q, hA0, hV, rfl, hfz, hnd⟩ := hW
  have hA : DataW.TrodAll enc Tryz.prog W 0 (fun _ => true) true Tryz.f4.params.toList args.toList ds p := hA0
  rw [Tryz.params4] at hA hval
  obtain ⟨v0, d0, rfl, rfl, h0⟩ := trodAll_one hA
  obtain ⟨ns, hn, rfl, rfl, again⟩ := open_flat Tryz.underlying52 shardsNone_flat (hval 0 52 v0 rfl rfl) h0
  obtain ⟨a, b, c, d, e, f, g, h, rfl⟩ : ∃ a b c d e f g h, ns = [a, b, c, d, e, f, g, h] := by
    match ns, hn with
    | [a, b, c, d, e, f, g, h], _ => exact ⟨a, b, c, d, e, f, g, h, rfl⟩
  obtain ⟨rfl, rfl⟩ := trodVars_none hV
  clear hA0
  simp only [List.append_nil] at hW'
  refine (shardsNone_walk a b c d e f g h W).mono fun e W' ⟨he, hg⟩ => ?_
  subst he
  exact ⟨_, rfl, post_of_same (pa := []) (pv := []) hW' (fun _ _ _ => trodAll_cons_mk (shut_bool Tryz.underlying4 _) trodAll_mk0) (fun _ _ => trodAll_cons_mk (again _ _ _) trodAll_mk0) (fun _ _ => rfl) rfl
    (hg.frame _) hg.2.1 (ok_one (by kernel_rfl) rfl (okWide_bool_mk Tryz.underlying4 _))⟩
set_option maxRecDepth 100000 in
theorem shardsNone_lifted (os : Os) (started : os.Started) (H : Type) (enc : TypeId × Value → H) (F : Stop.Interp) :
    ReturnsInHanded {} Tryz.checked os 4 .any ((OpenSpec.ofChange Rows.shardsNoneSpec).preRow enc Tryz.prog Tryz.f4 Rows.shardsNoneRow.domain false Rows.shardsNoneRow.laid) (((OpenSpec.ofChange Rows.shardsNoneSpec).at F).post enc Tryz.prog Tryz.f4 false true false false) := by
  obtain ⟨places, hx⟩ := shardsNone_reads os enc
  refine returnsInHanded_of_row (C := Tryz.checked) (s := OpenSpec.ofChange Rows.shardsNoneSpec) own started (by kernel_rfl) Tryz.func4
    (witness_row_at (enc := enc) (C := Tryz.checked) false (laidWorld os) #[.agg #[.int .u8 0, .int .i64 0, .int .i64 0, .int .i64 0, .int .u32 0, .int .i64 0, .int .u64 0, .int .u64 0]] rfl (by kernel_rfl) (by kernel_rfl) (by kernel_rfl)
      (OpenSpec.preRow_of_cond 8 hx (by kernel_rfl) (fun k hk => by cases hk) (by kernel_rfl) (shardsNone_met os))) ?_
  intro W base args ds gs before hval hW _ _ _ hL _ _
  exact shardsNone_contract H enc W base args ds gs before hval hW
theorem none_inPlace : (Rows.shardsNoneRow.inPlace == Tryz.pinned.checked.prog.inPlace 4) = true := by kernel_rfl
theorem none_unfollowed : (Rows.shardsNoneRow.unfollowed == Tryz.pinned.checked.prog.unfollowed 4) = true := by kernel_rfl
theorem none_recurses : (Rows.shardsNoneRow.recurses == Tryz.pinned.checked.prog.recurses 4) = true := by kernel_rfl
theorem none_named : (Rows.shardsNoneRow.named == Tryz.pinned.checked.prog.varsNamed 4) = true := by kernel_rfl
theorem none_closed : joinedFacts Tryz.pinned.checked.prog 4 Tryz.f4 (OpenSpec.ofChange Rows.shardsNoneSpec).bare Rows.shardsNoneRow = true := by
  unfold joinedFacts
  rw [none_inPlace, none_unfollowed, none_recurses, none_named]
  kernel_rfl
theorem shardsNone_said : Rows.ShardsNoneSaid :=
  OpenClaim.holds_of_cond 4 Tryz.f4 rfl rfl rfl rfl rfl rfl rfl ⟨rfl, rfl, rfl, rfl, rfl⟩ rfl rfl rfl rfl rfl (by kernel_rfl) Tryz.func4 none_closed
    (of_decide_eq_true (by kernel_rfl)) (by unfold Func.isWrapper; first | (rw [if_pos (by decide +kernel)]; kernel_rfl) | (rw [if_neg (by decide +kernel)]; exact ⟨rfl, rfl⟩))
    (fun os started H enc _ F => by rw [OpenClaim.pre_eq_preRow]; exact shardsNone_lifted os started H enc F)
theorem shardsNone_plain (f : FuncId) (fn : Func) (hf : Tryz.pinned.checked.prog.funcNamed "groundling/groundlinglaw18.ShardsNone" = some f) (hfn : Tryz.pinned.checked.prog.funcs[f]? = some fn) :
    true = Tryz.pinned.checked.prog.looks [] ∧ ∀ (j : Nat) t, fn.params[j]? = some t → Tryz.pinned.checked.prog.wantsStandIn t = false := by
  obtain rfl : f = 4 := Option.some.inj ((show Tryz.prog.funcNamed "groundling/groundlinglaw18.ShardsNone" = some 4 by kernel_rfl).symm.trans hf) |>.symm
  obtain rfl : fn = Tryz.f4 := (Option.some.inj (Tryz.func4.symm.trans hfn)).symm
  refine ⟨by kernel_rfl, fun j t ht => ?_⟩
  rw [Tryz.params4] at ht
  obtain rfl : t = 52 := by simpa using Array.mem_of_getElem? ht
  exact (show Tryz.prog.wantsStandIn 52 = false by kernel_rfl)
theorem shardsNone_card : Rows.ShardsNoneCardSaid :=
  Claim7.holds_tied_plain_at .later [] _ _ _ _ shardsNone_said (fun _ h => by cases h) (by kernel_rfl) (fun _ h => by cases h) shardsNone_row_tie rfl ⟨rfl, rfl⟩ (by kernel_rfl) rfl shardsNone_plain (by kernel_rfl)
end Go.Proofs.YthllkganhkgjcaaGreatDoor
