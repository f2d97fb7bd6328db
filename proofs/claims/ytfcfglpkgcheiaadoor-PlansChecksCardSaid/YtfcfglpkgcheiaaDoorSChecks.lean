/- PlansChecks answers true at every operation, in every world in which the package variables lie as the text lays them; the operation reads as it did. -/
import Derived.Test.YtfcfglpkgcheiaaDoorP4
import Derived.Test.YtfcfglpkgcheiaaDoorSOk
import Derived.Test.YtfcfglpkgcheiaaDoorEngW
import Derived.Test.YtfcfglpkgcheiaaDoorCards
import Derived.Test.YtfcfglpkgcheiaaDoorTie
import Derived.WalkKit
import Derived.ProofKit
import Derived.OpenShut
import Derived.Deep.DeepHandedRow
import Derived.Lib.LaidTab
namespace Go.Proofs.YtfcfglpkgcheiaaDoor
open Go Go.Eng Go.ChangeShapes Go.WideShapes Go.ChangeAt Go.RowKit
set_option linter.unusedVariables false

theorem plansChecks_calls (k ow un se sc n to t1 t2 t3 t4 nw : Int) (w : World) (hl : LaidG [(0, usesV)] w.heap) :
    Calls Tryd.prog 3 #[.agg (opArr k ow un se sc n to t1 t2 t3 t4 nw)] w fun e w' => e = .returned (.bool true) ∧ Quiet w w' :=
  plansChecks_callsO omS_ok k ow un se sc n to t1 t2 t3 t4 nw w hl
/-- the cells that the listed tables hold -/
noncomputable def firstCells : List Value := match Go.Pinned.utf8First with
  | .agg l => l.map fun d => match d with
    | .lit (.int k n) => Value.int k n
    | _ => .nilFunc
  | _ => []
noncomputable def rangeCells : List Value := (([128, 191, 160, 191, 128, 159, 144, 191, 128, 143] ++ List.replicate 22 0 : List Int)).map (Value.int .u8)
noncomputable def setCells (cs : List Value) : Obj → Obj
  | .cells _ t frozen => .cells cs.toArray t frozen
  | o => o
/-- a world for the witness -/
noncomputable def laidWorld (os : Os) : World :=
  { World.holding Tryd.prog os ⟨#[], #[], []⟩ with heap := (((World.holding Tryd.prog os ⟨#[], #[], []⟩).heap.modify 5 (setCells firstCells)).modify 6 (setCells rangeCells)).modify 0 (setCells usesV) }
theorem gUses : Tryd.prog.globalNamed "groundling/plans.uses" = some 0 := by kernel_rfl
theorem tUses : (Tryd.prog.globals[0]?).map (·.type) = some 73 := by kernel_rfl
theorem cUses : Tryd.prog.cellsOf 73 = 13 := by kernel_rfl
theorem cInt : Tryd.prog.cellsOf 3 = 1 := by kernel_rfl
theorem uses_laid {W : World} (h : laidMetH Tryd.prog Rows.plansChecksRow.laid W) : LaidG [(0, usesV)] W.heap := by
  rw [MakeChecks.laidMetH_plain _ _ _ (by kernel_rfl)] at h
  obtain ⟨ps, ⟨_, _, _, _, _, _, _, _, _, _, ⟨g, t, cs, fuel, p, q, hg, ht, hvar, hd, _, _⟩, _⟩, _⟩ := h
  obtain rfl := Option.some.inj (gUses.symm.trans hg)
  obtain rfl := Option.some.inj (tUses.symm.trans ht)
  have hd' : DataW.trod (fun _ => ()) Tryd.prog W 0 (fun _ => true) false fuel 73 cs.toList = some (Lib.tabData .i64 useL, p) := hd
  have hcs := Lib.cells_of_tab Tryd.underlying73 Tryd.underlying3 cInt cUses hd'
  have hc : ∀ (i : Nat) (v : Value), usesV[i]? = some v → W.cell? ⟨0, i, none⟩ = some v := fun i v hv => by
    have := World.var?_cell gUses hvar i
    rw [this, ← Array.getElem?_toList, hcs]
    exact hv
  have h0 := hc 0 (.int .i64 0) rfl
  unfold World.cell? at h0
  split at h0
  · rename_i c t fr hh
    intro x hx
    obtain rfl : x = (0, usesV) := by simpa using hx
    refine ⟨c, t, fr, hh, fun i v hv => ⟨?_, ?_⟩⟩
    · have h1 := hc i v hv
      unfold World.cell? at h1
      simp only [hh] at h1
      exact h1
    · obtain ⟨n, _, rfl⟩ := List.mem_map.1 (List.mem_of_getElem? hv)
      rfl
  · cases h0
def opZ : Array Value := #[.agg (opArr 0 0 0 0 0 0 0 0 0 0 0 0)]
def opD {H : Type} : DataW H := .agg [.lit (.int .i64 0), .lit (.int .u32 0), .lit (.int .i64 0), .lit (.int .i64 0), .lit (.int .i64 0), .lit (.int .i64 0), .lit (.int .u32 0), .agg [.lit (.int .u32 0), .lit (.int .u32 0), .lit (.int .u64 0), .lit (.int .u64 0)], .lit (.int .i64 0)]
theorem plansChecks_met (os : Os) : laidMet Tryd.prog Rows.plansChecksRow.laid ((laidWorld os).forCall (fun _ _ => 0) ⟨#[], opZ, []⟩).memory :=
  laidMet_of_run' 8 (by kernel_rfl) (by kernel_rfl)
theorem plansChecks_reads (os : Os) {H : Type} (enc : TypeId × Value → H) : ∃ places, DataW.whole enc Tryd.prog ((laidWorld os).forCall (fun _ _ => 0) ⟨#[], opZ, []⟩).memory Tryd.f3.params.toList Rows.plansChecksSpec.vars false (opZ : Array Value).toList 8 = some ([opD], [], places) :=
  ⟨[], by kernel_rfl⟩
theorem op_flat : flatK Tryd.prog 4 27 = some [.i64, .u32, .i64, .i64, .i64, .i64, .u32, .u32, .u32, .u64, .u64, .i64] := by kernel_rfl
set_option maxRecDepth 100000 in
theorem plansChecks_contract (H : Type) (enc : TypeId × Value → H) (W : World) (base : Nat) (args : Array Value) (ds gs : List (DataW H)) (before : List MemPlace)
    (hval : ∀ (j : Nat) t v, Tryd.f3.params[j]? = some t → args[j]? = some v → Value.okWide Tryd.prog W .any base t v) (hW : DataW.Whole enc Tryd.prog Tryd.f3.params.toList Rows.plansChecksSpec.vars false W args.toList ds gs before) (hL : laidMetH Tryd.prog Rows.plansChecksRow.laid W) :
    Calls Tryd.prog 3 args W fun e W' => ∃ v, e = .returned v ∧ Rows.plansChecksSpec.post enc Tryd.prog Tryd.f3 false true false false W args v W' := by
  have hW' := hW
  obtain ⟨p, q, hA0, hV, rfl, hfz, hnd⟩ := hW
  have hA : DataW.TrodAll enc Tryd.prog W 0 (fun _ => true) true Tryd.f3.params.toList args.toList ds p := hA0
  rw [Tryd.params3] at hA hval
  obtain ⟨v0, d0, rfl, rfl, h0⟩ := trodAll_one hA
  obtain ⟨ns, hn, rfl, rfl, again⟩ := open_flat Tryd.underlying27 op_flat (hval 0 27 v0 rfl rfl) h0
  obtain ⟨a, b, c, d, e, f, g, h, i, j, k, l, rfl⟩ : ∃ a b c d e f g h i j k l, ns = [a, b, c, d, e, f, g, h, i, j, k, l] := by
    match ns, hn with
    | [a, b, c, d, e, f, g, h, i, j, k, l], _ => exact ⟨a, b, c, d, e, f, g, h, i, j, k, l, rfl⟩
  obtain ⟨rfl, rfl⟩ := trodVars_none hV
  clear hA0
  simp only [List.append_nil] at hW'
  refine (plansChecks_calls a b c d e f g h i j k l W (uses_laid hL)).mono fun e W' ⟨he, hq⟩ => ?_
  subst he
  have hg := hq.grown
  exact ⟨_, rfl, post_of_same (pa := []) (pv := []) hW' (fun _ _ _ => trodAll_cons_mk (shut_bool Tryd.underlying4 _) trodAll_mk0) (fun _ _ => trodAll_cons_mk (again _ _ _) trodAll_mk0) (fun _ _ => rfl) rfl
    (hg.frame _) hg.2.1 (ok_one (by kernel_rfl) rfl (okWide_bool_mk Tryd.underlying4 _))⟩
set_option maxRecDepth 100000 in
theorem plansChecks_lifted (os : Os) (started : os.Started) (H : Type) (enc : TypeId × Value → H) (F : Stop.Interp) :
    ReturnsInHanded {} Tryd.checked os 3 .any ((OpenSpec.ofChange Rows.plansChecksSpec).preRow enc Tryd.prog Tryd.f3 Rows.plansChecksRow.domain false Rows.plansChecksRow.laid) (((OpenSpec.ofChange Rows.plansChecksSpec).at F).post enc Tryd.prog Tryd.f3 false true false false) := by
  obtain ⟨places, hx⟩ := plansChecks_reads os enc
  refine returnsInHanded_of_row (C := Tryd.checked) (s := OpenSpec.ofChange Rows.plansChecksSpec) own started (by kernel_rfl) Tryd.func3
    (witness_row_at (enc := enc) (C := Tryd.checked) false (laidWorld os) opZ rfl (by kernel_rfl) (by kernel_rfl) (by kernel_rfl)
      (OpenSpec.preRow_of_cond 8 hx (by kernel_rfl) (fun k hk => by cases hk) (by kernel_rfl) (plansChecks_met os))) ?_
  intro W base args ds gs before hval hW _ _ _ hL _ _
  exact plansChecks_contract H enc W base args ds gs before hval hW hL
theorem chks_inPlace : (Rows.plansChecksRow.inPlace == Tryd.pinned.checked.prog.inPlace 3) = true := by kernel_rfl
theorem chks_unfollowed : (Rows.plansChecksRow.unfollowed == Tryd.pinned.checked.prog.unfollowed 3) = true := by kernel_rfl
theorem chks_recurses : (Rows.plansChecksRow.recurses == Tryd.pinned.checked.prog.recurses 3) = true := by kernel_rfl
theorem chks_named : (Rows.plansChecksRow.named == Tryd.pinned.checked.prog.varsNamed 3) = true := by kernel_rfl
theorem chks_closed : joinedFacts Tryd.pinned.checked.prog 3 Tryd.f3 (OpenSpec.ofChange Rows.plansChecksSpec).bare Rows.plansChecksRow = true := by
  unfold joinedFacts
  rw [chks_inPlace, chks_unfollowed, chks_recurses, chks_named]
  kernel_rfl
theorem plansChecks_said : Rows.PlansChecksSaid :=
  OpenClaim.holds_of_cond 3 Tryd.f3 rfl rfl rfl rfl rfl rfl rfl ⟨rfl, rfl, rfl, rfl, rfl⟩ rfl rfl rfl rfl rfl (by kernel_rfl) Tryd.func3 chks_closed
    (of_decide_eq_true (by kernel_rfl)) (by unfold Func.isWrapper; first | (rw [if_pos (by decide +kernel)]; kernel_rfl) | (rw [if_neg (by decide +kernel)]; exact ⟨rfl, rfl⟩))
    (fun os started H enc _ F => by rw [OpenClaim.pre_eq_preRow]; exact plansChecks_lifted os started H enc F)
theorem plansChecks_plain (f : FuncId) (fn : Func) (hf : Tryd.pinned.checked.prog.funcNamed "groundling/groundlinglaw22.PlansChecks" = some f) (hfn : Tryd.pinned.checked.prog.funcs[f]? = some fn) :
    false = Tryd.pinned.checked.prog.looks [] ∧ ∀ (j : Nat) t, fn.params[j]? = some t → Tryd.pinned.checked.prog.wantsStandIn t = false := by
  obtain rfl : f = 3 := Option.some.inj ((show Tryd.prog.funcNamed "groundling/groundlinglaw22.PlansChecks" = some 3 by kernel_rfl).symm.trans hf) |>.symm
  obtain rfl : fn = Tryd.f3 := (Option.some.inj (Tryd.func3.symm.trans hfn)).symm
  refine ⟨by kernel_rfl, fun j t ht => ?_⟩
  rw [Tryd.params3] at ht
  obtain rfl : t = 27 := by simpa using Array.mem_of_getElem? ht
  exact (show Tryd.prog.wantsStandIn 27 = false by kernel_rfl)
theorem plansChecks_card : Rows.PlansChecksCardSaid :=
  Claim7.holds_tied_plain_at .later [] _ _ _ _ plansChecks_said (fun _ h => by cases h) (by kernel_rfl) (fun _ h => by cases h) plansChecks_row_tie rfl ⟨rfl, rfl⟩ (by kernel_rfl) rfl plansChecks_plain (by kernel_rfl)
end Go.Proofs.YtfcfglpkgcheiaaDoor
