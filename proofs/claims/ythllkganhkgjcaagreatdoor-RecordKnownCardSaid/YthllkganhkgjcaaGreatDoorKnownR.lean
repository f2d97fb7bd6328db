/- RecordKnown answers true, whatever the world it is called in. The package variables are listed (the card ties them); the walk reads one of them. -/
import Derived.Test.YthllkganhkgjcaaGreatDoorWalkR
import Derived.Test.YthllkganhkgjcaaGreatDoorFactsR
import Derived.Test.YthllkganhkgjcaaGreatDoorCards
import Derived.Test.YthllkganhkgjcaaGreatDoorTie
import Derived.WalkKit
import Derived.ProofKit
import Derived.OpenShut
import Derived.Deep.DeepHandedRow
import Derived.Lib.LaidTab
namespace Go.Proofs.YthllkganhkgjcaaGreatDoor
open Go Go.Eng Go.ChangeShapes Go.WideShapes Go.ChangeAt Go.RowKit
set_option linter.unusedVariables false

/-- the cells that the listed tables hold -/
noncomputable def firstCells : List Value := match Go.Pinned.utf8First with
  | .agg l => l.map fun d => match d with
    | .lit (.int k n) => Value.int k n
    | _ => .nilFunc
  | _ => []
noncomputable def rangeCells : List Value := (([128, 191, 160, 191, 128, 159, 144, 191, 128, 143] ++ List.replicate 22 0 : List Int)).map (Value.int .u8)
noncomputable def setCells (cs : List Value) : Obj → Obj
  | .cells _ t frozen => .cells cs.toArray t frozen
  | o => o
/-- a world for the witness -/
noncomputable def laidWorld (os : Os) : World :=
  { World.holding Tryz.prog os ⟨#[], #[], []⟩ with heap := (((World.holding Tryz.prog os ⟨#[], #[], []⟩).heap.modify 1 (setCells firstCells)).modify 2 (setCells rangeCells)).modify 0 (setCells usesV) }

theorem recordKnown_met (os : Os) : laidMet Tryz.prog Rows.recordKnownRow.laid ((laidWorld os).forCall (fun _ _ => 0) ⟨#[], #[], []⟩).memory :=
  laidMet_of_run' 8 (by kernel_rfl) (by kernel_rfl)
theorem recordKnown_reads (os : Os) {H : Type} (enc : TypeId × Value → H) : ∃ places, DataW.whole enc Tryz.prog ((laidWorld os).forCall (fun _ _ => 0) ⟨#[], #[], []⟩).memory Tryz.f5.params.toList Rows.recordKnownSpec.vars false (#[] : Array Value).toList 8 = some ([], [], places) :=
  ⟨[], by kernel_rfl⟩
set_option maxRecDepth 100000 in
theorem gUses : Tryz.prog.globalNamed "groundling/plans.uses" = some 0 := by kernel_rfl
theorem tUses : (Tryz.prog.globals[0]?).map (·.type) = some 245 := by kernel_rfl
theorem cUses : Tryz.prog.cellsOf 245 = 13 := by kernel_rfl
theorem cInt : Tryz.prog.cellsOf 3 = 1 := by kernel_rfl
theorem uses_laid {W : World} (h : laidMetH Tryz.prog Rows.recordKnownRow.laid W) : LaidG [(0, usesV)] W.heap := by
  rw [MakeChecks.laidMetH_plain _ _ _ (by kernel_rfl)] at h
  obtain ⟨ps, ⟨_, _, _, _, _, _, _, _, _, _, ⟨g, t, cs, fuel, p, q, hg, ht, hvar, hd, _, _⟩, _⟩, _⟩ := h
  obtain rfl := Option.some.inj (gUses.symm.trans hg)
  obtain rfl := Option.some.inj (tUses.symm.trans ht)
  have hd' : DataW.trod (fun _ => ()) Tryz.prog W 0 (fun _ => true) false fuel 245 cs.toList = some (Lib.tabData .i64 usesL, p) := hd
  have hcs := Lib.cells_of_tab Tryz.underlying245 Tryz.underlying3 cInt cUses hd'
  have hc : ∀ (i : Nat) (v : Value), usesV[i]? = some v → W.cell? ⟨0, i, none⟩ = some v := fun i v hv => by
    have := World.var?_cell gUses hvar i
    rw [this, ← Array.getElem?_toList, hcs]
    exact hv
  have h0 := hc 0 (.int .i64 0) rfl
  unfold World.cell? at h0
  split at h0
  · rename_i c t fr hh
    intro x hx
    obtain rfl : x = (0, usesV) := by simpa using hx
    refine ⟨c, t, fr, hh, fun i v hv => ⟨?_, ?_⟩⟩
    · have h1 := hc i v hv
      unfold World.cell? at h1
      simp only [hh] at h1
      exact h1
    · obtain ⟨n, _, rfl⟩ := List.mem_map.1 (List.mem_of_getElem? hv)
      rfl
  · cases h0
set_option maxRecDepth 100000 in
theorem recordKnown_contract (H : Type) (enc : TypeId × Value → H) (W : World) (base : Nat) (args : Array Value) (ds gs : List (DataW H)) (before : List MemPlace)
    (hW : DataW.Whole enc Tryz.prog Tryz.f5.params.toList Rows.recordKnownSpec.vars false W args.toList ds gs before) (hL : laidMetH Tryz.prog Rows.recordKnownRow.laid W) :
    Calls Tryz.prog 5 args W fun e W' => ∃ v, e = .returned v ∧ Rows.recordKnownSpec.post enc Tryz.prog Tryz.f5 false true false false W args v W' := by
  have hW' := hW
  obtain ⟨p, q, hA0, hV, rfl, hfz, hnd⟩ := hW
  have hA : DataW.TrodAll enc Tryz.prog W 0 (fun _ => true) true Tryz.f5.params.toList args.toList ds p := hA0
  rw [Tryz.params5] at hA
  obtain ⟨hargs, rfl, rfl⟩ := trodAll_nil hA
  obtain rfl : args = #[] := by cases args; simp_all
  obtain ⟨rfl, rfl⟩ := trodVars_none hV
  clear hA0
  simp only [List.append_nil] at hW'
  refine (recordKnown_walk W (uses_laid hL)).mono fun e W' ⟨he, hg⟩ => ?_
  subst he
  exact ⟨_, rfl, post_of_same (pa := []) (pv := []) hW' (fun _ _ _ => trodAll_cons_mk (shut_bool Tryz.underlying4 _) trodAll_mk0) (fun _ _ => trodAll_mk0) (fun _ _ => rfl) rfl
    (hg.frame _) hg.2.1 (ok_one (by kernel_rfl) rfl (okWide_bool_mk Tryz.underlying4 _))⟩
set_option maxRecDepth 100000 in
theorem recordKnown_lifted (os : Os) (started : os.Started) (H : Type) (enc : TypeId × Value → H) (F : Stop.Interp) :
    ReturnsInHanded {} Tryz.checked os 5 .any ((OpenSpec.ofChange Rows.recordKnownSpec).preRow enc Tryz.prog Tryz.f5 Rows.recordKnownRow.domain false Rows.recordKnownRow.laid) (((OpenSpec.ofChange Rows.recordKnownSpec).at F).post enc Tryz.prog Tryz.f5 false true false false) := by
  obtain ⟨places, hx⟩ := recordKnown_reads os enc
  refine returnsInHanded_of_row (C := Tryz.checked) (s := OpenSpec.ofChange Rows.recordKnownSpec) own started (by kernel_rfl) Tryz.func5
    (witness_row_at (enc := enc) (C := Tryz.checked) false (laidWorld os) #[] rfl (by kernel_rfl) (by kernel_rfl) (by kernel_rfl)
      (OpenSpec.preRow_of_cond 8 hx (by kernel_rfl) (fun k hk => by cases hk) (by kernel_rfl) (recordKnown_met os))) ?_
  intro W base args ds gs before hval hW _ _ _ hL _ _
  exact recordKnown_contract H enc W base args ds gs before hW hL
theorem recordKnown_said : Rows.RecordKnownSaid :=
  OpenClaim.holds_of_cond 5 Tryz.f5 rfl rfl rfl rfl rfl rfl rfl ⟨rfl, rfl, rfl, rfl, rfl⟩ rfl rfl rfl rfl rfl (by kernel_rfl) Tryz.func5 known_closed
    (of_decide_eq_true (by kernel_rfl)) (by unfold Func.isWrapper; first | (rw [if_pos (by decide +kernel)]; kernel_rfl) | (rw [if_neg (by decide +kernel)]; exact ⟨rfl, rfl⟩))
    (fun os started H enc _ F => by rw [OpenClaim.pre_eq_preRow]; exact recordKnown_lifted os started H enc F)
theorem recordKnown_plain (f : FuncId) (fn : Func) (hf : Tryz.pinned.checked.prog.funcNamed "groundling/groundlinglaw29.RecordKnown" = some f) (hfn : Tryz.pinned.checked.prog.funcs[f]? = some fn) :
    true = Tryz.pinned.checked.prog.looks [] ∧ ∀ (j : Nat) t, fn.params[j]? = some t → Tryz.pinned.checked.prog.wantsStandIn t = false := by
  obtain rfl : f = 5 := Option.some.inj ((show Tryz.prog.funcNamed "groundling/groundlinglaw29.RecordKnown" = some 5 by kernel_rfl).symm.trans hf) |>.symm
  obtain rfl : fn = Tryz.f5 := (Option.some.inj (Tryz.func5.symm.trans hfn)).symm
  refine ⟨by kernel_rfl, fun j t ht => ?_⟩
  rw [Tryz.params5] at ht
  simp at ht
theorem recordKnown_card : Rows.RecordKnownCardSaid :=
  Claim7.holds_tied_plain_at .later [] _ _ _ _ recordKnown_said (fun _ h => by cases h) (by kernel_rfl) (fun _ h => by cases h) recordKnown_row_tie rfl ⟨rfl, rfl⟩ (by kernel_rfl) rfl recordKnown_plain (by kernel_rfl)
end Go.Proofs.YthllkganhkgjcaaGreatDoor
