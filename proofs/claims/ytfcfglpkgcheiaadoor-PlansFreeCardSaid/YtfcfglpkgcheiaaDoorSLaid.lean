/- The package variables as the text lays them, and a world in which they lie so. -/
import Derived.Test.YtfcfglpkgcheiaaDoorPlainA
import Derived.Test.YtfcfglpkgcheiaaDoorSOk
import Derived.Test.YtfcfglpkgcheiaaDoorCards
import Derived.Test.YtfcfglpkgcheiaaDoorTie
import Derived.WalkKit
import Derived.ProofKit
import Derived.Deep.DeepHandedRow
import Derived.Lib.LaidTab
namespace Go.Proofs.YtfcfglpkgcheiaaDoor
open Go Go.Eng Go.ChangeShapes Go.WideShapes Go.ChangeAt Go.RowKit
set_option linter.unusedVariables false
/-- the cells that the listed tables hold -/
noncomputable def firstCells : List Value := match Go.Pinned.utf8First with
  | .agg l => l.map fun d => match d with
    | .lit (.int k n) => Value.int k n
    | _ => .nilFunc
  | _ => []
noncomputable def rangeCells : List Value := (([128, 191, 160, 191, 128, 159, 144, 191, 128, 143] ++ List.replicate 22 0 : List Int)).map (Value.int .u8)
noncomputable def setCells (cs : List Value) : Obj → Obj
  | .cells _ t frozen => .cells cs.toArray t frozen
  | o => o
/-- a world for the witness -/
noncomputable def laidWorld (os : Os) : World :=
  { World.holding Tryd.prog os ⟨#[], #[], []⟩ with heap := (((World.holding Tryd.prog os ⟨#[], #[], []⟩).heap.modify 5 (setCells firstCells)).modify 6 (setCells rangeCells)).modify 0 (setCells usesV) }
theorem gUses : Tryd.prog.globalNamed "groundling/plans.uses" = some 0 := by kernel_rfl
theorem tUses : (Tryd.prog.globals[0]?).map (·.type) = some 73 := by kernel_rfl
theorem cUses : Tryd.prog.cellsOf 73 = 13 := by kernel_rfl
theorem cInt : Tryd.prog.cellsOf 3 = 1 := by kernel_rfl
theorem uses_laid {W : World} (h : laidMetH Tryd.prog Rows.plansChecksRow.laid W) : LaidG [(0, usesV)] W.heap := by
  rw [MakeChecks.laidMetH_plain _ _ _ (by kernel_rfl)] at h
  obtain ⟨ps, ⟨_, _, _, _, _, _, _, _, _, _, ⟨g, t, cs, fuel, p, q, hg, ht, hvar, hd, _, _⟩, _⟩, _⟩ := h
  obtain rfl := Option.some.inj (gUses.symm.trans hg)
  obtain rfl := Option.some.inj (tUses.symm.trans ht)
  have hd' : DataW.trod (fun _ => ()) Tryd.prog W 0 (fun _ => true) false fuel 73 cs.toList = some (Lib.tabData .i64 useL, p) := hd
  have hcs := Lib.cells_of_tab Tryd.underlying73 Tryd.underlying3 cInt cUses hd'
  have hc : ∀ (i : Nat) (v : Value), usesV[i]? = some v → W.cell? ⟨0, i, none⟩ = some v := fun i v hv => by
    have := World.var?_cell gUses hvar i
    rw [this, ← Array.getElem?_toList, hcs]
    exact hv
  have h0 := hc 0 (.int .i64 0) rfl
  unfold World.cell? at h0
  split at h0
  · rename_i c t fr hh
    intro x hx
    obtain rfl : x = (0, usesV) := by simpa using hx
    refine ⟨c, t, fr, hh, fun i v hv => ⟨?_, ?_⟩⟩
    · have h1 := hc i v hv
      unfold World.cell? at h1
      simp only [hh] at h1
      exact h1
    · obtain ⟨n, _, rfl⟩ := List.mem_map.1 (List.mem_of_getElem? hv)
      rfl
  · cases h0
abbrev opZ1 : Value := .agg (opArr 0 0 0 0 0 0 0 0 0 0 0 0)
abbrev venZ : Value := .agg #[.int .i64 0, .int .i64 0, .int .i64 0, .slice none 0 0]
def opD {H : Type} : DataW H := .agg [.lit (.int .i64 0), .lit (.int .u32 0), .lit (.int .i64 0), .lit (.int .i64 0), .lit (.int .i64 0), .lit (.int .i64 0), .lit (.int .u32 0), .agg [.lit (.int .u32 0), .lit (.int .u32 0), .lit (.int .u64 0), .lit (.int .u64 0)], .lit (.int .i64 0)]
def venD {H : Type} : DataW H := .agg [.lit (.int .i64 0), .lit (.int .i64 0), .lit (.int .i64 0), .nil]
end Go.Proofs.YtfcfglpkgcheiaaDoor
