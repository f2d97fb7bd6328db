/- The package variables as the text lays them, and a world in which they lie so. -/
import Derived.Test.YthjakbhkmpdblaaGreatDoorPartE
import Derived.Test.YthjakbhkmpdblaaGreatDoorSOk
import Derived.Test.YthjakbhkmpdblaaGreatDoorCards
import Derived.Test.YthjakbhkmpdblaaGreatDoorTie
import Derived.Deep.DeepHandedRow
import Derived.Lib.LaidTab
set_option linter.unusedVariables false
namespace Go.Proofs.YthjakbhkmpdblaaGreatDoor
open Go Go.Eng Go.ChangeShapes Go.WideShapes Go.ChangeAt Go.RowKit
noncomputable def firstCells : List Value := match Go.Pinned.utf8First with
  | .agg l => l.map fun d => match d with
    | .lit (.int k n) => Value.int k n
    | _ => .nilFunc
  | _ => []
noncomputable def rangeCells : List Value := (([128, 191, 160, 191, 128, 159, 144, 191, 128, 143] ++ List.replicate 22 0 : List Int)).map (Value.int .u8)
noncomputable def setCells (cs : List Value) : Obj → Obj
  | .cells _ t frozen => .cells cs.toArray t frozen
  | o => o
noncomputable def laidWorld (os : Os) : World :=
  { World.holding Tryz.prog os ⟨#[], #[], []⟩ with heap := (((World.holding Tryz.prog os ⟨#[], #[], []⟩).heap.modify 1 (setCells firstCells)).modify 2 (setCells rangeCells)).modify 0 (setCells usesV) }
theorem own : ownKnob Tryz.prog.godebug = none := by kernel_rfl
theorem gUses : Tryz.prog.globalNamed "groundling/plans.uses" = some 0 := by kernel_rfl
theorem tUses : (Tryz.prog.globals[0]?).map (·.type) = some 108 := by kernel_rfl
theorem cUses : Tryz.prog.cellsOf 108 = 13 := by kernel_rfl
theorem cInt : Tryz.prog.cellsOf 3 = 1 := by kernel_rfl
theorem uses_laid {W : World} (h : laidMetH Tryz.prog Rows.boundsTurnsRow.laid W) : LaidG globW W.heap := by
  rw [MakeChecks.laidMetH_plain _ _ _ (by kernel_rfl)] at h
  obtain ⟨ps, ⟨_, _, _, _, _, _, _, _, _, _, ⟨g, t, cs, fuel, p, q, hg, ht, hvar, hd, _, _⟩, _⟩, _⟩ := h
  obtain rfl := Option.some.inj (gUses.symm.trans hg)
  obtain rfl := Option.some.inj (tUses.symm.trans ht)
  have hd' : DataW.trod (fun _ => ()) Tryz.prog W 0 (fun _ => true) false fuel 108 cs.toList = some (Lib.tabData .i64 useL, p) := hd
  have hcs := Lib.cells_of_tab Tryz.underlying108 Tryz.underlying3 cInt cUses hd'
  have hc : ∀ (i : Nat) (v : Value), usesV[i]? = some v → W.cell? ⟨0, i, none⟩ = some v := fun i v hv => by
    have := World.var?_cell gUses hvar i
    rw [this, ← Array.getElem?_toList, hcs]
    exact hv
  have h0 := hc 0 (.int .i64 0) rfl
  unfold World.cell? at h0
  split at h0
  · rename_i c t fr hh
    intro x hx
    obtain rfl : x = (0, usesV) := by simpa [globW] using hx
    refine ⟨c, t, fr, hh, fun i v hv => ⟨?_, ?_⟩⟩
    · have h1 := hc i v hv
      unfold World.cell? at h1
      simp only [hh] at h1
      exact h1
    · obtain ⟨n, _, rfl⟩ := List.mem_map.1 (List.mem_of_getElem? hv)
      rfl
  · cases h0
abbrev workZ : Value := .agg #[.int .i64 0, .int .i64 0, .int .i64 0, .slice none 0 0, .int .i64 0, .slice none 0 0, .slice none 0 0, .slice none 0 0]
def venD {H : Type} : DataW H := .agg [.lit (.int .i64 0), .lit (.int .i64 0), .lit (.int .i64 0), .nil]
def workD {H : Type} : DataW H := .agg [.agg [venD, .lit (.int .i64 0), .nil, .nil], .nil]
abbrev venZ : Value := .agg #[.int .i64 0, .int .i64 0, .int .i64 0, .slice none 0 0]
end Go.Proofs.YthjakbhkmpdblaaGreatDoor
