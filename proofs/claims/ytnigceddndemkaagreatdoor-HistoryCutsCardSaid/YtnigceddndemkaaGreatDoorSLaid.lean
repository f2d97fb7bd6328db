/- The package variables as the text lays them, and a world in which they lie so. -/
import Derived.Test.YtnigceddndemkaaGreatDoorPlainB
import Derived.Test.YtnigceddndemkaaGreatDoorSOk
import Derived.Test.YtnigceddndemkaaGreatDoorCards
import Derived.Test.YtnigceddndemkaaGreatDoorTie
import Derived.WalkKit
import Derived.ProofKit
import Derived.Deep.DeepHandedRow
import Derived.Lib.LaidTab
namespace Go.Proofs.YtnigceddndemkaaGreatDoor
open Go Go.Eng Go.ChangeShapes Go.WideShapes Go.ChangeAt Go.RowKit
set_option linter.unusedVariables false
noncomputable def firstCells : List Value := match Go.Pinned.utf8First with
  | .agg l => l.map fun d => match d with
    | .lit (.int k n) => Value.int k n
    | _ => .nilFunc
  | _ => []
noncomputable def rangeCells : List Value := (([128, 191, 160, 191, 128, 159, 144, 191, 128, 143] ++ List.replicate 22 0 : List Int)).map (Value.int .u8)
noncomputable def setCells (cs : List Value) : Obj → Obj
  | .cells _ t frozen => .cells cs.toArray t frozen
  | o => o
noncomputable def laidWorld (os : Os) : World :=
  { World.holding Tryz.prog os ⟨#[], #[], []⟩ with heap := ((((((World.holding Tryz.prog os ⟨#[], #[], []⟩).heap.modify 5 (setCells firstCells)).modify 6 (setCells rangeCells)).modify 0 (setCells usesV)).modify 1 (setCells pow10V)).modify 3 (setCells bru32V)).modify 4 (setCells bru64V) }
theorem own : ownKnob Tryz.prog.godebug = none := by kernel_rfl
theorem gPow : Tryz.prog.globalNamed "internal/strconv.uint64pow10" = some 1 := by kernel_rfl
theorem gB32 : Tryz.prog.globalNamed "math/bits.deBruijn32tab" = some 3 := by kernel_rfl
theorem gB64 : Tryz.prog.globalNamed "math/bits.deBruijn64tab" = some 4 := by kernel_rfl
theorem gUses : Tryz.prog.globalNamed "groundling/plans.uses" = some 0 := by kernel_rfl
theorem tUses : (Tryz.prog.globals[0]?).map (·.type) = some 319 := by kernel_rfl
theorem tPow : (Tryz.prog.globals[1]?).map (·.type) = some 407 := by kernel_rfl
theorem tB32 : (Tryz.prog.globals[3]?).map (·.type) = some 433 := by kernel_rfl
theorem tB64 : (Tryz.prog.globals[4]?).map (·.type) = some 434 := by kernel_rfl
theorem tab_next {P : Program} {W : World} {name : String} {k : IntKind} {zs : List Int} {rest : List (String × DataW Unit)} {g : Nat} {t e : TypeId} {n : Nat} {ps : List MemPlace}
    (hg : P.globalNamed name = some g) (hty : (P.globals[g]?).map (·.type) = some t) (ht : P.underlying t = some (.array n e)) (he : P.underlying e = some (.int k)) (hce : P.cellsOf e = 1) (hct : P.cellsOf t = n)
    (h : DataW.LaidVars P W ((name, Lib.tabData k zs) :: rest) ps) : W.var? P name = some (zs.map fun z => Value.int k z).toArray ∧ ∃ q, DataW.LaidVars P W rest q := by
  obtain ⟨g', t', cs, fuel, p, q, hg', ht', hvar, hd, hr, _⟩ := h
  obtain rfl := Option.some.inj (hg.symm.trans hg')
  obtain rfl := Option.some.inj (hty.symm.trans ht')
  refine ⟨?_, q, hr⟩
  rw [hvar, ← Lib.cells_of_tab ht he hce hct hd]
theorem laid_of {W : World} {name : String} {g : Nat} {k : IntKind} {zs : List Int} (hg : Tryz.prog.globalNamed name = some g) (hz : 0 < zs.length) (h : W.var? Tryz.prog name = some (zs.map fun z => Value.int k z).toArray) :
    ∃ c t fr, W.heap[g]? = some (.cells c t fr) ∧ ∀ (i : Nat) (v : Value), (zs.map (Value.int k))[i]? = some v → c[i]? = some v ∧ scalar v = true := by
  unfold World.var? at h
  rw [hg, Option.bind_some] at h
  split at h
  · rename_i cs t fr hh
    injection h with h
    subst h
    refine ⟨_, t, fr, hh, fun i v hv => ⟨by simpa using hv, ?_⟩⟩
    obtain ⟨n, _, rfl⟩ := List.mem_map.1 (List.mem_of_getElem? hv)
    rfl
  · cases h
theorem uses_laid {W : World} (h : laidMetH Tryz.prog Rows.historyPairsRow.laid W) : LaidG globW W.heap := by
  rw [MakeChecks.laidMetH_plain _ _ _ (by kernel_rfl)] at h
  obtain ⟨ps, h, _⟩ := h
  obtain ⟨a1, q1, h1⟩ := tab_next (k := .u8) (zs := bru32L) (n := 32) (e := 5) gB32 tB32 Tryz.underlying433 Tryz.underlying5 (by kernel_rfl) (by kernel_rfl) h
  obtain ⟨a2, q2, h2⟩ := tab_next (k := .u8) (zs := bru64L) (n := 64) (e := 5) gB64 tB64 Tryz.underlying434 Tryz.underlying5 (by kernel_rfl) (by kernel_rfl) h1
  obtain ⟨a3, q3, h3⟩ := tab_next (k := .u64) (zs := pow10L) (n := 20) (e := 36) gPow tPow Tryz.underlying407 Tryz.underlying36 (by kernel_rfl) (by kernel_rfl) h2
  obtain ⟨_, _, _, _, _, _, _, _, _, _, h4, _⟩ := h3
  obtain ⟨a5, q5, h5⟩ := tab_next (k := .i64) (zs := useL) (n := 13) (e := 3) gUses tUses Tryz.underlying319 Tryz.underlying3 (by kernel_rfl) (by kernel_rfl) h4
  intro x hx
  have hx2 : x = (0, usesV) ∨ x = (1, pow10V) ∨ x = (3, bru32V) ∨ x = (4, bru64V) := by simpa [globW] using hx
  rcases hx2 with rfl | rfl | rfl | rfl
  · exact laid_of gUses (by decide) a5
  · exact laid_of gPow (by decide) a3
  · exact laid_of gB32 (by decide) a1
  · exact laid_of gB64 (by decide) a2
abbrev hisZ : Value := .agg #[.int .i64 0, .int .i64 0, .int .i64 0, .slice none 0 0, .slice none 0 0]
def hisD {H : Type} : DataW H := .agg [.agg [.lit (.int .i64 0), .lit (.int .i64 0), .lit (.int .i64 0), .nil], .nil]
abbrev venZ : Value := .agg #[.int .i64 0, .int .i64 0, .int .i64 0, .slice none 0 0]
def venD {H : Type} : DataW H := .agg [.lit (.int .i64 0), .lit (.int .i64 0), .lit (.int .i64 0), .nil]
end Go.Proofs.YtnigceddndemkaaGreatDoor
