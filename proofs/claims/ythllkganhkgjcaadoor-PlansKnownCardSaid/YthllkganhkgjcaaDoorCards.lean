/-
  DERIVED. GIVEN WITH THE SEED: THE CARDS: each row of YthllkganhkgjcaaDoorRows.lean that lists a variable, with what it lists TIED to the program's text (the seventh form; the later family's looks); each row that meets fmt, with fmt's text TOLD by the authors' own Lean function (tested against real Go, not proved from fmt's source: count such statements apart). THE CARD IS WHAT COUNTS. Prove the row's statement (the work); the ties are given (YthllkganhkgjcaaDoorTie.lean); close each card by the builder's one call (the guide's Derived/Test/ToyasCard.lean, 'card_holds'). Laid BY PROGRAM, IN A SANDBOX (cutbox-door.mjs). By AI agents, Wed Nov 11 2026. No macro, syntax, notation, axiom, sorry.
-/
import Derived.Test.YthllkganhkgjcaaDoorRows
import GoSem.ClaimSeven
namespace Go.Proofs.YthllkganhkgjcaaDoor
namespace Rows

/-- THE TIED CARD OF 'groundlinglaw22.PlansKnown'. -/
def plansKnownCard : Claim7 := { stood := { row := plansKnownRow, standIns := [], harness := (true, "2a59caa67ee52120ca49edc6ea4eaaade1480ed0e7c1fd4466e97e5b4c80d28c"), looks := false }, kinds := [], alts := [], laidByText := true, laidKinds := [.data, .data, .pinned], laidTests := true, laidLooks := .later }
def PlansKnownCardSaid : Prop := Claim7.holds Tryd.pinned (.plain (OpenSpec.ofChange plansKnownSpec)) plansKnownCard

/-- THE SECOND FORM's CARD OF 'groundlinglaw22.PlansKnown'. -/
def plansKnownUptoCard : Claim7 := { stood := { row := plansKnownUptoRow, standIns := [], harness := (true, "2a59caa67ee52120ca49edc6ea4eaaade1480ed0e7c1fd4466e97e5b4c80d28c"), looks := false }, kinds := [], alts := [], laidByText := true, laidKinds := [.data, .data, .pinned], laidTests := true, laidLooks := .later }
def PlansKnownUptoCardSaid : Prop := Claim7.holds Tryd.pinned (.plain (OpenSpec.upto plansKnownSpec)) plansKnownUptoCard
end Rows
end Go.Proofs.YthllkganhkgjcaaDoor
