/-
  DERIVED. GIVEN WITH THE SEED: THE CARDS: each row of YthjakbhkmpdblaaGreatDoorRows.lean that lists a variable, with what it lists TIED to the program's text (the seventh form; the later family's looks); each row that meets fmt, with fmt's text TOLD by the authors' own Lean function (tested against real Go, not proved from fmt's source: count such statements apart). THE CARD IS WHAT COUNTS. Prove the row's statement (the work); the ties are given (YthjakbhkmpdblaaGreatDoorTie.lean); close each card by the builder's one call (the guide's Derived/Test/ToyasCard.lean, 'card_holds'). Laid BY PROGRAM, IN A SANDBOX (cutbox-door.mjs). By AI agents, Wed Nov 11 2026. No macro, syntax, notation, axiom, sorry.
-/
import Derived.Test.YthjakbhkmpdblaaGreatDoorRows
import GoSem.ClaimSeven
namespace Go.Proofs.YthjakbhkmpdblaaGreatDoor
namespace Rows

/-- THE TIED CARD OF 'groundlinglaw33.BoundsTurns'. -/
def boundsTurnsCard : Claim7 := { stood := { row := boundsTurnsRow, standIns := [], harness := (true, "64474b6042fb0aa3843ca197e10a2509c5f17a1cf3ff8edb7ff8fbab6b329b7b"), looks := true }, kinds := [], alts := [], laidByText := true, laidKinds := [.data, .data, .pinned], laidTests := true, laidLooks := .later }
def BoundsTurnsCardSaid : Prop := Claim7.holds Tryz.pinned (.plain (OpenSpec.ofChange boundsTurnsSpec)) boundsTurnsCard

/-- THE TIED CARD OF 'groundlinglaw33.BoundsKnown'. -/
def boundsKnownCard : Claim7 := { stood := { row := boundsKnownRow, standIns := [], harness := (true, "64474b6042fb0aa3843ca197e10a2509c5f17a1cf3ff8edb7ff8fbab6b329b7b"), looks := true }, kinds := [], alts := [], laidByText := true, laidKinds := [.data, .data, .pinned], laidTests := true, laidLooks := .later }
def BoundsKnownCardSaid : Prop := Claim7.holds Tryz.pinned (.plain (OpenSpec.ofChange boundsKnownSpec)) boundsKnownCard

/-- THE SECOND FORM's CARD OF 'groundlinglaw33.BoundsTurns'. -/
def boundsTurnsUptoCard : Claim7 := { stood := { row := boundsTurnsUptoRow, standIns := [], harness := (true, "64474b6042fb0aa3843ca197e10a2509c5f17a1cf3ff8edb7ff8fbab6b329b7b"), looks := true }, kinds := [], alts := [], laidByText := true, laidKinds := [.data, .data, .pinned], laidTests := true, laidLooks := .later }
def BoundsTurnsUptoCardSaid : Prop := Claim7.holds Tryz.pinned (.plain (OpenSpec.upto boundsTurnsSpec)) boundsTurnsUptoCard

/-- THE SECOND FORM's CARD OF 'groundlinglaw33.BoundsKnown'. -/
def boundsKnownUptoCard : Claim7 := { stood := { row := boundsKnownUptoRow, standIns := [], harness := (true, "64474b6042fb0aa3843ca197e10a2509c5f17a1cf3ff8edb7ff8fbab6b329b7b"), looks := true }, kinds := [], alts := [], laidByText := true, laidKinds := [.data, .data, .pinned], laidTests := true, laidLooks := .later }
def BoundsKnownUptoCardSaid : Prop := Claim7.holds Tryz.pinned (.plain (OpenSpec.upto boundsKnownSpec)) boundsKnownUptoCard
end Rows
end Go.Proofs.YthjakbhkmpdblaaGreatDoor
