/-
  DERIVED. GIVEN WITH THE SEED: THE CARDS: each row of YtmaoneengdafhaaGreatDoorRows.lean that lists a variable, with what it lists TIED to the program's text (the seventh form; the later family's looks); each row that meets fmt, with fmt's text TOLD by the authors' own Lean function (tested against real Go, not proved from fmt's source: count such statements apart). THE CARD IS WHAT COUNTS. Prove the row's statement (the work); the ties are given (YtmaoneengdafhaaGreatDoorTie.lean); close each card by the builder's one call (the guide's Derived/Test/ToyasCard.lean, 'card_holds'). Laid BY PROGRAM, IN A SANDBOX (cutbox-door.mjs). By AI agents, Wed Nov 11 2026. No macro, syntax, notation, axiom, sorry.
-/
import Derived.Test.YtmaoneengdafhaaGreatDoorRows
import GoSem.ClaimSeven
namespace Go.Proofs.YtmaoneengdafhaaGreatDoor
namespace Rows

/-- THE TIED CARD OF 'groundlinglaw24.HistoryWitness'. -/
def historyWitnessCard : Claim7 := { stood := { row := historyWitnessRow, standIns := [], harness := (true, "86c437c471adcc11337b9ceab18113d161b5d5bcd966f416947f4e839f1e9d9c"), looks := false }, kinds := [], alts := [], laidByText := true, laidKinds := [.data, .data, .data, .data, .data, .pinned], laidTests := true, laidLooks := .later }
def HistoryWitnessCardSaid : Prop := Claim7.holds Tryz.pinned (.plain (OpenSpec.ofChange historyWitnessSpec)) historyWitnessCard

/-- THE TIED CARD OF 'groundlinglaw24.HistoryWidens'. -/
def historyWidensCard : Claim7 := { stood := { row := historyWidensRow, standIns := [], harness := (true, "86c437c471adcc11337b9ceab18113d161b5d5bcd966f416947f4e839f1e9d9c"), looks := false }, kinds := [], alts := [], laidByText := true, laidKinds := [.data, .data, .data, .data, .data, .pinned], laidTests := true, laidLooks := .later }
def HistoryWidensCardSaid : Prop := Claim7.holds Tryz.pinned (.plain (OpenSpec.ofChange historyWidensSpec)) historyWidensCard

/-- THE TIED CARD OF 'groundlinglaw24.HistoryPlain'. -/
def historyPlainCard : Claim7 := { stood := { row := historyPlainRow, standIns := [], harness := (true, "86c437c471adcc11337b9ceab18113d161b5d5bcd966f416947f4e839f1e9d9c"), looks := false }, kinds := [], alts := [], laidByText := true, laidKinds := [.data, .data, .data, .data, .data, .pinned], laidTests := true, laidLooks := .later }
def HistoryPlainCardSaid : Prop := Claim7.holds Tryz.pinned (.plain (OpenSpec.ofChange historyPlainSpec)) historyPlainCard

/-- THE SECOND FORM's CARD OF 'groundlinglaw24.HistoryWitness'. -/
def historyWitnessUptoCard : Claim7 := { stood := { row := historyWitnessUptoRow, standIns := [], harness := (true, "86c437c471adcc11337b9ceab18113d161b5d5bcd966f416947f4e839f1e9d9c"), looks := false }, kinds := [], alts := [], laidByText := true, laidKinds := [.data, .data, .data, .data, .data, .pinned], laidTests := true, laidLooks := .later }
def HistoryWitnessUptoCardSaid : Prop := Claim7.holds Tryz.pinned (.plain (OpenSpec.upto historyWitnessSpec)) historyWitnessUptoCard

/-- THE SECOND FORM's CARD OF 'groundlinglaw24.HistoryWidens'. -/
def historyWidensUptoCard : Claim7 := { stood := { row := historyWidensUptoRow, standIns := [], harness := (true, "86c437c471adcc11337b9ceab18113d161b5d5bcd966f416947f4e839f1e9d9c"), looks := false }, kinds := [], alts := [], laidByText := true, laidKinds := [.data, .data, .data, .data, .data, .pinned], laidTests := true, laidLooks := .later }
def HistoryWidensUptoCardSaid : Prop := Claim7.holds Tryz.pinned (.plain (OpenSpec.upto historyWidensSpec)) historyWidensUptoCard

/-- THE SECOND FORM's CARD OF 'groundlinglaw24.HistoryPlain'. -/
def historyPlainUptoCard : Claim7 := { stood := { row := historyPlainUptoRow, standIns := [], harness := (true, "86c437c471adcc11337b9ceab18113d161b5d5bcd966f416947f4e839f1e9d9c"), looks := false }, kinds := [], alts := [], laidByText := true, laidKinds := [.data, .data, .data, .data, .data, .pinned], laidTests := true, laidLooks := .later }
def HistoryPlainUptoCardSaid : Prop := Claim7.holds Tryz.pinned (.plain (OpenSpec.upto historyPlainSpec)) historyPlainUptoCard
end Rows
end Go.Proofs.YtmaoneengdafhaaGreatDoor
