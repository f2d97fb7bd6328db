/-
  DERIVED. GIVEN WITH THE SEED: THE CARDS: each row of YtnigceddndemkaaGreatDoorRows.lean that lists a variable, with what it lists TIED to the program's text (the seventh form; the later family's looks); each row that meets fmt, with fmt's text TOLD by the authors' own Lean function (tested against real Go, not proved from fmt's source: count such statements apart). THE CARD IS WHAT COUNTS. Prove the row's statement (the work); the ties are given (YtnigceddndemkaaGreatDoorTie.lean); close each card by the builder's one call (the guide's Derived/Test/ToyasCard.lean, 'card_holds'). Laid BY PROGRAM, IN A SANDBOX (cutbox-door.mjs). By AI agents, Wed Nov 11 2026. No macro, syntax, notation, axiom, sorry.
-/
import Derived.Test.YtnigceddndemkaaGreatDoorRows
import GoSem.ClaimSeven
namespace Go.Proofs.YtnigceddndemkaaGreatDoor
namespace Rows

/-- THE TIED CARD OF 'groundlinglaw18.ShardsParts'. -/
def shardsPartsCard : Claim7 := { stood := { row := shardsPartsRow, standIns := [], harness := (true, "d53ee90e472034d3b8e7d332d7dd53ff4cc083879ffd7409d829cd46e5dbe5b7"), looks := true }, kinds := [], alts := [], laidByText := true, laidKinds := [.data, .pinned], laidTests := true, laidLooks := .later }
def ShardsPartsCardSaid : Prop := Claim7.holds Tryz.pinned (.plain (OpenSpec.ofChange shardsPartsSpec)) shardsPartsCard

/-- THE TIED CARD OF 'groundlinglaw18.ShardsExpire'. -/
def shardsExpireCard : Claim7 := { stood := { row := shardsExpireRow, standIns := [], harness := (true, "d53ee90e472034d3b8e7d332d7dd53ff4cc083879ffd7409d829cd46e5dbe5b7"), looks := true }, kinds := [], alts := [], laidByText := true, laidKinds := [.data, .pinned], laidTests := true, laidLooks := .later }
def ShardsExpireCardSaid : Prop := Claim7.holds Tryz.pinned (.plain (OpenSpec.ofChange shardsExpireSpec)) shardsExpireCard

/-- THE TIED CARD OF 'groundlinglaw18.ShardsLoads'. -/
def shardsLoadsCard : Claim7 := { stood := { row := shardsLoadsRow, standIns := [], harness := (true, "d53ee90e472034d3b8e7d332d7dd53ff4cc083879ffd7409d829cd46e5dbe5b7"), looks := true }, kinds := [], alts := [], laidByText := true, laidKinds := [.data, .pinned], laidTests := true, laidLooks := .later }
def ShardsLoadsCardSaid : Prop := Claim7.holds Tryz.pinned (.plain (OpenSpec.ofChange shardsLoadsSpec)) shardsLoadsCard

/-- THE TIED CARD OF 'groundlinglaw18.ShardsAny'. -/
def shardsAnyCard : Claim7 := { stood := { row := shardsAnyRow, standIns := [], harness := (true, "d53ee90e472034d3b8e7d332d7dd53ff4cc083879ffd7409d829cd46e5dbe5b7"), looks := true }, kinds := [], alts := [], laidByText := true, laidKinds := [.data, .pinned], laidTests := true, laidLooks := .later }
def ShardsAnyCardSaid : Prop := Claim7.holds Tryz.pinned (.plain (OpenSpec.ofChange shardsAnySpec)) shardsAnyCard

/-- THE TIED CARD OF 'groundlinglaw18.ShardsPlays'. -/
def shardsPlaysCard : Claim7 := { stood := { row := shardsPlaysRow, standIns := [], harness := (true, "d53ee90e472034d3b8e7d332d7dd53ff4cc083879ffd7409d829cd46e5dbe5b7"), looks := true }, kinds := [], alts := [], laidByText := true, laidKinds := [.data, .pinned], laidTests := true, laidLooks := .later }
def ShardsPlaysCardSaid : Prop := Claim7.holds Tryz.pinned (.plain (OpenSpec.ofChange shardsPlaysSpec)) shardsPlaysCard

/-- THE TIED CARD OF 'groundlinglaw24.HistoryPairs'. -/
def historyPairsCard : Claim7 := { stood := { row := historyPairsRow, standIns := [], harness := (true, "d53ee90e472034d3b8e7d332d7dd53ff4cc083879ffd7409d829cd46e5dbe5b7"), looks := true }, kinds := [], alts := [], laidByText := true, laidKinds := [.data, .data, .data, .data, .data, .pinned], laidTests := true, laidLooks := .later }
def HistoryPairsCardSaid : Prop := Claim7.holds Tryz.pinned (.plain (OpenSpec.ofChange historyPairsSpec)) historyPairsCard

/-- THE TIED CARD OF 'groundlinglaw24.HistoryIntervals'. -/
def historyIntervalsCard : Claim7 := { stood := { row := historyIntervalsRow, standIns := [], harness := (true, "d53ee90e472034d3b8e7d332d7dd53ff4cc083879ffd7409d829cd46e5dbe5b7"), looks := true }, kinds := [], alts := [], laidByText := true, laidKinds := [.data, .data, .data, .data, .data, .pinned], laidTests := true, laidLooks := .later }
def HistoryIntervalsCardSaid : Prop := Claim7.holds Tryz.pinned (.plain (OpenSpec.ofChange historyIntervalsSpec)) historyIntervalsCard

/-- THE TIED CARD OF 'groundlinglaw24.HistoryChecks'. -/
def historyChecksCard : Claim7 := { stood := { row := historyChecksRow, standIns := [], harness := (true, "d53ee90e472034d3b8e7d332d7dd53ff4cc083879ffd7409d829cd46e5dbe5b7"), looks := true }, kinds := [], alts := [], laidByText := true, laidKinds := [.data, .data, .data, .data, .data, .pinned], laidTests := true, laidLooks := .later }
def HistoryChecksCardSaid : Prop := Claim7.holds Tryz.pinned (.plain (OpenSpec.ofChange historyChecksSpec)) historyChecksCard

/-- THE TIED CARD OF 'groundlinglaw24.HistoryCuts'. -/
def historyCutsCard : Claim7 := { stood := { row := historyCutsRow, standIns := [], harness := (true, "d53ee90e472034d3b8e7d332d7dd53ff4cc083879ffd7409d829cd46e5dbe5b7"), looks := true }, kinds := [], alts := [], laidByText := true, laidKinds := [.data, .data, .data, .data, .data, .pinned], laidTests := true, laidLooks := .later }
def HistoryCutsCardSaid : Prop := Claim7.holds Tryz.pinned (.plain (OpenSpec.ofChange historyCutsSpec)) historyCutsCard

/-- THE TIED CARD OF 'groundlinglaw24.HistoryWitness'. -/
def historyWitnessCard : Claim7 := { stood := { row := historyWitnessRow, standIns := [], harness := (true, "d53ee90e472034d3b8e7d332d7dd53ff4cc083879ffd7409d829cd46e5dbe5b7"), looks := true }, kinds := [], alts := [], laidByText := true, laidKinds := [.data, .data, .data, .data, .data, .pinned], laidTests := true, laidLooks := .later }
def HistoryWitnessCardSaid : Prop := Claim7.holds Tryz.pinned (.plain (OpenSpec.ofChange historyWitnessSpec)) historyWitnessCard

/-- THE TIED CARD OF 'groundlinglaw24.HistoryWidens'. -/
def historyWidensCard : Claim7 := { stood := { row := historyWidensRow, standIns := [], harness := (true, "d53ee90e472034d3b8e7d332d7dd53ff4cc083879ffd7409d829cd46e5dbe5b7"), looks := true }, kinds := [], alts := [], laidByText := true, laidKinds := [.data, .data, .data, .data, .data, .pinned], laidTests := true, laidLooks := .later }
def HistoryWidensCardSaid : Prop := Claim7.holds Tryz.pinned (.plain (OpenSpec.ofChange historyWidensSpec)) historyWidensCard

/-- THE TIED CARD OF 'groundlinglaw24.HistoryPlain'. -/
def historyPlainCard : Claim7 := { stood := { row := historyPlainRow, standIns := [], harness := (true, "d53ee90e472034d3b8e7d332d7dd53ff4cc083879ffd7409d829cd46e5dbe5b7"), looks := true }, kinds := [], alts := [], laidByText := true, laidKinds := [.data, .data, .data, .data, .data, .pinned], laidTests := true, laidLooks := .later }
def HistoryPlainCardSaid : Prop := Claim7.holds Tryz.pinned (.plain (OpenSpec.ofChange historyPlainSpec)) historyPlainCard

/-- THE SECOND FORM's CARD OF 'groundlinglaw18.ShardsParts'. -/
def shardsPartsUptoCard : Claim7 := { stood := { row := shardsPartsUptoRow, standIns := [], harness := (true, "d53ee90e472034d3b8e7d332d7dd53ff4cc083879ffd7409d829cd46e5dbe5b7"), looks := true }, kinds := [], alts := [], laidByText := true, laidKinds := [.data, .pinned], laidTests := true, laidLooks := .later }
def ShardsPartsUptoCardSaid : Prop := Claim7.holds Tryz.pinned (.plain (OpenSpec.upto shardsPartsSpec)) shardsPartsUptoCard

/-- THE SECOND FORM's CARD OF 'groundlinglaw18.ShardsExpire'. -/
def shardsExpireUptoCard : Claim7 := { stood := { row := shardsExpireUptoRow, standIns := [], harness := (true, "d53ee90e472034d3b8e7d332d7dd53ff4cc083879ffd7409d829cd46e5dbe5b7"), looks := true }, kinds := [], alts := [], laidByText := true, laidKinds := [.data, .pinned], laidTests := true, laidLooks := .later }
def ShardsExpireUptoCardSaid : Prop := Claim7.holds Tryz.pinned (.plain (OpenSpec.upto shardsExpireSpec)) shardsExpireUptoCard

/-- THE SECOND FORM's CARD OF 'groundlinglaw18.ShardsLoads'. -/
def shardsLoadsUptoCard : Claim7 := { stood := { row := shardsLoadsUptoRow, standIns := [], harness := (true, "d53ee90e472034d3b8e7d332d7dd53ff4cc083879ffd7409d829cd46e5dbe5b7"), looks := true }, kinds := [], alts := [], laidByText := true, laidKinds := [.data, .pinned], laidTests := true, laidLooks := .later }
def ShardsLoadsUptoCardSaid : Prop := Claim7.holds Tryz.pinned (.plain (OpenSpec.upto shardsLoadsSpec)) shardsLoadsUptoCard

/-- THE SECOND FORM's CARD OF 'groundlinglaw18.ShardsAny'. -/
def shardsAnyUptoCard : Claim7 := { stood := { row := shardsAnyUptoRow, standIns := [], harness := (true, "d53ee90e472034d3b8e7d332d7dd53ff4cc083879ffd7409d829cd46e5dbe5b7"), looks := true }, kinds := [], alts := [], laidByText := true, laidKinds := [.data, .pinned], laidTests := true, laidLooks := .later }
def ShardsAnyUptoCardSaid : Prop := Claim7.holds Tryz.pinned (.plain (OpenSpec.upto shardsAnySpec)) shardsAnyUptoCard

/-- THE SECOND FORM's CARD OF 'groundlinglaw18.ShardsPlays'. -/
def shardsPlaysUptoCard : Claim7 := { stood := { row := shardsPlaysUptoRow, standIns := [], harness := (true, "d53ee90e472034d3b8e7d332d7dd53ff4cc083879ffd7409d829cd46e5dbe5b7"), looks := true }, kinds := [], alts := [], laidByText := true, laidKinds := [.data, .pinned], laidTests := true, laidLooks := .later }
def ShardsPlaysUptoCardSaid : Prop := Claim7.holds Tryz.pinned (.plain (OpenSpec.upto shardsPlaysSpec)) shardsPlaysUptoCard

/-- THE SECOND FORM's CARD OF 'groundlinglaw24.HistoryPairs'. -/
def historyPairsUptoCard : Claim7 := { stood := { row := historyPairsUptoRow, standIns := [], harness := (true, "d53ee90e472034d3b8e7d332d7dd53ff4cc083879ffd7409d829cd46e5dbe5b7"), looks := true }, kinds := [], alts := [], laidByText := true, laidKinds := [.data, .data, .data, .data, .data, .pinned], laidTests := true, laidLooks := .later }
def HistoryPairsUptoCardSaid : Prop := Claim7.holds Tryz.pinned (.plain (OpenSpec.upto historyPairsSpec)) historyPairsUptoCard

/-- THE SECOND FORM's CARD OF 'groundlinglaw24.HistoryIntervals'. -/
def historyIntervalsUptoCard : Claim7 := { stood := { row := historyIntervalsUptoRow, standIns := [], harness := (true, "d53ee90e472034d3b8e7d332d7dd53ff4cc083879ffd7409d829cd46e5dbe5b7"), looks := true }, kinds := [], alts := [], laidByText := true, laidKinds := [.data, .data, .data, .data, .data, .pinned], laidTests := true, laidLooks := .later }
def HistoryIntervalsUptoCardSaid : Prop := Claim7.holds Tryz.pinned (.plain (OpenSpec.upto historyIntervalsSpec)) historyIntervalsUptoCard

/-- THE SECOND FORM's CARD OF 'groundlinglaw24.HistoryChecks'. -/
def historyChecksUptoCard : Claim7 := { stood := { row := historyChecksUptoRow, standIns := [], harness := (true, "d53ee90e472034d3b8e7d332d7dd53ff4cc083879ffd7409d829cd46e5dbe5b7"), looks := true }, kinds := [], alts := [], laidByText := true, laidKinds := [.data, .data, .data, .data, .data, .pinned], laidTests := true, laidLooks := .later }
def HistoryChecksUptoCardSaid : Prop := Claim7.holds Tryz.pinned (.plain (OpenSpec.upto historyChecksSpec)) historyChecksUptoCard

/-- THE SECOND FORM's CARD OF 'groundlinglaw24.HistoryCuts'. -/
def historyCutsUptoCard : Claim7 := { stood := { row := historyCutsUptoRow, standIns := [], harness := (true, "d53ee90e472034d3b8e7d332d7dd53ff4cc083879ffd7409d829cd46e5dbe5b7"), looks := true }, kinds := [], alts := [], laidByText := true, laidKinds := [.data, .data, .data, .data, .data, .pinned], laidTests := true, laidLooks := .later }
def HistoryCutsUptoCardSaid : Prop := Claim7.holds Tryz.pinned (.plain (OpenSpec.upto historyCutsSpec)) historyCutsUptoCard

/-- THE SECOND FORM's CARD OF 'groundlinglaw24.HistoryWitness'. -/
def historyWitnessUptoCard : Claim7 := { stood := { row := historyWitnessUptoRow, standIns := [], harness := (true, "d53ee90e472034d3b8e7d332d7dd53ff4cc083879ffd7409d829cd46e5dbe5b7"), looks := true }, kinds := [], alts := [], laidByText := true, laidKinds := [.data, .data, .data, .data, .data, .pinned], laidTests := true, laidLooks := .later }
def HistoryWitnessUptoCardSaid : Prop := Claim7.holds Tryz.pinned (.plain (OpenSpec.upto historyWitnessSpec)) historyWitnessUptoCard

/-- THE SECOND FORM's CARD OF 'groundlinglaw24.HistoryWidens'. -/
def historyWidensUptoCard : Claim7 := { stood := { row := historyWidensUptoRow, standIns := [], harness := (true, "d53ee90e472034d3b8e7d332d7dd53ff4cc083879ffd7409d829cd46e5dbe5b7"), looks := true }, kinds := [], alts := [], laidByText := true, laidKinds := [.data, .data, .data, .data, .data, .pinned], laidTests := true, laidLooks := .later }
def HistoryWidensUptoCardSaid : Prop := Claim7.holds Tryz.pinned (.plain (OpenSpec.upto historyWidensSpec)) historyWidensUptoCard

/-- THE SECOND FORM's CARD OF 'groundlinglaw24.HistoryPlain'. -/
def historyPlainUptoCard : Claim7 := { stood := { row := historyPlainUptoRow, standIns := [], harness := (true, "d53ee90e472034d3b8e7d332d7dd53ff4cc083879ffd7409d829cd46e5dbe5b7"), looks := true }, kinds := [], alts := [], laidByText := true, laidKinds := [.data, .data, .data, .data, .data, .pinned], laidTests := true, laidLooks := .later }
def HistoryPlainUptoCardSaid : Prop := Claim7.holds Tryz.pinned (.plain (OpenSpec.upto historyPlainSpec)) historyPlainUptoCard
end Rows
end Go.Proofs.YtnigceddndemkaaGreatDoor
