/-
  DERIVED. GIVEN WITH THE SEED: THE CARDS: each row of YtekljimefjclgaaGreatDoorRows.lean that lists a variable, with what it lists TIED to the program's text (the seventh form; the later family's looks); each row that meets fmt, with fmt's text TOLD by the authors' own Lean function (tested against real Go, not proved from fmt's source: count such statements apart). THE CARD IS WHAT COUNTS. Prove the row's statement (the work); the ties are given (YtekljimefjclgaaGreatDoorTie.lean); close each card by the builder's one call (the guide's Derived/Test/ToyasCard.lean, 'card_holds'). Laid BY PROGRAM, IN A SANDBOX (cutbox-door.mjs). By AI agents, Wed Nov 11 2026. No macro, syntax, notation, axiom, sorry.
-/
import Derived.Test.YtekljimefjclgaaGreatDoorRows
import GoSem.ClaimSeven
namespace Go.Proofs.YtekljimefjclgaaGreatDoor
namespace Rows

/-- THE TIED CARD OF 'groundlinglaw29.RecordChecks'. -/
def recordChecksCard : Claim7 := { stood := { row := recordChecksRow, standIns := [], harness := (true, "e1e7ec40d889ed2d5b7dd982a96727fa9d182b080f17fd79bb3f5218ddd871ba"), looks := false }, kinds := [], alts := [], laidByText := true, laidKinds := [.data, .data, .pinned], laidTests := true, laidLooks := .later }
def RecordChecksCardSaid : Prop := Claim7.holds Tryz.pinned (.plain (OpenSpec.ofChange recordChecksSpec)) recordChecksCard

/-- THE TIED CARD OF 'groundlinglaw29.RecordLocks'. -/
def recordLocksCard : Claim7 := { stood := { row := recordLocksRow, standIns := [], harness := (true, "e1e7ec40d889ed2d5b7dd982a96727fa9d182b080f17fd79bb3f5218ddd871ba"), looks := false }, kinds := [], alts := [], laidByText := true, laidKinds := [.data, .data, .pinned], laidTests := true, laidLooks := .later }
def RecordLocksCardSaid : Prop := Claim7.holds Tryz.pinned (.plain (OpenSpec.ofChange recordLocksSpec)) recordLocksCard

/-- THE TIED CARD OF 'groundlinglaw29.RecordParts'. -/
def recordPartsCard : Claim7 := { stood := { row := recordPartsRow, standIns := [], harness := (true, "e1e7ec40d889ed2d5b7dd982a96727fa9d182b080f17fd79bb3f5218ddd871ba"), looks := false }, kinds := [], alts := [], laidByText := true, laidKinds := [.data, .data, .pinned], laidTests := true, laidLooks := .later }
def RecordPartsCardSaid : Prop := Claim7.holds Tryz.pinned (.plain (OpenSpec.ofChange recordPartsSpec)) recordPartsCard

/-- THE SECOND FORM's CARD OF 'groundlinglaw29.RecordChecks'. -/
def recordChecksUptoCard : Claim7 := { stood := { row := recordChecksUptoRow, standIns := [], harness := (true, "e1e7ec40d889ed2d5b7dd982a96727fa9d182b080f17fd79bb3f5218ddd871ba"), looks := false }, kinds := [], alts := [], laidByText := true, laidKinds := [.data, .data, .pinned], laidTests := true, laidLooks := .later }
def RecordChecksUptoCardSaid : Prop := Claim7.holds Tryz.pinned (.plain (OpenSpec.upto recordChecksSpec)) recordChecksUptoCard

/-- THE SECOND FORM's CARD OF 'groundlinglaw29.RecordLocks'. -/
def recordLocksUptoCard : Claim7 := { stood := { row := recordLocksUptoRow, standIns := [], harness := (true, "e1e7ec40d889ed2d5b7dd982a96727fa9d182b080f17fd79bb3f5218ddd871ba"), looks := false }, kinds := [], alts := [], laidByText := true, laidKinds := [.data, .data, .pinned], laidTests := true, laidLooks := .later }
def RecordLocksUptoCardSaid : Prop := Claim7.holds Tryz.pinned (.plain (OpenSpec.upto recordLocksSpec)) recordLocksUptoCard

/-- THE SECOND FORM's CARD OF 'groundlinglaw29.RecordParts'. -/
def recordPartsUptoCard : Claim7 := { stood := { row := recordPartsUptoRow, standIns := [], harness := (true, "e1e7ec40d889ed2d5b7dd982a96727fa9d182b080f17fd79bb3f5218ddd871ba"), looks := false }, kinds := [], alts := [], laidByText := true, laidKinds := [.data, .data, .pinned], laidTests := true, laidLooks := .later }
def RecordPartsUptoCardSaid : Prop := Claim7.holds Tryz.pinned (.plain (OpenSpec.upto recordPartsSpec)) recordPartsUptoCard
end Rows
end Go.Proofs.YtekljimefjclgaaGreatDoor
