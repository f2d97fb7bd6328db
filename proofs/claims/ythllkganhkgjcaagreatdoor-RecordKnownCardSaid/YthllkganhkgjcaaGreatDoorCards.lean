/-
  DERIVED. GIVEN WITH THE SEED: THE CARDS: each row of YthllkganhkgjcaaGreatDoorRows.lean that lists a variable, with what it lists TIED to the program's text (the seventh form; the later family's looks); each row that meets fmt, with fmt's text TOLD by the authors' own Lean function (tested against real Go, not proved from fmt's source: count such statements apart). THE CARD IS WHAT COUNTS. Prove the row's statement (the work); the ties are given (YthllkganhkgjcaaGreatDoorTie.lean); close each card by the builder's one call (the guide's Derived/Test/ToyasCard.lean, 'card_holds'). Laid BY PROGRAM, IN A SANDBOX (cutbox-door.mjs). By AI agents, Wed Nov 11 2026. No macro, syntax, notation, axiom, sorry.
-/
import Derived.Test.YthllkganhkgjcaaGreatDoorRows
import GoSem.ClaimSeven
namespace Go.Proofs.YthllkganhkgjcaaGreatDoor
namespace Rows

/-- THE TIED CARD OF 'groundlinglaw18.ShardsKnown'. -/
def shardsKnownCard : Claim7 := { stood := { row := shardsKnownRow, standIns := [], harness := (true, "ecad43d2a0f6f7089668eec63103abe0373a5d72a813dd664a86c250937ea4c2"), looks := true }, kinds := [], alts := [], laidByText := true, laidKinds := [.data, .pinned], laidTests := true, laidLooks := .later }
def ShardsKnownCardSaid : Prop := Claim7.holds Tryz.pinned (.plain (OpenSpec.ofChange shardsKnownSpec)) shardsKnownCard

/-- THE TIED CARD OF 'groundlinglaw18.ShardsNone'. -/
def shardsNoneCard : Claim7 := { stood := { row := shardsNoneRow, standIns := [], harness := (true, "ecad43d2a0f6f7089668eec63103abe0373a5d72a813dd664a86c250937ea4c2"), looks := true }, kinds := [], alts := [], laidByText := true, laidKinds := [.data, .pinned], laidTests := true, laidLooks := .later }
def ShardsNoneCardSaid : Prop := Claim7.holds Tryz.pinned (.plain (OpenSpec.ofChange shardsNoneSpec)) shardsNoneCard

/-- THE TIED CARD OF 'groundlinglaw29.RecordKnown'. -/
def recordKnownCard : Claim7 := { stood := { row := recordKnownRow, standIns := [], harness := (true, "ecad43d2a0f6f7089668eec63103abe0373a5d72a813dd664a86c250937ea4c2"), looks := true }, kinds := [], alts := [], laidByText := true, laidKinds := [.data, .data, .pinned], laidTests := true, laidLooks := .later }
def RecordKnownCardSaid : Prop := Claim7.holds Tryz.pinned (.plain (OpenSpec.ofChange recordKnownSpec)) recordKnownCard

/-- THE TIED CARD OF 'groundlinglaw26.OfficeKnown'. -/
def officeKnownCard : Claim7 := { stood := { row := officeKnownRow, standIns := [], harness := (true, "ecad43d2a0f6f7089668eec63103abe0373a5d72a813dd664a86c250937ea4c2"), looks := true }, kinds := [], alts := [], laidByText := true, laidKinds := [.data, .data, .pinned], laidTests := true, laidLooks := .later }
def OfficeKnownCardSaid : Prop := Claim7.holds Tryz.pinned (.plain (OpenSpec.ofChange officeKnownSpec)) officeKnownCard

/-- THE TIED CARD OF 'groundlinglaw26.OfficeNone'. -/
def officeNoneCard : Claim7 := { stood := { row := officeNoneRow, standIns := [], harness := (true, "ecad43d2a0f6f7089668eec63103abe0373a5d72a813dd664a86c250937ea4c2"), looks := true }, kinds := [], alts := [], laidByText := true, laidKinds := [.data, .data, .pinned], laidTests := true, laidLooks := .later }
def OfficeNoneCardSaid : Prop := Claim7.holds Tryz.pinned (.plain (OpenSpec.ofChange officeNoneSpec)) officeNoneCard

/-- THE SECOND FORM's CARD OF 'groundlinglaw18.ShardsKnown'. -/
def shardsKnownUptoCard : Claim7 := { stood := { row := shardsKnownUptoRow, standIns := [], harness := (true, "ecad43d2a0f6f7089668eec63103abe0373a5d72a813dd664a86c250937ea4c2"), looks := true }, kinds := [], alts := [], laidByText := true, laidKinds := [.data, .pinned], laidTests := true, laidLooks := .later }
def ShardsKnownUptoCardSaid : Prop := Claim7.holds Tryz.pinned (.plain (OpenSpec.upto shardsKnownSpec)) shardsKnownUptoCard

/-- THE SECOND FORM's CARD OF 'groundlinglaw18.ShardsNone'. -/
def shardsNoneUptoCard : Claim7 := { stood := { row := shardsNoneUptoRow, standIns := [], harness := (true, "ecad43d2a0f6f7089668eec63103abe0373a5d72a813dd664a86c250937ea4c2"), looks := true }, kinds := [], alts := [], laidByText := true, laidKinds := [.data, .pinned], laidTests := true, laidLooks := .later }
def ShardsNoneUptoCardSaid : Prop := Claim7.holds Tryz.pinned (.plain (OpenSpec.upto shardsNoneSpec)) shardsNoneUptoCard

/-- THE SECOND FORM's CARD OF 'groundlinglaw29.RecordKnown'. -/
def recordKnownUptoCard : Claim7 := { stood := { row := recordKnownUptoRow, standIns := [], harness := (true, "ecad43d2a0f6f7089668eec63103abe0373a5d72a813dd664a86c250937ea4c2"), looks := true }, kinds := [], alts := [], laidByText := true, laidKinds := [.data, .data, .pinned], laidTests := true, laidLooks := .later }
def RecordKnownUptoCardSaid : Prop := Claim7.holds Tryz.pinned (.plain (OpenSpec.upto recordKnownSpec)) recordKnownUptoCard

/-- THE SECOND FORM's CARD OF 'groundlinglaw26.OfficeKnown'. -/
def officeKnownUptoCard : Claim7 := { stood := { row := officeKnownUptoRow, standIns := [], harness := (true, "ecad43d2a0f6f7089668eec63103abe0373a5d72a813dd664a86c250937ea4c2"), looks := true }, kinds := [], alts := [], laidByText := true, laidKinds := [.data, .data, .pinned], laidTests := true, laidLooks := .later }
def OfficeKnownUptoCardSaid : Prop := Claim7.holds Tryz.pinned (.plain (OpenSpec.upto officeKnownSpec)) officeKnownUptoCard

/-- THE SECOND FORM's CARD OF 'groundlinglaw26.OfficeNone'. -/
def officeNoneUptoCard : Claim7 := { stood := { row := officeNoneUptoRow, standIns := [], harness := (true, "ecad43d2a0f6f7089668eec63103abe0373a5d72a813dd664a86c250937ea4c2"), looks := true }, kinds := [], alts := [], laidByText := true, laidKinds := [.data, .data, .pinned], laidTests := true, laidLooks := .later }
def OfficeNoneUptoCardSaid : Prop := Claim7.holds Tryz.pinned (.plain (OpenSpec.upto officeNoneSpec)) officeNoneUptoCard
end Rows
end Go.Proofs.YthllkganhkgjcaaGreatDoor
