/-
  DERIVED. GIVEN WITH THE SEED: THE CARDS: each row of YtdiifccoaihffaaGreatDoorRows.lean that lists a variable, with what it lists TIED to the program's text (the seventh form; the later family's looks); each row that meets fmt, with fmt's text TOLD by the authors' own Lean function (tested against real Go, not proved from fmt's source: count such statements apart). THE CARD IS WHAT COUNTS. Prove the row's statement (the work); the ties are given (YtdiifccoaihffaaGreatDoorTie.lean); close each card by the builder's one call (the guide's Derived/Test/ToyasCard.lean, 'card_holds'). Laid BY PROGRAM, IN A SANDBOX (cutbox-door.mjs). By AI agents, Wed Nov 11 2026. No macro, syntax, notation, axiom, sorry.
-/
import Derived.Test.YtdiifccoaihffaaGreatDoorRows
import GoSem.ClaimSeven
namespace Go.Proofs.YtdiifccoaihffaaGreatDoor
namespace Rows

/-- THE TIED CARD OF 'groundlinglaw26.OfficeKnown'. -/
def officeKnownCard : Claim7 := { stood := { row := officeKnownRow, standIns := [], harness := (true, "e0f7e09e34ee96f541ffd6ec285fd958e34640966b2810fcf4be36740e951672"), looks := true }, kinds := [], alts := [], laidByText := true, laidKinds := [.data, .data, .pinned], laidTests := true, laidLooks := .later }
def OfficeKnownCardSaid : Prop := Claim7.holds Tryz.pinned (.plain (OpenSpec.ofChange officeKnownSpec)) officeKnownCard

/-- THE TIED CARD OF 'groundlinglaw26.OfficeMoves'. -/
def officeMovesCard : Claim7 := { stood := { row := officeMovesRow, standIns := [], harness := (true, "e0f7e09e34ee96f541ffd6ec285fd958e34640966b2810fcf4be36740e951672"), looks := true }, kinds := [], alts := [], laidByText := true, laidKinds := [.data, .data, .pinned], laidTests := true, laidLooks := .later }
def OfficeMovesCardSaid : Prop := Claim7.holds Tryz.pinned (.plain (OpenSpec.ofChange officeMovesSpec)) officeMovesCard

/-- THE TIED CARD OF 'groundlinglaw26.OfficePlays'. -/
def officePlaysCard : Claim7 := { stood := { row := officePlaysRow, standIns := [], harness := (true, "e0f7e09e34ee96f541ffd6ec285fd958e34640966b2810fcf4be36740e951672"), looks := true }, kinds := [], alts := [], laidByText := true, laidKinds := [.data, .data, .pinned], laidTests := true, laidLooks := .later }
def OfficePlaysCardSaid : Prop := Claim7.holds Tryz.pinned (.plain (OpenSpec.ofChange officePlaysSpec)) officePlaysCard

/-- THE TIED CARD OF 'groundlinglaw26.OfficeGuards'. -/
def officeGuardsCard : Claim7 := { stood := { row := officeGuardsRow, standIns := [], harness := (true, "e0f7e09e34ee96f541ffd6ec285fd958e34640966b2810fcf4be36740e951672"), looks := true }, kinds := [], alts := [], laidByText := true, laidKinds := [.data, .data, .pinned], laidTests := true, laidLooks := .later }
def OfficeGuardsCardSaid : Prop := Claim7.holds Tryz.pinned (.plain (OpenSpec.ofChange officeGuardsSpec)) officeGuardsCard

/-- THE TIED CARD OF 'groundlinglaw26.OfficeNone'. -/
def officeNoneCard : Claim7 := { stood := { row := officeNoneRow, standIns := [], harness := (true, "e0f7e09e34ee96f541ffd6ec285fd958e34640966b2810fcf4be36740e951672"), looks := true }, kinds := [], alts := [], laidByText := true, laidKinds := [.data, .data, .pinned], laidTests := true, laidLooks := .later }
def OfficeNoneCardSaid : Prop := Claim7.holds Tryz.pinned (.plain (OpenSpec.ofChange officeNoneSpec)) officeNoneCard

/-- THE TIED CARD OF 'groundlinglaw26.OfficeLoads'. -/
def officeLoadsCard : Claim7 := { stood := { row := officeLoadsRow, standIns := [], harness := (true, "e0f7e09e34ee96f541ffd6ec285fd958e34640966b2810fcf4be36740e951672"), looks := true }, kinds := [], alts := [], laidByText := true, laidKinds := [.data, .data, .pinned], laidTests := true, laidLooks := .later }
def OfficeLoadsCardSaid : Prop := Claim7.holds Tryz.pinned (.plain (OpenSpec.ofChange officeLoadsSpec)) officeLoadsCard

/-- THE TIED CARD OF 'groundlinglaw26.OfficeAgrees'. -/
def officeAgreesCard : Claim7 := { stood := { row := officeAgreesRow, standIns := [], harness := (true, "e0f7e09e34ee96f541ffd6ec285fd958e34640966b2810fcf4be36740e951672"), looks := true }, kinds := [], alts := [], laidByText := true, laidKinds := [.data, .data, .pinned], laidTests := true, laidLooks := .later }
def OfficeAgreesCardSaid : Prop := Claim7.holds Tryz.pinned (.plain (OpenSpec.ofChange officeAgreesSpec)) officeAgreesCard

/-- THE SECOND FORM's CARD OF 'groundlinglaw26.OfficeKnown'. -/
def officeKnownUptoCard : Claim7 := { stood := { row := officeKnownUptoRow, standIns := [], harness := (true, "e0f7e09e34ee96f541ffd6ec285fd958e34640966b2810fcf4be36740e951672"), looks := true }, kinds := [], alts := [], laidByText := true, laidKinds := [.data, .data, .pinned], laidTests := true, laidLooks := .later }
def OfficeKnownUptoCardSaid : Prop := Claim7.holds Tryz.pinned (.plain (OpenSpec.upto officeKnownSpec)) officeKnownUptoCard

/-- THE SECOND FORM's CARD OF 'groundlinglaw26.OfficeMoves'. -/
def officeMovesUptoCard : Claim7 := { stood := { row := officeMovesUptoRow, standIns := [], harness := (true, "e0f7e09e34ee96f541ffd6ec285fd958e34640966b2810fcf4be36740e951672"), looks := true }, kinds := [], alts := [], laidByText := true, laidKinds := [.data, .data, .pinned], laidTests := true, laidLooks := .later }
def OfficeMovesUptoCardSaid : Prop := Claim7.holds Tryz.pinned (.plain (OpenSpec.upto officeMovesSpec)) officeMovesUptoCard

/-- THE SECOND FORM's CARD OF 'groundlinglaw26.OfficePlays'. -/
def officePlaysUptoCard : Claim7 := { stood := { row := officePlaysUptoRow, standIns := [], harness := (true, "e0f7e09e34ee96f541ffd6ec285fd958e34640966b2810fcf4be36740e951672"), looks := true }, kinds := [], alts := [], laidByText := true, laidKinds := [.data, .data, .pinned], laidTests := true, laidLooks := .later }
def OfficePlaysUptoCardSaid : Prop := Claim7.holds Tryz.pinned (.plain (OpenSpec.upto officePlaysSpec)) officePlaysUptoCard

/-- THE SECOND FORM's CARD OF 'groundlinglaw26.OfficeGuards'. -/
def officeGuardsUptoCard : Claim7 := { stood := { row := officeGuardsUptoRow, standIns := [], harness := (true, "e0f7e09e34ee96f541ffd6ec285fd958e34640966b2810fcf4be36740e951672"), looks := true }, kinds := [], alts := [], laidByText := true, laidKinds := [.data, .data, .pinned], laidTests := true, laidLooks := .later }
def OfficeGuardsUptoCardSaid : Prop := Claim7.holds Tryz.pinned (.plain (OpenSpec.upto officeGuardsSpec)) officeGuardsUptoCard

/-- THE SECOND FORM's CARD OF 'groundlinglaw26.OfficeNone'. -/
def officeNoneUptoCard : Claim7 := { stood := { row := officeNoneUptoRow, standIns := [], harness := (true, "e0f7e09e34ee96f541ffd6ec285fd958e34640966b2810fcf4be36740e951672"), looks := true }, kinds := [], alts := [], laidByText := true, laidKinds := [.data, .data, .pinned], laidTests := true, laidLooks := .later }
def OfficeNoneUptoCardSaid : Prop := Claim7.holds Tryz.pinned (.plain (OpenSpec.upto officeNoneSpec)) officeNoneUptoCard

/-- THE SECOND FORM's CARD OF 'groundlinglaw26.OfficeLoads'. -/
def officeLoadsUptoCard : Claim7 := { stood := { row := officeLoadsUptoRow, standIns := [], harness := (true, "e0f7e09e34ee96f541ffd6ec285fd958e34640966b2810fcf4be36740e951672"), looks := true }, kinds := [], alts := [], laidByText := true, laidKinds := [.data, .data, .pinned], laidTests := true, laidLooks := .later }
def OfficeLoadsUptoCardSaid : Prop := Claim7.holds Tryz.pinned (.plain (OpenSpec.upto officeLoadsSpec)) officeLoadsUptoCard

/-- THE SECOND FORM's CARD OF 'groundlinglaw26.OfficeAgrees'. -/
def officeAgreesUptoCard : Claim7 := { stood := { row := officeAgreesUptoRow, standIns := [], harness := (true, "e0f7e09e34ee96f541ffd6ec285fd958e34640966b2810fcf4be36740e951672"), looks := true }, kinds := [], alts := [], laidByText := true, laidKinds := [.data, .data, .pinned], laidTests := true, laidLooks := .later }
def OfficeAgreesUptoCardSaid : Prop := Claim7.holds Tryz.pinned (.plain (OpenSpec.upto officeAgreesSpec)) officeAgreesUptoCard
end Rows
end Go.Proofs.YtdiifccoaihffaaGreatDoor
