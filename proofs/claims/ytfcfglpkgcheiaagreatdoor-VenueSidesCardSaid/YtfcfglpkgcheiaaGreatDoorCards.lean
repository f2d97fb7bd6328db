/-
  DERIVED. GIVEN WITH THE SEED: THE CARDS: each row of YtfcfglpkgcheiaaGreatDoorRows.lean that lists a variable, with what it lists TIED to the program's text (the seventh form; the later family's looks); each row that meets fmt, with fmt's text TOLD by the authors' own Lean function (tested against real Go, not proved from fmt's source: count such statements apart). THE CARD IS WHAT COUNTS. Prove the row's statement (the work); the ties are given (YtfcfglpkgcheiaaGreatDoorTie.lean); close each card by the builder's one call (the guide's Derived/Test/ToyasCard.lean, 'card_holds'). Laid BY PROGRAM, IN A SANDBOX (cutbox-door.mjs). By AI agents, Wed Nov 11 2026. No macro, syntax, notation, axiom, sorry.
-/
import Derived.Test.YtfcfglpkgcheiaaGreatDoorRows
import GoSem.ClaimSeven
namespace Go.Proofs.YtfcfglpkgcheiaaGreatDoor
namespace Rows

/-- THE TIED CARD OF 'groundlinglaw15.VenueChecks'. -/
def venueChecksCard : Claim7 := { stood := { row := venueChecksRow, standIns := [], harness := (true, "6ef2a0da86ca4b2f138d32b4fb3a2b0f9ded468dd3fee0daa101bea5df33ad4c"), looks := false }, kinds := [], alts := [], laidByText := true, laidKinds := [.data, .data, .data, .data, .pinned], laidTests := true, laidLooks := .later }
def VenueChecksCardSaid : Prop := Claim7.holds Tryz.pinned (.plain (OpenSpec.ofChange venueChecksSpec)) venueChecksCard

/-- THE TIED CARD OF 'groundlinglaw15.VenuePlaces'. -/
def venuePlacesCard : Claim7 := { stood := { row := venuePlacesRow, standIns := [], harness := (true, "6ef2a0da86ca4b2f138d32b4fb3a2b0f9ded468dd3fee0daa101bea5df33ad4c"), looks := false }, kinds := [], alts := [], laidByText := true, laidKinds := [.data, .data, .data, .data, .pinned], laidTests := true, laidLooks := .later }
def VenuePlacesCardSaid : Prop := Claim7.holds Tryz.pinned (.plain (OpenSpec.ofChange venuePlacesSpec)) venuePlacesCard

/-- THE TIED CARD OF 'groundlinglaw15.VenueSides'. -/
def venueSidesCard : Claim7 := { stood := { row := venueSidesRow, standIns := [], harness := (true, "6ef2a0da86ca4b2f138d32b4fb3a2b0f9ded468dd3fee0daa101bea5df33ad4c"), looks := false }, kinds := [], alts := [], laidByText := true, laidKinds := [.data, .data, .data, .data, .pinned], laidTests := true, laidLooks := .later }
def VenueSidesCardSaid : Prop := Claim7.holds Tryz.pinned (.plain (OpenSpec.ofChange venueSidesSpec)) venueSidesCard

/-- THE SECOND FORM's CARD OF 'groundlinglaw15.VenueChecks'. -/
def venueChecksUptoCard : Claim7 := { stood := { row := venueChecksUptoRow, standIns := [], harness := (true, "6ef2a0da86ca4b2f138d32b4fb3a2b0f9ded468dd3fee0daa101bea5df33ad4c"), looks := false }, kinds := [], alts := [], laidByText := true, laidKinds := [.data, .data, .data, .data, .pinned], laidTests := true, laidLooks := .later }
def VenueChecksUptoCardSaid : Prop := Claim7.holds Tryz.pinned (.plain (OpenSpec.upto venueChecksSpec)) venueChecksUptoCard

/-- THE SECOND FORM's CARD OF 'groundlinglaw15.VenuePlaces'. -/
def venuePlacesUptoCard : Claim7 := { stood := { row := venuePlacesUptoRow, standIns := [], harness := (true, "6ef2a0da86ca4b2f138d32b4fb3a2b0f9ded468dd3fee0daa101bea5df33ad4c"), looks := false }, kinds := [], alts := [], laidByText := true, laidKinds := [.data, .data, .data, .data, .pinned], laidTests := true, laidLooks := .later }
def VenuePlacesUptoCardSaid : Prop := Claim7.holds Tryz.pinned (.plain (OpenSpec.upto venuePlacesSpec)) venuePlacesUptoCard

/-- THE SECOND FORM's CARD OF 'groundlinglaw15.VenueSides'. -/
def venueSidesUptoCard : Claim7 := { stood := { row := venueSidesUptoRow, standIns := [], harness := (true, "6ef2a0da86ca4b2f138d32b4fb3a2b0f9ded468dd3fee0daa101bea5df33ad4c"), looks := false }, kinds := [], alts := [], laidByText := true, laidKinds := [.data, .data, .data, .data, .pinned], laidTests := true, laidLooks := .later }
def VenueSidesUptoCardSaid : Prop := Claim7.holds Tryz.pinned (.plain (OpenSpec.upto venueSidesSpec)) venueSidesUptoCard
end Rows
end Go.Proofs.YtfcfglpkgcheiaaGreatDoor
