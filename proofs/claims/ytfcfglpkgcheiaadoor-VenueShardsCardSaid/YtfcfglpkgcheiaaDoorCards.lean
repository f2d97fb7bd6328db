/-
  DERIVED. GIVEN WITH THE SEED: THE CARDS: each row of YtfcfglpkgcheiaaDoorRows.lean that lists a variable, with what it lists TIED to the program's text (the seventh form; the later family's looks); each row that meets fmt, with fmt's text TOLD by the authors' own Lean function (tested against real Go, not proved from fmt's source: count such statements apart). THE CARD IS WHAT COUNTS. Prove the row's statement (the work); the ties are given (YtfcfglpkgcheiaaDoorTie.lean); close each card by the builder's one call (the guide's Derived/Test/ToyasCard.lean, 'card_holds'). Laid BY PROGRAM, IN A SANDBOX (cutbox-door.mjs). By AI agents, Wed Nov 11 2026. No macro, syntax, notation, axiom, sorry.
-/
import Derived.Test.YtfcfglpkgcheiaaDoorRows
import GoSem.ClaimSeven
namespace Go.Proofs.YtfcfglpkgcheiaaDoor
namespace Rows

/-- THE TIED CARD OF 'groundlinglaw22.PlansChecks'. -/
def plansChecksCard : Claim7 := { stood := { row := plansChecksRow, standIns := [], harness := (true, "67840a4674bda15faafe47c78b1901269065962c3bc3407990541e85b7157005"), looks := false }, kinds := [], alts := [], laidByText := true, laidKinds := [.data, .data, .pinned], laidTests := true, laidLooks := .later }
def PlansChecksCardSaid : Prop := Claim7.holds Tryd.pinned (.plain (OpenSpec.ofChange plansChecksSpec)) plansChecksCard

/-- THE TIED CARD OF 'groundlinglaw22.PlansLocks'. -/
def plansLocksCard : Claim7 := { stood := { row := plansLocksRow, standIns := [], harness := (true, "67840a4674bda15faafe47c78b1901269065962c3bc3407990541e85b7157005"), looks := false }, kinds := [], alts := [], laidByText := true, laidKinds := [.data, .data, .pinned], laidTests := true, laidLooks := .later }
def PlansLocksCardSaid : Prop := Claim7.holds Tryd.pinned (.plain (OpenSpec.ofChange plansLocksSpec)) plansLocksCard

/-- THE TIED CARD OF 'groundlinglaw22.PlansSteps'. -/
def plansStepsCard : Claim7 := { stood := { row := plansStepsRow, standIns := [], harness := (true, "67840a4674bda15faafe47c78b1901269065962c3bc3407990541e85b7157005"), looks := false }, kinds := [], alts := [], laidByText := true, laidKinds := [.data, .data, .pinned], laidTests := true, laidLooks := .later }
def PlansStepsCardSaid : Prop := Claim7.holds Tryd.pinned (.plain (OpenSpec.ofChange plansStepsSpec)) plansStepsCard

/-- THE TIED CARD OF 'groundlinglaw22.PlansFree'. -/
def plansFreeCard : Claim7 := { stood := { row := plansFreeRow, standIns := [], harness := (true, "67840a4674bda15faafe47c78b1901269065962c3bc3407990541e85b7157005"), looks := false }, kinds := [], alts := [], laidByText := true, laidKinds := [.data, .data, .pinned], laidTests := true, laidLooks := .later }
def PlansFreeCardSaid : Prop := Claim7.holds Tryd.pinned (.plain (OpenSpec.ofChange plansFreeSpec)) plansFreeCard

/-- THE TIED CARD OF 'groundlinglaw22.PlansConflicts'. -/
def plansConflictsCard : Claim7 := { stood := { row := plansConflictsRow, standIns := [], harness := (true, "67840a4674bda15faafe47c78b1901269065962c3bc3407990541e85b7157005"), looks := false }, kinds := [], alts := [], laidByText := true, laidKinds := [.data, .data, .pinned], laidTests := true, laidLooks := .later }
def PlansConflictsCardSaid : Prop := Claim7.holds Tryd.pinned (.plain (OpenSpec.ofChange plansConflictsSpec)) plansConflictsCard

/-- THE TIED CARD OF 'groundlinglaw22.PlansRounds'. -/
def plansRoundsCard : Claim7 := { stood := { row := plansRoundsRow, standIns := [], harness := (true, "67840a4674bda15faafe47c78b1901269065962c3bc3407990541e85b7157005"), looks := false }, kinds := [], alts := [], laidByText := true, laidKinds := [.data, .data, .pinned], laidTests := true, laidLooks := .later }
def PlansRoundsCardSaid : Prop := Claim7.holds Tryd.pinned (.plain (OpenSpec.ofChange plansRoundsSpec)) plansRoundsCard

/-- THE TIED CARD OF 'groundlinglaw15.VenueInverse'. -/
def venueInverseCard : Claim7 := { stood := { row := venueInverseRow, standIns := [], harness := (true, "67840a4674bda15faafe47c78b1901269065962c3bc3407990541e85b7157005"), looks := false }, kinds := [], alts := [], laidByText := true, laidKinds := [.data, .data, .data, .data, .pinned], laidTests := true, laidLooks := .later }
def VenueInverseCardSaid : Prop := Claim7.holds Tryd.pinned (.plain (OpenSpec.ofChange venueInverseSpec)) venueInverseCard

/-- THE TIED CARD OF 'groundlinglaw15.VenueBeside'. -/
def venueBesideCard : Claim7 := { stood := { row := venueBesideRow, standIns := [], harness := (true, "67840a4674bda15faafe47c78b1901269065962c3bc3407990541e85b7157005"), looks := false }, kinds := [], alts := [], laidByText := true, laidKinds := [.data, .data, .data, .data, .pinned], laidTests := true, laidLooks := .later }
def VenueBesideCardSaid : Prop := Claim7.holds Tryd.pinned (.plain (OpenSpec.ofChange venueBesideSpec)) venueBesideCard

/-- THE TIED CARD OF 'groundlinglaw15.VenueShards'. -/
def venueShardsCard : Claim7 := { stood := { row := venueShardsRow, standIns := [], harness := (true, "67840a4674bda15faafe47c78b1901269065962c3bc3407990541e85b7157005"), looks := false }, kinds := [], alts := [], laidByText := true, laidKinds := [.data, .data, .data, .data, .pinned], laidTests := true, laidLooks := .later }
def VenueShardsCardSaid : Prop := Claim7.holds Tryd.pinned (.plain (OpenSpec.ofChange venueShardsSpec)) venueShardsCard

/-- THE SECOND FORM's CARD OF 'groundlinglaw22.PlansChecks'. -/
def plansChecksUptoCard : Claim7 := { stood := { row := plansChecksUptoRow, standIns := [], harness := (true, "67840a4674bda15faafe47c78b1901269065962c3bc3407990541e85b7157005"), looks := false }, kinds := [], alts := [], laidByText := true, laidKinds := [.data, .data, .pinned], laidTests := true, laidLooks := .later }
def PlansChecksUptoCardSaid : Prop := Claim7.holds Tryd.pinned (.plain (OpenSpec.upto plansChecksSpec)) plansChecksUptoCard

/-- THE SECOND FORM's CARD OF 'groundlinglaw22.PlansLocks'. -/
def plansLocksUptoCard : Claim7 := { stood := { row := plansLocksUptoRow, standIns := [], harness := (true, "67840a4674bda15faafe47c78b1901269065962c3bc3407990541e85b7157005"), looks := false }, kinds := [], alts := [], laidByText := true, laidKinds := [.data, .data, .pinned], laidTests := true, laidLooks := .later }
def PlansLocksUptoCardSaid : Prop := Claim7.holds Tryd.pinned (.plain (OpenSpec.upto plansLocksSpec)) plansLocksUptoCard

/-- THE SECOND FORM's CARD OF 'groundlinglaw22.PlansSteps'. -/
def plansStepsUptoCard : Claim7 := { stood := { row := plansStepsUptoRow, standIns := [], harness := (true, "67840a4674bda15faafe47c78b1901269065962c3bc3407990541e85b7157005"), looks := false }, kinds := [], alts := [], laidByText := true, laidKinds := [.data, .data, .pinned], laidTests := true, laidLooks := .later }
def PlansStepsUptoCardSaid : Prop := Claim7.holds Tryd.pinned (.plain (OpenSpec.upto plansStepsSpec)) plansStepsUptoCard

/-- THE SECOND FORM's CARD OF 'groundlinglaw22.PlansFree'. -/
def plansFreeUptoCard : Claim7 := { stood := { row := plansFreeUptoRow, standIns := [], harness := (true, "67840a4674bda15faafe47c78b1901269065962c3bc3407990541e85b7157005"), looks := false }, kinds := [], alts := [], laidByText := true, laidKinds := [.data, .data, .pinned], laidTests := true, laidLooks := .later }
def PlansFreeUptoCardSaid : Prop := Claim7.holds Tryd.pinned (.plain (OpenSpec.upto plansFreeSpec)) plansFreeUptoCard

/-- THE SECOND FORM's CARD OF 'groundlinglaw22.PlansConflicts'. -/
def plansConflictsUptoCard : Claim7 := { stood := { row := plansConflictsUptoRow, standIns := [], harness := (true, "67840a4674bda15faafe47c78b1901269065962c3bc3407990541e85b7157005"), looks := false }, kinds := [], alts := [], laidByText := true, laidKinds := [.data, .data, .pinned], laidTests := true, laidLooks := .later }
def PlansConflictsUptoCardSaid : Prop := Claim7.holds Tryd.pinned (.plain (OpenSpec.upto plansConflictsSpec)) plansConflictsUptoCard

/-- THE SECOND FORM's CARD OF 'groundlinglaw22.PlansRounds'. -/
def plansRoundsUptoCard : Claim7 := { stood := { row := plansRoundsUptoRow, standIns := [], harness := (true, "67840a4674bda15faafe47c78b1901269065962c3bc3407990541e85b7157005"), looks := false }, kinds := [], alts := [], laidByText := true, laidKinds := [.data, .data, .pinned], laidTests := true, laidLooks := .later }
def PlansRoundsUptoCardSaid : Prop := Claim7.holds Tryd.pinned (.plain (OpenSpec.upto plansRoundsSpec)) plansRoundsUptoCard

/-- THE SECOND FORM's CARD OF 'groundlinglaw15.VenueInverse'. -/
def venueInverseUptoCard : Claim7 := { stood := { row := venueInverseUptoRow, standIns := [], harness := (true, "67840a4674bda15faafe47c78b1901269065962c3bc3407990541e85b7157005"), looks := false }, kinds := [], alts := [], laidByText := true, laidKinds := [.data, .data, .data, .data, .pinned], laidTests := true, laidLooks := .later }
def VenueInverseUptoCardSaid : Prop := Claim7.holds Tryd.pinned (.plain (OpenSpec.upto venueInverseSpec)) venueInverseUptoCard

/-- THE SECOND FORM's CARD OF 'groundlinglaw15.VenueBeside'. -/
def venueBesideUptoCard : Claim7 := { stood := { row := venueBesideUptoRow, standIns := [], harness := (true, "67840a4674bda15faafe47c78b1901269065962c3bc3407990541e85b7157005"), looks := false }, kinds := [], alts := [], laidByText := true, laidKinds := [.data, .data, .data, .data, .pinned], laidTests := true, laidLooks := .later }
def VenueBesideUptoCardSaid : Prop := Claim7.holds Tryd.pinned (.plain (OpenSpec.upto venueBesideSpec)) venueBesideUptoCard

/-- THE SECOND FORM's CARD OF 'groundlinglaw15.VenueShards'. -/
def venueShardsUptoCard : Claim7 := { stood := { row := venueShardsUptoRow, standIns := [], harness := (true, "67840a4674bda15faafe47c78b1901269065962c3bc3407990541e85b7157005"), looks := false }, kinds := [], alts := [], laidByText := true, laidKinds := [.data, .data, .data, .data, .pinned], laidTests := true, laidLooks := .later }
def VenueShardsUptoCardSaid : Prop := Claim7.holds Tryd.pinned (.plain (OpenSpec.upto venueShardsSpec)) venueShardsUptoCard
end Rows
end Go.Proofs.YtfcfglpkgcheiaaDoor
