/-
  NARROWER THAN 'FOR EVERY INPUT', by the rows' own cells (each row's printed sentence says how): PlansChecks: laid · PlansLocks: laid · PlansSteps: laid · PlansFree: laid · PlansConflicts: laid · PlansRounds: laid · VenueInverse: laid · VenueBeside: laid · VenueShards: laid.
  DERIVED. THE GIVEN ROWS OF THIS SEAT. 9 by the template 'for every input the law returns true; each argument reads behind the call as it read before'; 0 by the template 'total and deterministic' (their statements: YtfcfglpkgcheiaaDoorTotals.lean).
  GIVEN WITH THE SEED: the statements are not yours to turn. If you find one false, say at which input.
  Laid BY PROGRAM, IN A SANDBOX (cutbox-rows.mjs): the forced cells as the released guide's own fill.sh prints them over the translation 9529669be9cfc5e1… (all of the seat's roots in one cut). By AI agents, Wed Nov 11 2026. No macro, syntax, notation, axiom, sorry.
-/
import Derived.Test.YtfcfglpkgcheiaaDoorChecked
import GoSem.PinnedTables
import GoSem.Claim
import GoSem.ClaimJoined
import GoSem.ClaimMapViews
import Derived.JoinedTies
import Derived.KernelRfl
namespace Go.Proofs.YtfcfglpkgcheiaaDoor
/- THE CELL 'sum', in the pinned program and in every row, IS THE sha256 OF THE DUMP (.gsa) THAT YtfcfglpkgcheiaaDoorProg.lean LOADS. Nothing in Lean hashes anything: it is a label: what it is worth is what the hold of that sum in a sandbox is worth. -/
noncomputable def Tryd.pinned : Pinned := { name := "ytfcfglpkgcheiaadoor", sum := "9529669be9cfc5e1bc098d5126f25657b8614d8eccd1b1d293169464973df0a3", checked := Tryd.checked }
namespace Rows
def none {H : Type} : Left H := { results := [], args := [] }

/- WHAT THE LISTED PACKAGE-LEVEL VARIABLES READ AS WHEN THE CALL BEGINS. Each datum BY PROGRAM (the guide's laid-datum.mjs) off the statement by which the dump's own 'gosem.cut.vars' lays the variable. In a bare row this is a premise. The card (YtfcfglpkgcheiaaDoorCards.lean) ties it to the program's text. -/
def laid_unicode_utf8_acceptRanges {H : Type} : DataW H := .agg [.agg [.lit (.int .u8 128), .lit (.int .u8 191)], .agg [.lit (.int .u8 160), .lit (.int .u8 191)], .agg [.lit (.int .u8 128), .lit (.int .u8 159)], .agg [.lit (.int .u8 144), .lit (.int .u8 191)], .agg [.lit (.int .u8 128), .lit (.int .u8 143)], .agg [.lit (.int .u8 0), .lit (.int .u8 0)], .agg [.lit (.int .u8 0), .lit (.int .u8 0)], .agg [.lit (.int .u8 0), .lit (.int .u8 0)], .agg [.lit (.int .u8 0), .lit (.int .u8 0)], .agg [.lit (.int .u8 0), .lit (.int .u8 0)], .agg [.lit (.int .u8 0), .lit (.int .u8 0)], .agg [.lit (.int .u8 0), .lit (.int .u8 0)], .agg [.lit (.int .u8 0), .lit (.int .u8 0)], .agg [.lit (.int .u8 0), .lit (.int .u8 0)], .agg [.lit (.int .u8 0), .lit (.int .u8 0)], .agg [.lit (.int .u8 0), .lit (.int .u8 0)]]
def laid_groundling_plans_uses {H : Type} : DataW H := .agg [.lit (.int .i64 0), .lit (.int .i64 1), .lit (.int .i64 7), .lit (.int .i64 27), .lit (.int .i64 7), .lit (.int .i64 7), .lit (.int .i64 99), .lit (.int .i64 67), .lit (.int .i64 7), .lit (.int .i64 64), .lit (.int .i64 11), .lit (.int .i64 11), .lit (.int .i64 128)]
/-- One of Go's own tables, pinned by name: the form's constant. -/
def laid_unicode_utf8_first : DataW Unit := Go.Pinned.utf8First
def laid_math_bits_deBruijn32tab {H : Type} : DataW H := .agg [.lit (.int .u8 0), .lit (.int .u8 1), .lit (.int .u8 28), .lit (.int .u8 2), .lit (.int .u8 29), .lit (.int .u8 14), .lit (.int .u8 24), .lit (.int .u8 3), .lit (.int .u8 30), .lit (.int .u8 22), .lit (.int .u8 20), .lit (.int .u8 15), .lit (.int .u8 25), .lit (.int .u8 17), .lit (.int .u8 4), .lit (.int .u8 8), .lit (.int .u8 31), .lit (.int .u8 27), .lit (.int .u8 13), .lit (.int .u8 23), .lit (.int .u8 21), .lit (.int .u8 19), .lit (.int .u8 16), .lit (.int .u8 7), .lit (.int .u8 26), .lit (.int .u8 12), .lit (.int .u8 18), .lit (.int .u8 6), .lit (.int .u8 11), .lit (.int .u8 5), .lit (.int .u8 10), .lit (.int .u8 9)]
def laid_math_bits_deBruijn64tab {H : Type} : DataW H := .agg [.lit (.int .u8 0), .lit (.int .u8 1), .lit (.int .u8 56), .lit (.int .u8 2), .lit (.int .u8 57), .lit (.int .u8 49), .lit (.int .u8 28), .lit (.int .u8 3), .lit (.int .u8 61), .lit (.int .u8 58), .lit (.int .u8 42), .lit (.int .u8 50), .lit (.int .u8 38), .lit (.int .u8 29), .lit (.int .u8 17), .lit (.int .u8 4), .lit (.int .u8 62), .lit (.int .u8 47), .lit (.int .u8 59), .lit (.int .u8 36), .lit (.int .u8 45), .lit (.int .u8 43), .lit (.int .u8 51), .lit (.int .u8 22), .lit (.int .u8 53), .lit (.int .u8 39), .lit (.int .u8 33), .lit (.int .u8 30), .lit (.int .u8 24), .lit (.int .u8 18), .lit (.int .u8 12), .lit (.int .u8 5), .lit (.int .u8 63), .lit (.int .u8 55), .lit (.int .u8 48), .lit (.int .u8 27), .lit (.int .u8 60), .lit (.int .u8 41), .lit (.int .u8 37), .lit (.int .u8 16), .lit (.int .u8 46), .lit (.int .u8 35), .lit (.int .u8 44), .lit (.int .u8 21), .lit (.int .u8 52), .lit (.int .u8 32), .lit (.int .u8 23), .lit (.int .u8 11), .lit (.int .u8 54), .lit (.int .u8 26), .lit (.int .u8 40), .lit (.int .u8 15), .lit (.int .u8 34), .lit (.int .u8 20), .lit (.int .u8 31), .lit (.int .u8 10), .lit (.int .u8 25), .lit (.int .u8 14), .lit (.int .u8 19), .lit (.int .u8 9), .lit (.int .u8 13), .lit (.int .u8 8), .lit (.int .u8 7), .lit (.int .u8 6)]
def laid_internal_strconv_uint64pow10 {H : Type} : DataW H := .agg [.lit (.int .u64 1), .lit (.int .u64 10), .lit (.int .u64 100), .lit (.int .u64 1000), .lit (.int .u64 10000), .lit (.int .u64 100000), .lit (.int .u64 1000000), .lit (.int .u64 10000000), .lit (.int .u64 100000000), .lit (.int .u64 1000000000), .lit (.int .u64 10000000000), .lit (.int .u64 100000000000), .lit (.int .u64 1000000000000), .lit (.int .u64 10000000000000), .lit (.int .u64 100000000000000), .lit (.int .u64 1000000000000000), .lit (.int .u64 10000000000000000), .lit (.int .u64 100000000000000000), .lit (.int .u64 1000000000000000000), .lit (.int .u64 10000000000000000000)]

/-- 'groundlinglaw22.PlansChecks': WHATEVER THE INPUT: true; the input reads as it did. -/
def plansChecksSpec : ChangeSpec := { name := "plansChecks", fn := fun _ => fun
  | [d] => { results := [.lit (.bool true)], args := [d] }
  | _ => none }
def plansChecksRow : OpenClaim := { program := "ytfcfglpkgcheiaadoor", sum := "9529669be9cfc5e1bc098d5126f25657b8614d8eccd1b1d293169464973df0a3", func := "groundling/groundlinglaw22.PlansChecks", spec := "plansChecks", inPlace := ["internal/bytealg.IndexByteString", "internal/bytealg.IndexString"], unfollowed := true, recurses := true, named := ["groundling/plans.uses", "unicode/utf8.first", "unicode/utf8.acceptRanges", "internal/bytealg.MaxLen"], apart := false, laid := [("unicode/utf8.acceptRanges", laid_unicode_utf8_acceptRanges), ("groundling/plans.uses", laid_groundling_plans_uses), ("unicode/utf8.first", laid_unicode_utf8_first)] }
def PlansChecksSaid : Prop := plansChecksRow.holds Tryd.pinned (OpenSpec.ofChange plansChecksSpec)

/-- ITS FALSE NEIGHBOUR: 'it returns false'. Refute it at one input. -/
def plansChecksWrong : ChangeSpec := { name := "plansChecks", fn := fun _ => fun
  | [d] => { results := [.lit (.bool false)], args := [d] }
  | _ => none }
def PlansChecksWrongFalsely : Prop := plansChecksRow.holds Tryd.pinned (OpenSpec.ofChange plansChecksWrong)

/-- 'groundlinglaw22.PlansLocks': WHATEVER THE INPUT: true; the input reads as it did. -/
def plansLocksSpec : ChangeSpec := { name := "plansLocks", fn := fun _ => fun
  | [d1, d2] => { results := [.lit (.bool true)], args := [d1, d2] }
  | _ => none }
def plansLocksRow : OpenClaim := { program := "ytfcfglpkgcheiaadoor", sum := "9529669be9cfc5e1bc098d5126f25657b8614d8eccd1b1d293169464973df0a3", func := "groundling/groundlinglaw22.PlansLocks", spec := "plansLocks", inPlace := ["internal/bytealg.IndexByteString", "internal/bytealg.IndexString"], unfollowed := true, recurses := true, named := ["unicode/utf8.first", "unicode/utf8.acceptRanges", "groundling/plans.uses", "internal/bytealg.MaxLen"], apart := false, laid := [("unicode/utf8.acceptRanges", laid_unicode_utf8_acceptRanges), ("groundling/plans.uses", laid_groundling_plans_uses), ("unicode/utf8.first", laid_unicode_utf8_first)] }
def PlansLocksSaid : Prop := plansLocksRow.holds Tryd.pinned (OpenSpec.ofChange plansLocksSpec)

/-- ITS FALSE NEIGHBOUR: 'it returns false'. Refute it at one input. -/
def plansLocksWrong : ChangeSpec := { name := "plansLocks", fn := fun _ => fun
  | [d1, d2] => { results := [.lit (.bool false)], args := [d1, d2] }
  | _ => none }
def PlansLocksWrongFalsely : Prop := plansLocksRow.holds Tryd.pinned (OpenSpec.ofChange plansLocksWrong)

/-- 'groundlinglaw22.PlansSteps': WHATEVER THE INPUT: true; the input reads as it did. -/
def plansStepsSpec : ChangeSpec := { name := "plansSteps", fn := fun _ => fun
  | [d1, d2, d3] => { results := [.lit (.bool true)], args := [d1, d2, d3] }
  | _ => none }
def plansStepsRow : OpenClaim := { program := "ytfcfglpkgcheiaadoor", sum := "9529669be9cfc5e1bc098d5126f25657b8614d8eccd1b1d293169464973df0a3", func := "groundling/groundlinglaw22.PlansSteps", spec := "plansSteps", inPlace := ["internal/bytealg.IndexByteString", "internal/bytealg.IndexString"], unfollowed := true, recurses := true, named := ["unicode/utf8.first", "unicode/utf8.acceptRanges", "groundling/plans.uses", "internal/bytealg.MaxLen"], apart := false, laid := [("unicode/utf8.acceptRanges", laid_unicode_utf8_acceptRanges), ("groundling/plans.uses", laid_groundling_plans_uses), ("unicode/utf8.first", laid_unicode_utf8_first)] }
def PlansStepsSaid : Prop := plansStepsRow.holds Tryd.pinned (OpenSpec.ofChange plansStepsSpec)

/-- ITS FALSE NEIGHBOUR: 'it returns false'. Refute it at one input. -/
def plansStepsWrong : ChangeSpec := { name := "plansSteps", fn := fun _ => fun
  | [d1, d2, d3] => { results := [.lit (.bool false)], args := [d1, d2, d3] }
  | _ => none }
def PlansStepsWrongFalsely : Prop := plansStepsRow.holds Tryd.pinned (OpenSpec.ofChange plansStepsWrong)

/-- 'groundlinglaw22.PlansFree': WHATEVER THE INPUT: true; the input reads as it did. -/
def plansFreeSpec : ChangeSpec := { name := "plansFree", fn := fun _ => fun
  | [d1, d2, d3] => { results := [.lit (.bool true)], args := [d1, d2, d3] }
  | _ => none }
def plansFreeRow : OpenClaim := { program := "ytfcfglpkgcheiaadoor", sum := "9529669be9cfc5e1bc098d5126f25657b8614d8eccd1b1d293169464973df0a3", func := "groundling/groundlinglaw22.PlansFree", spec := "plansFree", inPlace := ["internal/bytealg.IndexByteString", "internal/bytealg.IndexString"], unfollowed := true, recurses := true, named := ["unicode/utf8.first", "unicode/utf8.acceptRanges", "groundling/plans.uses", "internal/bytealg.MaxLen"], apart := false, laid := [("unicode/utf8.acceptRanges", laid_unicode_utf8_acceptRanges), ("groundling/plans.uses", laid_groundling_plans_uses), ("unicode/utf8.first", laid_unicode_utf8_first)] }
def PlansFreeSaid : Prop := plansFreeRow.holds Tryd.pinned (OpenSpec.ofChange plansFreeSpec)

/-- ITS FALSE NEIGHBOUR: 'it returns false'. Refute it at one input. -/
def plansFreeWrong : ChangeSpec := { name := "plansFree", fn := fun _ => fun
  | [d1, d2, d3] => { results := [.lit (.bool false)], args := [d1, d2, d3] }
  | _ => none }
def PlansFreeWrongFalsely : Prop := plansFreeRow.holds Tryd.pinned (OpenSpec.ofChange plansFreeWrong)

/-- 'groundlinglaw22.PlansConflicts': WHATEVER THE INPUT: true; the input reads as it did. -/
def plansConflictsSpec : ChangeSpec := { name := "plansConflicts", fn := fun _ => fun
  | [d1, d2, d3] => { results := [.lit (.bool true)], args := [d1, d2, d3] }
  | _ => none }
def plansConflictsRow : OpenClaim := { program := "ytfcfglpkgcheiaadoor", sum := "9529669be9cfc5e1bc098d5126f25657b8614d8eccd1b1d293169464973df0a3", func := "groundling/groundlinglaw22.PlansConflicts", spec := "plansConflicts", inPlace := ["internal/bytealg.IndexByteString", "internal/bytealg.IndexString"], unfollowed := true, recurses := true, named := ["unicode/utf8.first", "unicode/utf8.acceptRanges", "groundling/plans.uses", "internal/bytealg.MaxLen"], apart := false, laid := [("unicode/utf8.acceptRanges", laid_unicode_utf8_acceptRanges), ("groundling/plans.uses", laid_groundling_plans_uses), ("unicode/utf8.first", laid_unicode_utf8_first)] }
def PlansConflictsSaid : Prop := plansConflictsRow.holds Tryd.pinned (OpenSpec.ofChange plansConflictsSpec)

/-- ITS FALSE NEIGHBOUR: 'it returns false'. Refute it at one input. -/
def plansConflictsWrong : ChangeSpec := { name := "plansConflicts", fn := fun _ => fun
  | [d1, d2, d3] => { results := [.lit (.bool false)], args := [d1, d2, d3] }
  | _ => none }
def PlansConflictsWrongFalsely : Prop := plansConflictsRow.holds Tryd.pinned (OpenSpec.ofChange plansConflictsWrong)

/-- 'groundlinglaw22.PlansRounds': WHATEVER THE INPUT: true; the input reads as it did. -/
def plansRoundsSpec : ChangeSpec := { name := "plansRounds", fn := fun _ => fun
  | [d1, d2] => { results := [.lit (.bool true)], args := [d1, d2] }
  | _ => none }
def plansRoundsRow : OpenClaim := { program := "ytfcfglpkgcheiaadoor", sum := "9529669be9cfc5e1bc098d5126f25657b8614d8eccd1b1d293169464973df0a3", func := "groundling/groundlinglaw22.PlansRounds", spec := "plansRounds", inPlace := ["internal/bytealg.IndexByteString", "internal/bytealg.IndexString"], unfollowed := true, recurses := true, named := ["unicode/utf8.first", "unicode/utf8.acceptRanges", "groundling/plans.uses", "internal/bytealg.MaxLen"], apart := false, laid := [("unicode/utf8.acceptRanges", laid_unicode_utf8_acceptRanges), ("groundling/plans.uses", laid_groundling_plans_uses), ("unicode/utf8.first", laid_unicode_utf8_first)] }
def PlansRoundsSaid : Prop := plansRoundsRow.holds Tryd.pinned (OpenSpec.ofChange plansRoundsSpec)

/-- ITS FALSE NEIGHBOUR: 'it returns false'. Refute it at one input. -/
def plansRoundsWrong : ChangeSpec := { name := "plansRounds", fn := fun _ => fun
  | [d1, d2] => { results := [.lit (.bool false)], args := [d1, d2] }
  | _ => none }
def PlansRoundsWrongFalsely : Prop := plansRoundsRow.holds Tryd.pinned (OpenSpec.ofChange plansRoundsWrong)

/-- 'groundlinglaw15.VenueInverse': WHATEVER THE INPUT: true; the input reads as it did. -/
def venueInverseSpec : ChangeSpec := { name := "venueInverse", fn := fun _ => fun
  | [d] => { results := [.lit (.bool true)], args := [d] }
  | _ => none }
def venueInverseRow : OpenClaim := { program := "ytfcfglpkgcheiaadoor", sum := "9529669be9cfc5e1bc098d5126f25657b8614d8eccd1b1d293169464973df0a3", func := "groundling/groundlinglaw15.VenueInverse", spec := "venueInverse", inPlace := ["internal/bytealg.IndexByteString", "internal/bytealg.IndexString", "internal/abi.NoEscape", "internal/bytealg.MakeNoZero"], unfollowed := true, recurses := true, named := ["unicode/utf8.first", "unicode/utf8.acceptRanges", "internal/strconv.uint64pow10", "math/bits.deBruijn32tab", "math/bits.deBruijn64tab", "internal/bytealg.MaxLen"], apart := false, laid := [("math/bits.deBruijn32tab", laid_math_bits_deBruijn32tab), ("math/bits.deBruijn64tab", laid_math_bits_deBruijn64tab), ("internal/strconv.uint64pow10", laid_internal_strconv_uint64pow10), ("unicode/utf8.acceptRanges", laid_unicode_utf8_acceptRanges), ("unicode/utf8.first", laid_unicode_utf8_first)] }
def VenueInverseSaid : Prop := venueInverseRow.holds Tryd.pinned (OpenSpec.ofChange venueInverseSpec)

/-- ITS FALSE NEIGHBOUR: 'it returns false'. Refute it at one input. -/
def venueInverseWrong : ChangeSpec := { name := "venueInverse", fn := fun _ => fun
  | [d] => { results := [.lit (.bool false)], args := [d] }
  | _ => none }
def VenueInverseWrongFalsely : Prop := venueInverseRow.holds Tryd.pinned (OpenSpec.ofChange venueInverseWrong)

/-- 'groundlinglaw15.VenueBeside': WHATEVER THE INPUT: true; the input reads as it did. -/
def venueBesideSpec : ChangeSpec := { name := "venueBeside", fn := fun _ => fun
  | [d] => { results := [.lit (.bool true)], args := [d] }
  | _ => none }
def venueBesideRow : OpenClaim := { program := "ytfcfglpkgcheiaadoor", sum := "9529669be9cfc5e1bc098d5126f25657b8614d8eccd1b1d293169464973df0a3", func := "groundling/groundlinglaw15.VenueBeside", spec := "venueBeside", inPlace := ["internal/bytealg.IndexByteString", "internal/bytealg.IndexString", "internal/abi.NoEscape", "internal/bytealg.MakeNoZero"], unfollowed := true, recurses := true, named := ["unicode/utf8.first", "unicode/utf8.acceptRanges", "internal/strconv.uint64pow10", "math/bits.deBruijn32tab", "math/bits.deBruijn64tab", "internal/bytealg.MaxLen"], apart := false, laid := [("math/bits.deBruijn32tab", laid_math_bits_deBruijn32tab), ("math/bits.deBruijn64tab", laid_math_bits_deBruijn64tab), ("internal/strconv.uint64pow10", laid_internal_strconv_uint64pow10), ("unicode/utf8.acceptRanges", laid_unicode_utf8_acceptRanges), ("unicode/utf8.first", laid_unicode_utf8_first)] }
def VenueBesideSaid : Prop := venueBesideRow.holds Tryd.pinned (OpenSpec.ofChange venueBesideSpec)

/-- ITS FALSE NEIGHBOUR: 'it returns false'. Refute it at one input. -/
def venueBesideWrong : ChangeSpec := { name := "venueBeside", fn := fun _ => fun
  | [d] => { results := [.lit (.bool false)], args := [d] }
  | _ => none }
def VenueBesideWrongFalsely : Prop := venueBesideRow.holds Tryd.pinned (OpenSpec.ofChange venueBesideWrong)

/-- 'groundlinglaw15.VenueShards': WHATEVER THE INPUT: true; the input reads as it did. -/
def venueShardsSpec : ChangeSpec := { name := "venueShards", fn := fun _ => fun
  | [d] => { results := [.lit (.bool true)], args := [d] }
  | _ => none }
def venueShardsRow : OpenClaim := { program := "ytfcfglpkgcheiaadoor", sum := "9529669be9cfc5e1bc098d5126f25657b8614d8eccd1b1d293169464973df0a3", func := "groundling/groundlinglaw15.VenueShards", spec := "venueShards", inPlace := ["internal/bytealg.IndexByteString", "internal/bytealg.IndexString", "internal/abi.NoEscape", "internal/bytealg.MakeNoZero"], unfollowed := true, recurses := true, named := ["unicode/utf8.first", "unicode/utf8.acceptRanges", "internal/strconv.uint64pow10", "math/bits.deBruijn32tab", "math/bits.deBruijn64tab", "internal/bytealg.MaxLen"], apart := false, laid := [("math/bits.deBruijn32tab", laid_math_bits_deBruijn32tab), ("math/bits.deBruijn64tab", laid_math_bits_deBruijn64tab), ("internal/strconv.uint64pow10", laid_internal_strconv_uint64pow10), ("unicode/utf8.acceptRanges", laid_unicode_utf8_acceptRanges), ("unicode/utf8.first", laid_unicode_utf8_first)] }
def VenueShardsSaid : Prop := venueShardsRow.holds Tryd.pinned (OpenSpec.ofChange venueShardsSpec)

/-- ITS FALSE NEIGHBOUR: 'it returns false'. Refute it at one input. -/
def venueShardsWrong : ChangeSpec := { name := "venueShards", fn := fun _ => fun
  | [d] => { results := [.lit (.bool false)], args := [d] }
  | _ => none }
def VenueShardsWrongFalsely : Prop := venueShardsRow.holds Tryd.pinned (OpenSpec.ofChange venueShardsWrong)

/- THE SECOND FORM. 'bulk': how many values and letters a reading holds, each counted each time it is reached (what is shared counts as often as it is met; a slice's spare places count too). A statement '..UptoSaid' is the law's where the arguments, and the package variables that the reading takes, are together of bulk at most 1048576: NARROWER than '..Said'. Prove '..Said' where nothing that the law and all that it calls make is longer than what came in: it says more and counts as full. Else prove '..UptoSaid'. A law counts once. -/
mutual
def uptoBulk {H : Type} : DataW H → Nat
  | .lit (.string bytes) => bytes.length + 1
  | .lit _ => 1
  | .nil => 1
  | .ptr d => uptoBulk d + 1
  | .slice elems spare => uptoBulkAll elems + uptoBulkAll spare + 1
  | .agg parts => uptoBulkAll parts + 1
  | .iface _ d => uptoBulk d + 1
  | .map entries => uptoBulkEntries entries + 1
  | .held _ => 1
def uptoBulkAll {H : Type} : List (DataW H) → Nat
  | [] => 0
  | d :: r => uptoBulk d + uptoBulkAll r
def uptoBulkEntries {H : Type} : List (Lit × DataW H) → Nat
  | [] => 0
  | x :: r => uptoBulkEntry x + uptoBulkEntries r
def uptoBulkEntry {H : Type} : Lit × DataW H → Nat
  | (.string bytes, d) => bytes.length + uptoBulk d + 1
  | (_, d) => uptoBulk d + 1
 end
def uptoSmall : (H : Type) → List (DataW H) → Bool := fun _ ds => decide (uptoBulkAll ds ≤ 1048576)
def OpenSpec.upto (s : _root_.Go.ChangeSpec) : _root_.Go.OpenSpec := { _root_.Go.OpenSpec.ofChange s with cond := some uptoSmall }

/-- 'groundlinglaw22.PlansChecks', WHERE WHAT IT READS IS OF BULK AT MOST 1048576: true; the input reads as it did. -/
def plansChecksUptoRow : OpenClaim := { program := "ytfcfglpkgcheiaadoor", sum := "9529669be9cfc5e1bc098d5126f25657b8614d8eccd1b1d293169464973df0a3", func := "groundling/groundlinglaw22.PlansChecks", spec := "plansChecks", inPlace := ["internal/bytealg.IndexByteString", "internal/bytealg.IndexString"], unfollowed := true, recurses := true, named := ["groundling/plans.uses", "unicode/utf8.first", "unicode/utf8.acceptRanges", "internal/bytealg.MaxLen"], apart := false, laid := [("unicode/utf8.acceptRanges", laid_unicode_utf8_acceptRanges), ("groundling/plans.uses", laid_groundling_plans_uses), ("unicode/utf8.first", laid_unicode_utf8_first)], narrowed := true }
def PlansChecksUptoSaid : Prop := plansChecksUptoRow.holds Tryd.pinned (OpenSpec.upto plansChecksSpec)

/-- 'groundlinglaw22.PlansLocks', WHERE WHAT IT READS IS OF BULK AT MOST 1048576: true; the input reads as it did. -/
def plansLocksUptoRow : OpenClaim := { program := "ytfcfglpkgcheiaadoor", sum := "9529669be9cfc5e1bc098d5126f25657b8614d8eccd1b1d293169464973df0a3", func := "groundling/groundlinglaw22.PlansLocks", spec := "plansLocks", inPlace := ["internal/bytealg.IndexByteString", "internal/bytealg.IndexString"], unfollowed := true, recurses := true, named := ["unicode/utf8.first", "unicode/utf8.acceptRanges", "groundling/plans.uses", "internal/bytealg.MaxLen"], apart := false, laid := [("unicode/utf8.acceptRanges", laid_unicode_utf8_acceptRanges), ("groundling/plans.uses", laid_groundling_plans_uses), ("unicode/utf8.first", laid_unicode_utf8_first)], narrowed := true }
def PlansLocksUptoSaid : Prop := plansLocksUptoRow.holds Tryd.pinned (OpenSpec.upto plansLocksSpec)

/-- 'groundlinglaw22.PlansSteps', WHERE WHAT IT READS IS OF BULK AT MOST 1048576: true; the input reads as it did. -/
def plansStepsUptoRow : OpenClaim := { program := "ytfcfglpkgcheiaadoor", sum := "9529669be9cfc5e1bc098d5126f25657b8614d8eccd1b1d293169464973df0a3", func := "groundling/groundlinglaw22.PlansSteps", spec := "plansSteps", inPlace := ["internal/bytealg.IndexByteString", "internal/bytealg.IndexString"], unfollowed := true, recurses := true, named := ["unicode/utf8.first", "unicode/utf8.acceptRanges", "groundling/plans.uses", "internal/bytealg.MaxLen"], apart := false, laid := [("unicode/utf8.acceptRanges", laid_unicode_utf8_acceptRanges), ("groundling/plans.uses", laid_groundling_plans_uses), ("unicode/utf8.first", laid_unicode_utf8_first)], narrowed := true }
def PlansStepsUptoSaid : Prop := plansStepsUptoRow.holds Tryd.pinned (OpenSpec.upto plansStepsSpec)

/-- 'groundlinglaw22.PlansFree', WHERE WHAT IT READS IS OF BULK AT MOST 1048576: true; the input reads as it did. -/
def plansFreeUptoRow : OpenClaim := { program := "ytfcfglpkgcheiaadoor", sum := "9529669be9cfc5e1bc098d5126f25657b8614d8eccd1b1d293169464973df0a3", func := "groundling/groundlinglaw22.PlansFree", spec := "plansFree", inPlace := ["internal/bytealg.IndexByteString", "internal/bytealg.IndexString"], unfollowed := true, recurses := true, named := ["unicode/utf8.first", "unicode/utf8.acceptRanges", "groundling/plans.uses", "internal/bytealg.MaxLen"], apart := false, laid := [("unicode/utf8.acceptRanges", laid_unicode_utf8_acceptRanges), ("groundling/plans.uses", laid_groundling_plans_uses), ("unicode/utf8.first", laid_unicode_utf8_first)], narrowed := true }
def PlansFreeUptoSaid : Prop := plansFreeUptoRow.holds Tryd.pinned (OpenSpec.upto plansFreeSpec)

/-- 'groundlinglaw22.PlansConflicts', WHERE WHAT IT READS IS OF BULK AT MOST 1048576: true; the input reads as it did. -/
def plansConflictsUptoRow : OpenClaim := { program := "ytfcfglpkgcheiaadoor", sum := "9529669be9cfc5e1bc098d5126f25657b8614d8eccd1b1d293169464973df0a3", func := "groundling/groundlinglaw22.PlansConflicts", spec := "plansConflicts", inPlace := ["internal/bytealg.IndexByteString", "internal/bytealg.IndexString"], unfollowed := true, recurses := true, named := ["unicode/utf8.first", "unicode/utf8.acceptRanges", "groundling/plans.uses", "internal/bytealg.MaxLen"], apart := false, laid := [("unicode/utf8.acceptRanges", laid_unicode_utf8_acceptRanges), ("groundling/plans.uses", laid_groundling_plans_uses), ("unicode/utf8.first", laid_unicode_utf8_first)], narrowed := true }
def PlansConflictsUptoSaid : Prop := plansConflictsUptoRow.holds Tryd.pinned (OpenSpec.upto plansConflictsSpec)

/-- 'groundlinglaw22.PlansRounds', WHERE WHAT IT READS IS OF BULK AT MOST 1048576: true; the input reads as it did. -/
def plansRoundsUptoRow : OpenClaim := { program := "ytfcfglpkgcheiaadoor", sum := "9529669be9cfc5e1bc098d5126f25657b8614d8eccd1b1d293169464973df0a3", func := "groundling/groundlinglaw22.PlansRounds", spec := "plansRounds", inPlace := ["internal/bytealg.IndexByteString", "internal/bytealg.IndexString"], unfollowed := true, recurses := true, named := ["unicode/utf8.first", "unicode/utf8.acceptRanges", "groundling/plans.uses", "internal/bytealg.MaxLen"], apart := false, laid := [("unicode/utf8.acceptRanges", laid_unicode_utf8_acceptRanges), ("groundling/plans.uses", laid_groundling_plans_uses), ("unicode/utf8.first", laid_unicode_utf8_first)], narrowed := true }
def PlansRoundsUptoSaid : Prop := plansRoundsUptoRow.holds Tryd.pinned (OpenSpec.upto plansRoundsSpec)

/-- 'groundlinglaw15.VenueInverse', WHERE WHAT IT READS IS OF BULK AT MOST 1048576: true; the input reads as it did. -/
def venueInverseUptoRow : OpenClaim := { program := "ytfcfglpkgcheiaadoor", sum := "9529669be9cfc5e1bc098d5126f25657b8614d8eccd1b1d293169464973df0a3", func := "groundling/groundlinglaw15.VenueInverse", spec := "venueInverse", inPlace := ["internal/bytealg.IndexByteString", "internal/bytealg.IndexString", "internal/abi.NoEscape", "internal/bytealg.MakeNoZero"], unfollowed := true, recurses := true, named := ["unicode/utf8.first", "unicode/utf8.acceptRanges", "internal/strconv.uint64pow10", "math/bits.deBruijn32tab", "math/bits.deBruijn64tab", "internal/bytealg.MaxLen"], apart := false, laid := [("math/bits.deBruijn32tab", laid_math_bits_deBruijn32tab), ("math/bits.deBruijn64tab", laid_math_bits_deBruijn64tab), ("internal/strconv.uint64pow10", laid_internal_strconv_uint64pow10), ("unicode/utf8.acceptRanges", laid_unicode_utf8_acceptRanges), ("unicode/utf8.first", laid_unicode_utf8_first)], narrowed := true }
def VenueInverseUptoSaid : Prop := venueInverseUptoRow.holds Tryd.pinned (OpenSpec.upto venueInverseSpec)

/-- 'groundlinglaw15.VenueBeside', WHERE WHAT IT READS IS OF BULK AT MOST 1048576: true; the input reads as it did. -/
def venueBesideUptoRow : OpenClaim := { program := "ytfcfglpkgcheiaadoor", sum := "9529669be9cfc5e1bc098d5126f25657b8614d8eccd1b1d293169464973df0a3", func := "groundling/groundlinglaw15.VenueBeside", spec := "venueBeside", inPlace := ["internal/bytealg.IndexByteString", "internal/bytealg.IndexString", "internal/abi.NoEscape", "internal/bytealg.MakeNoZero"], unfollowed := true, recurses := true, named := ["unicode/utf8.first", "unicode/utf8.acceptRanges", "internal/strconv.uint64pow10", "math/bits.deBruijn32tab", "math/bits.deBruijn64tab", "internal/bytealg.MaxLen"], apart := false, laid := [("math/bits.deBruijn32tab", laid_math_bits_deBruijn32tab), ("math/bits.deBruijn64tab", laid_math_bits_deBruijn64tab), ("internal/strconv.uint64pow10", laid_internal_strconv_uint64pow10), ("unicode/utf8.acceptRanges", laid_unicode_utf8_acceptRanges), ("unicode/utf8.first", laid_unicode_utf8_first)], narrowed := true }
def VenueBesideUptoSaid : Prop := venueBesideUptoRow.holds Tryd.pinned (OpenSpec.upto venueBesideSpec)

/-- 'groundlinglaw15.VenueShards', WHERE WHAT IT READS IS OF BULK AT MOST 1048576: true; the input reads as it did. -/
def venueShardsUptoRow : OpenClaim := { program := "ytfcfglpkgcheiaadoor", sum := "9529669be9cfc5e1bc098d5126f25657b8614d8eccd1b1d293169464973df0a3", func := "groundling/groundlinglaw15.VenueShards", spec := "venueShards", inPlace := ["internal/bytealg.IndexByteString", "internal/bytealg.IndexString", "internal/abi.NoEscape", "internal/bytealg.MakeNoZero"], unfollowed := true, recurses := true, named := ["unicode/utf8.first", "unicode/utf8.acceptRanges", "internal/strconv.uint64pow10", "math/bits.deBruijn32tab", "math/bits.deBruijn64tab", "internal/bytealg.MaxLen"], apart := false, laid := [("math/bits.deBruijn32tab", laid_math_bits_deBruijn32tab), ("math/bits.deBruijn64tab", laid_math_bits_deBruijn64tab), ("internal/strconv.uint64pow10", laid_internal_strconv_uint64pow10), ("unicode/utf8.acceptRanges", laid_unicode_utf8_acceptRanges), ("unicode/utf8.first", laid_unicode_utf8_first)], narrowed := true }
def VenueShardsUptoSaid : Prop := venueShardsUptoRow.holds Tryd.pinned (OpenSpec.upto venueShardsSpec)

end Rows
end Go.Proofs.YtfcfglpkgcheiaaDoor
