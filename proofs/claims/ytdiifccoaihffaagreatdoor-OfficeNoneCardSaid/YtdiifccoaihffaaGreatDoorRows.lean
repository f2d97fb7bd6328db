/-
  NARROWER THAN 'FOR EVERY INPUT', by the rows' own cells (each row's printed sentence says how): OfficeKnown: laid · OfficeMoves: laid · OfficePlays: laid · OfficeGuards: laid · OfficeNone: laid · OfficeLoads: laid · OfficeAgrees: laid.
  DERIVED. THE GIVEN ROWS OF THIS SEAT. 7 by the template 'for every input the law returns true; each argument reads behind the call as it read before'; 0 by the template 'total and deterministic' (their statements: YtdiifccoaihffaaGreatDoorTotals.lean).
  GIVEN WITH THE SEED: the statements are not yours to turn. If you find one false, say at which input.
  Laid BY PROGRAM, IN A SANDBOX (cutbox-rows.mjs): the forced cells as the released guide's own fill.sh prints them over the translation 6adb56b0cc0cfd98… (all of the seat's roots in one cut). By AI agents, Wed Nov 11 2026. No macro, syntax, notation, axiom, sorry.
-/
import Derived.Test.YtdiifccoaihffaaGreatDoorChecked
import GoSem.PinnedTables
import GoSem.Claim
import GoSem.ClaimJoined
import GoSem.ClaimMapViews
import Derived.JoinedTies
import Derived.KernelRfl
namespace Go.Proofs.YtdiifccoaihffaaGreatDoor
/- THE CELL 'sum', in the pinned program and in every row, IS THE sha256 OF THE DUMP (.gsa) THAT YtdiifccoaihffaaGreatDoorProg.lean LOADS. Nothing in Lean hashes anything: it is a label: what it is worth is what the hold of that sum in a sandbox is worth. -/
noncomputable def Tryz.pinned : Pinned := { name := "ytdiifccoaihffaagreatdoor", sum := "6adb56b0cc0cfd982b52192f9f47a3cec1dc3143dca81537f3664209b592ac7d", checked := Tryz.checked }
namespace Rows
def none {H : Type} : Left H := { results := [], args := [] }

/- WHAT THE LISTED PACKAGE-LEVEL VARIABLES READ AS WHEN THE CALL BEGINS. Each datum BY PROGRAM (the guide's laid-datum.mjs) off the statement by which the dump's own 'gosem.cut.vars' lays the variable. In a bare row this is a premise. The card (YtdiifccoaihffaaGreatDoorCards.lean) ties it to the program's text. -/
def laid_unicode_utf8_acceptRanges {H : Type} : DataW H := .agg [.agg [.lit (.int .u8 128), .lit (.int .u8 191)], .agg [.lit (.int .u8 160), .lit (.int .u8 191)], .agg [.lit (.int .u8 128), .lit (.int .u8 159)], .agg [.lit (.int .u8 144), .lit (.int .u8 191)], .agg [.lit (.int .u8 128), .lit (.int .u8 143)], .agg [.lit (.int .u8 0), .lit (.int .u8 0)], .agg [.lit (.int .u8 0), .lit (.int .u8 0)], .agg [.lit (.int .u8 0), .lit (.int .u8 0)], .agg [.lit (.int .u8 0), .lit (.int .u8 0)], .agg [.lit (.int .u8 0), .lit (.int .u8 0)], .agg [.lit (.int .u8 0), .lit (.int .u8 0)], .agg [.lit (.int .u8 0), .lit (.int .u8 0)], .agg [.lit (.int .u8 0), .lit (.int .u8 0)], .agg [.lit (.int .u8 0), .lit (.int .u8 0)], .agg [.lit (.int .u8 0), .lit (.int .u8 0)], .agg [.lit (.int .u8 0), .lit (.int .u8 0)]]
def laid_groundling_plans_uses {H : Type} : DataW H := .agg [.lit (.int .i64 0), .lit (.int .i64 1), .lit (.int .i64 7), .lit (.int .i64 27), .lit (.int .i64 7), .lit (.int .i64 7), .lit (.int .i64 99), .lit (.int .i64 67), .lit (.int .i64 7), .lit (.int .i64 64), .lit (.int .i64 11), .lit (.int .i64 11), .lit (.int .i64 128)]
/-- One of Go's own tables, pinned by name: the form's constant. -/
def laid_unicode_utf8_first : DataW Unit := Go.Pinned.utf8First

/-- 'groundlinglaw26.OfficeKnown': WHATEVER THE INPUT: true; the input reads as it did. -/
def officeKnownSpec : ChangeSpec := { name := "officeKnown", fn := fun _ => fun
  | [] => { results := [.lit (.bool true)], args := [] }
  | _ => none }
def officeKnownRow : OpenClaim := { program := "ytdiifccoaihffaagreatdoor", sum := "6adb56b0cc0cfd982b52192f9f47a3cec1dc3143dca81537f3664209b592ac7d", func := "groundling/groundlinglaw26.OfficeKnown", spec := "officeKnown", inPlace := ["internal/bytealg.IndexByteString", "internal/bytealg.IndexString"], unfollowed := true, recurses := true, named := ["unicode/utf8.first", "unicode/utf8.acceptRanges", "groundling/plans.uses", "internal/bytealg.MaxLen"], apart := false, laid := [("unicode/utf8.acceptRanges", laid_unicode_utf8_acceptRanges), ("groundling/plans.uses", laid_groundling_plans_uses), ("unicode/utf8.first", laid_unicode_utf8_first)] }
def OfficeKnownSaid : Prop := officeKnownRow.holds Tryz.pinned (OpenSpec.ofChange officeKnownSpec)

/-- ITS FALSE NEIGHBOUR: 'it returns false'. Refute it at one input. -/
def officeKnownWrong : ChangeSpec := { name := "officeKnown", fn := fun _ => fun
  | [] => { results := [.lit (.bool false)], args := [] }
  | _ => none }
def OfficeKnownWrongFalsely : Prop := officeKnownRow.holds Tryz.pinned (OpenSpec.ofChange officeKnownWrong)

/-- 'groundlinglaw26.OfficeMoves': WHATEVER THE INPUT: true; the input reads as it did. -/
def officeMovesSpec : ChangeSpec := { name := "officeMoves", fn := fun _ => fun
  | [d] => { results := [.lit (.bool true)], args := [d] }
  | _ => none }
def officeMovesRow : OpenClaim := { program := "ytdiifccoaihffaagreatdoor", sum := "6adb56b0cc0cfd982b52192f9f47a3cec1dc3143dca81537f3664209b592ac7d", func := "groundling/groundlinglaw26.OfficeMoves", spec := "officeMoves", inPlace := ["internal/bytealg.IndexByteString", "internal/bytealg.IndexString"], unfollowed := true, recurses := true, named := ["groundling/plans.uses", "unicode/utf8.first", "unicode/utf8.acceptRanges", "internal/bytealg.MaxLen"], apart := false, laid := [("unicode/utf8.acceptRanges", laid_unicode_utf8_acceptRanges), ("groundling/plans.uses", laid_groundling_plans_uses), ("unicode/utf8.first", laid_unicode_utf8_first)] }
def OfficeMovesSaid : Prop := officeMovesRow.holds Tryz.pinned (OpenSpec.ofChange officeMovesSpec)

/-- ITS FALSE NEIGHBOUR: 'it returns false'. Refute it at one input. -/
def officeMovesWrong : ChangeSpec := { name := "officeMoves", fn := fun _ => fun
  | [d] => { results := [.lit (.bool false)], args := [d] }
  | _ => none }
def OfficeMovesWrongFalsely : Prop := officeMovesRow.holds Tryz.pinned (OpenSpec.ofChange officeMovesWrong)

/-- 'groundlinglaw26.OfficePlays': WHATEVER THE INPUT: true; the input reads as it did. -/
def officePlaysSpec : ChangeSpec := { name := "officePlays", fn := fun _ => fun
  | [d1, d2] => { results := [.lit (.bool true)], args := [d1, d2] }
  | _ => none }
def officePlaysRow : OpenClaim := { program := "ytdiifccoaihffaagreatdoor", sum := "6adb56b0cc0cfd982b52192f9f47a3cec1dc3143dca81537f3664209b592ac7d", func := "groundling/groundlinglaw26.OfficePlays", spec := "officePlays", inPlace := ["internal/bytealg.IndexByteString", "internal/bytealg.IndexString"], unfollowed := true, recurses := true, named := ["unicode/utf8.first", "unicode/utf8.acceptRanges", "groundling/plans.uses", "internal/bytealg.MaxLen"], apart := false, laid := [("unicode/utf8.acceptRanges", laid_unicode_utf8_acceptRanges), ("groundling/plans.uses", laid_groundling_plans_uses), ("unicode/utf8.first", laid_unicode_utf8_first)] }
def OfficePlaysSaid : Prop := officePlaysRow.holds Tryz.pinned (OpenSpec.ofChange officePlaysSpec)

/-- ITS FALSE NEIGHBOUR: 'it returns false'. Refute it at one input. -/
def officePlaysWrong : ChangeSpec := { name := "officePlays", fn := fun _ => fun
  | [d1, d2] => { results := [.lit (.bool false)], args := [d1, d2] }
  | _ => none }
def OfficePlaysWrongFalsely : Prop := officePlaysRow.holds Tryz.pinned (OpenSpec.ofChange officePlaysWrong)

/-- 'groundlinglaw26.OfficeGuards': WHATEVER THE INPUT: true; the input reads as it did. -/
def officeGuardsSpec : ChangeSpec := { name := "officeGuards", fn := fun _ => fun
  | [d] => { results := [.lit (.bool true)], args := [d] }
  | _ => none }
def officeGuardsRow : OpenClaim := { program := "ytdiifccoaihffaagreatdoor", sum := "6adb56b0cc0cfd982b52192f9f47a3cec1dc3143dca81537f3664209b592ac7d", func := "groundling/groundlinglaw26.OfficeGuards", spec := "officeGuards", inPlace := ["internal/bytealg.IndexByteString", "internal/bytealg.IndexString"], unfollowed := true, recurses := true, named := ["groundling/plans.uses", "unicode/utf8.first", "unicode/utf8.acceptRanges", "internal/bytealg.MaxLen"], apart := false, laid := [("unicode/utf8.acceptRanges", laid_unicode_utf8_acceptRanges), ("groundling/plans.uses", laid_groundling_plans_uses), ("unicode/utf8.first", laid_unicode_utf8_first)] }
def OfficeGuardsSaid : Prop := officeGuardsRow.holds Tryz.pinned (OpenSpec.ofChange officeGuardsSpec)

/-- ITS FALSE NEIGHBOUR: 'it returns false'. Refute it at one input. -/
def officeGuardsWrong : ChangeSpec := { name := "officeGuards", fn := fun _ => fun
  | [d] => { results := [.lit (.bool false)], args := [d] }
  | _ => none }
def OfficeGuardsWrongFalsely : Prop := officeGuardsRow.holds Tryz.pinned (OpenSpec.ofChange officeGuardsWrong)

/-- 'groundlinglaw26.OfficeNone': WHATEVER THE INPUT: true; the input reads as it did. -/
def officeNoneSpec : ChangeSpec := { name := "officeNone", fn := fun _ => fun
  | [d1, d2] => { results := [.lit (.bool true)], args := [d1, d2] }
  | _ => none }
def officeNoneRow : OpenClaim := { program := "ytdiifccoaihffaagreatdoor", sum := "6adb56b0cc0cfd982b52192f9f47a3cec1dc3143dca81537f3664209b592ac7d", func := "groundling/groundlinglaw26.OfficeNone", spec := "officeNone", inPlace := ["internal/bytealg.IndexByteString", "internal/bytealg.IndexString"], unfollowed := true, recurses := true, named := ["unicode/utf8.first", "unicode/utf8.acceptRanges", "groundling/plans.uses", "internal/bytealg.MaxLen"], apart := false, laid := [("unicode/utf8.acceptRanges", laid_unicode_utf8_acceptRanges), ("groundling/plans.uses", laid_groundling_plans_uses), ("unicode/utf8.first", laid_unicode_utf8_first)] }
def OfficeNoneSaid : Prop := officeNoneRow.holds Tryz.pinned (OpenSpec.ofChange officeNoneSpec)

/-- ITS FALSE NEIGHBOUR: 'it returns false'. Refute it at one input. -/
def officeNoneWrong : ChangeSpec := { name := "officeNone", fn := fun _ => fun
  | [d1, d2] => { results := [.lit (.bool false)], args := [d1, d2] }
  | _ => none }
def OfficeNoneWrongFalsely : Prop := officeNoneRow.holds Tryz.pinned (OpenSpec.ofChange officeNoneWrong)

/-- 'groundlinglaw26.OfficeLoads': WHATEVER THE INPUT: true; the input reads as it did. -/
def officeLoadsSpec : ChangeSpec := { name := "officeLoads", fn := fun _ => fun
  | [d1, d2] => { results := [.lit (.bool true)], args := [d1, d2] }
  | _ => none }
def officeLoadsRow : OpenClaim := { program := "ytdiifccoaihffaagreatdoor", sum := "6adb56b0cc0cfd982b52192f9f47a3cec1dc3143dca81537f3664209b592ac7d", func := "groundling/groundlinglaw26.OfficeLoads", spec := "officeLoads", inPlace := ["internal/bytealg.IndexByteString", "internal/bytealg.IndexString"], unfollowed := true, recurses := true, named := ["unicode/utf8.first", "unicode/utf8.acceptRanges", "groundling/plans.uses", "internal/bytealg.MaxLen"], apart := false, laid := [("unicode/utf8.acceptRanges", laid_unicode_utf8_acceptRanges), ("groundling/plans.uses", laid_groundling_plans_uses), ("unicode/utf8.first", laid_unicode_utf8_first)] }
def OfficeLoadsSaid : Prop := officeLoadsRow.holds Tryz.pinned (OpenSpec.ofChange officeLoadsSpec)

/-- ITS FALSE NEIGHBOUR: 'it returns false'. Refute it at one input. -/
def officeLoadsWrong : ChangeSpec := { name := "officeLoads", fn := fun _ => fun
  | [d1, d2] => { results := [.lit (.bool false)], args := [d1, d2] }
  | _ => none }
def OfficeLoadsWrongFalsely : Prop := officeLoadsRow.holds Tryz.pinned (OpenSpec.ofChange officeLoadsWrong)

/-- 'groundlinglaw26.OfficeAgrees': WHATEVER THE INPUT: true; the input reads as it did. -/
def officeAgreesSpec : ChangeSpec := { name := "officeAgrees", fn := fun _ => fun
  | [d] => { results := [.lit (.bool true)], args := [d] }
  | _ => none }
def officeAgreesRow : OpenClaim := { program := "ytdiifccoaihffaagreatdoor", sum := "6adb56b0cc0cfd982b52192f9f47a3cec1dc3143dca81537f3664209b592ac7d", func := "groundling/groundlinglaw26.OfficeAgrees", spec := "officeAgrees", inPlace := ["internal/bytealg.IndexByteString", "internal/bytealg.IndexString"], unfollowed := true, recurses := true, named := ["groundling/plans.uses", "unicode/utf8.first", "unicode/utf8.acceptRanges", "internal/bytealg.MaxLen"], apart := false, laid := [("unicode/utf8.acceptRanges", laid_unicode_utf8_acceptRanges), ("groundling/plans.uses", laid_groundling_plans_uses), ("unicode/utf8.first", laid_unicode_utf8_first)] }
def OfficeAgreesSaid : Prop := officeAgreesRow.holds Tryz.pinned (OpenSpec.ofChange officeAgreesSpec)

/-- ITS FALSE NEIGHBOUR: 'it returns false'. Refute it at one input. -/
def officeAgreesWrong : ChangeSpec := { name := "officeAgrees", fn := fun _ => fun
  | [d] => { results := [.lit (.bool false)], args := [d] }
  | _ => none }
def OfficeAgreesWrongFalsely : Prop := officeAgreesRow.holds Tryz.pinned (OpenSpec.ofChange officeAgreesWrong)

/- THE SECOND FORM. 'bulk': how many values and letters a reading holds, each counted each time it is reached (what is shared counts as often as it is met; a slice's spare places count too). A statement '..UptoSaid' is the law's where the arguments, and the package variables that the reading takes, are together of bulk at most 1048576: NARROWER than '..Said'. Prove '..Said' where nothing that the law and all that it calls make is longer than what came in: it says more and counts as full. Else prove '..UptoSaid'. A law counts once. -/
mutual
def uptoBulk {H : Type} : DataW H → Nat
  | .lit (.string bytes) => bytes.length + 1
  | .lit _ => 1
  | .nil => 1
  | .ptr d => uptoBulk d + 1
  | .slice elems spare => uptoBulkAll elems + uptoBulkAll spare + 1
  | .agg parts => uptoBulkAll parts + 1
  | .iface _ d => uptoBulk d + 1
  | .map entries => uptoBulkEntries entries + 1
  | .held _ => 1
def uptoBulkAll {H : Type} : List (DataW H) → Nat
  | [] => 0
  | d :: r => uptoBulk d + uptoBulkAll r
def uptoBulkEntries {H : Type} : List (Lit × DataW H) → Nat
  | [] => 0
  | x :: r => uptoBulkEntry x + uptoBulkEntries r
def uptoBulkEntry {H : Type} : Lit × DataW H → Nat
  | (.string bytes, d) => bytes.length + uptoBulk d + 1
  | (_, d) => uptoBulk d + 1
 end
def uptoSmall : (H : Type) → List (DataW H) → Bool := fun _ ds => decide (uptoBulkAll ds ≤ 1048576)
def OpenSpec.upto (s : _root_.Go.ChangeSpec) : _root_.Go.OpenSpec := { _root_.Go.OpenSpec.ofChange s with cond := some uptoSmall }

/-- 'groundlinglaw26.OfficeKnown', WHERE WHAT IT READS IS OF BULK AT MOST 1048576: true; the input reads as it did. -/
def officeKnownUptoRow : OpenClaim := { program := "ytdiifccoaihffaagreatdoor", sum := "6adb56b0cc0cfd982b52192f9f47a3cec1dc3143dca81537f3664209b592ac7d", func := "groundling/groundlinglaw26.OfficeKnown", spec := "officeKnown", inPlace := ["internal/bytealg.IndexByteString", "internal/bytealg.IndexString"], unfollowed := true, recurses := true, named := ["unicode/utf8.first", "unicode/utf8.acceptRanges", "groundling/plans.uses", "internal/bytealg.MaxLen"], apart := false, laid := [("unicode/utf8.acceptRanges", laid_unicode_utf8_acceptRanges), ("groundling/plans.uses", laid_groundling_plans_uses), ("unicode/utf8.first", laid_unicode_utf8_first)], narrowed := true }
def OfficeKnownUptoSaid : Prop := officeKnownUptoRow.holds Tryz.pinned (OpenSpec.upto officeKnownSpec)

/-- 'groundlinglaw26.OfficeMoves', WHERE WHAT IT READS IS OF BULK AT MOST 1048576: true; the input reads as it did. -/
def officeMovesUptoRow : OpenClaim := { program := "ytdiifccoaihffaagreatdoor", sum := "6adb56b0cc0cfd982b52192f9f47a3cec1dc3143dca81537f3664209b592ac7d", func := "groundling/groundlinglaw26.OfficeMoves", spec := "officeMoves", inPlace := ["internal/bytealg.IndexByteString", "internal/bytealg.IndexString"], unfollowed := true, recurses := true, named := ["groundling/plans.uses", "unicode/utf8.first", "unicode/utf8.acceptRanges", "internal/bytealg.MaxLen"], apart := false, laid := [("unicode/utf8.acceptRanges", laid_unicode_utf8_acceptRanges), ("groundling/plans.uses", laid_groundling_plans_uses), ("unicode/utf8.first", laid_unicode_utf8_first)], narrowed := true }
def OfficeMovesUptoSaid : Prop := officeMovesUptoRow.holds Tryz.pinned (OpenSpec.upto officeMovesSpec)

/-- 'groundlinglaw26.OfficePlays', WHERE WHAT IT READS IS OF BULK AT MOST 1048576: true; the input reads as it did. -/
def officePlaysUptoRow : OpenClaim := { program := "ytdiifccoaihffaagreatdoor", sum := "6adb56b0cc0cfd982b52192f9f47a3cec1dc3143dca81537f3664209b592ac7d", func := "groundling/groundlinglaw26.OfficePlays", spec := "officePlays", inPlace := ["internal/bytealg.IndexByteString", "internal/bytealg.IndexString"], unfollowed := true, recurses := true, named := ["unicode/utf8.first", "unicode/utf8.acceptRanges", "groundling/plans.uses", "internal/bytealg.MaxLen"], apart := false, laid := [("unicode/utf8.acceptRanges", laid_unicode_utf8_acceptRanges), ("groundling/plans.uses", laid_groundling_plans_uses), ("unicode/utf8.first", laid_unicode_utf8_first)], narrowed := true }
def OfficePlaysUptoSaid : Prop := officePlaysUptoRow.holds Tryz.pinned (OpenSpec.upto officePlaysSpec)

/-- 'groundlinglaw26.OfficeGuards', WHERE WHAT IT READS IS OF BULK AT MOST 1048576: true; the input reads as it did. -/
def officeGuardsUptoRow : OpenClaim := { program := "ytdiifccoaihffaagreatdoor", sum := "6adb56b0cc0cfd982b52192f9f47a3cec1dc3143dca81537f3664209b592ac7d", func := "groundling/groundlinglaw26.OfficeGuards", spec := "officeGuards", inPlace := ["internal/bytealg.IndexByteString", "internal/bytealg.IndexString"], unfollowed := true, recurses := true, named := ["groundling/plans.uses", "unicode/utf8.first", "unicode/utf8.acceptRanges", "internal/bytealg.MaxLen"], apart := false, laid := [("unicode/utf8.acceptRanges", laid_unicode_utf8_acceptRanges), ("groundling/plans.uses", laid_groundling_plans_uses), ("unicode/utf8.first", laid_unicode_utf8_first)], narrowed := true }
def OfficeGuardsUptoSaid : Prop := officeGuardsUptoRow.holds Tryz.pinned (OpenSpec.upto officeGuardsSpec)

/-- 'groundlinglaw26.OfficeNone', WHERE WHAT IT READS IS OF BULK AT MOST 1048576: true; the input reads as it did. -/
def officeNoneUptoRow : OpenClaim := { program := "ytdiifccoaihffaagreatdoor", sum := "6adb56b0cc0cfd982b52192f9f47a3cec1dc3143dca81537f3664209b592ac7d", func := "groundling/groundlinglaw26.OfficeNone", spec := "officeNone", inPlace := ["internal/bytealg.IndexByteString", "internal/bytealg.IndexString"], unfollowed := true, recurses := true, named := ["unicode/utf8.first", "unicode/utf8.acceptRanges", "groundling/plans.uses", "internal/bytealg.MaxLen"], apart := false, laid := [("unicode/utf8.acceptRanges", laid_unicode_utf8_acceptRanges), ("groundling/plans.uses", laid_groundling_plans_uses), ("unicode/utf8.first", laid_unicode_utf8_first)], narrowed := true }
def OfficeNoneUptoSaid : Prop := officeNoneUptoRow.holds Tryz.pinned (OpenSpec.upto officeNoneSpec)

/-- 'groundlinglaw26.OfficeLoads', WHERE WHAT IT READS IS OF BULK AT MOST 1048576: true; the input reads as it did. -/
def officeLoadsUptoRow : OpenClaim := { program := "ytdiifccoaihffaagreatdoor", sum := "6adb56b0cc0cfd982b52192f9f47a3cec1dc3143dca81537f3664209b592ac7d", func := "groundling/groundlinglaw26.OfficeLoads", spec := "officeLoads", inPlace := ["internal/bytealg.IndexByteString", "internal/bytealg.IndexString"], unfollowed := true, recurses := true, named := ["unicode/utf8.first", "unicode/utf8.acceptRanges", "groundling/plans.uses", "internal/bytealg.MaxLen"], apart := false, laid := [("unicode/utf8.acceptRanges", laid_unicode_utf8_acceptRanges), ("groundling/plans.uses", laid_groundling_plans_uses), ("unicode/utf8.first", laid_unicode_utf8_first)], narrowed := true }
def OfficeLoadsUptoSaid : Prop := officeLoadsUptoRow.holds Tryz.pinned (OpenSpec.upto officeLoadsSpec)

/-- 'groundlinglaw26.OfficeAgrees', WHERE WHAT IT READS IS OF BULK AT MOST 1048576: true; the input reads as it did. -/
def officeAgreesUptoRow : OpenClaim := { program := "ytdiifccoaihffaagreatdoor", sum := "6adb56b0cc0cfd982b52192f9f47a3cec1dc3143dca81537f3664209b592ac7d", func := "groundling/groundlinglaw26.OfficeAgrees", spec := "officeAgrees", inPlace := ["internal/bytealg.IndexByteString", "internal/bytealg.IndexString"], unfollowed := true, recurses := true, named := ["groundling/plans.uses", "unicode/utf8.first", "unicode/utf8.acceptRanges", "internal/bytealg.MaxLen"], apart := false, laid := [("unicode/utf8.acceptRanges", laid_unicode_utf8_acceptRanges), ("groundling/plans.uses", laid_groundling_plans_uses), ("unicode/utf8.first", laid_unicode_utf8_first)], narrowed := true }
def OfficeAgreesUptoSaid : Prop := officeAgreesUptoRow.holds Tryz.pinned (OpenSpec.upto officeAgreesSpec)

end Rows
end Go.Proofs.YtdiifccoaihffaaGreatDoor
