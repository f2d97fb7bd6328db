/-
  NARROWER THAN 'FOR EVERY INPUT', by the rows' own cells (each row's printed sentence says how): ShardsKnown: laid · ShardsNone: laid · RecordKnown: laid · OfficeKnown: laid · OfficeNone: laid.
  DERIVED. THE GIVEN ROWS OF THIS SEAT. 5 by the template 'for every input the law returns true; each argument reads behind the call as it read before'; 0 by the template 'total and deterministic' (their statements: YthllkganhkgjcaaGreatDoorTotals.lean).
  GIVEN WITH THE SEED: the statements are not yours to turn. If you find one false, say at which input.
  Laid BY PROGRAM, IN A SANDBOX (cutbox-rows.mjs): the forced cells as the released guide's own fill.sh prints them over the translation 336b80ce3762abf9… (all of the seat's roots in one cut). By AI agents, Wed Nov 11 2026. No macro, syntax, notation, axiom, sorry.
-/
import Derived.Test.YthllkganhkgjcaaGreatDoorChecked
import GoSem.PinnedTables
import GoSem.Claim
import GoSem.ClaimJoined
import GoSem.ClaimMapViews
import Derived.JoinedTies
import Derived.KernelRfl
namespace Go.Proofs.YthllkganhkgjcaaGreatDoor
/- THE CELL 'sum', in the pinned program and in every row, IS THE sha256 OF THE DUMP (.gsa) THAT YthllkganhkgjcaaGreatDoorProg.lean LOADS. Nothing in Lean hashes anything: it is a label: what it is worth is what the hold of that sum in a sandbox is worth. -/
noncomputable def Tryz.pinned : Pinned := { name := "ythllkganhkgjcaagreatdoor", sum := "336b80ce3762abf9db6436c107bd46e20c1d6fde562754a3511c90a46b7ef91e", checked := Tryz.checked }
namespace Rows
def none {H : Type} : Left H := { results := [], args := [] }

/- WHAT THE LISTED PACKAGE-LEVEL VARIABLES READ AS WHEN THE CALL BEGINS. Each datum BY PROGRAM (the guide's laid-datum.mjs) off the statement by which the dump's own 'gosem.cut.vars' lays the variable. In a bare row this is a premise. The card (YthllkganhkgjcaaGreatDoorCards.lean) ties it to the program's text. -/
def laid_unicode_utf8_acceptRanges {H : Type} : DataW H := .agg [.agg [.lit (.int .u8 128), .lit (.int .u8 191)], .agg [.lit (.int .u8 160), .lit (.int .u8 191)], .agg [.lit (.int .u8 128), .lit (.int .u8 159)], .agg [.lit (.int .u8 144), .lit (.int .u8 191)], .agg [.lit (.int .u8 128), .lit (.int .u8 143)], .agg [.lit (.int .u8 0), .lit (.int .u8 0)], .agg [.lit (.int .u8 0), .lit (.int .u8 0)], .agg [.lit (.int .u8 0), .lit (.int .u8 0)], .agg [.lit (.int .u8 0), .lit (.int .u8 0)], .agg [.lit (.int .u8 0), .lit (.int .u8 0)], .agg [.lit (.int .u8 0), .lit (.int .u8 0)], .agg [.lit (.int .u8 0), .lit (.int .u8 0)], .agg [.lit (.int .u8 0), .lit (.int .u8 0)], .agg [.lit (.int .u8 0), .lit (.int .u8 0)], .agg [.lit (.int .u8 0), .lit (.int .u8 0)], .agg [.lit (.int .u8 0), .lit (.int .u8 0)]]
/-- One of Go's own tables, pinned by name: the form's constant. -/
def laid_unicode_utf8_first : DataW Unit := Go.Pinned.utf8First
def laid_groundling_plans_uses {H : Type} : DataW H := .agg [.lit (.int .i64 0), .lit (.int .i64 1), .lit (.int .i64 7), .lit (.int .i64 27), .lit (.int .i64 7), .lit (.int .i64 7), .lit (.int .i64 99), .lit (.int .i64 67), .lit (.int .i64 7), .lit (.int .i64 64), .lit (.int .i64 11), .lit (.int .i64 11), .lit (.int .i64 128)]

/-- 'groundlinglaw18.ShardsKnown': WHATEVER THE INPUT: true; the input reads as it did. -/
def shardsKnownSpec : ChangeSpec := { name := "shardsKnown", fn := fun _ => fun
  | [] => { results := [.lit (.bool true)], args := [] }
  | _ => none }
def shardsKnownRow : OpenClaim := { program := "ythllkganhkgjcaagreatdoor", sum := "336b80ce3762abf9db6436c107bd46e20c1d6fde562754a3511c90a46b7ef91e", func := "groundling/groundlinglaw18.ShardsKnown", spec := "shardsKnown", inPlace := ["internal/bytealg.IndexByteString", "internal/bytealg.IndexString"], unfollowed := true, recurses := true, named := ["unicode/utf8.first", "unicode/utf8.acceptRanges", "internal/bytealg.MaxLen"], apart := false, laid := [("unicode/utf8.acceptRanges", laid_unicode_utf8_acceptRanges), ("unicode/utf8.first", laid_unicode_utf8_first)] }
def ShardsKnownSaid : Prop := shardsKnownRow.holds Tryz.pinned (OpenSpec.ofChange shardsKnownSpec)

/-- ITS FALSE NEIGHBOUR: 'it returns false'. Refute it at one input. -/
def shardsKnownWrong : ChangeSpec := { name := "shardsKnown", fn := fun _ => fun
  | [] => { results := [.lit (.bool false)], args := [] }
  | _ => none }
def ShardsKnownWrongFalsely : Prop := shardsKnownRow.holds Tryz.pinned (OpenSpec.ofChange shardsKnownWrong)

/-- 'groundlinglaw18.ShardsNone': WHATEVER THE INPUT: true; the input reads as it did. -/
def shardsNoneSpec : ChangeSpec := { name := "shardsNone", fn := fun _ => fun
  | [d] => { results := [.lit (.bool true)], args := [d] }
  | _ => none }
def shardsNoneRow : OpenClaim := { program := "ythllkganhkgjcaagreatdoor", sum := "336b80ce3762abf9db6436c107bd46e20c1d6fde562754a3511c90a46b7ef91e", func := "groundling/groundlinglaw18.ShardsNone", spec := "shardsNone", inPlace := ["internal/bytealg.IndexByteString", "internal/bytealg.IndexString"], unfollowed := true, recurses := true, named := ["unicode/utf8.first", "unicode/utf8.acceptRanges", "internal/bytealg.MaxLen"], apart := false, laid := [("unicode/utf8.acceptRanges", laid_unicode_utf8_acceptRanges), ("unicode/utf8.first", laid_unicode_utf8_first)] }
def ShardsNoneSaid : Prop := shardsNoneRow.holds Tryz.pinned (OpenSpec.ofChange shardsNoneSpec)

/-- ITS FALSE NEIGHBOUR: 'it returns false'. Refute it at one input. -/
def shardsNoneWrong : ChangeSpec := { name := "shardsNone", fn := fun _ => fun
  | [d] => { results := [.lit (.bool false)], args := [d] }
  | _ => none }
def ShardsNoneWrongFalsely : Prop := shardsNoneRow.holds Tryz.pinned (OpenSpec.ofChange shardsNoneWrong)

/-- 'groundlinglaw29.RecordKnown': WHATEVER THE INPUT: true; the input reads as it did. -/
def recordKnownSpec : ChangeSpec := { name := "recordKnown", fn := fun _ => fun
  | [] => { results := [.lit (.bool true)], args := [] }
  | _ => none }
def recordKnownRow : OpenClaim := { program := "ythllkganhkgjcaagreatdoor", sum := "336b80ce3762abf9db6436c107bd46e20c1d6fde562754a3511c90a46b7ef91e", func := "groundling/groundlinglaw29.RecordKnown", spec := "recordKnown", inPlace := ["internal/bytealg.IndexByteString", "internal/bytealg.IndexString"], unfollowed := true, recurses := true, named := ["unicode/utf8.first", "unicode/utf8.acceptRanges", "groundling/plans.uses", "internal/bytealg.MaxLen"], apart := false, laid := [("unicode/utf8.acceptRanges", laid_unicode_utf8_acceptRanges), ("groundling/plans.uses", laid_groundling_plans_uses), ("unicode/utf8.first", laid_unicode_utf8_first)] }
def RecordKnownSaid : Prop := recordKnownRow.holds Tryz.pinned (OpenSpec.ofChange recordKnownSpec)

/-- ITS FALSE NEIGHBOUR: 'it returns false'. Refute it at one input. -/
def recordKnownWrong : ChangeSpec := { name := "recordKnown", fn := fun _ => fun
  | [] => { results := [.lit (.bool false)], args := [] }
  | _ => none }
def RecordKnownWrongFalsely : Prop := recordKnownRow.holds Tryz.pinned (OpenSpec.ofChange recordKnownWrong)

/-- 'groundlinglaw26.OfficeKnown': WHATEVER THE INPUT: true; the input reads as it did. -/
def officeKnownSpec : ChangeSpec := { name := "officeKnown", fn := fun _ => fun
  | [] => { results := [.lit (.bool true)], args := [] }
  | _ => none }
def officeKnownRow : OpenClaim := { program := "ythllkganhkgjcaagreatdoor", sum := "336b80ce3762abf9db6436c107bd46e20c1d6fde562754a3511c90a46b7ef91e", func := "groundling/groundlinglaw26.OfficeKnown", spec := "officeKnown", inPlace := ["internal/bytealg.IndexByteString", "internal/bytealg.IndexString"], unfollowed := true, recurses := true, named := ["unicode/utf8.first", "unicode/utf8.acceptRanges", "groundling/plans.uses", "internal/bytealg.MaxLen"], apart := false, laid := [("unicode/utf8.acceptRanges", laid_unicode_utf8_acceptRanges), ("groundling/plans.uses", laid_groundling_plans_uses), ("unicode/utf8.first", laid_unicode_utf8_first)] }
def OfficeKnownSaid : Prop := officeKnownRow.holds Tryz.pinned (OpenSpec.ofChange officeKnownSpec)

/-- ITS FALSE NEIGHBOUR: 'it returns false'. Refute it at one input. -/
def officeKnownWrong : ChangeSpec := { name := "officeKnown", fn := fun _ => fun
  | [] => { results := [.lit (.bool false)], args := [] }
  | _ => none }
def OfficeKnownWrongFalsely : Prop := officeKnownRow.holds Tryz.pinned (OpenSpec.ofChange officeKnownWrong)

/-- 'groundlinglaw26.OfficeNone': WHATEVER THE INPUT: true; the input reads as it did. -/
def officeNoneSpec : ChangeSpec := { name := "officeNone", fn := fun _ => fun
  | [d1, d2] => { results := [.lit (.bool true)], args := [d1, d2] }
  | _ => none }
def officeNoneRow : OpenClaim := { program := "ythllkganhkgjcaagreatdoor", sum := "336b80ce3762abf9db6436c107bd46e20c1d6fde562754a3511c90a46b7ef91e", func := "groundling/groundlinglaw26.OfficeNone", spec := "officeNone", inPlace := ["internal/bytealg.IndexByteString", "internal/bytealg.IndexString"], unfollowed := true, recurses := true, named := ["unicode/utf8.first", "unicode/utf8.acceptRanges", "groundling/plans.uses", "internal/bytealg.MaxLen"], apart := false, laid := [("unicode/utf8.acceptRanges", laid_unicode_utf8_acceptRanges), ("groundling/plans.uses", laid_groundling_plans_uses), ("unicode/utf8.first", laid_unicode_utf8_first)] }
def OfficeNoneSaid : Prop := officeNoneRow.holds Tryz.pinned (OpenSpec.ofChange officeNoneSpec)

/-- ITS FALSE NEIGHBOUR: 'it returns false'. Refute it at one input. -/
def officeNoneWrong : ChangeSpec := { name := "officeNone", fn := fun _ => fun
  | [d1, d2] => { results := [.lit (.bool false)], args := [d1, d2] }
  | _ => none }
def OfficeNoneWrongFalsely : Prop := officeNoneRow.holds Tryz.pinned (OpenSpec.ofChange officeNoneWrong)

/- THE SECOND FORM. 'bulk': how many values and letters a reading holds, each counted each time it is reached (what is shared counts as often as it is met; a slice's spare places count too). A statement '..UptoSaid' is the law's where the arguments, and the package variables that the reading takes, are together of bulk at most 1048576: NARROWER than '..Said'. Prove '..Said' where nothing that the law and all that it calls make is longer than what came in: it says more and counts as full. Else prove '..UptoSaid'. A law counts once. -/
mutual
def uptoBulk {H : Type} : DataW H → Nat
  | .lit (.string bytes) => bytes.length + 1
  | .lit _ => 1
  | .nil => 1
  | .ptr d => uptoBulk d + 1
  | .slice elems spare => uptoBulkAll elems + uptoBulkAll spare + 1
  | .agg parts => uptoBulkAll parts + 1
  | .iface _ d => uptoBulk d + 1
  | .map entries => uptoBulkEntries entries + 1
  | .held _ => 1
def uptoBulkAll {H : Type} : List (DataW H) → Nat
  | [] => 0
  | d :: r => uptoBulk d + uptoBulkAll r
def uptoBulkEntries {H : Type} : List (Lit × DataW H) → Nat
  | [] => 0
  | x :: r => uptoBulkEntry x + uptoBulkEntries r
def uptoBulkEntry {H : Type} : Lit × DataW H → Nat
  | (.string bytes, d) => bytes.length + uptoBulk d + 1
  | (_, d) => uptoBulk d + 1
 end
def uptoSmall : (H : Type) → List (DataW H) → Bool := fun _ ds => decide (uptoBulkAll ds ≤ 1048576)
def OpenSpec.upto (s : _root_.Go.ChangeSpec) : _root_.Go.OpenSpec := { _root_.Go.OpenSpec.ofChange s with cond := some uptoSmall }

/-- 'groundlinglaw18.ShardsKnown', WHERE WHAT IT READS IS OF BULK AT MOST 1048576: true; the input reads as it did. -/
def shardsKnownUptoRow : OpenClaim := { program := "ythllkganhkgjcaagreatdoor", sum := "336b80ce3762abf9db6436c107bd46e20c1d6fde562754a3511c90a46b7ef91e", func := "groundling/groundlinglaw18.ShardsKnown", spec := "shardsKnown", inPlace := ["internal/bytealg.IndexByteString", "internal/bytealg.IndexString"], unfollowed := true, recurses := true, named := ["unicode/utf8.first", "unicode/utf8.acceptRanges", "internal/bytealg.MaxLen"], apart := false, laid := [("unicode/utf8.acceptRanges", laid_unicode_utf8_acceptRanges), ("unicode/utf8.first", laid_unicode_utf8_first)], narrowed := true }
def ShardsKnownUptoSaid : Prop := shardsKnownUptoRow.holds Tryz.pinned (OpenSpec.upto shardsKnownSpec)

/-- 'groundlinglaw18.ShardsNone', WHERE WHAT IT READS IS OF BULK AT MOST 1048576: true; the input reads as it did. -/
def shardsNoneUptoRow : OpenClaim := { program := "ythllkganhkgjcaagreatdoor", sum := "336b80ce3762abf9db6436c107bd46e20c1d6fde562754a3511c90a46b7ef91e", func := "groundling/groundlinglaw18.ShardsNone", spec := "shardsNone", inPlace := ["internal/bytealg.IndexByteString", "internal/bytealg.IndexString"], unfollowed := true, recurses := true, named := ["unicode/utf8.first", "unicode/utf8.acceptRanges", "internal/bytealg.MaxLen"], apart := false, laid := [("unicode/utf8.acceptRanges", laid_unicode_utf8_acceptRanges), ("unicode/utf8.first", laid_unicode_utf8_first)], narrowed := true }
def ShardsNoneUptoSaid : Prop := shardsNoneUptoRow.holds Tryz.pinned (OpenSpec.upto shardsNoneSpec)

/-- 'groundlinglaw29.RecordKnown', WHERE WHAT IT READS IS OF BULK AT MOST 1048576: true; the input reads as it did. -/
def recordKnownUptoRow : OpenClaim := { program := "ythllkganhkgjcaagreatdoor", sum := "336b80ce3762abf9db6436c107bd46e20c1d6fde562754a3511c90a46b7ef91e", func := "groundling/groundlinglaw29.RecordKnown", spec := "recordKnown", inPlace := ["internal/bytealg.IndexByteString", "internal/bytealg.IndexString"], unfollowed := true, recurses := true, named := ["unicode/utf8.first", "unicode/utf8.acceptRanges", "groundling/plans.uses", "internal/bytealg.MaxLen"], apart := false, laid := [("unicode/utf8.acceptRanges", laid_unicode_utf8_acceptRanges), ("groundling/plans.uses", laid_groundling_plans_uses), ("unicode/utf8.first", laid_unicode_utf8_first)], narrowed := true }
def RecordKnownUptoSaid : Prop := recordKnownUptoRow.holds Tryz.pinned (OpenSpec.upto recordKnownSpec)

/-- 'groundlinglaw26.OfficeKnown', WHERE WHAT IT READS IS OF BULK AT MOST 1048576: true; the input reads as it did. -/
def officeKnownUptoRow : OpenClaim := { program := "ythllkganhkgjcaagreatdoor", sum := "336b80ce3762abf9db6436c107bd46e20c1d6fde562754a3511c90a46b7ef91e", func := "groundling/groundlinglaw26.OfficeKnown", spec := "officeKnown", inPlace := ["internal/bytealg.IndexByteString", "internal/bytealg.IndexString"], unfollowed := true, recurses := true, named := ["unicode/utf8.first", "unicode/utf8.acceptRanges", "groundling/plans.uses", "internal/bytealg.MaxLen"], apart := false, laid := [("unicode/utf8.acceptRanges", laid_unicode_utf8_acceptRanges), ("groundling/plans.uses", laid_groundling_plans_uses), ("unicode/utf8.first", laid_unicode_utf8_first)], narrowed := true }
def OfficeKnownUptoSaid : Prop := officeKnownUptoRow.holds Tryz.pinned (OpenSpec.upto officeKnownSpec)

/-- 'groundlinglaw26.OfficeNone', WHERE WHAT IT READS IS OF BULK AT MOST 1048576: true; the input reads as it did. -/
def officeNoneUptoRow : OpenClaim := { program := "ythllkganhkgjcaagreatdoor", sum := "336b80ce3762abf9db6436c107bd46e20c1d6fde562754a3511c90a46b7ef91e", func := "groundling/groundlinglaw26.OfficeNone", spec := "officeNone", inPlace := ["internal/bytealg.IndexByteString", "internal/bytealg.IndexString"], unfollowed := true, recurses := true, named := ["unicode/utf8.first", "unicode/utf8.acceptRanges", "groundling/plans.uses", "internal/bytealg.MaxLen"], apart := false, laid := [("unicode/utf8.acceptRanges", laid_unicode_utf8_acceptRanges), ("groundling/plans.uses", laid_groundling_plans_uses), ("unicode/utf8.first", laid_unicode_utf8_first)], narrowed := true }
def OfficeNoneUptoSaid : Prop := officeNoneUptoRow.holds Tryz.pinned (OpenSpec.upto officeNoneSpec)

end Rows
end Go.Proofs.YthllkganhkgjcaaGreatDoor
