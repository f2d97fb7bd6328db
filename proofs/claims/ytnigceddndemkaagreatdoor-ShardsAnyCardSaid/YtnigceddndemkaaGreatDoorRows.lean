/-
  NARROWER THAN 'FOR EVERY INPUT', by the rows' own cells (each row's printed sentence says how): ShardsParts: laid · ShardsExpire: laid · ShardsLoads: laid · ShardsAny: laid · ShardsPlays: laid · HistoryPairs: laid · HistoryIntervals: laid · HistoryChecks: laid · HistoryCuts: laid · HistoryWitness: laid · HistoryWidens: laid · HistoryPlain: laid.
  DERIVED. THE GIVEN ROWS OF THIS SEAT. 12 by the template 'for every input the law returns true; each argument reads behind the call as it read before'; 0 by the template 'total and deterministic' (their statements: YtnigceddndemkaaGreatDoorTotals.lean).
  GIVEN WITH THE SEED: the statements are not yours to turn. If you find one false, say at which input.
  Laid BY PROGRAM, IN A SANDBOX (cutbox-rows.mjs): the forced cells as the released guide's own fill.sh prints them over the translation 2fa5e5b168729fac… (all of the seat's roots in one cut). By AI agents, Wed Nov 11 2026. No macro, syntax, notation, axiom, sorry.
-/
import Derived.Test.YtnigceddndemkaaGreatDoorChecked
import GoSem.PinnedTables
import GoSem.Claim
import GoSem.ClaimJoined
import GoSem.ClaimMapViews
import Derived.JoinedTies
import Derived.KernelRfl
namespace Go.Proofs.YtnigceddndemkaaGreatDoor
/- THE CELL 'sum', in the pinned program and in every row, IS THE sha256 OF THE DUMP (.gsa) THAT YtnigceddndemkaaGreatDoorProg.lean LOADS. Nothing in Lean hashes anything: it is a label: what it is worth is what the hold of that sum in a sandbox is worth. -/
noncomputable def Tryz.pinned : Pinned := { name := "ytnigceddndemkaagreatdoor", sum := "2fa5e5b168729fac6a1b28e2acf862184993dfe94cf3c9944bd4204abbb95613", checked := Tryz.checked }
namespace Rows
def none {H : Type} : Left H := { results := [], args := [] }

/- WHAT THE LISTED PACKAGE-LEVEL VARIABLES READ AS WHEN THE CALL BEGINS. Each datum BY PROGRAM (the guide's laid-datum.mjs) off the statement by which the dump's own 'gosem.cut.vars' lays the variable. In a bare row this is a premise. The card (YtnigceddndemkaaGreatDoorCards.lean) ties it to the program's text. -/
def laid_unicode_utf8_acceptRanges {H : Type} : DataW H := .agg [.agg [.lit (.int .u8 128), .lit (.int .u8 191)], .agg [.lit (.int .u8 160), .lit (.int .u8 191)], .agg [.lit (.int .u8 128), .lit (.int .u8 159)], .agg [.lit (.int .u8 144), .lit (.int .u8 191)], .agg [.lit (.int .u8 128), .lit (.int .u8 143)], .agg [.lit (.int .u8 0), .lit (.int .u8 0)], .agg [.lit (.int .u8 0), .lit (.int .u8 0)], .agg [.lit (.int .u8 0), .lit (.int .u8 0)], .agg [.lit (.int .u8 0), .lit (.int .u8 0)], .agg [.lit (.int .u8 0), .lit (.int .u8 0)], .agg [.lit (.int .u8 0), .lit (.int .u8 0)], .agg [.lit (.int .u8 0), .lit (.int .u8 0)], .agg [.lit (.int .u8 0), .lit (.int .u8 0)], .agg [.lit (.int .u8 0), .lit (.int .u8 0)], .agg [.lit (.int .u8 0), .lit (.int .u8 0)], .agg [.lit (.int .u8 0), .lit (.int .u8 0)]]
/-- One of Go's own tables, pinned by name: the form's constant. -/
def laid_unicode_utf8_first : DataW Unit := Go.Pinned.utf8First
def laid_math_bits_deBruijn32tab {H : Type} : DataW H := .agg [.lit (.int .u8 0), .lit (.int .u8 1), .lit (.int .u8 28), .lit (.int .u8 2), .lit (.int .u8 29), .lit (.int .u8 14), .lit (.int .u8 24), .lit (.int .u8 3), .lit (.int .u8 30), .lit (.int .u8 22), .lit (.int .u8 20), .lit (.int .u8 15), .lit (.int .u8 25), .lit (.int .u8 17), .lit (.int .u8 4), .lit (.int .u8 8), .lit (.int .u8 31), .lit (.int .u8 27), .lit (.int .u8 13), .lit (.int .u8 23), .lit (.int .u8 21), .lit (.int .u8 19), .lit (.int .u8 16), .lit (.int .u8 7), .lit (.int .u8 26), .lit (.int .u8 12), .lit (.int .u8 18), .lit (.int .u8 6), .lit (.int .u8 11), .lit (.int .u8 5), .lit (.int .u8 10), .lit (.int .u8 9)]
def laid_math_bits_deBruijn64tab {H : Type} : DataW H := .agg [.lit (.int .u8 0), .lit (.int .u8 1), .lit (.int .u8 56), .lit (.int .u8 2), .lit (.int .u8 57), .lit (.int .u8 49), .lit (.int .u8 28), .lit (.int .u8 3), .lit (.int .u8 61), .lit (.int .u8 58), .lit (.int .u8 42), .lit (.int .u8 50), .lit (.int .u8 38), .lit (.int .u8 29), .lit (.int .u8 17), .lit (.int .u8 4), .lit (.int .u8 62), .lit (.int .u8 47), .lit (.int .u8 59), .lit (.int .u8 36), .lit (.int .u8 45), .lit (.int .u8 43), .lit (.int .u8 51), .lit (.int .u8 22), .lit (.int .u8 53), .lit (.int .u8 39), .lit (.int .u8 33), .lit (.int .u8 30), .lit (.int .u8 24), .lit (.int .u8 18), .lit (.int .u8 12), .lit (.int .u8 5), .lit (.int .u8 63), .lit (.int .u8 55), .lit (.int .u8 48), .lit (.int .u8 27), .lit (.int .u8 60), .lit (.int .u8 41), .lit (.int .u8 37), .lit (.int .u8 16), .lit (.int .u8 46), .lit (.int .u8 35), .lit (.int .u8 44), .lit (.int .u8 21), .lit (.int .u8 52), .lit (.int .u8 32), .lit (.int .u8 23), .lit (.int .u8 11), .lit (.int .u8 54), .lit (.int .u8 26), .lit (.int .u8 40), .lit (.int .u8 15), .lit (.int .u8 34), .lit (.int .u8 20), .lit (.int .u8 31), .lit (.int .u8 10), .lit (.int .u8 25), .lit (.int .u8 14), .lit (.int .u8 19), .lit (.int .u8 9), .lit (.int .u8 13), .lit (.int .u8 8), .lit (.int .u8 7), .lit (.int .u8 6)]
def laid_internal_strconv_uint64pow10 {H : Type} : DataW H := .agg [.lit (.int .u64 1), .lit (.int .u64 10), .lit (.int .u64 100), .lit (.int .u64 1000), .lit (.int .u64 10000), .lit (.int .u64 100000), .lit (.int .u64 1000000), .lit (.int .u64 10000000), .lit (.int .u64 100000000), .lit (.int .u64 1000000000), .lit (.int .u64 10000000000), .lit (.int .u64 100000000000), .lit (.int .u64 1000000000000), .lit (.int .u64 10000000000000), .lit (.int .u64 100000000000000), .lit (.int .u64 1000000000000000), .lit (.int .u64 10000000000000000), .lit (.int .u64 100000000000000000), .lit (.int .u64 1000000000000000000), .lit (.int .u64 10000000000000000000)]
def laid_groundling_plans_uses {H : Type} : DataW H := .agg [.lit (.int .i64 0), .lit (.int .i64 1), .lit (.int .i64 7), .lit (.int .i64 27), .lit (.int .i64 7), .lit (.int .i64 7), .lit (.int .i64 99), .lit (.int .i64 67), .lit (.int .i64 7), .lit (.int .i64 64), .lit (.int .i64 11), .lit (.int .i64 11), .lit (.int .i64 128)]

/-- 'groundlinglaw18.ShardsParts': WHATEVER THE INPUT: true; the input reads as it did. -/
def shardsPartsSpec : ChangeSpec := { name := "shardsParts", fn := fun _ => fun
  | [d1, d2, d3] => { results := [.lit (.bool true)], args := [d1, d2, d3] }
  | _ => none }
def shardsPartsRow : OpenClaim := { program := "ytnigceddndemkaagreatdoor", sum := "2fa5e5b168729fac6a1b28e2acf862184993dfe94cf3c9944bd4204abbb95613", func := "groundling/groundlinglaw18.ShardsParts", spec := "shardsParts", inPlace := ["internal/bytealg.IndexByteString", "internal/bytealg.IndexString"], unfollowed := true, recurses := true, named := ["unicode/utf8.first", "unicode/utf8.acceptRanges", "internal/bytealg.MaxLen"], apart := false, laid := [("unicode/utf8.acceptRanges", laid_unicode_utf8_acceptRanges), ("unicode/utf8.first", laid_unicode_utf8_first)] }
def ShardsPartsSaid : Prop := shardsPartsRow.holds Tryz.pinned (OpenSpec.ofChange shardsPartsSpec)

/-- ITS FALSE NEIGHBOUR: 'it returns false'. Refute it at one input. -/
def shardsPartsWrong : ChangeSpec := { name := "shardsParts", fn := fun _ => fun
  | [d1, d2, d3] => { results := [.lit (.bool false)], args := [d1, d2, d3] }
  | _ => none }
def ShardsPartsWrongFalsely : Prop := shardsPartsRow.holds Tryz.pinned (OpenSpec.ofChange shardsPartsWrong)

/-- 'groundlinglaw18.ShardsExpire': WHATEVER THE INPUT: true; the input reads as it did. -/
def shardsExpireSpec : ChangeSpec := { name := "shardsExpire", fn := fun _ => fun
  | [d1, d2, d3] => { results := [.lit (.bool true)], args := [d1, d2, d3] }
  | _ => none }
def shardsExpireRow : OpenClaim := { program := "ytnigceddndemkaagreatdoor", sum := "2fa5e5b168729fac6a1b28e2acf862184993dfe94cf3c9944bd4204abbb95613", func := "groundling/groundlinglaw18.ShardsExpire", spec := "shardsExpire", inPlace := ["internal/bytealg.IndexByteString", "internal/bytealg.IndexString"], unfollowed := true, recurses := true, named := ["unicode/utf8.first", "unicode/utf8.acceptRanges", "internal/bytealg.MaxLen"], apart := false, laid := [("unicode/utf8.acceptRanges", laid_unicode_utf8_acceptRanges), ("unicode/utf8.first", laid_unicode_utf8_first)] }
def ShardsExpireSaid : Prop := shardsExpireRow.holds Tryz.pinned (OpenSpec.ofChange shardsExpireSpec)

/-- ITS FALSE NEIGHBOUR: 'it returns false'. Refute it at one input. -/
def shardsExpireWrong : ChangeSpec := { name := "shardsExpire", fn := fun _ => fun
  | [d1, d2, d3] => { results := [.lit (.bool false)], args := [d1, d2, d3] }
  | _ => none }
def ShardsExpireWrongFalsely : Prop := shardsExpireRow.holds Tryz.pinned (OpenSpec.ofChange shardsExpireWrong)

/-- 'groundlinglaw18.ShardsLoads': WHATEVER THE INPUT: true; the input reads as it did. -/
def shardsLoadsSpec : ChangeSpec := { name := "shardsLoads", fn := fun _ => fun
  | [d1, d2, d3] => { results := [.lit (.bool true)], args := [d1, d2, d3] }
  | _ => none }
def shardsLoadsRow : OpenClaim := { program := "ytnigceddndemkaagreatdoor", sum := "2fa5e5b168729fac6a1b28e2acf862184993dfe94cf3c9944bd4204abbb95613", func := "groundling/groundlinglaw18.ShardsLoads", spec := "shardsLoads", inPlace := ["internal/bytealg.IndexByteString", "internal/bytealg.IndexString"], unfollowed := true, recurses := true, named := ["unicode/utf8.first", "unicode/utf8.acceptRanges", "internal/bytealg.MaxLen"], apart := false, laid := [("unicode/utf8.acceptRanges", laid_unicode_utf8_acceptRanges), ("unicode/utf8.first", laid_unicode_utf8_first)] }
def ShardsLoadsSaid : Prop := shardsLoadsRow.holds Tryz.pinned (OpenSpec.ofChange shardsLoadsSpec)

/-- ITS FALSE NEIGHBOUR: 'it returns false'. Refute it at one input. -/
def shardsLoadsWrong : ChangeSpec := { name := "shardsLoads", fn := fun _ => fun
  | [d1, d2, d3] => { results := [.lit (.bool false)], args := [d1, d2, d3] }
  | _ => none }
def ShardsLoadsWrongFalsely : Prop := shardsLoadsRow.holds Tryz.pinned (OpenSpec.ofChange shardsLoadsWrong)

/-- 'groundlinglaw18.ShardsAny': WHATEVER THE INPUT: true; the input reads as it did. -/
def shardsAnySpec : ChangeSpec := { name := "shardsAny", fn := fun _ => fun
  | [d1, d2, d3] => { results := [.lit (.bool true)], args := [d1, d2, d3] }
  | _ => none }
def shardsAnyRow : OpenClaim := { program := "ytnigceddndemkaagreatdoor", sum := "2fa5e5b168729fac6a1b28e2acf862184993dfe94cf3c9944bd4204abbb95613", func := "groundling/groundlinglaw18.ShardsAny", spec := "shardsAny", inPlace := ["internal/bytealg.IndexByteString", "internal/bytealg.IndexString"], unfollowed := true, recurses := true, named := ["unicode/utf8.first", "unicode/utf8.acceptRanges", "internal/bytealg.MaxLen"], apart := false, laid := [("unicode/utf8.acceptRanges", laid_unicode_utf8_acceptRanges), ("unicode/utf8.first", laid_unicode_utf8_first)] }
def ShardsAnySaid : Prop := shardsAnyRow.holds Tryz.pinned (OpenSpec.ofChange shardsAnySpec)

/-- ITS FALSE NEIGHBOUR: 'it returns false'. Refute it at one input. -/
def shardsAnyWrong : ChangeSpec := { name := "shardsAny", fn := fun _ => fun
  | [d1, d2, d3] => { results := [.lit (.bool false)], args := [d1, d2, d3] }
  | _ => none }
def ShardsAnyWrongFalsely : Prop := shardsAnyRow.holds Tryz.pinned (OpenSpec.ofChange shardsAnyWrong)

/-- 'groundlinglaw18.ShardsPlays': WHATEVER THE INPUT: true; the input reads as it did. -/
def shardsPlaysSpec : ChangeSpec := { name := "shardsPlays", fn := fun _ => fun
  | [d1, d2] => { results := [.lit (.bool true)], args := [d1, d2] }
  | _ => none }
def shardsPlaysRow : OpenClaim := { program := "ytnigceddndemkaagreatdoor", sum := "2fa5e5b168729fac6a1b28e2acf862184993dfe94cf3c9944bd4204abbb95613", func := "groundling/groundlinglaw18.ShardsPlays", spec := "shardsPlays", inPlace := ["internal/bytealg.IndexByteString", "internal/bytealg.IndexString"], unfollowed := true, recurses := true, named := ["unicode/utf8.first", "unicode/utf8.acceptRanges", "internal/bytealg.MaxLen"], apart := false, laid := [("unicode/utf8.acceptRanges", laid_unicode_utf8_acceptRanges), ("unicode/utf8.first", laid_unicode_utf8_first)] }
def ShardsPlaysSaid : Prop := shardsPlaysRow.holds Tryz.pinned (OpenSpec.ofChange shardsPlaysSpec)

/-- ITS FALSE NEIGHBOUR: 'it returns false'. Refute it at one input. -/
def shardsPlaysWrong : ChangeSpec := { name := "shardsPlays", fn := fun _ => fun
  | [d1, d2] => { results := [.lit (.bool false)], args := [d1, d2] }
  | _ => none }
def ShardsPlaysWrongFalsely : Prop := shardsPlaysRow.holds Tryz.pinned (OpenSpec.ofChange shardsPlaysWrong)

/-- 'groundlinglaw24.HistoryPairs': WHATEVER THE INPUT: true; the input reads as it did. -/
def historyPairsSpec : ChangeSpec := { name := "historyPairs", fn := fun _ => fun
  | [d1, d2, d3] => { results := [.lit (.bool true)], args := [d1, d2, d3] }
  | _ => none }
def historyPairsRow : OpenClaim := { program := "ytnigceddndemkaagreatdoor", sum := "2fa5e5b168729fac6a1b28e2acf862184993dfe94cf3c9944bd4204abbb95613", func := "groundling/groundlinglaw24.HistoryPairs", spec := "historyPairs", inPlace := ["internal/bytealg.IndexByteString", "internal/bytealg.IndexString", "internal/abi.NoEscape", "internal/bytealg.MakeNoZero"], unfollowed := true, recurses := true, named := ["unicode/utf8.first", "unicode/utf8.acceptRanges", "groundling/plans.uses", "internal/strconv.uint64pow10", "math/bits.deBruijn32tab", "math/bits.deBruijn64tab", "internal/bytealg.MaxLen"], apart := false, laid := [("math/bits.deBruijn32tab", laid_math_bits_deBruijn32tab), ("math/bits.deBruijn64tab", laid_math_bits_deBruijn64tab), ("internal/strconv.uint64pow10", laid_internal_strconv_uint64pow10), ("unicode/utf8.acceptRanges", laid_unicode_utf8_acceptRanges), ("groundling/plans.uses", laid_groundling_plans_uses), ("unicode/utf8.first", laid_unicode_utf8_first)] }
def HistoryPairsSaid : Prop := historyPairsRow.holds Tryz.pinned (OpenSpec.ofChange historyPairsSpec)

/-- ITS FALSE NEIGHBOUR: 'it returns false'. Refute it at one input. -/
def historyPairsWrong : ChangeSpec := { name := "historyPairs", fn := fun _ => fun
  | [d1, d2, d3] => { results := [.lit (.bool false)], args := [d1, d2, d3] }
  | _ => none }
def HistoryPairsWrongFalsely : Prop := historyPairsRow.holds Tryz.pinned (OpenSpec.ofChange historyPairsWrong)

/-- 'groundlinglaw24.HistoryIntervals': WHATEVER THE INPUT: true; the input reads as it did. -/
def historyIntervalsSpec : ChangeSpec := { name := "historyIntervals", fn := fun _ => fun
  | [d1, d2] => { results := [.lit (.bool true)], args := [d1, d2] }
  | _ => none }
def historyIntervalsRow : OpenClaim := { program := "ytnigceddndemkaagreatdoor", sum := "2fa5e5b168729fac6a1b28e2acf862184993dfe94cf3c9944bd4204abbb95613", func := "groundling/groundlinglaw24.HistoryIntervals", spec := "historyIntervals", inPlace := ["internal/bytealg.IndexByteString", "internal/bytealg.IndexString", "internal/abi.NoEscape", "internal/bytealg.MakeNoZero"], unfollowed := true, recurses := true, named := ["unicode/utf8.first", "unicode/utf8.acceptRanges", "groundling/plans.uses", "internal/strconv.uint64pow10", "math/bits.deBruijn32tab", "math/bits.deBruijn64tab", "internal/bytealg.MaxLen"], apart := false, laid := [("math/bits.deBruijn32tab", laid_math_bits_deBruijn32tab), ("math/bits.deBruijn64tab", laid_math_bits_deBruijn64tab), ("internal/strconv.uint64pow10", laid_internal_strconv_uint64pow10), ("unicode/utf8.acceptRanges", laid_unicode_utf8_acceptRanges), ("groundling/plans.uses", laid_groundling_plans_uses), ("unicode/utf8.first", laid_unicode_utf8_first)] }
def HistoryIntervalsSaid : Prop := historyIntervalsRow.holds Tryz.pinned (OpenSpec.ofChange historyIntervalsSpec)

/-- ITS FALSE NEIGHBOUR: 'it returns false'. Refute it at one input. -/
def historyIntervalsWrong : ChangeSpec := { name := "historyIntervals", fn := fun _ => fun
  | [d1, d2] => { results := [.lit (.bool false)], args := [d1, d2] }
  | _ => none }
def HistoryIntervalsWrongFalsely : Prop := historyIntervalsRow.holds Tryz.pinned (OpenSpec.ofChange historyIntervalsWrong)

/-- 'groundlinglaw24.HistoryChecks': WHATEVER THE INPUT: true; the input reads as it did. -/
def historyChecksSpec : ChangeSpec := { name := "historyChecks", fn := fun _ => fun
  | [d1, d2] => { results := [.lit (.bool true)], args := [d1, d2] }
  | _ => none }
def historyChecksRow : OpenClaim := { program := "ytnigceddndemkaagreatdoor", sum := "2fa5e5b168729fac6a1b28e2acf862184993dfe94cf3c9944bd4204abbb95613", func := "groundling/groundlinglaw24.HistoryChecks", spec := "historyChecks", inPlace := ["internal/bytealg.IndexByteString", "internal/bytealg.IndexString", "internal/abi.NoEscape", "internal/bytealg.MakeNoZero"], unfollowed := true, recurses := true, named := ["unicode/utf8.first", "unicode/utf8.acceptRanges", "groundling/plans.uses", "internal/strconv.uint64pow10", "math/bits.deBruijn32tab", "math/bits.deBruijn64tab", "internal/bytealg.MaxLen"], apart := false, laid := [("math/bits.deBruijn32tab", laid_math_bits_deBruijn32tab), ("math/bits.deBruijn64tab", laid_math_bits_deBruijn64tab), ("internal/strconv.uint64pow10", laid_internal_strconv_uint64pow10), ("unicode/utf8.acceptRanges", laid_unicode_utf8_acceptRanges), ("groundling/plans.uses", laid_groundling_plans_uses), ("unicode/utf8.first", laid_unicode_utf8_first)] }
def HistoryChecksSaid : Prop := historyChecksRow.holds Tryz.pinned (OpenSpec.ofChange historyChecksSpec)

/-- ITS FALSE NEIGHBOUR: 'it returns false'. Refute it at one input. -/
def historyChecksWrong : ChangeSpec := { name := "historyChecks", fn := fun _ => fun
  | [d1, d2] => { results := [.lit (.bool false)], args := [d1, d2] }
  | _ => none }
def HistoryChecksWrongFalsely : Prop := historyChecksRow.holds Tryz.pinned (OpenSpec.ofChange historyChecksWrong)

/-- 'groundlinglaw24.HistoryCuts': WHATEVER THE INPUT: true; the input reads as it did. -/
def historyCutsSpec : ChangeSpec := { name := "historyCuts", fn := fun _ => fun
  | [d1, d2] => { results := [.lit (.bool true)], args := [d1, d2] }
  | _ => none }
def historyCutsRow : OpenClaim := { program := "ytnigceddndemkaagreatdoor", sum := "2fa5e5b168729fac6a1b28e2acf862184993dfe94cf3c9944bd4204abbb95613", func := "groundling/groundlinglaw24.HistoryCuts", spec := "historyCuts", inPlace := ["internal/bytealg.IndexByteString", "internal/bytealg.IndexString", "internal/abi.NoEscape", "internal/bytealg.MakeNoZero"], unfollowed := true, recurses := true, named := ["unicode/utf8.first", "unicode/utf8.acceptRanges", "groundling/plans.uses", "internal/strconv.uint64pow10", "math/bits.deBruijn32tab", "math/bits.deBruijn64tab", "internal/bytealg.MaxLen"], apart := false, laid := [("math/bits.deBruijn32tab", laid_math_bits_deBruijn32tab), ("math/bits.deBruijn64tab", laid_math_bits_deBruijn64tab), ("internal/strconv.uint64pow10", laid_internal_strconv_uint64pow10), ("unicode/utf8.acceptRanges", laid_unicode_utf8_acceptRanges), ("groundling/plans.uses", laid_groundling_plans_uses), ("unicode/utf8.first", laid_unicode_utf8_first)] }
def HistoryCutsSaid : Prop := historyCutsRow.holds Tryz.pinned (OpenSpec.ofChange historyCutsSpec)

/-- ITS FALSE NEIGHBOUR: 'it returns false'. Refute it at one input. -/
def historyCutsWrong : ChangeSpec := { name := "historyCuts", fn := fun _ => fun
  | [d1, d2] => { results := [.lit (.bool false)], args := [d1, d2] }
  | _ => none }
def HistoryCutsWrongFalsely : Prop := historyCutsRow.holds Tryz.pinned (OpenSpec.ofChange historyCutsWrong)

/-- 'groundlinglaw24.HistoryWitness': WHATEVER THE INPUT: true; the input reads as it did. -/
def historyWitnessSpec : ChangeSpec := { name := "historyWitness", fn := fun _ => fun
  | [d1, d2] => { results := [.lit (.bool true)], args := [d1, d2] }
  | _ => none }
def historyWitnessRow : OpenClaim := { program := "ytnigceddndemkaagreatdoor", sum := "2fa5e5b168729fac6a1b28e2acf862184993dfe94cf3c9944bd4204abbb95613", func := "groundling/groundlinglaw24.HistoryWitness", spec := "historyWitness", inPlace := ["internal/bytealg.IndexByteString", "internal/bytealg.IndexString", "internal/abi.NoEscape", "internal/bytealg.MakeNoZero"], unfollowed := true, recurses := true, named := ["unicode/utf8.first", "unicode/utf8.acceptRanges", "groundling/plans.uses", "internal/strconv.uint64pow10", "math/bits.deBruijn32tab", "math/bits.deBruijn64tab", "internal/bytealg.MaxLen"], apart := false, laid := [("math/bits.deBruijn32tab", laid_math_bits_deBruijn32tab), ("math/bits.deBruijn64tab", laid_math_bits_deBruijn64tab), ("internal/strconv.uint64pow10", laid_internal_strconv_uint64pow10), ("unicode/utf8.acceptRanges", laid_unicode_utf8_acceptRanges), ("groundling/plans.uses", laid_groundling_plans_uses), ("unicode/utf8.first", laid_unicode_utf8_first)] }
def HistoryWitnessSaid : Prop := historyWitnessRow.holds Tryz.pinned (OpenSpec.ofChange historyWitnessSpec)

/-- ITS FALSE NEIGHBOUR: 'it returns false'. Refute it at one input. -/
def historyWitnessWrong : ChangeSpec := { name := "historyWitness", fn := fun _ => fun
  | [d1, d2] => { results := [.lit (.bool false)], args := [d1, d2] }
  | _ => none }
def HistoryWitnessWrongFalsely : Prop := historyWitnessRow.holds Tryz.pinned (OpenSpec.ofChange historyWitnessWrong)

/-- 'groundlinglaw24.HistoryWidens': WHATEVER THE INPUT: true; the input reads as it did. -/
def historyWidensSpec : ChangeSpec := { name := "historyWidens", fn := fun _ => fun
  | [d1, d2, d3] => { results := [.lit (.bool true)], args := [d1, d2, d3] }
  | _ => none }
def historyWidensRow : OpenClaim := { program := "ytnigceddndemkaagreatdoor", sum := "2fa5e5b168729fac6a1b28e2acf862184993dfe94cf3c9944bd4204abbb95613", func := "groundling/groundlinglaw24.HistoryWidens", spec := "historyWidens", inPlace := ["internal/bytealg.IndexByteString", "internal/bytealg.IndexString", "internal/abi.NoEscape", "internal/bytealg.MakeNoZero"], unfollowed := true, recurses := true, named := ["unicode/utf8.first", "unicode/utf8.acceptRanges", "groundling/plans.uses", "internal/strconv.uint64pow10", "math/bits.deBruijn32tab", "math/bits.deBruijn64tab", "internal/bytealg.MaxLen"], apart := false, laid := [("math/bits.deBruijn32tab", laid_math_bits_deBruijn32tab), ("math/bits.deBruijn64tab", laid_math_bits_deBruijn64tab), ("internal/strconv.uint64pow10", laid_internal_strconv_uint64pow10), ("unicode/utf8.acceptRanges", laid_unicode_utf8_acceptRanges), ("groundling/plans.uses", laid_groundling_plans_uses), ("unicode/utf8.first", laid_unicode_utf8_first)] }
def HistoryWidensSaid : Prop := historyWidensRow.holds Tryz.pinned (OpenSpec.ofChange historyWidensSpec)

/-- ITS FALSE NEIGHBOUR: 'it returns false'. Refute it at one input. -/
def historyWidensWrong : ChangeSpec := { name := "historyWidens", fn := fun _ => fun
  | [d1, d2, d3] => { results := [.lit (.bool false)], args := [d1, d2, d3] }
  | _ => none }
def HistoryWidensWrongFalsely : Prop := historyWidensRow.holds Tryz.pinned (OpenSpec.ofChange historyWidensWrong)

/-- 'groundlinglaw24.HistoryPlain': WHATEVER THE INPUT: true; the input reads as it did. -/
def historyPlainSpec : ChangeSpec := { name := "historyPlain", fn := fun _ => fun
  | [d1, d2, d3] => { results := [.lit (.bool true)], args := [d1, d2, d3] }
  | _ => none }
def historyPlainRow : OpenClaim := { program := "ytnigceddndemkaagreatdoor", sum := "2fa5e5b168729fac6a1b28e2acf862184993dfe94cf3c9944bd4204abbb95613", func := "groundling/groundlinglaw24.HistoryPlain", spec := "historyPlain", inPlace := ["internal/bytealg.IndexByteString", "internal/bytealg.IndexString", "internal/abi.NoEscape", "internal/bytealg.MakeNoZero"], unfollowed := true, recurses := true, named := ["unicode/utf8.first", "unicode/utf8.acceptRanges", "groundling/plans.uses", "internal/strconv.uint64pow10", "math/bits.deBruijn32tab", "math/bits.deBruijn64tab", "internal/bytealg.MaxLen"], apart := false, laid := [("math/bits.deBruijn32tab", laid_math_bits_deBruijn32tab), ("math/bits.deBruijn64tab", laid_math_bits_deBruijn64tab), ("internal/strconv.uint64pow10", laid_internal_strconv_uint64pow10), ("unicode/utf8.acceptRanges", laid_unicode_utf8_acceptRanges), ("groundling/plans.uses", laid_groundling_plans_uses), ("unicode/utf8.first", laid_unicode_utf8_first)] }
def HistoryPlainSaid : Prop := historyPlainRow.holds Tryz.pinned (OpenSpec.ofChange historyPlainSpec)

/-- ITS FALSE NEIGHBOUR: 'it returns false'. Refute it at one input. -/
def historyPlainWrong : ChangeSpec := { name := "historyPlain", fn := fun _ => fun
  | [d1, d2, d3] => { results := [.lit (.bool false)], args := [d1, d2, d3] }
  | _ => none }
def HistoryPlainWrongFalsely : Prop := historyPlainRow.holds Tryz.pinned (OpenSpec.ofChange historyPlainWrong)

/- THE SECOND FORM. 'bulk': how many values and letters a reading holds, each counted each time it is reached (what is shared counts as often as it is met; a slice's spare places count too). A statement '..UptoSaid' is the law's where the arguments, and the package variables that the reading takes, are together of bulk at most 1048576: NARROWER than '..Said'. Prove '..Said' where nothing that the law and all that it calls make is longer than what came in: it says more and counts as full. Else prove '..UptoSaid'. A law counts once. -/
mutual
def uptoBulk {H : Type} : DataW H → Nat
  | .lit (.string bytes) => bytes.length + 1
  | .lit _ => 1
  | .nil => 1
  | .ptr d => uptoBulk d + 1
  | .slice elems spare => uptoBulkAll elems + uptoBulkAll spare + 1
  | .agg parts => uptoBulkAll parts + 1
  | .iface _ d => uptoBulk d + 1
  | .map entries => uptoBulkEntries entries + 1
  | .held _ => 1
def uptoBulkAll {H : Type} : List (DataW H) → Nat
  | [] => 0
  | d :: r => uptoBulk d + uptoBulkAll r
def uptoBulkEntries {H : Type} : List (Lit × DataW H) → Nat
  | [] => 0
  | x :: r => uptoBulkEntry x + uptoBulkEntries r
def uptoBulkEntry {H : Type} : Lit × DataW H → Nat
  | (.string bytes, d) => bytes.length + uptoBulk d + 1
  | (_, d) => uptoBulk d + 1
 end
def uptoSmall : (H : Type) → List (DataW H) → Bool := fun _ ds => decide (uptoBulkAll ds ≤ 1048576)
def OpenSpec.upto (s : _root_.Go.ChangeSpec) : _root_.Go.OpenSpec := { _root_.Go.OpenSpec.ofChange s with cond := some uptoSmall }

/-- 'groundlinglaw18.ShardsParts', WHERE WHAT IT READS IS OF BULK AT MOST 1048576: true; the input reads as it did. -/
def shardsPartsUptoRow : OpenClaim := { program := "ytnigceddndemkaagreatdoor", sum := "2fa5e5b168729fac6a1b28e2acf862184993dfe94cf3c9944bd4204abbb95613", func := "groundling/groundlinglaw18.ShardsParts", spec := "shardsParts", inPlace := ["internal/bytealg.IndexByteString", "internal/bytealg.IndexString"], unfollowed := true, recurses := true, named := ["unicode/utf8.first", "unicode/utf8.acceptRanges", "internal/bytealg.MaxLen"], apart := false, laid := [("unicode/utf8.acceptRanges", laid_unicode_utf8_acceptRanges), ("unicode/utf8.first", laid_unicode_utf8_first)], narrowed := true }
def ShardsPartsUptoSaid : Prop := shardsPartsUptoRow.holds Tryz.pinned (OpenSpec.upto shardsPartsSpec)

/-- 'groundlinglaw18.ShardsExpire', WHERE WHAT IT READS IS OF BULK AT MOST 1048576: true; the input reads as it did. -/
def shardsExpireUptoRow : OpenClaim := { program := "ytnigceddndemkaagreatdoor", sum := "2fa5e5b168729fac6a1b28e2acf862184993dfe94cf3c9944bd4204abbb95613", func := "groundling/groundlinglaw18.ShardsExpire", spec := "shardsExpire", inPlace := ["internal/bytealg.IndexByteString", "internal/bytealg.IndexString"], unfollowed := true, recurses := true, named := ["unicode/utf8.first", "unicode/utf8.acceptRanges", "internal/bytealg.MaxLen"], apart := false, laid := [("unicode/utf8.acceptRanges", laid_unicode_utf8_acceptRanges), ("unicode/utf8.first", laid_unicode_utf8_first)], narrowed := true }
def ShardsExpireUptoSaid : Prop := shardsExpireUptoRow.holds Tryz.pinned (OpenSpec.upto shardsExpireSpec)

/-- 'groundlinglaw18.ShardsLoads', WHERE WHAT IT READS IS OF BULK AT MOST 1048576: true; the input reads as it did. -/
def shardsLoadsUptoRow : OpenClaim := { program := "ytnigceddndemkaagreatdoor", sum := "2fa5e5b168729fac6a1b28e2acf862184993dfe94cf3c9944bd4204abbb95613", func := "groundling/groundlinglaw18.ShardsLoads", spec := "shardsLoads", inPlace := ["internal/bytealg.IndexByteString", "internal/bytealg.IndexString"], unfollowed := true, recurses := true, named := ["unicode/utf8.first", "unicode/utf8.acceptRanges", "internal/bytealg.MaxLen"], apart := false, laid := [("unicode/utf8.acceptRanges", laid_unicode_utf8_acceptRanges), ("unicode/utf8.first", laid_unicode_utf8_first)], narrowed := true }
def ShardsLoadsUptoSaid : Prop := shardsLoadsUptoRow.holds Tryz.pinned (OpenSpec.upto shardsLoadsSpec)

/-- 'groundlinglaw18.ShardsAny', WHERE WHAT IT READS IS OF BULK AT MOST 1048576: true; the input reads as it did. -/
def shardsAnyUptoRow : OpenClaim := { program := "ytnigceddndemkaagreatdoor", sum := "2fa5e5b168729fac6a1b28e2acf862184993dfe94cf3c9944bd4204abbb95613", func := "groundling/groundlinglaw18.ShardsAny", spec := "shardsAny", inPlace := ["internal/bytealg.IndexByteString", "internal/bytealg.IndexString"], unfollowed := true, recurses := true, named := ["unicode/utf8.first", "unicode/utf8.acceptRanges", "internal/bytealg.MaxLen"], apart := false, laid := [("unicode/utf8.acceptRanges", laid_unicode_utf8_acceptRanges), ("unicode/utf8.first", laid_unicode_utf8_first)], narrowed := true }
def ShardsAnyUptoSaid : Prop := shardsAnyUptoRow.holds Tryz.pinned (OpenSpec.upto shardsAnySpec)

/-- 'groundlinglaw18.ShardsPlays', WHERE WHAT IT READS IS OF BULK AT MOST 1048576: true; the input reads as it did. -/
def shardsPlaysUptoRow : OpenClaim := { program := "ytnigceddndemkaagreatdoor", sum := "2fa5e5b168729fac6a1b28e2acf862184993dfe94cf3c9944bd4204abbb95613", func := "groundling/groundlinglaw18.ShardsPlays", spec := "shardsPlays", inPlace := ["internal/bytealg.IndexByteString", "internal/bytealg.IndexString"], unfollowed := true, recurses := true, named := ["unicode/utf8.first", "unicode/utf8.acceptRanges", "internal/bytealg.MaxLen"], apart := false, laid := [("unicode/utf8.acceptRanges", laid_unicode_utf8_acceptRanges), ("unicode/utf8.first", laid_unicode_utf8_first)], narrowed := true }
def ShardsPlaysUptoSaid : Prop := shardsPlaysUptoRow.holds Tryz.pinned (OpenSpec.upto shardsPlaysSpec)

/-- 'groundlinglaw24.HistoryPairs', WHERE WHAT IT READS IS OF BULK AT MOST 1048576: true; the input reads as it did. -/
def historyPairsUptoRow : OpenClaim := { program := "ytnigceddndemkaagreatdoor", sum := "2fa5e5b168729fac6a1b28e2acf862184993dfe94cf3c9944bd4204abbb95613", func := "groundling/groundlinglaw24.HistoryPairs", spec := "historyPairs", inPlace := ["internal/bytealg.IndexByteString", "internal/bytealg.IndexString", "internal/abi.NoEscape", "internal/bytealg.MakeNoZero"], unfollowed := true, recurses := true, named := ["unicode/utf8.first", "unicode/utf8.acceptRanges", "groundling/plans.uses", "internal/strconv.uint64pow10", "math/bits.deBruijn32tab", "math/bits.deBruijn64tab", "internal/bytealg.MaxLen"], apart := false, laid := [("math/bits.deBruijn32tab", laid_math_bits_deBruijn32tab), ("math/bits.deBruijn64tab", laid_math_bits_deBruijn64tab), ("internal/strconv.uint64pow10", laid_internal_strconv_uint64pow10), ("unicode/utf8.acceptRanges", laid_unicode_utf8_acceptRanges), ("groundling/plans.uses", laid_groundling_plans_uses), ("unicode/utf8.first", laid_unicode_utf8_first)], narrowed := true }
def HistoryPairsUptoSaid : Prop := historyPairsUptoRow.holds Tryz.pinned (OpenSpec.upto historyPairsSpec)

/-- 'groundlinglaw24.HistoryIntervals', WHERE WHAT IT READS IS OF BULK AT MOST 1048576: true; the input reads as it did. -/
def historyIntervalsUptoRow : OpenClaim := { program := "ytnigceddndemkaagreatdoor", sum := "2fa5e5b168729fac6a1b28e2acf862184993dfe94cf3c9944bd4204abbb95613", func := "groundling/groundlinglaw24.HistoryIntervals", spec := "historyIntervals", inPlace := ["internal/bytealg.IndexByteString", "internal/bytealg.IndexString", "internal/abi.NoEscape", "internal/bytealg.MakeNoZero"], unfollowed := true, recurses := true, named := ["unicode/utf8.first", "unicode/utf8.acceptRanges", "groundling/plans.uses", "internal/strconv.uint64pow10", "math/bits.deBruijn32tab", "math/bits.deBruijn64tab", "internal/bytealg.MaxLen"], apart := false, laid := [("math/bits.deBruijn32tab", laid_math_bits_deBruijn32tab), ("math/bits.deBruijn64tab", laid_math_bits_deBruijn64tab), ("internal/strconv.uint64pow10", laid_internal_strconv_uint64pow10), ("unicode/utf8.acceptRanges", laid_unicode_utf8_acceptRanges), ("groundling/plans.uses", laid_groundling_plans_uses), ("unicode/utf8.first", laid_unicode_utf8_first)], narrowed := true }
def HistoryIntervalsUptoSaid : Prop := historyIntervalsUptoRow.holds Tryz.pinned (OpenSpec.upto historyIntervalsSpec)

/-- 'groundlinglaw24.HistoryChecks', WHERE WHAT IT READS IS OF BULK AT MOST 1048576: true; the input reads as it did. -/
def historyChecksUptoRow : OpenClaim := { program := "ytnigceddndemkaagreatdoor", sum := "2fa5e5b168729fac6a1b28e2acf862184993dfe94cf3c9944bd4204abbb95613", func := "groundling/groundlinglaw24.HistoryChecks", spec := "historyChecks", inPlace := ["internal/bytealg.IndexByteString", "internal/bytealg.IndexString", "internal/abi.NoEscape", "internal/bytealg.MakeNoZero"], unfollowed := true, recurses := true, named := ["unicode/utf8.first", "unicode/utf8.acceptRanges", "groundling/plans.uses", "internal/strconv.uint64pow10", "math/bits.deBruijn32tab", "math/bits.deBruijn64tab", "internal/bytealg.MaxLen"], apart := false, laid := [("math/bits.deBruijn32tab", laid_math_bits_deBruijn32tab), ("math/bits.deBruijn64tab", laid_math_bits_deBruijn64tab), ("internal/strconv.uint64pow10", laid_internal_strconv_uint64pow10), ("unicode/utf8.acceptRanges", laid_unicode_utf8_acceptRanges), ("groundling/plans.uses", laid_groundling_plans_uses), ("unicode/utf8.first", laid_unicode_utf8_first)], narrowed := true }
def HistoryChecksUptoSaid : Prop := historyChecksUptoRow.holds Tryz.pinned (OpenSpec.upto historyChecksSpec)

/-- 'groundlinglaw24.HistoryCuts', WHERE WHAT IT READS IS OF BULK AT MOST 1048576: true; the input reads as it did. -/
def historyCutsUptoRow : OpenClaim := { program := "ytnigceddndemkaagreatdoor", sum := "2fa5e5b168729fac6a1b28e2acf862184993dfe94cf3c9944bd4204abbb95613", func := "groundling/groundlinglaw24.HistoryCuts", spec := "historyCuts", inPlace := ["internal/bytealg.IndexByteString", "internal/bytealg.IndexString", "internal/abi.NoEscape", "internal/bytealg.MakeNoZero"], unfollowed := true, recurses := true, named := ["unicode/utf8.first", "unicode/utf8.acceptRanges", "groundling/plans.uses", "internal/strconv.uint64pow10", "math/bits.deBruijn32tab", "math/bits.deBruijn64tab", "internal/bytealg.MaxLen"], apart := false, laid := [("math/bits.deBruijn32tab", laid_math_bits_deBruijn32tab), ("math/bits.deBruijn64tab", laid_math_bits_deBruijn64tab), ("internal/strconv.uint64pow10", laid_internal_strconv_uint64pow10), ("unicode/utf8.acceptRanges", laid_unicode_utf8_acceptRanges), ("groundling/plans.uses", laid_groundling_plans_uses), ("unicode/utf8.first", laid_unicode_utf8_first)], narrowed := true }
def HistoryCutsUptoSaid : Prop := historyCutsUptoRow.holds Tryz.pinned (OpenSpec.upto historyCutsSpec)

/-- 'groundlinglaw24.HistoryWitness', WHERE WHAT IT READS IS OF BULK AT MOST 1048576: true; the input reads as it did. -/
def historyWitnessUptoRow : OpenClaim := { program := "ytnigceddndemkaagreatdoor", sum := "2fa5e5b168729fac6a1b28e2acf862184993dfe94cf3c9944bd4204abbb95613", func := "groundling/groundlinglaw24.HistoryWitness", spec := "historyWitness", inPlace := ["internal/bytealg.IndexByteString", "internal/bytealg.IndexString", "internal/abi.NoEscape", "internal/bytealg.MakeNoZero"], unfollowed := true, recurses := true, named := ["unicode/utf8.first", "unicode/utf8.acceptRanges", "groundling/plans.uses", "internal/strconv.uint64pow10", "math/bits.deBruijn32tab", "math/bits.deBruijn64tab", "internal/bytealg.MaxLen"], apart := false, laid := [("math/bits.deBruijn32tab", laid_math_bits_deBruijn32tab), ("math/bits.deBruijn64tab", laid_math_bits_deBruijn64tab), ("internal/strconv.uint64pow10", laid_internal_strconv_uint64pow10), ("unicode/utf8.acceptRanges", laid_unicode_utf8_acceptRanges), ("groundling/plans.uses", laid_groundling_plans_uses), ("unicode/utf8.first", laid_unicode_utf8_first)], narrowed := true }
def HistoryWitnessUptoSaid : Prop := historyWitnessUptoRow.holds Tryz.pinned (OpenSpec.upto historyWitnessSpec)

/-- 'groundlinglaw24.HistoryWidens', WHERE WHAT IT READS IS OF BULK AT MOST 1048576: true; the input reads as it did. -/
def historyWidensUptoRow : OpenClaim := { program := "ytnigceddndemkaagreatdoor", sum := "2fa5e5b168729fac6a1b28e2acf862184993dfe94cf3c9944bd4204abbb95613", func := "groundling/groundlinglaw24.HistoryWidens", spec := "historyWidens", inPlace := ["internal/bytealg.IndexByteString", "internal/bytealg.IndexString", "internal/abi.NoEscape", "internal/bytealg.MakeNoZero"], unfollowed := true, recurses := true, named := ["unicode/utf8.first", "unicode/utf8.acceptRanges", "groundling/plans.uses", "internal/strconv.uint64pow10", "math/bits.deBruijn32tab", "math/bits.deBruijn64tab", "internal/bytealg.MaxLen"], apart := false, laid := [("math/bits.deBruijn32tab", laid_math_bits_deBruijn32tab), ("math/bits.deBruijn64tab", laid_math_bits_deBruijn64tab), ("internal/strconv.uint64pow10", laid_internal_strconv_uint64pow10), ("unicode/utf8.acceptRanges", laid_unicode_utf8_acceptRanges), ("groundling/plans.uses", laid_groundling_plans_uses), ("unicode/utf8.first", laid_unicode_utf8_first)], narrowed := true }
def HistoryWidensUptoSaid : Prop := historyWidensUptoRow.holds Tryz.pinned (OpenSpec.upto historyWidensSpec)

/-- 'groundlinglaw24.HistoryPlain', WHERE WHAT IT READS IS OF BULK AT MOST 1048576: true; the input reads as it did. -/
def historyPlainUptoRow : OpenClaim := { program := "ytnigceddndemkaagreatdoor", sum := "2fa5e5b168729fac6a1b28e2acf862184993dfe94cf3c9944bd4204abbb95613", func := "groundling/groundlinglaw24.HistoryPlain", spec := "historyPlain", inPlace := ["internal/bytealg.IndexByteString", "internal/bytealg.IndexString", "internal/abi.NoEscape", "internal/bytealg.MakeNoZero"], unfollowed := true, recurses := true, named := ["unicode/utf8.first", "unicode/utf8.acceptRanges", "groundling/plans.uses", "internal/strconv.uint64pow10", "math/bits.deBruijn32tab", "math/bits.deBruijn64tab", "internal/bytealg.MaxLen"], apart := false, laid := [("math/bits.deBruijn32tab", laid_math_bits_deBruijn32tab), ("math/bits.deBruijn64tab", laid_math_bits_deBruijn64tab), ("internal/strconv.uint64pow10", laid_internal_strconv_uint64pow10), ("unicode/utf8.acceptRanges", laid_unicode_utf8_acceptRanges), ("groundling/plans.uses", laid_groundling_plans_uses), ("unicode/utf8.first", laid_unicode_utf8_first)], narrowed := true }
def HistoryPlainUptoSaid : Prop := historyPlainUptoRow.holds Tryz.pinned (OpenSpec.upto historyPlainSpec)

end Rows
end Go.Proofs.YtnigceddndemkaaGreatDoor
