/- The walk of ShardsNone, reckoned by the engine, whatever its argument. -/
import Derived.Test.YthllkganhkgjcaaGreatDoorEngBase
namespace Go.Proofs.YthllkganhkgjcaaGreatDoor
open Go Go.Eng Go.RowKit
theorem shardsNone_walk (a b c d e f g h : Int) (w : World) : Calls Tryz.prog 4 #[.agg #[.int .u8 a, .int .i64 b, .int .i64 c, .int .i64 d, .int .u32 e, .int .i64 f, .int .u64 g, .int .u64 h]] w fun e w' => e = .returned (.bool true) ∧ Grown w w' :=
  closed_calls follows rfl looked 100 (args := [.agg #[.int .u8 a, .int .i64 b, .int .i64 c, .int .i64 d, .int .u32 e, .int .i64 f, .int .u64 g, .int .u64 h]]) rfl (by kernel_rfl) w
end Go.Proofs.YthllkganhkgjcaaGreatDoor
