/- maps.Keys and slices.Sorted: the library's contracts, at this program. -/
import Derived.Test.YthjakbhkmpdblaaGreatDoorSBaseW
import Derived.Test.YthjakbhkmpdblaaGreatDoorSLaysK
set_option maxRecDepth 100000
namespace Go.Proofs.YthjakbhkmpdblaaGreatDoor
open Go Go.Eng Go.RowKit Go.Maps Go.Proofs
theorem keys_ok : CalleeOK Tryz.prog PlanTab.ng (keyC 72 103 133) :=
  keyC_ok Tryz.func72 (by kernel_rfl) rfl fun mb w => (callsIn_wide (n := 5)).1 (AnyZI.keys_in laysK Fence.wide 5 trivial rfl mb w)
theorem sorts_wide (m : Nat) : AnyZI.SortsIn Tryz.prog laysD_ren Fence.wide m :=
  ⟨fun blk off cap ss W hH hblk hsz => callsIn_wide.2 (AnyM.slices_Sort_int laysS blk off cap ss W hH hblk hsz), fun p cap W => callsIn_wide.2 (AnyM.slices_Sort_int_none laysS p cap W)⟩
theorem sorted_ok : CalleeOK Tryz.prog PlanTab.ng (sdC 71 103) :=
  sdC_ok Tryz.func71 (by kernel_rfl) rfl Tryz.underlying3 fun Bm b nn D0 w hB hm hown hmax hb =>
    (callsIn_wide (n := 5)).1 (AnyZI.sorted_in laysD Fence.wide 5 trivial trivial trivial trivial rfl (by omega) (sorts_wide _) (enters_of Tryz.func102 (by kernel_rfl) rfl) 103 #[.pointer (some ⟨Bm, 0, none⟩)] trivial (enters_of Tryz.func103 (by kernel_rfl) rfl) _ _ hmax hb w
      (AnyZI.keys_gives (ρ := laysK_ren) { laysK with } Fence.wide _ trivial rfl (by omega) Bm b nn D0 w hB hm hown))
end Go.Proofs.YthjakbhkmpdblaaGreatDoor
