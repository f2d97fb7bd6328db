/- The orders of a queue's entries, walked: 0 at one and the same, else what before answers. -/
import Derived.Test.YtkpgmabebjmahaaOpzA
import Derived.KernelRfl
import Derived.Test.YtkpgmabebjmahaaChecked
import Derived.WalkKit
import Derived.ProofKit
import Derived.LaidEql
import Derived.OwnWalk
namespace Go.Proofs.Ytkpgmabebjmahaa
open Go Go.Eng Go.Sort
variable [PlanTab]
set_option linter.unusedVariables false
set_option linter.unusedSectionVars false
set_option maxRecDepth 100000
theorem eqlPtr {P : Program} {t e : TypeId} {n : Nat} {A B : Addr} {r : Bool} {w : World} (hu : P.underlying t = some (.pointer e)) (hn : tSz P e = some (n + 1)) (hs : (sameAddr A B).run P w = .ok r w) :
    (binOp .eql t (.pointer (some A)) (.pointer (some B))).run P w = .ok (.bool r) w := by
  have h : ∀ d, (Op.equalIn (d + 1) t (.pointer (some A)) (.pointer (some B))).run P w = .ok r w := by
    intro d
    simp [Op.equalIn, run_underlying hu, run_sizeOf' hn, hs]
  have h2 : (Op.equal t (.pointer (some A)) (.pointer (some B))).run P w = .ok r w := h 9999
  have e : binOp .eql t (.pointer (some A)) (.pointer (some B)) = (do pure (.bool (← Op.equal t (.pointer (some A)) (.pointer (some B))))) := rfl
  rw [e, Sem.run_bind, h2]
  rfl
theorem clo102 : Clo Try.prog 102 103 := by
  intro w A B X Q same bf hx hab hb
  have hbin := eqlPtr (t := 127) Try.underlying127 (n := 2) (by kernel_rfl) hab
  go_enter Try.func102, Try.ntmps102
  go_wp2_with fail
  · go_ret
    exact ⟨rfl, 0, #[], by rw [grow_empty]; rfl⟩
  · refine (hb (by assumption)).mono ?_
    rintro e w' ⟨rfl, q, os, rfl⟩
    go_wp2
    all_goals go_ret
    all_goals first
      | exact ⟨rfl, q, os, rfl⟩
      | (exfalso; simp_all; done)
theorem clo123 : Clo Try.prog 123 124 := by
  intro w A B X Q same bf hx hab hb
  have hbin := eqlPtr (t := 187) Try.underlying187 (n := 3) (by kernel_rfl) hab
  go_enter Try.func123, Try.ntmps123
  go_wp2_with fail
  · go_ret
    exact ⟨rfl, 0, #[], by rw [grow_empty]; rfl⟩
  · refine (hb (by assumption)).mono ?_
    rintro e w' ⟨rfl, q, os, rfl⟩
    go_wp2
    all_goals go_ret
    all_goals first
      | exact ⟨rfl, q, os, rfl⟩
      | (exfalso; simp_all; done)
end Go.Proofs.Ytkpgmabebjmahaa
