/- What this seat's open texts rest on: the orders, the program's texts, and the callees that are answered for. -/
import Derived.Test.YtkpgmabebjmahaaOpnA
import Derived.Test.YtkpgmabebjmahaaSTab
import Derived.Test.YtkpgmabebjmahaaChecked
namespace Go.Proofs.Ytkpgmabebjmahaa
open Go Go.Eng
noncomputable instance opens : PlanTab := funTab (fun id ops => T.get (path (planKey id ops)) tab) []
noncomputable def cod (i : Nat) : Code := bodyAt Try.prog i
noncomputable def rss (i : Nat) : Array ResultVar := rssAt Try.prog i
def awakeV : List Value → Option Value
  | [] => some (.bool true)
  | _ => none
def bads : List Nat := [2, 12]
noncomputable def specs : Eng.Callee := specL [(12, memoV 12 [] awakeV)]
noncomputable def omS : Eng.Callee := om Try.prog bads specs
theorem awake_ok (W : AW) : omS (.func (.func 12) #[] #[]) [] W = some (.bool true, W) := by
  have h0 : memoV 12 [] awakeV (.func (.func 12) #[] #[]) [] W = some (.bool true, W) := memoV_at (fun _ h => by cases h) rfl rfl rfl
  have h1 : specs (.func (.func 12) #[] #[]) [] W = some (.bool true, W) := h0
  have h2 := om_spec (P := Try.prog) (bad := bads) (spec := specs) (i := 12) (by decide) h1
  rw [gc_bool (.refl _)] at h2
  exact h2
end Go.Proofs.Ytkpgmabebjmahaa
