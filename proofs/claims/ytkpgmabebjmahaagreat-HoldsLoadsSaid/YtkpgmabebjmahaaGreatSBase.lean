/- What this seat's open texts rest on: the orders, the program's texts, and the callees that are answered for. -/
import Derived.Test.YtkpgmabebjmahaaGreatOpnA
import Derived.Test.YtkpgmabebjmahaaGreatOpzA
import Derived.Test.YtkpgmabebjmahaaGreatSTab
import Derived.Test.YtkpgmabebjmahaaGreatChecked
namespace Go.Proofs.YtkpgmabebjmahaaGreat
open Go Go.Eng
noncomputable instance opens : PlanTab := funTab (fun id ops => T.get (path (planKey id ops)) tab) []
noncomputable def cod (i : Nat) : Code := bodyAt Tryz.prog i
noncomputable def rss (i : Nat) : Array ResultVar := rssAt Tryz.prog i
def awakeV : List Value → Option Value
  | [] => some (.bool true)
  | _ => none
def bads : List Nat := [2, 4, 23, 63]
/-- without the sorting of what is ordered by a function: the orders are answered so -/
noncomputable def specs1 : Eng.Callee := specL [(4, memoV 4 [] awakeV)]
noncomputable def om1 : Eng.Callee := om Tryz.prog bads specs1
noncomputable def specs : Eng.Callee := specL [(4, memoV 4 [] awakeV), (23, sortFC Tryz.prog (ansOm om1) [] true 2 23), (63, sortFC Tryz.prog (ansPtr om1 64 65) [] false 1 63)]
noncomputable def omS : Eng.Callee := om Tryz.prog bads specs
theorem specs_le : CLe specs1 specs := by
  intro f a W r h
  unfold specs1 specs at *
  unfold specL at h ⊢
  split at h
  · split at h
    · exact h
    · unfold specL at h
      cases h
  · cases h
theorem om1_le : CLe om1 omS := om_spec_le specs_le
theorem awake4_ok (W : AW) : omS (.func (.func 4) #[] #[]) [] W = some (.bool true, W) := by
  have h0 : memoV 4 [] awakeV (.func (.func 4) #[] #[]) [] W = some (.bool true, W) := memoV_at (fun _ h => by cases h) rfl rfl rfl
  have h1 : specs (.func (.func 4) #[] #[]) [] W = some (.bool true, W) := h0
  have h2 := om_spec (P := Tryz.prog) (bad := bads) (spec := specs) (i := 4) (by decide) h1
  rw [gc_bool (.refl _)] at h2
  exact h2
theorem sort_ok {F k : Nat} {ag : Bool} {ans : AnsF} (hb : inL F bads = true) (hs : ∀ fs args W, specs (.func (.func F) fs #[]) args W = sortFC Tryz.prog ans [] ag k F (.func (.func F) fs #[]) args W) {W W' : AW} {args : List Value} (h : SortFA Tryz.prog ans [] ag k W args W') : omS (.func (.func F) #[] #[]) args W = some (.tuple #[], W') := by
  have h1 : specs (.func (.func F) #[] #[]) args W = some (.tuple #[], W') := (hs _ _ _).trans (sortFC_at h)
  have h2 := om_spec (P := Tryz.prog) (bad := bads) (spec := specs) (i := F) hb h1
  rw [gc_not rfl] at h2
  exact h2
theorem sort23_ok {W W' : AW} {args : List Value} (h : SortFA Tryz.prog (ansOm om1) [] true 2 W args W') : omS (.func (.func 23) #[] #[]) args W = some (.tuple #[], W') := sort_ok (by decide) (fun _ _ _ => rfl) h
theorem sort63_ok {W W' : AW} {args : List Value} (h : SortFA Tryz.prog (ansPtr om1 64 65) [] false 1 W args W') : omS (.func (.func 63) #[] #[]) args W = some (.tuple #[], W') := sort_ok (by decide) (fun _ _ _ => rfl) h
end Go.Proofs.YtkpgmabebjmahaaGreat
