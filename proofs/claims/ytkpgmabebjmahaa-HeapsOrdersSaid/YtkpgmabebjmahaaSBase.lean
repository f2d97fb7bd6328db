/- What this seat's open texts rest on: the orders, the program's texts, and the callees that are answered for. -/
import Derived.Test.YtkpgmabebjmahaaOpnA
import Derived.Test.YtkpgmabebjmahaaOpzA
import Derived.Test.YtkpgmabebjmahaaSTab
import Derived.Test.YtkpgmabebjmahaaChecked
namespace Go.Proofs.Ytkpgmabebjmahaa
open Go Go.Eng
noncomputable instance opens : PlanTab := funTab (fun id ops => T.get (path (planKey id ops)) tab) []
noncomputable def cod (i : Nat) : Code := bodyAt Try.prog i
noncomputable def rss (i : Nat) : Array ResultVar := rssAt Try.prog i
def awakeV : List Value → Option Value
  | [] => some (.bool true)
  | _ => none
def bads : List Nat := [2, 12, 17, 83, 101, 122]
/-- without the sorting of what is ordered by a function: the orders are answered so -/
noncomputable def specs1 : Eng.Callee := specL [(12, memoV 12 [] awakeV), (17, memoV 17 [] awakeV)]
noncomputable def om1 : Eng.Callee := om Try.prog bads specs1
noncomputable def specs : Eng.Callee := specL [(12, memoV 12 [] awakeV), (17, memoV 17 [] awakeV), (83, sortFC Try.prog (ansOm om1) [] true 2 83), (101, sortFC Try.prog (ansPtr om1 102 103) [] false 1 101), (122, sortFC Try.prog (ansPtr om1 123 124) [] false 1 122)]
noncomputable def omS : Eng.Callee := om Try.prog bads specs
theorem specs_le : CLe specs1 specs := by
  intro f a W r h
  unfold specs1 specs at *
  unfold specL at h ⊢
  split at h
  · split at h
    · exact h
    · unfold specL at h ⊢
      simp only at h ⊢
      split at h
      · exact h
      · unfold specL at h
        cases h
  · cases h
theorem om1_le : CLe om1 omS := om_spec_le specs_le
theorem awake_ok (W : AW) : omS (.func (.func 12) #[] #[]) [] W = some (.bool true, W) := by
  have h0 : memoV 12 [] awakeV (.func (.func 12) #[] #[]) [] W = some (.bool true, W) := memoV_at (fun _ h => by cases h) rfl rfl rfl
  have h1 : specs (.func (.func 12) #[] #[]) [] W = some (.bool true, W) := h0
  have h2 := om_spec (P := Try.prog) (bad := bads) (spec := specs) (i := 12) (by decide) h1
  rw [gc_bool (.refl _)] at h2
  exact h2
theorem sort_ok {F k : Nat} {ag : Bool} {ans : AnsF} (hb : inL F bads = true) (hs : ∀ fs args W, specs (.func (.func F) fs #[]) args W = sortFC Try.prog ans [] ag k F (.func (.func F) fs #[]) args W) {W W' : AW} {args : List Value} (h : SortFA Try.prog ans [] ag k W args W') : omS (.func (.func F) #[] #[]) args W = some (.tuple #[], W') := by
  have h1 : specs (.func (.func F) #[] #[]) args W = some (.tuple #[], W') := (hs _ _ _).trans (sortFC_at h)
  have h2 := om_spec (P := Try.prog) (bad := bads) (spec := specs) (i := F) hb h1
  rw [gc_not rfl] at h2
  exact h2
theorem sort101_ok {W W' : AW} {args : List Value} (h : SortFA Try.prog (ansPtr om1 102 103) [] false 1 W args W') : omS (.func (.func 101) #[] #[]) args W = some (.tuple #[], W') := sort_ok (by decide) (fun _ _ _ => rfl) h
end Go.Proofs.Ytkpgmabebjmahaa
