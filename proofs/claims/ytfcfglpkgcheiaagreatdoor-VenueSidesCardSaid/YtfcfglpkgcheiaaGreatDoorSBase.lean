/- What this seat's open texts of the venue rest on: the orders, the program's texts, and the callees that are answered for. -/
import Derived.Test.YtfcfglpkgcheiaaGreatDoorOpnA
import Derived.Test.YtfcfglpkgcheiaaGreatDoorSTab
import Derived.Test.YtfcfglpkgcheiaaGreatDoorSGlob
import Derived.Test.YtfcfglpkgcheiaaGreatDoorChecked
namespace Go.Proofs.YtfcfglpkgcheiaaGreatDoor
open Go Go.Eng
noncomputable instance opens : PlanTab := funTab (fun id ops => T.get (path (planKey id ops)) tab) [0, 2, 3]
noncomputable def cod (i : Nat) : Code := bodyAt Tryz.prog i
noncomputable def rss (i : Nat) : Array ResultVar := rssAt Tryz.prog i
/-- is a string a name: at most sixteen letters and digits and dashes, a letter first -/
def nameC (c : UInt8) : Bool := decide (97 ≤ c.toNat) && decide (c.toNat ≤ 122) || decide (48 ≤ c.toNat) && decide (c.toNat ≤ 57) || c.toNat == 45
def nameL (l : List UInt8) : Bool := match l with
  | [] => false
  | c :: _ => decide (97 ≤ c.toNat) && decide (c.toNat ≤ 122) && decide (l.length ≤ 16) && l.all nameC
def awakeV : List Value → Option Value
  | [] => some (.bool true)
  | _ => none
def bads : List Nat := [6, 42, 110, 143]
noncomputable def specs : Eng.Callee := specL [(6, memoV 6 globW awakeV), (42, sortC 42)]
noncomputable def omS : Eng.Callee := om Tryz.prog bads specs
/-- the package variables lie as the text lays them -/
abbrev GW (W : AW) : Prop := GlobW globW W
theorem awake_ok {W : AW} (h : GW W) : omS (.func (.func 6) #[] #[]) [] W = some (.bool true, W) := by
  have h0 : memoV 6 globW awakeV (.func (.func 6) #[] #[]) [] W = some (.bool true, W) := memoV_at h rfl rfl rfl
  have h1 : specs (.func (.func 6) #[] #[]) [] W = some (.bool true, W) := h0
  have h2 := om_spec (P := Tryz.prog) (bad := bads) (spec := specs) (i := 6) (by decide) h1
  rw [gc_bool (.refl _)] at h2
  exact h2
/-- slices.Sort of a whole block -/
theorem sort_ok {W W' : AW} {args : List Value} (h : SortArgs W args W') : omS (.func (.func 42) #[] #[]) args W = some (.tuple #[], W') := by
  have h0 : sortC 42 (.func (.func 42) #[] #[]) args W = some (.tuple #[], W') := sortC_at h
  have h1 : specs (.func (.func 42) #[] #[]) args W = some (.tuple #[], W') := h0
  have h2 := om_spec (P := Tryz.prog) (bad := bads) (spec := specs) (i := 42) (by decide) h1
  rw [gc_not rfl] at h2
  exact h2
end Go.Proofs.YtfcfglpkgcheiaaGreatDoor
