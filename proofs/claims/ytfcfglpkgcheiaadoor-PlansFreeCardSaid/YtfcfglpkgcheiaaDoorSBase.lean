/- What this seat's open texts rest on: the orders, the program's texts, and the callees that are answered for. -/
import Derived.Test.YtfcfglpkgcheiaaDoorOpnA
import Derived.Test.YtfcfglpkgcheiaaDoorSTab
import Derived.Test.YtfcfglpkgcheiaaDoorChecked
namespace Go.Proofs.YtfcfglpkgcheiaaDoor
open Go Go.Eng
noncomputable instance opens : PlanTab := funTab (fun id ops => T.get (path (planKey id ops)) tab) [0]
noncomputable def cod (i : Nat) : Code := bodyAt Tryd.prog i
noncomputable def rss (i : Nat) : Array ResultVar := rssAt Tryd.prog i
/-- is a string a name: at most sixteen letters and digits and dashes, a letter first -/
def nameC (c : UInt8) : Bool := decide (97 ≤ c.toNat) && decide (c.toNat ≤ 122) || decide (48 ≤ c.toNat) && decide (c.toNat ≤ 57) || c.toNat == 45
def nameL (l : List UInt8) : Bool := match l with
  | [] => false
  | c :: _ => decide (97 ≤ c.toNat) && decide (c.toNat ≤ 122) && decide (l.length ≤ 16) && l.all nameC
def shownV : List Value → Option Value
  | [] => some (.bool true)
  | _ => none
def bads : List Nat := [14, 16, 30, 58, 106, 132, 133, 134, 168]
noncomputable def specs : Eng.Callee := specL [(14, chk 14), (16, memoV 16 [(0, usesV)] shownV), (58, sortC 58)]
noncomputable def omS : Eng.Callee := om Tryd.prog bads specs
/-- the package variable lies as the text lays it -/
abbrev GW (W : AW) : Prop := GlobW [(0, usesV)] W
theorem GW.cells {W : AW} (h : GW W) : cellsAt W 0 = some usesV := cellsAt_ro (h (0, usesV) (by simp)).1
theorem GW.pos {W : AW} (h : GW W) : 0 < W.next := (h (0, usesV) (by simp)).2
theorem shown_ok {W : AW} (h : GW W) : omS (.func (.func 16) #[] #[]) [] W = some (.bool true, W) := by
  have h0 : memoV 16 [(0, usesV)] shownV (.func (.func 16) #[] #[]) [] W = some (.bool true, W) := memoV_at h rfl rfl rfl
  have h1 : specs (.func (.func 16) #[] #[]) [] W = some (.bool true, W) := h0
  have h2 := om_spec (P := Tryd.prog) (bad := bads) (spec := specs) (i := 16) (by decide) h1
  rw [gc_bool (.refl _)] at h2
  exact h2
/-- slices.Sort of a whole block -/
theorem sort_ok {W W' : AW} {args : List Value} (h : SortArgs W args W') : omS (.func (.func 58) #[] #[]) args W = some (.tuple #[], W') := by
  have h0 : sortC 58 (.func (.func 58) #[] #[]) args W = some (.tuple #[], W') := sortC_at h
  have h1 : specs (.func (.func 58) #[] #[]) args W = some (.tuple #[], W') := h0
  have h2 := om_spec (P := Tryd.prog) (bad := bads) (spec := specs) (i := 58) (by decide) h1
  rw [gc_not rfl] at h2
  exact h2
def chkE (k ow un se sc n to t1 t2 t3 t4 nw : Int) : Int := if k < 1 ∨ 12 < k then 2 else errOp ow un se sc n to t1 t2 t3 t4 nw (useL.getD k.toNat 0)
theorem planCheck_ok (k ow un se sc n to t1 t2 t3 t4 nw : Int) {W : AW} (h : GW W) : omS (.func (.func 14) #[] #[]) [.agg (opArr k ow un se sc n to t1 t2 t3 t4 nw)] W = some (.int .i64 (chkE k ow un se sc n to t1 t2 t3 t4 nw), W) := by
  have h1 : specs (.func (.func 14) #[] #[]) [.agg (opArr k ow un se sc n to t1 t2 t3 t4 nw)] W = some (.int .i64 (chkE k ow un se sc n to t1 t2 t3 t4 nw), W) := by
    show chk 14 (.func (.func 14) #[] #[]) [.agg (opArr k ow un se sc n to t1 t2 t3 t4 nw)] W = _
    unfold chk opArr
    simp only [Nat.beq_refl, Array.isEmpty_empty, Bool.and_self, chkArgs]
    unfold chkE
    by_cases hk : k < 1 ∨ 12 < k
    · have hd : (decide (k < 1) || decide (12 < k)) = true := by simpa using hk
      rw [if_pos hk]
      simp only [hd]
    · have hd : (decide (k < 1) || decide (12 < k)) = false := by simp; omega
      rw [if_neg hk]
      simp only [hd, (h (0, usesV) (by simp)).1]
      have hk2 : k.toNat < 13 := by omega
      have : usesV[k.toNat]? = some (.int .i64 (useL.getD k.toNat 0)) := by
        unfold usesV
        rw [List.getElem?_map]
        have h13 : useL.length = 13 := rfl
        rw [List.getElem?_eq_getElem (by omega), List.getD_eq_getElem?_getD, List.getElem?_eq_getElem (by omega)]
        rfl
      simp only [this]
  have h2 := om_spec (P := Tryd.prog) (bad := bads) (spec := specs) (i := 14) (by decide) h1
  rw [gc_int (.refl _)] at h2
  exact h2
end Go.Proofs.YtfcfglpkgcheiaaDoor
