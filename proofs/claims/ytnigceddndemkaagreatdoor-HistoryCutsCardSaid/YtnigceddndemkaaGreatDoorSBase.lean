/- What this seat's open texts rest on: the orders, the program's texts, and the callees that are answered for. -/
import Derived.Test.YtnigceddndemkaaGreatDoorOpnA
import Derived.Test.YtnigceddndemkaaGreatDoorEngB
import Derived.Test.YtnigceddndemkaaGreatDoorSGlob
import Derived.Test.YtnigceddndemkaaGreatDoorChecked
namespace Go.Proofs.YtnigceddndemkaaGreatDoor
open Go Go.Eng
noncomputable instance opens : PlanTab := funTab (fun id ops => T.get (path (planKey id ops)) tab) [0, 1, 3, 4]
noncomputable def cod (i : Nat) : Code := bodyAt Tryz.prog i
noncomputable def rss (i : Nat) : Array ResultVar := rssAt Tryz.prog i
def nameC (c : UInt8) : Bool := decide (97 ≤ c.toNat) && decide (c.toNat ≤ 122) || decide (48 ≤ c.toNat) && decide (c.toNat ≤ 57) || c.toNat == 45
def nameL (l : List UInt8) : Bool := match l with
  | [] => false
  | c :: _ => decide (97 ≤ c.toNat) && decide (c.toNat ≤ 122) && decide (l.length ≤ 16) && l.all nameC
def awakeV : List Value → Option Value
  | [] => some (.bool true)
  | _ => none
def bads : List Nat := [2, 16, 38, 78, 162, 274, 347, 399]
noncomputable def specs : Eng.Callee := specL [(38, memoV 38 globW awakeV), (162, chk 162)]
noncomputable def omS : Eng.Callee := om Tryz.prog bads specs
abbrev GW (W : AW) : Prop := GlobW globW W
theorem GW.cells {W : AW} (h : GW W) : cellsAt W 0 = some usesV := cellsAt_ro (h (0, usesV) (by simp [globW])).1
theorem GW.pos {W : AW} (h : GW W) : 0 < W.next := (h (0, usesV) (by simp [globW])).2
theorem awake24_ok {W : AW} (h : GW W) : omS (.func (.func 38) #[] #[]) [] W = some (.bool true, W) := by
  have h0 : memoV 38 globW awakeV (.func (.func 38) #[] #[]) [] W = some (.bool true, W) := memoV_at h rfl rfl rfl
  have h1 : specs (.func (.func 38) #[] #[]) [] W = some (.bool true, W) := h0
  have h2 := om_spec (P := Tryz.prog) (bad := bads) (spec := specs) (i := 38) (by decide) h1
  rw [gc_bool (.refl _)] at h2
  exact h2
def chkE (k ow un se sc n to t1 t2 t3 t4 nw : Int) : Int := if k < 1 ∨ 12 < k then 2 else errOp ow un se sc n to t1 t2 t3 t4 nw (useL.getD k.toNat 0)
theorem planCheck_ok (k ow un se sc n to t1 t2 t3 t4 nw : Int) {W : AW} (h : GW W) : omS (.func (.func 162) #[] #[]) [.agg (opArr k ow un se sc n to t1 t2 t3 t4 nw)] W = some (.int .i64 (chkE k ow un se sc n to t1 t2 t3 t4 nw), W) := by
  have h1 : specs (.func (.func 162) #[] #[]) [.agg (opArr k ow un se sc n to t1 t2 t3 t4 nw)] W = some (.int .i64 (chkE k ow un se sc n to t1 t2 t3 t4 nw), W) := by
    show chk 162 (.func (.func 162) #[] #[]) [.agg (opArr k ow un se sc n to t1 t2 t3 t4 nw)] W = _
    unfold chk opArr
    simp only [Nat.beq_refl, Array.isEmpty_empty, Bool.and_self, chkArgs]
    unfold chkE
    by_cases hk : k < 1 ∨ 12 < k
    · have hd : (decide (k < 1) || decide (12 < k)) = true := by simpa using hk
      rw [if_pos hk]
      simp only [hd]
    · have hd : (decide (k < 1) || decide (12 < k)) = false := by simp; omega
      rw [if_neg hk]
      simp only [hd, (h (0, usesV) (by simp [globW])).1]
      have hk2 : k.toNat < 13 := by omega
      have : usesV[k.toNat]? = some (.int .i64 (useL.getD k.toNat 0)) := by
        unfold usesV
        rw [List.getElem?_map]
        have h13 : useL.length = 13 := rfl
        rw [List.getElem?_eq_getElem (by omega), List.getD_eq_getElem?_getD, List.getElem?_eq_getElem (by omega)]
        rfl
      simp only [this]
  have h2 := om_spec (P := Tryz.prog) (bad := bads) (spec := specs) (i := 162) (by decide) h1
  rw [gc_int (.refl _)] at h2
  exact h2
end Go.Proofs.YtnigceddndemkaaGreatDoor
