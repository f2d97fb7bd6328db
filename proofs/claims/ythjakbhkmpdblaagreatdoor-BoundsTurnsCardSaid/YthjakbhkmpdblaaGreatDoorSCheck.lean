/- Whether an operation has just the fields of its kind: what the function answers, in whatever order the map's entries are laid and come. -/
import Derived.Test.YthjakbhkmpdblaaGreatDoorSBaseW
import Derived.WalkKit
set_option linter.unusedVariables false
namespace Go.Proofs.YthjakbhkmpdblaaGreatDoor
open Go Go.Eng Go.RowKit Go.Maps
def chkCells (k ow un se sc n to t1 t2 t3 t4 nw : Int) : List Value := [.int .i64 k, .int .u32 ow, .int .i64 un, .int .i64 se, .int .i64 sc, .int .i64 n, .int .u32 to, .int .u32 t1, .int .u32 t2, .int .u64 t3, .int .u64 t4, .int .i64 nw]
noncomputable def tickField (i : Nat) : Field := match (Tryz.prog.fieldsOf 54).toList[i]? with
  | some f => f
  | none => ⟨"", 0, 0, false, "", "", 0⟩
theorem neq_tick (a b c d : Int) (w : World) : (do eqGuard .neq 54 (.tmp 34) (.tmp 35) (.agg #[.int .u32 a, .int .u32 b, .int .u64 c, .int .u64 d]) (.agg #[.int .u32 0, .int .u32 0, .int .u64 0, .int .u64 0]); binOp .neq 54 (.agg #[.int .u32 a, .int .u32 b, .int .u64 c, .int .u64 d]) (.agg #[.int .u32 0, .int .u32 0, .int .u64 0, .int .u64 0]) : Sem Value).run Tryz.prog w =
      .ok (.bool (!((a == 0) && ((b == 0) && ((c == 0) && ((d == 0) && true)))))) w :=
  neq_four (P := Tryz.prog) (t := 54) (x := .tmp 34) (y := .tmp 35) (f0 := tickField 0) (f1 := tickField 1) (f2 := tickField 2) (f3 := tickField 3) (k0 := .u32) (k1 := .u32) (k2 := .u64) (k3 := .u64) (a := a) (b := b) (c := c) (d := d) (by kernel_rfl) (by kernel_rfl) (by kernel_rfl) (by kernel_rfl)
    (by decide +kernel) (by decide +kernel) (by decide +kernel) (by decide +kernel) (by kernel_rfl) (by kernel_rfl) (by kernel_rfl) (by kernel_rfl) (by kernel_rfl) (by kernel_rfl) (by kernel_rfl) (by kernel_rfl) (by kernel_rfl) (by kernel_rfl) (by kernel_rfl) (by kernel_rfl) w
set_option maxRecDepth 100000 in
theorem check_in (k ow un se sc n to t1 t2 t3 t4 nw u : Int) (w : World) (hk1 : ¬ k < 1) (hk2 : ¬ 12 < k) (hu : w.cell? ⟨0, k.toNat, none⟩ = some (.int .i64 u)) :
    Calls Tryz.prog 21 #[.agg (opArr k ow un se sc n to t1 t2 t3 t4 nw)] w fun e w' => e = .returned (.int .i64 (errOp ow un se sc n to t1 t2 t3 t4 nw u)) ∧ Quiet w w' := by
  show Calls Tryz.prog 21 #[.agg #[.int .i64 k, .int .u32 ow, .int .i64 un, .int .i64 se, .int .i64 sc, .int .i64 n, .int .u32 to, .int .u32 t1, .int .u32 t2, .int .u64 t3, .int .u64 t4, .int .i64 nw]] w fun e w' => e = .returned (.int .i64 (errB (!decide (ow = 0)) (!decide (un = 0)) (!decide (se = 0)) (!decide (sc = 0)) (!decide (n = 0)) (!decide (to = 0)) (!((t1 == 0) && ((t2 == 0) && ((t3 == 0) && ((t4 == 0) && true))))) (!decide (nw = 0)) u)) ∧ Quiet w w'
  go_enter Tryz.func21, Tryz.ntmps21
  go_wp2
  refine region_map4 (nt := 58) (TM := 107) (TK := 3) (TE := 4) (TT := 54) (B := w.heap.size) (n := 12) (cs := chkCells k ow un se sc n to t1 t2 t3 t4 nw) (tk := #[.int .u32 t1, .int .u32 t2, .int .u64 t3, .int .u64 t4]) (zk := #[.int .u32 0, .int .u32 0, .int .u64 0, .int .u64 0])
     (b0 := !decide (ow = 0)) (b1 := !decide (un = 0)) (b2 := !decide (se = 0)) (b3 := !decide (sc = 0)) (b4 := !decide (n = 0)) (b5 := !decide (to = 0)) (b6 := !((t1 == 0) && ((t2 == 0) && ((t3 == 0) && ((t4 == 0) && true))))) (b7 := !decide (nw = 0)) (by kernel_rfl)
     (by kernel_rfl) (by kernel_rfl) (by kernel_rfl) (by kernel_rfl) (by kernel_rfl) (by kernel_rfl) (by kernel_rfl) (by kernel_rfl) (by kernel_rfl) (by kernel_rfl) (by kernel_rfl) rfl rfl (by kernel_rfl) (neq_tick t1 t2 t3 t4) (by kernel_rfl) rfl (by decide) rfl Tryz.underlying107 Tryz.underlying3 Tryz.underlying4 ?_ ?_
  · exact rel_box w 56 (chkCells k ow un se sc n to t1 t2 t3 t4 nw) rfl
  intro a' w' σ m r nn hq
  obtain ⟨htsz, hdfs, hold, hit, hrel, hext, hnm, hnr, hgm, hgr, hrg⟩ := hq
  obtain ⟨tmps, dfs⟩ := a'
  simp only at htsz hdfs hold hit
  subst hdfs
  obtain ⟨xs, hxs, rfl⟩ := arr_of htsz rfl hold hit
  obtain ⟨x14, x15, x16, x17, x18, x19, x20, x21, x22, x23, x24, x25, x26, x27, x28, x29, x30, x31, x32, x33, x34, x35, x36, x37, x38, x39, x40, rfl⟩ : ∃ x14 x15 x16 x17 x18 x19 x20 x21 x22 x23 x24 x25 x26 x27 x28 x29 x30 x31 x32 x33 x34 x35 x36 x37 x38 x39 x40 : Value, xs = [x14, x15, x16, x17, x18, x19, x20, x21, x22, x23, x24, x25, x26, x27, x28, x29, x30, x31, x32, x33, x34, x35, x36, x37, x38, x39, x40] := by
    match xs, hxs with
    | [x14, x15, x16, x17, x18, x19, x20, x21, x22, x23, x24, x25, x26, x27, x28, x29, x30, x31, x32, x33, x34, x35, x36, x37, x38, x39, x40], _ => exact ⟨_, _, _, _, _, _, _, _, _, _, _, _, _, _, _, _, _, _, _, _, _, _, _, _, _, _, _, rfl⟩
  have hqw := quiet_box hext
  have hbx : w'.cell? ⟨w.heap.size, 0, none⟩ = some (.int .i64 k) := box_cell hrel (hext.sub 0 _ rfl) rfl rfl
  have hgr' : w.heap.size + 1 ≤ r := by simpa using hgr
  generalize hb0 : (!decide (ow = 0)) = b0 at hrg
  generalize hb1 : (!decide (un = 0)) = b1 at hrg
  generalize hb2 : (!decide (se = 0)) = b2 at hrg
  generalize hb3 : (!decide (sc = 0)) = b3 at hrg
  generalize hb4 : (!decide (n = 0)) = b4 at hrg
  generalize hb5 : (!decide (to = 0)) = b5 at hrg
  generalize hb6 : (!((t1 == 0) && ((t2 == 0) && ((t3 == 0) && ((t4 == 0) && true))))) = b6 at hrg
  generalize hb7 : (!decide (nw = 0)) = b7 at hrg
  clear htsz hold hit hext hrel hnm hnr hgm hgr hxs
  simp only [List.take, List.drop, List.cons_append, List.nil_append]
  go_wp2
  go_loopw [3] (fun v wr => ∃ (left : Lit → Bool) (cnt : Nat), wr.ranges Tryz.prog 3 (plainElem Tryz.prog 4) m r nn (Dall b0 b1 b2 b3 b4 b5 b6 b7) left cnt ∧ Quiet w wr ∧ wr.cell? ⟨w.heap.size, 0, none⟩ = some (.int .i64 k) ∧ (∀ kl, left kl = true → Maps.has (Dall b0 b1 b2 b3 b4 b5 b6 b7) kl = true) ∧
      v = .int .i64 (hof (!left (.int .i64 1) && b0) (!left (.int .i64 2) && b1) (!left (.int .i64 4) && b2) (!left (.int .i64 8) && b3) (!left (.int .i64 16) && b4) (!left (.int .i64 32) && b5) (!left (.int .i64 64) && b6) (!left (.int .i64 128) && b7)))
    (fun _ wr => wr.rangeLeft m r)
  case atStart => exact ⟨_, _, hrg, hqw, hbx, fun _ h => h, rfl⟩
  case round =>
    obtain ⟨left, cnt, hrgr, hqr, hbr, hsub, rfl⟩ := hrel
    have hur := hqr.cell hu
    go_wp2_with (first
      | (at_next; refine wpList_next_bool rfl _ rfl Tryz.underlying3 Tryz.underlying4 rfl hrgr ?_ ?_)
      | go_in)
    · intro hl0
      simp only [hl0, Bool.not_false, Bool.true_and]
      go_wp2
      all_goals go_ret
      all_goals refine ⟨?_, hqr⟩
      all_goals (subst hb0; subst hb1; subst hb2; subst hb3; subst hb4; subst hb5; subst hb6; subst hb7)
      · rename_i hne
        exact congrArg (fun z => Ending.returned (Value.int .i64 z)) (if_neg (by simpa using hne)).symm
      · rename_i hne
        exact congrArg (fun z => Ending.returned (Value.int .i64 z)) (if_pos (by simpa using hne)).symm
    · rintro ⟨x, c, w1, cnt1, hl, hat, hrg1, hlt, hgr1, hsz1, hen⟩
      have h8 := dall_key (hsub _ hl) hat
      have hst := hof_step hl h8
      have hq1 : Quiet w w1 := hqr.other (by omega) hgr1 hsz1 (frozen_ranges hrgr) (frozen_ranges hrg1)
      have hb1 : w1.cell? ⟨w.heap.size, 0, none⟩ = some (.int .i64 k) := by
        rw [World.cell?_of_block (hgr1.block w.heap.size (by have := ranges_lt hrgr; omega) (fun e => by injection e with e; omega))]; exact hbr
      have hsub1 : ∀ kl, (fun z : Lit => left z && !z.sameKey (.int .i64 x)) kl = true → Maps.has (Dall b0 b1 b2 b3 b4 b5 b6 b7) kl = true := fun kl h => hsub kl (by simp only [Bool.and_eq_true] at h; exact h.1)
      cases c
      · go_wp2
        exact ⟨⟨_, cnt1, hrg1, hq1, hb1, hsub1, congrArg (Value.int .i64) (hst.1 rfl)⟩, by rw [hrg1.left_eq, hrgr.left_eq]; exact hlt⟩
      · go_wp2
        exact ⟨⟨_, cnt1, hrg1, hq1, hb1, hsub1, by have h2 := hst.2 rfl; simp only [Bool.not_and, Bool.not_not] at h2 ⊢; try first | exact congrArg _ h2 | exact congrArg _ h2.symm⟩, by rw [hrg1.left_eq, hrgr.left_eq]; exact hlt⟩

set_option maxRecDepth 100000 in
theorem check_out (k ow un se sc n to t1 t2 t3 t4 nw : Int) (w : World) (hk : k < 1 ∨ 12 < k) :
    Calls Tryz.prog 21 #[.agg (opArr k ow un se sc n to t1 t2 t3 t4 nw)] w fun e w' => e = .returned (.int .i64 2) ∧ Quiet w w' := by
  show Calls Tryz.prog 21 #[.agg #[.int .i64 k, .int .u32 ow, .int .i64 un, .int .i64 se, .int .i64 sc, .int .i64 n, .int .u32 to, .int .u32 t1, .int .u32 t2, .int .u64 t3, .int .u64 t4, .int .i64 nw]] w fun e w' => e = .returned (.int .i64 2) ∧ Quiet w w'
  rcases hk with hk | hk
  · go_enter Tryz.func21, Tryz.ntmps21
    go_wp2
    go_ret
    exact ⟨rfl, Quiet.box _ _ _⟩
  · have hk1 : ¬ k < 1 := by omega
    go_enter Tryz.func21, Tryz.ntmps21
    go_wp2
    go_ret
    exact ⟨rfl, Quiet.box _ _ _⟩
theorem check_ok : CalleeOK Tryz.prog PlanTab.ng (chk 21) :=
  chk_ok (by decide) Tryz.func21 (by kernel_rfl) rfl check_in check_out
end Go.Proofs.YthjakbhkmpdblaaGreatDoor
