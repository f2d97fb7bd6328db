/- Contracts of functions, and their laws. -/
import Derived.Test.YtfcfglpkgcheiaaDoorPlainA
import Derived.Test.YtfcfglpkgcheiaaDoorOpnA
/- What an operation speaks of. -/
namespace Go.Proofs.YtfcfglpkgcheiaaDoor
open Go Go.Eng
set_option linter.unusedVariables false
set_option linter.unusedSimpArgs false
set_option maxRecDepth 100000
def tgtE (k se sc t1 e : Int) : Int × Int × Int :=
  if e ≠ 0 then (0, 0, e) else if k = 2 ∨ k = 4 ∨ k = 5 ∨ k = 8 then (se, -1, 0) else if k = 6 ∨ k = 7 ∨ k = 9 then (IntKind.i64.wrap t1, -1, 0) else if k = 3 ∨ k = 10 ∨ k = 11 then (-1, sc, 0) else (-1, -1, 0)
def tgtV (x : Int × Int × Int) : Value := .tuple #[.int .i64 x.1, .int .i64 x.2.1, .int .i64 x.2.2]
theorem oConv22 (n : Int) (W : AW) : oConv Tryd.prog 22 3 (.int .u32 n) W = some (.int .i64 (IntKind.i64.wrap n), W) := Eq.trans (by kernel_rfl) rfl
theorem a1_4 : IntKind.i64.wrap ↑(BitVec.ofInt IntKind.i64.bits 1 &&& BitVec.ofInt IntKind.i64.bits 4).toNat = 0 := by decide +kernel
theorem a1_64 : IntKind.i64.wrap ↑(BitVec.ofInt IntKind.i64.bits 1 &&& BitVec.ofInt IntKind.i64.bits 64).toNat = 0 := by decide +kernel
theorem a1_8 : IntKind.i64.wrap ↑(BitVec.ofInt IntKind.i64.bits 1 &&& BitVec.ofInt IntKind.i64.bits 8).toNat = 0 := by decide +kernel
theorem a7_4 : IntKind.i64.wrap ↑(BitVec.ofInt IntKind.i64.bits 7 &&& BitVec.ofInt IntKind.i64.bits 4).toNat = 4 := by decide +kernel
theorem a7_64 : IntKind.i64.wrap ↑(BitVec.ofInt IntKind.i64.bits 7 &&& BitVec.ofInt IntKind.i64.bits 64).toNat = 0 := by decide +kernel
theorem a7_8 : IntKind.i64.wrap ↑(BitVec.ofInt IntKind.i64.bits 7 &&& BitVec.ofInt IntKind.i64.bits 8).toNat = 0 := by decide +kernel
theorem a11_4 : IntKind.i64.wrap ↑(BitVec.ofInt IntKind.i64.bits 11 &&& BitVec.ofInt IntKind.i64.bits 4).toNat = 0 := by decide +kernel
theorem a11_64 : IntKind.i64.wrap ↑(BitVec.ofInt IntKind.i64.bits 11 &&& BitVec.ofInt IntKind.i64.bits 64).toNat = 0 := by decide +kernel
theorem a11_8 : IntKind.i64.wrap ↑(BitVec.ofInt IntKind.i64.bits 11 &&& BitVec.ofInt IntKind.i64.bits 8).toNat = 8 := by decide +kernel
theorem a27_4 : IntKind.i64.wrap ↑(BitVec.ofInt IntKind.i64.bits 27 &&& BitVec.ofInt IntKind.i64.bits 4).toNat = 0 := by decide +kernel
theorem a27_64 : IntKind.i64.wrap ↑(BitVec.ofInt IntKind.i64.bits 27 &&& BitVec.ofInt IntKind.i64.bits 64).toNat = 0 := by decide +kernel
theorem a27_8 : IntKind.i64.wrap ↑(BitVec.ofInt IntKind.i64.bits 27 &&& BitVec.ofInt IntKind.i64.bits 8).toNat = 8 := by decide +kernel
theorem a64_4 : IntKind.i64.wrap ↑(BitVec.ofInt IntKind.i64.bits 64 &&& BitVec.ofInt IntKind.i64.bits 4).toNat = 0 := by decide +kernel
theorem a64_64 : IntKind.i64.wrap ↑(BitVec.ofInt IntKind.i64.bits 64 &&& BitVec.ofInt IntKind.i64.bits 64).toNat = 64 := by decide +kernel
theorem a64_8 : IntKind.i64.wrap ↑(BitVec.ofInt IntKind.i64.bits 64 &&& BitVec.ofInt IntKind.i64.bits 8).toNat = 0 := by decide +kernel
theorem a67_4 : IntKind.i64.wrap ↑(BitVec.ofInt IntKind.i64.bits 67 &&& BitVec.ofInt IntKind.i64.bits 4).toNat = 0 := by decide +kernel
theorem a67_64 : IntKind.i64.wrap ↑(BitVec.ofInt IntKind.i64.bits 67 &&& BitVec.ofInt IntKind.i64.bits 64).toNat = 64 := by decide +kernel
theorem a67_8 : IntKind.i64.wrap ↑(BitVec.ofInt IntKind.i64.bits 67 &&& BitVec.ofInt IntKind.i64.bits 8).toNat = 0 := by decide +kernel
theorem a99_4 : IntKind.i64.wrap ↑(BitVec.ofInt IntKind.i64.bits 99 &&& BitVec.ofInt IntKind.i64.bits 4).toNat = 0 := by decide +kernel
theorem a99_64 : IntKind.i64.wrap ↑(BitVec.ofInt IntKind.i64.bits 99 &&& BitVec.ofInt IntKind.i64.bits 64).toNat = 64 := by decide +kernel
theorem a99_8 : IntKind.i64.wrap ↑(BitVec.ofInt IntKind.i64.bits 99 &&& BitVec.ofInt IntKind.i64.bits 8).toNat = 0 := by decide +kernel
theorem a128_4 : IntKind.i64.wrap ↑(BitVec.ofInt IntKind.i64.bits 128 &&& BitVec.ofInt IntKind.i64.bits 4).toNat = 0 := by decide +kernel
theorem a128_64 : IntKind.i64.wrap ↑(BitVec.ofInt IntKind.i64.bits 128 &&& BitVec.ofInt IntKind.i64.bits 64).toNat = 0 := by decide +kernel
theorem a128_8 : IntKind.i64.wrap ↑(BitVec.ofInt IntKind.i64.bits 128 &&& BitVec.ofInt IntKind.i64.bits 8).toNat = 0 := by decide +kernel
theorem planTarget_1 (ow un se sc n to t1 t2 t3 t4 nw : Int) {W : AW} (hG : GW W) : Ok (plans_Target omS (.agg (opArr 1 ow un se sc n to t1 t2 t3 t4 nw)) W) fun r => r.1 = tgtV (tgtE 1 se sc t1 (chkE 1 ow un se sc n to t1 t2 t3 t4 nw)) ∧ Le W r.2 := by
  have hP : ∀ o, omS (.func (.func 14) #[] #[]) [.agg (opArr 1 ow un se sc n to t1 t2 t3 t4 nw)] (W.add o) = some (.int .i64 (chkE 1 ow un se sc n to t1 t2 t3 t4 nw), W.add o) := fun o => planCheck_ok 1 ow un se sc n to t1 t2 t3 t4 nw (hG.mono ((Le.refl W).add o))
  have hU : ∀ o, cellsAt (W.add o) 0 = some usesV := fun o => GW.cells (hG.mono ((Le.refl W).add o))
  unfold opArr at hP
  unfold plans_Target opArr tgtE
  by_cases he : chkE 1 ow un se sc n to t1 t2 t3 t4 nw = 0
  · repeat (first | (refine Ok_step (by simp (disch := first | omega | (simp only [vs1_int, vs1_string, vs1_bool, vs1_slice, vs1_snil, vs1_ptr]; done) | (simp only [AW.add_next, AW.put_next, AW.kill_next]; omega)) only [SX, MX, setN, Nat.reduceAdd, Int.reduceEq, Int.reduceLT, Int.reduceLE, Int.reduceNeg, Nat.reduceLT, Nat.reduceLeDiff, Nat.reduceEqDiff, Int.reduceToNat, Nat.reduceMul, hP, hU, he, usesV, useL, List.map_cons, List.map_nil, oBin_and, a1_4, a1_64, a1_8, oConv22]; rfl) ?_; dsimp only) | refine Ok_bT (by simp (disch := first | omega | (simp only [vs1_int, vs1_string, vs1_bool, vs1_slice, vs1_snil, vs1_ptr]; done) | (simp only [AW.add_next, AW.put_next, AW.kill_next]; omega)) only [SX, MX, setN, Nat.reduceAdd, Int.reduceEq, Int.reduceLT, Int.reduceLE, Int.reduceNeg, Nat.reduceLT, Nat.reduceLeDiff, Nat.reduceEqDiff, Int.reduceToNat, Nat.reduceMul, hP, hU, he, usesV, useL, List.map_cons, List.map_nil, oBin_and, a1_4, a1_64, a1_8, oConv22]) ?_ | refine Ok_bF (by simp (disch := first | omega | (simp only [vs1_int, vs1_string, vs1_bool, vs1_slice, vs1_snil, vs1_ptr]; done) | (simp only [AW.add_next, AW.put_next, AW.kill_next]; omega)) only [SX, MX, setN, Nat.reduceAdd, Int.reduceEq, Int.reduceLT, Int.reduceLE, Int.reduceNeg, Nat.reduceLT, Nat.reduceLeDiff, Nat.reduceEqDiff, Int.reduceToNat, Nat.reduceMul, hP, hU, he, usesV, useL, List.map_cons, List.map_nil, oBin_and, a1_4, a1_64, a1_8, oConv22]) ?_)
    exact Ok_some.2 ⟨by rw [he]; rfl, (Le.refl _).add _⟩
  · repeat (first | (refine Ok_step (by simp (disch := first | omega | (simp only [vs1_int, vs1_string, vs1_bool, vs1_slice, vs1_snil, vs1_ptr]; done) | (simp only [AW.add_next, AW.put_next, AW.kill_next]; omega)) only [SX, MX, setN, Nat.reduceAdd, Int.reduceEq, Int.reduceLT, Int.reduceLE, Int.reduceNeg, Nat.reduceLT, Nat.reduceLeDiff, Nat.reduceEqDiff, Int.reduceToNat, Nat.reduceMul, hP, he]; rfl) ?_; dsimp only) | refine Ok_bT (by simp (disch := first | omega | (simp only [vs1_int, vs1_string, vs1_bool, vs1_slice, vs1_snil, vs1_ptr]; done) | (simp only [AW.add_next, AW.put_next, AW.kill_next]; omega)) only [SX, MX, setN, Nat.reduceAdd, Int.reduceEq, Int.reduceLT, Int.reduceLE, Int.reduceNeg, Nat.reduceLT, Nat.reduceLeDiff, Nat.reduceEqDiff, Int.reduceToNat, Nat.reduceMul, hP, he]) ?_ | refine Ok_bF (by simp (disch := first | omega | (simp only [vs1_int, vs1_string, vs1_bool, vs1_slice, vs1_snil, vs1_ptr]; done) | (simp only [AW.add_next, AW.put_next, AW.kill_next]; omega)) only [SX, MX, setN, Nat.reduceAdd, Int.reduceEq, Int.reduceLT, Int.reduceLE, Int.reduceNeg, Nat.reduceLT, Nat.reduceLeDiff, Nat.reduceEqDiff, Int.reduceToNat, Nat.reduceMul, hP, he]) ?_)
    exact Ok_some.2 ⟨by rw [if_pos he]; rfl, (Le.refl _).add _⟩
theorem refTarget_1 (ow un se sc n to t1 t2 t3 t4 nw : Int) (W : AW) : Ok (ref22_Target omS (.agg (opArr 1 ow un se sc n to t1 t2 t3 t4 nw)) W) fun r => r.1 = tgtV (tgtE 1 se sc t1 (chkE 1 ow un se sc n to t1 t2 t3 t4 nw)) ∧ Le W r.2 := by
  have hP : ∀ o, omS (.func (.func 15) #[] #[]) [.agg (opArr 1 ow un se sc n to t1 t2 t3 t4 nw)] (W.add o) = some (.int .i64 (chkE 1 ow un se sc n to t1 t2 t3 t4 nw), W.add o) := fun o => refCheck_ok 1 ow un se sc n to t1 t2 t3 t4 nw (W.add o)
  unfold opArr at hP
  unfold ref22_Target opArr tgtE
  by_cases he : chkE 1 ow un se sc n to t1 t2 t3 t4 nw = 0
  · repeat (first | (refine Ok_step (by simp (disch := first | omega | (simp only [vs1_int, vs1_string, vs1_bool, vs1_slice, vs1_snil, vs1_ptr]; done) | (simp only [AW.add_next, AW.put_next, AW.kill_next]; omega)) only [SX, MX, setN, Nat.reduceAdd, Int.reduceEq, Int.reduceLT, Int.reduceLE, Int.reduceNeg, Nat.reduceLT, Nat.reduceLeDiff, Nat.reduceEqDiff, Int.reduceToNat, Nat.reduceMul, hP, he, oConv22]; rfl) ?_; dsimp only) | refine Ok_bT (by simp (disch := first | omega | (simp only [vs1_int, vs1_string, vs1_bool, vs1_slice, vs1_snil, vs1_ptr]; done) | (simp only [AW.add_next, AW.put_next, AW.kill_next]; omega)) only [SX, MX, setN, Nat.reduceAdd, Int.reduceEq, Int.reduceLT, Int.reduceLE, Int.reduceNeg, Nat.reduceLT, Nat.reduceLeDiff, Nat.reduceEqDiff, Int.reduceToNat, Nat.reduceMul, hP, he, oConv22]) ?_ | refine Ok_bF (by simp (disch := first | omega | (simp only [vs1_int, vs1_string, vs1_bool, vs1_slice, vs1_snil, vs1_ptr]; done) | (simp only [AW.add_next, AW.put_next, AW.kill_next]; omega)) only [SX, MX, setN, Nat.reduceAdd, Int.reduceEq, Int.reduceLT, Int.reduceLE, Int.reduceNeg, Nat.reduceLT, Nat.reduceLeDiff, Nat.reduceEqDiff, Int.reduceToNat, Nat.reduceMul, hP, he, oConv22]) ?_)
    exact Ok_some.2 ⟨by rw [he]; rfl, (Le.refl _).add _⟩
  · repeat (first | (refine Ok_step (by simp (disch := first | omega | (simp only [vs1_int, vs1_string, vs1_bool, vs1_slice, vs1_snil, vs1_ptr]; done) | (simp only [AW.add_next, AW.put_next, AW.kill_next]; omega)) only [SX, MX, setN, Nat.reduceAdd, Int.reduceEq, Int.reduceLT, Int.reduceLE, Int.reduceNeg, Nat.reduceLT, Nat.reduceLeDiff, Nat.reduceEqDiff, Int.reduceToNat, Nat.reduceMul, hP, he]; rfl) ?_; dsimp only) | refine Ok_bT (by simp (disch := first | omega | (simp only [vs1_int, vs1_string, vs1_bool, vs1_slice, vs1_snil, vs1_ptr]; done) | (simp only [AW.add_next, AW.put_next, AW.kill_next]; omega)) only [SX, MX, setN, Nat.reduceAdd, Int.reduceEq, Int.reduceLT, Int.reduceLE, Int.reduceNeg, Nat.reduceLT, Nat.reduceLeDiff, Nat.reduceEqDiff, Int.reduceToNat, Nat.reduceMul, hP, he]) ?_ | refine Ok_bF (by simp (disch := first | omega | (simp only [vs1_int, vs1_string, vs1_bool, vs1_slice, vs1_snil, vs1_ptr]; done) | (simp only [AW.add_next, AW.put_next, AW.kill_next]; omega)) only [SX, MX, setN, Nat.reduceAdd, Int.reduceEq, Int.reduceLT, Int.reduceLE, Int.reduceNeg, Nat.reduceLT, Nat.reduceLeDiff, Nat.reduceEqDiff, Int.reduceToNat, Nat.reduceMul, hP, he]) ?_)
    exact Ok_some.2 ⟨by rw [if_pos he]; rfl, (Le.refl _).add _⟩
theorem planTarget_2 (ow un se sc n to t1 t2 t3 t4 nw : Int) {W : AW} (hG : GW W) : Ok (plans_Target omS (.agg (opArr 2 ow un se sc n to t1 t2 t3 t4 nw)) W) fun r => r.1 = tgtV (tgtE 2 se sc t1 (chkE 2 ow un se sc n to t1 t2 t3 t4 nw)) ∧ Le W r.2 := by
  have hP : ∀ o, omS (.func (.func 14) #[] #[]) [.agg (opArr 2 ow un se sc n to t1 t2 t3 t4 nw)] (W.add o) = some (.int .i64 (chkE 2 ow un se sc n to t1 t2 t3 t4 nw), W.add o) := fun o => planCheck_ok 2 ow un se sc n to t1 t2 t3 t4 nw (hG.mono ((Le.refl W).add o))
  have hU : ∀ o, cellsAt (W.add o) 0 = some usesV := fun o => GW.cells (hG.mono ((Le.refl W).add o))
  unfold opArr at hP
  unfold plans_Target opArr tgtE
  by_cases he : chkE 2 ow un se sc n to t1 t2 t3 t4 nw = 0
  · repeat (first | (refine Ok_step (by simp (disch := first | omega | (simp only [vs1_int, vs1_string, vs1_bool, vs1_slice, vs1_snil, vs1_ptr]; done) | (simp only [AW.add_next, AW.put_next, AW.kill_next]; omega)) only [SX, MX, setN, Nat.reduceAdd, Int.reduceEq, Int.reduceLT, Int.reduceLE, Int.reduceNeg, Nat.reduceLT, Nat.reduceLeDiff, Nat.reduceEqDiff, Int.reduceToNat, Nat.reduceMul, hP, hU, he, usesV, useL, List.map_cons, List.map_nil, oBin_and, a7_4, a7_64, a7_8, oConv22]; rfl) ?_; dsimp only) | refine Ok_bT (by simp (disch := first | omega | (simp only [vs1_int, vs1_string, vs1_bool, vs1_slice, vs1_snil, vs1_ptr]; done) | (simp only [AW.add_next, AW.put_next, AW.kill_next]; omega)) only [SX, MX, setN, Nat.reduceAdd, Int.reduceEq, Int.reduceLT, Int.reduceLE, Int.reduceNeg, Nat.reduceLT, Nat.reduceLeDiff, Nat.reduceEqDiff, Int.reduceToNat, Nat.reduceMul, hP, hU, he, usesV, useL, List.map_cons, List.map_nil, oBin_and, a7_4, a7_64, a7_8, oConv22]) ?_ | refine Ok_bF (by simp (disch := first | omega | (simp only [vs1_int, vs1_string, vs1_bool, vs1_slice, vs1_snil, vs1_ptr]; done) | (simp only [AW.add_next, AW.put_next, AW.kill_next]; omega)) only [SX, MX, setN, Nat.reduceAdd, Int.reduceEq, Int.reduceLT, Int.reduceLE, Int.reduceNeg, Nat.reduceLT, Nat.reduceLeDiff, Nat.reduceEqDiff, Int.reduceToNat, Nat.reduceMul, hP, hU, he, usesV, useL, List.map_cons, List.map_nil, oBin_and, a7_4, a7_64, a7_8, oConv22]) ?_)
    exact Ok_some.2 ⟨by rw [he]; rfl, (Le.refl _).add _⟩
  · repeat (first | (refine Ok_step (by simp (disch := first | omega | (simp only [vs1_int, vs1_string, vs1_bool, vs1_slice, vs1_snil, vs1_ptr]; done) | (simp only [AW.add_next, AW.put_next, AW.kill_next]; omega)) only [SX, MX, setN, Nat.reduceAdd, Int.reduceEq, Int.reduceLT, Int.reduceLE, Int.reduceNeg, Nat.reduceLT, Nat.reduceLeDiff, Nat.reduceEqDiff, Int.reduceToNat, Nat.reduceMul, hP, he]; rfl) ?_; dsimp only) | refine Ok_bT (by simp (disch := first | omega | (simp only [vs1_int, vs1_string, vs1_bool, vs1_slice, vs1_snil, vs1_ptr]; done) | (simp only [AW.add_next, AW.put_next, AW.kill_next]; omega)) only [SX, MX, setN, Nat.reduceAdd, Int.reduceEq, Int.reduceLT, Int.reduceLE, Int.reduceNeg, Nat.reduceLT, Nat.reduceLeDiff, Nat.reduceEqDiff, Int.reduceToNat, Nat.reduceMul, hP, he]) ?_ | refine Ok_bF (by simp (disch := first | omega | (simp only [vs1_int, vs1_string, vs1_bool, vs1_slice, vs1_snil, vs1_ptr]; done) | (simp only [AW.add_next, AW.put_next, AW.kill_next]; omega)) only [SX, MX, setN, Nat.reduceAdd, Int.reduceEq, Int.reduceLT, Int.reduceLE, Int.reduceNeg, Nat.reduceLT, Nat.reduceLeDiff, Nat.reduceEqDiff, Int.reduceToNat, Nat.reduceMul, hP, he]) ?_)
    exact Ok_some.2 ⟨by rw [if_pos he]; rfl, (Le.refl _).add _⟩
theorem refTarget_2 (ow un se sc n to t1 t2 t3 t4 nw : Int) (W : AW) : Ok (ref22_Target omS (.agg (opArr 2 ow un se sc n to t1 t2 t3 t4 nw)) W) fun r => r.1 = tgtV (tgtE 2 se sc t1 (chkE 2 ow un se sc n to t1 t2 t3 t4 nw)) ∧ Le W r.2 := by
  have hP : ∀ o, omS (.func (.func 15) #[] #[]) [.agg (opArr 2 ow un se sc n to t1 t2 t3 t4 nw)] (W.add o) = some (.int .i64 (chkE 2 ow un se sc n to t1 t2 t3 t4 nw), W.add o) := fun o => refCheck_ok 2 ow un se sc n to t1 t2 t3 t4 nw (W.add o)
  unfold opArr at hP
  unfold ref22_Target opArr tgtE
  by_cases he : chkE 2 ow un se sc n to t1 t2 t3 t4 nw = 0
  · repeat (first | (refine Ok_step (by simp (disch := first | omega | (simp only [vs1_int, vs1_string, vs1_bool, vs1_slice, vs1_snil, vs1_ptr]; done) | (simp only [AW.add_next, AW.put_next, AW.kill_next]; omega)) only [SX, MX, setN, Nat.reduceAdd, Int.reduceEq, Int.reduceLT, Int.reduceLE, Int.reduceNeg, Nat.reduceLT, Nat.reduceLeDiff, Nat.reduceEqDiff, Int.reduceToNat, Nat.reduceMul, hP, he, oConv22]; rfl) ?_; dsimp only) | refine Ok_bT (by simp (disch := first | omega | (simp only [vs1_int, vs1_string, vs1_bool, vs1_slice, vs1_snil, vs1_ptr]; done) | (simp only [AW.add_next, AW.put_next, AW.kill_next]; omega)) only [SX, MX, setN, Nat.reduceAdd, Int.reduceEq, Int.reduceLT, Int.reduceLE, Int.reduceNeg, Nat.reduceLT, Nat.reduceLeDiff, Nat.reduceEqDiff, Int.reduceToNat, Nat.reduceMul, hP, he, oConv22]) ?_ | refine Ok_bF (by simp (disch := first | omega | (simp only [vs1_int, vs1_string, vs1_bool, vs1_slice, vs1_snil, vs1_ptr]; done) | (simp only [AW.add_next, AW.put_next, AW.kill_next]; omega)) only [SX, MX, setN, Nat.reduceAdd, Int.reduceEq, Int.reduceLT, Int.reduceLE, Int.reduceNeg, Nat.reduceLT, Nat.reduceLeDiff, Nat.reduceEqDiff, Int.reduceToNat, Nat.reduceMul, hP, he, oConv22]) ?_)
    exact Ok_some.2 ⟨by rw [he]; rfl, (Le.refl _).add _⟩
  · repeat (first | (refine Ok_step (by simp (disch := first | omega | (simp only [vs1_int, vs1_string, vs1_bool, vs1_slice, vs1_snil, vs1_ptr]; done) | (simp only [AW.add_next, AW.put_next, AW.kill_next]; omega)) only [SX, MX, setN, Nat.reduceAdd, Int.reduceEq, Int.reduceLT, Int.reduceLE, Int.reduceNeg, Nat.reduceLT, Nat.reduceLeDiff, Nat.reduceEqDiff, Int.reduceToNat, Nat.reduceMul, hP, he]; rfl) ?_; dsimp only) | refine Ok_bT (by simp (disch := first | omega | (simp only [vs1_int, vs1_string, vs1_bool, vs1_slice, vs1_snil, vs1_ptr]; done) | (simp only [AW.add_next, AW.put_next, AW.kill_next]; omega)) only [SX, MX, setN, Nat.reduceAdd, Int.reduceEq, Int.reduceLT, Int.reduceLE, Int.reduceNeg, Nat.reduceLT, Nat.reduceLeDiff, Nat.reduceEqDiff, Int.reduceToNat, Nat.reduceMul, hP, he]) ?_ | refine Ok_bF (by simp (disch := first | omega | (simp only [vs1_int, vs1_string, vs1_bool, vs1_slice, vs1_snil, vs1_ptr]; done) | (simp only [AW.add_next, AW.put_next, AW.kill_next]; omega)) only [SX, MX, setN, Nat.reduceAdd, Int.reduceEq, Int.reduceLT, Int.reduceLE, Int.reduceNeg, Nat.reduceLT, Nat.reduceLeDiff, Nat.reduceEqDiff, Int.reduceToNat, Nat.reduceMul, hP, he]) ?_)
    exact Ok_some.2 ⟨by rw [if_pos he]; rfl, (Le.refl _).add _⟩
theorem planTarget_3 (ow un se sc n to t1 t2 t3 t4 nw : Int) {W : AW} (hG : GW W) : Ok (plans_Target omS (.agg (opArr 3 ow un se sc n to t1 t2 t3 t4 nw)) W) fun r => r.1 = tgtV (tgtE 3 se sc t1 (chkE 3 ow un se sc n to t1 t2 t3 t4 nw)) ∧ Le W r.2 := by
  have hP : ∀ o, omS (.func (.func 14) #[] #[]) [.agg (opArr 3 ow un se sc n to t1 t2 t3 t4 nw)] (W.add o) = some (.int .i64 (chkE 3 ow un se sc n to t1 t2 t3 t4 nw), W.add o) := fun o => planCheck_ok 3 ow un se sc n to t1 t2 t3 t4 nw (hG.mono ((Le.refl W).add o))
  have hU : ∀ o, cellsAt (W.add o) 0 = some usesV := fun o => GW.cells (hG.mono ((Le.refl W).add o))
  unfold opArr at hP
  unfold plans_Target opArr tgtE
  by_cases he : chkE 3 ow un se sc n to t1 t2 t3 t4 nw = 0
  · repeat (first | (refine Ok_step (by simp (disch := first | omega | (simp only [vs1_int, vs1_string, vs1_bool, vs1_slice, vs1_snil, vs1_ptr]; done) | (simp only [AW.add_next, AW.put_next, AW.kill_next]; omega)) only [SX, MX, setN, Nat.reduceAdd, Int.reduceEq, Int.reduceLT, Int.reduceLE, Int.reduceNeg, Nat.reduceLT, Nat.reduceLeDiff, Nat.reduceEqDiff, Int.reduceToNat, Nat.reduceMul, hP, hU, he, usesV, useL, List.map_cons, List.map_nil, oBin_and, a27_4, a27_64, a27_8, oConv22]; rfl) ?_; dsimp only) | refine Ok_bT (by simp (disch := first | omega | (simp only [vs1_int, vs1_string, vs1_bool, vs1_slice, vs1_snil, vs1_ptr]; done) | (simp only [AW.add_next, AW.put_next, AW.kill_next]; omega)) only [SX, MX, setN, Nat.reduceAdd, Int.reduceEq, Int.reduceLT, Int.reduceLE, Int.reduceNeg, Nat.reduceLT, Nat.reduceLeDiff, Nat.reduceEqDiff, Int.reduceToNat, Nat.reduceMul, hP, hU, he, usesV, useL, List.map_cons, List.map_nil, oBin_and, a27_4, a27_64, a27_8, oConv22]) ?_ | refine Ok_bF (by simp (disch := first | omega | (simp only [vs1_int, vs1_string, vs1_bool, vs1_slice, vs1_snil, vs1_ptr]; done) | (simp only [AW.add_next, AW.put_next, AW.kill_next]; omega)) only [SX, MX, setN, Nat.reduceAdd, Int.reduceEq, Int.reduceLT, Int.reduceLE, Int.reduceNeg, Nat.reduceLT, Nat.reduceLeDiff, Nat.reduceEqDiff, Int.reduceToNat, Nat.reduceMul, hP, hU, he, usesV, useL, List.map_cons, List.map_nil, oBin_and, a27_4, a27_64, a27_8, oConv22]) ?_)
    exact Ok_some.2 ⟨by rw [he]; rfl, (Le.refl _).add _⟩
  · repeat (first | (refine Ok_step (by simp (disch := first | omega | (simp only [vs1_int, vs1_string, vs1_bool, vs1_slice, vs1_snil, vs1_ptr]; done) | (simp only [AW.add_next, AW.put_next, AW.kill_next]; omega)) only [SX, MX, setN, Nat.reduceAdd, Int.reduceEq, Int.reduceLT, Int.reduceLE, Int.reduceNeg, Nat.reduceLT, Nat.reduceLeDiff, Nat.reduceEqDiff, Int.reduceToNat, Nat.reduceMul, hP, he]; rfl) ?_; dsimp only) | refine Ok_bT (by simp (disch := first | omega | (simp only [vs1_int, vs1_string, vs1_bool, vs1_slice, vs1_snil, vs1_ptr]; done) | (simp only [AW.add_next, AW.put_next, AW.kill_next]; omega)) only [SX, MX, setN, Nat.reduceAdd, Int.reduceEq, Int.reduceLT, Int.reduceLE, Int.reduceNeg, Nat.reduceLT, Nat.reduceLeDiff, Nat.reduceEqDiff, Int.reduceToNat, Nat.reduceMul, hP, he]) ?_ | refine Ok_bF (by simp (disch := first | omega | (simp only [vs1_int, vs1_string, vs1_bool, vs1_slice, vs1_snil, vs1_ptr]; done) | (simp only [AW.add_next, AW.put_next, AW.kill_next]; omega)) only [SX, MX, setN, Nat.reduceAdd, Int.reduceEq, Int.reduceLT, Int.reduceLE, Int.reduceNeg, Nat.reduceLT, Nat.reduceLeDiff, Nat.reduceEqDiff, Int.reduceToNat, Nat.reduceMul, hP, he]) ?_)
    exact Ok_some.2 ⟨by rw [if_pos he]; rfl, (Le.refl _).add _⟩
theorem refTarget_3 (ow un se sc n to t1 t2 t3 t4 nw : Int) (W : AW) : Ok (ref22_Target omS (.agg (opArr 3 ow un se sc n to t1 t2 t3 t4 nw)) W) fun r => r.1 = tgtV (tgtE 3 se sc t1 (chkE 3 ow un se sc n to t1 t2 t3 t4 nw)) ∧ Le W r.2 := by
  have hP : ∀ o, omS (.func (.func 15) #[] #[]) [.agg (opArr 3 ow un se sc n to t1 t2 t3 t4 nw)] (W.add o) = some (.int .i64 (chkE 3 ow un se sc n to t1 t2 t3 t4 nw), W.add o) := fun o => refCheck_ok 3 ow un se sc n to t1 t2 t3 t4 nw (W.add o)
  unfold opArr at hP
  unfold ref22_Target opArr tgtE
  by_cases he : chkE 3 ow un se sc n to t1 t2 t3 t4 nw = 0
  · repeat (first | (refine Ok_step (by simp (disch := first | omega | (simp only [vs1_int, vs1_string, vs1_bool, vs1_slice, vs1_snil, vs1_ptr]; done) | (simp only [AW.add_next, AW.put_next, AW.kill_next]; omega)) only [SX, MX, setN, Nat.reduceAdd, Int.reduceEq, Int.reduceLT, Int.reduceLE, Int.reduceNeg, Nat.reduceLT, Nat.reduceLeDiff, Nat.reduceEqDiff, Int.reduceToNat, Nat.reduceMul, hP, he, oConv22]; rfl) ?_; dsimp only) | refine Ok_bT (by simp (disch := first | omega | (simp only [vs1_int, vs1_string, vs1_bool, vs1_slice, vs1_snil, vs1_ptr]; done) | (simp only [AW.add_next, AW.put_next, AW.kill_next]; omega)) only [SX, MX, setN, Nat.reduceAdd, Int.reduceEq, Int.reduceLT, Int.reduceLE, Int.reduceNeg, Nat.reduceLT, Nat.reduceLeDiff, Nat.reduceEqDiff, Int.reduceToNat, Nat.reduceMul, hP, he, oConv22]) ?_ | refine Ok_bF (by simp (disch := first | omega | (simp only [vs1_int, vs1_string, vs1_bool, vs1_slice, vs1_snil, vs1_ptr]; done) | (simp only [AW.add_next, AW.put_next, AW.kill_next]; omega)) only [SX, MX, setN, Nat.reduceAdd, Int.reduceEq, Int.reduceLT, Int.reduceLE, Int.reduceNeg, Nat.reduceLT, Nat.reduceLeDiff, Nat.reduceEqDiff, Int.reduceToNat, Nat.reduceMul, hP, he, oConv22]) ?_)
    exact Ok_some.2 ⟨by rw [he]; rfl, (Le.refl _).add _⟩
  · repeat (first | (refine Ok_step (by simp (disch := first | omega | (simp only [vs1_int, vs1_string, vs1_bool, vs1_slice, vs1_snil, vs1_ptr]; done) | (simp only [AW.add_next, AW.put_next, AW.kill_next]; omega)) only [SX, MX, setN, Nat.reduceAdd, Int.reduceEq, Int.reduceLT, Int.reduceLE, Int.reduceNeg, Nat.reduceLT, Nat.reduceLeDiff, Nat.reduceEqDiff, Int.reduceToNat, Nat.reduceMul, hP, he]; rfl) ?_; dsimp only) | refine Ok_bT (by simp (disch := first | omega | (simp only [vs1_int, vs1_string, vs1_bool, vs1_slice, vs1_snil, vs1_ptr]; done) | (simp only [AW.add_next, AW.put_next, AW.kill_next]; omega)) only [SX, MX, setN, Nat.reduceAdd, Int.reduceEq, Int.reduceLT, Int.reduceLE, Int.reduceNeg, Nat.reduceLT, Nat.reduceLeDiff, Nat.reduceEqDiff, Int.reduceToNat, Nat.reduceMul, hP, he]) ?_ | refine Ok_bF (by simp (disch := first | omega | (simp only [vs1_int, vs1_string, vs1_bool, vs1_slice, vs1_snil, vs1_ptr]; done) | (simp only [AW.add_next, AW.put_next, AW.kill_next]; omega)) only [SX, MX, setN, Nat.reduceAdd, Int.reduceEq, Int.reduceLT, Int.reduceLE, Int.reduceNeg, Nat.reduceLT, Nat.reduceLeDiff, Nat.reduceEqDiff, Int.reduceToNat, Nat.reduceMul, hP, he]) ?_)
    exact Ok_some.2 ⟨by rw [if_pos he]; rfl, (Le.refl _).add _⟩
theorem planTarget_4 (ow un se sc n to t1 t2 t3 t4 nw : Int) {W : AW} (hG : GW W) : Ok (plans_Target omS (.agg (opArr 4 ow un se sc n to t1 t2 t3 t4 nw)) W) fun r => r.1 = tgtV (tgtE 4 se sc t1 (chkE 4 ow un se sc n to t1 t2 t3 t4 nw)) ∧ Le W r.2 := by
  have hP : ∀ o, omS (.func (.func 14) #[] #[]) [.agg (opArr 4 ow un se sc n to t1 t2 t3 t4 nw)] (W.add o) = some (.int .i64 (chkE 4 ow un se sc n to t1 t2 t3 t4 nw), W.add o) := fun o => planCheck_ok 4 ow un se sc n to t1 t2 t3 t4 nw (hG.mono ((Le.refl W).add o))
  have hU : ∀ o, cellsAt (W.add o) 0 = some usesV := fun o => GW.cells (hG.mono ((Le.refl W).add o))
  unfold opArr at hP
  unfold plans_Target opArr tgtE
  by_cases he : chkE 4 ow un se sc n to t1 t2 t3 t4 nw = 0
  · repeat (first | (refine Ok_step (by simp (disch := first | omega | (simp only [vs1_int, vs1_string, vs1_bool, vs1_slice, vs1_snil, vs1_ptr]; done) | (simp only [AW.add_next, AW.put_next, AW.kill_next]; omega)) only [SX, MX, setN, Nat.reduceAdd, Int.reduceEq, Int.reduceLT, Int.reduceLE, Int.reduceNeg, Nat.reduceLT, Nat.reduceLeDiff, Nat.reduceEqDiff, Int.reduceToNat, Nat.reduceMul, hP, hU, he, usesV, useL, List.map_cons, List.map_nil, oBin_and, a7_4, a7_64, a7_8, oConv22]; rfl) ?_; dsimp only) | refine Ok_bT (by simp (disch := first | omega | (simp only [vs1_int, vs1_string, vs1_bool, vs1_slice, vs1_snil, vs1_ptr]; done) | (simp only [AW.add_next, AW.put_next, AW.kill_next]; omega)) only [SX, MX, setN, Nat.reduceAdd, Int.reduceEq, Int.reduceLT, Int.reduceLE, Int.reduceNeg, Nat.reduceLT, Nat.reduceLeDiff, Nat.reduceEqDiff, Int.reduceToNat, Nat.reduceMul, hP, hU, he, usesV, useL, List.map_cons, List.map_nil, oBin_and, a7_4, a7_64, a7_8, oConv22]) ?_ | refine Ok_bF (by simp (disch := first | omega | (simp only [vs1_int, vs1_string, vs1_bool, vs1_slice, vs1_snil, vs1_ptr]; done) | (simp only [AW.add_next, AW.put_next, AW.kill_next]; omega)) only [SX, MX, setN, Nat.reduceAdd, Int.reduceEq, Int.reduceLT, Int.reduceLE, Int.reduceNeg, Nat.reduceLT, Nat.reduceLeDiff, Nat.reduceEqDiff, Int.reduceToNat, Nat.reduceMul, hP, hU, he, usesV, useL, List.map_cons, List.map_nil, oBin_and, a7_4, a7_64, a7_8, oConv22]) ?_)
    exact Ok_some.2 ⟨by rw [he]; rfl, (Le.refl _).add _⟩
  · repeat (first | (refine Ok_step (by simp (disch := first | omega | (simp only [vs1_int, vs1_string, vs1_bool, vs1_slice, vs1_snil, vs1_ptr]; done) | (simp only [AW.add_next, AW.put_next, AW.kill_next]; omega)) only [SX, MX, setN, Nat.reduceAdd, Int.reduceEq, Int.reduceLT, Int.reduceLE, Int.reduceNeg, Nat.reduceLT, Nat.reduceLeDiff, Nat.reduceEqDiff, Int.reduceToNat, Nat.reduceMul, hP, he]; rfl) ?_; dsimp only) | refine Ok_bT (by simp (disch := first | omega | (simp only [vs1_int, vs1_string, vs1_bool, vs1_slice, vs1_snil, vs1_ptr]; done) | (simp only [AW.add_next, AW.put_next, AW.kill_next]; omega)) only [SX, MX, setN, Nat.reduceAdd, Int.reduceEq, Int.reduceLT, Int.reduceLE, Int.reduceNeg, Nat.reduceLT, Nat.reduceLeDiff, Nat.reduceEqDiff, Int.reduceToNat, Nat.reduceMul, hP, he]) ?_ | refine Ok_bF (by simp (disch := first | omega | (simp only [vs1_int, vs1_string, vs1_bool, vs1_slice, vs1_snil, vs1_ptr]; done) | (simp only [AW.add_next, AW.put_next, AW.kill_next]; omega)) only [SX, MX, setN, Nat.reduceAdd, Int.reduceEq, Int.reduceLT, Int.reduceLE, Int.reduceNeg, Nat.reduceLT, Nat.reduceLeDiff, Nat.reduceEqDiff, Int.reduceToNat, Nat.reduceMul, hP, he]) ?_)
    exact Ok_some.2 ⟨by rw [if_pos he]; rfl, (Le.refl _).add _⟩
theorem refTarget_4 (ow un se sc n to t1 t2 t3 t4 nw : Int) (W : AW) : Ok (ref22_Target omS (.agg (opArr 4 ow un se sc n to t1 t2 t3 t4 nw)) W) fun r => r.1 = tgtV (tgtE 4 se sc t1 (chkE 4 ow un se sc n to t1 t2 t3 t4 nw)) ∧ Le W r.2 := by
  have hP : ∀ o, omS (.func (.func 15) #[] #[]) [.agg (opArr 4 ow un se sc n to t1 t2 t3 t4 nw)] (W.add o) = some (.int .i64 (chkE 4 ow un se sc n to t1 t2 t3 t4 nw), W.add o) := fun o => refCheck_ok 4 ow un se sc n to t1 t2 t3 t4 nw (W.add o)
  unfold opArr at hP
  unfold ref22_Target opArr tgtE
  by_cases he : chkE 4 ow un se sc n to t1 t2 t3 t4 nw = 0
  · repeat (first | (refine Ok_step (by simp (disch := first | omega | (simp only [vs1_int, vs1_string, vs1_bool, vs1_slice, vs1_snil, vs1_ptr]; done) | (simp only [AW.add_next, AW.put_next, AW.kill_next]; omega)) only [SX, MX, setN, Nat.reduceAdd, Int.reduceEq, Int.reduceLT, Int.reduceLE, Int.reduceNeg, Nat.reduceLT, Nat.reduceLeDiff, Nat.reduceEqDiff, Int.reduceToNat, Nat.reduceMul, hP, he, oConv22]; rfl) ?_; dsimp only) | refine Ok_bT (by simp (disch := first | omega | (simp only [vs1_int, vs1_string, vs1_bool, vs1_slice, vs1_snil, vs1_ptr]; done) | (simp only [AW.add_next, AW.put_next, AW.kill_next]; omega)) only [SX, MX, setN, Nat.reduceAdd, Int.reduceEq, Int.reduceLT, Int.reduceLE, Int.reduceNeg, Nat.reduceLT, Nat.reduceLeDiff, Nat.reduceEqDiff, Int.reduceToNat, Nat.reduceMul, hP, he, oConv22]) ?_ | refine Ok_bF (by simp (disch := first | omega | (simp only [vs1_int, vs1_string, vs1_bool, vs1_slice, vs1_snil, vs1_ptr]; done) | (simp only [AW.add_next, AW.put_next, AW.kill_next]; omega)) only [SX, MX, setN, Nat.reduceAdd, Int.reduceEq, Int.reduceLT, Int.reduceLE, Int.reduceNeg, Nat.reduceLT, Nat.reduceLeDiff, Nat.reduceEqDiff, Int.reduceToNat, Nat.reduceMul, hP, he, oConv22]) ?_)
    exact Ok_some.2 ⟨by rw [he]; rfl, (Le.refl _).add _⟩
  · repeat (first | (refine Ok_step (by simp (disch := first | omega | (simp only [vs1_int, vs1_string, vs1_bool, vs1_slice, vs1_snil, vs1_ptr]; done) | (simp only [AW.add_next, AW.put_next, AW.kill_next]; omega)) only [SX, MX, setN, Nat.reduceAdd, Int.reduceEq, Int.reduceLT, Int.reduceLE, Int.reduceNeg, Nat.reduceLT, Nat.reduceLeDiff, Nat.reduceEqDiff, Int.reduceToNat, Nat.reduceMul, hP, he]; rfl) ?_; dsimp only) | refine Ok_bT (by simp (disch := first | omega | (simp only [vs1_int, vs1_string, vs1_bool, vs1_slice, vs1_snil, vs1_ptr]; done) | (simp only [AW.add_next, AW.put_next, AW.kill_next]; omega)) only [SX, MX, setN, Nat.reduceAdd, Int.reduceEq, Int.reduceLT, Int.reduceLE, Int.reduceNeg, Nat.reduceLT, Nat.reduceLeDiff, Nat.reduceEqDiff, Int.reduceToNat, Nat.reduceMul, hP, he]) ?_ | refine Ok_bF (by simp (disch := first | omega | (simp only [vs1_int, vs1_string, vs1_bool, vs1_slice, vs1_snil, vs1_ptr]; done) | (simp only [AW.add_next, AW.put_next, AW.kill_next]; omega)) only [SX, MX, setN, Nat.reduceAdd, Int.reduceEq, Int.reduceLT, Int.reduceLE, Int.reduceNeg, Nat.reduceLT, Nat.reduceLeDiff, Nat.reduceEqDiff, Int.reduceToNat, Nat.reduceMul, hP, he]) ?_)
    exact Ok_some.2 ⟨by rw [if_pos he]; rfl, (Le.refl _).add _⟩
theorem planTarget_5 (ow un se sc n to t1 t2 t3 t4 nw : Int) {W : AW} (hG : GW W) : Ok (plans_Target omS (.agg (opArr 5 ow un se sc n to t1 t2 t3 t4 nw)) W) fun r => r.1 = tgtV (tgtE 5 se sc t1 (chkE 5 ow un se sc n to t1 t2 t3 t4 nw)) ∧ Le W r.2 := by
  have hP : ∀ o, omS (.func (.func 14) #[] #[]) [.agg (opArr 5 ow un se sc n to t1 t2 t3 t4 nw)] (W.add o) = some (.int .i64 (chkE 5 ow un se sc n to t1 t2 t3 t4 nw), W.add o) := fun o => planCheck_ok 5 ow un se sc n to t1 t2 t3 t4 nw (hG.mono ((Le.refl W).add o))
  have hU : ∀ o, cellsAt (W.add o) 0 = some usesV := fun o => GW.cells (hG.mono ((Le.refl W).add o))
  unfold opArr at hP
  unfold plans_Target opArr tgtE
  by_cases he : chkE 5 ow un se sc n to t1 t2 t3 t4 nw = 0
  · repeat (first | (refine Ok_step (by simp (disch := first | omega | (simp only [vs1_int, vs1_string, vs1_bool, vs1_slice, vs1_snil, vs1_ptr]; done) | (simp only [AW.add_next, AW.put_next, AW.kill_next]; omega)) only [SX, MX, setN, Nat.reduceAdd, Int.reduceEq, Int.reduceLT, Int.reduceLE, Int.reduceNeg, Nat.reduceLT, Nat.reduceLeDiff, Nat.reduceEqDiff, Int.reduceToNat, Nat.reduceMul, hP, hU, he, usesV, useL, List.map_cons, List.map_nil, oBin_and, a7_4, a7_64, a7_8, oConv22]; rfl) ?_; dsimp only) | refine Ok_bT (by simp (disch := first | omega | (simp only [vs1_int, vs1_string, vs1_bool, vs1_slice, vs1_snil, vs1_ptr]; done) | (simp only [AW.add_next, AW.put_next, AW.kill_next]; omega)) only [SX, MX, setN, Nat.reduceAdd, Int.reduceEq, Int.reduceLT, Int.reduceLE, Int.reduceNeg, Nat.reduceLT, Nat.reduceLeDiff, Nat.reduceEqDiff, Int.reduceToNat, Nat.reduceMul, hP, hU, he, usesV, useL, List.map_cons, List.map_nil, oBin_and, a7_4, a7_64, a7_8, oConv22]) ?_ | refine Ok_bF (by simp (disch := first | omega | (simp only [vs1_int, vs1_string, vs1_bool, vs1_slice, vs1_snil, vs1_ptr]; done) | (simp only [AW.add_next, AW.put_next, AW.kill_next]; omega)) only [SX, MX, setN, Nat.reduceAdd, Int.reduceEq, Int.reduceLT, Int.reduceLE, Int.reduceNeg, Nat.reduceLT, Nat.reduceLeDiff, Nat.reduceEqDiff, Int.reduceToNat, Nat.reduceMul, hP, hU, he, usesV, useL, List.map_cons, List.map_nil, oBin_and, a7_4, a7_64, a7_8, oConv22]) ?_)
    exact Ok_some.2 ⟨by rw [he]; rfl, (Le.refl _).add _⟩
  · repeat (first | (refine Ok_step (by simp (disch := first | omega | (simp only [vs1_int, vs1_string, vs1_bool, vs1_slice, vs1_snil, vs1_ptr]; done) | (simp only [AW.add_next, AW.put_next, AW.kill_next]; omega)) only [SX, MX, setN, Nat.reduceAdd, Int.reduceEq, Int.reduceLT, Int.reduceLE, Int.reduceNeg, Nat.reduceLT, Nat.reduceLeDiff, Nat.reduceEqDiff, Int.reduceToNat, Nat.reduceMul, hP, he]; rfl) ?_; dsimp only) | refine Ok_bT (by simp (disch := first | omega | (simp only [vs1_int, vs1_string, vs1_bool, vs1_slice, vs1_snil, vs1_ptr]; done) | (simp only [AW.add_next, AW.put_next, AW.kill_next]; omega)) only [SX, MX, setN, Nat.reduceAdd, Int.reduceEq, Int.reduceLT, Int.reduceLE, Int.reduceNeg, Nat.reduceLT, Nat.reduceLeDiff, Nat.reduceEqDiff, Int.reduceToNat, Nat.reduceMul, hP, he]) ?_ | refine Ok_bF (by simp (disch := first | omega | (simp only [vs1_int, vs1_string, vs1_bool, vs1_slice, vs1_snil, vs1_ptr]; done) | (simp only [AW.add_next, AW.put_next, AW.kill_next]; omega)) only [SX, MX, setN, Nat.reduceAdd, Int.reduceEq, Int.reduceLT, Int.reduceLE, Int.reduceNeg, Nat.reduceLT, Nat.reduceLeDiff, Nat.reduceEqDiff, Int.reduceToNat, Nat.reduceMul, hP, he]) ?_)
    exact Ok_some.2 ⟨by rw [if_pos he]; rfl, (Le.refl _).add _⟩
theorem refTarget_5 (ow un se sc n to t1 t2 t3 t4 nw : Int) (W : AW) : Ok (ref22_Target omS (.agg (opArr 5 ow un se sc n to t1 t2 t3 t4 nw)) W) fun r => r.1 = tgtV (tgtE 5 se sc t1 (chkE 5 ow un se sc n to t1 t2 t3 t4 nw)) ∧ Le W r.2 := by
  have hP : ∀ o, omS (.func (.func 15) #[] #[]) [.agg (opArr 5 ow un se sc n to t1 t2 t3 t4 nw)] (W.add o) = some (.int .i64 (chkE 5 ow un se sc n to t1 t2 t3 t4 nw), W.add o) := fun o => refCheck_ok 5 ow un se sc n to t1 t2 t3 t4 nw (W.add o)
  unfold opArr at hP
  unfold ref22_Target opArr tgtE
  by_cases he : chkE 5 ow un se sc n to t1 t2 t3 t4 nw = 0
  · repeat (first | (refine Ok_step (by simp (disch := first | omega | (simp only [vs1_int, vs1_string, vs1_bool, vs1_slice, vs1_snil, vs1_ptr]; done) | (simp only [AW.add_next, AW.put_next, AW.kill_next]; omega)) only [SX, MX, setN, Nat.reduceAdd, Int.reduceEq, Int.reduceLT, Int.reduceLE, Int.reduceNeg, Nat.reduceLT, Nat.reduceLeDiff, Nat.reduceEqDiff, Int.reduceToNat, Nat.reduceMul, hP, he, oConv22]; rfl) ?_; dsimp only) | refine Ok_bT (by simp (disch := first | omega | (simp only [vs1_int, vs1_string, vs1_bool, vs1_slice, vs1_snil, vs1_ptr]; done) | (simp only [AW.add_next, AW.put_next, AW.kill_next]; omega)) only [SX, MX, setN, Nat.reduceAdd, Int.reduceEq, Int.reduceLT, Int.reduceLE, Int.reduceNeg, Nat.reduceLT, Nat.reduceLeDiff, Nat.reduceEqDiff, Int.reduceToNat, Nat.reduceMul, hP, he, oConv22]) ?_ | refine Ok_bF (by simp (disch := first | omega | (simp only [vs1_int, vs1_string, vs1_bool, vs1_slice, vs1_snil, vs1_ptr]; done) | (simp only [AW.add_next, AW.put_next, AW.kill_next]; omega)) only [SX, MX, setN, Nat.reduceAdd, Int.reduceEq, Int.reduceLT, Int.reduceLE, Int.reduceNeg, Nat.reduceLT, Nat.reduceLeDiff, Nat.reduceEqDiff, Int.reduceToNat, Nat.reduceMul, hP, he, oConv22]) ?_)
    exact Ok_some.2 ⟨by rw [he]; rfl, (Le.refl _).add _⟩
  · repeat (first | (refine Ok_step (by simp (disch := first | omega | (simp only [vs1_int, vs1_string, vs1_bool, vs1_slice, vs1_snil, vs1_ptr]; done) | (simp only [AW.add_next, AW.put_next, AW.kill_next]; omega)) only [SX, MX, setN, Nat.reduceAdd, Int.reduceEq, Int.reduceLT, Int.reduceLE, Int.reduceNeg, Nat.reduceLT, Nat.reduceLeDiff, Nat.reduceEqDiff, Int.reduceToNat, Nat.reduceMul, hP, he]; rfl) ?_; dsimp only) | refine Ok_bT (by simp (disch := first | omega | (simp only [vs1_int, vs1_string, vs1_bool, vs1_slice, vs1_snil, vs1_ptr]; done) | (simp only [AW.add_next, AW.put_next, AW.kill_next]; omega)) only [SX, MX, setN, Nat.reduceAdd, Int.reduceEq, Int.reduceLT, Int.reduceLE, Int.reduceNeg, Nat.reduceLT, Nat.reduceLeDiff, Nat.reduceEqDiff, Int.reduceToNat, Nat.reduceMul, hP, he]) ?_ | refine Ok_bF (by simp (disch := first | omega | (simp only [vs1_int, vs1_string, vs1_bool, vs1_slice, vs1_snil, vs1_ptr]; done) | (simp only [AW.add_next, AW.put_next, AW.kill_next]; omega)) only [SX, MX, setN, Nat.reduceAdd, Int.reduceEq, Int.reduceLT, Int.reduceLE, Int.reduceNeg, Nat.reduceLT, Nat.reduceLeDiff, Nat.reduceEqDiff, Int.reduceToNat, Nat.reduceMul, hP, he]) ?_)
    exact Ok_some.2 ⟨by rw [if_pos he]; rfl, (Le.refl _).add _⟩
theorem planTarget_6 (ow un se sc n to t1 t2 t3 t4 nw : Int) {W : AW} (hG : GW W) : Ok (plans_Target omS (.agg (opArr 6 ow un se sc n to t1 t2 t3 t4 nw)) W) fun r => r.1 = tgtV (tgtE 6 se sc t1 (chkE 6 ow un se sc n to t1 t2 t3 t4 nw)) ∧ Le W r.2 := by
  have hP : ∀ o, omS (.func (.func 14) #[] #[]) [.agg (opArr 6 ow un se sc n to t1 t2 t3 t4 nw)] (W.add o) = some (.int .i64 (chkE 6 ow un se sc n to t1 t2 t3 t4 nw), W.add o) := fun o => planCheck_ok 6 ow un se sc n to t1 t2 t3 t4 nw (hG.mono ((Le.refl W).add o))
  have hU : ∀ o, cellsAt (W.add o) 0 = some usesV := fun o => GW.cells (hG.mono ((Le.refl W).add o))
  unfold opArr at hP
  unfold plans_Target opArr tgtE
  by_cases he : chkE 6 ow un se sc n to t1 t2 t3 t4 nw = 0
  · repeat (first | (refine Ok_step (by simp (disch := first | omega | (simp only [vs1_int, vs1_string, vs1_bool, vs1_slice, vs1_snil, vs1_ptr]; done) | (simp only [AW.add_next, AW.put_next, AW.kill_next]; omega)) only [SX, MX, setN, Nat.reduceAdd, Int.reduceEq, Int.reduceLT, Int.reduceLE, Int.reduceNeg, Nat.reduceLT, Nat.reduceLeDiff, Nat.reduceEqDiff, Int.reduceToNat, Nat.reduceMul, hP, hU, he, usesV, useL, List.map_cons, List.map_nil, oBin_and, a99_4, a99_64, a99_8, oConv22]; rfl) ?_; dsimp only) | refine Ok_bT (by simp (disch := first | omega | (simp only [vs1_int, vs1_string, vs1_bool, vs1_slice, vs1_snil, vs1_ptr]; done) | (simp only [AW.add_next, AW.put_next, AW.kill_next]; omega)) only [SX, MX, setN, Nat.reduceAdd, Int.reduceEq, Int.reduceLT, Int.reduceLE, Int.reduceNeg, Nat.reduceLT, Nat.reduceLeDiff, Nat.reduceEqDiff, Int.reduceToNat, Nat.reduceMul, hP, hU, he, usesV, useL, List.map_cons, List.map_nil, oBin_and, a99_4, a99_64, a99_8, oConv22]) ?_ | refine Ok_bF (by simp (disch := first | omega | (simp only [vs1_int, vs1_string, vs1_bool, vs1_slice, vs1_snil, vs1_ptr]; done) | (simp only [AW.add_next, AW.put_next, AW.kill_next]; omega)) only [SX, MX, setN, Nat.reduceAdd, Int.reduceEq, Int.reduceLT, Int.reduceLE, Int.reduceNeg, Nat.reduceLT, Nat.reduceLeDiff, Nat.reduceEqDiff, Int.reduceToNat, Nat.reduceMul, hP, hU, he, usesV, useL, List.map_cons, List.map_nil, oBin_and, a99_4, a99_64, a99_8, oConv22]) ?_)
    exact Ok_some.2 ⟨by rw [he]; rfl, (Le.refl _).add _⟩
  · repeat (first | (refine Ok_step (by simp (disch := first | omega | (simp only [vs1_int, vs1_string, vs1_bool, vs1_slice, vs1_snil, vs1_ptr]; done) | (simp only [AW.add_next, AW.put_next, AW.kill_next]; omega)) only [SX, MX, setN, Nat.reduceAdd, Int.reduceEq, Int.reduceLT, Int.reduceLE, Int.reduceNeg, Nat.reduceLT, Nat.reduceLeDiff, Nat.reduceEqDiff, Int.reduceToNat, Nat.reduceMul, hP, he]; rfl) ?_; dsimp only) | refine Ok_bT (by simp (disch := first | omega | (simp only [vs1_int, vs1_string, vs1_bool, vs1_slice, vs1_snil, vs1_ptr]; done) | (simp only [AW.add_next, AW.put_next, AW.kill_next]; omega)) only [SX, MX, setN, Nat.reduceAdd, Int.reduceEq, Int.reduceLT, Int.reduceLE, Int.reduceNeg, Nat.reduceLT, Nat.reduceLeDiff, Nat.reduceEqDiff, Int.reduceToNat, Nat.reduceMul, hP, he]) ?_ | refine Ok_bF (by simp (disch := first | omega | (simp only [vs1_int, vs1_string, vs1_bool, vs1_slice, vs1_snil, vs1_ptr]; done) | (simp only [AW.add_next, AW.put_next, AW.kill_next]; omega)) only [SX, MX, setN, Nat.reduceAdd, Int.reduceEq, Int.reduceLT, Int.reduceLE, Int.reduceNeg, Nat.reduceLT, Nat.reduceLeDiff, Nat.reduceEqDiff, Int.reduceToNat, Nat.reduceMul, hP, he]) ?_)
    exact Ok_some.2 ⟨by rw [if_pos he]; rfl, (Le.refl _).add _⟩
theorem refTarget_6 (ow un se sc n to t1 t2 t3 t4 nw : Int) (W : AW) : Ok (ref22_Target omS (.agg (opArr 6 ow un se sc n to t1 t2 t3 t4 nw)) W) fun r => r.1 = tgtV (tgtE 6 se sc t1 (chkE 6 ow un se sc n to t1 t2 t3 t4 nw)) ∧ Le W r.2 := by
  have hP : ∀ o, omS (.func (.func 15) #[] #[]) [.agg (opArr 6 ow un se sc n to t1 t2 t3 t4 nw)] (W.add o) = some (.int .i64 (chkE 6 ow un se sc n to t1 t2 t3 t4 nw), W.add o) := fun o => refCheck_ok 6 ow un se sc n to t1 t2 t3 t4 nw (W.add o)
  unfold opArr at hP
  unfold ref22_Target opArr tgtE
  by_cases he : chkE 6 ow un se sc n to t1 t2 t3 t4 nw = 0
  · repeat (first | (refine Ok_step (by simp (disch := first | omega | (simp only [vs1_int, vs1_string, vs1_bool, vs1_slice, vs1_snil, vs1_ptr]; done) | (simp only [AW.add_next, AW.put_next, AW.kill_next]; omega)) only [SX, MX, setN, Nat.reduceAdd, Int.reduceEq, Int.reduceLT, Int.reduceLE, Int.reduceNeg, Nat.reduceLT, Nat.reduceLeDiff, Nat.reduceEqDiff, Int.reduceToNat, Nat.reduceMul, hP, he, oConv22]; rfl) ?_; dsimp only) | refine Ok_bT (by simp (disch := first | omega | (simp only [vs1_int, vs1_string, vs1_bool, vs1_slice, vs1_snil, vs1_ptr]; done) | (simp only [AW.add_next, AW.put_next, AW.kill_next]; omega)) only [SX, MX, setN, Nat.reduceAdd, Int.reduceEq, Int.reduceLT, Int.reduceLE, Int.reduceNeg, Nat.reduceLT, Nat.reduceLeDiff, Nat.reduceEqDiff, Int.reduceToNat, Nat.reduceMul, hP, he, oConv22]) ?_ | refine Ok_bF (by simp (disch := first | omega | (simp only [vs1_int, vs1_string, vs1_bool, vs1_slice, vs1_snil, vs1_ptr]; done) | (simp only [AW.add_next, AW.put_next, AW.kill_next]; omega)) only [SX, MX, setN, Nat.reduceAdd, Int.reduceEq, Int.reduceLT, Int.reduceLE, Int.reduceNeg, Nat.reduceLT, Nat.reduceLeDiff, Nat.reduceEqDiff, Int.reduceToNat, Nat.reduceMul, hP, he, oConv22]) ?_)
    exact Ok_some.2 ⟨by rw [he]; rfl, (Le.refl _).add _⟩
  · repeat (first | (refine Ok_step (by simp (disch := first | omega | (simp only [vs1_int, vs1_string, vs1_bool, vs1_slice, vs1_snil, vs1_ptr]; done) | (simp only [AW.add_next, AW.put_next, AW.kill_next]; omega)) only [SX, MX, setN, Nat.reduceAdd, Int.reduceEq, Int.reduceLT, Int.reduceLE, Int.reduceNeg, Nat.reduceLT, Nat.reduceLeDiff, Nat.reduceEqDiff, Int.reduceToNat, Nat.reduceMul, hP, he]; rfl) ?_; dsimp only) | refine Ok_bT (by simp (disch := first | omega | (simp only [vs1_int, vs1_string, vs1_bool, vs1_slice, vs1_snil, vs1_ptr]; done) | (simp only [AW.add_next, AW.put_next, AW.kill_next]; omega)) only [SX, MX, setN, Nat.reduceAdd, Int.reduceEq, Int.reduceLT, Int.reduceLE, Int.reduceNeg, Nat.reduceLT, Nat.reduceLeDiff, Nat.reduceEqDiff, Int.reduceToNat, Nat.reduceMul, hP, he]) ?_ | refine Ok_bF (by simp (disch := first | omega | (simp only [vs1_int, vs1_string, vs1_bool, vs1_slice, vs1_snil, vs1_ptr]; done) | (simp only [AW.add_next, AW.put_next, AW.kill_next]; omega)) only [SX, MX, setN, Nat.reduceAdd, Int.reduceEq, Int.reduceLT, Int.reduceLE, Int.reduceNeg, Nat.reduceLT, Nat.reduceLeDiff, Nat.reduceEqDiff, Int.reduceToNat, Nat.reduceMul, hP, he]) ?_)
    exact Ok_some.2 ⟨by rw [if_pos he]; rfl, (Le.refl _).add _⟩
theorem planTarget_7 (ow un se sc n to t1 t2 t3 t4 nw : Int) {W : AW} (hG : GW W) : Ok (plans_Target omS (.agg (opArr 7 ow un se sc n to t1 t2 t3 t4 nw)) W) fun r => r.1 = tgtV (tgtE 7 se sc t1 (chkE 7 ow un se sc n to t1 t2 t3 t4 nw)) ∧ Le W r.2 := by
  have hP : ∀ o, omS (.func (.func 14) #[] #[]) [.agg (opArr 7 ow un se sc n to t1 t2 t3 t4 nw)] (W.add o) = some (.int .i64 (chkE 7 ow un se sc n to t1 t2 t3 t4 nw), W.add o) := fun o => planCheck_ok 7 ow un se sc n to t1 t2 t3 t4 nw (hG.mono ((Le.refl W).add o))
  have hU : ∀ o, cellsAt (W.add o) 0 = some usesV := fun o => GW.cells (hG.mono ((Le.refl W).add o))
  unfold opArr at hP
  unfold plans_Target opArr tgtE
  by_cases he : chkE 7 ow un se sc n to t1 t2 t3 t4 nw = 0
  · repeat (first | (refine Ok_step (by simp (disch := first | omega | (simp only [vs1_int, vs1_string, vs1_bool, vs1_slice, vs1_snil, vs1_ptr]; done) | (simp only [AW.add_next, AW.put_next, AW.kill_next]; omega)) only [SX, MX, setN, Nat.reduceAdd, Int.reduceEq, Int.reduceLT, Int.reduceLE, Int.reduceNeg, Nat.reduceLT, Nat.reduceLeDiff, Nat.reduceEqDiff, Int.reduceToNat, Nat.reduceMul, hP, hU, he, usesV, useL, List.map_cons, List.map_nil, oBin_and, a67_4, a67_64, a67_8, oConv22]; rfl) ?_; dsimp only) | refine Ok_bT (by simp (disch := first | omega | (simp only [vs1_int, vs1_string, vs1_bool, vs1_slice, vs1_snil, vs1_ptr]; done) | (simp only [AW.add_next, AW.put_next, AW.kill_next]; omega)) only [SX, MX, setN, Nat.reduceAdd, Int.reduceEq, Int.reduceLT, Int.reduceLE, Int.reduceNeg, Nat.reduceLT, Nat.reduceLeDiff, Nat.reduceEqDiff, Int.reduceToNat, Nat.reduceMul, hP, hU, he, usesV, useL, List.map_cons, List.map_nil, oBin_and, a67_4, a67_64, a67_8, oConv22]) ?_ | refine Ok_bF (by simp (disch := first | omega | (simp only [vs1_int, vs1_string, vs1_bool, vs1_slice, vs1_snil, vs1_ptr]; done) | (simp only [AW.add_next, AW.put_next, AW.kill_next]; omega)) only [SX, MX, setN, Nat.reduceAdd, Int.reduceEq, Int.reduceLT, Int.reduceLE, Int.reduceNeg, Nat.reduceLT, Nat.reduceLeDiff, Nat.reduceEqDiff, Int.reduceToNat, Nat.reduceMul, hP, hU, he, usesV, useL, List.map_cons, List.map_nil, oBin_and, a67_4, a67_64, a67_8, oConv22]) ?_)
    exact Ok_some.2 ⟨by rw [he]; rfl, (Le.refl _).add _⟩
  · repeat (first | (refine Ok_step (by simp (disch := first | omega | (simp only [vs1_int, vs1_string, vs1_bool, vs1_slice, vs1_snil, vs1_ptr]; done) | (simp only [AW.add_next, AW.put_next, AW.kill_next]; omega)) only [SX, MX, setN, Nat.reduceAdd, Int.reduceEq, Int.reduceLT, Int.reduceLE, Int.reduceNeg, Nat.reduceLT, Nat.reduceLeDiff, Nat.reduceEqDiff, Int.reduceToNat, Nat.reduceMul, hP, he]; rfl) ?_; dsimp only) | refine Ok_bT (by simp (disch := first | omega | (simp only [vs1_int, vs1_string, vs1_bool, vs1_slice, vs1_snil, vs1_ptr]; done) | (simp only [AW.add_next, AW.put_next, AW.kill_next]; omega)) only [SX, MX, setN, Nat.reduceAdd, Int.reduceEq, Int.reduceLT, Int.reduceLE, Int.reduceNeg, Nat.reduceLT, Nat.reduceLeDiff, Nat.reduceEqDiff, Int.reduceToNat, Nat.reduceMul, hP, he]) ?_ | refine Ok_bF (by simp (disch := first | omega | (simp only [vs1_int, vs1_string, vs1_bool, vs1_slice, vs1_snil, vs1_ptr]; done) | (simp only [AW.add_next, AW.put_next, AW.kill_next]; omega)) only [SX, MX, setN, Nat.reduceAdd, Int.reduceEq, Int.reduceLT, Int.reduceLE, Int.reduceNeg, Nat.reduceLT, Nat.reduceLeDiff, Nat.reduceEqDiff, Int.reduceToNat, Nat.reduceMul, hP, he]) ?_)
    exact Ok_some.2 ⟨by rw [if_pos he]; rfl, (Le.refl _).add _⟩
theorem refTarget_7 (ow un se sc n to t1 t2 t3 t4 nw : Int) (W : AW) : Ok (ref22_Target omS (.agg (opArr 7 ow un se sc n to t1 t2 t3 t4 nw)) W) fun r => r.1 = tgtV (tgtE 7 se sc t1 (chkE 7 ow un se sc n to t1 t2 t3 t4 nw)) ∧ Le W r.2 := by
  have hP : ∀ o, omS (.func (.func 15) #[] #[]) [.agg (opArr 7 ow un se sc n to t1 t2 t3 t4 nw)] (W.add o) = some (.int .i64 (chkE 7 ow un se sc n to t1 t2 t3 t4 nw), W.add o) := fun o => refCheck_ok 7 ow un se sc n to t1 t2 t3 t4 nw (W.add o)
  unfold opArr at hP
  unfold ref22_Target opArr tgtE
  by_cases he : chkE 7 ow un se sc n to t1 t2 t3 t4 nw = 0
  · repeat (first | (refine Ok_step (by simp (disch := first | omega | (simp only [vs1_int, vs1_string, vs1_bool, vs1_slice, vs1_snil, vs1_ptr]; done) | (simp only [AW.add_next, AW.put_next, AW.kill_next]; omega)) only [SX, MX, setN, Nat.reduceAdd, Int.reduceEq, Int.reduceLT, Int.reduceLE, Int.reduceNeg, Nat.reduceLT, Nat.reduceLeDiff, Nat.reduceEqDiff, Int.reduceToNat, Nat.reduceMul, hP, he, oConv22]; rfl) ?_; dsimp only) | refine Ok_bT (by simp (disch := first | omega | (simp only [vs1_int, vs1_string, vs1_bool, vs1_slice, vs1_snil, vs1_ptr]; done) | (simp only [AW.add_next, AW.put_next, AW.kill_next]; omega)) only [SX, MX, setN, Nat.reduceAdd, Int.reduceEq, Int.reduceLT, Int.reduceLE, Int.reduceNeg, Nat.reduceLT, Nat.reduceLeDiff, Nat.reduceEqDiff, Int.reduceToNat, Nat.reduceMul, hP, he, oConv22]) ?_ | refine Ok_bF (by simp (disch := first | omega | (simp only [vs1_int, vs1_string, vs1_bool, vs1_slice, vs1_snil, vs1_ptr]; done) | (simp only [AW.add_next, AW.put_next, AW.kill_next]; omega)) only [SX, MX, setN, Nat.reduceAdd, Int.reduceEq, Int.reduceLT, Int.reduceLE, Int.reduceNeg, Nat.reduceLT, Nat.reduceLeDiff, Nat.reduceEqDiff, Int.reduceToNat, Nat.reduceMul, hP, he, oConv22]) ?_)
    exact Ok_some.2 ⟨by rw [he]; rfl, (Le.refl _).add _⟩
  · repeat (first | (refine Ok_step (by simp (disch := first | omega | (simp only [vs1_int, vs1_string, vs1_bool, vs1_slice, vs1_snil, vs1_ptr]; done) | (simp only [AW.add_next, AW.put_next, AW.kill_next]; omega)) only [SX, MX, setN, Nat.reduceAdd, Int.reduceEq, Int.reduceLT, Int.reduceLE, Int.reduceNeg, Nat.reduceLT, Nat.reduceLeDiff, Nat.reduceEqDiff, Int.reduceToNat, Nat.reduceMul, hP, he]; rfl) ?_; dsimp only) | refine Ok_bT (by simp (disch := first | omega | (simp only [vs1_int, vs1_string, vs1_bool, vs1_slice, vs1_snil, vs1_ptr]; done) | (simp only [AW.add_next, AW.put_next, AW.kill_next]; omega)) only [SX, MX, setN, Nat.reduceAdd, Int.reduceEq, Int.reduceLT, Int.reduceLE, Int.reduceNeg, Nat.reduceLT, Nat.reduceLeDiff, Nat.reduceEqDiff, Int.reduceToNat, Nat.reduceMul, hP, he]) ?_ | refine Ok_bF (by simp (disch := first | omega | (simp only [vs1_int, vs1_string, vs1_bool, vs1_slice, vs1_snil, vs1_ptr]; done) | (simp only [AW.add_next, AW.put_next, AW.kill_next]; omega)) only [SX, MX, setN, Nat.reduceAdd, Int.reduceEq, Int.reduceLT, Int.reduceLE, Int.reduceNeg, Nat.reduceLT, Nat.reduceLeDiff, Nat.reduceEqDiff, Int.reduceToNat, Nat.reduceMul, hP, he]) ?_)
    exact Ok_some.2 ⟨by rw [if_pos he]; rfl, (Le.refl _).add _⟩
theorem planTarget_8 (ow un se sc n to t1 t2 t3 t4 nw : Int) {W : AW} (hG : GW W) : Ok (plans_Target omS (.agg (opArr 8 ow un se sc n to t1 t2 t3 t4 nw)) W) fun r => r.1 = tgtV (tgtE 8 se sc t1 (chkE 8 ow un se sc n to t1 t2 t3 t4 nw)) ∧ Le W r.2 := by
  have hP : ∀ o, omS (.func (.func 14) #[] #[]) [.agg (opArr 8 ow un se sc n to t1 t2 t3 t4 nw)] (W.add o) = some (.int .i64 (chkE 8 ow un se sc n to t1 t2 t3 t4 nw), W.add o) := fun o => planCheck_ok 8 ow un se sc n to t1 t2 t3 t4 nw (hG.mono ((Le.refl W).add o))
  have hU : ∀ o, cellsAt (W.add o) 0 = some usesV := fun o => GW.cells (hG.mono ((Le.refl W).add o))
  unfold opArr at hP
  unfold plans_Target opArr tgtE
  by_cases he : chkE 8 ow un se sc n to t1 t2 t3 t4 nw = 0
  · repeat (first | (refine Ok_step (by simp (disch := first | omega | (simp only [vs1_int, vs1_string, vs1_bool, vs1_slice, vs1_snil, vs1_ptr]; done) | (simp only [AW.add_next, AW.put_next, AW.kill_next]; omega)) only [SX, MX, setN, Nat.reduceAdd, Int.reduceEq, Int.reduceLT, Int.reduceLE, Int.reduceNeg, Nat.reduceLT, Nat.reduceLeDiff, Nat.reduceEqDiff, Int.reduceToNat, Nat.reduceMul, hP, hU, he, usesV, useL, List.map_cons, List.map_nil, oBin_and, a7_4, a7_64, a7_8, oConv22]; rfl) ?_; dsimp only) | refine Ok_bT (by simp (disch := first | omega | (simp only [vs1_int, vs1_string, vs1_bool, vs1_slice, vs1_snil, vs1_ptr]; done) | (simp only [AW.add_next, AW.put_next, AW.kill_next]; omega)) only [SX, MX, setN, Nat.reduceAdd, Int.reduceEq, Int.reduceLT, Int.reduceLE, Int.reduceNeg, Nat.reduceLT, Nat.reduceLeDiff, Nat.reduceEqDiff, Int.reduceToNat, Nat.reduceMul, hP, hU, he, usesV, useL, List.map_cons, List.map_nil, oBin_and, a7_4, a7_64, a7_8, oConv22]) ?_ | refine Ok_bF (by simp (disch := first | omega | (simp only [vs1_int, vs1_string, vs1_bool, vs1_slice, vs1_snil, vs1_ptr]; done) | (simp only [AW.add_next, AW.put_next, AW.kill_next]; omega)) only [SX, MX, setN, Nat.reduceAdd, Int.reduceEq, Int.reduceLT, Int.reduceLE, Int.reduceNeg, Nat.reduceLT, Nat.reduceLeDiff, Nat.reduceEqDiff, Int.reduceToNat, Nat.reduceMul, hP, hU, he, usesV, useL, List.map_cons, List.map_nil, oBin_and, a7_4, a7_64, a7_8, oConv22]) ?_)
    exact Ok_some.2 ⟨by rw [he]; rfl, (Le.refl _).add _⟩
  · repeat (first | (refine Ok_step (by simp (disch := first | omega | (simp only [vs1_int, vs1_string, vs1_bool, vs1_slice, vs1_snil, vs1_ptr]; done) | (simp only [AW.add_next, AW.put_next, AW.kill_next]; omega)) only [SX, MX, setN, Nat.reduceAdd, Int.reduceEq, Int.reduceLT, Int.reduceLE, Int.reduceNeg, Nat.reduceLT, Nat.reduceLeDiff, Nat.reduceEqDiff, Int.reduceToNat, Nat.reduceMul, hP, he]; rfl) ?_; dsimp only) | refine Ok_bT (by simp (disch := first | omega | (simp only [vs1_int, vs1_string, vs1_bool, vs1_slice, vs1_snil, vs1_ptr]; done) | (simp only [AW.add_next, AW.put_next, AW.kill_next]; omega)) only [SX, MX, setN, Nat.reduceAdd, Int.reduceEq, Int.reduceLT, Int.reduceLE, Int.reduceNeg, Nat.reduceLT, Nat.reduceLeDiff, Nat.reduceEqDiff, Int.reduceToNat, Nat.reduceMul, hP, he]) ?_ | refine Ok_bF (by simp (disch := first | omega | (simp only [vs1_int, vs1_string, vs1_bool, vs1_slice, vs1_snil, vs1_ptr]; done) | (simp only [AW.add_next, AW.put_next, AW.kill_next]; omega)) only [SX, MX, setN, Nat.reduceAdd, Int.reduceEq, Int.reduceLT, Int.reduceLE, Int.reduceNeg, Nat.reduceLT, Nat.reduceLeDiff, Nat.reduceEqDiff, Int.reduceToNat, Nat.reduceMul, hP, he]) ?_)
    exact Ok_some.2 ⟨by rw [if_pos he]; rfl, (Le.refl _).add _⟩
theorem refTarget_8 (ow un se sc n to t1 t2 t3 t4 nw : Int) (W : AW) : Ok (ref22_Target omS (.agg (opArr 8 ow un se sc n to t1 t2 t3 t4 nw)) W) fun r => r.1 = tgtV (tgtE 8 se sc t1 (chkE 8 ow un se sc n to t1 t2 t3 t4 nw)) ∧ Le W r.2 := by
  have hP : ∀ o, omS (.func (.func 15) #[] #[]) [.agg (opArr 8 ow un se sc n to t1 t2 t3 t4 nw)] (W.add o) = some (.int .i64 (chkE 8 ow un se sc n to t1 t2 t3 t4 nw), W.add o) := fun o => refCheck_ok 8 ow un se sc n to t1 t2 t3 t4 nw (W.add o)
  unfold opArr at hP
  unfold ref22_Target opArr tgtE
  by_cases he : chkE 8 ow un se sc n to t1 t2 t3 t4 nw = 0
  · repeat (first | (refine Ok_step (by simp (disch := first | omega | (simp only [vs1_int, vs1_string, vs1_bool, vs1_slice, vs1_snil, vs1_ptr]; done) | (simp only [AW.add_next, AW.put_next, AW.kill_next]; omega)) only [SX, MX, setN, Nat.reduceAdd, Int.reduceEq, Int.reduceLT, Int.reduceLE, Int.reduceNeg, Nat.reduceLT, Nat.reduceLeDiff, Nat.reduceEqDiff, Int.reduceToNat, Nat.reduceMul, hP, he, oConv22]; rfl) ?_; dsimp only) | refine Ok_bT (by simp (disch := first | omega | (simp only [vs1_int, vs1_string, vs1_bool, vs1_slice, vs1_snil, vs1_ptr]; done) | (simp only [AW.add_next, AW.put_next, AW.kill_next]; omega)) only [SX, MX, setN, Nat.reduceAdd, Int.reduceEq, Int.reduceLT, Int.reduceLE, Int.reduceNeg, Nat.reduceLT, Nat.reduceLeDiff, Nat.reduceEqDiff, Int.reduceToNat, Nat.reduceMul, hP, he, oConv22]) ?_ | refine Ok_bF (by simp (disch := first | omega | (simp only [vs1_int, vs1_string, vs1_bool, vs1_slice, vs1_snil, vs1_ptr]; done) | (simp only [AW.add_next, AW.put_next, AW.kill_next]; omega)) only [SX, MX, setN, Nat.reduceAdd, Int.reduceEq, Int.reduceLT, Int.reduceLE, Int.reduceNeg, Nat.reduceLT, Nat.reduceLeDiff, Nat.reduceEqDiff, Int.reduceToNat, Nat.reduceMul, hP, he, oConv22]) ?_)
    exact Ok_some.2 ⟨by rw [he]; rfl, (Le.refl _).add _⟩
  · repeat (first | (refine Ok_step (by simp (disch := first | omega | (simp only [vs1_int, vs1_string, vs1_bool, vs1_slice, vs1_snil, vs1_ptr]; done) | (simp only [AW.add_next, AW.put_next, AW.kill_next]; omega)) only [SX, MX, setN, Nat.reduceAdd, Int.reduceEq, Int.reduceLT, Int.reduceLE, Int.reduceNeg, Nat.reduceLT, Nat.reduceLeDiff, Nat.reduceEqDiff, Int.reduceToNat, Nat.reduceMul, hP, he]; rfl) ?_; dsimp only) | refine Ok_bT (by simp (disch := first | omega | (simp only [vs1_int, vs1_string, vs1_bool, vs1_slice, vs1_snil, vs1_ptr]; done) | (simp only [AW.add_next, AW.put_next, AW.kill_next]; omega)) only [SX, MX, setN, Nat.reduceAdd, Int.reduceEq, Int.reduceLT, Int.reduceLE, Int.reduceNeg, Nat.reduceLT, Nat.reduceLeDiff, Nat.reduceEqDiff, Int.reduceToNat, Nat.reduceMul, hP, he]) ?_ | refine Ok_bF (by simp (disch := first | omega | (simp only [vs1_int, vs1_string, vs1_bool, vs1_slice, vs1_snil, vs1_ptr]; done) | (simp only [AW.add_next, AW.put_next, AW.kill_next]; omega)) only [SX, MX, setN, Nat.reduceAdd, Int.reduceEq, Int.reduceLT, Int.reduceLE, Int.reduceNeg, Nat.reduceLT, Nat.reduceLeDiff, Nat.reduceEqDiff, Int.reduceToNat, Nat.reduceMul, hP, he]) ?_)
    exact Ok_some.2 ⟨by rw [if_pos he]; rfl, (Le.refl _).add _⟩
theorem planTarget_9 (ow un se sc n to t1 t2 t3 t4 nw : Int) {W : AW} (hG : GW W) : Ok (plans_Target omS (.agg (opArr 9 ow un se sc n to t1 t2 t3 t4 nw)) W) fun r => r.1 = tgtV (tgtE 9 se sc t1 (chkE 9 ow un se sc n to t1 t2 t3 t4 nw)) ∧ Le W r.2 := by
  have hP : ∀ o, omS (.func (.func 14) #[] #[]) [.agg (opArr 9 ow un se sc n to t1 t2 t3 t4 nw)] (W.add o) = some (.int .i64 (chkE 9 ow un se sc n to t1 t2 t3 t4 nw), W.add o) := fun o => planCheck_ok 9 ow un se sc n to t1 t2 t3 t4 nw (hG.mono ((Le.refl W).add o))
  have hU : ∀ o, cellsAt (W.add o) 0 = some usesV := fun o => GW.cells (hG.mono ((Le.refl W).add o))
  unfold opArr at hP
  unfold plans_Target opArr tgtE
  by_cases he : chkE 9 ow un se sc n to t1 t2 t3 t4 nw = 0
  · repeat (first | (refine Ok_step (by simp (disch := first | omega | (simp only [vs1_int, vs1_string, vs1_bool, vs1_slice, vs1_snil, vs1_ptr]; done) | (simp only [AW.add_next, AW.put_next, AW.kill_next]; omega)) only [SX, MX, setN, Nat.reduceAdd, Int.reduceEq, Int.reduceLT, Int.reduceLE, Int.reduceNeg, Nat.reduceLT, Nat.reduceLeDiff, Nat.reduceEqDiff, Int.reduceToNat, Nat.reduceMul, hP, hU, he, usesV, useL, List.map_cons, List.map_nil, oBin_and, a64_4, a64_64, a64_8, oConv22]; rfl) ?_; dsimp only) | refine Ok_bT (by simp (disch := first | omega | (simp only [vs1_int, vs1_string, vs1_bool, vs1_slice, vs1_snil, vs1_ptr]; done) | (simp only [AW.add_next, AW.put_next, AW.kill_next]; omega)) only [SX, MX, setN, Nat.reduceAdd, Int.reduceEq, Int.reduceLT, Int.reduceLE, Int.reduceNeg, Nat.reduceLT, Nat.reduceLeDiff, Nat.reduceEqDiff, Int.reduceToNat, Nat.reduceMul, hP, hU, he, usesV, useL, List.map_cons, List.map_nil, oBin_and, a64_4, a64_64, a64_8, oConv22]) ?_ | refine Ok_bF (by simp (disch := first | omega | (simp only [vs1_int, vs1_string, vs1_bool, vs1_slice, vs1_snil, vs1_ptr]; done) | (simp only [AW.add_next, AW.put_next, AW.kill_next]; omega)) only [SX, MX, setN, Nat.reduceAdd, Int.reduceEq, Int.reduceLT, Int.reduceLE, Int.reduceNeg, Nat.reduceLT, Nat.reduceLeDiff, Nat.reduceEqDiff, Int.reduceToNat, Nat.reduceMul, hP, hU, he, usesV, useL, List.map_cons, List.map_nil, oBin_and, a64_4, a64_64, a64_8, oConv22]) ?_)
    exact Ok_some.2 ⟨by rw [he]; rfl, (Le.refl _).add _⟩
  · repeat (first | (refine Ok_step (by simp (disch := first | omega | (simp only [vs1_int, vs1_string, vs1_bool, vs1_slice, vs1_snil, vs1_ptr]; done) | (simp only [AW.add_next, AW.put_next, AW.kill_next]; omega)) only [SX, MX, setN, Nat.reduceAdd, Int.reduceEq, Int.reduceLT, Int.reduceLE, Int.reduceNeg, Nat.reduceLT, Nat.reduceLeDiff, Nat.reduceEqDiff, Int.reduceToNat, Nat.reduceMul, hP, he]; rfl) ?_; dsimp only) | refine Ok_bT (by simp (disch := first | omega | (simp only [vs1_int, vs1_string, vs1_bool, vs1_slice, vs1_snil, vs1_ptr]; done) | (simp only [AW.add_next, AW.put_next, AW.kill_next]; omega)) only [SX, MX, setN, Nat.reduceAdd, Int.reduceEq, Int.reduceLT, Int.reduceLE, Int.reduceNeg, Nat.reduceLT, Nat.reduceLeDiff, Nat.reduceEqDiff, Int.reduceToNat, Nat.reduceMul, hP, he]) ?_ | refine Ok_bF (by simp (disch := first | omega | (simp only [vs1_int, vs1_string, vs1_bool, vs1_slice, vs1_snil, vs1_ptr]; done) | (simp only [AW.add_next, AW.put_next, AW.kill_next]; omega)) only [SX, MX, setN, Nat.reduceAdd, Int.reduceEq, Int.reduceLT, Int.reduceLE, Int.reduceNeg, Nat.reduceLT, Nat.reduceLeDiff, Nat.reduceEqDiff, Int.reduceToNat, Nat.reduceMul, hP, he]) ?_)
    exact Ok_some.2 ⟨by rw [if_pos he]; rfl, (Le.refl _).add _⟩
theorem refTarget_9 (ow un se sc n to t1 t2 t3 t4 nw : Int) (W : AW) : Ok (ref22_Target omS (.agg (opArr 9 ow un se sc n to t1 t2 t3 t4 nw)) W) fun r => r.1 = tgtV (tgtE 9 se sc t1 (chkE 9 ow un se sc n to t1 t2 t3 t4 nw)) ∧ Le W r.2 := by
  have hP : ∀ o, omS (.func (.func 15) #[] #[]) [.agg (opArr 9 ow un se sc n to t1 t2 t3 t4 nw)] (W.add o) = some (.int .i64 (chkE 9 ow un se sc n to t1 t2 t3 t4 nw), W.add o) := fun o => refCheck_ok 9 ow un se sc n to t1 t2 t3 t4 nw (W.add o)
  unfold opArr at hP
  unfold ref22_Target opArr tgtE
  by_cases he : chkE 9 ow un se sc n to t1 t2 t3 t4 nw = 0
  · repeat (first | (refine Ok_step (by simp (disch := first | omega | (simp only [vs1_int, vs1_string, vs1_bool, vs1_slice, vs1_snil, vs1_ptr]; done) | (simp only [AW.add_next, AW.put_next, AW.kill_next]; omega)) only [SX, MX, setN, Nat.reduceAdd, Int.reduceEq, Int.reduceLT, Int.reduceLE, Int.reduceNeg, Nat.reduceLT, Nat.reduceLeDiff, Nat.reduceEqDiff, Int.reduceToNat, Nat.reduceMul, hP, he, oConv22]; rfl) ?_; dsimp only) | refine Ok_bT (by simp (disch := first | omega | (simp only [vs1_int, vs1_string, vs1_bool, vs1_slice, vs1_snil, vs1_ptr]; done) | (simp only [AW.add_next, AW.put_next, AW.kill_next]; omega)) only [SX, MX, setN, Nat.reduceAdd, Int.reduceEq, Int.reduceLT, Int.reduceLE, Int.reduceNeg, Nat.reduceLT, Nat.reduceLeDiff, Nat.reduceEqDiff, Int.reduceToNat, Nat.reduceMul, hP, he, oConv22]) ?_ | refine Ok_bF (by simp (disch := first | omega | (simp only [vs1_int, vs1_string, vs1_bool, vs1_slice, vs1_snil, vs1_ptr]; done) | (simp only [AW.add_next, AW.put_next, AW.kill_next]; omega)) only [SX, MX, setN, Nat.reduceAdd, Int.reduceEq, Int.reduceLT, Int.reduceLE, Int.reduceNeg, Nat.reduceLT, Nat.reduceLeDiff, Nat.reduceEqDiff, Int.reduceToNat, Nat.reduceMul, hP, he, oConv22]) ?_)
    exact Ok_some.2 ⟨by rw [he]; rfl, (Le.refl _).add _⟩
  · repeat (first | (refine Ok_step (by simp (disch := first | omega | (simp only [vs1_int, vs1_string, vs1_bool, vs1_slice, vs1_snil, vs1_ptr]; done) | (simp only [AW.add_next, AW.put_next, AW.kill_next]; omega)) only [SX, MX, setN, Nat.reduceAdd, Int.reduceEq, Int.reduceLT, Int.reduceLE, Int.reduceNeg, Nat.reduceLT, Nat.reduceLeDiff, Nat.reduceEqDiff, Int.reduceToNat, Nat.reduceMul, hP, he]; rfl) ?_; dsimp only) | refine Ok_bT (by simp (disch := first | omega | (simp only [vs1_int, vs1_string, vs1_bool, vs1_slice, vs1_snil, vs1_ptr]; done) | (simp only [AW.add_next, AW.put_next, AW.kill_next]; omega)) only [SX, MX, setN, Nat.reduceAdd, Int.reduceEq, Int.reduceLT, Int.reduceLE, Int.reduceNeg, Nat.reduceLT, Nat.reduceLeDiff, Nat.reduceEqDiff, Int.reduceToNat, Nat.reduceMul, hP, he]) ?_ | refine Ok_bF (by simp (disch := first | omega | (simp only [vs1_int, vs1_string, vs1_bool, vs1_slice, vs1_snil, vs1_ptr]; done) | (simp only [AW.add_next, AW.put_next, AW.kill_next]; omega)) only [SX, MX, setN, Nat.reduceAdd, Int.reduceEq, Int.reduceLT, Int.reduceLE, Int.reduceNeg, Nat.reduceLT, Nat.reduceLeDiff, Nat.reduceEqDiff, Int.reduceToNat, Nat.reduceMul, hP, he]) ?_)
    exact Ok_some.2 ⟨by rw [if_pos he]; rfl, (Le.refl _).add _⟩
theorem planTarget_10 (ow un se sc n to t1 t2 t3 t4 nw : Int) {W : AW} (hG : GW W) : Ok (plans_Target omS (.agg (opArr 10 ow un se sc n to t1 t2 t3 t4 nw)) W) fun r => r.1 = tgtV (tgtE 10 se sc t1 (chkE 10 ow un se sc n to t1 t2 t3 t4 nw)) ∧ Le W r.2 := by
  have hP : ∀ o, omS (.func (.func 14) #[] #[]) [.agg (opArr 10 ow un se sc n to t1 t2 t3 t4 nw)] (W.add o) = some (.int .i64 (chkE 10 ow un se sc n to t1 t2 t3 t4 nw), W.add o) := fun o => planCheck_ok 10 ow un se sc n to t1 t2 t3 t4 nw (hG.mono ((Le.refl W).add o))
  have hU : ∀ o, cellsAt (W.add o) 0 = some usesV := fun o => GW.cells (hG.mono ((Le.refl W).add o))
  unfold opArr at hP
  unfold plans_Target opArr tgtE
  by_cases he : chkE 10 ow un se sc n to t1 t2 t3 t4 nw = 0
  · repeat (first | (refine Ok_step (by simp (disch := first | omega | (simp only [vs1_int, vs1_string, vs1_bool, vs1_slice, vs1_snil, vs1_ptr]; done) | (simp only [AW.add_next, AW.put_next, AW.kill_next]; omega)) only [SX, MX, setN, Nat.reduceAdd, Int.reduceEq, Int.reduceLT, Int.reduceLE, Int.reduceNeg, Nat.reduceLT, Nat.reduceLeDiff, Nat.reduceEqDiff, Int.reduceToNat, Nat.reduceMul, hP, hU, he, usesV, useL, List.map_cons, List.map_nil, oBin_and, a11_4, a11_64, a11_8, oConv22]; rfl) ?_; dsimp only) | refine Ok_bT (by simp (disch := first | omega | (simp only [vs1_int, vs1_string, vs1_bool, vs1_slice, vs1_snil, vs1_ptr]; done) | (simp only [AW.add_next, AW.put_next, AW.kill_next]; omega)) only [SX, MX, setN, Nat.reduceAdd, Int.reduceEq, Int.reduceLT, Int.reduceLE, Int.reduceNeg, Nat.reduceLT, Nat.reduceLeDiff, Nat.reduceEqDiff, Int.reduceToNat, Nat.reduceMul, hP, hU, he, usesV, useL, List.map_cons, List.map_nil, oBin_and, a11_4, a11_64, a11_8, oConv22]) ?_ | refine Ok_bF (by simp (disch := first | omega | (simp only [vs1_int, vs1_string, vs1_bool, vs1_slice, vs1_snil, vs1_ptr]; done) | (simp only [AW.add_next, AW.put_next, AW.kill_next]; omega)) only [SX, MX, setN, Nat.reduceAdd, Int.reduceEq, Int.reduceLT, Int.reduceLE, Int.reduceNeg, Nat.reduceLT, Nat.reduceLeDiff, Nat.reduceEqDiff, Int.reduceToNat, Nat.reduceMul, hP, hU, he, usesV, useL, List.map_cons, List.map_nil, oBin_and, a11_4, a11_64, a11_8, oConv22]) ?_)
    exact Ok_some.2 ⟨by rw [he]; rfl, (Le.refl _).add _⟩
  · repeat (first | (refine Ok_step (by simp (disch := first | omega | (simp only [vs1_int, vs1_string, vs1_bool, vs1_slice, vs1_snil, vs1_ptr]; done) | (simp only [AW.add_next, AW.put_next, AW.kill_next]; omega)) only [SX, MX, setN, Nat.reduceAdd, Int.reduceEq, Int.reduceLT, Int.reduceLE, Int.reduceNeg, Nat.reduceLT, Nat.reduceLeDiff, Nat.reduceEqDiff, Int.reduceToNat, Nat.reduceMul, hP, he]; rfl) ?_; dsimp only) | refine Ok_bT (by simp (disch := first | omega | (simp only [vs1_int, vs1_string, vs1_bool, vs1_slice, vs1_snil, vs1_ptr]; done) | (simp only [AW.add_next, AW.put_next, AW.kill_next]; omega)) only [SX, MX, setN, Nat.reduceAdd, Int.reduceEq, Int.reduceLT, Int.reduceLE, Int.reduceNeg, Nat.reduceLT, Nat.reduceLeDiff, Nat.reduceEqDiff, Int.reduceToNat, Nat.reduceMul, hP, he]) ?_ | refine Ok_bF (by simp (disch := first | omega | (simp only [vs1_int, vs1_string, vs1_bool, vs1_slice, vs1_snil, vs1_ptr]; done) | (simp only [AW.add_next, AW.put_next, AW.kill_next]; omega)) only [SX, MX, setN, Nat.reduceAdd, Int.reduceEq, Int.reduceLT, Int.reduceLE, Int.reduceNeg, Nat.reduceLT, Nat.reduceLeDiff, Nat.reduceEqDiff, Int.reduceToNat, Nat.reduceMul, hP, he]) ?_)
    exact Ok_some.2 ⟨by rw [if_pos he]; rfl, (Le.refl _).add _⟩
theorem refTarget_10 (ow un se sc n to t1 t2 t3 t4 nw : Int) (W : AW) : Ok (ref22_Target omS (.agg (opArr 10 ow un se sc n to t1 t2 t3 t4 nw)) W) fun r => r.1 = tgtV (tgtE 10 se sc t1 (chkE 10 ow un se sc n to t1 t2 t3 t4 nw)) ∧ Le W r.2 := by
  have hP : ∀ o, omS (.func (.func 15) #[] #[]) [.agg (opArr 10 ow un se sc n to t1 t2 t3 t4 nw)] (W.add o) = some (.int .i64 (chkE 10 ow un se sc n to t1 t2 t3 t4 nw), W.add o) := fun o => refCheck_ok 10 ow un se sc n to t1 t2 t3 t4 nw (W.add o)
  unfold opArr at hP
  unfold ref22_Target opArr tgtE
  by_cases he : chkE 10 ow un se sc n to t1 t2 t3 t4 nw = 0
  · repeat (first | (refine Ok_step (by simp (disch := first | omega | (simp only [vs1_int, vs1_string, vs1_bool, vs1_slice, vs1_snil, vs1_ptr]; done) | (simp only [AW.add_next, AW.put_next, AW.kill_next]; omega)) only [SX, MX, setN, Nat.reduceAdd, Int.reduceEq, Int.reduceLT, Int.reduceLE, Int.reduceNeg, Nat.reduceLT, Nat.reduceLeDiff, Nat.reduceEqDiff, Int.reduceToNat, Nat.reduceMul, hP, he, oConv22]; rfl) ?_; dsimp only) | refine Ok_bT (by simp (disch := first | omega | (simp only [vs1_int, vs1_string, vs1_bool, vs1_slice, vs1_snil, vs1_ptr]; done) | (simp only [AW.add_next, AW.put_next, AW.kill_next]; omega)) only [SX, MX, setN, Nat.reduceAdd, Int.reduceEq, Int.reduceLT, Int.reduceLE, Int.reduceNeg, Nat.reduceLT, Nat.reduceLeDiff, Nat.reduceEqDiff, Int.reduceToNat, Nat.reduceMul, hP, he, oConv22]) ?_ | refine Ok_bF (by simp (disch := first | omega | (simp only [vs1_int, vs1_string, vs1_bool, vs1_slice, vs1_snil, vs1_ptr]; done) | (simp only [AW.add_next, AW.put_next, AW.kill_next]; omega)) only [SX, MX, setN, Nat.reduceAdd, Int.reduceEq, Int.reduceLT, Int.reduceLE, Int.reduceNeg, Nat.reduceLT, Nat.reduceLeDiff, Nat.reduceEqDiff, Int.reduceToNat, Nat.reduceMul, hP, he, oConv22]) ?_)
    exact Ok_some.2 ⟨by rw [he]; rfl, (Le.refl _).add _⟩
  · repeat (first | (refine Ok_step (by simp (disch := first | omega | (simp only [vs1_int, vs1_string, vs1_bool, vs1_slice, vs1_snil, vs1_ptr]; done) | (simp only [AW.add_next, AW.put_next, AW.kill_next]; omega)) only [SX, MX, setN, Nat.reduceAdd, Int.reduceEq, Int.reduceLT, Int.reduceLE, Int.reduceNeg, Nat.reduceLT, Nat.reduceLeDiff, Nat.reduceEqDiff, Int.reduceToNat, Nat.reduceMul, hP, he]; rfl) ?_; dsimp only) | refine Ok_bT (by simp (disch := first | omega | (simp only [vs1_int, vs1_string, vs1_bool, vs1_slice, vs1_snil, vs1_ptr]; done) | (simp only [AW.add_next, AW.put_next, AW.kill_next]; omega)) only [SX, MX, setN, Nat.reduceAdd, Int.reduceEq, Int.reduceLT, Int.reduceLE, Int.reduceNeg, Nat.reduceLT, Nat.reduceLeDiff, Nat.reduceEqDiff, Int.reduceToNat, Nat.reduceMul, hP, he]) ?_ | refine Ok_bF (by simp (disch := first | omega | (simp only [vs1_int, vs1_string, vs1_bool, vs1_slice, vs1_snil, vs1_ptr]; done) | (simp only [AW.add_next, AW.put_next, AW.kill_next]; omega)) only [SX, MX, setN, Nat.reduceAdd, Int.reduceEq, Int.reduceLT, Int.reduceLE, Int.reduceNeg, Nat.reduceLT, Nat.reduceLeDiff, Nat.reduceEqDiff, Int.reduceToNat, Nat.reduceMul, hP, he]) ?_)
    exact Ok_some.2 ⟨by rw [if_pos he]; rfl, (Le.refl _).add _⟩
theorem planTarget_11 (ow un se sc n to t1 t2 t3 t4 nw : Int) {W : AW} (hG : GW W) : Ok (plans_Target omS (.agg (opArr 11 ow un se sc n to t1 t2 t3 t4 nw)) W) fun r => r.1 = tgtV (tgtE 11 se sc t1 (chkE 11 ow un se sc n to t1 t2 t3 t4 nw)) ∧ Le W r.2 := by
  have hP : ∀ o, omS (.func (.func 14) #[] #[]) [.agg (opArr 11 ow un se sc n to t1 t2 t3 t4 nw)] (W.add o) = some (.int .i64 (chkE 11 ow un se sc n to t1 t2 t3 t4 nw), W.add o) := fun o => planCheck_ok 11 ow un se sc n to t1 t2 t3 t4 nw (hG.mono ((Le.refl W).add o))
  have hU : ∀ o, cellsAt (W.add o) 0 = some usesV := fun o => GW.cells (hG.mono ((Le.refl W).add o))
  unfold opArr at hP
  unfold plans_Target opArr tgtE
  by_cases he : chkE 11 ow un se sc n to t1 t2 t3 t4 nw = 0
  · repeat (first | (refine Ok_step (by simp (disch := first | omega | (simp only [vs1_int, vs1_string, vs1_bool, vs1_slice, vs1_snil, vs1_ptr]; done) | (simp only [AW.add_next, AW.put_next, AW.kill_next]; omega)) only [SX, MX, setN, Nat.reduceAdd, Int.reduceEq, Int.reduceLT, Int.reduceLE, Int.reduceNeg, Nat.reduceLT, Nat.reduceLeDiff, Nat.reduceEqDiff, Int.reduceToNat, Nat.reduceMul, hP, hU, he, usesV, useL, List.map_cons, List.map_nil, oBin_and, a11_4, a11_64, a11_8, oConv22]; rfl) ?_; dsimp only) | refine Ok_bT (by simp (disch := first | omega | (simp only [vs1_int, vs1_string, vs1_bool, vs1_slice, vs1_snil, vs1_ptr]; done) | (simp only [AW.add_next, AW.put_next, AW.kill_next]; omega)) only [SX, MX, setN, Nat.reduceAdd, Int.reduceEq, Int.reduceLT, Int.reduceLE, Int.reduceNeg, Nat.reduceLT, Nat.reduceLeDiff, Nat.reduceEqDiff, Int.reduceToNat, Nat.reduceMul, hP, hU, he, usesV, useL, List.map_cons, List.map_nil, oBin_and, a11_4, a11_64, a11_8, oConv22]) ?_ | refine Ok_bF (by simp (disch := first | omega | (simp only [vs1_int, vs1_string, vs1_bool, vs1_slice, vs1_snil, vs1_ptr]; done) | (simp only [AW.add_next, AW.put_next, AW.kill_next]; omega)) only [SX, MX, setN, Nat.reduceAdd, Int.reduceEq, Int.reduceLT, Int.reduceLE, Int.reduceNeg, Nat.reduceLT, Nat.reduceLeDiff, Nat.reduceEqDiff, Int.reduceToNat, Nat.reduceMul, hP, hU, he, usesV, useL, List.map_cons, List.map_nil, oBin_and, a11_4, a11_64, a11_8, oConv22]) ?_)
    exact Ok_some.2 ⟨by rw [he]; rfl, (Le.refl _).add _⟩
  · repeat (first | (refine Ok_step (by simp (disch := first | omega | (simp only [vs1_int, vs1_string, vs1_bool, vs1_slice, vs1_snil, vs1_ptr]; done) | (simp only [AW.add_next, AW.put_next, AW.kill_next]; omega)) only [SX, MX, setN, Nat.reduceAdd, Int.reduceEq, Int.reduceLT, Int.reduceLE, Int.reduceNeg, Nat.reduceLT, Nat.reduceLeDiff, Nat.reduceEqDiff, Int.reduceToNat, Nat.reduceMul, hP, he]; rfl) ?_; dsimp only) | refine Ok_bT (by simp (disch := first | omega | (simp only [vs1_int, vs1_string, vs1_bool, vs1_slice, vs1_snil, vs1_ptr]; done) | (simp only [AW.add_next, AW.put_next, AW.kill_next]; omega)) only [SX, MX, setN, Nat.reduceAdd, Int.reduceEq, Int.reduceLT, Int.reduceLE, Int.reduceNeg, Nat.reduceLT, Nat.reduceLeDiff, Nat.reduceEqDiff, Int.reduceToNat, Nat.reduceMul, hP, he]) ?_ | refine Ok_bF (by simp (disch := first | omega | (simp only [vs1_int, vs1_string, vs1_bool, vs1_slice, vs1_snil, vs1_ptr]; done) | (simp only [AW.add_next, AW.put_next, AW.kill_next]; omega)) only [SX, MX, setN, Nat.reduceAdd, Int.reduceEq, Int.reduceLT, Int.reduceLE, Int.reduceNeg, Nat.reduceLT, Nat.reduceLeDiff, Nat.reduceEqDiff, Int.reduceToNat, Nat.reduceMul, hP, he]) ?_)
    exact Ok_some.2 ⟨by rw [if_pos he]; rfl, (Le.refl _).add _⟩
theorem refTarget_11 (ow un se sc n to t1 t2 t3 t4 nw : Int) (W : AW) : Ok (ref22_Target omS (.agg (opArr 11 ow un se sc n to t1 t2 t3 t4 nw)) W) fun r => r.1 = tgtV (tgtE 11 se sc t1 (chkE 11 ow un se sc n to t1 t2 t3 t4 nw)) ∧ Le W r.2 := by
  have hP : ∀ o, omS (.func (.func 15) #[] #[]) [.agg (opArr 11 ow un se sc n to t1 t2 t3 t4 nw)] (W.add o) = some (.int .i64 (chkE 11 ow un se sc n to t1 t2 t3 t4 nw), W.add o) := fun o => refCheck_ok 11 ow un se sc n to t1 t2 t3 t4 nw (W.add o)
  unfold opArr at hP
  unfold ref22_Target opArr tgtE
  by_cases he : chkE 11 ow un se sc n to t1 t2 t3 t4 nw = 0
  · repeat (first | (refine Ok_step (by simp (disch := first | omega | (simp only [vs1_int, vs1_string, vs1_bool, vs1_slice, vs1_snil, vs1_ptr]; done) | (simp only [AW.add_next, AW.put_next, AW.kill_next]; omega)) only [SX, MX, setN, Nat.reduceAdd, Int.reduceEq, Int.reduceLT, Int.reduceLE, Int.reduceNeg, Nat.reduceLT, Nat.reduceLeDiff, Nat.reduceEqDiff, Int.reduceToNat, Nat.reduceMul, hP, he, oConv22]; rfl) ?_; dsimp only) | refine Ok_bT (by simp (disch := first | omega | (simp only [vs1_int, vs1_string, vs1_bool, vs1_slice, vs1_snil, vs1_ptr]; done) | (simp only [AW.add_next, AW.put_next, AW.kill_next]; omega)) only [SX, MX, setN, Nat.reduceAdd, Int.reduceEq, Int.reduceLT, Int.reduceLE, Int.reduceNeg, Nat.reduceLT, Nat.reduceLeDiff, Nat.reduceEqDiff, Int.reduceToNat, Nat.reduceMul, hP, he, oConv22]) ?_ | refine Ok_bF (by simp (disch := first | omega | (simp only [vs1_int, vs1_string, vs1_bool, vs1_slice, vs1_snil, vs1_ptr]; done) | (simp only [AW.add_next, AW.put_next, AW.kill_next]; omega)) only [SX, MX, setN, Nat.reduceAdd, Int.reduceEq, Int.reduceLT, Int.reduceLE, Int.reduceNeg, Nat.reduceLT, Nat.reduceLeDiff, Nat.reduceEqDiff, Int.reduceToNat, Nat.reduceMul, hP, he, oConv22]) ?_)
    exact Ok_some.2 ⟨by rw [he]; rfl, (Le.refl _).add _⟩
  · repeat (first | (refine Ok_step (by simp (disch := first | omega | (simp only [vs1_int, vs1_string, vs1_bool, vs1_slice, vs1_snil, vs1_ptr]; done) | (simp only [AW.add_next, AW.put_next, AW.kill_next]; omega)) only [SX, MX, setN, Nat.reduceAdd, Int.reduceEq, Int.reduceLT, Int.reduceLE, Int.reduceNeg, Nat.reduceLT, Nat.reduceLeDiff, Nat.reduceEqDiff, Int.reduceToNat, Nat.reduceMul, hP, he]; rfl) ?_; dsimp only) | refine Ok_bT (by simp (disch := first | omega | (simp only [vs1_int, vs1_string, vs1_bool, vs1_slice, vs1_snil, vs1_ptr]; done) | (simp only [AW.add_next, AW.put_next, AW.kill_next]; omega)) only [SX, MX, setN, Nat.reduceAdd, Int.reduceEq, Int.reduceLT, Int.reduceLE, Int.reduceNeg, Nat.reduceLT, Nat.reduceLeDiff, Nat.reduceEqDiff, Int.reduceToNat, Nat.reduceMul, hP, he]) ?_ | refine Ok_bF (by simp (disch := first | omega | (simp only [vs1_int, vs1_string, vs1_bool, vs1_slice, vs1_snil, vs1_ptr]; done) | (simp only [AW.add_next, AW.put_next, AW.kill_next]; omega)) only [SX, MX, setN, Nat.reduceAdd, Int.reduceEq, Int.reduceLT, Int.reduceLE, Int.reduceNeg, Nat.reduceLT, Nat.reduceLeDiff, Nat.reduceEqDiff, Int.reduceToNat, Nat.reduceMul, hP, he]) ?_)
    exact Ok_some.2 ⟨by rw [if_pos he]; rfl, (Le.refl _).add _⟩
theorem planTarget_12 (ow un se sc n to t1 t2 t3 t4 nw : Int) {W : AW} (hG : GW W) : Ok (plans_Target omS (.agg (opArr 12 ow un se sc n to t1 t2 t3 t4 nw)) W) fun r => r.1 = tgtV (tgtE 12 se sc t1 (chkE 12 ow un se sc n to t1 t2 t3 t4 nw)) ∧ Le W r.2 := by
  have hP : ∀ o, omS (.func (.func 14) #[] #[]) [.agg (opArr 12 ow un se sc n to t1 t2 t3 t4 nw)] (W.add o) = some (.int .i64 (chkE 12 ow un se sc n to t1 t2 t3 t4 nw), W.add o) := fun o => planCheck_ok 12 ow un se sc n to t1 t2 t3 t4 nw (hG.mono ((Le.refl W).add o))
  have hU : ∀ o, cellsAt (W.add o) 0 = some usesV := fun o => GW.cells (hG.mono ((Le.refl W).add o))
  unfold opArr at hP
  unfold plans_Target opArr tgtE
  by_cases he : chkE 12 ow un se sc n to t1 t2 t3 t4 nw = 0
  · repeat (first | (refine Ok_step (by simp (disch := first | omega | (simp only [vs1_int, vs1_string, vs1_bool, vs1_slice, vs1_snil, vs1_ptr]; done) | (simp only [AW.add_next, AW.put_next, AW.kill_next]; omega)) only [SX, MX, setN, Nat.reduceAdd, Int.reduceEq, Int.reduceLT, Int.reduceLE, Int.reduceNeg, Nat.reduceLT, Nat.reduceLeDiff, Nat.reduceEqDiff, Int.reduceToNat, Nat.reduceMul, hP, hU, he, usesV, useL, List.map_cons, List.map_nil, oBin_and, a128_4, a128_64, a128_8, oConv22]; rfl) ?_; dsimp only) | refine Ok_bT (by simp (disch := first | omega | (simp only [vs1_int, vs1_string, vs1_bool, vs1_slice, vs1_snil, vs1_ptr]; done) | (simp only [AW.add_next, AW.put_next, AW.kill_next]; omega)) only [SX, MX, setN, Nat.reduceAdd, Int.reduceEq, Int.reduceLT, Int.reduceLE, Int.reduceNeg, Nat.reduceLT, Nat.reduceLeDiff, Nat.reduceEqDiff, Int.reduceToNat, Nat.reduceMul, hP, hU, he, usesV, useL, List.map_cons, List.map_nil, oBin_and, a128_4, a128_64, a128_8, oConv22]) ?_ | refine Ok_bF (by simp (disch := first | omega | (simp only [vs1_int, vs1_string, vs1_bool, vs1_slice, vs1_snil, vs1_ptr]; done) | (simp only [AW.add_next, AW.put_next, AW.kill_next]; omega)) only [SX, MX, setN, Nat.reduceAdd, Int.reduceEq, Int.reduceLT, Int.reduceLE, Int.reduceNeg, Nat.reduceLT, Nat.reduceLeDiff, Nat.reduceEqDiff, Int.reduceToNat, Nat.reduceMul, hP, hU, he, usesV, useL, List.map_cons, List.map_nil, oBin_and, a128_4, a128_64, a128_8, oConv22]) ?_)
    exact Ok_some.2 ⟨by rw [he]; rfl, (Le.refl _).add _⟩
  · repeat (first | (refine Ok_step (by simp (disch := first | omega | (simp only [vs1_int, vs1_string, vs1_bool, vs1_slice, vs1_snil, vs1_ptr]; done) | (simp only [AW.add_next, AW.put_next, AW.kill_next]; omega)) only [SX, MX, setN, Nat.reduceAdd, Int.reduceEq, Int.reduceLT, Int.reduceLE, Int.reduceNeg, Nat.reduceLT, Nat.reduceLeDiff, Nat.reduceEqDiff, Int.reduceToNat, Nat.reduceMul, hP, he]; rfl) ?_; dsimp only) | refine Ok_bT (by simp (disch := first | omega | (simp only [vs1_int, vs1_string, vs1_bool, vs1_slice, vs1_snil, vs1_ptr]; done) | (simp only [AW.add_next, AW.put_next, AW.kill_next]; omega)) only [SX, MX, setN, Nat.reduceAdd, Int.reduceEq, Int.reduceLT, Int.reduceLE, Int.reduceNeg, Nat.reduceLT, Nat.reduceLeDiff, Nat.reduceEqDiff, Int.reduceToNat, Nat.reduceMul, hP, he]) ?_ | refine Ok_bF (by simp (disch := first | omega | (simp only [vs1_int, vs1_string, vs1_bool, vs1_slice, vs1_snil, vs1_ptr]; done) | (simp only [AW.add_next, AW.put_next, AW.kill_next]; omega)) only [SX, MX, setN, Nat.reduceAdd, Int.reduceEq, Int.reduceLT, Int.reduceLE, Int.reduceNeg, Nat.reduceLT, Nat.reduceLeDiff, Nat.reduceEqDiff, Int.reduceToNat, Nat.reduceMul, hP, he]) ?_)
    exact Ok_some.2 ⟨by rw [if_pos he]; rfl, (Le.refl _).add _⟩
theorem refTarget_12 (ow un se sc n to t1 t2 t3 t4 nw : Int) (W : AW) : Ok (ref22_Target omS (.agg (opArr 12 ow un se sc n to t1 t2 t3 t4 nw)) W) fun r => r.1 = tgtV (tgtE 12 se sc t1 (chkE 12 ow un se sc n to t1 t2 t3 t4 nw)) ∧ Le W r.2 := by
  have hP : ∀ o, omS (.func (.func 15) #[] #[]) [.agg (opArr 12 ow un se sc n to t1 t2 t3 t4 nw)] (W.add o) = some (.int .i64 (chkE 12 ow un se sc n to t1 t2 t3 t4 nw), W.add o) := fun o => refCheck_ok 12 ow un se sc n to t1 t2 t3 t4 nw (W.add o)
  unfold opArr at hP
  unfold ref22_Target opArr tgtE
  by_cases he : chkE 12 ow un se sc n to t1 t2 t3 t4 nw = 0
  · repeat (first | (refine Ok_step (by simp (disch := first | omega | (simp only [vs1_int, vs1_string, vs1_bool, vs1_slice, vs1_snil, vs1_ptr]; done) | (simp only [AW.add_next, AW.put_next, AW.kill_next]; omega)) only [SX, MX, setN, Nat.reduceAdd, Int.reduceEq, Int.reduceLT, Int.reduceLE, Int.reduceNeg, Nat.reduceLT, Nat.reduceLeDiff, Nat.reduceEqDiff, Int.reduceToNat, Nat.reduceMul, hP, he, oConv22]; rfl) ?_; dsimp only) | refine Ok_bT (by simp (disch := first | omega | (simp only [vs1_int, vs1_string, vs1_bool, vs1_slice, vs1_snil, vs1_ptr]; done) | (simp only [AW.add_next, AW.put_next, AW.kill_next]; omega)) only [SX, MX, setN, Nat.reduceAdd, Int.reduceEq, Int.reduceLT, Int.reduceLE, Int.reduceNeg, Nat.reduceLT, Nat.reduceLeDiff, Nat.reduceEqDiff, Int.reduceToNat, Nat.reduceMul, hP, he, oConv22]) ?_ | refine Ok_bF (by simp (disch := first | omega | (simp only [vs1_int, vs1_string, vs1_bool, vs1_slice, vs1_snil, vs1_ptr]; done) | (simp only [AW.add_next, AW.put_next, AW.kill_next]; omega)) only [SX, MX, setN, Nat.reduceAdd, Int.reduceEq, Int.reduceLT, Int.reduceLE, Int.reduceNeg, Nat.reduceLT, Nat.reduceLeDiff, Nat.reduceEqDiff, Int.reduceToNat, Nat.reduceMul, hP, he, oConv22]) ?_)
    exact Ok_some.2 ⟨by rw [he]; rfl, (Le.refl _).add _⟩
  · repeat (first | (refine Ok_step (by simp (disch := first | omega | (simp only [vs1_int, vs1_string, vs1_bool, vs1_slice, vs1_snil, vs1_ptr]; done) | (simp only [AW.add_next, AW.put_next, AW.kill_next]; omega)) only [SX, MX, setN, Nat.reduceAdd, Int.reduceEq, Int.reduceLT, Int.reduceLE, Int.reduceNeg, Nat.reduceLT, Nat.reduceLeDiff, Nat.reduceEqDiff, Int.reduceToNat, Nat.reduceMul, hP, he]; rfl) ?_; dsimp only) | refine Ok_bT (by simp (disch := first | omega | (simp only [vs1_int, vs1_string, vs1_bool, vs1_slice, vs1_snil, vs1_ptr]; done) | (simp only [AW.add_next, AW.put_next, AW.kill_next]; omega)) only [SX, MX, setN, Nat.reduceAdd, Int.reduceEq, Int.reduceLT, Int.reduceLE, Int.reduceNeg, Nat.reduceLT, Nat.reduceLeDiff, Nat.reduceEqDiff, Int.reduceToNat, Nat.reduceMul, hP, he]) ?_ | refine Ok_bF (by simp (disch := first | omega | (simp only [vs1_int, vs1_string, vs1_bool, vs1_slice, vs1_snil, vs1_ptr]; done) | (simp only [AW.add_next, AW.put_next, AW.kill_next]; omega)) only [SX, MX, setN, Nat.reduceAdd, Int.reduceEq, Int.reduceLT, Int.reduceLE, Int.reduceNeg, Nat.reduceLT, Nat.reduceLeDiff, Nat.reduceEqDiff, Int.reduceToNat, Nat.reduceMul, hP, he]) ?_)
    exact Ok_some.2 ⟨by rw [if_pos he]; rfl, (Le.refl _).add _⟩
theorem planTarget_0 (k ow un se sc n to t1 t2 t3 t4 nw : Int) (hk : k < 1 ∨ 12 < k) {W : AW} (hG : GW W) : Ok (plans_Target omS (.agg (opArr k ow un se sc n to t1 t2 t3 t4 nw)) W) fun r => r.1 = tgtV (tgtE k se sc t1 (chkE k ow un se sc n to t1 t2 t3 t4 nw)) ∧ Le W r.2 := by
  have hP : ∀ o, omS (.func (.func 14) #[] #[]) [.agg (opArr k ow un se sc n to t1 t2 t3 t4 nw)] (W.add o) = some (.int .i64 (chkE k ow un se sc n to t1 t2 t3 t4 nw), W.add o) := fun o => planCheck_ok k ow un se sc n to t1 t2 t3 t4 nw (hG.mono ((Le.refl W).add o))
  have hU : ∀ o, cellsAt (W.add o) 0 = some usesV := fun o => GW.cells (hG.mono ((Le.refl W).add o))
  unfold opArr at hP
  have h2 : chkE k ow un se sc n to t1 t2 t3 t4 nw = 2 := by unfold chkE; rw [if_pos hk]
  unfold plans_Target opArr tgtE
  repeat (first | (refine Ok_step (by simp (disch := first | omega | (simp only [vs1_int, vs1_string, vs1_bool, vs1_slice, vs1_snil, vs1_ptr]; done) | (simp only [AW.add_next, AW.put_next, AW.kill_next]; omega)) only [SX, MX, setN, Nat.reduceAdd, Int.reduceEq, Int.reduceLT, Int.reduceLE, Int.reduceNeg, Nat.reduceLT, Nat.reduceLeDiff, Nat.reduceEqDiff, Int.reduceToNat, Nat.reduceMul, hP, h2]; rfl) ?_; dsimp only) | refine Ok_bT (by simp (disch := first | omega | (simp only [vs1_int, vs1_string, vs1_bool, vs1_slice, vs1_snil, vs1_ptr]; done) | (simp only [AW.add_next, AW.put_next, AW.kill_next]; omega)) only [SX, MX, setN, Nat.reduceAdd, Int.reduceEq, Int.reduceLT, Int.reduceLE, Int.reduceNeg, Nat.reduceLT, Nat.reduceLeDiff, Nat.reduceEqDiff, Int.reduceToNat, Nat.reduceMul, hP, h2]) ?_ | refine Ok_bF (by simp (disch := first | omega | (simp only [vs1_int, vs1_string, vs1_bool, vs1_slice, vs1_snil, vs1_ptr]; done) | (simp only [AW.add_next, AW.put_next, AW.kill_next]; omega)) only [SX, MX, setN, Nat.reduceAdd, Int.reduceEq, Int.reduceLT, Int.reduceLE, Int.reduceNeg, Nat.reduceLT, Nat.reduceLeDiff, Nat.reduceEqDiff, Int.reduceToNat, Nat.reduceMul, hP, h2]) ?_)
  exact Ok_some.2 ⟨by rw [h2]; rfl, (Le.refl _).add _⟩
theorem refTarget_0 (k ow un se sc n to t1 t2 t3 t4 nw : Int) (hk : k < 1 ∨ 12 < k) (W : AW) : Ok (ref22_Target omS (.agg (opArr k ow un se sc n to t1 t2 t3 t4 nw)) W) fun r => r.1 = tgtV (tgtE k se sc t1 (chkE k ow un se sc n to t1 t2 t3 t4 nw)) ∧ Le W r.2 := by
  have hP : ∀ o, omS (.func (.func 15) #[] #[]) [.agg (opArr k ow un se sc n to t1 t2 t3 t4 nw)] (W.add o) = some (.int .i64 (chkE k ow un se sc n to t1 t2 t3 t4 nw), W.add o) := fun o => refCheck_ok k ow un se sc n to t1 t2 t3 t4 nw (W.add o)
  unfold opArr at hP
  have h2 : chkE k ow un se sc n to t1 t2 t3 t4 nw = 2 := by unfold chkE; rw [if_pos hk]
  unfold ref22_Target opArr tgtE
  repeat (first | (refine Ok_step (by simp (disch := first | omega | (simp only [vs1_int, vs1_string, vs1_bool, vs1_slice, vs1_snil, vs1_ptr]; done) | (simp only [AW.add_next, AW.put_next, AW.kill_next]; omega)) only [SX, MX, setN, Nat.reduceAdd, Int.reduceEq, Int.reduceLT, Int.reduceLE, Int.reduceNeg, Nat.reduceLT, Nat.reduceLeDiff, Nat.reduceEqDiff, Int.reduceToNat, Nat.reduceMul, hP, h2]; rfl) ?_; dsimp only) | refine Ok_bT (by simp (disch := first | omega | (simp only [vs1_int, vs1_string, vs1_bool, vs1_slice, vs1_snil, vs1_ptr]; done) | (simp only [AW.add_next, AW.put_next, AW.kill_next]; omega)) only [SX, MX, setN, Nat.reduceAdd, Int.reduceEq, Int.reduceLT, Int.reduceLE, Int.reduceNeg, Nat.reduceLT, Nat.reduceLeDiff, Nat.reduceEqDiff, Int.reduceToNat, Nat.reduceMul, hP, h2]) ?_ | refine Ok_bF (by simp (disch := first | omega | (simp only [vs1_int, vs1_string, vs1_bool, vs1_slice, vs1_snil, vs1_ptr]; done) | (simp only [AW.add_next, AW.put_next, AW.kill_next]; omega)) only [SX, MX, setN, Nat.reduceAdd, Int.reduceEq, Int.reduceLT, Int.reduceLE, Int.reduceNeg, Nat.reduceLT, Nat.reduceLeDiff, Nat.reduceEqDiff, Int.reduceToNat, Nat.reduceMul, hP, h2]) ?_)
  exact Ok_some.2 ⟨by rw [h2]; rfl, (Le.refl _).add _⟩
theorem planTarget_ok (k ow un se sc n to t1 t2 t3 t4 nw : Int) {W : AW} (hG : GW W) : omS (.func (.func 12) #[] #[]) [.agg (opArr k ow un se sc n to t1 t2 t3 t4 nw)] W = some (tgtV (tgtE k se sc t1 (chkE k ow un se sc n to t1 t2 t3 t4 nw)), W) := by
  refine om_drop rfl ?_ plans_Target_om
  have hk : k = 1 ∨ k = 2 ∨ k = 3 ∨ k = 4 ∨ k = 5 ∨ k = 6 ∨ k = 7 ∨ k = 8 ∨ k = 9 ∨ k = 10 ∨ k = 11 ∨ k = 12 ∨ (k < 1 ∨ 12 < k) := by omega
  rcases hk with rfl | rfl | rfl | rfl | rfl | rfl | rfl | rfl | rfl | rfl | rfl | rfl | hk
  · exact planTarget_1 ow un se sc n to t1 t2 t3 t4 nw hG
  · exact planTarget_2 ow un se sc n to t1 t2 t3 t4 nw hG
  · exact planTarget_3 ow un se sc n to t1 t2 t3 t4 nw hG
  · exact planTarget_4 ow un se sc n to t1 t2 t3 t4 nw hG
  · exact planTarget_5 ow un se sc n to t1 t2 t3 t4 nw hG
  · exact planTarget_6 ow un se sc n to t1 t2 t3 t4 nw hG
  · exact planTarget_7 ow un se sc n to t1 t2 t3 t4 nw hG
  · exact planTarget_8 ow un se sc n to t1 t2 t3 t4 nw hG
  · exact planTarget_9 ow un se sc n to t1 t2 t3 t4 nw hG
  · exact planTarget_10 ow un se sc n to t1 t2 t3 t4 nw hG
  · exact planTarget_11 ow un se sc n to t1 t2 t3 t4 nw hG
  · exact planTarget_12 ow un se sc n to t1 t2 t3 t4 nw hG
  · exact planTarget_0 k ow un se sc n to t1 t2 t3 t4 nw hk hG
theorem refTarget_ok (k ow un se sc n to t1 t2 t3 t4 nw : Int) (W : AW) : omS (.func (.func 13) #[] #[]) [.agg (opArr k ow un se sc n to t1 t2 t3 t4 nw)] W = some (tgtV (tgtE k se sc t1 (chkE k ow un se sc n to t1 t2 t3 t4 nw)), W) := by
  refine om_drop rfl ?_ ref22_Target_om
  have hk : k = 1 ∨ k = 2 ∨ k = 3 ∨ k = 4 ∨ k = 5 ∨ k = 6 ∨ k = 7 ∨ k = 8 ∨ k = 9 ∨ k = 10 ∨ k = 11 ∨ k = 12 ∨ (k < 1 ∨ 12 < k) := by omega
  rcases hk with rfl | rfl | rfl | rfl | rfl | rfl | rfl | rfl | rfl | rfl | rfl | rfl | hk
  · exact refTarget_1 ow un se sc n to t1 t2 t3 t4 nw W
  · exact refTarget_2 ow un se sc n to t1 t2 t3 t4 nw W
  · exact refTarget_3 ow un se sc n to t1 t2 t3 t4 nw W
  · exact refTarget_4 ow un se sc n to t1 t2 t3 t4 nw W
  · exact refTarget_5 ow un se sc n to t1 t2 t3 t4 nw W
  · exact refTarget_6 ow un se sc n to t1 t2 t3 t4 nw W
  · exact refTarget_7 ow un se sc n to t1 t2 t3 t4 nw W
  · exact refTarget_8 ow un se sc n to t1 t2 t3 t4 nw W
  · exact refTarget_9 ow un se sc n to t1 t2 t3 t4 nw W
  · exact refTarget_10 ow un se sc n to t1 t2 t3 t4 nw W
  · exact refTarget_11 ow un se sc n to t1 t2 t3 t4 nw W
  · exact refTarget_12 ow un se sc n to t1 t2 t3 t4 nw W
  · exact refTarget_0 k ow un se sc n to t1 t2 t3 t4 nw hk W
end Go.Proofs.YtfcfglpkgcheiaaDoor
/- PlansChecks answers true in the engine, at every operation. -/
namespace Go.Proofs.YtfcfglpkgcheiaaDoor
open Go Go.Eng
set_option linter.unusedVariables false
set_option linter.unusedSimpArgs false
set_option maxRecDepth 100000
theorem vsame12 (k ow un se sc n to t1 t2 t3 t4 nw : Int) : vsame (.agg #[.int .i64 k, .int .u32 ow, .int .i64 un, .int .i64 se, .int .i64 sc, .int .i64 n, .int .u32 to, .int .u32 t1, .int .u32 t2, .int .u64 t3, .int .u64 t4, .int .i64 nw]) (.agg #[.int .i64 k, .int .u32 ow, .int .i64 un, .int .i64 se, .int .i64 sc, .int .i64 n, .int .u32 to, .int .u32 t1, .int .u32 t2, .int .u64 t3, .int .u64 t4, .int .i64 nw]) = true :=
  vsame_agg (by simp [vsL, vs1])
theorem plansChecks_om (k ow un se sc n to t1 t2 t3 t4 nw : Int) {W : AW} (hG : GW W) : omS (.func (.func 3) #[] #[]) [.agg (opArr k ow un se sc n to t1 t2 t3 t4 nw)] W = some (.bool true, W) := by
  refine om_drop rfl ?_ law22_PlansChecks_om
  have hg : ∀ o, GW (W.add o) := fun o => hG.mono ((Le.refl W).add o)
  have h1 : ∀ o, omS (.func (.func 12) #[] #[]) [.agg (opArr k ow un se sc n to t1 t2 t3 t4 nw)] (W.add o) = _ := fun o => planTarget_ok k ow un se sc n to t1 t2 t3 t4 nw (hg o)
  have h2 : ∀ o, omS (.func (.func 13) #[] #[]) [.agg (opArr k ow un se sc n to t1 t2 t3 t4 nw)] (W.add o) = _ := fun o => refTarget_ok k ow un se sc n to t1 t2 t3 t4 nw (W.add o)
  have h3 : ∀ o, omS (.func (.func 14) #[] #[]) [.agg (opArr k ow un se sc n to t1 t2 t3 t4 nw)] (W.add o) = _ := fun o => planCheck_ok k ow un se sc n to t1 t2 t3 t4 nw (hg o)
  have h4 : ∀ o, omS (.func (.func 15) #[] #[]) [.agg (opArr k ow un se sc n to t1 t2 t3 t4 nw)] (W.add o) = _ := fun o => refCheck_ok k ow un se sc n to t1 t2 t3 t4 nw (W.add o)
  have h5 : ∀ o, omS (.func (.func 16) #[] #[]) [] (W.add o) = _ := fun o => shown_ok (hg o)
  unfold opArr at h1 h2 h3 h4
  unfold law22_PlansChecks opArr
  repeat (first | (refine Ok_step (by simp (disch := first | omega | (simp only [vs1_int, vs1_string, vs1_bool, vs1_slice, vs1_snil, vs1_ptr]; done) | (simp only [AW.add_next, AW.put_next, AW.kill_next]; omega)) only [SX, MX, setN, Nat.reduceAdd, Int.reduceEq, Int.reduceLT, Int.reduceLE, Int.reduceNeg, Nat.reduceLT, Nat.reduceLeDiff, Nat.reduceEqDiff, Int.reduceToNat, Nat.reduceMul, h1, h2, h3, h4, h5, tgtV, vsame12]; rfl) ?_; dsimp only) | refine Ok_bT (by simp (disch := first | omega | (simp only [vs1_int, vs1_string, vs1_bool, vs1_slice, vs1_snil, vs1_ptr]; done) | (simp only [AW.add_next, AW.put_next, AW.kill_next]; omega)) only [SX, MX, setN, Nat.reduceAdd, Int.reduceEq, Int.reduceLT, Int.reduceLE, Int.reduceNeg, Nat.reduceLT, Nat.reduceLeDiff, Nat.reduceEqDiff, Int.reduceToNat, Nat.reduceMul, h1, h2, h3, h4, h5, tgtV, vsame12]) ?_ | refine Ok_bF (by simp (disch := first | omega | (simp only [vs1_int, vs1_string, vs1_bool, vs1_slice, vs1_snil, vs1_ptr]; done) | (simp only [AW.add_next, AW.put_next, AW.kill_next]; omega)) only [SX, MX, setN, Nat.reduceAdd, Int.reduceEq, Int.reduceLT, Int.reduceLE, Int.reduceNeg, Nat.reduceLT, Nat.reduceLeDiff, Nat.reduceEqDiff, Int.reduceToNat, Nat.reduceMul, h1, h2, h3, h4, h5, tgtV, vsame12]) ?_)
  exact Ok_some.2 ⟨rfl, (Le.refl _).add _⟩
theorem gw_W : GW (WG [(0, usesV)] 1) := globW_G (by decide) (fun x hx => by
  obtain rfl : x = (0, usesV) := by simpa using hx
  rfl)
/-- the same in the model -/
theorem plansChecks_callsO (hok : CalleeOK Tryd.prog PlanTab.ng omS) (k ow un se sc n to t1 t2 t3 t4 nw : Int) (w : World) (hl : LaidG [(0, usesV)] w.heap) :
    Calls Tryd.prog 3 #[.agg (opArr k ow un se sc n to t1 t2 t3 t4 nw)] w fun e w' => e = .returned (.bool true) ∧ Quiet w w' :=
  om_calls hok (rel_G (gs := [(0, usesV)]) (N := 1) (by decide) hl) (glob_G rfl) allRo_G (args := [.agg (opArr k ow un se sc n to t1 t2 t3 t4 nw)]) (plains_rel rfl) rfl (plansChecks_om k ow un se sc n to t1 t2 t3 t4 nw gw_W)
end Go.Proofs.YtfcfglpkgcheiaaDoor
/- The locks of an operation: the code's answer. -/
namespace Go.Proofs.YtfcfglpkgcheiaaDoor
open Go Go.Eng
set_option linter.unusedVariables false
set_option linter.unusedSimpArgs false
set_option maxRecDepth 100000
structure OpT where
  k : Int
  ow : Int
  un : Int
  se : Int
  sc : Int
  n : Int
  to : Int
  t1 : Int
  t2 : Int
  t3 : Int
  t4 : Int
  nw : Int
abbrev opV (o : OpT) : Value := .agg (opArr o.k o.ow o.un o.se o.sc o.n o.to o.t1 o.t2 o.t3 o.t4 o.nw)
def tgtO (o : OpT) : Int × Int × Int := tgtE o.k o.se o.sc o.t1 (chkE o.k o.ow o.un o.se o.sc o.n o.to o.t1 o.t2 o.t3 o.t4 o.nw)
theorem chkE_range {k ow un se sc n to t1 t2 t3 t4 nw : Int} (h : chkE k ow un se sc n to t1 t2 t3 t4 nw = 0) : 1 ≤ k ∧ k ≤ 12 := by
  unfold chkE at h
  split at h
  · exact absurd h (by decide)
  · omega
theorem tgtO_range {o : OpT} (h : (tgtO o).2.2 = 0) : 1 ≤ o.k ∧ o.k ≤ 12 := by
  have he : chkE o.k o.ow o.un o.se o.sc o.n o.to o.t1 o.t2 o.t3 o.t4 o.nw = 0 := by
    unfold tgtO tgtE at h
    split at h
    · exact h
    · rename_i h2; exact Classical.not_not.1 h2
  exact chkE_range he
theorem planTgt_ok (o : OpT) {W : AW} (h : GW W) : omS (.func (.func 12) #[] #[]) [opV o] W = some (.tuple #[.int .i64 (tgtO o).1, .int .i64 (tgtO o).2.1, .int .i64 (tgtO o).2.2], W) := planTarget_ok _ _ _ _ _ _ _ _ _ _ _ _ h
theorem refTgt_ok (o : OpT) (W : AW) : omS (.func (.func 13) #[] #[]) [opV o] W = some (.tuple #[.int .i64 (tgtO o).1, .int .i64 (tgtO o).2.1, .int .i64 (tgtO o).2.2], W) := refTarget_ok _ _ _ _ _ _ _ _ _ _ _ _ W
/-- the locks by the kind -/
def kindL (v : Ven) (k s c : Int) : List Int :=
  if k = 12 then (List.range (v.sh.toNat + v.secs.length)).map fun (i : Nat) => (i : Int)
  else if k = 3 then (coverE v c).1
  else if k = 4 ∨ k = 7 ∨ k = 8 then (if (placeE v s).2 = 0 then [(shardE v s).1, (lockE v ((placeE v s).1.1 : Int)).1] else [])
  else if k = 2 ∨ k = 5 ∨ k = 6 ∨ k = 9 then (if (placeE v s).2 = 0 then [(shardE v s).1] else [])
  else if k = 10 ∨ k = 11 then (if (lockE v c).2 = 0 then [(lockE v c).1] else [])
  else []
def locksE (v : Ven) (o : OpT) : List Int × Int := if (venE v).2 = 0 then (if (tgtO o).2.2 = 0 then (kindL v o.k (tgtO o).1 (tgtO o).2.1, 0) else ([], (tgtO o).2.2)) else ([], (venE v).2)
theorem opBox (o : OpT) (W : AW) : ∃ W1, oBox (opV o) W = some (.pointer (some ⟨W.next, 0, none⟩), W1) ∧ W1.next = W.next + 1 ∧ Le W W1 ∧ (∀ W', Le W1 W' → ldA 12 (.pointer (some ⟨W.next, 0, none⟩)) W' = some (opV o, W')) ∧ (∀ W', Le W1 W' → ldC (.pointer (some ⟨W.next, 0, none⟩)) W' = some (.int .i64 o.k, W')) := by
  have hc : cellsAt (W.add (.cells (opArr o.k o.ow o.un o.se o.sc o.n o.to o.t1 o.t2 o.t3 o.t4 o.nw).toList)) W.next = some (opArr o.k o.ow o.un o.se o.sc o.n o.to o.t1 o.t2 o.t3 o.t4 o.nw).toList := cellsAt_new
  have hn : W.next < (W.add (.cells (opArr o.k o.ow o.un o.se o.sc o.n o.to o.t1 o.t2 o.t3 o.t4 o.nw).toList)).next := by rw [AW.add_next]; omega
  exact ⟨_, oBox_agg _, AW.add_next _ _, (Le.refl W).add _, fun W' k => ldA_all (by rw [k.cellsAt hn]; exact hc) rfl, fun W' k => ldC_ok (by rw [k.cellsAt hn]; exact hc) rfl⟩
theorem shard_place (v : Ven) (s : Int) : (shardE v s).2 = (placeE v s).2 := by
  unfold shardE placeE
  by_cases he : (findE v s).2 = 0
  · rw [if_pos he, if_pos he]
  · rw [if_neg he, if_neg he]
theorem cover_lock (v : Ven) (c : Int) : (coverE v c).2 = (lockE v c).2 := by
  unfold coverE lockE
  by_cases he : (ofE v c).2.2 = 0
  · rw [if_pos he, if_pos he]
  · rw [if_neg he, if_neg he]
theorem cover_none {v : Ven} {c : Int} (h : ¬ (coverE v c).2 = 0) : (coverE v c).1 = [] := by
  unfold coverE at h ⊢
  by_cases he : (ofE v c).2.2 = 0
  · rw [if_pos he] at h; exact absurd rfl h
  · rw [if_neg he]
theorem len34 : ((#[34] : Array TypeId)[0]?).bind Tryd.prog.underlying = some (.slice 62) := by kernel_rfl
theorem one38 (x : Int) (W : AW) : Ints (W.add (.cells [.int .i64 x])) (.slice (some ⟨W.next, 0, none⟩) 1 (BIG + 1)) [x] := ints_new [x] _ W
theorem two38 (x y : Int) (W : AW) : Ints (W.add (.cells [.int .i64 x, .int .i64 y])) (.slice (some ⟨W.next, 0, none⟩) 2 (BIG + 1)) [x, y] := ints_new [x, y] _ W
theorem lit38 (x : Int) (W : AW) : Ints (W.add (.cells [.int .i64 x])) (.slice (some ⟨W.next, 0, none⟩) 1 1) [x] := ints_new [x] _ W
/-- append of one onto nothing -/
theorem ap_one (x : Int) (W : AW) : aAppend Tryd.prog (W.add (.cells [.int .i64 x])) #[38, 38] (.slice none 0 0) (.slice (some ⟨W.next, 0, none⟩) 1 1) = some (.slice (some ⟨(W.add (.cells [.int .i64 x])).next, 0, none⟩) 1 (BIG + 1), (W.add (.cells [.int .i64 x])).add (.cells [.int .i64 x])) :=
  app_nil ap38 cellsAt_new rfl rfl (by omega) rfl (by omega) (by omega)
theorem ap_zero (a : Option Addr) (W : AW) : aAppend Tryd.prog W #[38, 38] (.slice a 1 1) (.slice none 0 0) = some (.slice a 1 1, W) := app_zero ap38 (by omega) (by omega) (by omega)
theorem ap_two (x y : Int) {W : AW} {b c : Nat} (h : cellsAt W b = some [.int .i64 y]) (hb : b < W.next) : aAppend Tryd.prog (W.add (.cells [.int .i64 x])) #[38, 38] (.slice (some ⟨W.next, 0, none⟩) 1 1) (.slice (some ⟨b, 0, none⟩) 1 c) = some (.slice (some ⟨(W.add (.cells [.int .i64 x])).next, 0, none⟩) 2 (BIG + 1), (W.add (.cells [.int .i64 x])).add (.cells [.int .i64 x, .int .i64 y])) :=
  app_lit (n := 1) (m := 1) (o := 0) ap38 (by rw [cellsAt_add _ hb]; exact h) rfl rfl (by omega) rfl cellsAt_new rfl (by omega) (by omega) (by omega)
end Go.Proofs.YtfcfglpkgcheiaaDoor
/- The locks of an operation: the code's answer. -/
namespace Go.Proofs.YtfcfglpkgcheiaaDoor
open Go Go.Eng
set_option linter.unusedVariables false
set_option linter.unusedSimpArgs false
set_option maxRecDepth 100000
theorem kindL_1 (v : Ven) (s c : Int) : kindL v 1 s c = [] := by simp [kindL]
theorem kindL_3 (v : Ven) (s c : Int) : kindL v 3 s c = (coverE v c).1 := by simp [kindL]
theorem kindL_4 (v : Ven) (s c : Int) : kindL v 4 s c = (if (placeE v s).2 = 0 then [(shardE v s).1, (lockE v ((placeE v s).1.1 : Int)).1] else []) := by simp [kindL]
theorem kindL_7 (v : Ven) (s c : Int) : kindL v 7 s c = (if (placeE v s).2 = 0 then [(shardE v s).1, (lockE v ((placeE v s).1.1 : Int)).1] else []) := by simp [kindL]
theorem kindL_8 (v : Ven) (s c : Int) : kindL v 8 s c = (if (placeE v s).2 = 0 then [(shardE v s).1, (lockE v ((placeE v s).1.1 : Int)).1] else []) := by simp [kindL]
theorem kindL_2 (v : Ven) (s c : Int) : kindL v 2 s c = (if (placeE v s).2 = 0 then [(shardE v s).1] else []) := by simp [kindL]
theorem kindL_5 (v : Ven) (s c : Int) : kindL v 5 s c = (if (placeE v s).2 = 0 then [(shardE v s).1] else []) := by simp [kindL]
theorem kindL_6 (v : Ven) (s c : Int) : kindL v 6 s c = (if (placeE v s).2 = 0 then [(shardE v s).1] else []) := by simp [kindL]
theorem kindL_9 (v : Ven) (s c : Int) : kindL v 9 s c = (if (placeE v s).2 = 0 then [(shardE v s).1] else []) := by simp [kindL]
theorem kindL_10 (v : Ven) (s c : Int) : kindL v 10 s c = (if (lockE v c).2 = 0 then [(lockE v c).1] else []) := by simp [kindL]
theorem kindL_11 (v : Ven) (s c : Int) : kindL v 11 s c = (if (lockE v c).2 = 0 then [(lockE v c).1] else []) := by simp [kindL]
def upTo (n : Nat) : List Int := (List.range n).map fun (i : Nat) => (i : Int)
theorem upTo_succ (n : Nat) : upTo (n + 1) = upTo n ++ [(n : Int)] := by simp [upTo, List.range_succ]
theorem upTo_len (n : Nat) : (upTo n).length = n := by simp [upTo]
theorem kindL_12 (v : Ven) (s c : Int) : kindL v 12 s c = upTo (v.sh.toNat + v.secs.length) := by simp [kindL, upTo]
theorem planLocks_ok {v : Ven} {o : OpT} {sv : Value} {W : AW} (hs : SecsC W sv v.secs) (hv : v.secs.length < 1000) (hG : GW W) :
    ∃ u W2, omS (.func (.func 18) #[] #[]) [venV v sv, opV o] W = some (.tuple #[u, .int .i64 (locksE v o).2], W2) ∧ Le W W2 ∧ Ints W2 u (locksE v o).1 := by
  refine om_row2 ?_ plans_Locks_om
  unfold plans_Locks locksE
  obtain ⟨W1, hB, hle, hn, c4, c0, c3⟩ := venBox v sv W
  obtain ⟨W2, b2, n2, l2, k12, k0⟩ := opBox o W1
  have l02 := hle.trans l2
  have hsn := hle.next
  have hs2 := hs.mono l02
  simp only [SX, hB, b2, c4 _ l2, venCheck_ok hs2 hv]
  by_cases he : (venE v).2 = 0
  case neg =>
    simp only [SX, he, if_false, Ok_some]
    exact ⟨_, rfl, l02, Row.nil⟩
  simp only [SX, decide_eq_true he, if_pos he, k12 _ (.refl _), planTgt_ok o (hG.mono l02)]
  by_cases ht : (tgtO o).2.2 = 0
  case neg =>
    simp only [SX, ht, if_false, Ok_some]
    exact ⟨_, rfl, l02, Row.nil⟩
  have hk := tgtO_range ht
  simp only [SX, decide_eq_true ht, if_pos ht, Nat.zero_add, k0 _ (.refl _)]
  clear ht k12 k0 b2
  generalize (tgtO o).1 = s, (tgtO o).2.1 = c, o.k = kk at *
  have hkk : kk = 1 ∨ kk = 3 ∨ kk = 12 ∨ (kk = 2 ∨ kk = 5 ∨ kk = 6 ∨ kk = 9) ∨ (kk = 4 ∨ kk = 7 ∨ kk = 8) ∨ (kk = 10 ∨ kk = 11) := by omega
  rcases hkk with rfl | rfl | rfl | hkk | hkk | hkk
  · rw [kindL_1]
    simp only [SX, Int.reduceEq, Ok_some]
    exact ⟨_, rfl, l02, Row.nil⟩
  · rw [kindL_3]
    obtain ⟨u, W4, q1, q2, q3⟩ := cover_ok (sec := c) hs2 hv
    simp only [SX, Int.reduceEq, c4 _ l2, q1]
    by_cases hc : (coverE v c).2 = 0
    · simp only [SX, decide_eq_true hc, Ok_some]
      exact ⟨_, rfl, l02.trans q2, q3⟩
    · rw [cover_none hc]
      simp only [SX, hc, Ok_some]
      exact ⟨_, rfl, l02.trans q2, Row.nil⟩
  · rw [kindL_12]
    have hsh := venE_sh he
    have ea : ∀ W', oBin Tryd.prog .add 3 false false (.int .i64 v.sh) (.int .i64 (v.secs.length : Int)) W' = some (.int .i64 ((v.sh.toNat + v.secs.length : Nat) : Int), W') := fun W' => by
      rw [oBin_add (by omega) (by omega)]; congr 3; omega
    simp only [SX, Int.reduceEq, Nat.zero_add, c0 _ l2, c3 _ l2, hs2.1.len len34, ea]
    generalize hm : v.sh.toNat + v.secs.length = m at *
    refine Ok_loop m (by omega) (fun i R W' => Le W2 W' ∧ R 63 = .int .i64 (m : Int) ∧ R 64 = .int .i64 (i : Int) ∧ ∃ u, R 11 = u ∧ Lst W2.next W' 1 intC u (upTo i))
      (fun r => Le W2 r.2.2 ∧ r.1 = .exit 6 ∧ ∃ u, r.2.1 11 = u ∧ Lst W2.next r.2.2 1 intC u (upTo m)) ⟨.refl _, rfl, rfl, _, rfl, .nil _ _ _ _⟩ ?_ ?_ ?_
    · rintro i R W' hi ⟨hl, f63, f64, u, f11, hL⟩
      unfold plans_Locks_L1
      have e1 : ((i : Int) < (m : Int)) := by omega
      have eb : ∀ W', oBin Tryd.prog .add 3 false true (.int .i64 (i : Int)) (.int .i64 1) W' = some (.int .i64 ((i + 1 : Nat) : Int), W') := fun W' => oBin_add (by omega) (by omega)
      have hLm := hL.mono ((Le.refl W').add (.cells [.int .i64 (i : Int)]))
      obtain ⟨v', W3, q1, q2, q3, q4⟩ := Lst.push (P := Tryd.prog) (a := (i : Int)) (b := W'.next) (c := 1) ap38 intC_len intC_one hLm cellsAt_new (by rw [upTo_len]; omega) (by rw [upTo_len]; omega) (by rw [AW.add_next]; have := hl.next; omega)
      simp only [SX, f63, f64, f11, e1, bs38, q1, eb, Ok_some]
      exact .inl ⟨trivial, q4 _ (hl.add _) (Nat.le_refl _), f63, rfl, _, rfl, by rw [upTo_succ]; exact q2⟩
    · rintro R W' ⟨hl, f63, f64, u, f11, hL⟩
      unfold plans_Locks_L1
      have e1 : ¬ ((m : Int) < (m : Int)) := by omega
      simp only [SX, f63, f64, e1, Ok_some]
      exact ⟨by simp, hl, trivial, u, f11, hL⟩
    · rintro ⟨x, R, W'⟩ ⟨hl, hx, u, f11, hL⟩
      simp only at hl hx f11 hL
      subst hx
      simp only [SX, f11, Ok_some]
      exact ⟨_, rfl, l02.trans hl, hL.ints⟩
  · rcases hkk with rfl | rfl | rfl | rfl <;> (
      first | rw [kindL_2] | rw [kindL_5] | rw [kindL_6] | rw [kindL_9]
      simp only [SX, Int.reduceEq, c4 _ l2, shard_ok hs2 hv, shard_place]
      by_cases hp : (placeE v s).2 = 0
      · simp only [SX, decide_eq_true hp, if_pos hp, bs38, ap_zero, Ok_some]
        exact ⟨_, rfl, l02.add _, lit38 _ _⟩
      · simp only [SX, hp, if_false, Ok_some]
        exact ⟨_, rfl, l02, Row.nil⟩)
  · obtain ⟨W3, b3, n3, l3, r3⟩ := new65 W2
    have l2X := l3.put (Nat.le_refl _) (.cells [.int .i64 ((placeE v s).1.1 : Int), .int .i64 ((placeE v s).1.2.1 : Int), .int .i64 ((placeE v s).1.2.2 : Int)])
    have rX := rwCells_put (W := W3) (b := W2.next) [.int .i64 ((placeE v s).1.1 : Int), .int .i64 ((placeE v s).1.2.1 : Int), .int .i64 ((placeE v s).1.2.2 : Int)]
    have hk4 : kindL v kk s c = (if (placeE v s).2 = 0 then [(shardE v s).1, (lockE v ((placeE v s).1.1 : Int)).1] else []) := by
      rcases hkk with rfl | rfl | rfl
      · exact kindL_4 _ _ _
      · exact kindL_7 _ _ _
      · exact kindL_8 _ _ _
    rw [hk4]
    rcases hkk with rfl | rfl | rfl <;> (
      simp only [SX, Int.reduceEq, c4 _ l2, place_ok hs2 hv, b3, stV3i r3]
      generalize W3.put W2.next (.cells [.int .i64 ((placeE v s).1.1 : Int), .int .i64 ((placeE v s).1.2.1 : Int), .int .i64 ((placeE v s).1.2.2 : Int)]) = X at *
      by_cases hp : (placeE v s).2 = 0
      · simp only [SX, decide_eq_true hp, if_pos hp, c4 _ (l2.trans l2X), Nat.zero_add, ldR (o := 0) rX rfl, lock_ok (hs2.mono l2X) hv, bs38, ap_one]
        have lY := (l2X.add (.cells [.int .i64 (lockE v ((placeE v s).1.1 : Int)).1])).add (.cells [.int .i64 (lockE v ((placeE v s).1.1 : Int)).1])
        have hY : cellsAt ((X.add (.cells [.int .i64 (lockE v ((placeE v s).1.1 : Int)).1])).add (.cells [.int .i64 (lockE v ((placeE v s).1.1 : Int)).1])) (X.add (.cells [.int .i64 (lockE v ((placeE v s).1.1 : Int)).1])).next = some [.int .i64 (lockE v ((placeE v s).1.1 : Int)).1] := cellsAt_new
        have hY2 : (X.add (.cells [.int .i64 (lockE v ((placeE v s).1.1 : Int)).1])).next < ((X.add (.cells [.int .i64 (lockE v ((placeE v s).1.1 : Int)).1])).add (.cells [.int .i64 (lockE v ((placeE v s).1.1 : Int)).1])).next := Nat.lt_of_lt_of_eq (Nat.lt_succ_self _) (AW.add_next _ _).symm
        generalize (X.add (.cells [.int .i64 (lockE v ((placeE v s).1.1 : Int)).1])).add (.cells [.int .i64 (lockE v ((placeE v s).1.1 : Int)).1]) = Y at *
        simp only [SX, c4 _ (l2.trans lY), shard_ok (hs2.mono lY) hv, shard_place, decide_eq_true hp, bs38, ap_two _ _ hY hY2, Ok_some]
        exact ⟨_, rfl, ((l02.trans lY).add _).add _, two38 _ _ _⟩
      · simp only [SX, hp, if_false, c4 _ (l2.trans l2X), shard_ok (hs2.mono l2X) hv, shard_place, Ok_some]
        exact ⟨_, rfl, l02.trans l2X, Row.nil⟩)
  · rcases hkk with rfl | rfl <;> (
      first | rw [kindL_10] | rw [kindL_11]
      simp only [SX, Int.reduceEq, c4 _ l2, lock_ok hs2 hv]
      by_cases hp : (lockE v c).2 = 0
      · simp only [SX, decide_eq_true hp, if_pos hp, bs38, ap_one, Ok_some]
        exact ⟨_, rfl, (l02.add _).add _, one38 _ _⟩
      · simp only [SX, hp, if_false, Ok_some]
        exact ⟨_, rfl, l02, Row.nil⟩)
end Go.Proofs.YtfcfglpkgcheiaaDoor
/- The locks of an operation: the document's answer. -/
namespace Go.Proofs.YtfcfglpkgcheiaaDoor
open Go Go.Eng
set_option linter.unusedVariables false
set_option linter.unusedSimpArgs false
set_option maxRecDepth 100000
theorem bs38_2 (a b : Int) (W : AW) : oBuildSlice Tryd.prog 38 2 [(0, .int .i64 a), (1, .int .i64 b)] W = some (.slice (some ⟨W.next, 0, none⟩) 2 2, W.add (.cells [.int .i64 a, .int .i64 b])) := Eq.trans (by kernel_rfl) rfl
theorem lit38_2 (x y : Int) (W : AW) : Ints (W.add (.cells [.int .i64 x, .int .i64 y])) (.slice (some ⟨W.next, 0, none⟩) 2 2) [x, y] := ints_new [x, y] _ W
/-- what an operation speaks of, by its kind -/
theorem tgtO_kind {o : OpT} (h : (tgtO o).2.2 = 0) : ((o.k = 3 ∨ o.k = 10 ∨ o.k = 11) ∧ (tgtO o).1 = -1) ∨ ((o.k = 1 ∨ o.k = 12) ∧ (tgtO o).1 = -1 ∧ (tgtO o).2.1 = -1) ∨ ((o.k = 2 ∨ o.k = 4 ∨ o.k = 5 ∨ o.k = 8 ∨ o.k = 6 ∨ o.k = 7 ∨ o.k = 9) ∧ (tgtO o).2.1 = -1) := by
  have hr := tgtO_range h
  unfold tgtO tgtE at h ⊢
  split at h
  · rename_i h2; exact absurd h h2
  rename_i h2
  rw [if_neg h2]
  split
  · exact .inr (.inr ⟨by omega, rfl⟩)
  split
  · exact .inr (.inr ⟨by omega, rfl⟩)
  split
  · exact .inl ⟨by omega, rfl⟩
  · exact .inr (.inl ⟨by omega, rfl, rfl⟩)
theorem refLocks_ok {v : Ven} {o : OpT} {sv : Value} {W : AW} (hs : Secs W sv v.secs) (hv : v.secs.length < 1000) (hr : ∀ s ∈ v.secs, s.rows.length < 1000) :
    ∃ u W2, omS (.func (.func 19) #[] #[]) [venV v sv, opV o] W = some (.tuple #[u, .int .i64 (locksE v o).2], W2) ∧ Le W W2 ∧ Ints W2 u (locksE v o).1 := by
  refine om_row2 ?_ ref22_Locks_om
  unfold ref22_Locks locksE
  obtain ⟨W1, hB, hle, hn, c4, c0, c3⟩ := venBox v sv W
  obtain ⟨W2, b2, n2, l2, k12, k0⟩ := opBox o W1
  have l02 := hle.trans l2
  have hsn := hle.next
  have hs2 := hs.mono l02
  simp only [SX, hB, b2, c4 _ l2, refVen_ok hs2 hv hr]
  by_cases he : (venE v).2 = 0
  case neg =>
    simp only [SX, he, if_false, Ok_some]
    exact ⟨_, rfl, l02, Row.nil⟩
  simp only [SX, decide_eq_true he, if_pos he, k12 _ (.refl _), refTgt_ok o]
  by_cases ht : (tgtO o).2.2 = 0
  case neg =>
    simp only [SX, ht, if_false, Ok_some]
    exact ⟨_, rfl, l02, Row.nil⟩
  have hk := tgtO_kind ht
  simp only [SX, decide_eq_true ht, if_pos ht, Nat.zero_add, k0 _ (.refl _)]
  clear ht k12 b2
  generalize (tgtO o).1 = s, (tgtO o).2.1 = c, o.k = kk at *
  have k0' : ∀ W', Le W2 W' → ldC (.pointer (some ⟨W1.next, 0, none⟩)) W' = some (.int .i64 kk, W') := k0
  clear k0
  rcases hk with ⟨hkk, rfl⟩ | ⟨hkk, rfl, rfl⟩ | ⟨hkk, rfl⟩
  · -- what speaks of a section
    have ge1 : ¬ ((0 : Int) ≤ -1) := by decide
    rcases hkk with rfl | hkk
    · rw [kindL_3]
      obtain ⟨u, W4, q1, q2, q3⟩ := refCover_ok (sec := c) hs2 hv hr
      by_cases hc0 : 0 ≤ c
      · simp only [SX, Int.reduceEq, k0' _ (.refl _), decide_eq_true hc0, wnt_undef, c4 _ l2, refLock_ok hs2 hv hr, ← cover_lock]
        by_cases hc : (coverE v c).2 = 0
        · simp only [SX, decide_eq_true hc, Nat.zero_add, Int.reduceEq, k0' _ (.refl _), c4 _ l2, q1, hc, Ok_some]
          exact ⟨_, rfl, l02.trans q2, q3⟩
        · rw [cover_none hc]
          simp only [SX, hc, Ok_some]
          exact ⟨_, rfl, l02, Row.nil⟩
      · simp only [SX, Int.reduceEq, Nat.zero_add, k0' _ (.refl _), decide_eq_false hc0, wnt_undef, c4 _ l2, refLock_ok hs2 hv hr, ← cover_lock]
        by_cases hc : (coverE v c).2 = 0
        · simp only [SX, decide_eq_true hc, Nat.zero_add, Int.reduceEq, k0' _ (.refl _), c4 _ l2, q1, hc, Ok_some]
          exact ⟨_, rfl, l02.trans q2, q3⟩
        · rw [cover_none hc]
          simp only [SX, hc, Ok_some]
          exact ⟨_, rfl, l02, Row.nil⟩
    · rcases hkk with rfl | rfl <;> (
        first | rw [kindL_10] | rw [kindL_11]
        by_cases hc0 : 0 ≤ c
        · simp only [SX, Int.reduceEq, Nat.zero_add, k0' _ (.refl _), decide_eq_true hc0, wnt_undef, c4 _ l2, refLock_ok hs2 hv hr]
          by_cases hp : (lockE v c).2 = 0
          · simp only [SX, decide_eq_true hp, if_pos hp, Nat.zero_add, Int.reduceEq, k0' _ (.refl _), bs38, Ok_some]
            exact ⟨_, rfl, l02.add _, lit38 _ _⟩
          · simp only [SX, hp, if_false, Ok_some]
            exact ⟨_, rfl, l02, Row.nil⟩
        · simp only [SX, Int.reduceEq, Nat.zero_add, k0' _ (.refl _), decide_eq_false hc0, wnt_undef, c4 _ l2, refLock_ok hs2 hv hr]
          by_cases hp : (lockE v c).2 = 0
          · simp only [SX, decide_eq_true hp, if_pos hp, Nat.zero_add, Int.reduceEq, k0' _ (.refl _), bs38, Ok_some]
            exact ⟨_, rfl, l02.add _, lit38 _ _⟩
          · simp only [SX, hp, if_false, Ok_some]
            exact ⟨_, rfl, l02, Row.nil⟩)
  · rcases hkk with rfl | rfl
    · rw [kindL_1]
      simp only [SX, Int.reduceEq, Nat.zero_add, k0' _ (.refl _), Ok_some]
      exact ⟨_, rfl, l02, Row.nil⟩
    · rw [kindL_12]
      have hsh := venE_sh he
      have ea : ∀ W', oBin Tryd.prog .add 3 false false (.int .i64 v.sh) (.int .i64 (v.secs.length : Int)) W' = some (.int .i64 ((v.sh.toNat + v.secs.length : Nat) : Int), W') := fun W' => by
        rw [oBin_add (by omega) (by omega)]; congr 3; omega
      simp only [SX, Int.reduceEq]
      refine Ok_loop (v.sh.toNat + v.secs.length) (by omega) (fun i R W' => Le W2 W' ∧ R 2 = .pointer (some ⟨W.next, 0, none⟩) ∧ R 11 = .int .i64 (i : Int) ∧ ∃ u, R 10 = u ∧ Lst W2.next W' 1 intC u (upTo i))
        (fun r => Le W2 r.2.2 ∧ r.1 = .exit 0 ∧ ∃ u, r.2.1 10 = u ∧ Lst W2.next r.2.2 1 intC u (upTo (v.sh.toNat + v.secs.length))) ⟨.refl _, rfl, rfl, _, rfl, .nil _ _ _ _⟩ ?_ ?_ ?_
      · rintro i R W' hi ⟨hl, f2, f11, u, f10, hL⟩
        unfold ref22_Locks_L1
        have e1 : ((i : Int) < ((v.sh.toNat + v.secs.length : Nat) : Int)) := by omega
        have eb : ∀ W', oBin Tryd.prog .add 3 false true (.int .i64 (i : Int)) (.int .i64 1) W' = some (.int .i64 ((i + 1 : Nat) : Int), W') := fun W' => oBin_add (by omega) (by omega)
        have hLm := hL.mono ((Le.refl W').add (.cells [.int .i64 (i : Int)]))
        obtain ⟨v', W3, q1, q2, q3, q4⟩ := Lst.push (P := Tryd.prog) (a := (i : Int)) (b := W'.next) (c := 1) ap38 intC_len intC_one hLm cellsAt_new (by rw [upTo_len]; omega) (by rw [upTo_len]; omega) (by rw [AW.add_next]; have := hl.next; omega)
        simp only [SX, f2, f11, f10, Nat.zero_add, c0 _ (l2.trans hl), c3 _ (l2.trans hl), (hs2.mono hl).len len34, ea, e1, bs38, q1, eb, Ok_some]
        exact .inl ⟨trivial, q4 _ (hl.add _) (Nat.le_refl _), f2, rfl, _, rfl, by rw [upTo_succ]; exact q2⟩
      · rintro R W' ⟨hl, f2, f11, u, f10, hL⟩
        unfold ref22_Locks_L1
        have e1 : ¬ (((v.sh.toNat + v.secs.length : Nat) : Int) < ((v.sh.toNat + v.secs.length : Nat) : Int)) := by omega
        simp only [SX, f2, f11, Nat.zero_add, c0 _ (l2.trans hl), c3 _ (l2.trans hl), (hs2.mono hl).len len34, ea, e1, Ok_some]
        exact ⟨by simp, hl, trivial, u, f10, hL⟩
      · rintro ⟨x, R, W'⟩ ⟨hl, hx, u, f10, hL⟩
        simp only at hl hx f10 hL
        subst hx
        simp only [SX, f10, Ok_some]
        exact ⟨_, rfl, l02.trans hl, hL.ints⟩
  · -- what speaks of a seat
    have ge1 : ¬ ((0 : Int) ≤ -1) := by decide
    obtain ⟨W3, b3, n3, l3, r3⟩ := new65 W2
    have l2X := l3.put (Nat.le_refl _) (.cells [.int .i64 ((placeE v s).1.1 : Int), .int .i64 ((placeE v s).1.2.1 : Int), .int .i64 ((placeE v s).1.2.2 : Int)])
    have rX := rwCells_put (W := W3) (b := W2.next) [.int .i64 ((placeE v s).1.1 : Int), .int .i64 ((placeE v s).1.2.1 : Int), .int .i64 ((placeE v s).1.2.2 : Int)]
    rcases hkk with rfl | rfl | rfl | rfl | rfl | rfl | rfl <;> (
      first | rw [kindL_2] | rw [kindL_4] | rw [kindL_5] | rw [kindL_8] | rw [kindL_6] | rw [kindL_7] | rw [kindL_9]
      simp only [SX, Int.reduceEq, Nat.zero_add, k0' _ (.refl _), ge1, wnt_undef, c4 _ l2, refPlace_ok hs2 hv hr, b3, stV3i r3]
      generalize W3.put W2.next (.cells [.int .i64 ((placeE v s).1.1 : Int), .int .i64 ((placeE v s).1.2.1 : Int), .int .i64 ((placeE v s).1.2.2 : Int)]) = X at *
      by_cases hp : (placeE v s).2 = 0
      · simp only [SX, Int.reduceEq, decide_eq_true hp, if_pos hp, wnt_undef, k0' _ l2X, c4 _ (l2.trans l2X), Nat.zero_add, refShard_ok (hs2.mono l2X) hv hr, ldR (o := 0) rX rfl, refLock_ok (hs2.mono l2X) hv hr, bs38, bs38_2, Ok_some]
        exact ⟨_, rfl, (l02.trans l2X).add _, by first | exact lit38 _ _ | exact lit38_2 _ _ _⟩
      · simp only [SX, hp, if_false, Ok_some]
        exact ⟨_, rfl, l02.trans l2X, Row.nil⟩)
end Go.Proofs.YtfcfglpkgcheiaaDoor
/- PlansLocks: what it answers. -/
namespace Go.Proofs.YtfcfglpkgcheiaaDoor
open Go Go.Eng
set_option linter.unusedVariables false
set_option linter.unusedSimpArgs false
set_option maxRecDepth 100000
theorem wide_ok {v : Ven} {sv : Value} {W : AW} (hs : Secs W sv v.secs) : ∃ b, omS (.func (.func 17) #[] #[]) [venV v sv] W = some (.bool b, W) ∧ (b = false → v.secs.length ≤ 10 ∧ ∀ s ∈ v.secs, s.rows.length ≤ 20) := by
  have main : Ok (law22_wide omS (venV v sv) W) fun r => ∃ b, r.1 = .bool b ∧ Le W r.2 ∧ (b = false → v.secs.length ≤ 10 ∧ ∀ s ∈ v.secs, s.rows.length ≤ 20) := by
    unfold law22_wide
    obtain ⟨W1, hB, hle, hn, c4, c0, c3⟩ := venBox v sv W
    have hs1 := hs.mono hle
    simp only [SX, hB]
    have hm : min v.secs.length 20 ≤ v.secs.length ∧ min v.secs.length 20 ≤ 20 := by omega
    refine Ok_loop (min v.secs.length 20) (by omega) (fun i R W' => W' = W1 ∧ R 1 = .pointer (some ⟨W.next, 0, none⟩) ∧ R 3 = .int .i64 (i : Int) ∧ ∀ j (h : j < v.secs.length), j < i → v.secs[j].rows.length ≤ 20)
      (fun r => r.2.2 = W1 ∧ ((r.1 = .exit 0 ∧ r.2.1 1 = .pointer (some ⟨W.next, 0, none⟩) ∧ ∀ j (h : j < v.secs.length), j < min v.secs.length 20 → v.secs[j].rows.length ≤ 20) ∨ (r.1 = .ret ∧ r.2.1 2 = .bool true))) ⟨rfl, rfl, rfl, fun j h hj => by omega⟩ ?_ ?_ ?_
    · rintro i R W' hi ⟨rfl, f1, f3, hj⟩
      unfold law22_wide_L1
      have e1 : ((i : Int) < (v.secs.length : Int)) := by omega
      have e2 : ((i : Int) < 20) := by omega
      have hi2 : i < v.secs.length := by omega
      obtain ⟨b, o, rv, p1, p2, -, p4, p5, -⟩ := hs1.get hi2
      have eb : ∀ W', oBin Tryd.prog .add 3 false true (.int .i64 (i : Int)) (.int .i64 1) W' = some (.int .i64 ((i + 1 : Nat) : Int), W') := fun W' => oBin_add (by omega) (by omega)
      simp only [SX, f1, f3, Nat.zero_add, c3 _ (.refl _), hs1.len len34, e1, decide_true, e2, p1, Nat.add_zero, p4 _ (.refl _), str_len len9]
      by_cases t1 : 100 < (v.secs[i].name.length : Int)
      · simp only [SX, decide_eq_true t1, Ok_some]
        exact .inr ⟨by simp, trivial, .inr ⟨trivial, rfl⟩⟩
      simp only [SX, decide_eq_false t1, f1, f3, Nat.zero_add, c3 _ (.refl _), p1, p5 _ (.refl _), p2.len lenI]
      by_cases t2 : 20 < (v.secs[i].rows.length : Int)
      · simp only [SX, decide_eq_true t2, Ok_some]
        exact .inr ⟨by simp, trivial, .inr ⟨trivial, rfl⟩⟩
      simp only [SX, decide_eq_false t2, f3, eb, Ok_some]
      refine .inl ⟨trivial, trivial, f1, rfl, fun j h hji => ?_⟩
      by_cases hji2 : j < i
      · exact hj j h hji2
      · obtain rfl : j = i := by omega
        omega
    · rintro R W' ⟨rfl, f1, f3, hj⟩
      unfold law22_wide_L1
      simp only [SX, f1, f3, Nat.zero_add, c3 _ (.refl _), hs1.len len34]
      by_cases e1 : ((min v.secs.length 20 : Nat) : Int) < (v.secs.length : Int)
      · have e2 : ¬ (((min v.secs.length 20 : Nat) : Int) < 20) := by omega
        simp only [SX, decide_eq_true e1, f3, decide_eq_false e2, Ok_some]
        exact ⟨by simp, trivial, .inl ⟨trivial, f1, hj⟩⟩
      · simp only [SX, decide_eq_false e1, Ok_some]
        exact ⟨by simp, trivial, .inl ⟨trivial, f1, hj⟩⟩
    · rintro ⟨x, R, W'⟩ ⟨hW, hq⟩
      simp only at hW hq
      subst hW
      rcases hq with ⟨rfl, f1, hj⟩ | ⟨rfl, f2⟩
      · simp only [SX, f1, Nat.zero_add, c3 _ (.refl _), hs1.len len34, Ok_some]
        refine ⟨_, rfl, hle, fun hb => ?_⟩
        have hl := of_decide_eq_false hb
        refine ⟨by omega, fun s hs => ?_⟩
        obtain ⟨j, hj2, rfl⟩ := List.getElem_of_mem hs
        exact hj j hj2 (by omega)
      · simp only [SX, f2, Ok_some]
        exact ⟨_, rfl, hle, fun hb => by cases hb⟩
  obtain ⟨⟨r, W'⟩, h1, b, h2, h3, h4⟩ := main
  simp only at h2 h3
  subst h2
  exact ⟨b, by rw [law22_wide_om h1, gc_bool h3], h4⟩
theorem ints_ok {a b : Value} {la lb : List Int} {W : AW} (ha : Ints W a la) (hb : Ints W b lb) (hl : la.length < 900000) : omS (.func (.func 20) #[] #[]) [a, b] W = some (.bool (decide (la = lb)), W) := by
  refine om_drop rfl ?_ law22_ints_om
  unfold law22_ints
  simp only [SX, Ints_ok ha hb hl, Ok_some]
  exact ⟨trivial, .refl _⟩
theorem kindL_len (v : Ven) (he : (venE v).2 = 0) (k s c : Int) : (kindL v k s c).length ≤ 24 := by
  have hsh := venE_sh he
  have hg := (venE_good he).1.len
  unfold kindL
  split
  · rw [List.length_map, List.length_range]; omega
  split
  · unfold coverE
    split
    · rw [sortL_len, covL_len]; omega
    · simp
  split
  · split <;> simp
  split
  · split <;> simp
  split
  · split <;> simp
  · simp
theorem locksE_len (v : Ven) (o : OpT) : (locksE v o).1.length ≤ 24 := by
  unfold locksE
  split
  · rename_i he
    split
    · exact kindL_len v he _ _ _
    · simp
  · simp
theorem plansLocks_om {v : Ven} {o : OpT} {sv : Value} {W : AW} (hs : SecsC W sv v.secs) (hG : GW W) : omS (.func (.func 4) #[] #[]) [venV v sv, opV o] W = some (.bool true, W) := by
  refine om_drop rfl ?_ law22_PlansLocks_om
  unfold law22_PlansLocks
  obtain ⟨W1, hB, hle, hn, c4, c0, c3⟩ := venBox v sv W
  obtain ⟨W2, b2, n2, l2, k12, k0⟩ := opBox o W1
  have l02 := hle.trans l2
  obtain ⟨b, w1, w2⟩ := wide_ok (hs.mono l02).1
  simp only [SX, hB, b2, c4 _ l2, w1]
  cases b
  case true =>
    simp only [SX, shown_ok (hG.mono l02), Ok_some]
    exact ⟨trivial, l02⟩
  obtain ⟨w3, w4⟩ := w2 rfl
  have hv : v.secs.length < 1000 := by omega
  have hr : ∀ s ∈ v.secs, s.rows.length < 1000 := fun s h => by have := w4 s h; omega
  obtain ⟨u, W3, q1, q2, q3⟩ := planLocks_ok (o := o) (hs.mono l02) hv (hG.mono l02)
  have l03 := l02.trans q2
  obtain ⟨u', W4, q1', q2', q3'⟩ := refLocks_ok (o := o) (hs.mono l03).1 hv hr
  have l04 := l03.trans q2'
  have hlen := locksE_len v o
  simp only [SX, c4 _ l2, k12 _ (.refl _), q1, c4 _ (l2.trans q2), k12 _ q2, q1', ints_ok (q3.mono q2') q3' (by omega), decide_true, shown_ok (hG.mono l04), Ok_some]
  exact ⟨trivial, l04⟩
end Go.Proofs.YtfcfglpkgcheiaaDoor
/- A venue and an operation that are handed in, opened. -/
namespace Go.Proofs.YtfcfglpkgcheiaaDoor
open Go Go.Eng Go.RowKit
set_option linter.unusedVariables false
set_option linter.unusedSimpArgs false
set_option maxRecDepth 100000
theorem sec_of {W : AW} {n : Nat} {c : List Value} (h : DR Tryd.prog W (n + 3) 62 c) : ∃ s : Sec, ∀ pre post, SecAt W (pre ++ (c ++ post)) pre.length s := by
  obtain ⟨c1, c2, rfl, h1, h2⟩ := (h.struct Tryd.underlying62).cons
  obtain ⟨c3, c4, rfl, h3, h4⟩ := h2.cons
  obtain ⟨c5, c6, rfl, h5, h6⟩ := h4.cons
  obtain rfl := h6.nil
  obtain ⟨s, rfl, _⟩ := h1.str Tryd.underlying9
  obtain ⟨rv, zs, rfl, hz, _⟩ := h3.ints Tryd.underlying38 Tryd.underlying3 (by kernel_rfl)
  obtain ⟨q, rfl⟩ := h5.int Tryd.underlying3
  refine ⟨⟨s.data.toList, zs, q⟩, fun pre post => ⟨?_, ?_, rv, ?_, hz⟩⟩
  · rw [List.getElem?_append_right (by omega), bytesL_back]; simp
  · rw [List.getElem?_append_right (by omega), Nat.add_sub_cancel_left]; rfl
  · rw [List.getElem?_append_right (by omega), Nat.add_sub_cancel_left]; rfl
theorem ven_of {W : AW} {n : Nat} {c : List Value} (h : DR Tryd.prog W (n + 5) 36 c) : ∃ (v : Ven) (sv : Value), c = [.int .i64 v.sh, .int .i64 v.ttl, .int .i64 v.ses, sv] ∧ SecsC W sv v.secs := by
  obtain ⟨c1, c2, rfl, h1, h2⟩ := (h.struct Tryd.underlying36).cons
  obtain ⟨c3, c4, rfl, h3, h4⟩ := h2.cons
  obtain ⟨c5, c6, rfl, h5, h6⟩ := h4.cons
  obtain ⟨c7, c8, rfl, h7, h8⟩ := h6.cons
  obtain rfl := h8.nil
  obtain ⟨a, rfl⟩ := h1.int Tryd.underlying3
  obtain ⟨b, rfl⟩ := h3.int Tryd.underlying2
  obtain ⟨d, rfl⟩ := h5.int Tryd.underlying2
  obtain ⟨sv, l, rfl, hr⟩ := h7.row Tryd.underlying34 (at_ := SecAt W) (fun c _ hc => sec_of hc)
  exact ⟨⟨a, b, d, l⟩, sv, rfl, hr⟩
section
variable {H : Type} {enc : TypeId × Value → H} {w : World} {σ : Inj} {W : AW} {v0 : Value} {d : DataW H} {p : List MemPlace} {r : Reach} {b0 : Nat}
theorem agg_of {t : TypeId} {fs : Array Field} (ht : Tryd.prog.underlying t = some (.struct fs)) (hv : Value.okWide Tryd.prog w r b0 t v0) : ∃ cs, v0 = .agg cs := by
  unfold Value.okWide at hv
  rw [ht] at hv
  obtain ⟨cs, h, _⟩ := hv
  exact ⟨cs, h⟩
theorem sim36 : simT Tryd.prog 6 36 = true := by kernel_rfl
theorem openVen (ho : Opened σ W w) (hv : Value.okWide Tryd.prog w r b0 36 v0) (h : DataW.Trod enc Tryd.prog w 0 (fun _ => true) true 36 v0 d p) :
    ∃ (σ2 : Inj) (W2 : AW) (v : Ven) (sv : Value), Opened σ2 W2 w ∧ Sub σ σ2 ∧ Le W W2 ∧ VR σ2 (venV v sv) v0 ∧ SecsC W2 sv v.secs := by
  obtain ⟨cs, rfl⟩ := agg_of Tryd.underlying36 hv
  obtain ⟨m, hm⟩ := h
  obtain ⟨σ2, W2, cs2, o2, s2, l2, r2, a2⟩ := opens_trod sim36 hm σ W ho
  obtain ⟨v, sv, rfl, hs⟩ := ven_of a2
  exact ⟨σ2, W2, v, sv, o2, s2, l2, .agg' (a := #[.int .i64 v.sh, .int .i64 v.ttl, .int .i64 v.ses, sv]) r2, hs⟩
theorem opFlat : flatK Tryd.prog 4 27 = some [.i64, .u32, .i64, .i64, .i64, .i64, .u32, .u32, .u32, .u64, .u64, .i64] := by kernel_rfl
theorem openOp (hv : Value.okWide Tryd.prog w r b0 27 v0) (h : DataW.Trod enc Tryd.prog w 0 (fun _ => true) true 27 v0 d p) : ∃ o : OpT, v0 = opV o := by
  obtain ⟨ns, hn, rfl, rfl, again⟩ := open_flat Tryd.underlying27 opFlat hv h
  match ns, hn with
  | [a, b, c, d, e, f, g, h, i, j, k, l], _ => exact ⟨⟨a, b, c, d, e, f, g, h, i, j, k, l⟩, rfl⟩
end
theorem openG {w : World} (hl : LaidG [(0, usesV)] w.heap) : Opened (σG [(0, usesV)]) (WG [(0, usesV)] 1) w := ⟨rel_G (by decide) hl, allRo_G, 0, _, rfl⟩
theorem gw_le {W : AW} (h : Le (WG [(0, usesV)] 1) W) : GW W := gw_W.mono h
theorem opV_plain (o : OpT) : plain (opV o) = true := rfl
theorem kidsT : Kids Tryd.prog (· < Tryd.prog.types.size) := kids_rows (by kernel_rfl) (by kernel_rfl)
theorem fullT : ∀ t e, t < Tryd.prog.types.size → Tryd.prog.underlying t = some (.slice e) → 0 < Tryd.prog.cellsOf e := slices_full_of Tryd.prog (by kernel_rfl)
/-- what is opened is called -/
theorem open_calls (hok : CalleeOK Tryd.prog PlanTab.ng omS) {w : World} {σ : Inj} {W : AW} (ho : Opened σ W w) (hs : Sub (σG [(0, usesV)]) σ) {i : Nat} {args args' : List Value} (hr : LR σ args args') (h : omS (.func (.func i) #[] #[]) args W = some (.bool true, W)) :
    Calls Tryd.prog i args'.toArray w fun e w' => e = .returned (.bool true) ∧ Quiet w w' := by
  have hG : Glob σ [0] := fun g hg => by
    obtain ⟨e, he⟩ := (glob_G (gs := [(0, usesV)]) (ng := [0]) rfl) g hg
    exact ⟨e, hs _ _ he⟩
  exact om_calls hok ho.rel hG ho.ro hr rfl h
end Go.Proofs.YtfcfglpkgcheiaaDoor
