/- Texts of the program told in continuations: written by a program, shown by the kernel. -/
import Derived.Test.YtnigceddndemkaaGreatDoorSBase
import Derived.KernelRfl
namespace Go.Proofs.YtnigceddndemkaaGreatDoor
open Go Go.Eng
set_option linter.unusedVariables false
set_option maxRecDepth 100000
noncomputable def ref15_Ints_L1 (call : Eng.Callee) (R : Nat → Value) (W : AW) : Option LT :=
  bnd (oMv (R 5) W) fun r9 =>
  bnd (oMv (R 0) r9.2) fun r10 =>
  bnd (oBuiltin Tryz.prog .len #[69] 3 #[false] [r10.1] r10.2) fun r11 =>
  bnd (oBin Tryz.prog .lss 3 false false r9.1 r11.1 r11.2) fun r12 =>
  vIf r12.1 (
    bnd (oMv (R 0) r12.2) fun r13 =>
    bnd (oMv (R 5) r13.2) fun r14 =>
    bnd (ixS 1 r13.1 r14.1 r14.2) fun r15 =>
    bnd (ldC r15.1 r15.2) fun r16 =>
    bnd (oMv (R 1) r16.2) fun r17 =>
    bnd (oMv (R 5) r17.2) fun r18 =>
    bnd (ixS 1 r17.1 r18.1 r18.2) fun r19 =>
    bnd (ldC r19.1 r19.2) fun r20 =>
    bnd (oBin Tryz.prog .neq 3 false false r16.1 r20.1 r20.2) fun r21 =>
    vIf r21.1 (
      bnd (oMv (.bool false) r21.2) fun r22 =>
      some (X.ret, (rput (rput (rput (rput (rput (rput (rput (rput (rput (rput (rput (rput (rput (rput R (some 11) r9.1) (some 12) r10.1) (some 13) r11.1) (some 14) r12.1) (some 17) r13.1) (some 18) r14.1) (some 19) r15.1) (some 20) r16.1) (some 21) r17.1) (some 22) r18.1) (some 23) r19.1) (some 24) r20.1) (some 25) r21.1) (some 4) r22.1), r22.2)) (
      bnd (oMv (R 5) r21.2) fun r23 =>
      bnd (oBin Tryz.prog .add 3 false true r23.1 (.int .i64 1) r23.2) fun r24 =>
      bnd (oMv r24.1 r24.2) fun r25 =>
      some (X.normal, (rput (rput (rput (rput (rput (rput (rput (rput (rput (rput (rput (rput (rput (rput (rput (rput R (some 11) r9.1) (some 12) r10.1) (some 13) r11.1) (some 14) r12.1) (some 17) r13.1) (some 18) r14.1) (some 19) r15.1) (some 20) r16.1) (some 21) r17.1) (some 22) r18.1) (some 23) r19.1) (some 24) r20.1) (some 25) r21.1) (some 15) r23.1) (some 16) r24.1) (some 5) r25.1), r25.2))) (
    some (X.exit 0, (rput (rput (rput (rput R (some 11) r9.1) (some 12) r10.1) (some 13) r11.1) (some 14) r12.1), r12.2))
noncomputable def ref15_Ints (call : Eng.Callee) (x0 x1 : Value) (W : AW) : Option (Value × AW) :=
  bnd (oMv (.bool false) W) fun r1 =>
  bnd (oMv x0 r1.2) fun r2 =>
  bnd (oBuiltin Tryz.prog .len #[69] 3 #[false] [r2.1] r2.2) fun r3 =>
  bnd (oMv x1 r3.2) fun r4 =>
  bnd (oBuiltin Tryz.prog .len #[69] 3 #[false] [r4.1] r4.2) fun r5 =>
  bnd (oBin Tryz.prog .neq 3 false false r3.1 r5.1 r5.2) fun r6 =>
  vIf r6.1 (
    bnd (oMv (.bool false) r6.2) fun r7 =>
    oRes Tryz.prog [(r7.1, none)] r7.2) (
    bnd (oMv (.int .i64 0) r6.2) fun r8 =>
    bnd (loopO (ref15_Ints_L1 call) (rput (rput (rput (rput (rput (rput (rput (argGo 0 [x0, x1] PlanTab.blank) (some 4) r1.1) (some 6) r2.1) (some 7) r3.1) (some 8) r4.1) (some 9) r5.1) (some 10) r6.1) (some 5) r8.1) r8.2) fun r26 =>
    kExit 0 r26.1 (
      bnd (oMv (.bool true) r26.2.2) fun r27 =>
      oRes Tryz.prog [(r27.1, none)] r27.2) (kRetX r26.1 (
      oRes Tryz.prog [((r26.2.1 4), none)] r26.2.2)))
theorem ref15_Ints_eq (call : Eng.Callee) (x0 x1 : Value) (W : AW) : kFun Tryz.prog call 26 (cod 33) (rss 33) [x0, x1] W = ref15_Ints call x0 x1 W := by kernel_rfl
theorem ref15_Ints_om {x0 x1 : Value} {W : AW} {r : Value × AW} (h : ref15_Ints omS x0 x1 W = some r) : omS (.func (.func 33) #[] #[]) [x0, x1] W = some (gc W r) := om_of (nt := 26) (n := 2) (by kernel_rfl) (by kernel_rfl) rfl ((ref15_Ints_eq omS x0 x1 W).trans h)
noncomputable def law24_far_L1 (call : Eng.Callee) (R : Nat → Value) (W : AW) : Option LT :=
  bnd (oMv (R 5) W) fun r4 =>
  bnd (faO 0 (R 2) r4.2) fun r5 =>
  bnd (faO 3 r5.1 r5.2) fun r6 =>
  bnd (ldC r6.1 r6.2) fun r7 =>
  bnd (oBuiltin Tryz.prog .len #[22] 3 #[false] [r7.1] r7.2) fun r8 =>
  bnd (oBin Tryz.prog .lss 3 false false r4.1 r8.1 r8.2) fun r9 =>
  bnd (oMv r9.1 r9.2) fun r10 =>
  bnd (bIf (wnt r10.1 true) (oMv (R 5) r10.2) (some (undef, r10.2))) fun r11 =>
  bnd (bIf (wnt r10.1 true) (oBin Tryz.prog .lss 3 false true r11.1 (.int .i64 20) r11.2) (some (undef, r11.2))) fun r12 =>
  bnd (oPick r10.1 r12.1 (.bool false) r12.2) fun r13 =>
  vIf r13.1 (
    bnd (faO 0 (R 2) r13.2) fun r14 =>
    bnd (faO 3 r14.1 r14.2) fun r15 =>
    bnd (ldC r15.1 r15.2) fun r16 =>
    bnd (oMv (R 5) r16.2) fun r17 =>
    bnd (ixS 3 r16.1 r17.1 r17.2) fun r18 =>
    bnd (faO 0 r18.1 r18.2) fun r19 =>
    bnd (ldC r19.1 r19.2) fun r20 =>
    bnd (oBuiltin Tryz.prog .len #[9] 3 #[false] [r20.1] r20.2) fun r21 =>
    bnd (oBin Tryz.prog .gtr 3 false true r21.1 (.int .i64 100) r21.2) fun r22 =>
    bnd (oMv r22.1 r22.2) fun r23 =>
    bnd (bIf (wnt r23.1 false) (faO 0 (R 2) r23.2) (some (undef, r23.2))) fun r24 =>
    bnd (bIf (wnt r23.1 false) (faO 3 r24.1 r24.2) (some (undef, r24.2))) fun r25 =>
    bnd (bIf (wnt r23.1 false) (ldC r25.1 r25.2) (some (undef, r25.2))) fun r26 =>
    bnd (bIf (wnt r23.1 false) (oMv (R 5) r26.2) (some (undef, r26.2))) fun r27 =>
    bnd (bIf (wnt r23.1 false) (ixS 3 r26.1 r27.1 r27.2) (some (undef, r27.2))) fun r28 =>
    bnd (bIf (wnt r23.1 false) (faO 1 r28.1 r28.2) (some (undef, r28.2))) fun r29 =>
    bnd (bIf (wnt r23.1 false) (ldC r29.1 r29.2) (some (undef, r29.2))) fun r30 =>
    bnd (bIf (wnt r23.1 false) (oBuiltin Tryz.prog .len #[69] 3 #[false] [r30.1] r30.2) (some (undef, r30.2))) fun r31 =>
    bnd (bIf (wnt r23.1 false) (oBin Tryz.prog .gtr 3 false true r31.1 (.int .i64 20) r31.2) (some (undef, r31.2))) fun r32 =>
    bnd (oPick r23.1 (.bool true) r32.1 r32.2) fun r33 =>
    vIf r33.1 (
      bnd (oMv (.bool true) r33.2) fun r34 =>
      some (X.ret, (rput (rput (rput (rput (rput (rput (rput (rput (rput (rput (rput (rput (rput (rput (rput (rput (rput (rput (rput (rput (rput (rput (rput (rput (rput (rput (rput (rput (rput (rput (rput R (some 6) r4.1) (some 7) r5.1) (some 8) r6.1) (some 9) r7.1) (some 10) r8.1) (some 11) r9.1) (some 12) r10.1) (some 13) r11.1) (some 14) r12.1) (some 15) r13.1) (some 18) r14.1) (some 19) r15.1) (some 20) r16.1) (some 21) r17.1) (some 22) r18.1) (some 23) r19.1) (some 24) r20.1) (some 25) r21.1) (some 26) r22.1) (some 27) r23.1) (some 28) r24.1) (some 29) r25.1) (some 30) r26.1) (some 31) r27.1) (some 32) r28.1) (some 33) r29.1) (some 34) r30.1) (some 35) r31.1) (some 36) r32.1) (some 37) r33.1) (some 4) r34.1), r34.2)) (
      bnd (oMv (R 5) r33.2) fun r35 =>
      bnd (oBin Tryz.prog .add 3 false true r35.1 (.int .i64 1) r35.2) fun r36 =>
      bnd (oMv r36.1 r36.2) fun r37 =>
      some (X.normal, (rput (rput (rput (rput (rput (rput (rput (rput (rput (rput (rput (rput (rput (rput (rput (rput (rput (rput (rput (rput (rput (rput (rput (rput (rput (rput (rput (rput (rput (rput (rput (rput (rput R (some 6) r4.1) (some 7) r5.1) (some 8) r6.1) (some 9) r7.1) (some 10) r8.1) (some 11) r9.1) (some 12) r10.1) (some 13) r11.1) (some 14) r12.1) (some 15) r13.1) (some 18) r14.1) (some 19) r15.1) (some 20) r16.1) (some 21) r17.1) (some 22) r18.1) (some 23) r19.1) (some 24) r20.1) (some 25) r21.1) (some 26) r22.1) (some 27) r23.1) (some 28) r24.1) (some 29) r25.1) (some 30) r26.1) (some 31) r27.1) (some 32) r28.1) (some 33) r29.1) (some 34) r30.1) (some 35) r31.1) (some 36) r32.1) (some 37) r33.1) (some 16) r35.1) (some 17) r36.1) (some 5) r37.1), r37.2))) (
    some (X.exit 0, (rput (rput (rput (rput (rput (rput (rput (rput (rput (rput R (some 6) r4.1) (some 7) r5.1) (some 8) r6.1) (some 9) r7.1) (some 10) r8.1) (some 11) r9.1) (some 12) r10.1) (some 13) r11.1) (some 14) r12.1) (some 15) r13.1), r13.2))
noncomputable def law24_far (call : Eng.Callee) (x0 x1 : Value) (W : AW) : Option (Value × AW) :=
  bnd (oBox x0 W) fun r1 =>
  bnd (oMv (.bool false) r1.2) fun r2 =>
  bnd (oMv (.int .i64 0) r2.2) fun r3 =>
  bnd (loopO (law24_far_L1 call) (rput (rput (rput (argGo 0 [x0, x1] PlanTab.blank) (some 2) r1.1) (some 4) r2.1) (some 5) r3.1) r3.2) fun r38 =>
  kExit 0 r38.1 (
    bnd (faO 0 (r38.2.1 2) r38.2.2) fun r39 =>
    bnd (faO 3 r39.1 r39.2) fun r40 =>
    bnd (ldC r40.1 r40.2) fun r41 =>
    bnd (oBuiltin Tryz.prog .len #[22] 3 #[false] [r41.1] r41.2) fun r42 =>
    bnd (oBin Tryz.prog .gtr 3 false true r42.1 (.int .i64 10) r42.2) fun r43 =>
    bnd (oMv r43.1 r43.2) fun r44 =>
    bnd (bIf (wnt r44.1 false) (faO 4 (r38.2.1 2) r44.2) (some (undef, r44.2))) fun r45 =>
    bnd (bIf (wnt r44.1 false) (ldC r45.1 r45.2) (some (undef, r45.2))) fun r46 =>
    bnd (bIf (wnt r44.1 false) (oBuiltin Tryz.prog .len #[80] 3 #[false] [r46.1] r46.2) (some (undef, r46.2))) fun r47 =>
    bnd (bIf (wnt r44.1 false) (oMv (r38.2.1 1) r47.2) (some (undef, r47.2))) fun r48 =>
    bnd (bIf (wnt r44.1 false) (oBin Tryz.prog .gtr 3 false false r47.1 r48.1 r48.2) (some (undef, r48.2))) fun r49 =>
    bnd (bIf (wnt r44.1 false) (oMv r49.1 r49.2) (some (undef, r49.2))) fun r50 =>
    bnd (bIf (wnt r50.1 true) (faO 4 (r38.2.1 2) r50.2) (some (undef, r50.2))) fun r51 =>
    bnd (bIf (wnt r50.1 true) (ldC r51.1 r51.2) (some (undef, r51.2))) fun r52 =>
    bnd (bIf (wnt r50.1 true) (oBuiltin Tryz.prog .len #[80] 3 #[false] [r52.1] r52.2) (some (undef, r52.2))) fun r53 =>
    bnd (bIf (wnt r50.1 true) (oBin Tryz.prog .leq 3 false true r53.1 (.int .i64 400) r53.2) (some (undef, r53.2))) fun r54 =>
    bnd (bIf (wnt r44.1 false) (oPick r50.1 r54.1 (.bool false) r54.2) (some (undef, r54.2))) fun r55 =>
    bnd (oPick r44.1 (.bool true) r55.1 r55.2) fun r56 =>
    bnd (oMv r56.1 r56.2) fun r57 =>
    bnd (bIf (wnt r57.1 false) (faO 4 (r38.2.1 2) r57.2) (some (undef, r57.2))) fun r58 =>
    bnd (bIf (wnt r57.1 false) (ldC r58.1 r58.2) (some (undef, r58.2))) fun r59 =>
    bnd (bIf (wnt r57.1 false) (oBuiltin Tryz.prog .len #[80] 3 #[false] [r59.1] r59.2) (some (undef, r59.2))) fun r60 =>
    bnd (bIf (wnt r57.1 false) (oBin Tryz.prog .gtr 3 false true r60.1 (.int .i64 410) r60.2) (some (undef, r60.2))) fun r61 =>
    bnd (oPick r57.1 (.bool true) r61.1 r61.2) fun r62 =>
    bnd (oMv r62.1 r62.2) fun r63 =>
    oRes Tryz.prog [(r63.1, none)] r63.2) (kRetX r38.1 (
    oRes Tryz.prog [((r38.2.1 4), none)] r38.2.2))
theorem law24_far_eq (call : Eng.Callee) (x0 x1 : Value) (W : AW) : kFun Tryz.prog call 62 (cod 37) (rss 37) [x0, x1] W = law24_far call x0 x1 W := by kernel_rfl
theorem law24_far_om {x0 x1 : Value} {W : AW} {r : Value × AW} (h : law24_far omS x0 x1 W = some r) : omS (.func (.func 37) #[] #[]) [x0, x1] W = some (gc W r) := om_of (nt := 62) (n := 2) (by kernel_rfl) (by kernel_rfl) rfl ((law24_far_eq omS x0 x1 W).trans h)
noncomputable def ref24_Check_L1 (call : Eng.Callee) (R : Nat → Value) (W : AW) : Option LT :=
  bnd (oMv (R 6) W) fun r24 =>
  bnd (faO 4 (R 1) r24.2) fun r25 =>
  bnd (ldC r25.1 r25.2) fun r26 =>
  bnd (oBuiltin Tryz.prog .len #[80] 3 #[false] [r26.1] r26.2) fun r27 =>
  bnd (oBin Tryz.prog .lss 3 false false r24.1 r27.1 r27.2) fun r28 =>
  vIf r28.1 (
    bnd (faO 4 (R 1) r28.2) fun r29 =>
    bnd (ldC r29.1 r29.2) fun r30 =>
    bnd (oMv (R 6) r30.2) fun r31 =>
    bnd (call (fnV 109) [r30.1, r31.1] r31.2) fun r32 =>
    bnd (oMv r32.1 r32.2) fun r33 =>
    bnd (oMv r33.1 r33.2) fun r34 =>
    bnd (oBin Tryz.prog .neq 29 false true r34.1 (.int .i64 0) r34.2) fun r35 =>
    vIf r35.1 (
      bnd (oMv (R 6) r35.2) fun r36 =>
      bnd (oMv r33.1 r36.2) fun r37 =>
      bnd (oMv r36.1 r37.2) fun r38 =>
      bnd (oMv r37.1 r38.2) fun r39 =>
      some (X.ret, (rput (rput (rput (rput (rput (rput (rput (rput (rput (rput (rput (rput (rput (rput (rput (rput R (some 21) r24.1) (some 22) r25.1) (some 23) r26.1) (some 24) r27.1) (some 25) r28.1) (some 28) r29.1) (some 29) r30.1) (some 30) r31.1) (some 31) r32.1) (some 7) r33.1) (some 32) r34.1) (some 33) r35.1) (some 34) r36.1) (some 35) r37.1) (some 2) r38.1) (some 3) r39.1), r39.2)) (
      bnd (oMv (R 6) r35.2) fun r40 =>
      bnd (oBin Tryz.prog .add 3 false true r40.1 (.int .i64 1) r40.2) fun r41 =>
      bnd (oMv r41.1 r41.2) fun r42 =>
      some (X.normal, (rput (rput (rput (rput (rput (rput (rput (rput (rput (rput (rput (rput (rput (rput (rput R (some 21) r24.1) (some 22) r25.1) (some 23) r26.1) (some 24) r27.1) (some 25) r28.1) (some 28) r29.1) (some 29) r30.1) (some 30) r31.1) (some 31) r32.1) (some 7) r33.1) (some 32) r34.1) (some 33) r35.1) (some 26) r40.1) (some 27) r41.1) (some 6) r42.1), r42.2))) (
    some (X.exit 0, (rput (rput (rput (rput (rput R (some 21) r24.1) (some 22) r25.1) (some 23) r26.1) (some 24) r27.1) (some 25) r28.1), r28.2))
noncomputable def ref24_Check (call : Eng.Callee) (x0 : Value) (W : AW) : Option (Value × AW) :=
  bnd (oBox x0 W) fun r1 =>
  bnd (oMv (.int .i64 0) r1.2) fun r2 =>
  bnd (oMv (.int .i64 0) r2.2) fun r3 =>
  bnd (faO 0 r1.1 r3.2) fun r4 =>
  bnd (ldA 4 r4.1 r4.2) fun r5 =>
  bnd (call (fnV 108) [r5.1] r5.2) fun r6 =>
  bnd (oMv r6.1 r6.2) fun r7 =>
  bnd (oExtract r7.1 0 r7.2) fun r8 =>
  bnd (oExtract r7.1 1 r8.2) fun r9 =>
  bnd (oMv r8.1 r9.2) fun r10 =>
  bnd (oMv r9.1 r10.2) fun r11 =>
  bnd (oMv r11.1 r11.2) fun r12 =>
  bnd (oBin Tryz.prog .neq 29 false true r12.1 (.int .i64 0) r12.2) fun r13 =>
  vIf r13.1 (
    bnd (oMv r11.1 r13.2) fun r14 =>
    bnd (oMv (.int .i64 (-1)) r14.2) fun r15 =>
    bnd (oMv r14.1 r15.2) fun r16 =>
    oRes Tryz.prog [(r15.1, none), (r16.1, none)] r16.2) (
    bnd (faO 4 r1.1 r13.2) fun r17 =>
    bnd (ldC r17.1 r17.2) fun r18 =>
    bnd (oBuiltin Tryz.prog .len #[80] 3 #[false] [r18.1] r18.2) fun r19 =>
    bnd (oBin Tryz.prog .gtr 3 false true r19.1 (.int .i64 400) r19.2) fun r20 =>
    vIf r20.1 (
      bnd (oMv (.int .i64 (-1)) r20.2) fun r21 =>
      bnd (oMv (.int .i64 3) r21.2) fun r22 =>
      oRes Tryz.prog [(r21.1, none), (r22.1, none)] r22.2) (
      bnd (oMv (.int .i64 0) r20.2) fun r23 =>
      bnd (loopO (ref24_Check_L1 call) (rput (rput (rput (rput (rput (rput (rput (rput (rput (rput (rput (rput (rput (rput (rput (rput (rput (rput (argGo 0 [x0] PlanTab.blank) (some 1) r1.1) (some 2) r2.1) (some 3) r3.1) (some 9) r4.1) (some 10) r5.1) (some 11) r6.1) (some 8) r7.1) (some 12) r8.1) (some 13) r9.1) (some 4) r10.1) (some 5) r11.1) (some 14) r12.1) (some 15) r13.1) (some 17) r17.1) (some 18) r18.1) (some 19) r19.1) (some 20) r20.1) (some 6) r23.1) r23.2) fun r43 =>
      kExit 0 r43.1 (
        bnd (oMv (.int .i64 0) r43.2.2) fun r44 =>
        bnd (oMv (.int .i64 0) r44.2) fun r45 =>
        oRes Tryz.prog [(r44.1, none), (r45.1, none)] r45.2) (kRetX r43.1 (
        oRes Tryz.prog [((r43.2.1 2), none), ((r43.2.1 3), none)] r43.2.2))))
theorem ref24_Check_eq (call : Eng.Callee) (x0 : Value) (W : AW) : kFun Tryz.prog call 36 (cod 47) (rss 47) [x0] W = ref24_Check call x0 W := by kernel_rfl
theorem ref24_Check_om {x0 : Value} {W : AW} {r : Value × AW} (h : ref24_Check omS x0 W = some r) : omS (.func (.func 47) #[] #[]) [x0] W = some (gc W r) := om_of (nt := 36) (n := 1) (by kernel_rfl) (by kernel_rfl) rfl ((ref24_Check_eq omS x0 W).trans h)
noncomputable def history_read_L1 (call : Eng.Callee) (R : Nat → Value) (W : AW) : Option LT :=
  bnd (oBin Tryz.prog .lss 3 false false (R 34) (R 33) W) fun r36 =>
  vIf r36.1 (
    bnd (oMv (R 34) r36.2) fun r37 =>
    bnd (ixS 24 (R 32) (R 34) r37.2) fun r38 =>
    bnd (ldA 24 r38.1 r38.2) fun r39 =>
    bnd (oAlloc Tryz.prog 121 r39.2) fun r40 =>
    bnd (oMv r37.1 r40.2) fun r41 =>
    bnd (stV 24 r40.1 r39.1 r41.2) fun r42 =>
    bnd (faO 1 r40.1 r42.2) fun r43 =>
    bnd (ldC r43.1 r43.2) fun r44 =>
    bnd (oBin Tryz.prog .lss 3 false true r44.1 (.int .i64 1) r44.2) fun r45 =>
    bnd (oMv r45.1 r45.2) fun r46 =>
    bnd (bIf (wnt r46.1 false) (faO 1 r40.1 r46.2) (some (undef, r46.2))) fun r47 =>
    bnd (bIf (wnt r46.1 false) (ldC r47.1 r47.2) (some (undef, r47.2))) fun r48 =>
    bnd (bIf (wnt r46.1 false) (oBin Tryz.prog .gtr 3 false true r48.1 (.int .i64 64) r48.2) (some (undef, r48.2))) fun r49 =>
    bnd (oPick r46.1 (.bool true) r49.1 r49.2) fun r50 =>
    vIf r50.1 (
      bnd (oMv r41.1 r50.2) fun r51 =>
      bnd (oMv (.pointer none) r51.2) fun r52 =>
      bnd (oMv r51.1 r52.2) fun r53 =>
      bnd (oMv (.int .i64 7) r53.2) fun r54 =>
      some (X.ret, (rput (rput (rput (rput (rput (rput (rput (rput (rput (rput (rput (rput (rput (rput (rput (rput (rput (rput R (some 35) r36.1) (some 36) r37.1) (some 37) r38.1) (some 38) r39.1) (some 10) r40.1) (some 9) r41.1) (some 39) r43.1) (some 40) r44.1) (some 41) r45.1) (some 42) r46.1) (some 43) r47.1) (some 44) r48.1) (some 45) r49.1) (some 46) r50.1) (some 47) r51.1) (some 2) r52.1) (some 3) r53.1) (some 4) r54.1), r54.2)) (
      bnd (oMv (R 8) r50.2) fun r55 =>
      bnd (faO 1 r40.1 r55.2) fun r56 =>
      bnd (ldC r56.1 r56.2) fun r57 =>
      bnd (oLookup Tryz.prog 192 r55.1 r57.1 true r57.2) fun r58 =>
      bnd (oMv r58.1 r58.2) fun r59 =>
      bnd (oExtract r59.1 0 r59.2) fun r60 =>
      bnd (oExtract r59.1 1 r60.2) fun r61 =>
      bnd (oMv r60.1 r61.2) fun r62 =>
      bnd (oMv r61.1 r62.2) fun r63 =>
      bnd (faO 2 r40.1 r63.2) fun r64 =>
      bnd (ldC r64.1 r64.2) fun r65 =>
      bnd (oMv r65.1 r65.2) fun r66 =>
      vIf r66.1 (
        bnd (oMv r63.1 r66.2) fun r67 =>
        bnd (oUn Tryz.prog .not r67.1 r67.2) fun r68 =>
        bnd (oMv r68.1 r68.2) fun r69 =>
        bnd (bIf (wnt r69.1 false) (oMv r62.1 r69.2) (some (undef, r69.2))) fun r70 =>
        bnd (bIf (wnt r69.1 false) (faO 0 r40.1 r70.2) (some (undef, r70.2))) fun r71 =>
        bnd (bIf (wnt r69.1 false) (ldC r71.1 r71.2) (some (undef, r71.2))) fun r72 =>
        bnd (bIf (wnt r69.1 false) (oBin Tryz.prog .neq 3 false false r70.1 r72.1 r72.2) (some (undef, r72.2))) fun r73 =>
        bnd (oPick r69.1 (.bool true) r73.1 r73.2) fun r74 =>
        bnd (oMv r74.1 r74.2) fun r75 =>
        bnd (bIf (wnt r75.1 false) (faO 3 r40.1 r75.2) (some (undef, r75.2))) fun r76 =>
        bnd (bIf (wnt r75.1 false) (ldA 12 r76.1 r76.2) (some (undef, r76.2))) fun r77 =>
        bnd (bIf (wnt r75.1 false) (oBuild Tryz.prog 117 [] r77.2) (some (undef, r77.2))) fun r78 =>
        bnd (bIf (wnt r75.1 false) (oBin Tryz.prog .neq 117 false false r77.1 r78.1 r78.2) (some (undef, r78.2))) fun r79 =>
        bnd (oPick r75.1 (.bool true) r79.1 r79.2) fun r80 =>
        vIf r80.1 (
          bnd (oMv r41.1 r80.2) fun r81 =>
          bnd (oMv (.pointer none) r81.2) fun r82 =>
          bnd (oMv r81.1 r82.2) fun r83 =>
          bnd (oMv (.int .i64 6) r83.2) fun r84 =>
          some (X.ret, (rput (rput (rput (rput (rput (rput (rput (rput (rput (rput (rput (rput (rput (rput (rput (rput (rput (rput (rput (rput (rput (rput (rput (rput (rput (rput (rput (rput (rput (rput (rput (rput (rput (rput (rput (rput (rput (rput (rput (rput (rput (rput (rput (rput R (some 35) r36.1) (some 36) r37.1) (some 37) r38.1) (some 38) r39.1) (some 10) r40.1) (some 9) r41.1) (some 39) r43.1) (some 40) r44.1) (some 41) r45.1) (some 42) r46.1) (some 43) r47.1) (some 44) r48.1) (some 45) r49.1) (some 46) r50.1) (some 49) r55.1) (some 50) r56.1) (some 51) r57.1) (some 52) r58.1) (some 48) r59.1) (some 53) r60.1) (some 54) r61.1) (some 11) r62.1) (some 12) r63.1) (some 78) r64.1) (some 79) r65.1) (some 77) r66.1) (some 80) r67.1) (some 81) r68.1) (some 82) r69.1) (some 83) r70.1) (some 84) r71.1) (some 85) r72.1) (some 86) r73.1) (some 87) r74.1) (some 88) r75.1) (some 89) r76.1) (some 90) r77.1) (some 91) r78.1) (some 92) r79.1) (some 93) r80.1) (some 94) r81.1) (some 2) r82.1) (some 3) r83.1) (some 4) r84.1), r84.2)) (
          bnd (oMv (R 8) r80.2) fun r85 =>
          bnd (faO 1 r40.1 r85.2) fun r86 =>
          bnd (ldC r86.1 r86.2) fun r87 =>
          bnd (oBuiltin Tryz.prog .delete #[192, 3] 0 #[false, false] [r85.1, r87.1] r87.2) fun r88 =>
          bnd (oMv (R 7) r88.2) fun r89 =>
          bnd (oNilCheck r89.1 r89.2) fun r90 =>
          bnd (faO 5 r90.1 r90.2) fun r91 =>
          bnd (ldC r91.1 r91.2) fun r92 =>
          bnd (oMv r62.1 r92.2) fun r93 =>
          bnd (oBin Tryz.prog .sub 3 false true r93.1 (.int .i64 1) r93.2) fun r94 =>
          bnd (ixS 25 r92.1 r94.1 r94.2) fun r95 =>
          bnd (oMv r95.1 r95.2) fun r96 =>
          bnd (oMv r96.1 r96.2) fun r97 =>
          bnd (oMv r96.1 r97.2) fun r98 =>
          bnd (oMv r41.1 r98.2) fun r99 =>
          bnd (faO 15 r40.1 r99.2) fun r100 =>
          bnd (ldA 9 r100.1 r100.2) fun r101 =>
          bnd (oNilCheck r97.1 r101.2) fun r102 =>
          bnd (faO 3 r102.1 r102.2) fun r103 =>
          bnd (stV 1 r103.1 r99.1 r103.2) fun r104 =>
          bIf (agV true (ldA 9 r100.1 r104.2) r101.1 && true) (bnd (oNilCheck r98.1 r104.2) fun r105 =>
          bnd (faO 16 r105.1 r105.2) fun r106 =>
          bnd (stV 9 r106.1 r101.1 r106.2) fun r107 =>
          bnd (oMv (R 7) r107.2) fun r108 =>
          bnd (oMv (R 7) r108.2) fun r109 =>
          bnd (oNilCheck r109.1 r109.2) fun r110 =>
          bnd (faO 6 r110.1 r110.2) fun r111 =>
          bnd (ldC r111.1 r111.2) fun r112 =>
          bnd (oMv (R 8) r112.2) fun r113 =>
          bnd (oBuiltin Tryz.prog .len #[192] 3 #[false] [r113.1] r113.2) fun r114 =>
          bnd (oBuildSlice Tryz.prog 69 1 [(0, r114.1)] r114.2) fun r115 =>
          bnd (aAppend Tryz.prog r115.2 #[69, 69] r112.1 r115.1) fun r116 =>
          bnd (oNilCheck r108.1 r116.2) fun r117 =>
          bnd (faO 6 r117.1 r117.2) fun r118 =>
          bnd (stV 1 r118.1 r116.1 r118.2) fun r119 =>
          bnd (oBin Tryz.prog .add 3 false true (R 34) (.int .i64 1) r119.2) fun r120 =>
          bnd (oMv r120.1 r120.2) fun r121 =>
          some (X.normal, (rput (rput (rput (rput (rput (rput (rput (rput (rput (rput (rput (rput (rput (rput (rput (rput (rput (rput (rput (rput (rput (rput (rput (rput (rput (rput (rput (rput (rput (rput (rput (rput (rput (rput (rput (rput (rput (rput (rput (rput (rput (rput (rput (rput (rput (rput (rput (rput (rput (rput (rput (rput (rput (rput (rput (rput (rput (rput (rput (rput (rput (rput (rput (rput (rput (rput (rput (rput (rput (rput (rput (rput (rput R (some 35) r36.1) (some 36) r37.1) (some 37) r38.1) (some 38) r39.1) (some 10) r40.1) (some 9) r41.1) (some 39) r43.1) (some 40) r44.1) (some 41) r45.1) (some 42) r46.1) (some 43) r47.1) (some 44) r48.1) (some 45) r49.1) (some 46) r50.1) (some 49) r55.1) (some 50) r56.1) (some 51) r57.1) (some 52) r58.1) (some 48) r59.1) (some 53) r60.1) (some 54) r61.1) (some 11) r62.1) (some 12) r63.1) (some 78) r64.1) (some 79) r65.1) (some 77) r66.1) (some 80) r67.1) (some 81) r68.1) (some 82) r69.1) (some 83) r70.1) (some 84) r71.1) (some 85) r72.1) (some 86) r73.1) (some 87) r74.1) (some 88) r75.1) (some 89) r76.1) (some 90) r77.1) (some 91) r78.1) (some 92) r79.1) (some 93) r80.1) (some 95) r85.1) (some 96) r86.1) (some 97) r87.1) (some 98) r89.1) (some 99) r90.1) (some 100) r91.1) (some 101) r92.1) (some 102) r93.1) (some 103) r94.1) (some 104) r95.1) (some 13) r96.1) (some 105) r97.1) (some 106) r98.1) (some 107) r99.1) (some 108) r100.1) (some 109) r101.1) (some 110) r102.1) (some 111) r103.1) (some 112) r105.1) (some 113) r106.1) (some 140) r108.1) (some 141) r109.1) (some 142) r110.1) (some 143) r111.1) (some 144) r112.1) (some 145) r113.1) (some 146) r114.1) (some 147) r115.1) (some 148) r116.1) (some 149) r117.1) (some 150) r118.1) (some 151) r120.1) (some 34) r121.1), r121.2)) none)) (
        bnd (oMv r63.1 r66.2) fun r122 =>
        bnd (oMv r122.1 r122.2) fun r123 =>
        bnd (bIf (wnt r123.1 false) (faO 0 r40.1 r123.2) (some (undef, r123.2))) fun r124 =>
        bnd (bIf (wnt r123.1 false) (ldC r124.1 r124.2) (some (undef, r124.2))) fun r125 =>
        bnd (bIf (wnt r123.1 false) (oMv (R 7) r125.2) (some (undef, r125.2))) fun r126 =>
        bnd (bIf (wnt r123.1 false) (oNilCheck r126.1 r126.2) (some (undef, r126.2))) fun r127 =>
        bnd (bIf (wnt r123.1 false) (faO 5 r127.1 r127.2) (some (undef, r127.2))) fun r128 =>
        bnd (bIf (wnt r123.1 false) (ldC r128.1 r128.2) (some (undef, r128.2))) fun r129 =>
        bnd (bIf (wnt r123.1 false) (oBuiltin Tryz.prog .len #[89] 3 #[false] [r129.1] r129.2) (some (undef, r129.2))) fun r130 =>
        bnd (bIf (wnt r123.1 false) (oBin Tryz.prog .add 3 false true r130.1 (.int .i64 1) r130.2) (some (undef, r130.2))) fun r131 =>
        bnd (bIf (wnt r123.1 false) (oBin Tryz.prog .neq 3 false false r125.1 r131.1 r131.2) (some (undef, r131.2))) fun r132 =>
        bnd (oPick r123.1 (.bool true) r132.1 r132.2) fun r133 =>
        bnd (oMv r133.1 r133.2) fun r134 =>
        bnd (bIf (wnt r134.1 false) (faO 15 r40.1 r134.2) (some (undef, r134.2))) fun r135 =>
        bnd (bIf (wnt r134.1 false) (ldA 9 r135.1 r135.2) (some (undef, r135.2))) fun r136 =>
        bnd (bIf (wnt r134.1 false) (oBuild Tryz.prog 119 [] r136.2) (some (undef, r136.2))) fun r137 =>
        bnd (bIf (wnt r134.1 false) (oBin Tryz.prog .neq 119 false false r136.1 r137.1 r137.2) (some (undef, r137.2))) fun r138 =>
        bnd (oPick r134.1 (.bool true) r138.1 r138.2) fun r139 =>
        bnd (oMv r139.1 r139.2) fun r140 =>
        bnd (bIf (wnt r140.1 false) (faO 3 r40.1 r140.2) (some (undef, r140.2))) fun r141 =>
        bnd (bIf (wnt r140.1 false) (ldA 12 r141.1 r141.2) (some (undef, r141.2))) fun r142 =>
        bnd (bIf (wnt r140.1 false) (call (fnV 162) [r142.1] r142.2) (some (undef, r142.2))) fun r143 =>
        bnd (bIf (wnt r140.1 false) (oBin Tryz.prog .neq 29 false true r143.1 (.int .i64 0) r143.2) (some (undef, r143.2))) fun r144 =>
        bnd (oPick r140.1 (.bool true) r144.1 r144.2) fun r145 =>
        bnd (oMv r145.1 r145.2) fun r146 =>
        vIf r146.1 (
          bnd (oMv r41.1 r146.2) fun r147 =>
          bnd (oMv (.pointer none) r147.2) fun r148 =>
          bnd (oMv r147.1 r148.2) fun r149 =>
          bnd (oMv (.int .i64 6) r149.2) fun r150 =>
          some (X.ret, (rput (rput (rput (rput (rput (rput (rput (rput (rput (rput (rput (rput (rput (rput (rput (rput (rput (rput (rput (rput (rput (rput (rput (rput (rput (rput (rput (rput (rput (rput (rput (rput (rput (rput (rput (rput (rput (rput (rput (rput (rput (rput (rput (rput (rput (rput (rput (rput (rput (rput (rput (rput (rput (rput (rput R (some 35) r36.1) (some 36) r37.1) (some 37) r38.1) (some 38) r39.1) (some 10) r40.1) (some 9) r41.1) (some 39) r43.1) (some 40) r44.1) (some 41) r45.1) (some 42) r46.1) (some 43) r47.1) (some 44) r48.1) (some 45) r49.1) (some 46) r50.1) (some 49) r55.1) (some 50) r56.1) (some 51) r57.1) (some 52) r58.1) (some 48) r59.1) (some 53) r60.1) (some 54) r61.1) (some 11) r62.1) (some 12) r63.1) (some 78) r64.1) (some 79) r65.1) (some 77) r66.1) (some 115) r122.1) (some 116) r123.1) (some 117) r124.1) (some 118) r125.1) (some 119) r126.1) (some 120) r127.1) (some 121) r128.1) (some 122) r129.1) (some 123) r130.1) (some 124) r131.1) (some 125) r132.1) (some 126) r133.1) (some 127) r134.1) (some 128) r135.1) (some 129) r136.1) (some 130) r137.1) (some 131) r138.1) (some 132) r139.1) (some 133) r140.1) (some 134) r141.1) (some 135) r142.1) (some 136) r143.1) (some 137) r144.1) (some 138) r145.1) (some 114) r146.1) (some 139) r147.1) (some 2) r148.1) (some 3) r149.1) (some 4) r150.1), r150.2)) (
          bnd (oMv (R 8) r146.2) fun r151 =>
          bnd (faO 1 r40.1 r151.2) fun r152 =>
          bnd (ldC r152.1 r152.2) fun r153 =>
          bnd (faO 0 r40.1 r153.2) fun r154 =>
          bnd (ldC r154.1 r154.2) fun r155 =>
          bnd (oMapUpdate Tryz.prog 192 r151.1 r153.1 r155.1 r155.2) fun r156 =>
          bnd (oMv (R 7) r156.2) fun r157 =>
          bnd (oMv (R 7) r157.2) fun r158 =>
          bnd (oNilCheck r158.1 r158.2) fun r159 =>
          bnd (faO 5 r159.1 r159.2) fun r160 =>
          bnd (ldC r160.1 r160.2) fun r161 =>
          bnd (faO 0 r40.1 r161.2) fun r162 =>
          bnd (ldC r162.1 r162.2) fun r163 =>
          bnd (faO 1 r40.1 r163.2) fun r164 =>
          bnd (ldC r164.1 r164.2) fun r165 =>
          bnd (oMv r41.1 r165.2) fun r166 =>
          bnd (faO 3 r40.1 r166.2) fun r167 =>
          bnd (ldA 12 r167.1 r167.2) fun r168 =>
          bnd (oBuild Tryz.prog 176 [(0, r163.1), (1, r165.1), (2, r166.1), (3, (.int .i64 (-1))), (4, r168.1)] r168.2) fun r169 =>
          bnd (oBuildSlice Tryz.prog 89 1 [(0, r169.1)] r169.2) fun r170 =>
          bnd (aAppend Tryz.prog r170.2 #[89, 89] r161.1 r170.1) fun r171 =>
          bnd (oNilCheck r157.1 r171.2) fun r172 =>
          bnd (faO 5 r172.1 r172.2) fun r173 =>
          bnd (stV 1 r173.1 r171.1 r173.2) fun r174 =>
          bnd (oMv (R 7) r174.2) fun r175 =>
          bnd (oMv (R 7) r175.2) fun r176 =>
          bnd (oNilCheck r176.1 r176.2) fun r177 =>
          bnd (faO 6 r177.1 r177.2) fun r178 =>
          bnd (ldC r178.1 r178.2) fun r179 =>
          bnd (oMv (R 8) r179.2) fun r180 =>
          bnd (oBuiltin Tryz.prog .len #[192] 3 #[false] [r180.1] r180.2) fun r181 =>
          bnd (oBuildSlice Tryz.prog 69 1 [(0, r181.1)] r181.2) fun r182 =>
          bnd (aAppend Tryz.prog r182.2 #[69, 69] r179.1 r182.1) fun r183 =>
          bnd (oNilCheck r175.1 r183.2) fun r184 =>
          bnd (faO 6 r184.1 r184.2) fun r185 =>
          bnd (stV 1 r185.1 r183.1 r185.2) fun r186 =>
          bnd (oBin Tryz.prog .add 3 false true (R 34) (.int .i64 1) r186.2) fun r187 =>
          bnd (oMv r187.1 r187.2) fun r188 =>
          some (X.normal, (rput (rput (rput (rput (rput (rput (rput (rput (rput (rput (rput (rput (rput (rput (rput (rput (rput (rput (rput (rput (rput (rput (rput (rput (rput (rput (rput (rput (rput (rput (rput (rput (rput (rput (rput (rput (rput (rput (rput (rput (rput (rput (rput (rput (rput (rput (rput (rput (rput (rput (rput (rput (rput (rput (rput (rput (rput (rput (rput (rput (rput (rput (rput (rput (rput (rput (rput (rput (rput (rput (rput (rput (rput (rput (rput (rput (rput (rput (rput (rput (rput (rput (rput (rput (rput (rput R (some 35) r36.1) (some 36) r37.1) (some 37) r38.1) (some 38) r39.1) (some 10) r40.1) (some 9) r41.1) (some 39) r43.1) (some 40) r44.1) (some 41) r45.1) (some 42) r46.1) (some 43) r47.1) (some 44) r48.1) (some 45) r49.1) (some 46) r50.1) (some 49) r55.1) (some 50) r56.1) (some 51) r57.1) (some 52) r58.1) (some 48) r59.1) (some 53) r60.1) (some 54) r61.1) (some 11) r62.1) (some 12) r63.1) (some 78) r64.1) (some 79) r65.1) (some 77) r66.1) (some 115) r122.1) (some 116) r123.1) (some 117) r124.1) (some 118) r125.1) (some 119) r126.1) (some 120) r127.1) (some 121) r128.1) (some 122) r129.1) (some 123) r130.1) (some 124) r131.1) (some 125) r132.1) (some 126) r133.1) (some 127) r134.1) (some 128) r135.1) (some 129) r136.1) (some 130) r137.1) (some 131) r138.1) (some 132) r139.1) (some 133) r140.1) (some 134) r141.1) (some 135) r142.1) (some 136) r143.1) (some 137) r144.1) (some 138) r145.1) (some 114) r146.1) (some 55) r151.1) (some 56) r152.1) (some 57) r153.1) (some 58) r154.1) (some 59) r155.1) (some 60) r157.1) (some 61) r158.1) (some 62) r159.1) (some 63) r160.1) (some 64) r161.1) (some 65) r162.1) (some 66) r163.1) (some 67) r164.1) (some 68) r165.1) (some 69) r166.1) (some 70) r167.1) (some 71) r168.1) (some 72) r169.1) (some 73) r170.1) (some 74) r171.1) (some 75) r172.1) (some 76) r173.1) (some 140) r175.1) (some 141) r176.1) (some 142) r177.1) (some 143) r178.1) (some 144) r179.1) (some 145) r180.1) (some 146) r181.1) (some 147) r182.1) (some 148) r183.1) (some 149) r184.1) (some 150) r185.1) (some 151) r187.1) (some 34) r188.1), r188.2))))) (
    some (X.exit 0, (rput R (some 35) r36.1), r36.2))
noncomputable def history_read (call : Eng.Callee) (x0 : Value) (W : AW) : Option (Value × AW) :=
  bnd (oBox x0 W) fun r1 =>
  bnd (oMv (.pointer none) r1.2) fun r2 =>
  bnd (oMv (.int .i64 0) r2.2) fun r3 =>
  bnd (oMv (.int .i64 0) r3.2) fun r4 =>
  bnd (faO 0 r1.1 r4.2) fun r5 =>
  bnd (ldA 4 r5.1 r5.2) fun r6 =>
  bnd (call (fnV 129) [r6.1] r6.2) fun r7 =>
  bnd (oMv r7.1 r7.2) fun r8 =>
  bnd (oExtract r8.1 0 r8.2) fun r9 =>
  bnd (oExtract r8.1 1 r9.2) fun r10 =>
  bnd (oMv r9.1 r10.2) fun r11 =>
  bnd (oMv r10.1 r11.2) fun r12 =>
  bnd (oMv r12.1 r12.2) fun r13 =>
  bnd (oBin Tryz.prog .neq 29 false true r13.1 (.int .i64 0) r13.2) fun r14 =>
  vIf r14.1 (
    bnd (oMv r12.1 r14.2) fun r15 =>
    bnd (oMv (.pointer none) r15.2) fun r16 =>
    bnd (oMv (.int .i64 (-1)) r16.2) fun r17 =>
    bnd (oMv r15.1 r17.2) fun r18 =>
    oRes Tryz.prog [(r16.1, none), (r17.1, none), (r18.1, none)] r18.2) (
    bnd (faO 4 r1.1 r14.2) fun r19 =>
    bnd (ldC r19.1 r19.2) fun r20 =>
    bnd (oBuiltin Tryz.prog .len #[80] 3 #[false] [r20.1] r20.2) fun r21 =>
    bnd (oBin Tryz.prog .gtr 3 false true r21.1 (.int .i64 400) r21.2) fun r22 =>
    vIf r22.1 (
      bnd (oMv (.pointer none) r22.2) fun r23 =>
      bnd (oMv (.int .i64 (-1)) r23.2) fun r24 =>
      bnd (oMv (.int .i64 3) r24.2) fun r25 =>
      oRes Tryz.prog [(r23.1, none), (r24.1, none), (r25.1, none)] r25.2) (
      bnd (ldA 5 r1.1 r22.2) fun r26 =>
      bnd (oBuild Tryz.prog 184 [(0, r26.1)] r26.2) fun r27 =>
      bnd (oBox r27.1 r27.2) fun r28 =>
      bnd (oMv r28.1 r28.2) fun r29 =>
      bnd (oMkMap Tryz.prog 192 none r29.2) fun r30 =>
      bnd (oMv r30.1 r30.2) fun r31 =>
      bnd (faO 4 r1.1 r31.2) fun r32 =>
      bnd (ldC r32.1 r32.2) fun r33 =>
      bnd (oBuiltin Tryz.prog .len #[80] 3 #[false] [r33.1] r33.2) fun r34 =>
      bnd (oMv (.int .i64 0) r34.2) fun r35 =>
      bnd (loopO (history_read_L1 call) (rput (rput (rput (rput (rput (rput (rput (rput (rput (rput (rput (rput (rput (rput (rput (rput (rput (rput (rput (rput (rput (rput (rput (rput (rput (rput (rput (rput (argGo 0 [x0] PlanTab.blank) (some 1) r1.1) (some 2) r2.1) (some 3) r3.1) (some 4) r4.1) (some 15) r5.1) (some 16) r6.1) (some 17) r7.1) (some 14) r8.1) (some 18) r9.1) (some 19) r10.1) (some 5) r11.1) (some 6) r12.1) (some 20) r13.1) (some 21) r14.1) (some 23) r19.1) (some 24) r20.1) (some 25) r21.1) (some 26) r22.1) (some 27) r26.1) (some 28) r27.1) (some 29) r28.1) (some 7) r29.1) (some 30) r30.1) (some 8) r31.1) (some 31) r32.1) (some 32) r33.1) (some 33) r34.1) (some 34) r35.1) r35.2) fun r189 =>
      kExit 0 r189.1 (
        bnd (oMv (r189.2.1 7) r189.2.2) fun r190 =>
        bnd (oMv r190.1 r190.2) fun r191 =>
        bnd (oMv (.int .i64 0) r191.2) fun r192 =>
        bnd (oMv (.int .i64 0) r192.2) fun r193 =>
        oRes Tryz.prog [(r191.1, none), (r192.1, none), (r193.1, none)] r193.2) (kRetX r189.1 (
        oRes Tryz.prog [((r189.2.1 2), none), ((r189.2.1 3), none), ((r189.2.1 4), none)] r189.2.2))))
theorem history_read_eq (call : Eng.Callee) (x0 : Value) (W : AW) : kFun Tryz.prog call 153 (cod 106) (rss 106) [x0] W = history_read call x0 W := by kernel_rfl
theorem history_read_om {x0 : Value} {W : AW} {r : Value × AW} (h : history_read omS x0 W = some r) : omS (.func (.func 106) #[] #[]) [x0] W = some (gc W r) := om_of (nt := 153) (n := 1) (by kernel_rfl) (by kernel_rfl) rfl ((history_read_eq omS x0 W).trans h)
noncomputable def ref15_Check_L1 (call : Eng.Callee) (R : Nat → Value) (W : AW) : Option LT :=
  bnd (oMv (R 4) W) fun r35 =>
  bnd (faO 3 (R 1) r35.2) fun r36 =>
  bnd (ldC r36.1 r36.2) fun r37 =>
  bnd (oBuiltin Tryz.prog .len #[22] 3 #[false] [r37.1] r37.2) fun r38 =>
  bnd (oBin Tryz.prog .lss 3 false false r35.1 r38.1 r38.2) fun r39 =>
  vIf r39.1 (
    bnd (ldA 4 (R 1) r39.2) fun r40 =>
    bnd (oMv (R 4) r40.2) fun r41 =>
    bnd (call (fnV 164) [r40.1, r41.1] r41.2) fun r42 =>
    bnd (oMv r42.1 r42.2) fun r43 =>
    bnd (oMv r43.1 r43.2) fun r44 =>
    bnd (oBin Tryz.prog .neq 29 false true r44.1 (.int .i64 0) r44.2) fun r45 =>
    vIf r45.1 (
      bnd (oMv (R 4) r45.2) fun r46 =>
      bnd (oMv r43.1 r46.2) fun r47 =>
      bnd (oMv r46.1 r47.2) fun r48 =>
      bnd (oMv r47.1 r48.2) fun r49 =>
      some (X.ret, (rput (rput (rput (rput (rput (rput (rput (rput (rput (rput (rput (rput (rput (rput (rput R (some 30) r35.1) (some 31) r36.1) (some 32) r37.1) (some 33) r38.1) (some 34) r39.1) (some 37) r40.1) (some 38) r41.1) (some 39) r42.1) (some 5) r43.1) (some 40) r44.1) (some 41) r45.1) (some 42) r46.1) (some 43) r47.1) (some 2) r48.1) (some 3) r49.1), r49.2)) (
      bnd (oMv (R 4) r45.2) fun r50 =>
      bnd (oBin Tryz.prog .add 3 false true r50.1 (.int .i64 1) r50.2) fun r51 =>
      bnd (oMv r51.1 r51.2) fun r52 =>
      some (X.normal, (rput (rput (rput (rput (rput (rput (rput (rput (rput (rput (rput (rput (rput (rput R (some 30) r35.1) (some 31) r36.1) (some 32) r37.1) (some 33) r38.1) (some 34) r39.1) (some 37) r40.1) (some 38) r41.1) (some 39) r42.1) (some 5) r43.1) (some 40) r44.1) (some 41) r45.1) (some 35) r50.1) (some 36) r51.1) (some 4) r52.1), r52.2))) (
    some (X.exit 0, (rput (rput (rput (rput (rput R (some 30) r35.1) (some 31) r36.1) (some 32) r37.1) (some 33) r38.1) (some 34) r39.1), r39.2))
noncomputable def ref15_Check (call : Eng.Callee) (x0 : Value) (W : AW) : Option (Value × AW) :=
  bnd (oBox x0 W) fun r1 =>
  bnd (oMv (.int .i64 0) r1.2) fun r2 =>
  bnd (oMv (.int .i64 0) r2.2) fun r3 =>
  bnd (faO 0 r1.1 r3.2) fun r4 =>
  bnd (ldC r4.1 r4.2) fun r5 =>
  bnd (call (fnV 163) [r5.1, (.int .i64 1), (.int .i64 16)] r5.2) fun r6 =>
  bnd (oUn Tryz.prog .not r6.1 r6.2) fun r7 =>
  bnd (oMv r7.1 r7.2) fun r8 =>
  bnd (bIf (wnt r8.1 false) (faO 1 r1.1 r8.2) (some (undef, r8.2))) fun r9 =>
  bnd (bIf (wnt r8.1 false) (ldC r9.1 r9.2) (some (undef, r9.2))) fun r10 =>
  bnd (bIf (wnt r8.1 false) (call (fnV 163) [r10.1, (.int .i64 1), (.int .i64 1000000000)] r10.2) (some (undef, r10.2))) fun r11 =>
  bnd (bIf (wnt r8.1 false) (oUn Tryz.prog .not r11.1 r11.2) (some (undef, r11.2))) fun r12 =>
  bnd (oPick r8.1 (.bool true) r12.1 r12.2) fun r13 =>
  bnd (oMv r13.1 r13.2) fun r14 =>
  bnd (bIf (wnt r14.1 false) (faO 2 r1.1 r14.2) (some (undef, r14.2))) fun r15 =>
  bnd (bIf (wnt r14.1 false) (ldC r15.1 r15.2) (some (undef, r15.2))) fun r16 =>
  bnd (bIf (wnt r14.1 false) (call (fnV 163) [r16.1, (.int .i64 1), (.int .i64 1000000000)] r16.2) (some (undef, r16.2))) fun r17 =>
  bnd (bIf (wnt r14.1 false) (oUn Tryz.prog .not r17.1 r17.2) (some (undef, r17.2))) fun r18 =>
  bnd (oPick r14.1 (.bool true) r18.1 r18.2) fun r19 =>
  vIf r19.1 (
    bnd (oMv (.int .i64 (-1)) r19.2) fun r20 =>
    bnd (oMv (.int .i64 7) r20.2) fun r21 =>
    oRes Tryz.prog [(r20.1, none), (r21.1, none)] r21.2) (
    bnd (faO 3 r1.1 r19.2) fun r22 =>
    bnd (ldC r22.1 r22.2) fun r23 =>
    bnd (oBuiltin Tryz.prog .len #[22] 3 #[false] [r23.1] r23.2) fun r24 =>
    bnd (oBin Tryz.prog .eql 3 false true r24.1 (.int .i64 0) r24.2) fun r25 =>
    vIf r25.1 (
      bnd (oMv (.int .i64 (-1)) r25.2) fun r26 =>
      bnd (oMv (.int .i64 6) r26.2) fun r27 =>
      oRes Tryz.prog [(r26.1, none), (r27.1, none)] r27.2) (
      bnd (faO 3 r1.1 r25.2) fun r28 =>
      bnd (ldC r28.1 r28.2) fun r29 =>
      bnd (oBuiltin Tryz.prog .len #[22] 3 #[false] [r29.1] r29.2) fun r30 =>
      bnd (oBin Tryz.prog .gtr 3 false true r30.1 (.int .i64 8) r30.2) fun r31 =>
      vIf r31.1 (
        bnd (oMv (.int .i64 (-1)) r31.2) fun r32 =>
        bnd (oMv (.int .i64 3) r32.2) fun r33 =>
        oRes Tryz.prog [(r32.1, none), (r33.1, none)] r33.2) (
        bnd (oMv (.int .i64 0) r31.2) fun r34 =>
        bnd (loopO (ref15_Check_L1 call) (rput (rput (rput (rput (rput (rput (rput (rput (rput (rput (rput (rput (rput (rput (rput (rput (rput (rput (rput (rput (rput (rput (rput (rput (rput (rput (rput (rput (argGo 0 [x0] PlanTab.blank) (some 1) r1.1) (some 2) r2.1) (some 3) r3.1) (some 6) r4.1) (some 7) r5.1) (some 8) r6.1) (some 9) r7.1) (some 10) r8.1) (some 11) r9.1) (some 12) r10.1) (some 13) r11.1) (some 14) r12.1) (some 15) r13.1) (some 16) r14.1) (some 17) r15.1) (some 18) r16.1) (some 19) r17.1) (some 20) r18.1) (some 21) r19.1) (some 22) r22.1) (some 23) r23.1) (some 24) r24.1) (some 25) r25.1) (some 26) r28.1) (some 27) r29.1) (some 28) r30.1) (some 29) r31.1) (some 4) r34.1) r34.2) fun r53 =>
        kExit 0 r53.1 (
          bnd (ldA 4 (r53.2.1 1) r53.2.2) fun r54 =>
          bnd (call (fnV 152) [r54.1] r54.2) fun r55 =>
          bnd (oBuiltin Tryz.prog .len #[238] 3 #[false] [r55.1] r55.2) fun r56 =>
          bnd (oBin Tryz.prog .gtr 3 false true r56.1 (.int .i64 4096) r56.2) fun r57 =>
          vIf r57.1 (
            bnd (oMv (.int .i64 (-1)) r57.2) fun r58 =>
            bnd (oMv (.int .i64 3) r58.2) fun r59 =>
            oRes Tryz.prog [(r58.1, none), (r59.1, none)] r59.2) (
            bnd (oMv (.int .i64 0) r57.2) fun r60 =>
            bnd (oMv (.int .i64 0) r60.2) fun r61 =>
            oRes Tryz.prog [(r60.1, none), (r61.1, none)] r61.2)) (kRetX r53.1 (
          oRes Tryz.prog [((r53.2.1 2), none), ((r53.2.1 3), none)] r53.2.2)))))
theorem ref15_Check_eq (call : Eng.Callee) (x0 : Value) (W : AW) : kFun Tryz.prog call 48 (cod 108) (rss 108) [x0] W = ref15_Check call x0 W := by kernel_rfl
theorem ref15_Check_om {x0 : Value} {W : AW} {r : Value × AW} (h : ref15_Check omS x0 W = some r) : omS (.func (.func 108) #[] #[]) [x0] W = some (gc W r) := om_of (nt := 48) (n := 1) (by kernel_rfl) (by kernel_rfl) rfl ((ref15_Check_eq omS x0 W).trans h)
noncomputable def ref24_event_L1 (call : Eng.Callee) (R : Nat → Value) (W : AW) : Option LT :=
  bnd (oMv (R 8) W) fun r55 =>
  bnd (oMv (R 1) r55.2) fun r56 =>
  bnd (oBin Tryz.prog .lss 3 false false r55.1 r56.1 r56.2) fun r57 =>
  vIf r57.1 (
    bnd (oMv (R 0) r57.2) fun r58 =>
    bnd (oMv (R 8) r58.2) fun r59 =>
    bnd (ixS 24 r58.1 r59.1 r59.2) fun r60 =>
    bnd (faO 2 r60.1 r60.2) fun r61 =>
    bnd (ldC r61.1 r61.2) fun r62 =>
    vIf r62.1 (
      bnd (oMv (R 8) r62.2) fun r63 =>
      bnd (oBin Tryz.prog .add 3 false true r63.1 (.int .i64 1) r63.2) fun r64 =>
      bnd (oMv r64.1 r64.2) fun r65 =>
      some (X.normal, (rput (rput (rput (rput (rput (rput (rput (rput (rput (rput (rput R (some 54) r55.1) (some 55) r56.1) (some 56) r57.1) (some 59) r58.1) (some 60) r59.1) (some 61) r60.1) (some 62) r61.1) (some 63) r62.1) (some 57) r63.1) (some 58) r64.1) (some 8) r65.1), r65.2)) (
      bnd (oMv (R 7) r62.2) fun r66 =>
      bnd (oBin Tryz.prog .add 3 false true r66.1 (.int .i64 1) r66.2) fun r67 =>
      bnd (oMv r67.1 r67.2) fun r68 =>
      bnd (oMv (R 0) r68.2) fun r69 =>
      bnd (oMv (R 8) r69.2) fun r70 =>
      bnd (ixS 24 r69.1 r70.1 r70.2) fun r71 =>
      bnd (faO 1 r71.1 r71.2) fun r72 =>
      bnd (ldC r72.1 r72.2) fun r73 =>
      bnd (faO 1 (R 5) r73.2) fun r74 =>
      bnd (ldC r74.1 r74.2) fun r75 =>
      bnd (oBin Tryz.prog .eql 3 false false r73.1 r75.1 r75.2) fun r76 =>
      bnd (oMv r76.1 r76.2) fun r77 =>
      bnd (bIf (wnt r77.1 true) (oMv (R 0) r77.2) (some (undef, r77.2))) fun r78 =>
      bnd (bIf (wnt r77.1 true) (oMv (R 1) r78.2) (some (undef, r78.2))) fun r79 =>
      bnd (bIf (wnt r77.1 true) (oMv (R 0) r79.2) (some (undef, r79.2))) fun r80 =>
      bnd (bIf (wnt r77.1 true) (oMv (R 8) r80.2) (some (undef, r80.2))) fun r81 =>
      bnd (bIf (wnt r77.1 true) (ixS 24 r80.1 r81.1 r81.2) (some (undef, r81.2))) fun r82 =>
      bnd (bIf (wnt r77.1 true) (faO 0 r82.1 r82.2) (some (undef, r82.2))) fun r83 =>
      bnd (bIf (wnt r77.1 true) (ldC r83.1 r83.2) (some (undef, r83.2))) fun r84 =>
      bnd (bIf (wnt r77.1 true) (call (fnV 166) [r78.1, r79.1, r84.1] r84.2) (some (undef, r84.2))) fun r85 =>
      bnd (bIf (wnt r77.1 true) (oBin Tryz.prog .lss 3 false true r85.1 (.int .i64 0) r85.2) (some (undef, r85.2))) fun r86 =>
      bnd (oPick r77.1 r86.1 (.bool false) r86.2) fun r87 =>
      vIf r87.1 (
        bnd (oMv (.int .i64 6) r87.2) fun r88 =>
        some (X.ret, (rput (rput (rput (rput (rput (rput (rput (rput (rput (rput (rput (rput (rput (rput (rput (rput (rput (rput (rput (rput (rput (rput (rput (rput (rput (rput (rput (rput (rput (rput (rput R (some 54) r55.1) (some 55) r56.1) (some 56) r57.1) (some 59) r58.1) (some 60) r59.1) (some 61) r60.1) (some 62) r61.1) (some 63) r62.1) (some 64) r66.1) (some 65) r67.1) (some 7) r68.1) (some 66) r69.1) (some 67) r70.1) (some 68) r71.1) (some 69) r72.1) (some 70) r73.1) (some 71) r74.1) (some 72) r75.1) (some 73) r76.1) (some 74) r77.1) (some 75) r78.1) (some 76) r79.1) (some 77) r80.1) (some 78) r81.1) (some 79) r82.1) (some 80) r83.1) (some 81) r84.1) (some 82) r85.1) (some 83) r86.1) (some 84) r87.1) (some 4) r88.1), r88.2)) (
        bnd (oMv (R 8) r87.2) fun r89 =>
        bnd (oBin Tryz.prog .add 3 false true r89.1 (.int .i64 1) r89.2) fun r90 =>
        bnd (oMv r90.1 r90.2) fun r91 =>
        some (X.normal, (rput (rput (rput (rput (rput (rput (rput (rput (rput (rput (rput (rput (rput (rput (rput (rput (rput (rput (rput (rput (rput (rput (rput (rput (rput (rput (rput (rput (rput (rput (rput (rput (rput R (some 54) r55.1) (some 55) r56.1) (some 56) r57.1) (some 59) r58.1) (some 60) r59.1) (some 61) r60.1) (some 62) r61.1) (some 63) r62.1) (some 64) r66.1) (some 65) r67.1) (some 7) r68.1) (some 66) r69.1) (some 67) r70.1) (some 68) r71.1) (some 69) r72.1) (some 70) r73.1) (some 71) r74.1) (some 72) r75.1) (some 73) r76.1) (some 74) r77.1) (some 75) r78.1) (some 76) r79.1) (some 77) r80.1) (some 78) r81.1) (some 79) r82.1) (some 80) r83.1) (some 81) r84.1) (some 82) r85.1) (some 83) r86.1) (some 84) r87.1) (some 57) r89.1) (some 58) r90.1) (some 8) r91.1), r91.2)))) (
    some (X.exit 0, (rput (rput (rput R (some 54) r55.1) (some 55) r56.1) (some 56) r57.1), r57.2))
noncomputable def ref24_event (call : Eng.Callee) (x0 x1 : Value) (W : AW) : Option (Value × AW) :=
  bnd (oMv (.int .i64 0) W) fun r1 =>
  bnd (oMv x0 r1.2) fun r2 =>
  bnd (oMv x1 r2.2) fun r3 =>
  bnd (ixS 24 r2.1 r3.1 r3.2) fun r4 =>
  bnd (ldA 24 r4.1 r4.2) fun r5 =>
  bnd (oAlloc Tryz.prog 121 r5.2) fun r6 =>
  bnd (stV 24 r6.1 r5.1 r6.2) fun r7 =>
  bnd (faO 1 r6.1 r7.2) fun r8 =>
  bnd (ldC r8.1 r8.2) fun r9 =>
  bnd (oBin Tryz.prog .lss 3 false true r9.1 (.int .i64 1) r9.2) fun r10 =>
  bnd (oMv r10.1 r10.2) fun r11 =>
  bnd (bIf (wnt r11.1 false) (faO 1 r6.1 r11.2) (some (undef, r11.2))) fun r12 =>
  bnd (bIf (wnt r11.1 false) (ldC r12.1 r12.2) (some (undef, r12.2))) fun r13 =>
  bnd (bIf (wnt r11.1 false) (oBin Tryz.prog .gtr 3 false true r13.1 (.int .i64 64) r13.2) (some (undef, r13.2))) fun r14 =>
  bnd (oPick r11.1 (.bool true) r14.1 r14.2) fun r15 =>
  vIf r15.1 (
    bnd (oMv (.int .i64 7) r15.2) fun r16 =>
    oRes Tryz.prog [(r16.1, none)] r16.2) (
    bnd (faO 2 r6.1 r15.2) fun r17 =>
    bnd (ldC r17.1 r17.2) fun r18 =>
    vIf r18.1 (
      bnd (oMv x0 r18.2) fun r19 =>
      bnd (oMv x1 r19.2) fun r20 =>
      bnd (faO 0 r6.1 r20.2) fun r21 =>
      bnd (ldC r21.1 r21.2) fun r22 =>
      bnd (call (fnV 165) [r19.1, r20.1, r22.1] r22.2) fun r23 =>
      bnd (oMv r23.1 r23.2) fun r24 =>
      bnd (oMv r24.1 r24.2) fun r25 =>
      bnd (oBin Tryz.prog .lss 3 false true r25.1 (.int .i64 0) r25.2) fun r26 =>
      bnd (oMv r26.1 r26.2) fun r27 =>
      bnd (bIf (wnt r27.1 false) (oMv x0 r27.2) (some (undef, r27.2))) fun r28 =>
      bnd (bIf (wnt r27.1 false) (oMv x1 r28.2) (some (undef, r28.2))) fun r29 =>
      bnd (bIf (wnt r27.1 false) (faO 0 r6.1 r29.2) (some (undef, r29.2))) fun r30 =>
      bnd (bIf (wnt r27.1 false) (ldC r30.1 r30.2) (some (undef, r30.2))) fun r31 =>
      bnd (bIf (wnt r27.1 false) (call (fnV 166) [r28.1, r29.1, r31.1] r31.2) (some (undef, r31.2))) fun r32 =>
      bnd (bIf (wnt r27.1 false) (oBin Tryz.prog .geq 3 false true r32.1 (.int .i64 0) r32.2) (some (undef, r32.2))) fun r33 =>
      bnd (oPick r27.1 (.bool true) r33.1 r33.2) fun r34 =>
      bnd (oMv r34.1 r34.2) fun r35 =>
      bnd (bIf (wnt r35.1 false) (oMv x0 r35.2) (some (undef, r35.2))) fun r36 =>
      bnd (bIf (wnt r35.1 false) (oMv r24.1 r36.2) (some (undef, r36.2))) fun r37 =>
      bnd (bIf (wnt r35.1 false) (ixS 24 r36.1 r37.1 r37.2) (some (undef, r37.2))) fun r38 =>
      bnd (bIf (wnt r35.1 false) (faO 1 r38.1 r38.2) (some (undef, r38.2))) fun r39 =>
      bnd (bIf (wnt r35.1 false) (ldC r39.1 r39.2) (some (undef, r39.2))) fun r40 =>
      bnd (bIf (wnt r35.1 false) (faO 1 r6.1 r40.2) (some (undef, r40.2))) fun r41 =>
      bnd (bIf (wnt r35.1 false) (ldC r41.1 r41.2) (some (undef, r41.2))) fun r42 =>
      bnd (bIf (wnt r35.1 false) (oBin Tryz.prog .neq 3 false false r40.1 r42.1 r42.2) (some (undef, r42.2))) fun r43 =>
      bnd (oPick r35.1 (.bool true) r43.1 r43.2) fun r44 =>
      bnd (oMv r44.1 r44.2) fun r45 =>
      bnd (bIf (wnt r45.1 false) (faO 3 r6.1 r45.2) (some (undef, r45.2))) fun r46 =>
      bnd (bIf (wnt r45.1 false) (ldA 12 r46.1 r46.2) (some (undef, r46.2))) fun r47 =>
      bnd (bIf (wnt r45.1 false) (oBuild Tryz.prog 117 [] r47.2) (some (undef, r47.2))) fun r48 =>
      bnd (bIf (wnt r45.1 false) (oBin Tryz.prog .neq 117 false false r47.1 r48.1 r48.2) (some (undef, r48.2))) fun r49 =>
      bnd (oPick r45.1 (.bool true) r49.1 r49.2) fun r50 =>
      vIf r50.1 (
        bnd (oMv (.int .i64 6) r50.2) fun r51 =>
        oRes Tryz.prog [(r51.1, none)] r51.2) (
        bnd (oMv (.int .i64 0) r50.2) fun r52 =>
        oRes Tryz.prog [(r52.1, none)] r52.2)) (
      bnd (oMv (.int .i64 0) r18.2) fun r53 =>
      bnd (oMv (.int .i64 0) r53.2) fun r54 =>
      bnd (loopO (ref24_event_L1 call) (rput (rput (rput (rput (rput (rput (rput (rput (rput (rput (rput (rput (rput (rput (rput (rput (rput (rput (argGo 0 [x0, x1] PlanTab.blank) (some 4) r1.1) (some 9) r2.1) (some 10) r3.1) (some 11) r4.1) (some 12) r5.1) (some 5) r6.1) (some 13) r8.1) (some 14) r9.1) (some 15) r10.1) (some 16) r11.1) (some 17) r12.1) (some 18) r13.1) (some 19) r14.1) (some 20) r15.1) (some 21) r17.1) (some 22) r18.1) (some 7) r53.1) (some 8) r54.1) r54.2) fun r92 =>
      kExit 0 r92.1 (
        bnd (faO 0 (r92.2.1 5) r92.2.2) fun r93 =>
        bnd (ldC r93.1 r93.2) fun r94 =>
        bnd (oMv (r92.2.1 7) r94.2) fun r95 =>
        bnd (oBin Tryz.prog .add 3 false true r95.1 (.int .i64 1) r95.2) fun r96 =>
        bnd (oBin Tryz.prog .neq 3 false false r94.1 r96.1 r96.2) fun r97 =>
        bnd (oMv r97.1 r97.2) fun r98 =>
        bnd (bIf (wnt r98.1 false) (faO 15 (r92.2.1 5) r98.2) (some (undef, r98.2))) fun r99 =>
        bnd (bIf (wnt r98.1 false) (ldA 9 r99.1 r99.2) (some (undef, r99.2))) fun r100 =>
        bnd (bIf (wnt r98.1 false) (oBuild Tryz.prog 119 [] r100.2) (some (undef, r100.2))) fun r101 =>
        bnd (bIf (wnt r98.1 false) (oBin Tryz.prog .neq 119 false false r100.1 r101.1 r101.2) (some (undef, r101.2))) fun r102 =>
        bnd (oPick r98.1 (.bool true) r102.1 r102.2) fun r103 =>
        bnd (oMv r103.1 r103.2) fun r104 =>
        bnd (bIf (wnt r104.1 false) (faO 3 (r92.2.1 5) r104.2) (some (undef, r104.2))) fun r105 =>
        bnd (bIf (wnt r104.1 false) (ldA 12 r105.1 r105.2) (some (undef, r105.2))) fun r106 =>
        bnd (bIf (wnt r104.1 false) (call (fnV 121) [r106.1] r106.2) (some (undef, r106.2))) fun r107 =>
        bnd (bIf (wnt r104.1 false) (oBin Tryz.prog .neq 29 false true r107.1 (.int .i64 0) r107.2) (some (undef, r107.2))) fun r108 =>
        bnd (oPick r104.1 (.bool true) r108.1 r108.2) fun r109 =>
        vIf r109.1 (
          bnd (oMv (.int .i64 6) r109.2) fun r110 =>
          oRes Tryz.prog [(r110.1, none)] r110.2) (
          bnd (oMv (.int .i64 0) r109.2) fun r111 =>
          oRes Tryz.prog [(r111.1, none)] r111.2)) (kRetX r92.1 (
        oRes Tryz.prog [((r92.2.1 4), none)] r92.2.2))))
theorem ref24_event_eq (call : Eng.Callee) (x0 x1 : Value) (W : AW) : kFun Tryz.prog call 102 (cod 109) (rss 109) [x0, x1] W = ref24_event call x0 x1 W := by kernel_rfl
theorem ref24_event_om {x0 x1 : Value} {W : AW} {r : Value × AW} (h : ref24_event omS x0 x1 W = some r) : omS (.func (.func 109) #[] #[]) [x0, x1] W = some (gc W r) := om_of (nt := 102) (n := 2) (by kernel_rfl) (by kernel_rfl) rfl ((ref24_event_eq omS x0 x1 W).trans h)
noncomputable def ref24_ops_L1 (call : Eng.Callee) (R : Nat → Value) (W : AW) : Option LT :=
  bnd (oMv (R 4) W) fun r5 =>
  bnd (faO 4 (R 1) r5.2) fun r6 =>
  bnd (ldC r6.1 r6.2) fun r7 =>
  bnd (oBuiltin Tryz.prog .len #[80] 3 #[false] [r7.1] r7.2) fun r8 =>
  bnd (oBin Tryz.prog .lss 3 false false r5.1 r8.1 r8.2) fun r9 =>
  vIf r9.1 (
    bnd (faO 4 (R 1) r9.2) fun r10 =>
    bnd (ldC r10.1 r10.2) fun r11 =>
    bnd (oMv (R 4) r11.2) fun r12 =>
    bnd (ixS 24 r11.1 r12.1 r12.2) fun r13 =>
    bnd (ldA 24 r13.1 r13.2) fun r14 =>
    bnd (oAlloc Tryz.prog 121 r14.2) fun r15 =>
    bnd (stV 24 r15.1 r14.1 r15.2) fun r16 =>
    bnd (faO 2 r15.1 r16.2) fun r17 =>
    bnd (ldC r17.1 r17.2) fun r18 =>
    vIf r18.1 (
      bnd (oMv (R 4) r18.2) fun r19 =>
      bnd (oBin Tryz.prog .add 3 false true r19.1 (.int .i64 1) r19.2) fun r20 =>
      bnd (oMv r20.1 r20.2) fun r21 =>
      some (X.normal, (rput (rput (rput (rput (rput (rput (rput (rput (rput (rput (rput (rput (rput (rput (rput (rput R (some 7) r5.1) (some 8) r6.1) (some 9) r7.1) (some 10) r8.1) (some 11) r9.1) (some 14) r10.1) (some 15) r11.1) (some 16) r12.1) (some 17) r13.1) (some 18) r14.1) (some 5) r15.1) (some 19) r17.1) (some 20) r18.1) (some 12) r19.1) (some 13) r20.1) (some 4) r21.1), r21.2)) (
      bnd (faO 0 r15.1 r18.2) fun r22 =>
      bnd (ldC r22.1 r22.2) fun r23 =>
      bnd (faO 1 r15.1 r23.2) fun r24 =>
      bnd (ldC r24.1 r24.2) fun r25 =>
      bnd (oMv (R 4) r25.2) fun r26 =>
      bnd (faO 4 (R 1) r26.2) fun r27 =>
      bnd (ldC r27.1 r27.2) fun r28 =>
      bnd (faO 4 (R 1) r28.2) fun r29 =>
      bnd (ldC r29.1 r29.2) fun r30 =>
      bnd (oBuiltin Tryz.prog .len #[80] 3 #[false] [r30.1] r30.2) fun r31 =>
      bnd (faO 0 r15.1 r31.2) fun r32 =>
      bnd (ldC r32.1 r32.2) fun r33 =>
      bnd (faO 3 r15.1 r33.2) fun r34 =>
      bnd (ldA 12 r34.1 r34.2) fun r35 =>
      bnd (oAlloc Tryz.prog 176 r35.2) fun r36 =>
      bnd (call (fnV 166) [r28.1, r31.1, r33.1] r36.2) fun r37 =>
      bIf (agV true (ldA 12 r34.1 r37.2) r35.1 && (agV true (ldC r24.1 r37.2) r25.1 && (agV true (ldC r22.1 r37.2) r23.1 && true))) (bnd (oBuild Tryz.prog 176 [(0, r23.1), (1, r25.1), (2, r26.1), (3, r37.1), (4, r35.1)] r37.2) fun r38 =>
      bnd (stV 25 r36.1 r38.1 r38.2) fun r39 =>
      bnd (faO 3 r36.1 r39.2) fun r40 =>
      bnd (ldC r40.1 r40.2) fun r41 =>
      bnd (oBin Tryz.prog .geq 3 false true r41.1 (.int .i64 0) r41.2) fun r42 =>
      vIf r42.1 (
        bnd (faO 4 (R 1) r42.2) fun r43 =>
        bnd (ldC r43.1 r43.2) fun r44 =>
        bnd (faO 3 r36.1 r44.2) fun r45 =>
        bnd (ldC r45.1 r45.2) fun r46 =>
        bnd (ixS 24 r44.1 r46.1 r46.2) fun r47 =>
        bnd (faO 15 r47.1 r47.2) fun r48 =>
        bnd (ldA 9 r48.1 r48.2) fun r49 =>
        bnd (faO 16 r36.1 r49.2) fun r50 =>
        bnd (stV 9 r50.1 r49.1 r50.2) fun r51 =>
        bnd (oMv (R 3) r51.2) fun r52 =>
        bnd (ldA 25 r36.1 r52.2) fun r53 =>
        bnd (oBuildSlice Tryz.prog 89 1 [(0, r53.1)] r53.2) fun r54 =>
        bnd (aAppend Tryz.prog r54.2 #[89, 89] r52.1 r54.1) fun r55 =>
        bnd (oMv r55.1 r55.2) fun r56 =>
        bnd (oMv (R 4) r56.2) fun r57 =>
        bnd (oBin Tryz.prog .add 3 false true r57.1 (.int .i64 1) r57.2) fun r58 =>
        bnd (oMv r58.1 r58.2) fun r59 =>
        some (X.normal, (rput (rput (rput (rput (rput (rput (rput (rput (rput (rput (rput (rput (rput (rput (rput (rput (rput (rput (rput (rput (rput (rput (rput (rput (rput (rput (rput (rput (rput (rput (rput (rput (rput (rput (rput (rput (rput (rput (rput (rput (rput (rput (rput (rput (rput (rput (rput (rput (rput R (some 7) r5.1) (some 8) r6.1) (some 9) r7.1) (some 10) r8.1) (some 11) r9.1) (some 14) r10.1) (some 15) r11.1) (some 16) r12.1) (some 17) r13.1) (some 18) r14.1) (some 5) r15.1) (some 19) r17.1) (some 20) r18.1) (some 21) r22.1) (some 22) r23.1) (some 23) r24.1) (some 24) r25.1) (some 25) r26.1) (some 26) r27.1) (some 27) r28.1) (some 28) r29.1) (some 29) r30.1) (some 30) r31.1) (some 31) r32.1) (some 32) r33.1) (some 34) r34.1) (some 35) r35.1) (some 6) r36.1) (some 33) r37.1) (some 36) r38.1) (some 37) r40.1) (some 38) r41.1) (some 39) r42.1) (some 40) r43.1) (some 41) r44.1) (some 42) r45.1) (some 43) r46.1) (some 44) r47.1) (some 45) r48.1) (some 46) r49.1) (some 47) r50.1) (some 48) r52.1) (some 49) r53.1) (some 50) r54.1) (some 51) r55.1) (some 3) r56.1) (some 12) r57.1) (some 13) r58.1) (some 4) r59.1), r59.2)) (
        bnd (oMv (R 3) r42.2) fun r60 =>
        bnd (ldA 25 r36.1 r60.2) fun r61 =>
        bnd (oBuildSlice Tryz.prog 89 1 [(0, r61.1)] r61.2) fun r62 =>
        bnd (aAppend Tryz.prog r62.2 #[89, 89] r60.1 r62.1) fun r63 =>
        bnd (oMv r63.1 r63.2) fun r64 =>
        bnd (oMv (R 4) r64.2) fun r65 =>
        bnd (oBin Tryz.prog .add 3 false true r65.1 (.int .i64 1) r65.2) fun r66 =>
        bnd (oMv r66.1 r66.2) fun r67 =>
        some (X.normal, (rput (rput (rput (rput (rput (rput (rput (rput (rput (rput (rput (rput (rput (rput (rput (rput (rput (rput (rput (rput (rput (rput (rput (rput (rput (rput (rput (rput (rput (rput (rput (rput (rput (rput (rput (rput (rput (rput (rput (rput (rput R (some 7) r5.1) (some 8) r6.1) (some 9) r7.1) (some 10) r8.1) (some 11) r9.1) (some 14) r10.1) (some 15) r11.1) (some 16) r12.1) (some 17) r13.1) (some 18) r14.1) (some 5) r15.1) (some 19) r17.1) (some 20) r18.1) (some 21) r22.1) (some 22) r23.1) (some 23) r24.1) (some 24) r25.1) (some 25) r26.1) (some 26) r27.1) (some 27) r28.1) (some 28) r29.1) (some 29) r30.1) (some 30) r31.1) (some 31) r32.1) (some 32) r33.1) (some 34) r34.1) (some 35) r35.1) (some 6) r36.1) (some 33) r37.1) (some 36) r38.1) (some 37) r40.1) (some 38) r41.1) (some 39) r42.1) (some 48) r60.1) (some 49) r61.1) (some 50) r62.1) (some 51) r63.1) (some 3) r64.1) (some 12) r65.1) (some 13) r66.1) (some 4) r67.1), r67.2))) none)) (
    some (X.exit 0, (rput (rput (rput (rput (rput R (some 7) r5.1) (some 8) r6.1) (some 9) r7.1) (some 10) r8.1) (some 11) r9.1), r9.2))
noncomputable def ref24_ops (call : Eng.Callee) (x0 : Value) (W : AW) : Option (Value × AW) :=
  bnd (oBox x0 W) fun r1 =>
  bnd (oMv (.slice none 0 0) r1.2) fun r2 =>
  bnd (oMv (.slice none 0 0) r2.2) fun r3 =>
  bnd (oMv (.int .i64 0) r3.2) fun r4 =>
  bnd (loopO (ref24_ops_L1 call) (rput (rput (rput (rput (argGo 0 [x0] PlanTab.blank) (some 1) r1.1) (some 2) r2.1) (some 3) r3.1) (some 4) r4.1) r4.2) fun r68 =>
  kExit 0 r68.1 (
    bnd (oMv (r68.2.1 3) r68.2.2) fun r69 =>
    bnd (oMv r69.1 r69.2) fun r70 =>
    oRes Tryz.prog [(r70.1, none)] r70.2) (none)
theorem ref24_ops_eq (call : Eng.Callee) (x0 : Value) (W : AW) : kFun Tryz.prog call 53 (cod 110) (rss 110) [x0] W = ref24_ops call x0 W := by kernel_rfl
theorem ref24_ops_om {x0 : Value} {W : AW} {r : Value × AW} (h : ref24_ops omS x0 W = some r) : omS (.func (.func 110) #[] #[]) [x0] W = some (gc W r) := om_of (nt := 53) (n := 1) (by kernel_rfl) (by kernel_rfl) rfl ((ref24_ops_eq omS x0 W).trans h)
noncomputable def ref22_Check (call : Eng.Callee) (x0 : Value) (W : AW) : Option (Value × AW) :=
  bnd (oBox x0 W) fun r1 =>
  bnd (oMv (.int .i64 0) r1.2) fun r2 =>
  bnd (faO 0 r1.1 r2.2) fun r3 =>
  bnd (ldC r3.1 r3.2) fun r4 =>
  bnd (oBuild Tryz.prog 117 [(0, r4.1)] r4.2) fun r5 =>
  bnd (oAlloc Tryz.prog 117 r5.2) fun r6 =>
  bnd (stV 12 r6.1 r5.1 r6.2) fun r7 =>
  bnd (faO 0 r1.1 r7.2) fun r8 =>
  bnd (ldC r8.1 r8.2) fun r9 =>
  bnd (oBin Tryz.prog .eql 3 false true r9.1 (.int .i64 1) r9.2) fun r10 =>
  bnd (oMv r10.1 r10.2) fun r11 =>
  vIf r11.1 (
    bnd (faO 1 r1.1 r11.2) fun r12 =>
    bnd (ldC r12.1 r12.2) fun r13 =>
    bnd (faO 1 r6.1 r13.2) fun r14 =>
    bnd (stV 1 r14.1 r13.1 r14.2) fun r15 =>
    bnd (ldA 12 r6.1 r15.2) fun r16 =>
    bnd (ldA 12 r1.1 r16.2) fun r17 =>
    bnd (oBin Tryz.prog .neq 117 false false r16.1 r17.1 r17.2) fun r18 =>
    vIf r18.1 (
      bnd (oMv (.int .i64 2) r18.2) fun r19 =>
      oRes Tryz.prog [(r19.1, none)] r19.2) (
      bnd (oMv (.int .i64 0) r18.2) fun r20 =>
      oRes Tryz.prog [(r20.1, none)] r20.2)) (
    bnd (oBin Tryz.prog .eql 3 false true r9.1 (.int .i64 2) r11.2) fun r21 =>
    bnd (oMv r21.1 r21.2) fun r22 =>
    vIf r22.1 (
      vIf r22.1 (
        bnd (faO 1 r1.1 r22.2) fun r23 =>
        bnd (ldC r23.1 r23.2) fun r24 =>
        bnd (faO 2 r1.1 r24.2) fun r25 =>
        bnd (ldC r25.1 r25.2) fun r26 =>
        bnd (faO 3 r1.1 r26.2) fun r27 =>
        bnd (ldC r27.1 r27.2) fun r28 =>
        bnd (faO 1 r6.1 r28.2) fun r29 =>
        bnd (stV 1 r29.1 r24.1 r29.2) fun r30 =>
        bIf (agV true (ldC r27.1 r30.2) r28.1 && (agV true (ldC r25.1 r30.2) r26.1 && true)) (bnd (faO 2 r6.1 r30.2) fun r31 =>
        bnd (stV 1 r31.1 r26.1 r31.2) fun r32 =>
        bIf (agV true (ldC r27.1 r32.2) r28.1 && true) (bnd (faO 3 r6.1 r32.2) fun r33 =>
        bnd (stV 1 r33.1 r28.1 r33.2) fun r34 =>
        bnd (ldA 12 r6.1 r34.2) fun r35 =>
        bnd (ldA 12 r1.1 r35.2) fun r36 =>
        bnd (oBin Tryz.prog .neq 117 false false r35.1 r36.1 r36.2) fun r37 =>
        vIf r37.1 (
          bnd (oMv (.int .i64 2) r37.2) fun r38 =>
          oRes Tryz.prog [(r38.1, none)] r38.2) (
          bnd (oMv (.int .i64 0) r37.2) fun r39 =>
          oRes Tryz.prog [(r39.1, none)] r39.2)) none) none) (
        bnd (oBin Tryz.prog .eql 3 false true r9.1 (.int .i64 3) r22.2) fun r40 =>
        bnd (oMv r40.1 r40.2) fun r41 =>
        vIf r41.1 (
          bnd (faO 1 r1.1 r41.2) fun r42 =>
          bnd (ldC r42.1 r42.2) fun r43 =>
          bnd (faO 2 r1.1 r43.2) fun r44 =>
          bnd (ldC r44.1 r44.2) fun r45 =>
          bnd (faO 4 r1.1 r45.2) fun r46 =>
          bnd (ldC r46.1 r46.2) fun r47 =>
          bnd (faO 5 r1.1 r47.2) fun r48 =>
          bnd (ldC r48.1 r48.2) fun r49 =>
          bnd (faO 1 r6.1 r49.2) fun r50 =>
          bnd (stV 1 r50.1 r43.1 r50.2) fun r51 =>
          bIf (agV true (ldC r48.1 r51.2) r49.1 && (agV true (ldC r46.1 r51.2) r47.1 && (agV true (ldC r44.1 r51.2) r45.1 && true))) (bnd (faO 2 r6.1 r51.2) fun r52 =>
          bnd (stV 1 r52.1 r45.1 r52.2) fun r53 =>
          bIf (agV true (ldC r48.1 r53.2) r49.1 && (agV true (ldC r46.1 r53.2) r47.1 && true)) (bnd (faO 4 r6.1 r53.2) fun r54 =>
          bnd (stV 1 r54.1 r47.1 r54.2) fun r55 =>
          bIf (agV true (ldC r48.1 r55.2) r49.1 && true) (bnd (faO 5 r6.1 r55.2) fun r56 =>
          bnd (stV 1 r56.1 r49.1 r56.2) fun r57 =>
          bnd (ldA 12 r6.1 r57.2) fun r58 =>
          bnd (ldA 12 r1.1 r58.2) fun r59 =>
          bnd (oBin Tryz.prog .neq 117 false false r58.1 r59.1 r59.2) fun r60 =>
          vIf r60.1 (
            bnd (oMv (.int .i64 2) r60.2) fun r61 =>
            oRes Tryz.prog [(r61.1, none)] r61.2) (
            bnd (oMv (.int .i64 0) r60.2) fun r62 =>
            oRes Tryz.prog [(r62.1, none)] r62.2)) none) none) none) (
          bnd (oBin Tryz.prog .eql 3 false true r9.1 (.int .i64 6) r41.2) fun r63 =>
          bnd (oMv r63.1 r63.2) fun r64 =>
          vIf r64.1 (
            bnd (faO 1 r1.1 r64.2) fun r65 =>
            bnd (ldC r65.1 r65.2) fun r66 =>
            bnd (faO 2 r1.1 r66.2) fun r67 =>
            bnd (ldC r67.1 r67.2) fun r68 =>
            bnd (faO 6 r1.1 r68.2) fun r69 =>
            bnd (ldC r69.1 r69.2) fun r70 =>
            bnd (faO 7 r1.1 r70.2) fun r71 =>
            bnd (ldA 4 r71.1 r71.2) fun r72 =>
            bnd (faO 1 r6.1 r72.2) fun r73 =>
            bnd (stV 1 r73.1 r66.1 r73.2) fun r74 =>
            bIf (agV true (ldA 4 r71.1 r74.2) r72.1 && (agV true (ldC r69.1 r74.2) r70.1 && (agV true (ldC r67.1 r74.2) r68.1 && true))) (bnd (faO 2 r6.1 r74.2) fun r75 =>
            bnd (stV 1 r75.1 r68.1 r75.2) fun r76 =>
            bIf (agV true (ldA 4 r71.1 r76.2) r72.1 && (agV true (ldC r69.1 r76.2) r70.1 && true)) (bnd (faO 6 r6.1 r76.2) fun r77 =>
            bnd (stV 1 r77.1 r70.1 r77.2) fun r78 =>
            bIf (agV true (ldA 4 r71.1 r78.2) r72.1 && true) (bnd (faO 7 r6.1 r78.2) fun r79 =>
            bnd (stV 4 r79.1 r72.1 r79.2) fun r80 =>
            bnd (ldA 12 r6.1 r80.2) fun r81 =>
            bnd (ldA 12 r1.1 r81.2) fun r82 =>
            bnd (oBin Tryz.prog .neq 117 false false r81.1 r82.1 r82.2) fun r83 =>
            vIf r83.1 (
              bnd (oMv (.int .i64 2) r83.2) fun r84 =>
              oRes Tryz.prog [(r84.1, none)] r84.2) (
              bnd (oMv (.int .i64 0) r83.2) fun r85 =>
              oRes Tryz.prog [(r85.1, none)] r85.2)) none) none) none) (
            bnd (oBin Tryz.prog .eql 3 false true r9.1 (.int .i64 7) r64.2) fun r86 =>
            bnd (oMv r86.1 r86.2) fun r87 =>
            vIf r87.1 (
              bnd (faO 1 r1.1 r87.2) fun r88 =>
              bnd (ldC r88.1 r88.2) fun r89 =>
              bnd (faO 2 r1.1 r89.2) fun r90 =>
              bnd (ldC r90.1 r90.2) fun r91 =>
              bnd (faO 7 r1.1 r91.2) fun r92 =>
              bnd (ldA 4 r92.1 r92.2) fun r93 =>
              bnd (faO 1 r6.1 r93.2) fun r94 =>
              bnd (stV 1 r94.1 r89.1 r94.2) fun r95 =>
              bIf (agV true (ldA 4 r92.1 r95.2) r93.1 && (agV true (ldC r90.1 r95.2) r91.1 && true)) (bnd (faO 2 r6.1 r95.2) fun r96 =>
              bnd (stV 1 r96.1 r91.1 r96.2) fun r97 =>
              bIf (agV true (ldA 4 r92.1 r97.2) r93.1 && true) (bnd (faO 7 r6.1 r97.2) fun r98 =>
              bnd (stV 4 r98.1 r93.1 r98.2) fun r99 =>
              bnd (ldA 12 r6.1 r99.2) fun r100 =>
              bnd (ldA 12 r1.1 r100.2) fun r101 =>
              bnd (oBin Tryz.prog .neq 117 false false r100.1 r101.1 r101.2) fun r102 =>
              vIf r102.1 (
                bnd (oMv (.int .i64 2) r102.2) fun r103 =>
                oRes Tryz.prog [(r103.1, none)] r103.2) (
                bnd (oMv (.int .i64 0) r102.2) fun r104 =>
                oRes Tryz.prog [(r104.1, none)] r104.2)) none) none) (
              bnd (oBin Tryz.prog .eql 3 false true r9.1 (.int .i64 9) r87.2) fun r105 =>
              bnd (oMv r105.1 r105.2) fun r106 =>
              vIf r106.1 (
                bnd (faO 7 r1.1 r106.2) fun r107 =>
                bnd (ldA 4 r107.1 r107.2) fun r108 =>
                bnd (faO 7 r6.1 r108.2) fun r109 =>
                bnd (stV 4 r109.1 r108.1 r109.2) fun r110 =>
                bnd (ldA 12 r6.1 r110.2) fun r111 =>
                bnd (ldA 12 r1.1 r111.2) fun r112 =>
                bnd (oBin Tryz.prog .neq 117 false false r111.1 r112.1 r112.2) fun r113 =>
                vIf r113.1 (
                  bnd (oMv (.int .i64 2) r113.2) fun r114 =>
                  oRes Tryz.prog [(r114.1, none)] r114.2) (
                  bnd (oMv (.int .i64 0) r113.2) fun r115 =>
                  oRes Tryz.prog [(r115.1, none)] r115.2)) (
                bnd (oBin Tryz.prog .eql 3 false true r9.1 (.int .i64 10) r106.2) fun r116 =>
                bnd (oMv r116.1 r116.2) fun r117 =>
                vIf r117.1 (
                  vIf r117.1 (
                    bnd (faO 1 r1.1 r117.2) fun r118 =>
                    bnd (ldC r118.1 r118.2) fun r119 =>
                    bnd (faO 2 r1.1 r119.2) fun r120 =>
                    bnd (ldC r120.1 r120.2) fun r121 =>
                    bnd (faO 4 r1.1 r121.2) fun r122 =>
                    bnd (ldC r122.1 r122.2) fun r123 =>
                    bnd (faO 1 r6.1 r123.2) fun r124 =>
                    bnd (stV 1 r124.1 r119.1 r124.2) fun r125 =>
                    bIf (agV true (ldC r122.1 r125.2) r123.1 && (agV true (ldC r120.1 r125.2) r121.1 && true)) (bnd (faO 2 r6.1 r125.2) fun r126 =>
                    bnd (stV 1 r126.1 r121.1 r126.2) fun r127 =>
                    bIf (agV true (ldC r122.1 r127.2) r123.1 && true) (bnd (faO 4 r6.1 r127.2) fun r128 =>
                    bnd (stV 1 r128.1 r123.1 r128.2) fun r129 =>
                    bnd (ldA 12 r6.1 r129.2) fun r130 =>
                    bnd (ldA 12 r1.1 r130.2) fun r131 =>
                    bnd (oBin Tryz.prog .neq 117 false false r130.1 r131.1 r131.2) fun r132 =>
                    vIf r132.1 (
                      bnd (oMv (.int .i64 2) r132.2) fun r133 =>
                      oRes Tryz.prog [(r133.1, none)] r133.2) (
                      bnd (oMv (.int .i64 0) r132.2) fun r134 =>
                      oRes Tryz.prog [(r134.1, none)] r134.2)) none) none) (
                    bnd (oBin Tryz.prog .eql 3 false true r9.1 (.int .i64 12) r117.2) fun r135 =>
                    bnd (oMv r135.1 r135.2) fun r136 =>
                    vIf r136.1 (
                      bnd (faO 11 r1.1 r136.2) fun r137 =>
                      bnd (ldC r137.1 r137.2) fun r138 =>
                      bnd (faO 11 r6.1 r138.2) fun r139 =>
                      bnd (stV 1 r139.1 r138.1 r139.2) fun r140 =>
                      bnd (ldA 12 r6.1 r140.2) fun r141 =>
                      bnd (ldA 12 r1.1 r141.2) fun r142 =>
                      bnd (oBin Tryz.prog .neq 117 false false r141.1 r142.1 r142.2) fun r143 =>
                      vIf r143.1 (
                        bnd (oMv (.int .i64 2) r143.2) fun r144 =>
                        oRes Tryz.prog [(r144.1, none)] r144.2) (
                        bnd (oMv (.int .i64 0) r143.2) fun r145 =>
                        oRes Tryz.prog [(r145.1, none)] r145.2)) (
                      bnd (oMv (.int .i64 2) r136.2) fun r146 =>
                      oRes Tryz.prog [(r146.1, none)] r146.2))) (
                  bnd (oBin Tryz.prog .eql 3 false true r9.1 (.int .i64 11) r117.2) fun r147 =>
                  bnd (oMv r147.1 r147.2) fun r148 =>
                  vIf r148.1 (
                    bnd (faO 1 r1.1 r148.2) fun r149 =>
                    bnd (ldC r149.1 r149.2) fun r150 =>
                    bnd (faO 2 r1.1 r150.2) fun r151 =>
                    bnd (ldC r151.1 r151.2) fun r152 =>
                    bnd (faO 4 r1.1 r152.2) fun r153 =>
                    bnd (ldC r153.1 r153.2) fun r154 =>
                    bnd (faO 1 r6.1 r154.2) fun r155 =>
                    bnd (stV 1 r155.1 r150.1 r155.2) fun r156 =>
                    bIf (agV true (ldC r153.1 r156.2) r154.1 && (agV true (ldC r151.1 r156.2) r152.1 && true)) (bnd (faO 2 r6.1 r156.2) fun r157 =>
                    bnd (stV 1 r157.1 r152.1 r157.2) fun r158 =>
                    bIf (agV true (ldC r153.1 r158.2) r154.1 && true) (bnd (faO 4 r6.1 r158.2) fun r159 =>
                    bnd (stV 1 r159.1 r154.1 r159.2) fun r160 =>
                    bnd (ldA 12 r6.1 r160.2) fun r161 =>
                    bnd (ldA 12 r1.1 r161.2) fun r162 =>
                    bnd (oBin Tryz.prog .neq 117 false false r161.1 r162.1 r162.2) fun r163 =>
                    vIf r163.1 (
                      bnd (oMv (.int .i64 2) r163.2) fun r164 =>
                      oRes Tryz.prog [(r164.1, none)] r164.2) (
                      bnd (oMv (.int .i64 0) r163.2) fun r165 =>
                      oRes Tryz.prog [(r165.1, none)] r165.2)) none) none) (
                    bnd (oBin Tryz.prog .eql 3 false true r9.1 (.int .i64 12) r148.2) fun r166 =>
                    bnd (oMv r166.1 r166.2) fun r167 =>
                    vIf r167.1 (
                      bnd (faO 11 r1.1 r167.2) fun r168 =>
                      bnd (ldC r168.1 r168.2) fun r169 =>
                      bnd (faO 11 r6.1 r169.2) fun r170 =>
                      bnd (stV 1 r170.1 r169.1 r170.2) fun r171 =>
                      bnd (ldA 12 r6.1 r171.2) fun r172 =>
                      bnd (ldA 12 r1.1 r172.2) fun r173 =>
                      bnd (oBin Tryz.prog .neq 117 false false r172.1 r173.1 r173.2) fun r174 =>
                      vIf r174.1 (
                        bnd (oMv (.int .i64 2) r174.2) fun r175 =>
                        oRes Tryz.prog [(r175.1, none)] r175.2) (
                        bnd (oMv (.int .i64 0) r174.2) fun r176 =>
                        oRes Tryz.prog [(r176.1, none)] r176.2)) (
                      bnd (oMv (.int .i64 2) r167.2) fun r177 =>
                      oRes Tryz.prog [(r177.1, none)] r177.2))))))))) (
      bnd (oBin Tryz.prog .eql 3 false true r9.1 (.int .i64 5) r22.2) fun r178 =>
      bnd (oMv r178.1 r178.2) fun r179 =>
      vIf r179.1 (
        vIf r179.1 (
          bnd (faO 1 r1.1 r179.2) fun r180 =>
          bnd (ldC r180.1 r180.2) fun r181 =>
          bnd (faO 2 r1.1 r181.2) fun r182 =>
          bnd (ldC r182.1 r182.2) fun r183 =>
          bnd (faO 3 r1.1 r183.2) fun r184 =>
          bnd (ldC r184.1 r184.2) fun r185 =>
          bnd (faO 1 r6.1 r185.2) fun r186 =>
          bnd (stV 1 r186.1 r181.1 r186.2) fun r187 =>
          bIf (agV true (ldC r184.1 r187.2) r185.1 && (agV true (ldC r182.1 r187.2) r183.1 && true)) (bnd (faO 2 r6.1 r187.2) fun r188 =>
          bnd (stV 1 r188.1 r183.1 r188.2) fun r189 =>
          bIf (agV true (ldC r184.1 r189.2) r185.1 && true) (bnd (faO 3 r6.1 r189.2) fun r190 =>
          bnd (stV 1 r190.1 r185.1 r190.2) fun r191 =>
          bnd (ldA 12 r6.1 r191.2) fun r192 =>
          bnd (ldA 12 r1.1 r192.2) fun r193 =>
          bnd (oBin Tryz.prog .neq 117 false false r192.1 r193.1 r193.2) fun r194 =>
          vIf r194.1 (
            bnd (oMv (.int .i64 2) r194.2) fun r195 =>
            oRes Tryz.prog [(r195.1, none)] r195.2) (
            bnd (oMv (.int .i64 0) r194.2) fun r196 =>
            oRes Tryz.prog [(r196.1, none)] r196.2)) none) none) (
          bnd (oBin Tryz.prog .eql 3 false true r9.1 (.int .i64 3) r179.2) fun r197 =>
          bnd (oMv r197.1 r197.2) fun r198 =>
          vIf r198.1 (
            bnd (faO 1 r1.1 r198.2) fun r199 =>
            bnd (ldC r199.1 r199.2) fun r200 =>
            bnd (faO 2 r1.1 r200.2) fun r201 =>
            bnd (ldC r201.1 r201.2) fun r202 =>
            bnd (faO 4 r1.1 r202.2) fun r203 =>
            bnd (ldC r203.1 r203.2) fun r204 =>
            bnd (faO 5 r1.1 r204.2) fun r205 =>
            bnd (ldC r205.1 r205.2) fun r206 =>
            bnd (faO 1 r6.1 r206.2) fun r207 =>
            bnd (stV 1 r207.1 r200.1 r207.2) fun r208 =>
            bIf (agV true (ldC r205.1 r208.2) r206.1 && (agV true (ldC r203.1 r208.2) r204.1 && (agV true (ldC r201.1 r208.2) r202.1 && true))) (bnd (faO 2 r6.1 r208.2) fun r209 =>
            bnd (stV 1 r209.1 r202.1 r209.2) fun r210 =>
            bIf (agV true (ldC r205.1 r210.2) r206.1 && (agV true (ldC r203.1 r210.2) r204.1 && true)) (bnd (faO 4 r6.1 r210.2) fun r211 =>
            bnd (stV 1 r211.1 r204.1 r211.2) fun r212 =>
            bIf (agV true (ldC r205.1 r212.2) r206.1 && true) (bnd (faO 5 r6.1 r212.2) fun r213 =>
            bnd (stV 1 r213.1 r206.1 r213.2) fun r214 =>
            bnd (ldA 12 r6.1 r214.2) fun r215 =>
            bnd (ldA 12 r1.1 r215.2) fun r216 =>
            bnd (oBin Tryz.prog .neq 117 false false r215.1 r216.1 r216.2) fun r217 =>
            vIf r217.1 (
              bnd (oMv (.int .i64 2) r217.2) fun r218 =>
              oRes Tryz.prog [(r218.1, none)] r218.2) (
              bnd (oMv (.int .i64 0) r217.2) fun r219 =>
              oRes Tryz.prog [(r219.1, none)] r219.2)) none) none) none) (
            bnd (oBin Tryz.prog .eql 3 false true r9.1 (.int .i64 6) r198.2) fun r220 =>
            bnd (oMv r220.1 r220.2) fun r221 =>
            vIf r221.1 (
              bnd (faO 1 r1.1 r221.2) fun r222 =>
              bnd (ldC r222.1 r222.2) fun r223 =>
              bnd (faO 2 r1.1 r223.2) fun r224 =>
              bnd (ldC r224.1 r224.2) fun r225 =>
              bnd (faO 6 r1.1 r225.2) fun r226 =>
              bnd (ldC r226.1 r226.2) fun r227 =>
              bnd (faO 7 r1.1 r227.2) fun r228 =>
              bnd (ldA 4 r228.1 r228.2) fun r229 =>
              bnd (faO 1 r6.1 r229.2) fun r230 =>
              bnd (stV 1 r230.1 r223.1 r230.2) fun r231 =>
              bIf (agV true (ldA 4 r228.1 r231.2) r229.1 && (agV true (ldC r226.1 r231.2) r227.1 && (agV true (ldC r224.1 r231.2) r225.1 && true))) (bnd (faO 2 r6.1 r231.2) fun r232 =>
              bnd (stV 1 r232.1 r225.1 r232.2) fun r233 =>
              bIf (agV true (ldA 4 r228.1 r233.2) r229.1 && (agV true (ldC r226.1 r233.2) r227.1 && true)) (bnd (faO 6 r6.1 r233.2) fun r234 =>
              bnd (stV 1 r234.1 r227.1 r234.2) fun r235 =>
              bIf (agV true (ldA 4 r228.1 r235.2) r229.1 && true) (bnd (faO 7 r6.1 r235.2) fun r236 =>
              bnd (stV 4 r236.1 r229.1 r236.2) fun r237 =>
              bnd (ldA 12 r6.1 r237.2) fun r238 =>
              bnd (ldA 12 r1.1 r238.2) fun r239 =>
              bnd (oBin Tryz.prog .neq 117 false false r238.1 r239.1 r239.2) fun r240 =>
              vIf r240.1 (
                bnd (oMv (.int .i64 2) r240.2) fun r241 =>
                oRes Tryz.prog [(r241.1, none)] r241.2) (
                bnd (oMv (.int .i64 0) r240.2) fun r242 =>
                oRes Tryz.prog [(r242.1, none)] r242.2)) none) none) none) (
              bnd (oBin Tryz.prog .eql 3 false true r9.1 (.int .i64 7) r221.2) fun r243 =>
              bnd (oMv r243.1 r243.2) fun r244 =>
              vIf r244.1 (
                bnd (faO 1 r1.1 r244.2) fun r245 =>
                bnd (ldC r245.1 r245.2) fun r246 =>
                bnd (faO 2 r1.1 r246.2) fun r247 =>
                bnd (ldC r247.1 r247.2) fun r248 =>
                bnd (faO 7 r1.1 r248.2) fun r249 =>
                bnd (ldA 4 r249.1 r249.2) fun r250 =>
                bnd (faO 1 r6.1 r250.2) fun r251 =>
                bnd (stV 1 r251.1 r246.1 r251.2) fun r252 =>
                bIf (agV true (ldA 4 r249.1 r252.2) r250.1 && (agV true (ldC r247.1 r252.2) r248.1 && true)) (bnd (faO 2 r6.1 r252.2) fun r253 =>
                bnd (stV 1 r253.1 r248.1 r253.2) fun r254 =>
                bIf (agV true (ldA 4 r249.1 r254.2) r250.1 && true) (bnd (faO 7 r6.1 r254.2) fun r255 =>
                bnd (stV 4 r255.1 r250.1 r255.2) fun r256 =>
                bnd (ldA 12 r6.1 r256.2) fun r257 =>
                bnd (ldA 12 r1.1 r257.2) fun r258 =>
                bnd (oBin Tryz.prog .neq 117 false false r257.1 r258.1 r258.2) fun r259 =>
                vIf r259.1 (
                  bnd (oMv (.int .i64 2) r259.2) fun r260 =>
                  oRes Tryz.prog [(r260.1, none)] r260.2) (
                  bnd (oMv (.int .i64 0) r259.2) fun r261 =>
                  oRes Tryz.prog [(r261.1, none)] r261.2)) none) none) (
                bnd (oBin Tryz.prog .eql 3 false true r9.1 (.int .i64 9) r244.2) fun r262 =>
                bnd (oMv r262.1 r262.2) fun r263 =>
                vIf r263.1 (
                  bnd (faO 7 r1.1 r263.2) fun r264 =>
                  bnd (ldA 4 r264.1 r264.2) fun r265 =>
                  bnd (faO 7 r6.1 r265.2) fun r266 =>
                  bnd (stV 4 r266.1 r265.1 r266.2) fun r267 =>
                  bnd (ldA 12 r6.1 r267.2) fun r268 =>
                  bnd (ldA 12 r1.1 r268.2) fun r269 =>
                  bnd (oBin Tryz.prog .neq 117 false false r268.1 r269.1 r269.2) fun r270 =>
                  vIf r270.1 (
                    bnd (oMv (.int .i64 2) r270.2) fun r271 =>
                    oRes Tryz.prog [(r271.1, none)] r271.2) (
                    bnd (oMv (.int .i64 0) r270.2) fun r272 =>
                    oRes Tryz.prog [(r272.1, none)] r272.2)) (
                  bnd (oBin Tryz.prog .eql 3 false true r9.1 (.int .i64 10) r263.2) fun r273 =>
                  bnd (oMv r273.1 r273.2) fun r274 =>
                  vIf r274.1 (
                    vIf r274.1 (
                      bnd (faO 1 r1.1 r274.2) fun r275 =>
                      bnd (ldC r275.1 r275.2) fun r276 =>
                      bnd (faO 2 r1.1 r276.2) fun r277 =>
                      bnd (ldC r277.1 r277.2) fun r278 =>
                      bnd (faO 4 r1.1 r278.2) fun r279 =>
                      bnd (ldC r279.1 r279.2) fun r280 =>
                      bnd (faO 1 r6.1 r280.2) fun r281 =>
                      bnd (stV 1 r281.1 r276.1 r281.2) fun r282 =>
                      bIf (agV true (ldC r279.1 r282.2) r280.1 && (agV true (ldC r277.1 r282.2) r278.1 && true)) (bnd (faO 2 r6.1 r282.2) fun r283 =>
                      bnd (stV 1 r283.1 r278.1 r283.2) fun r284 =>
                      bIf (agV true (ldC r279.1 r284.2) r280.1 && true) (bnd (faO 4 r6.1 r284.2) fun r285 =>
                      bnd (stV 1 r285.1 r280.1 r285.2) fun r286 =>
                      bnd (ldA 12 r6.1 r286.2) fun r287 =>
                      bnd (ldA 12 r1.1 r287.2) fun r288 =>
                      bnd (oBin Tryz.prog .neq 117 false false r287.1 r288.1 r288.2) fun r289 =>
                      vIf r289.1 (
                        bnd (oMv (.int .i64 2) r289.2) fun r290 =>
                        oRes Tryz.prog [(r290.1, none)] r290.2) (
                        bnd (oMv (.int .i64 0) r289.2) fun r291 =>
                        oRes Tryz.prog [(r291.1, none)] r291.2)) none) none) (
                      bnd (oBin Tryz.prog .eql 3 false true r9.1 (.int .i64 12) r274.2) fun r292 =>
                      bnd (oMv r292.1 r292.2) fun r293 =>
                      vIf r293.1 (
                        bnd (faO 11 r1.1 r293.2) fun r294 =>
                        bnd (ldC r294.1 r294.2) fun r295 =>
                        bnd (faO 11 r6.1 r295.2) fun r296 =>
                        bnd (stV 1 r296.1 r295.1 r296.2) fun r297 =>
                        bnd (ldA 12 r6.1 r297.2) fun r298 =>
                        bnd (ldA 12 r1.1 r298.2) fun r299 =>
                        bnd (oBin Tryz.prog .neq 117 false false r298.1 r299.1 r299.2) fun r300 =>
                        vIf r300.1 (
                          bnd (oMv (.int .i64 2) r300.2) fun r301 =>
                          oRes Tryz.prog [(r301.1, none)] r301.2) (
                          bnd (oMv (.int .i64 0) r300.2) fun r302 =>
                          oRes Tryz.prog [(r302.1, none)] r302.2)) (
                        bnd (oMv (.int .i64 2) r293.2) fun r303 =>
                        oRes Tryz.prog [(r303.1, none)] r303.2))) (
                    bnd (oBin Tryz.prog .eql 3 false true r9.1 (.int .i64 11) r274.2) fun r304 =>
                    bnd (oMv r304.1 r304.2) fun r305 =>
                    vIf r305.1 (
                      bnd (faO 1 r1.1 r305.2) fun r306 =>
                      bnd (ldC r306.1 r306.2) fun r307 =>
                      bnd (faO 2 r1.1 r307.2) fun r308 =>
                      bnd (ldC r308.1 r308.2) fun r309 =>
                      bnd (faO 4 r1.1 r309.2) fun r310 =>
                      bnd (ldC r310.1 r310.2) fun r311 =>
                      bnd (faO 1 r6.1 r311.2) fun r312 =>
                      bnd (stV 1 r312.1 r307.1 r312.2) fun r313 =>
                      bIf (agV true (ldC r310.1 r313.2) r311.1 && (agV true (ldC r308.1 r313.2) r309.1 && true)) (bnd (faO 2 r6.1 r313.2) fun r314 =>
                      bnd (stV 1 r314.1 r309.1 r314.2) fun r315 =>
                      bIf (agV true (ldC r310.1 r315.2) r311.1 && true) (bnd (faO 4 r6.1 r315.2) fun r316 =>
                      bnd (stV 1 r316.1 r311.1 r316.2) fun r317 =>
                      bnd (ldA 12 r6.1 r317.2) fun r318 =>
                      bnd (ldA 12 r1.1 r318.2) fun r319 =>
                      bnd (oBin Tryz.prog .neq 117 false false r318.1 r319.1 r319.2) fun r320 =>
                      vIf r320.1 (
                        bnd (oMv (.int .i64 2) r320.2) fun r321 =>
                        oRes Tryz.prog [(r321.1, none)] r321.2) (
                        bnd (oMv (.int .i64 0) r320.2) fun r322 =>
                        oRes Tryz.prog [(r322.1, none)] r322.2)) none) none) (
                      bnd (oBin Tryz.prog .eql 3 false true r9.1 (.int .i64 12) r305.2) fun r323 =>
                      bnd (oMv r323.1 r323.2) fun r324 =>
                      vIf r324.1 (
                        bnd (faO 11 r1.1 r324.2) fun r325 =>
                        bnd (ldC r325.1 r325.2) fun r326 =>
                        bnd (faO 11 r6.1 r326.2) fun r327 =>
                        bnd (stV 1 r327.1 r326.1 r327.2) fun r328 =>
                        bnd (ldA 12 r6.1 r328.2) fun r329 =>
                        bnd (ldA 12 r1.1 r329.2) fun r330 =>
                        bnd (oBin Tryz.prog .neq 117 false false r329.1 r330.1 r330.2) fun r331 =>
                        vIf r331.1 (
                          bnd (oMv (.int .i64 2) r331.2) fun r332 =>
                          oRes Tryz.prog [(r332.1, none)] r332.2) (
                          bnd (oMv (.int .i64 0) r331.2) fun r333 =>
                          oRes Tryz.prog [(r333.1, none)] r333.2)) (
                        bnd (oMv (.int .i64 2) r324.2) fun r334 =>
                        oRes Tryz.prog [(r334.1, none)] r334.2))))))))) (
        bnd (oBin Tryz.prog .eql 3 false true r9.1 (.int .i64 4) r179.2) fun r335 =>
        bnd (oMv r335.1 r335.2) fun r336 =>
        vIf r336.1 (
          vIf r336.1 (
            bnd (faO 1 r1.1 r336.2) fun r337 =>
            bnd (ldC r337.1 r337.2) fun r338 =>
            bnd (faO 2 r1.1 r338.2) fun r339 =>
            bnd (ldC r339.1 r339.2) fun r340 =>
            bnd (faO 3 r1.1 r340.2) fun r341 =>
            bnd (ldC r341.1 r341.2) fun r342 =>
            bnd (faO 1 r6.1 r342.2) fun r343 =>
            bnd (stV 1 r343.1 r338.1 r343.2) fun r344 =>
            bIf (agV true (ldC r341.1 r344.2) r342.1 && (agV true (ldC r339.1 r344.2) r340.1 && true)) (bnd (faO 2 r6.1 r344.2) fun r345 =>
            bnd (stV 1 r345.1 r340.1 r345.2) fun r346 =>
            bIf (agV true (ldC r341.1 r346.2) r342.1 && true) (bnd (faO 3 r6.1 r346.2) fun r347 =>
            bnd (stV 1 r347.1 r342.1 r347.2) fun r348 =>
            bnd (ldA 12 r6.1 r348.2) fun r349 =>
            bnd (ldA 12 r1.1 r349.2) fun r350 =>
            bnd (oBin Tryz.prog .neq 117 false false r349.1 r350.1 r350.2) fun r351 =>
            vIf r351.1 (
              bnd (oMv (.int .i64 2) r351.2) fun r352 =>
              oRes Tryz.prog [(r352.1, none)] r352.2) (
              bnd (oMv (.int .i64 0) r351.2) fun r353 =>
              oRes Tryz.prog [(r353.1, none)] r353.2)) none) none) (
            bnd (oBin Tryz.prog .eql 3 false true r9.1 (.int .i64 3) r336.2) fun r354 =>
            bnd (oMv r354.1 r354.2) fun r355 =>
            vIf r355.1 (
              bnd (faO 1 r1.1 r355.2) fun r356 =>
              bnd (ldC r356.1 r356.2) fun r357 =>
              bnd (faO 2 r1.1 r357.2) fun r358 =>
              bnd (ldC r358.1 r358.2) fun r359 =>
              bnd (faO 4 r1.1 r359.2) fun r360 =>
              bnd (ldC r360.1 r360.2) fun r361 =>
              bnd (faO 5 r1.1 r361.2) fun r362 =>
              bnd (ldC r362.1 r362.2) fun r363 =>
              bnd (faO 1 r6.1 r363.2) fun r364 =>
              bnd (stV 1 r364.1 r357.1 r364.2) fun r365 =>
              bIf (agV true (ldC r362.1 r365.2) r363.1 && (agV true (ldC r360.1 r365.2) r361.1 && (agV true (ldC r358.1 r365.2) r359.1 && true))) (bnd (faO 2 r6.1 r365.2) fun r366 =>
              bnd (stV 1 r366.1 r359.1 r366.2) fun r367 =>
              bIf (agV true (ldC r362.1 r367.2) r363.1 && (agV true (ldC r360.1 r367.2) r361.1 && true)) (bnd (faO 4 r6.1 r367.2) fun r368 =>
              bnd (stV 1 r368.1 r361.1 r368.2) fun r369 =>
              bIf (agV true (ldC r362.1 r369.2) r363.1 && true) (bnd (faO 5 r6.1 r369.2) fun r370 =>
              bnd (stV 1 r370.1 r363.1 r370.2) fun r371 =>
              bnd (ldA 12 r6.1 r371.2) fun r372 =>
              bnd (ldA 12 r1.1 r372.2) fun r373 =>
              bnd (oBin Tryz.prog .neq 117 false false r372.1 r373.1 r373.2) fun r374 =>
              vIf r374.1 (
                bnd (oMv (.int .i64 2) r374.2) fun r375 =>
                oRes Tryz.prog [(r375.1, none)] r375.2) (
                bnd (oMv (.int .i64 0) r374.2) fun r376 =>
                oRes Tryz.prog [(r376.1, none)] r376.2)) none) none) none) (
              bnd (oBin Tryz.prog .eql 3 false true r9.1 (.int .i64 6) r355.2) fun r377 =>
              bnd (oMv r377.1 r377.2) fun r378 =>
              vIf r378.1 (
                bnd (faO 1 r1.1 r378.2) fun r379 =>
                bnd (ldC r379.1 r379.2) fun r380 =>
                bnd (faO 2 r1.1 r380.2) fun r381 =>
                bnd (ldC r381.1 r381.2) fun r382 =>
                bnd (faO 6 r1.1 r382.2) fun r383 =>
                bnd (ldC r383.1 r383.2) fun r384 =>
                bnd (faO 7 r1.1 r384.2) fun r385 =>
                bnd (ldA 4 r385.1 r385.2) fun r386 =>
                bnd (faO 1 r6.1 r386.2) fun r387 =>
                bnd (stV 1 r387.1 r380.1 r387.2) fun r388 =>
                bIf (agV true (ldA 4 r385.1 r388.2) r386.1 && (agV true (ldC r383.1 r388.2) r384.1 && (agV true (ldC r381.1 r388.2) r382.1 && true))) (bnd (faO 2 r6.1 r388.2) fun r389 =>
                bnd (stV 1 r389.1 r382.1 r389.2) fun r390 =>
                bIf (agV true (ldA 4 r385.1 r390.2) r386.1 && (agV true (ldC r383.1 r390.2) r384.1 && true)) (bnd (faO 6 r6.1 r390.2) fun r391 =>
                bnd (stV 1 r391.1 r384.1 r391.2) fun r392 =>
                bIf (agV true (ldA 4 r385.1 r392.2) r386.1 && true) (bnd (faO 7 r6.1 r392.2) fun r393 =>
                bnd (stV 4 r393.1 r386.1 r393.2) fun r394 =>
                bnd (ldA 12 r6.1 r394.2) fun r395 =>
                bnd (ldA 12 r1.1 r395.2) fun r396 =>
                bnd (oBin Tryz.prog .neq 117 false false r395.1 r396.1 r396.2) fun r397 =>
                vIf r397.1 (
                  bnd (oMv (.int .i64 2) r397.2) fun r398 =>
                  oRes Tryz.prog [(r398.1, none)] r398.2) (
                  bnd (oMv (.int .i64 0) r397.2) fun r399 =>
                  oRes Tryz.prog [(r399.1, none)] r399.2)) none) none) none) (
                bnd (oBin Tryz.prog .eql 3 false true r9.1 (.int .i64 7) r378.2) fun r400 =>
                bnd (oMv r400.1 r400.2) fun r401 =>
                vIf r401.1 (
                  bnd (faO 1 r1.1 r401.2) fun r402 =>
                  bnd (ldC r402.1 r402.2) fun r403 =>
                  bnd (faO 2 r1.1 r403.2) fun r404 =>
                  bnd (ldC r404.1 r404.2) fun r405 =>
                  bnd (faO 7 r1.1 r405.2) fun r406 =>
                  bnd (ldA 4 r406.1 r406.2) fun r407 =>
                  bnd (faO 1 r6.1 r407.2) fun r408 =>
                  bnd (stV 1 r408.1 r403.1 r408.2) fun r409 =>
                  bIf (agV true (ldA 4 r406.1 r409.2) r407.1 && (agV true (ldC r404.1 r409.2) r405.1 && true)) (bnd (faO 2 r6.1 r409.2) fun r410 =>
                  bnd (stV 1 r410.1 r405.1 r410.2) fun r411 =>
                  bIf (agV true (ldA 4 r406.1 r411.2) r407.1 && true) (bnd (faO 7 r6.1 r411.2) fun r412 =>
                  bnd (stV 4 r412.1 r407.1 r412.2) fun r413 =>
                  bnd (ldA 12 r6.1 r413.2) fun r414 =>
                  bnd (ldA 12 r1.1 r414.2) fun r415 =>
                  bnd (oBin Tryz.prog .neq 117 false false r414.1 r415.1 r415.2) fun r416 =>
                  vIf r416.1 (
                    bnd (oMv (.int .i64 2) r416.2) fun r417 =>
                    oRes Tryz.prog [(r417.1, none)] r417.2) (
                    bnd (oMv (.int .i64 0) r416.2) fun r418 =>
                    oRes Tryz.prog [(r418.1, none)] r418.2)) none) none) (
                  bnd (oBin Tryz.prog .eql 3 false true r9.1 (.int .i64 9) r401.2) fun r419 =>
                  bnd (oMv r419.1 r419.2) fun r420 =>
                  vIf r420.1 (
                    bnd (faO 7 r1.1 r420.2) fun r421 =>
                    bnd (ldA 4 r421.1 r421.2) fun r422 =>
                    bnd (faO 7 r6.1 r422.2) fun r423 =>
                    bnd (stV 4 r423.1 r422.1 r423.2) fun r424 =>
                    bnd (ldA 12 r6.1 r424.2) fun r425 =>
                    bnd (ldA 12 r1.1 r425.2) fun r426 =>
                    bnd (oBin Tryz.prog .neq 117 false false r425.1 r426.1 r426.2) fun r427 =>
                    vIf r427.1 (
                      bnd (oMv (.int .i64 2) r427.2) fun r428 =>
                      oRes Tryz.prog [(r428.1, none)] r428.2) (
                      bnd (oMv (.int .i64 0) r427.2) fun r429 =>
                      oRes Tryz.prog [(r429.1, none)] r429.2)) (
                    bnd (oBin Tryz.prog .eql 3 false true r9.1 (.int .i64 10) r420.2) fun r430 =>
                    bnd (oMv r430.1 r430.2) fun r431 =>
                    vIf r431.1 (
                      vIf r431.1 (
                        bnd (faO 1 r1.1 r431.2) fun r432 =>
                        bnd (ldC r432.1 r432.2) fun r433 =>
                        bnd (faO 2 r1.1 r433.2) fun r434 =>
                        bnd (ldC r434.1 r434.2) fun r435 =>
                        bnd (faO 4 r1.1 r435.2) fun r436 =>
                        bnd (ldC r436.1 r436.2) fun r437 =>
                        bnd (faO 1 r6.1 r437.2) fun r438 =>
                        bnd (stV 1 r438.1 r433.1 r438.2) fun r439 =>
                        bIf (agV true (ldC r436.1 r439.2) r437.1 && (agV true (ldC r434.1 r439.2) r435.1 && true)) (bnd (faO 2 r6.1 r439.2) fun r440 =>
                        bnd (stV 1 r440.1 r435.1 r440.2) fun r441 =>
                        bIf (agV true (ldC r436.1 r441.2) r437.1 && true) (bnd (faO 4 r6.1 r441.2) fun r442 =>
                        bnd (stV 1 r442.1 r437.1 r442.2) fun r443 =>
                        bnd (ldA 12 r6.1 r443.2) fun r444 =>
                        bnd (ldA 12 r1.1 r444.2) fun r445 =>
                        bnd (oBin Tryz.prog .neq 117 false false r444.1 r445.1 r445.2) fun r446 =>
                        vIf r446.1 (
                          bnd (oMv (.int .i64 2) r446.2) fun r447 =>
                          oRes Tryz.prog [(r447.1, none)] r447.2) (
                          bnd (oMv (.int .i64 0) r446.2) fun r448 =>
                          oRes Tryz.prog [(r448.1, none)] r448.2)) none) none) (
                        bnd (oBin Tryz.prog .eql 3 false true r9.1 (.int .i64 12) r431.2) fun r449 =>
                        bnd (oMv r449.1 r449.2) fun r450 =>
                        vIf r450.1 (
                          bnd (faO 11 r1.1 r450.2) fun r451 =>
                          bnd (ldC r451.1 r451.2) fun r452 =>
                          bnd (faO 11 r6.1 r452.2) fun r453 =>
                          bnd (stV 1 r453.1 r452.1 r453.2) fun r454 =>
                          bnd (ldA 12 r6.1 r454.2) fun r455 =>
                          bnd (ldA 12 r1.1 r455.2) fun r456 =>
                          bnd (oBin Tryz.prog .neq 117 false false r455.1 r456.1 r456.2) fun r457 =>
                          vIf r457.1 (
                            bnd (oMv (.int .i64 2) r457.2) fun r458 =>
                            oRes Tryz.prog [(r458.1, none)] r458.2) (
                            bnd (oMv (.int .i64 0) r457.2) fun r459 =>
                            oRes Tryz.prog [(r459.1, none)] r459.2)) (
                          bnd (oMv (.int .i64 2) r450.2) fun r460 =>
                          oRes Tryz.prog [(r460.1, none)] r460.2))) (
                      bnd (oBin Tryz.prog .eql 3 false true r9.1 (.int .i64 11) r431.2) fun r461 =>
                      bnd (oMv r461.1 r461.2) fun r462 =>
                      vIf r462.1 (
                        bnd (faO 1 r1.1 r462.2) fun r463 =>
                        bnd (ldC r463.1 r463.2) fun r464 =>
                        bnd (faO 2 r1.1 r464.2) fun r465 =>
                        bnd (ldC r465.1 r465.2) fun r466 =>
                        bnd (faO 4 r1.1 r466.2) fun r467 =>
                        bnd (ldC r467.1 r467.2) fun r468 =>
                        bnd (faO 1 r6.1 r468.2) fun r469 =>
                        bnd (stV 1 r469.1 r464.1 r469.2) fun r470 =>
                        bIf (agV true (ldC r467.1 r470.2) r468.1 && (agV true (ldC r465.1 r470.2) r466.1 && true)) (bnd (faO 2 r6.1 r470.2) fun r471 =>
                        bnd (stV 1 r471.1 r466.1 r471.2) fun r472 =>
                        bIf (agV true (ldC r467.1 r472.2) r468.1 && true) (bnd (faO 4 r6.1 r472.2) fun r473 =>
                        bnd (stV 1 r473.1 r468.1 r473.2) fun r474 =>
                        bnd (ldA 12 r6.1 r474.2) fun r475 =>
                        bnd (ldA 12 r1.1 r475.2) fun r476 =>
                        bnd (oBin Tryz.prog .neq 117 false false r475.1 r476.1 r476.2) fun r477 =>
                        vIf r477.1 (
                          bnd (oMv (.int .i64 2) r477.2) fun r478 =>
                          oRes Tryz.prog [(r478.1, none)] r478.2) (
                          bnd (oMv (.int .i64 0) r477.2) fun r479 =>
                          oRes Tryz.prog [(r479.1, none)] r479.2)) none) none) (
                        bnd (oBin Tryz.prog .eql 3 false true r9.1 (.int .i64 12) r462.2) fun r480 =>
                        bnd (oMv r480.1 r480.2) fun r481 =>
                        vIf r481.1 (
                          bnd (faO 11 r1.1 r481.2) fun r482 =>
                          bnd (ldC r482.1 r482.2) fun r483 =>
                          bnd (faO 11 r6.1 r483.2) fun r484 =>
                          bnd (stV 1 r484.1 r483.1 r484.2) fun r485 =>
                          bnd (ldA 12 r6.1 r485.2) fun r486 =>
                          bnd (ldA 12 r1.1 r486.2) fun r487 =>
                          bnd (oBin Tryz.prog .neq 117 false false r486.1 r487.1 r487.2) fun r488 =>
                          vIf r488.1 (
                            bnd (oMv (.int .i64 2) r488.2) fun r489 =>
                            oRes Tryz.prog [(r489.1, none)] r489.2) (
                            bnd (oMv (.int .i64 0) r488.2) fun r490 =>
                            oRes Tryz.prog [(r490.1, none)] r490.2)) (
                          bnd (oMv (.int .i64 2) r481.2) fun r491 =>
                          oRes Tryz.prog [(r491.1, none)] r491.2))))))))) (
          bnd (oBin Tryz.prog .eql 3 false true r9.1 (.int .i64 8) r336.2) fun r492 =>
          bnd (oMv r492.1 r492.2) fun r493 =>
          vIf r493.1 (
            bnd (faO 1 r1.1 r493.2) fun r494 =>
            bnd (ldC r494.1 r494.2) fun r495 =>
            bnd (faO 2 r1.1 r495.2) fun r496 =>
            bnd (ldC r496.1 r496.2) fun r497 =>
            bnd (faO 3 r1.1 r497.2) fun r498 =>
            bnd (ldC r498.1 r498.2) fun r499 =>
            bnd (faO 1 r6.1 r499.2) fun r500 =>
            bnd (stV 1 r500.1 r495.1 r500.2) fun r501 =>
            bIf (agV true (ldC r498.1 r501.2) r499.1 && (agV true (ldC r496.1 r501.2) r497.1 && true)) (bnd (faO 2 r6.1 r501.2) fun r502 =>
            bnd (stV 1 r502.1 r497.1 r502.2) fun r503 =>
            bIf (agV true (ldC r498.1 r503.2) r499.1 && true) (bnd (faO 3 r6.1 r503.2) fun r504 =>
            bnd (stV 1 r504.1 r499.1 r504.2) fun r505 =>
            bnd (ldA 12 r6.1 r505.2) fun r506 =>
            bnd (ldA 12 r1.1 r506.2) fun r507 =>
            bnd (oBin Tryz.prog .neq 117 false false r506.1 r507.1 r507.2) fun r508 =>
            vIf r508.1 (
              bnd (oMv (.int .i64 2) r508.2) fun r509 =>
              oRes Tryz.prog [(r509.1, none)] r509.2) (
              bnd (oMv (.int .i64 0) r508.2) fun r510 =>
              oRes Tryz.prog [(r510.1, none)] r510.2)) none) none) (
            bnd (oBin Tryz.prog .eql 3 false true r9.1 (.int .i64 3) r493.2) fun r511 =>
            bnd (oMv r511.1 r511.2) fun r512 =>
            vIf r512.1 (
              bnd (faO 1 r1.1 r512.2) fun r513 =>
              bnd (ldC r513.1 r513.2) fun r514 =>
              bnd (faO 2 r1.1 r514.2) fun r515 =>
              bnd (ldC r515.1 r515.2) fun r516 =>
              bnd (faO 4 r1.1 r516.2) fun r517 =>
              bnd (ldC r517.1 r517.2) fun r518 =>
              bnd (faO 5 r1.1 r518.2) fun r519 =>
              bnd (ldC r519.1 r519.2) fun r520 =>
              bnd (faO 1 r6.1 r520.2) fun r521 =>
              bnd (stV 1 r521.1 r514.1 r521.2) fun r522 =>
              bIf (agV true (ldC r519.1 r522.2) r520.1 && (agV true (ldC r517.1 r522.2) r518.1 && (agV true (ldC r515.1 r522.2) r516.1 && true))) (bnd (faO 2 r6.1 r522.2) fun r523 =>
              bnd (stV 1 r523.1 r516.1 r523.2) fun r524 =>
              bIf (agV true (ldC r519.1 r524.2) r520.1 && (agV true (ldC r517.1 r524.2) r518.1 && true)) (bnd (faO 4 r6.1 r524.2) fun r525 =>
              bnd (stV 1 r525.1 r518.1 r525.2) fun r526 =>
              bIf (agV true (ldC r519.1 r526.2) r520.1 && true) (bnd (faO 5 r6.1 r526.2) fun r527 =>
              bnd (stV 1 r527.1 r520.1 r527.2) fun r528 =>
              bnd (ldA 12 r6.1 r528.2) fun r529 =>
              bnd (ldA 12 r1.1 r529.2) fun r530 =>
              bnd (oBin Tryz.prog .neq 117 false false r529.1 r530.1 r530.2) fun r531 =>
              vIf r531.1 (
                bnd (oMv (.int .i64 2) r531.2) fun r532 =>
                oRes Tryz.prog [(r532.1, none)] r532.2) (
                bnd (oMv (.int .i64 0) r531.2) fun r533 =>
                oRes Tryz.prog [(r533.1, none)] r533.2)) none) none) none) (
              bnd (oBin Tryz.prog .eql 3 false true r9.1 (.int .i64 6) r512.2) fun r534 =>
              bnd (oMv r534.1 r534.2) fun r535 =>
              vIf r535.1 (
                bnd (faO 1 r1.1 r535.2) fun r536 =>
                bnd (ldC r536.1 r536.2) fun r537 =>
                bnd (faO 2 r1.1 r537.2) fun r538 =>
                bnd (ldC r538.1 r538.2) fun r539 =>
                bnd (faO 6 r1.1 r539.2) fun r540 =>
                bnd (ldC r540.1 r540.2) fun r541 =>
                bnd (faO 7 r1.1 r541.2) fun r542 =>
                bnd (ldA 4 r542.1 r542.2) fun r543 =>
                bnd (faO 1 r6.1 r543.2) fun r544 =>
                bnd (stV 1 r544.1 r537.1 r544.2) fun r545 =>
                bIf (agV true (ldA 4 r542.1 r545.2) r543.1 && (agV true (ldC r540.1 r545.2) r541.1 && (agV true (ldC r538.1 r545.2) r539.1 && true))) (bnd (faO 2 r6.1 r545.2) fun r546 =>
                bnd (stV 1 r546.1 r539.1 r546.2) fun r547 =>
                bIf (agV true (ldA 4 r542.1 r547.2) r543.1 && (agV true (ldC r540.1 r547.2) r541.1 && true)) (bnd (faO 6 r6.1 r547.2) fun r548 =>
                bnd (stV 1 r548.1 r541.1 r548.2) fun r549 =>
                bIf (agV true (ldA 4 r542.1 r549.2) r543.1 && true) (bnd (faO 7 r6.1 r549.2) fun r550 =>
                bnd (stV 4 r550.1 r543.1 r550.2) fun r551 =>
                bnd (ldA 12 r6.1 r551.2) fun r552 =>
                bnd (ldA 12 r1.1 r552.2) fun r553 =>
                bnd (oBin Tryz.prog .neq 117 false false r552.1 r553.1 r553.2) fun r554 =>
                vIf r554.1 (
                  bnd (oMv (.int .i64 2) r554.2) fun r555 =>
                  oRes Tryz.prog [(r555.1, none)] r555.2) (
                  bnd (oMv (.int .i64 0) r554.2) fun r556 =>
                  oRes Tryz.prog [(r556.1, none)] r556.2)) none) none) none) (
                bnd (oBin Tryz.prog .eql 3 false true r9.1 (.int .i64 7) r535.2) fun r557 =>
                bnd (oMv r557.1 r557.2) fun r558 =>
                vIf r558.1 (
                  bnd (faO 1 r1.1 r558.2) fun r559 =>
                  bnd (ldC r559.1 r559.2) fun r560 =>
                  bnd (faO 2 r1.1 r560.2) fun r561 =>
                  bnd (ldC r561.1 r561.2) fun r562 =>
                  bnd (faO 7 r1.1 r562.2) fun r563 =>
                  bnd (ldA 4 r563.1 r563.2) fun r564 =>
                  bnd (faO 1 r6.1 r564.2) fun r565 =>
                  bnd (stV 1 r565.1 r560.1 r565.2) fun r566 =>
                  bIf (agV true (ldA 4 r563.1 r566.2) r564.1 && (agV true (ldC r561.1 r566.2) r562.1 && true)) (bnd (faO 2 r6.1 r566.2) fun r567 =>
                  bnd (stV 1 r567.1 r562.1 r567.2) fun r568 =>
                  bIf (agV true (ldA 4 r563.1 r568.2) r564.1 && true) (bnd (faO 7 r6.1 r568.2) fun r569 =>
                  bnd (stV 4 r569.1 r564.1 r569.2) fun r570 =>
                  bnd (ldA 12 r6.1 r570.2) fun r571 =>
                  bnd (ldA 12 r1.1 r571.2) fun r572 =>
                  bnd (oBin Tryz.prog .neq 117 false false r571.1 r572.1 r572.2) fun r573 =>
                  vIf r573.1 (
                    bnd (oMv (.int .i64 2) r573.2) fun r574 =>
                    oRes Tryz.prog [(r574.1, none)] r574.2) (
                    bnd (oMv (.int .i64 0) r573.2) fun r575 =>
                    oRes Tryz.prog [(r575.1, none)] r575.2)) none) none) (
                  bnd (oBin Tryz.prog .eql 3 false true r9.1 (.int .i64 9) r558.2) fun r576 =>
                  bnd (oMv r576.1 r576.2) fun r577 =>
                  vIf r577.1 (
                    bnd (faO 7 r1.1 r577.2) fun r578 =>
                    bnd (ldA 4 r578.1 r578.2) fun r579 =>
                    bnd (faO 7 r6.1 r579.2) fun r580 =>
                    bnd (stV 4 r580.1 r579.1 r580.2) fun r581 =>
                    bnd (ldA 12 r6.1 r581.2) fun r582 =>
                    bnd (ldA 12 r1.1 r582.2) fun r583 =>
                    bnd (oBin Tryz.prog .neq 117 false false r582.1 r583.1 r583.2) fun r584 =>
                    vIf r584.1 (
                      bnd (oMv (.int .i64 2) r584.2) fun r585 =>
                      oRes Tryz.prog [(r585.1, none)] r585.2) (
                      bnd (oMv (.int .i64 0) r584.2) fun r586 =>
                      oRes Tryz.prog [(r586.1, none)] r586.2)) (
                    bnd (oBin Tryz.prog .eql 3 false true r9.1 (.int .i64 10) r577.2) fun r587 =>
                    bnd (oMv r587.1 r587.2) fun r588 =>
                    vIf r588.1 (
                      vIf r588.1 (
                        bnd (faO 1 r1.1 r588.2) fun r589 =>
                        bnd (ldC r589.1 r589.2) fun r590 =>
                        bnd (faO 2 r1.1 r590.2) fun r591 =>
                        bnd (ldC r591.1 r591.2) fun r592 =>
                        bnd (faO 4 r1.1 r592.2) fun r593 =>
                        bnd (ldC r593.1 r593.2) fun r594 =>
                        bnd (faO 1 r6.1 r594.2) fun r595 =>
                        bnd (stV 1 r595.1 r590.1 r595.2) fun r596 =>
                        bIf (agV true (ldC r593.1 r596.2) r594.1 && (agV true (ldC r591.1 r596.2) r592.1 && true)) (bnd (faO 2 r6.1 r596.2) fun r597 =>
                        bnd (stV 1 r597.1 r592.1 r597.2) fun r598 =>
                        bIf (agV true (ldC r593.1 r598.2) r594.1 && true) (bnd (faO 4 r6.1 r598.2) fun r599 =>
                        bnd (stV 1 r599.1 r594.1 r599.2) fun r600 =>
                        bnd (ldA 12 r6.1 r600.2) fun r601 =>
                        bnd (ldA 12 r1.1 r601.2) fun r602 =>
                        bnd (oBin Tryz.prog .neq 117 false false r601.1 r602.1 r602.2) fun r603 =>
                        vIf r603.1 (
                          bnd (oMv (.int .i64 2) r603.2) fun r604 =>
                          oRes Tryz.prog [(r604.1, none)] r604.2) (
                          bnd (oMv (.int .i64 0) r603.2) fun r605 =>
                          oRes Tryz.prog [(r605.1, none)] r605.2)) none) none) (
                        bnd (oBin Tryz.prog .eql 3 false true r9.1 (.int .i64 12) r588.2) fun r606 =>
                        bnd (oMv r606.1 r606.2) fun r607 =>
                        vIf r607.1 (
                          bnd (faO 11 r1.1 r607.2) fun r608 =>
                          bnd (ldC r608.1 r608.2) fun r609 =>
                          bnd (faO 11 r6.1 r609.2) fun r610 =>
                          bnd (stV 1 r610.1 r609.1 r610.2) fun r611 =>
                          bnd (ldA 12 r6.1 r611.2) fun r612 =>
                          bnd (ldA 12 r1.1 r612.2) fun r613 =>
                          bnd (oBin Tryz.prog .neq 117 false false r612.1 r613.1 r613.2) fun r614 =>
                          vIf r614.1 (
                            bnd (oMv (.int .i64 2) r614.2) fun r615 =>
                            oRes Tryz.prog [(r615.1, none)] r615.2) (
                            bnd (oMv (.int .i64 0) r614.2) fun r616 =>
                            oRes Tryz.prog [(r616.1, none)] r616.2)) (
                          bnd (oMv (.int .i64 2) r607.2) fun r617 =>
                          oRes Tryz.prog [(r617.1, none)] r617.2))) (
                      bnd (oBin Tryz.prog .eql 3 false true r9.1 (.int .i64 11) r588.2) fun r618 =>
                      bnd (oMv r618.1 r618.2) fun r619 =>
                      vIf r619.1 (
                        bnd (faO 1 r1.1 r619.2) fun r620 =>
                        bnd (ldC r620.1 r620.2) fun r621 =>
                        bnd (faO 2 r1.1 r621.2) fun r622 =>
                        bnd (ldC r622.1 r622.2) fun r623 =>
                        bnd (faO 4 r1.1 r623.2) fun r624 =>
                        bnd (ldC r624.1 r624.2) fun r625 =>
                        bnd (faO 1 r6.1 r625.2) fun r626 =>
                        bnd (stV 1 r626.1 r621.1 r626.2) fun r627 =>
                        bIf (agV true (ldC r624.1 r627.2) r625.1 && (agV true (ldC r622.1 r627.2) r623.1 && true)) (bnd (faO 2 r6.1 r627.2) fun r628 =>
                        bnd (stV 1 r628.1 r623.1 r628.2) fun r629 =>
                        bIf (agV true (ldC r624.1 r629.2) r625.1 && true) (bnd (faO 4 r6.1 r629.2) fun r630 =>
                        bnd (stV 1 r630.1 r625.1 r630.2) fun r631 =>
                        bnd (ldA 12 r6.1 r631.2) fun r632 =>
                        bnd (ldA 12 r1.1 r632.2) fun r633 =>
                        bnd (oBin Tryz.prog .neq 117 false false r632.1 r633.1 r633.2) fun r634 =>
                        vIf r634.1 (
                          bnd (oMv (.int .i64 2) r634.2) fun r635 =>
                          oRes Tryz.prog [(r635.1, none)] r635.2) (
                          bnd (oMv (.int .i64 0) r634.2) fun r636 =>
                          oRes Tryz.prog [(r636.1, none)] r636.2)) none) none) (
                        bnd (oBin Tryz.prog .eql 3 false true r9.1 (.int .i64 12) r619.2) fun r637 =>
                        bnd (oMv r637.1 r637.2) fun r638 =>
                        vIf r638.1 (
                          bnd (faO 11 r1.1 r638.2) fun r639 =>
                          bnd (ldC r639.1 r639.2) fun r640 =>
                          bnd (faO 11 r6.1 r640.2) fun r641 =>
                          bnd (stV 1 r641.1 r640.1 r641.2) fun r642 =>
                          bnd (ldA 12 r6.1 r642.2) fun r643 =>
                          bnd (ldA 12 r1.1 r643.2) fun r644 =>
                          bnd (oBin Tryz.prog .neq 117 false false r643.1 r644.1 r644.2) fun r645 =>
                          vIf r645.1 (
                            bnd (oMv (.int .i64 2) r645.2) fun r646 =>
                            oRes Tryz.prog [(r646.1, none)] r646.2) (
                            bnd (oMv (.int .i64 0) r645.2) fun r647 =>
                            oRes Tryz.prog [(r647.1, none)] r647.2)) (
                          bnd (oMv (.int .i64 2) r638.2) fun r648 =>
                          oRes Tryz.prog [(r648.1, none)] r648.2))))))))))))
theorem ref22_Check_eq (call : Eng.Callee) (x0 : Value) (W : AW) : kFun Tryz.prog call 92 (cod 121) (rss 121) [x0] W = ref22_Check call x0 W := by kernel_rfl
theorem ref22_Check_om {x0 : Value} {W : AW} {r : Value × AW} (h : ref22_Check omS x0 W = some r) : omS (.func (.func 121) #[] #[]) [x0] W = some (gc W r) := om_of (nt := 92) (n := 1) (by kernel_rfl) (by kernel_rfl) rfl ((ref22_Check_eq omS x0 W).trans h)
noncomputable def venue_Check_L1_L2 (call : Eng.Callee) (R : Nat → Value) (W : AW) : Option LT :=
  bnd (oBin Tryz.prog .lss 3 false false (R 55) (R 54) W) fun r63 =>
  vIf r63.1 (
    bnd (ixS 1 (R 53) (R 55) r63.2) fun r64 =>
    bnd (ldC r64.1 r64.2) fun r65 =>
    bnd (oMv r65.1 r65.2) fun r66 =>
    bnd (oMv (R 4) r66.2) fun r67 =>
    bnd (oMv r66.1 r67.2) fun r68 =>
    bnd (oBin Tryz.prog .add 3 false false r67.1 r68.1 r68.2) fun r69 =>
    bnd (oMv r69.1 r69.2) fun r70 =>
    bnd (oBin Tryz.prog .add 3 false true (R 55) (.int .i64 1) r70.2) fun r71 =>
    bnd (oMv r71.1 r71.2) fun r72 =>
    some (X.normal, (rput (rput (rput (rput (rput (rput (rput (rput (rput (rput R (some 56) r63.1) (some 57) r64.1) (some 58) r65.1) (some 9) r66.1) (some 59) r67.1) (some 60) r68.1) (some 61) r69.1) (some 4) r70.1) (some 62) r71.1) (some 55) r72.1), r72.2)) (
    some (X.exit 3, (rput R (some 56) r63.1), r63.2))
noncomputable def venue_Check_L1 (call : Eng.Callee) (R : Nat → Value) (W : AW) : Option LT :=
  bnd (oBin Tryz.prog .lss 3 false false (R 37) (R 36) W) fun r39 =>
  vIf r39.1 (
    bnd (oMv (R 37) r39.2) fun r40 =>
    bnd (ixS 3 (R 35) (R 37) r40.2) fun r41 =>
    bnd (ldA 3 r41.1 r41.2) fun r42 =>
    bnd (oAlloc Tryz.prog 130 r42.2) fun r43 =>
    bnd (oMv r40.1 r43.2) fun r44 =>
    bnd (stV 3 r43.1 r42.1 r44.2) fun r45 =>
    bnd (ldA 3 r43.1 r45.2) fun r46 =>
    bnd (faO 3 (R 1) r46.2) fun r47 =>
    bnd (ldC r47.1 r47.2) fun r48 =>
    bnd (oMv r44.1 r48.2) fun r49 =>
    bnd (oSlice Tryz.prog 22 r48.1 none (some r49.1) none r49.2) fun r50 =>
    bnd (call (fnV 189) [r46.1, r50.1] r50.2) fun r51 =>
    bnd (oMv r51.1 r51.2) fun r52 =>
    bnd (oMv r52.1 r52.2) fun r53 =>
    bnd (oBin Tryz.prog .neq 29 false true r53.1 (.int .i64 0) r53.2) fun r54 =>
    vIf r54.1 (
      bnd (oMv r44.1 r54.2) fun r55 =>
      bnd (oMv r52.1 r55.2) fun r56 =>
      bnd (oMv r55.1 r56.2) fun r57 =>
      bnd (oMv r56.1 r57.2) fun r58 =>
      some (X.ret, (rput (rput (rput (rput (rput (rput (rput (rput (rput (rput (rput (rput (rput (rput (rput (rput (rput (rput (rput R (some 38) r39.1) (some 39) r40.1) (some 40) r41.1) (some 41) r42.1) (some 6) r43.1) (some 5) r44.1) (some 42) r46.1) (some 43) r47.1) (some 44) r48.1) (some 45) r49.1) (some 46) r50.1) (some 47) r51.1) (some 7) r52.1) (some 48) r53.1) (some 49) r54.1) (some 50) r55.1) (some 51) r56.1) (some 2) r57.1) (some 3) r58.1), r58.2)) (
      bnd (faO 1 r43.1 r54.2) fun r59 =>
      bnd (ldC r59.1 r59.2) fun r60 =>
      bnd (oBuiltin Tryz.prog .len #[69] 3 #[false] [r60.1] r60.2) fun r61 =>
      bnd (oMv (.int .i64 0) r61.2) fun r62 =>
      bnd (loopO (venue_Check_L1_L2 call) (rput (rput (rput (rput (rput (rput (rput (rput (rput (rput (rput (rput (rput (rput (rput (rput (rput (rput (rput R (some 38) r39.1) (some 39) r40.1) (some 40) r41.1) (some 41) r42.1) (some 6) r43.1) (some 5) r44.1) (some 42) r46.1) (some 43) r47.1) (some 44) r48.1) (some 45) r49.1) (some 46) r50.1) (some 47) r51.1) (some 7) r52.1) (some 48) r53.1) (some 49) r54.1) (some 52) r59.1) (some 53) r60.1) (some 54) r61.1) (some 55) r62.1) r62.2) fun r73 =>
      kExit 3 r73.1 (
        bnd (oBin Tryz.prog .add 3 false true (r73.2.1 37) (.int .i64 1) r73.2.2) fun r74 =>
        bnd (oMv r74.1 r74.2) fun r75 =>
        some (X.normal, (rput (rput r73.2.1 (some 63) r74.1) (some 37) r75.1), r75.2)) (none))) (
    some (X.exit 1, (rput R (some 38) r39.1), r39.2))
noncomputable def venue_Check (call : Eng.Callee) (x0 : Value) (W : AW) : Option (Value × AW) :=
  bnd (oBox x0 W) fun r1 =>
  bnd (oMv (.int .i64 0) r1.2) fun r2 =>
  bnd (oMv (.int .i64 0) r2.2) fun r3 =>
  bnd (faO 0 r1.1 r3.2) fun r4 =>
  bnd (ldC r4.1 r4.2) fun r5 =>
  bnd (call (fnV 187) [r5.1, (.int .i64 1), (.int .i64 16)] r5.2) fun r6 =>
  bnd (oMv r6.1 r6.2) fun r7 =>
  bnd (bIf (wnt r7.1 false) (faO 1 r1.1 r7.2) (some (undef, r7.2))) fun r8 =>
  bnd (bIf (wnt r7.1 false) (ldC r8.1 r8.2) (some (undef, r8.2))) fun r9 =>
  bnd (bIf (wnt r7.1 false) (call (fnV 188) [r9.1, (.int .i64 1), (.int .i64 1000000000)] r9.2) (some (undef, r9.2))) fun r10 =>
  bnd (oPick r7.1 (.bool true) r10.1 r10.2) fun r11 =>
  bnd (oMv r11.1 r11.2) fun r12 =>
  bnd (bIf (wnt r12.1 false) (faO 2 r1.1 r12.2) (some (undef, r12.2))) fun r13 =>
  bnd (bIf (wnt r12.1 false) (ldC r13.1 r13.2) (some (undef, r13.2))) fun r14 =>
  bnd (bIf (wnt r12.1 false) (call (fnV 188) [r14.1, (.int .i64 1), (.int .i64 1000000000)] r14.2) (some (undef, r14.2))) fun r15 =>
  bnd (oPick r12.1 (.bool true) r15.1 r15.2) fun r16 =>
  bnd (oMv r16.1 r16.2) fun r17 =>
  vIf r17.1 (
    bnd (oMv (.int .i64 (-1)) r17.2) fun r18 =>
    bnd (oMv (.int .i64 7) r18.2) fun r19 =>
    oRes Tryz.prog [(r18.1, none), (r19.1, none)] r19.2) (
    bnd (faO 3 r1.1 r17.2) fun r20 =>
    bnd (ldC r20.1 r20.2) fun r21 =>
    bnd (oBuiltin Tryz.prog .len #[22] 3 #[false] [r21.1] r21.2) fun r22 =>
    bnd (oBin Tryz.prog .eql 3 false true r22.1 (.int .i64 0) r22.2) fun r23 =>
    bnd (oMv r23.1 r23.2) fun r24 =>
    vIf r24.1 (
      bnd (oMv (.int .i64 (-1)) r24.2) fun r25 =>
      bnd (oMv (.int .i64 6) r25.2) fun r26 =>
      oRes Tryz.prog [(r25.1, none), (r26.1, none)] r26.2) (
      bnd (faO 3 r1.1 r24.2) fun r27 =>
      bnd (ldC r27.1 r27.2) fun r28 =>
      bnd (oBuiltin Tryz.prog .len #[22] 3 #[false] [r28.1] r28.2) fun r29 =>
      bnd (oBin Tryz.prog .gtr 3 false true r29.1 (.int .i64 8) r29.2) fun r30 =>
      bnd (oMv r30.1 r30.2) fun r31 =>
      vIf r31.1 (
        bnd (oMv (.int .i64 (-1)) r31.2) fun r32 =>
        bnd (oMv (.int .i64 3) r32.2) fun r33 =>
        oRes Tryz.prog [(r32.1, none), (r33.1, none)] r33.2) (
        bnd (oMv (.int .i64 0) r31.2) fun r34 =>
        bnd (faO 3 r1.1 r34.2) fun r35 =>
        bnd (ldC r35.1 r35.2) fun r36 =>
        bnd (oBuiltin Tryz.prog .len #[22] 3 #[false] [r36.1] r36.2) fun r37 =>
        bnd (oMv (.int .i64 0) r37.2) fun r38 =>
        bnd (loopO (venue_Check_L1 call) (rput (rput (rput (rput (rput (rput (rput (rput (rput (rput (rput (rput (rput (rput (rput (rput (rput (rput (rput (rput (rput (rput (rput (rput (rput (rput (rput (rput (rput (rput (rput (rput (argGo 0 [x0] PlanTab.blank) (some 1) r1.1) (some 2) r2.1) (some 3) r3.1) (some 11) r4.1) (some 12) r5.1) (some 13) r6.1) (some 14) r7.1) (some 15) r8.1) (some 16) r9.1) (some 17) r10.1) (some 18) r11.1) (some 19) r12.1) (some 20) r13.1) (some 21) r14.1) (some 22) r15.1) (some 23) r16.1) (some 10) r17.1) (some 25) r20.1) (some 26) r21.1) (some 27) r22.1) (some 28) r23.1) (some 24) r24.1) (some 30) r27.1) (some 31) r28.1) (some 32) r29.1) (some 33) r30.1) (some 29) r31.1) (some 4) r34.1) (some 34) r35.1) (some 35) r36.1) (some 36) r37.1) (some 37) r38.1) r38.2) fun r76 =>
        kExit 1 r76.1 (
          bnd (oMv (r76.2.1 4) r76.2.2) fun r77 =>
          bnd (oBin Tryz.prog .gtr 3 false true r77.1 (.int .i64 4096) r77.2) fun r78 =>
          vIf r78.1 (
            bnd (oMv (.int .i64 (-1)) r78.2) fun r79 =>
            bnd (oMv (.int .i64 3) r79.2) fun r80 =>
            oRes Tryz.prog [(r79.1, none), (r80.1, none)] r80.2) (
            bnd (oMv (.int .i64 0) r78.2) fun r81 =>
            bnd (oMv (.int .i64 0) r81.2) fun r82 =>
            oRes Tryz.prog [(r81.1, none), (r82.1, none)] r82.2)) (kRetX r76.1 (
          oRes Tryz.prog [((r76.2.1 2), none), ((r76.2.1 3), none)] r76.2.2)))))
theorem venue_Check_eq (call : Eng.Callee) (x0 : Value) (W : AW) : kFun Tryz.prog call 66 (cod 129) (rss 129) [x0] W = venue_Check call x0 W := by kernel_rfl
theorem venue_Check_om {x0 : Value} {W : AW} {r : Value × AW} (h : venue_Check omS x0 W = some r) : omS (.func (.func 129) #[] #[]) [x0] W = some (gc W r) := om_of (nt := 66) (n := 1) (by kernel_rfl) (by kernel_rfl) rfl ((venue_Check_eq omS x0 W).trans h)
noncomputable def ref15_Places_L1_L2_L3 (call : Eng.Callee) (R : Nat → Value) (W : AW) : Option LT :=
  bnd (oMv (R 6) W) fun r21 =>
  bnd (faO 3 (R 1) r21.2) fun r22 =>
  bnd (ldC r22.1 r22.2) fun r23 =>
  bnd (oMv (R 4) r23.2) fun r24 =>
  bnd (ixS 3 r23.1 r24.1 r24.2) fun r25 =>
  bnd (faO 1 r25.1 r25.2) fun r26 =>
  bnd (ldC r26.1 r26.2) fun r27 =>
  bnd (oMv (R 5) r27.2) fun r28 =>
  bnd (ixS 1 r27.1 r28.1 r28.2) fun r29 =>
  bnd (ldC r29.1 r29.2) fun r30 =>
  bnd (oBin Tryz.prog .lss 3 false false r21.1 r30.1 r30.2) fun r31 =>
  vIf r31.1 (
    bnd (oMv (R 3) r31.2) fun r32 =>
    bnd (oMv (R 4) r32.2) fun r33 =>
    bnd (oMv (R 5) r33.2) fun r34 =>
    bnd (oMv (R 6) r34.2) fun r35 =>
    bnd (oBuild Tryz.prog 309 [(0, r33.1), (1, r34.1), (2, r35.1)] r35.2) fun r36 =>
    bnd (oBuildSlice Tryz.prog 238 1 [(0, r36.1)] r36.2) fun r37 =>
    bnd (aAppend Tryz.prog r37.2 #[238, 238] r32.1 r37.1) fun r38 =>
    bnd (oMv r38.1 r38.2) fun r39 =>
    bnd (oMv (R 6) r39.2) fun r40 =>
    bnd (oBin Tryz.prog .add 3 false true r40.1 (.int .i64 1) r40.2) fun r41 =>
    bnd (oMv r41.1 r41.2) fun r42 =>
    some (X.normal, (rput (rput (rput (rput (rput (rput (rput (rput (rput (rput (rput (rput (rput (rput (rput (rput (rput (rput (rput (rput (rput (rput R (some 25) r21.1) (some 26) r22.1) (some 27) r23.1) (some 28) r24.1) (some 29) r25.1) (some 30) r26.1) (some 31) r27.1) (some 32) r28.1) (some 33) r29.1) (some 34) r30.1) (some 35) r31.1) (some 38) r32.1) (some 39) r33.1) (some 40) r34.1) (some 41) r35.1) (some 42) r36.1) (some 43) r37.1) (some 44) r38.1) (some 3) r39.1) (some 36) r40.1) (some 37) r41.1) (some 6) r42.1), r42.2)) (
    some (X.exit 4, (rput (rput (rput (rput (rput (rput (rput (rput (rput (rput (rput R (some 25) r21.1) (some 26) r22.1) (some 27) r23.1) (some 28) r24.1) (some 29) r25.1) (some 30) r26.1) (some 31) r27.1) (some 32) r28.1) (some 33) r29.1) (some 34) r30.1) (some 35) r31.1), r31.2))
noncomputable def ref15_Places_L1_L2 (call : Eng.Callee) (R : Nat → Value) (W : AW) : Option LT :=
  bnd (oMv (R 5) W) fun r11 =>
  bnd (faO 3 (R 1) r11.2) fun r12 =>
  bnd (ldC r12.1 r12.2) fun r13 =>
  bnd (oMv (R 4) r13.2) fun r14 =>
  bnd (ixS 3 r13.1 r14.1 r14.2) fun r15 =>
  bnd (faO 1 r15.1 r15.2) fun r16 =>
  bnd (ldC r16.1 r16.2) fun r17 =>
  bnd (oBuiltin Tryz.prog .len #[69] 3 #[false] [r17.1] r17.2) fun r18 =>
  bnd (oBin Tryz.prog .lss 3 false false r11.1 r18.1 r18.2) fun r19 =>
  vIf r19.1 (
    bnd (oMv (.int .i64 0) r19.2) fun r20 =>
    bnd (loopO (ref15_Places_L1_L2_L3 call) (rput (rput (rput (rput (rput (rput (rput (rput (rput (rput R (some 14) r11.1) (some 15) r12.1) (some 16) r13.1) (some 17) r14.1) (some 18) r15.1) (some 19) r16.1) (some 20) r17.1) (some 21) r18.1) (some 22) r19.1) (some 6) r20.1) r20.2) fun r43 =>
    kExit 4 r43.1 (
      bnd (oMv (r43.2.1 5) r43.2.2) fun r44 =>
      bnd (oBin Tryz.prog .add 3 false true r44.1 (.int .i64 1) r44.2) fun r45 =>
      bnd (oMv r45.1 r45.2) fun r46 =>
      some (X.normal, (rput (rput (rput r43.2.1 (some 23) r44.1) (some 24) r45.1) (some 5) r46.1), r46.2)) (none)) (
    some (X.exit 2, (rput (rput (rput (rput (rput (rput (rput (rput (rput R (some 14) r11.1) (some 15) r12.1) (some 16) r13.1) (some 17) r14.1) (some 18) r15.1) (some 19) r16.1) (some 20) r17.1) (some 21) r18.1) (some 22) r19.1), r19.2))
noncomputable def ref15_Places_L1 (call : Eng.Callee) (R : Nat → Value) (W : AW) : Option LT :=
  bnd (oMv (R 4) W) fun r5 =>
  bnd (faO 3 (R 1) r5.2) fun r6 =>
  bnd (ldC r6.1 r6.2) fun r7 =>
  bnd (oBuiltin Tryz.prog .len #[22] 3 #[false] [r7.1] r7.2) fun r8 =>
  bnd (oBin Tryz.prog .lss 3 false false r5.1 r8.1 r8.2) fun r9 =>
  vIf r9.1 (
    bnd (oMv (.int .i64 0) r9.2) fun r10 =>
    bnd (loopO (ref15_Places_L1_L2 call) (rput (rput (rput (rput (rput (rput R (some 7) r5.1) (some 8) r6.1) (some 9) r7.1) (some 10) r8.1) (some 11) r9.1) (some 5) r10.1) r10.2) fun r47 =>
    kExit 2 r47.1 (
      bnd (oMv (r47.2.1 4) r47.2.2) fun r48 =>
      bnd (oBin Tryz.prog .add 3 false true r48.1 (.int .i64 1) r48.2) fun r49 =>
      bnd (oMv r49.1 r49.2) fun r50 =>
      some (X.normal, (rput (rput (rput r47.2.1 (some 12) r48.1) (some 13) r49.1) (some 4) r50.1), r50.2)) (none)) (
    some (X.exit 0, (rput (rput (rput (rput (rput R (some 7) r5.1) (some 8) r6.1) (some 9) r7.1) (some 10) r8.1) (some 11) r9.1), r9.2))
noncomputable def ref15_Places (call : Eng.Callee) (x0 : Value) (W : AW) : Option (Value × AW) :=
  bnd (oBox x0 W) fun r1 =>
  bnd (oMv (.slice none 0 0) r1.2) fun r2 =>
  bnd (oMv (.slice none 0 0) r2.2) fun r3 =>
  bnd (oMv (.int .i64 0) r3.2) fun r4 =>
  bnd (loopO (ref15_Places_L1 call) (rput (rput (rput (rput (argGo 0 [x0] PlanTab.blank) (some 1) r1.1) (some 2) r2.1) (some 3) r3.1) (some 4) r4.1) r4.2) fun r51 =>
  kExit 0 r51.1 (
    bnd (oMv (r51.2.1 3) r51.2.2) fun r52 =>
    bnd (oMv r52.1 r52.2) fun r53 =>
    oRes Tryz.prog [(r53.1, none)] r53.2) (none)
theorem ref15_Places_eq (call : Eng.Callee) (x0 : Value) (W : AW) : kFun Tryz.prog call 46 (cod 152) (rss 152) [x0] W = ref15_Places call x0 W := by kernel_rfl
theorem ref15_Places_om {x0 : Value} {W : AW} {r : Value × AW} (h : ref15_Places omS x0 W = some r) : omS (.func (.func 152) #[] #[]) [x0] W = some (gc W r) := om_of (nt := 46) (n := 1) (by kernel_rfl) (by kernel_rfl) rfl ((ref15_Places_eq omS x0 W).trans h)
noncomputable def ref15_within (call : Eng.Callee) (x0 x1 x2 : Value) (W : AW) : Option (Value × AW) :=
  bnd (oMv (.bool false) W) fun r1 =>
  bnd (oMv x0 r1.2) fun r2 =>
  bnd (oMv x1 r2.2) fun r3 =>
  bnd (oBin Tryz.prog .geq 2 false false r2.1 r3.1 r3.2) fun r4 =>
  bnd (oMv r4.1 r4.2) fun r5 =>
  bnd (bIf (wnt r5.1 true) (oMv x0 r5.2) (some (undef, r5.2))) fun r6 =>
  bnd (bIf (wnt r5.1 true) (oMv x2 r6.2) (some (undef, r6.2))) fun r7 =>
  bnd (bIf (wnt r5.1 true) (oBin Tryz.prog .leq 2 false false r6.1 r7.1 r7.2) (some (undef, r7.2))) fun r8 =>
  bnd (oPick r5.1 r8.1 (.bool false) r8.2) fun r9 =>
  bnd (oMv r9.1 r9.2) fun r10 =>
  oRes Tryz.prog [(r10.1, none)] r10.2
theorem ref15_within_eq (call : Eng.Callee) (x0 x1 x2 : Value) (W : AW) : kFun Tryz.prog call 15 (cod 163) (rss 163) [x0, x1, x2] W = ref15_within call x0 x1 x2 W := by kernel_rfl
theorem ref15_within_om {x0 x1 x2 : Value} {W : AW} {r : Value × AW} (h : ref15_within omS x0 x1 x2 W = some r) : omS (.func (.func 163) #[] #[]) [x0, x1, x2] W = some (gc W r) := om_of (nt := 15) (n := 3) (by kernel_rfl) (by kernel_rfl) rfl ((ref15_within_eq omS x0 x1 x2 W).trans h)
noncomputable def ref15_section_L1 (call : Eng.Callee) (R : Nat → Value) (W : AW) : Option LT :=
  bnd (oMv (R 6) W) fun r16 =>
  bnd (oMv (R 1) r16.2) fun r17 =>
  bnd (oBin Tryz.prog .lss 3 false false r16.1 r17.1 r17.2) fun r18 =>
  vIf r18.1 (
    bnd (faO 3 (R 2) r18.2) fun r19 =>
    bnd (ldC r19.1 r19.2) fun r20 =>
    bnd (oMv (R 6) r20.2) fun r21 =>
    bnd (ixS 3 r20.1 r21.1 r21.2) fun r22 =>
    bnd (faO 0 r22.1 r22.2) fun r23 =>
    bnd (ldC r23.1 r23.2) fun r24 =>
    bnd (faO 0 (R 5) r24.2) fun r25 =>
    bnd (ldC r25.1 r25.2) fun r26 =>
    bnd (oBin Tryz.prog .eql 9 false false r24.1 r26.1 r26.2) fun r27 =>
    vIf r27.1 (
      bnd (oMv (.int .i64 8) r27.2) fun r28 =>
      some (X.ret, (rput (rput (rput (rput (rput (rput (rput (rput (rput (rput (rput (rput (rput R (some 17) r16.1) (some 18) r17.1) (some 19) r18.1) (some 22) r19.1) (some 23) r20.1) (some 24) r21.1) (some 25) r22.1) (some 26) r23.1) (some 27) r24.1) (some 28) r25.1) (some 29) r26.1) (some 30) r27.1) (some 4) r28.1), r28.2)) (
      bnd (oMv (R 6) r27.2) fun r29 =>
      bnd (oBin Tryz.prog .add 3 false true r29.1 (.int .i64 1) r29.2) fun r30 =>
      bnd (oMv r30.1 r30.2) fun r31 =>
      some (X.normal, (rput (rput (rput (rput (rput (rput (rput (rput (rput (rput (rput (rput (rput (rput (rput R (some 17) r16.1) (some 18) r17.1) (some 19) r18.1) (some 22) r19.1) (some 23) r20.1) (some 24) r21.1) (some 25) r22.1) (some 26) r23.1) (some 27) r24.1) (some 28) r25.1) (some 29) r26.1) (some 30) r27.1) (some 20) r29.1) (some 21) r30.1) (some 6) r31.1), r31.2))) (
    some (X.exit 0, (rput (rput (rput R (some 17) r16.1) (some 18) r17.1) (some 19) r18.1), r18.2))
noncomputable def ref15_section_L2 (call : Eng.Callee) (R : Nat → Value) (W : AW) : Option LT :=
  bnd (oMv (R 7) W) fun r44 =>
  bnd (faO 1 (R 5) r44.2) fun r45 =>
  bnd (ldC r45.1 r45.2) fun r46 =>
  bnd (oBuiltin Tryz.prog .len #[69] 3 #[false] [r46.1] r46.2) fun r47 =>
  bnd (oBin Tryz.prog .lss 3 false false r44.1 r47.1 r47.2) fun r48 =>
  vIf r48.1 (
    bnd (faO 1 (R 5) r48.2) fun r49 =>
    bnd (ldC r49.1 r49.2) fun r50 =>
    bnd (oMv (R 7) r50.2) fun r51 =>
    bnd (ixS 1 r50.1 r51.1 r51.2) fun r52 =>
    bnd (ldC r52.1 r52.2) fun r53 =>
    bnd (call (fnV 163) [r53.1, (.int .i64 1), (.int .i64 64)] r53.2) fun r54 =>
    bnd (oUn Tryz.prog .not r54.1 r54.2) fun r55 =>
    vIf r55.1 (
      bnd (oMv (.int .i64 7) r55.2) fun r56 =>
      some (X.ret, (rput (rput (rput (rput (rput (rput (rput (rput (rput (rput (rput (rput (rput R (some 39) r44.1) (some 40) r45.1) (some 41) r46.1) (some 42) r47.1) (some 43) r48.1) (some 46) r49.1) (some 47) r50.1) (some 48) r51.1) (some 49) r52.1) (some 50) r53.1) (some 51) r54.1) (some 52) r55.1) (some 4) r56.1), r56.2)) (
      bnd (oMv (R 7) r55.2) fun r57 =>
      bnd (oBin Tryz.prog .add 3 false true r57.1 (.int .i64 1) r57.2) fun r58 =>
      bnd (oMv r58.1 r58.2) fun r59 =>
      some (X.normal, (rput (rput (rput (rput (rput (rput (rput (rput (rput (rput (rput (rput (rput (rput (rput R (some 39) r44.1) (some 40) r45.1) (some 41) r46.1) (some 42) r47.1) (some 43) r48.1) (some 46) r49.1) (some 47) r50.1) (some 48) r51.1) (some 49) r52.1) (some 50) r53.1) (some 51) r54.1) (some 52) r55.1) (some 44) r57.1) (some 45) r58.1) (some 7) r59.1), r59.2))) (
    some (X.exit 2, (rput (rput (rput (rput (rput R (some 39) r44.1) (some 40) r45.1) (some 41) r46.1) (some 42) r47.1) (some 43) r48.1), r48.2))
noncomputable def ref15_section (call : Eng.Callee) (x0 x1 : Value) (W : AW) : Option (Value × AW) :=
  bnd (oBox x0 W) fun r1 =>
  bnd (oMv (.int .i64 0) r1.2) fun r2 =>
  bnd (faO 3 r1.1 r2.2) fun r3 =>
  bnd (ldC r3.1 r3.2) fun r4 =>
  bnd (oMv x1 r4.2) fun r5 =>
  bnd (ixS 3 r4.1 r5.1 r5.2) fun r6 =>
  bnd (ldA 3 r6.1 r6.2) fun r7 =>
  bnd (oAlloc Tryz.prog 130 r7.2) fun r8 =>
  bnd (stV 3 r8.1 r7.1 r8.2) fun r9 =>
  bnd (faO 0 r8.1 r9.2) fun r10 =>
  bnd (ldC r10.1 r10.2) fun r11 =>
  bnd (call (fnV 221) [r11.1] r11.2) fun r12 =>
  bnd (oUn Tryz.prog .not r12.1 r12.2) fun r13 =>
  vIf r13.1 (
    bnd (oMv (.int .i64 6) r13.2) fun r14 =>
    oRes Tryz.prog [(r14.1, none)] r14.2) (
    bnd (oMv (.int .i64 0) r13.2) fun r15 =>
    bnd (loopO (ref15_section_L1 call) (rput (rput (rput (rput (rput (rput (rput (rput (rput (rput (rput (rput (rput (argGo 0 [x0, x1] PlanTab.blank) (some 2) r1.1) (some 4) r2.1) (some 8) r3.1) (some 9) r4.1) (some 10) r5.1) (some 11) r6.1) (some 12) r7.1) (some 5) r8.1) (some 13) r10.1) (some 14) r11.1) (some 15) r12.1) (some 16) r13.1) (some 6) r15.1) r15.2) fun r32 =>
    kExit 0 r32.1 (
      bnd (faO 1 (r32.2.1 5) r32.2.2) fun r33 =>
      bnd (ldC r33.1 r33.2) fun r34 =>
      bnd (oBuiltin Tryz.prog .len #[69] 3 #[false] [r34.1] r34.2) fun r35 =>
      bnd (oBin Tryz.prog .eql 3 false true r35.1 (.int .i64 0) r35.2) fun r36 =>
      vIf r36.1 (
        bnd (oMv (.int .i64 6) r36.2) fun r37 =>
        oRes Tryz.prog [(r37.1, none)] r37.2) (
        bnd (faO 1 (r32.2.1 5) r36.2) fun r38 =>
        bnd (ldC r38.1 r38.2) fun r39 =>
        bnd (oBuiltin Tryz.prog .len #[69] 3 #[false] [r39.1] r39.2) fun r40 =>
        bnd (oBin Tryz.prog .gtr 3 false true r40.1 (.int .i64 16) r40.2) fun r41 =>
        vIf r41.1 (
          bnd (oMv (.int .i64 3) r41.2) fun r42 =>
          oRes Tryz.prog [(r42.1, none)] r42.2) (
          bnd (oMv (.int .i64 0) r41.2) fun r43 =>
          bnd (loopO (ref15_section_L2 call) (rput (rput (rput (rput (rput (rput (rput (rput (rput r32.2.1 (some 31) r33.1) (some 32) r34.1) (some 33) r35.1) (some 34) r36.1) (some 35) r38.1) (some 36) r39.1) (some 37) r40.1) (some 38) r41.1) (some 7) r43.1) r43.2) fun r60 =>
          kExit 2 r60.1 (
            bnd (faO 2 (r60.2.1 5) r60.2.2) fun r61 =>
            bnd (ldC r61.1 r61.2) fun r62 =>
            bnd (call (fnV 163) [r62.1, (.int .i64 0), (.int .i64 64)] r62.2) fun r63 =>
            bnd (oUn Tryz.prog .not r63.1 r63.2) fun r64 =>
            vIf r64.1 (
              bnd (oMv (.int .i64 7) r64.2) fun r65 =>
              oRes Tryz.prog [(r65.1, none)] r65.2) (
              bnd (oMv (.int .i64 0) r64.2) fun r66 =>
              oRes Tryz.prog [(r66.1, none)] r66.2)) (kRetX r60.1 (
            oRes Tryz.prog [((r60.2.1 4), none)] r60.2.2))))) (kRetX r32.1 (
      oRes Tryz.prog [((r32.2.1 4), none)] r32.2.2)))
theorem ref15_section_eq (call : Eng.Callee) (x0 x1 : Value) (W : AW) : kFun Tryz.prog call 57 (cod 164) (rss 164) [x0, x1] W = ref15_section call x0 x1 W := by kernel_rfl
theorem ref15_section_om {x0 x1 : Value} {W : AW} {r : Value × AW} (h : ref15_section omS x0 x1 W = some r) : omS (.func (.func 164) #[] #[]) [x0, x1] W = some (gc W r) := om_of (nt := 57) (n := 2) (by kernel_rfl) (by kernel_rfl) rfl ((ref15_section_eq omS x0 x1 W).trans h)
noncomputable def ref24_called_L1 (call : Eng.Callee) (R : Nat → Value) (W : AW) : Option LT :=
  bnd (oMv (R 7) W) fun r3 =>
  bnd (oMv (R 1) r3.2) fun r4 =>
  bnd (oBin Tryz.prog .lss 3 false false r3.1 r4.1 r4.2) fun r5 =>
  vIf r5.1 (
    bnd (oMv (R 0) r5.2) fun r6 =>
    bnd (oMv (R 7) r6.2) fun r7 =>
    bnd (ixS 24 r6.1 r7.1 r7.2) fun r8 =>
    bnd (faO 2 r8.1 r8.2) fun r9 =>
    bnd (ldC r9.1 r9.2) fun r10 =>
    bnd (oUn Tryz.prog .not r10.1 r10.2) fun r11 =>
    bnd (oMv r11.1 r11.2) fun r12 =>
    bnd (bIf (wnt r12.1 true) (oMv (R 0) r12.2) (some (undef, r12.2))) fun r13 =>
    bnd (bIf (wnt r12.1 true) (oMv (R 7) r13.2) (some (undef, r13.2))) fun r14 =>
    bnd (bIf (wnt r12.1 true) (ixS 24 r13.1 r14.1 r14.2) (some (undef, r14.2))) fun r15 =>
    bnd (bIf (wnt r12.1 true) (faO 0 r15.1 r15.2) (some (undef, r15.2))) fun r16 =>
    bnd (bIf (wnt r12.1 true) (ldC r16.1 r16.2) (some (undef, r16.2))) fun r17 =>
    bnd (bIf (wnt r12.1 true) (oMv (R 2) r17.2) (some (undef, r17.2))) fun r18 =>
    bnd (bIf (wnt r12.1 true) (oBin Tryz.prog .eql 3 false false r17.1 r18.1 r18.2) (some (undef, r18.2))) fun r19 =>
    bnd (oPick r12.1 r19.1 (.bool false) r19.2) fun r20 =>
    vIf r20.1 (
      bnd (oMv (R 7) r20.2) fun r21 =>
      bnd (oMv r21.1 r21.2) fun r22 =>
      some (X.ret, (rput (rput (rput (rput (rput (rput (rput (rput (rput (rput (rput (rput (rput (rput (rput (rput (rput (rput (rput (rput R (some 8) r3.1) (some 9) r4.1) (some 10) r5.1) (some 13) r6.1) (some 14) r7.1) (some 15) r8.1) (some 16) r9.1) (some 17) r10.1) (some 18) r11.1) (some 19) r12.1) (some 20) r13.1) (some 21) r14.1) (some 22) r15.1) (some 23) r16.1) (some 24) r17.1) (some 25) r18.1) (some 26) r19.1) (some 27) r20.1) (some 28) r21.1) (some 6) r22.1), r22.2)) (
      bnd (oMv (R 7) r20.2) fun r23 =>
      bnd (oBin Tryz.prog .add 3 false true r23.1 (.int .i64 1) r23.2) fun r24 =>
      bnd (oMv r24.1 r24.2) fun r25 =>
      some (X.normal, (rput (rput (rput (rput (rput (rput (rput (rput (rput (rput (rput (rput (rput (rput (rput (rput (rput (rput (rput (rput (rput R (some 8) r3.1) (some 9) r4.1) (some 10) r5.1) (some 13) r6.1) (some 14) r7.1) (some 15) r8.1) (some 16) r9.1) (some 17) r10.1) (some 18) r11.1) (some 19) r12.1) (some 20) r13.1) (some 21) r14.1) (some 22) r15.1) (some 23) r16.1) (some 24) r17.1) (some 25) r18.1) (some 26) r19.1) (some 27) r20.1) (some 11) r23.1) (some 12) r24.1) (some 7) r25.1), r25.2))) (
    some (X.exit 0, (rput (rput (rput R (some 8) r3.1) (some 9) r4.1) (some 10) r5.1), r5.2))
noncomputable def ref24_called (call : Eng.Callee) (x0 x1 x2 : Value) (W : AW) : Option (Value × AW) :=
  bnd (oMv (.int .i64 0) W) fun r1 =>
  bnd (oMv (.int .i64 0) r1.2) fun r2 =>
  bnd (loopO (ref24_called_L1 call) (rput (rput (argGo 0 [x0, x1, x2] PlanTab.blank) (some 6) r1.1) (some 7) r2.1) r2.2) fun r26 =>
  kExit 0 r26.1 (
    bnd (oMv (.int .i64 (-1)) r26.2.2) fun r27 =>
    oRes Tryz.prog [(r27.1, none)] r27.2) (kRetX r26.1 (
    oRes Tryz.prog [((r26.2.1 6), none)] r26.2.2))
theorem ref24_called_eq (call : Eng.Callee) (x0 x1 x2 : Value) (W : AW) : kFun Tryz.prog call 29 (cod 165) (rss 165) [x0, x1, x2] W = ref24_called call x0 x1 x2 W := by kernel_rfl
theorem ref24_called_om {x0 x1 x2 : Value} {W : AW} {r : Value × AW} (h : ref24_called omS x0 x1 x2 W = some r) : omS (.func (.func 165) #[] #[]) [x0, x1, x2] W = some (gc W r) := om_of (nt := 29) (n := 3) (by kernel_rfl) (by kernel_rfl) rfl ((ref24_called_eq omS x0 x1 x2 W).trans h)
noncomputable def ref24_returned_L1 (call : Eng.Callee) (R : Nat → Value) (W : AW) : Option LT :=
  bnd (oMv (R 7) W) fun r3 =>
  bnd (oMv (R 1) r3.2) fun r4 =>
  bnd (oBin Tryz.prog .lss 3 false false r3.1 r4.1 r4.2) fun r5 =>
  vIf r5.1 (
    bnd (oMv (R 0) r5.2) fun r6 =>
    bnd (oMv (R 7) r6.2) fun r7 =>
    bnd (ixS 24 r6.1 r7.1 r7.2) fun r8 =>
    bnd (faO 2 r8.1 r8.2) fun r9 =>
    bnd (ldC r9.1 r9.2) fun r10 =>
    bnd (oMv r10.1 r10.2) fun r11 =>
    bnd (bIf (wnt r11.1 true) (oMv (R 0) r11.2) (some (undef, r11.2))) fun r12 =>
    bnd (bIf (wnt r11.1 true) (oMv (R 7) r12.2) (some (undef, r12.2))) fun r13 =>
    bnd (bIf (wnt r11.1 true) (ixS 24 r12.1 r13.1 r13.2) (some (undef, r13.2))) fun r14 =>
    bnd (bIf (wnt r11.1 true) (faO 0 r14.1 r14.2) (some (undef, r14.2))) fun r15 =>
    bnd (bIf (wnt r11.1 true) (ldC r15.1 r15.2) (some (undef, r15.2))) fun r16 =>
    bnd (bIf (wnt r11.1 true) (oMv (R 2) r16.2) (some (undef, r16.2))) fun r17 =>
    bnd (bIf (wnt r11.1 true) (oBin Tryz.prog .eql 3 false false r16.1 r17.1 r17.2) (some (undef, r17.2))) fun r18 =>
    bnd (oPick r11.1 r18.1 (.bool false) r18.2) fun r19 =>
    vIf r19.1 (
      bnd (oMv (R 7) r19.2) fun r20 =>
      bnd (oMv r20.1 r20.2) fun r21 =>
      some (X.ret, (rput (rput (rput (rput (rput (rput (rput (rput (rput (rput (rput (rput (rput (rput (rput (rput (rput (rput (rput R (some 8) r3.1) (some 9) r4.1) (some 10) r5.1) (some 13) r6.1) (some 14) r7.1) (some 15) r8.1) (some 16) r9.1) (some 17) r10.1) (some 18) r11.1) (some 19) r12.1) (some 20) r13.1) (some 21) r14.1) (some 22) r15.1) (some 23) r16.1) (some 24) r17.1) (some 25) r18.1) (some 26) r19.1) (some 27) r20.1) (some 6) r21.1), r21.2)) (
      bnd (oMv (R 7) r19.2) fun r22 =>
      bnd (oBin Tryz.prog .add 3 false true r22.1 (.int .i64 1) r22.2) fun r23 =>
      bnd (oMv r23.1 r23.2) fun r24 =>
      some (X.normal, (rput (rput (rput (rput (rput (rput (rput (rput (rput (rput (rput (rput (rput (rput (rput (rput (rput (rput (rput (rput R (some 8) r3.1) (some 9) r4.1) (some 10) r5.1) (some 13) r6.1) (some 14) r7.1) (some 15) r8.1) (some 16) r9.1) (some 17) r10.1) (some 18) r11.1) (some 19) r12.1) (some 20) r13.1) (some 21) r14.1) (some 22) r15.1) (some 23) r16.1) (some 24) r17.1) (some 25) r18.1) (some 26) r19.1) (some 11) r22.1) (some 12) r23.1) (some 7) r24.1), r24.2))) (
    some (X.exit 0, (rput (rput (rput R (some 8) r3.1) (some 9) r4.1) (some 10) r5.1), r5.2))
noncomputable def ref24_returned (call : Eng.Callee) (x0 x1 x2 : Value) (W : AW) : Option (Value × AW) :=
  bnd (oMv (.int .i64 0) W) fun r1 =>
  bnd (oMv (.int .i64 0) r1.2) fun r2 =>
  bnd (loopO (ref24_returned_L1 call) (rput (rput (argGo 0 [x0, x1, x2] PlanTab.blank) (some 6) r1.1) (some 7) r2.1) r2.2) fun r25 =>
  kExit 0 r25.1 (
    bnd (oMv (.int .i64 (-1)) r25.2.2) fun r26 =>
    oRes Tryz.prog [(r26.1, none)] r26.2) (kRetX r25.1 (
    oRes Tryz.prog [((r25.2.1 6), none)] r25.2.2))
theorem ref24_returned_eq (call : Eng.Callee) (x0 x1 x2 : Value) (W : AW) : kFun Tryz.prog call 28 (cod 166) (rss 166) [x0, x1, x2] W = ref24_returned call x0 x1 x2 W := by kernel_rfl
theorem ref24_returned_om {x0 x1 x2 : Value} {W : AW} {r : Value × AW} (h : ref24_returned omS x0 x1 x2 W = some r) : omS (.func (.func 166) #[] #[]) [x0, x1, x2] W = some (gc W r) := om_of (nt := 28) (n := 3) (by kernel_rfl) (by kernel_rfl) rfl ((ref24_returned_eq omS x0 x1 x2 W).trans h)
noncomputable def slices_ContainsFuncintint (call : Eng.Callee) (x0 x1 : Value) (W : AW) : Option (Value × AW) :=
  bnd (oMv (.bool false) W) fun r1 =>
  bnd (oMv x0 r1.2) fun r2 =>
  bnd (oMv x1 r2.2) fun r3 =>
  bnd (call (fnV 222) [r2.1, r3.1] r3.2) fun r4 =>
  bnd (oBin Tryz.prog .geq 3 false true r4.1 (.int .i64 0) r4.2) fun r5 =>
  bnd (oMv r5.1 r5.2) fun r6 =>
  oRes Tryz.prog [(r6.1, none)] r6.2
theorem slices_ContainsFuncintint_eq (call : Eng.Callee) (x0 x1 : Value) (W : AW) : kFun Tryz.prog call 9 (cod 169) (rss 169) [x0, x1] W = slices_ContainsFuncintint call x0 x1 W := by kernel_rfl
theorem slices_ContainsFuncintint_om {x0 x1 : Value} {W : AW} {r : Value × AW} (h : slices_ContainsFuncintint omS x0 x1 W = some r) : omS (.func (.func 169) #[] #[]) [x0, x1] W = some (gc W r) := om_of (nt := 9) (n := 2) (by kernel_rfl) (by kernel_rfl) rfl ((slices_ContainsFuncintint_eq omS x0 x1 W).trans h)
noncomputable def venue_outsideint (call : Eng.Callee) (x0 x1 x2 : Value) (W : AW) : Option (Value × AW) :=
  bnd (oMv (.bool false) W) fun r1 =>
  bnd (oMv x0 r1.2) fun r2 =>
  bnd (oMv x1 r2.2) fun r3 =>
  bnd (oBin Tryz.prog .lss 3 false false r2.1 r3.1 r3.2) fun r4 =>
  bnd (oMv r4.1 r4.2) fun r5 =>
  bnd (bIf (wnt r5.1 false) (oMv x0 r5.2) (some (undef, r5.2))) fun r6 =>
  bnd (bIf (wnt r5.1 false) (oMv x2 r6.2) (some (undef, r6.2))) fun r7 =>
  bnd (bIf (wnt r5.1 false) (oBin Tryz.prog .gtr 3 false false r6.1 r7.1 r7.2) (some (undef, r7.2))) fun r8 =>
  bnd (oPick r5.1 (.bool true) r8.1 r8.2) fun r9 =>
  bnd (oMv r9.1 r9.2) fun r10 =>
  oRes Tryz.prog [(r10.1, none)] r10.2
theorem venue_outsideint_eq (call : Eng.Callee) (x0 x1 x2 : Value) (W : AW) : kFun Tryz.prog call 15 (cod 187) (rss 187) [x0, x1, x2] W = venue_outsideint call x0 x1 x2 W := by kernel_rfl
theorem venue_outsideint_om {x0 x1 x2 : Value} {W : AW} {r : Value × AW} (h : venue_outsideint omS x0 x1 x2 W = some r) : omS (.func (.func 187) #[] #[]) [x0, x1, x2] W = some (gc W r) := om_of (nt := 15) (n := 3) (by kernel_rfl) (by kernel_rfl) rfl ((venue_outsideint_eq omS x0 x1 x2 W).trans h)
noncomputable def venue_outsideint64 (call : Eng.Callee) (x0 x1 x2 : Value) (W : AW) : Option (Value × AW) :=
  bnd (oMv (.bool false) W) fun r1 =>
  bnd (oMv x0 r1.2) fun r2 =>
  bnd (oMv x1 r2.2) fun r3 =>
  bnd (oBin Tryz.prog .lss 2 false false r2.1 r3.1 r3.2) fun r4 =>
  bnd (oMv r4.1 r4.2) fun r5 =>
  bnd (bIf (wnt r5.1 false) (oMv x0 r5.2) (some (undef, r5.2))) fun r6 =>
  bnd (bIf (wnt r5.1 false) (oMv x2 r6.2) (some (undef, r6.2))) fun r7 =>
  bnd (bIf (wnt r5.1 false) (oBin Tryz.prog .gtr 2 false false r6.1 r7.1 r7.2) (some (undef, r7.2))) fun r8 =>
  bnd (oPick r5.1 (.bool true) r8.1 r8.2) fun r9 =>
  bnd (oMv r9.1 r9.2) fun r10 =>
  oRes Tryz.prog [(r10.1, none)] r10.2
theorem venue_outsideint64_eq (call : Eng.Callee) (x0 x1 x2 : Value) (W : AW) : kFun Tryz.prog call 15 (cod 188) (rss 188) [x0, x1, x2] W = venue_outsideint64 call x0 x1 x2 W := by kernel_rfl
theorem venue_outsideint64_om {x0 x1 x2 : Value} {W : AW} {r : Value × AW} (h : venue_outsideint64 omS x0 x1 x2 W = some r) : omS (.func (.func 188) #[] #[]) [x0, x1, x2] W = some (gc W r) := om_of (nt := 15) (n := 3) (by kernel_rfl) (by kernel_rfl) rfl ((venue_outsideint64_eq omS x0 x1 x2 W).trans h)
noncomputable def venue_check (call : Eng.Callee) (x0 x1 : Value) (W : AW) : Option (Value × AW) :=
  bnd (oBox x0 W) fun r1 =>
  bnd (oMv (.int .i64 0) r1.2) fun r2 =>
  bnd (faO 0 r1.1 r2.2) fun r3 =>
  bnd (ldC r3.1 r3.2) fun r4 =>
  bnd (call (fnV 233) [r4.1] r4.2) fun r5 =>
  bnd (oUn Tryz.prog .not r5.1 r5.2) fun r6 =>
  bnd (oMv r6.1 r6.2) fun r7 =>
  vIf r7.1 (
    bnd (oMv (.int .i64 6) r7.2) fun r8 =>
    oRes Tryz.prog [(r8.1, none)] r8.2) (
    bnd (oMv x1 r7.2) fun r9 =>
    bnd (oMkFunc (.func 235) #[] #[r1.1] r9.2) fun r10 =>
    bnd (call (fnV 234) [r9.1, r10.1] r10.2) fun r11 =>
    bnd (oMv r11.1 r11.2) fun r12 =>
    vIf r12.1 (
      bnd (oMv (.int .i64 8) r12.2) fun r13 =>
      oRes Tryz.prog [(r13.1, none)] r13.2) (
      bnd (faO 1 r1.1 r12.2) fun r14 =>
      bnd (ldC r14.1 r14.2) fun r15 =>
      bnd (oBuiltin Tryz.prog .len #[69] 3 #[false] [r15.1] r15.2) fun r16 =>
      bnd (oBin Tryz.prog .eql 3 false true r16.1 (.int .i64 0) r16.2) fun r17 =>
      bnd (oMv r17.1 r17.2) fun r18 =>
      vIf r18.1 (
        bnd (oMv (.int .i64 6) r18.2) fun r19 =>
        oRes Tryz.prog [(r19.1, none)] r19.2) (
        bnd (faO 1 r1.1 r18.2) fun r20 =>
        bnd (ldC r20.1 r20.2) fun r21 =>
        bnd (oBuiltin Tryz.prog .len #[69] 3 #[false] [r21.1] r21.2) fun r22 =>
        bnd (oBin Tryz.prog .gtr 3 false true r22.1 (.int .i64 16) r22.2) fun r23 =>
        bnd (oMv r23.1 r23.2) fun r24 =>
        vIf r24.1 (
          bnd (oMv (.int .i64 3) r24.2) fun r25 =>
          oRes Tryz.prog [(r25.1, none)] r25.2) (
          bnd (faO 1 r1.1 r24.2) fun r26 =>
          bnd (ldC r26.1 r26.2) fun r27 =>
          bnd (call (fnV 169) [r27.1, (fnV 236)] r27.2) fun r28 =>
          bnd (oMv r28.1 r28.2) fun r29 =>
          vIf r29.1 (
            bnd (oMv (.int .i64 7) r29.2) fun r30 =>
            oRes Tryz.prog [(r30.1, none)] r30.2) (
            bnd (faO 2 r1.1 r29.2) fun r31 =>
            bnd (ldC r31.1 r31.2) fun r32 =>
            bnd (call (fnV 187) [r32.1, (.int .i64 0), (.int .i64 64)] r32.2) fun r33 =>
            bnd (oMv r33.1 r33.2) fun r34 =>
            vIf r34.1 (
              bnd (oMv (.int .i64 7) r34.2) fun r35 =>
              oRes Tryz.prog [(r35.1, none)] r35.2) (
              bnd (oMv (.int .i64 0) r34.2) fun r36 =>
              oRes Tryz.prog [(r36.1, none)] r36.2))))))
theorem venue_check_eq (call : Eng.Callee) (x0 x1 : Value) (W : AW) : kFun Tryz.prog call 32 (cod 189) (rss 189) [x0, x1] W = venue_check call x0 x1 W := by kernel_rfl
theorem venue_check_om {x0 x1 : Value} {W : AW} {r : Value × AW} (h : venue_check omS x0 x1 W = some r) : omS (.func (.func 189) #[] #[]) [x0, x1] W = some (gc W r) := om_of (nt := 32) (n := 2) (by kernel_rfl) (by kernel_rfl) rfl ((venue_check_eq omS x0 x1 W).trans h)
noncomputable def ref01_Name_L1 (call : Eng.Callee) (R : Nat → Value) (W : AW) : Option LT :=
  bnd (oMv (R 3) W) fun r18 =>
  bnd (oMv (R 0) r18.2) fun r19 =>
  bnd (oBuiltin Tryz.prog .len #[9] 3 #[false] [r19.1] r19.2) fun r20 =>
  bnd (oBin Tryz.prog .lss 3 false false r18.1 r20.1 r20.2) fun r21 =>
  vIf r21.1 (
    bnd (oMv (R 0) r21.2) fun r22 =>
    bnd (oMv (R 3) r22.2) fun r23 =>
    bnd (oIndex Tryz.prog 9 r22.1 r23.1 r23.2) fun r24 =>
    bnd (call (fnV 252) [r24.1] r24.2) fun r25 =>
    bnd (oUn Tryz.prog .not r25.1 r25.2) fun r26 =>
    bnd (oMv r26.1 r26.2) fun r27 =>
    bnd (bIf (wnt r27.1 true) (oMv (R 0) r27.2) (some (undef, r27.2))) fun r28 =>
    bnd (bIf (wnt r27.1 true) (oMv (R 3) r28.2) (some (undef, r28.2))) fun r29 =>
    bnd (bIf (wnt r27.1 true) (oIndex Tryz.prog 9 r28.1 r29.1 r29.2) (some (undef, r29.2))) fun r30 =>
    bnd (bIf (wnt r27.1 true) (call (fnV 253) [r30.1] r30.2) (some (undef, r30.2))) fun r31 =>
    bnd (bIf (wnt r27.1 true) (oUn Tryz.prog .not r31.1 r31.2) (some (undef, r31.2))) fun r32 =>
    bnd (oPick r27.1 r32.1 (.bool false) r32.2) fun r33 =>
    bnd (oMv r33.1 r33.2) fun r34 =>
    bnd (bIf (wnt r34.1 true) (oMv (R 0) r34.2) (some (undef, r34.2))) fun r35 =>
    bnd (bIf (wnt r34.1 true) (oMv (R 3) r35.2) (some (undef, r35.2))) fun r36 =>
    bnd (bIf (wnt r34.1 true) (oIndex Tryz.prog 9 r35.1 r36.1 r36.2) (some (undef, r36.2))) fun r37 =>
    bnd (bIf (wnt r34.1 true) (oBin Tryz.prog .neq 5 false true r37.1 (.int .u8 45) r37.2) (some (undef, r37.2))) fun r38 =>
    bnd (oPick r34.1 r38.1 (.bool false) r38.2) fun r39 =>
    vIf r39.1 (
      bnd (oMv (.bool false) r39.2) fun r40 =>
      some (X.ret, (rput (rput (rput (rput (rput (rput (rput (rput (rput (rput (rput (rput (rput (rput (rput (rput (rput (rput (rput (rput (rput (rput (rput R (some 18) r18.1) (some 19) r19.1) (some 20) r20.1) (some 21) r21.1) (some 24) r22.1) (some 25) r23.1) (some 26) r24.1) (some 27) r25.1) (some 28) r26.1) (some 29) r27.1) (some 30) r28.1) (some 31) r29.1) (some 32) r30.1) (some 33) r31.1) (some 34) r32.1) (some 35) r33.1) (some 36) r34.1) (some 37) r35.1) (some 38) r36.1) (some 39) r37.1) (some 40) r38.1) (some 41) r39.1) (some 2) r40.1), r40.2)) (
      bnd (oMv (R 3) r39.2) fun r41 =>
      bnd (oBin Tryz.prog .add 3 false true r41.1 (.int .i64 1) r41.2) fun r42 =>
      bnd (oMv r42.1 r42.2) fun r43 =>
      some (X.normal, (rput (rput (rput (rput (rput (rput (rput (rput (rput (rput (rput (rput (rput (rput (rput (rput (rput (rput (rput (rput (rput (rput (rput (rput (rput R (some 18) r18.1) (some 19) r19.1) (some 20) r20.1) (some 21) r21.1) (some 24) r22.1) (some 25) r23.1) (some 26) r24.1) (some 27) r25.1) (some 28) r26.1) (some 29) r27.1) (some 30) r28.1) (some 31) r29.1) (some 32) r30.1) (some 33) r31.1) (some 34) r32.1) (some 35) r33.1) (some 36) r34.1) (some 37) r35.1) (some 38) r36.1) (some 39) r37.1) (some 40) r38.1) (some 41) r39.1) (some 22) r41.1) (some 23) r42.1) (some 3) r43.1), r43.2))) (
    some (X.exit 0, (rput (rput (rput (rput R (some 18) r18.1) (some 19) r19.1) (some 20) r20.1) (some 21) r21.1), r21.2))
noncomputable def ref01_Name (call : Eng.Callee) (x0 : Value) (W : AW) : Option (Value × AW) :=
  bnd (oMv (.bool false) W) fun r1 =>
  bnd (oMv x0 r1.2) fun r2 =>
  bnd (oBuiltin Tryz.prog .len #[9] 3 #[false] [r2.1] r2.2) fun r3 =>
  bnd (oBin Tryz.prog .lss 3 false true r3.1 (.int .i64 1) r3.2) fun r4 =>
  bnd (oMv r4.1 r4.2) fun r5 =>
  bnd (bIf (wnt r5.1 false) (oMv x0 r5.2) (some (undef, r5.2))) fun r6 =>
  bnd (bIf (wnt r5.1 false) (oBuiltin Tryz.prog .len #[9] 3 #[false] [r6.1] r6.2) (some (undef, r6.2))) fun r7 =>
  bnd (bIf (wnt r5.1 false) (oBin Tryz.prog .gtr 3 false true r7.1 (.int .i64 16) r7.2) (some (undef, r7.2))) fun r8 =>
  bnd (oPick r5.1 (.bool true) r8.1 r8.2) fun r9 =>
  bnd (oMv r9.1 r9.2) fun r10 =>
  bnd (bIf (wnt r10.1 false) (oMv x0 r10.2) (some (undef, r10.2))) fun r11 =>
  bnd (bIf (wnt r10.1 false) (oIndex Tryz.prog 9 r11.1 (.int .i64 0) r11.2) (some (undef, r11.2))) fun r12 =>
  bnd (bIf (wnt r10.1 false) (call (fnV 252) [r12.1] r12.2) (some (undef, r12.2))) fun r13 =>
  bnd (bIf (wnt r10.1 false) (oUn Tryz.prog .not r13.1 r13.2) (some (undef, r13.2))) fun r14 =>
  bnd (oPick r10.1 (.bool true) r14.1 r14.2) fun r15 =>
  vIf r15.1 (
    bnd (oMv (.bool false) r15.2) fun r16 =>
    oRes Tryz.prog [(r16.1, none)] r16.2) (
    bnd (oMv (.int .i64 0) r15.2) fun r17 =>
    bnd (loopO (ref01_Name_L1 call) (rput (rput (rput (rput (rput (rput (rput (rput (rput (rput (rput (rput (rput (rput (rput (rput (argGo 0 [x0] PlanTab.blank) (some 2) r1.1) (some 4) r2.1) (some 5) r3.1) (some 6) r4.1) (some 7) r5.1) (some 8) r6.1) (some 9) r7.1) (some 10) r8.1) (some 11) r9.1) (some 12) r10.1) (some 13) r11.1) (some 14) r12.1) (some 15) r13.1) (some 16) r14.1) (some 17) r15.1) (some 3) r17.1) r17.2) fun r44 =>
    kExit 0 r44.1 (
      bnd (oMv (.bool true) r44.2.2) fun r45 =>
      oRes Tryz.prog [(r45.1, none)] r45.2) (kRetX r44.1 (
      oRes Tryz.prog [((r44.2.1 2), none)] r44.2.2)))
theorem ref01_Name_eq (call : Eng.Callee) (x0 : Value) (W : AW) : kFun Tryz.prog call 42 (cod 221) (rss 221) [x0] W = ref01_Name call x0 W := by kernel_rfl
theorem ref01_Name_om {x0 : Value} {W : AW} {r : Value × AW} (h : ref01_Name omS x0 W = some r) : omS (.func (.func 221) #[] #[]) [x0] W = some (gc W r) := om_of (nt := 42) (n := 1) (by kernel_rfl) (by kernel_rfl) rfl ((ref01_Name_eq omS x0 W).trans h)
noncomputable def slices_IndexFuncintint_L1 (call : Eng.Callee) (R : Nat → Value) (W : AW) : Option LT :=
  bnd (oBin Tryz.prog .lss 3 false false (R 8) (R 7) W) fun r5 =>
  vIf r5.1 (
    bnd (oMv (R 8) r5.2) fun r6 =>
    bnd (oMv r6.1 r6.2) fun r7 =>
    bnd (oMv (R 1) r7.2) fun r8 =>
    bnd (oMv (R 0) r8.2) fun r9 =>
    bnd (oMv r7.1 r9.2) fun r10 =>
    bnd (ixS 1 r9.1 r10.1 r10.2) fun r11 =>
    bnd (ldC r11.1 r11.2) fun r12 =>
    bnd (call r8.1 [r12.1] r12.2) fun r13 =>
    vIf r13.1 (
      bnd (oMv r7.1 r13.2) fun r14 =>
      bnd (oMv r14.1 r14.2) fun r15 =>
      some (X.ret, (rput (rput (rput (rput (rput (rput (rput (rput (rput (rput (rput R (some 9) r5.1) (some 10) r6.1) (some 5) r7.1) (some 11) r8.1) (some 12) r9.1) (some 13) r10.1) (some 14) r11.1) (some 15) r12.1) (some 16) r13.1) (some 17) r14.1) (some 4) r15.1), r15.2)) (
      bnd (oBin Tryz.prog .add 3 false true (R 8) (.int .i64 1) r13.2) fun r16 =>
      bnd (oMv r16.1 r16.2) fun r17 =>
      some (X.normal, (rput (rput (rput (rput (rput (rput (rput (rput (rput (rput (rput R (some 9) r5.1) (some 10) r6.1) (some 5) r7.1) (some 11) r8.1) (some 12) r9.1) (some 13) r10.1) (some 14) r11.1) (some 15) r12.1) (some 16) r13.1) (some 18) r16.1) (some 8) r17.1), r17.2))) (
    some (X.exit 0, (rput R (some 9) r5.1), r5.2))
noncomputable def slices_IndexFuncintint (call : Eng.Callee) (x0 x1 : Value) (W : AW) : Option (Value × AW) :=
  bnd (oMv (.int .i64 0) W) fun r1 =>
  bnd (oMv x0 r1.2) fun r2 =>
  bnd (oBuiltin Tryz.prog .len #[69] 3 #[false] [r2.1] r2.2) fun r3 =>
  bnd (oMv (.int .i64 0) r3.2) fun r4 =>
  bnd (loopO (slices_IndexFuncintint_L1 call) (rput (rput (rput (rput (argGo 0 [x0, x1] PlanTab.blank) (some 4) r1.1) (some 6) r2.1) (some 7) r3.1) (some 8) r4.1) r4.2) fun r18 =>
  kExit 0 r18.1 (
    bnd (oMv (.int .i64 (-1)) r18.2.2) fun r19 =>
    oRes Tryz.prog [(r19.1, none)] r19.2) (kRetX r18.1 (
    oRes Tryz.prog [((r18.2.1 4), none)] r18.2.2))
theorem slices_IndexFuncintint_eq (call : Eng.Callee) (x0 x1 : Value) (W : AW) : kFun Tryz.prog call 19 (cod 222) (rss 222) [x0, x1] W = slices_IndexFuncintint call x0 x1 W := by kernel_rfl
theorem slices_IndexFuncintint_om {x0 x1 : Value} {W : AW} {r : Value × AW} (h : slices_IndexFuncintint omS x0 x1 W = some r) : omS (.func (.func 222) #[] #[]) [x0, x1] W = some (gc W r) := om_of (nt := 19) (n := 2) (by kernel_rfl) (by kernel_rfl) rfl ((slices_IndexFuncintint_eq omS x0 x1 W).trans h)
noncomputable def words_Name (call : Eng.Callee) (x0 : Value) (W : AW) : Option (Value × AW) :=
  bnd (oMv (.bool false) W) fun r1 =>
  bnd (oMv x0 r1.2) fun r2 =>
  bnd (oBin Tryz.prog .eql 9 false true r2.1 (strV []) r2.2) fun r3 =>
  bnd (oMv r3.1 r3.2) fun r4 =>
  bnd (bIf (wnt r4.1 false) (oMv x0 r4.2) (some (undef, r4.2))) fun r5 =>
  bnd (bIf (wnt r4.1 false) (oBuiltin Tryz.prog .len #[9] 3 #[false] [r5.1] r5.2) (some (undef, r5.2))) fun r6 =>
  bnd (bIf (wnt r4.1 false) (oBin Tryz.prog .gtr 3 false true r6.1 (.int .i64 16) r6.2) (some (undef, r6.2))) fun r7 =>
  bnd (oPick r4.1 (.bool true) r7.1 r7.2) fun r8 =>
  bnd (oMv r8.1 r8.2) fun r9 =>
  bnd (bIf (wnt r9.1 false) (oMv x0 r9.2) (some (undef, r9.2))) fun r10 =>
  bnd (bIf (wnt r9.1 false) (oIndex Tryz.prog 9 r10.1 (.int .i64 0) r10.2) (some (undef, r10.2))) fun r11 =>
  bnd (bIf (wnt r9.1 false) (oBin Tryz.prog .lss 5 false true r11.1 (.int .u8 97) r11.2) (some (undef, r11.2))) fun r12 =>
  bnd (oPick r9.1 (.bool true) r12.1 r12.2) fun r13 =>
  bnd (oMv r13.1 r13.2) fun r14 =>
  bnd (bIf (wnt r14.1 false) (oMv x0 r14.2) (some (undef, r14.2))) fun r15 =>
  bnd (bIf (wnt r14.1 false) (oIndex Tryz.prog 9 r15.1 (.int .i64 0) r15.2) (some (undef, r15.2))) fun r16 =>
  bnd (bIf (wnt r14.1 false) (oBin Tryz.prog .gtr 5 false true r16.1 (.int .u8 122) r16.2) (some (undef, r16.2))) fun r17 =>
  bnd (oPick r14.1 (.bool true) r17.1 r17.2) fun r18 =>
  vIf r18.1 (
    bnd (oMv (.bool false) r18.2) fun r19 =>
    oRes Tryz.prog [(r19.1, none)] r19.2) (
    bnd (oMv x0 r18.2) fun r20 =>
    bnd (call (fnV 271) [r20.1, (strV [97, 98, 99, 100, 101, 102, 103, 104, 105, 106, 107, 108, 109, 110, 111, 112, 113, 114, 115, 116, 117, 118, 119, 120, 121, 122, 48, 49, 50, 51, 52, 53, 54, 55, 56, 57, 45])] r20.2) fun r21 =>
    bnd (oBin Tryz.prog .eql 9 false true r21.1 (strV []) r21.2) fun r22 =>
    bnd (oMv r22.1 r22.2) fun r23 =>
    oRes Tryz.prog [(r23.1, none)] r23.2)
theorem words_Name_eq (call : Eng.Callee) (x0 : Value) (W : AW) : kFun Tryz.prog call 23 (cod 233) (rss 233) [x0] W = words_Name call x0 W := by kernel_rfl
theorem words_Name_om {x0 : Value} {W : AW} {r : Value × AW} (h : words_Name omS x0 W = some r) : omS (.func (.func 233) #[] #[]) [x0] W = some (gc W r) := om_of (nt := 23) (n := 1) (by kernel_rfl) (by kernel_rfl) rfl ((words_Name_eq omS x0 W).trans h)
noncomputable def slices_ContainsFuncapi_VnSectionapi_VnSection (call : Eng.Callee) (x0 x1 : Value) (W : AW) : Option (Value × AW) :=
  bnd (oMv (.bool false) W) fun r1 =>
  bnd (oMv x0 r1.2) fun r2 =>
  bnd (oMv x1 r2.2) fun r3 =>
  bnd (call (fnV 272) [r2.1, r3.1] r3.2) fun r4 =>
  bnd (oBin Tryz.prog .geq 3 false true r4.1 (.int .i64 0) r4.2) fun r5 =>
  bnd (oMv r5.1 r5.2) fun r6 =>
  oRes Tryz.prog [(r6.1, none)] r6.2
theorem slices_ContainsFuncapi_VnSectionapi_VnSection_eq (call : Eng.Callee) (x0 x1 : Value) (W : AW) : kFun Tryz.prog call 9 (cod 234) (rss 234) [x0, x1] W = slices_ContainsFuncapi_VnSectionapi_VnSection call x0 x1 W := by kernel_rfl
theorem slices_ContainsFuncapi_VnSectionapi_VnSection_om {x0 x1 : Value} {W : AW} {r : Value × AW} (h : slices_ContainsFuncapi_VnSectionapi_VnSection omS x0 x1 W = some r) : omS (.func (.func 234) #[] #[]) [x0, x1] W = some (gc W r) := om_of (nt := 9) (n := 2) (by kernel_rfl) (by kernel_rfl) rfl ((slices_ContainsFuncapi_VnSectionapi_VnSection_eq omS x0 x1 W).trans h)
noncomputable def venue_check_1 (call : Eng.Callee) (x0 x1 : Value) (W : AW) : Option (Value × AW) :=
  bnd (oBox x0 W) fun r1 =>
  bnd (oMv (.bool false) r1.2) fun r2 =>
  bnd (faO 0 r1.1 r2.2) fun r3 =>
  bnd (ldC r3.1 r3.2) fun r4 =>
  bnd (faO 0 x1 r4.2) fun r5 =>
  bnd (ldC r5.1 r5.2) fun r6 =>
  bnd (oBin Tryz.prog .eql 9 false false r4.1 r6.1 r6.2) fun r7 =>
  bnd (oMv r7.1 r7.2) fun r8 =>
  oRes Tryz.prog [(r8.1, none)] r8.2
theorem venue_check_1_eq (call : Eng.Callee) (x0 x1 : Value) (W : AW) : kFun Tryz.prog call 9 (cod 235) (rss 235) [x0, x1] W = venue_check_1 call x0 x1 W := by kernel_rfl
theorem venue_check_1_om {x0 x1 : Value} {W : AW} {r : Value × AW} (h : venue_check_1 omS x0 x1 W = some r) : omS (.func (.func 235) #[] #[x1]) [x0] W = some (gc W r) := om_of (nt := 9) (n := 2) (by kernel_rfl) (by kernel_rfl) rfl ((venue_check_1_eq omS x0 x1 W).trans h)
noncomputable def venue_check_2 (call : Eng.Callee) (x0 : Value) (W : AW) : Option (Value × AW) :=
  bnd (oMv (.bool false) W) fun r1 =>
  bnd (oMv x0 r1.2) fun r2 =>
  bnd (call (fnV 187) [r2.1, (.int .i64 1), (.int .i64 64)] r2.2) fun r3 =>
  bnd (oMv r3.1 r3.2) fun r4 =>
  oRes Tryz.prog [(r4.1, none)] r4.2
theorem venue_check_2_eq (call : Eng.Callee) (x0 : Value) (W : AW) : kFun Tryz.prog call 5 (cod 236) (rss 236) [x0] W = venue_check_2 call x0 W := by kernel_rfl
theorem venue_check_2_om {x0 : Value} {W : AW} {r : Value × AW} (h : venue_check_2 omS x0 W = some r) : omS (.func (.func 236) #[] #[]) [x0] W = some (gc W r) := om_of (nt := 5) (n := 1) (by kernel_rfl) (by kernel_rfl) rfl ((venue_check_2_eq omS x0 W).trans h)
noncomputable def ref01_lower (call : Eng.Callee) (x0 : Value) (W : AW) : Option (Value × AW) :=
  bnd (oMv (.bool false) W) fun r1 =>
  bnd (oMv x0 r1.2) fun r2 =>
  bnd (oBin Tryz.prog .geq 5 false true r2.1 (.int .u8 97) r2.2) fun r3 =>
  bnd (oMv r3.1 r3.2) fun r4 =>
  bnd (bIf (wnt r4.1 true) (oMv x0 r4.2) (some (undef, r4.2))) fun r5 =>
  bnd (bIf (wnt r4.1 true) (oBin Tryz.prog .leq 5 false true r5.1 (.int .u8 122) r5.2) (some (undef, r5.2))) fun r6 =>
  bnd (oPick r4.1 r6.1 (.bool false) r6.2) fun r7 =>
  bnd (oMv r7.1 r7.2) fun r8 =>
  oRes Tryz.prog [(r8.1, none)] r8.2
theorem ref01_lower_eq (call : Eng.Callee) (x0 : Value) (W : AW) : kFun Tryz.prog call 9 (cod 252) (rss 252) [x0] W = ref01_lower call x0 W := by kernel_rfl
theorem ref01_lower_om {x0 : Value} {W : AW} {r : Value × AW} (h : ref01_lower omS x0 W = some r) : omS (.func (.func 252) #[] #[]) [x0] W = some (gc W r) := om_of (nt := 9) (n := 1) (by kernel_rfl) (by kernel_rfl) rfl ((ref01_lower_eq omS x0 W).trans h)
noncomputable def ref01_digit (call : Eng.Callee) (x0 : Value) (W : AW) : Option (Value × AW) :=
  bnd (oMv (.bool false) W) fun r1 =>
  bnd (oMv x0 r1.2) fun r2 =>
  bnd (oBin Tryz.prog .geq 5 false true r2.1 (.int .u8 48) r2.2) fun r3 =>
  bnd (oMv r3.1 r3.2) fun r4 =>
  bnd (bIf (wnt r4.1 true) (oMv x0 r4.2) (some (undef, r4.2))) fun r5 =>
  bnd (bIf (wnt r4.1 true) (oBin Tryz.prog .leq 5 false true r5.1 (.int .u8 57) r5.2) (some (undef, r5.2))) fun r6 =>
  bnd (oPick r4.1 r6.1 (.bool false) r6.2) fun r7 =>
  bnd (oMv r7.1 r7.2) fun r8 =>
  oRes Tryz.prog [(r8.1, none)] r8.2
theorem ref01_digit_eq (call : Eng.Callee) (x0 : Value) (W : AW) : kFun Tryz.prog call 9 (cod 253) (rss 253) [x0] W = ref01_digit call x0 W := by kernel_rfl
theorem ref01_digit_om {x0 : Value} {W : AW} {r : Value × AW} (h : ref01_digit omS x0 W = some r) : omS (.func (.func 253) #[] #[]) [x0] W = some (gc W r) := om_of (nt := 9) (n := 1) (by kernel_rfl) (by kernel_rfl) rfl ((ref01_digit_eq omS x0 W).trans h)
noncomputable def strings_Trim (call : Eng.Callee) (x0 x1 : Value) (W : AW) : Option (Value × AW) :=
  bnd (oMv (strV []) W) fun r1 =>
  bnd (oMv x0 r1.2) fun r2 =>
  bnd (oBin Tryz.prog .eql 9 false true r2.1 (strV []) r2.2) fun r3 =>
  bnd (oMv r3.1 r3.2) fun r4 =>
  bnd (bIf (wnt r4.1 false) (oMv x1 r4.2) (some (undef, r4.2))) fun r5 =>
  bnd (bIf (wnt r4.1 false) (oBin Tryz.prog .eql 9 false true r5.1 (strV []) r5.2) (some (undef, r5.2))) fun r6 =>
  bnd (oPick r4.1 (.bool true) r6.1 r6.2) fun r7 =>
  vIf r7.1 (
    bnd (oMv x0 r7.2) fun r8 =>
    bnd (oMv r8.1 r8.2) fun r9 =>
    oRes Tryz.prog [(r9.1, none)] r9.2) (
    bnd (oMv x1 r7.2) fun r10 =>
    bnd (oBuiltin Tryz.prog .len #[9] 3 #[false] [r10.1] r10.2) fun r11 =>
    bnd (oBin Tryz.prog .eql 3 false true r11.1 (.int .i64 1) r11.2) fun r12 =>
    bnd (oMv r12.1 r12.2) fun r13 =>
    bnd (bIf (wnt r13.1 true) (oMv x1 r13.2) (some (undef, r13.2))) fun r14 =>
    bnd (bIf (wnt r13.1 true) (oIndex Tryz.prog 9 r14.1 (.int .i64 0) r14.2) (some (undef, r14.2))) fun r15 =>
    bnd (bIf (wnt r13.1 true) (oBin Tryz.prog .lss 5 false true r15.1 (.int .u8 128) r15.2) (some (undef, r15.2))) fun r16 =>
    bnd (oPick r13.1 r16.1 (.bool false) r16.2) fun r17 =>
    vIf r17.1 (
      bnd (oMv x0 r17.2) fun r18 =>
      bnd (oMv x1 r18.2) fun r19 =>
      bnd (oIndex Tryz.prog 9 r19.1 (.int .i64 0) r19.2) fun r20 =>
      bnd (oMv x1 r20.2) fun r21 =>
      bnd (oIndex Tryz.prog 9 r21.1 (.int .i64 0) r21.2) fun r22 =>
      bnd (call (fnV 304) [r18.1, r20.1] r22.2) fun r23 =>
      bnd (call (fnV 303) [r23.1, r22.1] r23.2) fun r24 =>
      bnd (oMv r24.1 r24.2) fun r25 =>
      oRes Tryz.prog [(r25.1, none)] r25.2) (
      bnd (oMv x1 r17.2) fun r26 =>
      bnd (call (fnV 305) [r26.1] r26.2) fun r27 =>
      bnd (oMv r27.1 r27.2) fun r28 =>
      bnd (oExtract r28.1 0 r28.2) fun r29 =>
      bnd (oExtract r28.1 1 r29.2) fun r30 =>
      bnd (oAlloc Tryz.prog 398 r30.2) fun r31 =>
      bnd (stV 256 r31.1 r29.1 r31.2) fun r32 =>
      bnd (oMv r30.1 r32.2) fun r33 =>
      bnd (oMv r33.1 r33.2) fun r34 =>
      vIf r34.1 (
        bnd (oMv x0 r34.2) fun r35 =>
        bnd (call (fnV 307) [r35.1, r31.1] r35.2) fun r36 =>
        bnd (call (fnV 306) [r36.1, r31.1] r36.2) fun r37 =>
        bnd (oMv r37.1 r37.2) fun r38 =>
        oRes Tryz.prog [(r38.1, none)] r38.2) (
        bnd (oMv x0 r34.2) fun r39 =>
        bnd (oMv x1 r39.2) fun r40 =>
        bnd (call (fnV 309) [r39.1, r40.1] r40.2) fun r41 =>
        bnd (oMv x1 r41.2) fun r42 =>
        bnd (call (fnV 308) [r41.1, r42.1] r42.2) fun r43 =>
        bnd (oMv r43.1 r43.2) fun r44 =>
        oRes Tryz.prog [(r44.1, none)] r44.2)))
theorem strings_Trim_eq (call : Eng.Callee) (x0 x1 : Value) (W : AW) : kFun Tryz.prog call 43 (cod 271) (rss 271) [x0, x1] W = strings_Trim call x0 x1 W := by kernel_rfl
theorem strings_Trim_om {x0 x1 : Value} {W : AW} {r : Value × AW} (h : strings_Trim omS x0 x1 W = some r) : omS (.func (.func 271) #[] #[]) [x0, x1] W = some (gc W r) := om_of (nt := 43) (n := 2) (by kernel_rfl) (by kernel_rfl) rfl ((strings_Trim_eq omS x0 x1 W).trans h)
noncomputable def slices_IndexFuncapi_VnSectionapi_VnSection_L1 (call : Eng.Callee) (R : Nat → Value) (W : AW) : Option LT :=
  bnd (oBin Tryz.prog .lss 3 false false (R 8) (R 7) W) fun r5 =>
  vIf r5.1 (
    bnd (oMv (R 8) r5.2) fun r6 =>
    bnd (oMv r6.1 r6.2) fun r7 =>
    bnd (oMv (R 1) r7.2) fun r8 =>
    bnd (oMv (R 0) r8.2) fun r9 =>
    bnd (oMv r7.1 r9.2) fun r10 =>
    bnd (ixS 3 r9.1 r10.1 r10.2) fun r11 =>
    bnd (ldA 3 r11.1 r11.2) fun r12 =>
    bnd (call r8.1 [r12.1] r12.2) fun r13 =>
    vIf r13.1 (
      bnd (oMv r7.1 r13.2) fun r14 =>
      bnd (oMv r14.1 r14.2) fun r15 =>
      some (X.ret, (rput (rput (rput (rput (rput (rput (rput (rput (rput (rput (rput R (some 9) r5.1) (some 10) r6.1) (some 5) r7.1) (some 11) r8.1) (some 12) r9.1) (some 13) r10.1) (some 14) r11.1) (some 15) r12.1) (some 16) r13.1) (some 17) r14.1) (some 4) r15.1), r15.2)) (
      bnd (oBin Tryz.prog .add 3 false true (R 8) (.int .i64 1) r13.2) fun r16 =>
      bnd (oMv r16.1 r16.2) fun r17 =>
      some (X.normal, (rput (rput (rput (rput (rput (rput (rput (rput (rput (rput (rput R (some 9) r5.1) (some 10) r6.1) (some 5) r7.1) (some 11) r8.1) (some 12) r9.1) (some 13) r10.1) (some 14) r11.1) (some 15) r12.1) (some 16) r13.1) (some 18) r16.1) (some 8) r17.1), r17.2))) (
    some (X.exit 0, (rput R (some 9) r5.1), r5.2))
noncomputable def slices_IndexFuncapi_VnSectionapi_VnSection (call : Eng.Callee) (x0 x1 : Value) (W : AW) : Option (Value × AW) :=
  bnd (oMv (.int .i64 0) W) fun r1 =>
  bnd (oMv x0 r1.2) fun r2 =>
  bnd (oBuiltin Tryz.prog .len #[22] 3 #[false] [r2.1] r2.2) fun r3 =>
  bnd (oMv (.int .i64 0) r3.2) fun r4 =>
  bnd (loopO (slices_IndexFuncapi_VnSectionapi_VnSection_L1 call) (rput (rput (rput (rput (argGo 0 [x0, x1] PlanTab.blank) (some 4) r1.1) (some 6) r2.1) (some 7) r3.1) (some 8) r4.1) r4.2) fun r18 =>
  kExit 0 r18.1 (
    bnd (oMv (.int .i64 (-1)) r18.2.2) fun r19 =>
    oRes Tryz.prog [(r19.1, none)] r19.2) (kRetX r18.1 (
    oRes Tryz.prog [((r18.2.1 4), none)] r18.2.2))
theorem slices_IndexFuncapi_VnSectionapi_VnSection_eq (call : Eng.Callee) (x0 x1 : Value) (W : AW) : kFun Tryz.prog call 19 (cod 272) (rss 272) [x0, x1] W = slices_IndexFuncapi_VnSectionapi_VnSection call x0 x1 W := by kernel_rfl
theorem slices_IndexFuncapi_VnSectionapi_VnSection_om {x0 x1 : Value} {W : AW} {r : Value × AW} (h : slices_IndexFuncapi_VnSectionapi_VnSection omS x0 x1 W = some r) : omS (.func (.func 272) #[] #[]) [x0, x1] W = some (gc W r) := om_of (nt := 19) (n := 2) (by kernel_rfl) (by kernel_rfl) rfl ((slices_IndexFuncapi_VnSectionapi_VnSection_eq omS x0 x1 W).trans h)
noncomputable def strings_makeASCIISet_L1 (call : Eng.Callee) (R : Nat → Value) (W : AW) : Option LT :=
  bnd (oMv (R 4) W) fun r4 =>
  bnd (oMv (R 0) r4.2) fun r5 =>
  bnd (oBuiltin Tryz.prog .len #[9] 3 #[false] [r5.1] r5.2) fun r6 =>
  bnd (oBin Tryz.prog .lss 3 false false r4.1 r6.1 r6.2) fun r7 =>
  vIf r7.1 (
    bnd (oMv (R 0) r7.2) fun r8 =>
    bnd (oMv (R 4) r8.2) fun r9 =>
    bnd (oIndex Tryz.prog 9 r8.1 r9.1 r9.2) fun r10 =>
    bnd (oMv r10.1 r10.2) fun r11 =>
    bnd (oMv r11.1 r11.2) fun r12 =>
    bnd (oBin Tryz.prog .geq 5 false true r12.1 (.int .u8 128) r12.2) fun r13 =>
    vIf r13.1 (
      bnd (ldA 256 (R 2) r13.2) fun r14 =>
      bnd (stV 256 (R 2) r14.1 r14.2) fun r15 =>
      bnd (oMv (.bool false) r15.2) fun r16 =>
      some (X.ret, (rput (rput (rput (rput (rput (rput (rput (rput (rput (rput (rput (rput R (some 6) r4.1) (some 7) r5.1) (some 8) r6.1) (some 9) r7.1) (some 12) r8.1) (some 13) r9.1) (some 14) r10.1) (some 5) r11.1) (some 15) r12.1) (some 16) r13.1) (some 17) r14.1) (some 3) r16.1), r16.2)) (
      bnd (oMv r11.1 r13.2) fun r17 =>
      bnd (ixA 256 1 (R 2) r17.1 r17.2) fun r18 =>
      bnd (stV 1 r18.1 (.bool true) r18.2) fun r19 =>
      bnd (oMv (R 4) r19.2) fun r20 =>
      bnd (oBin Tryz.prog .add 3 false true r20.1 (.int .i64 1) r20.2) fun r21 =>
      bnd (oMv r21.1 r21.2) fun r22 =>
      some (X.normal, (rput (rput (rput (rput (rput (rput (rput (rput (rput (rput (rput (rput (rput (rput (rput R (some 6) r4.1) (some 7) r5.1) (some 8) r6.1) (some 9) r7.1) (some 12) r8.1) (some 13) r9.1) (some 14) r10.1) (some 5) r11.1) (some 15) r12.1) (some 16) r13.1) (some 18) r17.1) (some 19) r18.1) (some 10) r20.1) (some 11) r21.1) (some 4) r22.1), r22.2))) (
    some (X.exit 0, (rput (rput (rput (rput R (some 6) r4.1) (some 7) r5.1) (some 8) r6.1) (some 9) r7.1), r7.2))
noncomputable def strings_makeASCIISet (call : Eng.Callee) (x0 : Value) (W : AW) : Option (Value × AW) :=
  bnd (oAlloc Tryz.prog 398 W) fun r1 =>
  bnd (oMv (.bool false) r1.2) fun r2 =>
  bnd (oMv (.int .i64 0) r2.2) fun r3 =>
  bnd (loopO (strings_makeASCIISet_L1 call) (rput (rput (rput (argGo 0 [x0] PlanTab.blank) (some 2) r1.1) (some 3) r2.1) (some 4) r3.1) r3.2) fun r23 =>
  kExit 0 r23.1 (
    bnd (ldA 256 (r23.2.1 2) r23.2.2) fun r24 =>
    bnd (stV 256 (r23.2.1 2) r24.1 r24.2) fun r25 =>
    bnd (oMv (.bool true) r25.2) fun r26 =>
    oRes Tryz.prog [((r23.2.1 2), some 398), (r26.1, none)] r26.2) (kRetX r23.1 (
    oRes Tryz.prog [((r23.2.1 2), some 398), ((r23.2.1 3), none)] r23.2.2))
theorem strings_makeASCIISet_eq (call : Eng.Callee) (x0 : Value) (W : AW) : kFun Tryz.prog call 21 (cod 305) (rss 305) [x0] W = strings_makeASCIISet call x0 W := by kernel_rfl
theorem strings_makeASCIISet_om {x0 : Value} {W : AW} {r : Value × AW} (h : strings_makeASCIISet omS x0 W = some r) : omS (.func (.func 305) #[] #[]) [x0] W = some (gc W r) := om_of (nt := 21) (n := 1) (by kernel_rfl) (by kernel_rfl) rfl ((strings_makeASCIISet_eq omS x0 W).trans h)
noncomputable def strings_trimLeftASCII_L1 (call : Eng.Callee) (R : Nat → Value) (W : AW) : Option LT :=
  bnd (oMv (R 0) W) fun r2 =>
  bnd (oBuiltin Tryz.prog .len #[9] 3 #[false] [r2.1] r2.2) fun r3 =>
  bnd (oBin Tryz.prog .gtr 3 false true r3.1 (.int .i64 0) r3.2) fun r4 =>
  vIf r4.1 (
    bnd (oMv (R 1) r4.2) fun r5 =>
    bnd (oMv (R 0) r5.2) fun r6 =>
    bnd (oIndex Tryz.prog 9 r6.1 (.int .i64 0) r6.2) fun r7 =>
    bnd (call (fnV 327) [r5.1, r7.1] r7.2) fun r8 =>
    bnd (oUn Tryz.prog .not r8.1 r8.2) fun r9 =>
    vIf r9.1 (
      some (X.exit 0, (rput (rput (rput (rput (rput (rput (rput (rput R (some 5) r2.1) (some 6) r3.1) (some 7) r4.1) (some 8) r5.1) (some 9) r6.1) (some 10) r7.1) (some 11) r8.1) (some 12) r9.1), r9.2)) (
      bnd (oMv (R 0) r9.2) fun r10 =>
      bnd (oSlice Tryz.prog 9 r10.1 (some (.int .i64 1)) none none r10.2) fun r11 =>
      bnd (oMv r11.1 r11.2) fun r12 =>
      some (X.normal, (rput (rput (rput (rput (rput (rput (rput (rput (rput (rput (rput R (some 5) r2.1) (some 6) r3.1) (some 7) r4.1) (some 8) r5.1) (some 9) r6.1) (some 10) r7.1) (some 11) r8.1) (some 12) r9.1) (some 13) r10.1) (some 14) r11.1) (some 0) r12.1), r12.2))) (
    some (X.exit 0, (rput (rput (rput R (some 5) r2.1) (some 6) r3.1) (some 7) r4.1), r4.2))
noncomputable def strings_trimLeftASCII (call : Eng.Callee) (x0 x1 : Value) (W : AW) : Option (Value × AW) :=
  bnd (oMv (strV []) W) fun r1 =>
  bnd (loopO (strings_trimLeftASCII_L1 call) (rput (argGo 0 [x0, x1] PlanTab.blank) (some 4) r1.1) r1.2) fun r13 =>
  kExit 0 r13.1 (
    bnd (oMv (r13.2.1 0) r13.2.2) fun r14 =>
    bnd (oMv r14.1 r14.2) fun r15 =>
    oRes Tryz.prog [(r15.1, none)] r15.2) (none)
theorem strings_trimLeftASCII_eq (call : Eng.Callee) (x0 x1 : Value) (W : AW) : kFun Tryz.prog call 16 (cod 306) (rss 306) [x0, x1] W = strings_trimLeftASCII call x0 x1 W := by kernel_rfl
theorem strings_trimLeftASCII_om {x0 x1 : Value} {W : AW} {r : Value × AW} (h : strings_trimLeftASCII omS x0 x1 W = some r) : omS (.func (.func 306) #[] #[]) [x0, x1] W = some (gc W r) := om_of (nt := 16) (n := 2) (by kernel_rfl) (by kernel_rfl) rfl ((strings_trimLeftASCII_eq omS x0 x1 W).trans h)
noncomputable def strings_trimRightASCII_L1 (call : Eng.Callee) (R : Nat → Value) (W : AW) : Option LT :=
  bnd (oMv (R 0) W) fun r2 =>
  bnd (oBuiltin Tryz.prog .len #[9] 3 #[false] [r2.1] r2.2) fun r3 =>
  bnd (oBin Tryz.prog .gtr 3 false true r3.1 (.int .i64 0) r3.2) fun r4 =>
  vIf r4.1 (
    bnd (oMv (R 1) r4.2) fun r5 =>
    bnd (oMv (R 0) r5.2) fun r6 =>
    bnd (oMv (R 0) r6.2) fun r7 =>
    bnd (oBuiltin Tryz.prog .len #[9] 3 #[false] [r7.1] r7.2) fun r8 =>
    bnd (oBin Tryz.prog .sub 3 false true r8.1 (.int .i64 1) r8.2) fun r9 =>
    bnd (oIndex Tryz.prog 9 r6.1 r9.1 r9.2) fun r10 =>
    bnd (call (fnV 327) [r5.1, r10.1] r10.2) fun r11 =>
    bnd (oUn Tryz.prog .not r11.1 r11.2) fun r12 =>
    vIf r12.1 (
      some (X.exit 0, (rput (rput (rput (rput (rput (rput (rput (rput (rput (rput (rput R (some 5) r2.1) (some 6) r3.1) (some 7) r4.1) (some 8) r5.1) (some 9) r6.1) (some 10) r7.1) (some 11) r8.1) (some 12) r9.1) (some 13) r10.1) (some 14) r11.1) (some 15) r12.1), r12.2)) (
      bnd (oMv (R 0) r12.2) fun r13 =>
      bnd (oMv (R 0) r13.2) fun r14 =>
      bnd (oBuiltin Tryz.prog .len #[9] 3 #[false] [r14.1] r14.2) fun r15 =>
      bnd (oBin Tryz.prog .sub 3 false true r15.1 (.int .i64 1) r15.2) fun r16 =>
      bnd (oSlice Tryz.prog 9 r13.1 none (some r16.1) none r16.2) fun r17 =>
      bnd (oMv r17.1 r17.2) fun r18 =>
      some (X.normal, (rput (rput (rput (rput (rput (rput (rput (rput (rput (rput (rput (rput (rput (rput (rput (rput (rput R (some 5) r2.1) (some 6) r3.1) (some 7) r4.1) (some 8) r5.1) (some 9) r6.1) (some 10) r7.1) (some 11) r8.1) (some 12) r9.1) (some 13) r10.1) (some 14) r11.1) (some 15) r12.1) (some 16) r13.1) (some 17) r14.1) (some 18) r15.1) (some 19) r16.1) (some 20) r17.1) (some 0) r18.1), r18.2))) (
    some (X.exit 0, (rput (rput (rput R (some 5) r2.1) (some 6) r3.1) (some 7) r4.1), r4.2))
noncomputable def strings_trimRightASCII (call : Eng.Callee) (x0 x1 : Value) (W : AW) : Option (Value × AW) :=
  bnd (oMv (strV []) W) fun r1 =>
  bnd (loopO (strings_trimRightASCII_L1 call) (rput (argGo 0 [x0, x1] PlanTab.blank) (some 4) r1.1) r1.2) fun r19 =>
  kExit 0 r19.1 (
    bnd (oMv (r19.2.1 0) r19.2.2) fun r20 =>
    bnd (oMv r20.1 r20.2) fun r21 =>
    oRes Tryz.prog [(r21.1, none)] r21.2) (none)
theorem strings_trimRightASCII_eq (call : Eng.Callee) (x0 x1 : Value) (W : AW) : kFun Tryz.prog call 22 (cod 307) (rss 307) [x0, x1] W = strings_trimRightASCII call x0 x1 W := by kernel_rfl
theorem strings_trimRightASCII_om {x0 x1 : Value} {W : AW} {r : Value × AW} (h : strings_trimRightASCII omS x0 x1 W = some r) : omS (.func (.func 307) #[] #[]) [x0, x1] W = some (gc W r) := om_of (nt := 22) (n := 2) (by kernel_rfl) (by kernel_rfl) rfl ((strings_trimRightASCII_eq omS x0 x1 W).trans h)
noncomputable def strings_asciiSet_contains (call : Eng.Callee) (x0 x1 : Value) (W : AW) : Option (Value × AW) :=
  bnd (oMv (.bool false) W) fun r1 =>
  bnd (oMv x0 r1.2) fun r2 =>
  bnd (oMv x1 r2.2) fun r3 =>
  bnd (oNilCheck r2.1 r3.2) fun r4 =>
  bnd (ixA 256 1 r4.1 r3.1 r4.2) fun r5 =>
  bnd (ldC r5.1 r5.2) fun r6 =>
  bnd (oMv r6.1 r6.2) fun r7 =>
  oRes Tryz.prog [(r7.1, none)] r7.2
theorem strings_asciiSet_contains_eq (call : Eng.Callee) (x0 x1 : Value) (W : AW) : kFun Tryz.prog call 10 (cod 327) (rss 327) [x0, x1] W = strings_asciiSet_contains call x0 x1 W := by kernel_rfl
theorem strings_asciiSet_contains_om {x0 x1 : Value} {W : AW} {r : Value × AW} (h : strings_asciiSet_contains omS x0 x1 W = some r) : omS (.func (.func 327) #[] #[]) [x0, x1] W = some (gc W r) := om_of (nt := 10) (n := 2) (by kernel_rfl) (by kernel_rfl) rfl ((strings_asciiSet_contains_eq omS x0 x1 W).trans h)
noncomputable def history_timeline_some (call : Eng.Callee) (x0 x1 : Value) (W : AW) : Option (Value × AW) :=
  bnd (oBox x0 W) fun r1 =>
  bnd (oBox x1 r1.2) fun r2 =>
  bnd (oMv .nilFunc r2.2) fun r3 =>
  bnd (oMkFunc (.func 167) #[] #[r1.1, r2.1] r3.2) fun r4 =>
  bnd (oMv r4.1 r4.2) fun r5 =>
  oRes Tryz.prog [(r5.1, none)] r5.2
theorem history_timeline_some_eq (call : Eng.Callee) (x0 x1 : Value) (W : AW) : kFun Tryz.prog call 6 (cod 111) (rss 111) [x0, x1] W = history_timeline_some call x0 x1 W := by kernel_rfl
theorem history_timeline_some_om {x0 x1 : Value} {W : AW} {r : Value × AW} (h : history_timeline_some omS x0 x1 W = some r) : omS (.func (.func 111) #[] #[]) [x0, x1] W = some (gc W r) := om_of (nt := 6) (n := 2) (by kernel_rfl) (by kernel_rfl) rfl ((history_timeline_some_eq omS x0 x1 W).trans h)
noncomputable def history_timeline_some_1_L1 (call : Eng.Callee) (R : Nat → Value) (W : AW) : Option LT :=
  bnd (oBin Tryz.prog .lss 3 false false (R 11) (R 10) W) fun r7 =>
  vIf r7.1 (
    bnd (ixS 25 (R 9) (R 11) r7.2) fun r8 =>
    bnd (ldA 25 r8.1 r8.2) fun r9 =>
    bnd (oAlloc Tryz.prog 176 r9.2) fun r10 =>
    bnd (stV 25 r10.1 r9.1 r10.2) fun r11 =>
    bnd (ldC (R 2) r11.2) fun r12 =>
    bnd (ldA 25 r10.1 r12.2) fun r13 =>
    bnd (call r12.1 [r13.1] r13.2) fun r14 =>
    bnd (oMv r14.1 r14.2) fun r15 =>
    bnd (bIf (wnt r15.1 true) (oMv (R 0) r15.2) (some (undef, r15.2))) fun r16 =>
    bnd (bIf (wnt r15.1 true) (ldA 25 r10.1 r16.2) (some (undef, r16.2))) fun r17 =>
    bnd (bIf (wnt r15.1 true) (call r16.1 [r17.1] r17.2) (some (undef, r17.2))) fun r18 =>
    bnd (bIf (wnt r15.1 true) (oUn Tryz.prog .not r18.1 r18.2) (some (undef, r18.2))) fun r19 =>
    bnd (oPick r15.1 r19.1 (.bool false) r19.2) fun r20 =>
    vIf r20.1 (
      some (X.ret, (rput (rput (rput (rput (rput (rput (rput (rput (rput (rput (rput (rput (rput R (some 12) r7.1) (some 13) r8.1) (some 14) r9.1) (some 5) r10.1) (some 15) r12.1) (some 16) r13.1) (some 17) r14.1) (some 18) r15.1) (some 19) r16.1) (some 20) r17.1) (some 21) r18.1) (some 22) r19.1) (some 23) r20.1), r20.2)) (
      bnd (oBin Tryz.prog .add 3 false true (R 11) (.int .i64 1) r20.2) fun r21 =>
      bnd (oMv r21.1 r21.2) fun r22 =>
      some (X.normal, (rput (rput (rput (rput (rput (rput (rput (rput (rput (rput (rput (rput (rput (rput (rput R (some 12) r7.1) (some 13) r8.1) (some 14) r9.1) (some 5) r10.1) (some 15) r12.1) (some 16) r13.1) (some 17) r14.1) (some 18) r15.1) (some 19) r16.1) (some 20) r17.1) (some 21) r18.1) (some 22) r19.1) (some 23) r20.1) (some 24) r21.1) (some 11) r22.1), r22.2))) (
    some (X.exit 0, (rput R (some 12) r7.1), r7.2))
noncomputable def history_timeline_some_1 (call : Eng.Callee) (x0 x1 x2 : Value) (W : AW) : Option (Value × AW) :=
  bnd (ldC x1 W) fun r1 =>
  bnd (oNilCheck r1.1 r1.2) fun r2 =>
  bnd (faO 5 r2.1 r2.2) fun r3 =>
  bnd (ldC r3.1 r3.2) fun r4 =>
  bnd (oBuiltin Tryz.prog .len #[89] 3 #[false] [r4.1] r4.2) fun r5 =>
  bnd (oMv (.int .i64 0) r5.2) fun r6 =>
  bnd (loopO (history_timeline_some_1_L1 call) (rput (rput (rput (rput (rput (rput (argGo 0 [x0, x1, x2] PlanTab.blank) (some 6) r1.1) (some 7) r2.1) (some 8) r3.1) (some 9) r4.1) (some 10) r5.1) (some 11) r6.1) r6.2) fun r23 =>
  kExit 0 r23.1 (
    oRes Tryz.prog [] r23.2.2) (kRetX r23.1 (
    oRes Tryz.prog [] r23.2.2))
theorem history_timeline_some_1_eq (call : Eng.Callee) (x0 x1 x2 : Value) (W : AW) : kFun Tryz.prog call 25 (cod 167) (rss 167) [x0, x1, x2] W = history_timeline_some_1 call x0 x1 x2 W := by kernel_rfl
theorem history_timeline_some_1_om {x0 x1 x2 : Value} {W : AW} {r : Value × AW} (h : history_timeline_some_1 omS x0 x1 x2 W = some r) : omS (.func (.func 167) #[] #[x1, x2]) [x0] W = some (gc W r) := om_of (nt := 25) (n := 3) (by kernel_rfl) (by kernel_rfl) rfl ((history_timeline_some_1_eq omS x0 x1 x2 W).trans h)
noncomputable def slices_Cloneapi_HiEventapi_HiEvent (call : Eng.Callee) (x0 : Value) (W : AW) : Option (Value × AW) :=
  bnd (oMv (.slice none 0 0) W) fun r1 =>
  bnd (oMv x0 r1.2) fun r2 =>
  bnd (oBin Tryz.prog .eql 80 false true r2.1 (.slice none 0 0) r2.2) fun r3 =>
  vIf r3.1 (
    bnd (oMv (.slice none 0 0) r3.2) fun r4 =>
    oRes Tryz.prog [(r4.1, none)] r4.2) (
    bnd (oBuildSlice Tryz.prog 80 0 [] r3.2) fun r5 =>
    bnd (oMv x0 r5.2) fun r6 =>
    bnd (aAppend Tryz.prog r6.2 #[80, 80] r5.1 r6.1) fun r7 =>
    bnd (oMv r7.1 r7.2) fun r8 =>
    oRes Tryz.prog [(r8.1, none)] r8.2)
theorem slices_Cloneapi_HiEventapi_HiEvent_eq (call : Eng.Callee) (x0 : Value) (W : AW) : kFun Tryz.prog call 8 (cod 114) (rss 114) [x0] W = slices_Cloneapi_HiEventapi_HiEvent call x0 W := by kernel_rfl
theorem slices_Cloneapi_HiEventapi_HiEvent_om {x0 : Value} {W : AW} {r : Value × AW} (h : slices_Cloneapi_HiEventapi_HiEvent omS x0 W = some r) : omS (.func (.func 114) #[] #[]) [x0] W = some (gc W r) := om_of (nt := 8) (n := 1) (by kernel_rfl) (by kernel_rfl) rfl ((slices_Cloneapi_HiEventapi_HiEvent_eq omS x0 W).trans h)
noncomputable def ref15_Same_L1 (call : Eng.Callee) (R : Nat → Value) (W : AW) : Option LT :=
  bnd (oMv (R 5) W) fun r34 =>
  bnd (faO 3 (R 2) r34.2) fun r35 =>
  bnd (ldC r35.1 r35.2) fun r36 =>
  bnd (oBuiltin Tryz.prog .len #[22] 3 #[false] [r36.1] r36.2) fun r37 =>
  bnd (oBin Tryz.prog .lss 3 false false r34.1 r37.1 r37.2) fun r38 =>
  vIf r38.1 (
    bnd (faO 3 (R 2) r38.2) fun r39 =>
    bnd (ldC r39.1 r39.2) fun r40 =>
    bnd (oMv (R 5) r40.2) fun r41 =>
    bnd (ixS 3 r40.1 r41.1 r41.2) fun r42 =>
    bnd (ldA 3 r42.1 r42.2) fun r43 =>
    bnd (faO 3 (R 3) r43.2) fun r44 =>
    bnd (ldC r44.1 r44.2) fun r45 =>
    bnd (oMv (R 5) r45.2) fun r46 =>
    bnd (ixS 3 r45.1 r46.1 r46.2) fun r47 =>
    bnd (ldA 3 r47.1 r47.2) fun r48 =>
    bnd (oAlloc Tryz.prog 130 r48.2) fun r49 =>
    bnd (oAlloc Tryz.prog 130 r49.2) fun r50 =>
    bnd (stV 3 r49.1 r43.1 r50.2) fun r51 =>
    bIf (agV true (ldA 3 r47.1 r51.2) r48.1 && (agV true (ldC r44.1 r51.2) r45.1 && true)) (bnd (stV 3 r50.1 r48.1 r51.2) fun r52 =>
    bnd (faO 0 r49.1 r52.2) fun r53 =>
    bnd (ldC r53.1 r53.2) fun r54 =>
    bnd (faO 0 r50.1 r54.2) fun r55 =>
    bnd (ldC r55.1 r55.2) fun r56 =>
    bnd (oBin Tryz.prog .neq 9 false false r54.1 r56.1 r56.2) fun r57 =>
    bnd (oMv r57.1 r57.2) fun r58 =>
    bnd (bIf (wnt r58.1 false) (faO 2 r49.1 r58.2) (some (undef, r58.2))) fun r59 =>
    bnd (bIf (wnt r58.1 false) (ldC r59.1 r59.2) (some (undef, r59.2))) fun r60 =>
    bnd (bIf (wnt r58.1 false) (faO 2 r50.1 r60.2) (some (undef, r60.2))) fun r61 =>
    bnd (bIf (wnt r58.1 false) (ldC r61.1 r61.2) (some (undef, r61.2))) fun r62 =>
    bnd (bIf (wnt r58.1 false) (oBin Tryz.prog .neq 3 false false r60.1 r62.1 r62.2) (some (undef, r62.2))) fun r63 =>
    bnd (oPick r58.1 (.bool true) r63.1 r63.2) fun r64 =>
    bnd (oMv r64.1 r64.2) fun r65 =>
    bnd (bIf (wnt r65.1 false) (faO 1 r49.1 r65.2) (some (undef, r65.2))) fun r66 =>
    bnd (bIf (wnt r65.1 false) (ldC r66.1 r66.2) (some (undef, r66.2))) fun r67 =>
    bnd (bIf (wnt r65.1 false) (faO 1 r50.1 r67.2) (some (undef, r67.2))) fun r68 =>
    bnd (bIf (wnt r65.1 false) (ldC r68.1 r68.2) (some (undef, r68.2))) fun r69 =>
    bnd (bIf (wnt r65.1 false) (call (fnV 33) [r67.1, r69.1] r69.2) (some (undef, r69.2))) fun r70 =>
    bnd (bIf (wnt r65.1 false) (oUn Tryz.prog .not r70.1 r70.2) (some (undef, r70.2))) fun r71 =>
    bnd (oPick r65.1 (.bool true) r71.1 r71.2) fun r72 =>
    vIf r72.1 (
      bnd (oMv (.bool false) r72.2) fun r73 =>
      some (X.ret, (rput (rput (rput (rput (rput (rput (rput (rput (rput (rput (rput (rput (rput (rput (rput (rput (rput (rput (rput (rput (rput (rput (rput (rput (rput (rput (rput (rput (rput (rput (rput (rput (rput (rput (rput (rput (rput (rput R (some 36) r34.1) (some 37) r35.1) (some 38) r36.1) (some 39) r37.1) (some 40) r38.1) (some 43) r39.1) (some 44) r40.1) (some 45) r41.1) (some 46) r42.1) (some 47) r43.1) (some 48) r44.1) (some 49) r45.1) (some 50) r46.1) (some 51) r47.1) (some 52) r48.1) (some 6) r49.1) (some 7) r50.1) (some 53) r53.1) (some 54) r54.1) (some 55) r55.1) (some 56) r56.1) (some 57) r57.1) (some 58) r58.1) (some 59) r59.1) (some 60) r60.1) (some 61) r61.1) (some 62) r62.1) (some 63) r63.1) (some 64) r64.1) (some 65) r65.1) (some 66) r66.1) (some 67) r67.1) (some 68) r68.1) (some 69) r69.1) (some 70) r70.1) (some 71) r71.1) (some 72) r72.1) (some 4) r73.1), r73.2)) (
      bnd (oMv (R 5) r72.2) fun r74 =>
      bnd (oBin Tryz.prog .add 3 false true r74.1 (.int .i64 1) r74.2) fun r75 =>
      bnd (oMv r75.1 r75.2) fun r76 =>
      some (X.normal, (rput (rput (rput (rput (rput (rput (rput (rput (rput (rput (rput (rput (rput (rput (rput (rput (rput (rput (rput (rput (rput (rput (rput (rput (rput (rput (rput (rput (rput (rput (rput (rput (rput (rput (rput (rput (rput (rput (rput (rput R (some 36) r34.1) (some 37) r35.1) (some 38) r36.1) (some 39) r37.1) (some 40) r38.1) (some 43) r39.1) (some 44) r40.1) (some 45) r41.1) (some 46) r42.1) (some 47) r43.1) (some 48) r44.1) (some 49) r45.1) (some 50) r46.1) (some 51) r47.1) (some 52) r48.1) (some 6) r49.1) (some 7) r50.1) (some 53) r53.1) (some 54) r54.1) (some 55) r55.1) (some 56) r56.1) (some 57) r57.1) (some 58) r58.1) (some 59) r59.1) (some 60) r60.1) (some 61) r61.1) (some 62) r62.1) (some 63) r63.1) (some 64) r64.1) (some 65) r65.1) (some 66) r66.1) (some 67) r67.1) (some 68) r68.1) (some 69) r69.1) (some 70) r70.1) (some 71) r71.1) (some 72) r72.1) (some 41) r74.1) (some 42) r75.1) (some 5) r76.1), r76.2))) none) (
    some (X.exit 0, (rput (rput (rput (rput (rput R (some 36) r34.1) (some 37) r35.1) (some 38) r36.1) (some 39) r37.1) (some 40) r38.1), r38.2))
noncomputable def ref15_Same (call : Eng.Callee) (x0 x1 : Value) (W : AW) : Option (Value × AW) :=
  bnd (oBox x0 W) fun r1 =>
  bnd (oBox x1 r1.2) fun r2 =>
  bnd (oMv (.bool false) r2.2) fun r3 =>
  bnd (faO 0 r1.1 r3.2) fun r4 =>
  bnd (ldC r4.1 r4.2) fun r5 =>
  bnd (faO 0 r2.1 r5.2) fun r6 =>
  bnd (ldC r6.1 r6.2) fun r7 =>
  bnd (oBin Tryz.prog .neq 3 false false r5.1 r7.1 r7.2) fun r8 =>
  bnd (oMv r8.1 r8.2) fun r9 =>
  bnd (bIf (wnt r9.1 false) (faO 1 r1.1 r9.2) (some (undef, r9.2))) fun r10 =>
  bnd (bIf (wnt r9.1 false) (ldC r10.1 r10.2) (some (undef, r10.2))) fun r11 =>
  bnd (bIf (wnt r9.1 false) (faO 1 r2.1 r11.2) (some (undef, r11.2))) fun r12 =>
  bnd (bIf (wnt r9.1 false) (ldC r12.1 r12.2) (some (undef, r12.2))) fun r13 =>
  bnd (bIf (wnt r9.1 false) (oBin Tryz.prog .neq 2 false false r11.1 r13.1 r13.2) (some (undef, r13.2))) fun r14 =>
  bnd (oPick r9.1 (.bool true) r14.1 r14.2) fun r15 =>
  bnd (oMv r15.1 r15.2) fun r16 =>
  bnd (bIf (wnt r16.1 false) (faO 2 r1.1 r16.2) (some (undef, r16.2))) fun r17 =>
  bnd (bIf (wnt r16.1 false) (ldC r17.1 r17.2) (some (undef, r17.2))) fun r18 =>
  bnd (bIf (wnt r16.1 false) (faO 2 r2.1 r18.2) (some (undef, r18.2))) fun r19 =>
  bnd (bIf (wnt r16.1 false) (ldC r19.1 r19.2) (some (undef, r19.2))) fun r20 =>
  bnd (bIf (wnt r16.1 false) (oBin Tryz.prog .neq 2 false false r18.1 r20.1 r20.2) (some (undef, r20.2))) fun r21 =>
  bnd (oPick r16.1 (.bool true) r21.1 r21.2) fun r22 =>
  bnd (oMv r22.1 r22.2) fun r23 =>
  bnd (bIf (wnt r23.1 false) (faO 3 r1.1 r23.2) (some (undef, r23.2))) fun r24 =>
  bnd (bIf (wnt r23.1 false) (ldC r24.1 r24.2) (some (undef, r24.2))) fun r25 =>
  bnd (bIf (wnt r23.1 false) (oBuiltin Tryz.prog .len #[22] 3 #[false] [r25.1] r25.2) (some (undef, r25.2))) fun r26 =>
  bnd (bIf (wnt r23.1 false) (faO 3 r2.1 r26.2) (some (undef, r26.2))) fun r27 =>
  bnd (bIf (wnt r23.1 false) (ldC r27.1 r27.2) (some (undef, r27.2))) fun r28 =>
  bnd (bIf (wnt r23.1 false) (oBuiltin Tryz.prog .len #[22] 3 #[false] [r28.1] r28.2) (some (undef, r28.2))) fun r29 =>
  bnd (bIf (wnt r23.1 false) (oBin Tryz.prog .neq 3 false false r26.1 r29.1 r29.2) (some (undef, r29.2))) fun r30 =>
  bnd (oPick r23.1 (.bool true) r30.1 r30.2) fun r31 =>
  vIf r31.1 (
    bnd (oMv (.bool false) r31.2) fun r32 =>
    oRes Tryz.prog [(r32.1, none)] r32.2) (
    bnd (oMv (.int .i64 0) r31.2) fun r33 =>
    bnd (loopO (ref15_Same_L1 call) (rput (rput (rput (rput (rput (rput (rput (rput (rput (rput (rput (rput (rput (rput (rput (rput (rput (rput (rput (rput (rput (rput (rput (rput (rput (rput (rput (rput (rput (rput (rput (rput (argGo 0 [x0, x1] PlanTab.blank) (some 2) r1.1) (some 3) r2.1) (some 4) r3.1) (some 8) r4.1) (some 9) r5.1) (some 10) r6.1) (some 11) r7.1) (some 12) r8.1) (some 13) r9.1) (some 14) r10.1) (some 15) r11.1) (some 16) r12.1) (some 17) r13.1) (some 18) r14.1) (some 19) r15.1) (some 20) r16.1) (some 21) r17.1) (some 22) r18.1) (some 23) r19.1) (some 24) r20.1) (some 25) r21.1) (some 26) r22.1) (some 27) r23.1) (some 28) r24.1) (some 29) r25.1) (some 30) r26.1) (some 31) r27.1) (some 32) r28.1) (some 33) r29.1) (some 34) r30.1) (some 35) r31.1) (some 5) r33.1) r33.2) fun r77 =>
    kExit 0 r77.1 (
      bnd (oMv (.bool true) r77.2.2) fun r78 =>
      oRes Tryz.prog [(r78.1, none)] r78.2) (kRetX r77.1 (
      oRes Tryz.prog [((r77.2.1 4), none)] r77.2.2)))
theorem ref15_Same_eq (call : Eng.Callee) (x0 x1 : Value) (W : AW) : kFun Tryz.prog call 73 (cod 115) (rss 115) [x0, x1] W = ref15_Same call x0 x1 W := by kernel_rfl
theorem ref15_Same_om {x0 x1 : Value} {W : AW} {r : Value × AW} (h : ref15_Same omS x0 x1 W = some r) : omS (.func (.func 115) #[] #[]) [x0, x1] W = some (gc W r) := om_of (nt := 73) (n := 2) (by kernel_rfl) (by kernel_rfl) rfl ((ref15_Same_eq omS x0 x1 W).trans h)
noncomputable def ref24_Same_L1 (call : Eng.Callee) (R : Nat → Value) (W : AW) : Option LT :=
  bnd (oMv (R 5) W) fun r21 =>
  bnd (faO 4 (R 2) r21.2) fun r22 =>
  bnd (ldC r22.1 r22.2) fun r23 =>
  bnd (oBuiltin Tryz.prog .len #[80] 3 #[false] [r23.1] r23.2) fun r24 =>
  bnd (oBin Tryz.prog .lss 3 false false r21.1 r24.1 r24.2) fun r25 =>
  vIf r25.1 (
    bnd (faO 4 (R 2) r25.2) fun r26 =>
    bnd (ldC r26.1 r26.2) fun r27 =>
    bnd (oMv (R 5) r27.2) fun r28 =>
    bnd (ixS 24 r27.1 r28.1 r28.2) fun r29 =>
    bnd (ldA 24 r29.1 r29.2) fun r30 =>
    bnd (faO 4 (R 3) r30.2) fun r31 =>
    bnd (ldC r31.1 r31.2) fun r32 =>
    bnd (oMv (R 5) r32.2) fun r33 =>
    bnd (ixS 24 r32.1 r33.1 r33.2) fun r34 =>
    bnd (ldA 24 r34.1 r34.2) fun r35 =>
    bnd (oBin Tryz.prog .neq 121 false false r30.1 r35.1 r35.2) fun r36 =>
    vIf r36.1 (
      bnd (oMv (.bool false) r36.2) fun r37 =>
      some (X.ret, (rput (rput (rput (rput (rput (rput (rput (rput (rput (rput (rput (rput (rput (rput (rput (rput (rput R (some 21) r21.1) (some 22) r22.1) (some 23) r23.1) (some 24) r24.1) (some 25) r25.1) (some 28) r26.1) (some 29) r27.1) (some 30) r28.1) (some 31) r29.1) (some 32) r30.1) (some 33) r31.1) (some 34) r32.1) (some 35) r33.1) (some 36) r34.1) (some 37) r35.1) (some 38) r36.1) (some 4) r37.1), r37.2)) (
      bnd (oMv (R 5) r36.2) fun r38 =>
      bnd (oBin Tryz.prog .add 3 false true r38.1 (.int .i64 1) r38.2) fun r39 =>
      bnd (oMv r39.1 r39.2) fun r40 =>
      some (X.normal, (rput (rput (rput (rput (rput (rput (rput (rput (rput (rput (rput (rput (rput (rput (rput (rput (rput (rput (rput R (some 21) r21.1) (some 22) r22.1) (some 23) r23.1) (some 24) r24.1) (some 25) r25.1) (some 28) r26.1) (some 29) r27.1) (some 30) r28.1) (some 31) r29.1) (some 32) r30.1) (some 33) r31.1) (some 34) r32.1) (some 35) r33.1) (some 36) r34.1) (some 37) r35.1) (some 38) r36.1) (some 26) r38.1) (some 27) r39.1) (some 5) r40.1), r40.2))) (
    some (X.exit 0, (rput (rput (rput (rput (rput R (some 21) r21.1) (some 22) r22.1) (some 23) r23.1) (some 24) r24.1) (some 25) r25.1), r25.2))
noncomputable def ref24_Same (call : Eng.Callee) (x0 x1 : Value) (W : AW) : Option (Value × AW) :=
  bnd (oBox x0 W) fun r1 =>
  bnd (oBox x1 r1.2) fun r2 =>
  bnd (oMv (.bool false) r2.2) fun r3 =>
  bnd (faO 0 r1.1 r3.2) fun r4 =>
  bnd (ldA 4 r4.1 r4.2) fun r5 =>
  bnd (faO 0 r2.1 r5.2) fun r6 =>
  bnd (ldA 4 r6.1 r6.2) fun r7 =>
  bnd (call (fnV 115) [r5.1, r7.1] r7.2) fun r8 =>
  bnd (oUn Tryz.prog .not r8.1 r8.2) fun r9 =>
  bnd (oMv r9.1 r9.2) fun r10 =>
  bnd (bIf (wnt r10.1 false) (faO 4 r1.1 r10.2) (some (undef, r10.2))) fun r11 =>
  bnd (bIf (wnt r10.1 false) (ldC r11.1 r11.2) (some (undef, r11.2))) fun r12 =>
  bnd (bIf (wnt r10.1 false) (oBuiltin Tryz.prog .len #[80] 3 #[false] [r12.1] r12.2) (some (undef, r12.2))) fun r13 =>
  bnd (bIf (wnt r10.1 false) (faO 4 r2.1 r13.2) (some (undef, r13.2))) fun r14 =>
  bnd (bIf (wnt r10.1 false) (ldC r14.1 r14.2) (some (undef, r14.2))) fun r15 =>
  bnd (bIf (wnt r10.1 false) (oBuiltin Tryz.prog .len #[80] 3 #[false] [r15.1] r15.2) (some (undef, r15.2))) fun r16 =>
  bnd (bIf (wnt r10.1 false) (oBin Tryz.prog .neq 3 false false r13.1 r16.1 r16.2) (some (undef, r16.2))) fun r17 =>
  bnd (oPick r10.1 (.bool true) r17.1 r17.2) fun r18 =>
  vIf r18.1 (
    bnd (oMv (.bool false) r18.2) fun r19 =>
    oRes Tryz.prog [(r19.1, none)] r19.2) (
    bnd (oMv (.int .i64 0) r18.2) fun r20 =>
    bnd (loopO (ref24_Same_L1 call) (rput (rput (rput (rput (rput (rput (rput (rput (rput (rput (rput (rput (rput (rput (rput (rput (rput (rput (rput (argGo 0 [x0, x1] PlanTab.blank) (some 2) r1.1) (some 3) r2.1) (some 4) r3.1) (some 6) r4.1) (some 7) r5.1) (some 8) r6.1) (some 9) r7.1) (some 10) r8.1) (some 11) r9.1) (some 12) r10.1) (some 13) r11.1) (some 14) r12.1) (some 15) r13.1) (some 16) r14.1) (some 17) r15.1) (some 18) r16.1) (some 19) r17.1) (some 20) r18.1) (some 5) r20.1) r20.2) fun r41 =>
    kExit 0 r41.1 (
      bnd (oMv (.bool true) r41.2.2) fun r42 =>
      oRes Tryz.prog [(r42.1, none)] r42.2) (kRetX r41.1 (
      oRes Tryz.prog [((r41.2.1 4), none)] r41.2.2)))
theorem ref24_Same_eq (call : Eng.Callee) (x0 x1 : Value) (W : AW) : kFun Tryz.prog call 39 (cod 58) (rss 58) [x0, x1] W = ref24_Same call x0 x1 W := by kernel_rfl
theorem ref24_Same_om {x0 x1 : Value} {W : AW} {r : Value × AW} (h : ref24_Same omS x0 x1 W = some r) : omS (.func (.func 58) #[] #[]) [x0, x1] W = some (gc W r) := om_of (nt := 39) (n := 2) (by kernel_rfl) (by kernel_rfl) rfl ((ref24_Same_eq omS x0 x1 W).trans h)
noncomputable def ref24_Copy (call : Eng.Callee) (x0 : Value) (W : AW) : Option (Value × AW) :=
  bnd (oBox x0 W) fun r1 =>
  bnd (oAlloc Tryz.prog 82 r1.2) fun r2 =>
  bnd (faO 0 r1.1 r2.2) fun r3 =>
  bnd (ldA 4 r3.1 r3.2) fun r4 =>
  bnd (oBuildSlice Tryz.prog 80 0 [] r4.2) fun r5 =>
  bnd (faO 4 r1.1 r5.2) fun r6 =>
  bnd (ldC r6.1 r6.2) fun r7 =>
  bnd (aAppend Tryz.prog r7.2 #[80, 80] r5.1 r7.1) fun r8 =>
  bIf (agV true (ldA 4 r3.1 r8.2) r4.1 && true) (bnd (oBuild Tryz.prog 82 [(0, r4.1), (1, r8.1)] r8.2) fun r9 =>
  bnd (stV 5 r2.1 r9.1 r9.2) fun r10 =>
  oRes Tryz.prog [(r2.1, some 82)] r10.2) none
theorem ref24_Copy_eq (call : Eng.Callee) (x0 : Value) (W : AW) : kFun Tryz.prog call 10 (cod 62) (rss 62) [x0] W = ref24_Copy call x0 W := by kernel_rfl
theorem ref24_Copy_om {x0 : Value} {W : AW} {r : Value × AW} (h : ref24_Copy omS x0 W = some r) : omS (.func (.func 62) #[] #[]) [x0] W = some (gc W r) := om_of (nt := 10) (n := 1) (by kernel_rfl) (by kernel_rfl) rfl ((ref24_Copy_eq omS x0 W).trans h)
noncomputable def history_Cut (call : Eng.Callee) (x0 x1 : Value) (W : AW) : Option (Value × AW) :=
  bnd (oBox x0 W) fun r1 =>
  bnd (oAlloc Tryz.prog 82 r1.2) fun r2 =>
  bnd (oMv (.int .i64 0) r2.2) fun r3 =>
  bnd (ldA 5 r1.1 r3.2) fun r4 =>
  bnd (call (fnV 106) [r4.1] r4.2) fun r5 =>
  bnd (oMv r5.1 r5.2) fun r6 =>
  bnd (oExtract r6.1 0 r6.2) fun r7 =>
  bnd (oExtract r6.1 1 r7.2) fun r8 =>
  bnd (oExtract r6.1 2 r8.2) fun r9 =>
  bnd (oMv r7.1 r9.2) fun r10 =>
  bnd (oMv r8.1 r10.2) fun r11 =>
  bnd (oMv r9.1 r11.2) fun r12 =>
  bnd (oMv r12.1 r12.2) fun r13 =>
  bnd (oBin Tryz.prog .neq 29 false true r13.1 (.int .i64 0) r13.2) fun r14 =>
  vIf r14.1 (
    bnd (oBuild Tryz.prog 82 [] r14.2) fun r15 =>
    bnd (oMv r12.1 r15.2) fun r16 =>
    bnd (stV 5 r2.1 r15.1 r16.2) fun r17 =>
    bnd (oMv r16.1 r17.2) fun r18 =>
    oRes Tryz.prog [(r2.1, some 82), (r18.1, none)] r18.2) (
    bnd (oMv x1 r14.2) fun r19 =>
    bnd (oBin Tryz.prog .lss 3 false true r19.1 (.int .i64 0) r19.2) fun r20 =>
    bnd (oMv r20.1 r20.2) fun r21 =>
    bnd (bIf (wnt r21.1 false) (oMv x1 r21.2) (some (undef, r21.2))) fun r22 =>
    bnd (bIf (wnt r21.1 false) (faO 4 r1.1 r22.2) (some (undef, r22.2))) fun r23 =>
    bnd (bIf (wnt r21.1 false) (ldC r23.1 r23.2) (some (undef, r23.2))) fun r24 =>
    bnd (bIf (wnt r21.1 false) (oBuiltin Tryz.prog .len #[80] 3 #[false] [r24.1] r24.2) (some (undef, r24.2))) fun r25 =>
    bnd (bIf (wnt r21.1 false) (oBin Tryz.prog .gtr 3 false false r22.1 r25.1 r25.2) (some (undef, r25.2))) fun r26 =>
    bnd (oPick r21.1 (.bool true) r26.1 r26.2) fun r27 =>
    vIf r27.1 (
      bnd (oBuild Tryz.prog 82 [] r27.2) fun r28 =>
      bnd (stV 5 r2.1 r28.1 r28.2) fun r29 =>
      bnd (oMv (.int .i64 7) r29.2) fun r30 =>
      oRes Tryz.prog [(r2.1, some 82), (r30.1, none)] r30.2) (
      bnd (faO 0 r1.1 r27.2) fun r31 =>
      bnd (ldA 4 r31.1 r31.2) fun r32 =>
      bnd (faO 4 r1.1 r32.2) fun r33 =>
      bnd (ldC r33.1 r33.2) fun r34 =>
      bnd (oMv x1 r34.2) fun r35 =>
      bnd (oSlice Tryz.prog 80 r34.1 none (some r35.1) none r35.2) fun r36 =>
      bnd (call (fnV 114) [r36.1] r36.2) fun r37 =>
      bIf (agV true (ldA 4 r31.1 r37.2) r32.1 && true) (bnd (oBuild Tryz.prog 82 [(0, r32.1), (1, r37.1)] r37.2) fun r38 =>
      bnd (stV 5 r2.1 r38.1 r38.2) fun r39 =>
      bnd (oMv (.int .i64 0) r39.2) fun r40 =>
      oRes Tryz.prog [(r2.1, some 82), (r40.1, none)] r40.2) none))
theorem history_Cut_eq (call : Eng.Callee) (x0 x1 : Value) (W : AW) : kFun Tryz.prog call 37 (cod 56) (rss 56) [x0, x1] W = history_Cut call x0 x1 W := by kernel_rfl
theorem history_Cut_om {x0 x1 : Value} {W : AW} {r : Value × AW} (h : history_Cut omS x0 x1 W = some r) : omS (.func (.func 56) #[] #[]) [x0, x1] W = some (gc W r) := om_of (nt := 37) (n := 2) (by kernel_rfl) (by kernel_rfl) rfl ((history_Cut_eq omS x0 x1 W).trans h)
noncomputable def ref24_Cut (call : Eng.Callee) (x0 x1 : Value) (W : AW) : Option (Value × AW) :=
  bnd (oBox x0 W) fun r1 =>
  bnd (oAlloc Tryz.prog 82 r1.2) fun r2 =>
  bnd (oMv (.int .i64 0) r2.2) fun r3 =>
  bnd (ldA 5 r1.1 r3.2) fun r4 =>
  bnd (call (fnV 47) [r4.1] r4.2) fun r5 =>
  bnd (oMv r5.1 r5.2) fun r6 =>
  bnd (oExtract r6.1 0 r6.2) fun r7 =>
  bnd (oExtract r6.1 1 r7.2) fun r8 =>
  bnd (oMv r7.1 r8.2) fun r9 =>
  bnd (oMv r8.1 r9.2) fun r10 =>
  bnd (oMv r10.1 r10.2) fun r11 =>
  bnd (oBin Tryz.prog .eql 29 false true r11.1 (.int .i64 0) r11.2) fun r12 =>
  bnd (oMv r12.1 r12.2) fun r13 =>
  bnd (bIf (wnt r13.1 true) (oMv x1 r13.2) (some (undef, r13.2))) fun r14 =>
  bnd (bIf (wnt r13.1 true) (oBin Tryz.prog .lss 3 false true r14.1 (.int .i64 0) r14.2) (some (undef, r14.2))) fun r15 =>
  bnd (bIf (wnt r13.1 true) (oMv r15.1 r15.2) (some (undef, r15.2))) fun r16 =>
  bnd (bIf (wnt r16.1 false) (oMv x1 r16.2) (some (undef, r16.2))) fun r17 =>
  bnd (bIf (wnt r16.1 false) (faO 4 r1.1 r17.2) (some (undef, r17.2))) fun r18 =>
  bnd (bIf (wnt r16.1 false) (ldC r18.1 r18.2) (some (undef, r18.2))) fun r19 =>
  bnd (bIf (wnt r16.1 false) (oBuiltin Tryz.prog .len #[80] 3 #[false] [r19.1] r19.2) (some (undef, r19.2))) fun r20 =>
  bnd (bIf (wnt r16.1 false) (oBin Tryz.prog .gtr 3 false false r17.1 r20.1 r20.2) (some (undef, r20.2))) fun r21 =>
  bnd (bIf (wnt r13.1 true) (oPick r16.1 (.bool true) r21.1 r21.2) (some (undef, r21.2))) fun r22 =>
  bnd (oPick r13.1 r22.1 (.bool false) r22.2) fun r23 =>
  vIf r23.1 (
    bnd (oMv (.int .i64 7) r23.2) fun r24 =>
    bnd (oMv r24.1 r24.2) fun r25 =>
    bnd (oBin Tryz.prog .neq 29 false true r25.1 (.int .i64 0) r25.2) fun r26 =>
    vIf r26.1 (
      bnd (oBuild Tryz.prog 82 [] r26.2) fun r27 =>
      bnd (oMv r24.1 r27.2) fun r28 =>
      bnd (stV 5 r2.1 r27.1 r28.2) fun r29 =>
      bnd (oMv r28.1 r29.2) fun r30 =>
      oRes Tryz.prog [(r2.1, some 82), (r30.1, none)] r30.2) (
      bnd (ldA 5 r1.1 r26.2) fun r31 =>
      bnd (call (fnV 62) [r31.1] r31.2) fun r32 =>
      bnd (oAlloc Tryz.prog 82 r32.2) fun r33 =>
      bnd (stV 5 r33.1 r32.1 r33.2) fun r34 =>
      bnd (faO 4 r33.1 r34.2) fun r35 =>
      bnd (ldC r35.1 r35.2) fun r36 =>
      bnd (oMv x1 r36.2) fun r37 =>
      bnd (oSlice Tryz.prog 80 r36.1 none (some r37.1) none r37.2) fun r38 =>
      bnd (faO 4 r33.1 r38.2) fun r39 =>
      bnd (stV 1 r39.1 r38.1 r39.2) fun r40 =>
      bnd (ldA 5 r33.1 r40.2) fun r41 =>
      bnd (stV 5 r2.1 r41.1 r41.2) fun r42 =>
      bnd (oMv (.int .i64 0) r42.2) fun r43 =>
      oRes Tryz.prog [(r2.1, some 82), (r43.1, none)] r43.2)) (
    bnd (oMv r10.1 r23.2) fun r44 =>
    bnd (oBin Tryz.prog .neq 29 false true r44.1 (.int .i64 0) r44.2) fun r45 =>
    vIf r45.1 (
      bnd (oBuild Tryz.prog 82 [] r45.2) fun r46 =>
      bnd (oMv r10.1 r46.2) fun r47 =>
      bnd (stV 5 r2.1 r46.1 r47.2) fun r48 =>
      bnd (oMv r47.1 r48.2) fun r49 =>
      oRes Tryz.prog [(r2.1, some 82), (r49.1, none)] r49.2) (
      bnd (ldA 5 r1.1 r45.2) fun r50 =>
      bnd (call (fnV 62) [r50.1] r50.2) fun r51 =>
      bnd (oAlloc Tryz.prog 82 r51.2) fun r52 =>
      bnd (stV 5 r52.1 r51.1 r52.2) fun r53 =>
      bnd (faO 4 r52.1 r53.2) fun r54 =>
      bnd (ldC r54.1 r54.2) fun r55 =>
      bnd (oMv x1 r55.2) fun r56 =>
      bnd (oSlice Tryz.prog 80 r55.1 none (some r56.1) none r56.2) fun r57 =>
      bnd (faO 4 r52.1 r57.2) fun r58 =>
      bnd (stV 1 r58.1 r57.1 r58.2) fun r59 =>
      bnd (ldA 5 r52.1 r59.2) fun r60 =>
      bnd (stV 5 r2.1 r60.1 r60.2) fun r61 =>
      bnd (oMv (.int .i64 0) r61.2) fun r62 =>
      oRes Tryz.prog [(r2.1, some 82), (r62.1, none)] r62.2))
theorem ref24_Cut_eq (call : Eng.Callee) (x0 x1 : Value) (W : AW) : kFun Tryz.prog call 39 (cod 57) (rss 57) [x0, x1] W = ref24_Cut call x0 x1 W := by kernel_rfl
theorem ref24_Cut_om {x0 x1 : Value} {W : AW} {r : Value × AW} (h : ref24_Cut omS x0 x1 W = some r) : omS (.func (.func 57) #[] #[]) [x0, x1] W = some (gc W r) := om_of (nt := 39) (n := 2) (by kernel_rfl) (by kernel_rfl) rfl ((ref24_Cut_eq omS x0 x1 W).trans h)
noncomputable def history_Complete_Y1a (call : Eng.Callee) (R : Nat → Value) (W : AW) : Option LT :=
  bnd (oAlloc Tryz.prog 176 W) fun r24 =>
  bnd (stV 25 r24.1 (R 26) r24.2) fun r25 =>
  some (X.normal, (rput R (some 8) r24.1), r25.2)
theorem history_Complete_Y1a_eq (call : Eng.Callee) (R : Nat → Value) (W : AW) : kCode Tryz.prog call false 59 (cAt [1, 1, 1, 1, 0, 1, 0, 0] (cod 54)) LT R W ret3 = history_Complete_Y1a call R W := by kernel_rfl
noncomputable def history_Complete_Y1b (call : Eng.Callee) (R : Nat → Value) (W : AW) : Option LT :=
  bnd (ldC (R 7) W) fun r26 =>
  bnd (faO 0 (R 8) r26.2) fun r27 =>
  bnd (ldC r27.1 r27.2) fun r28 =>
  bnd (ldC (R 7) r28.2) fun r29 =>
  bnd (oBuiltin Tryz.prog .len #[192] 3 #[false] [r29.1] r29.2) fun r30 =>
  bnd (oBin Tryz.prog .add 3 false true r30.1 (.int .i64 1) r30.2) fun r31 =>
  bnd (oMapUpdate Tryz.prog 192 r26.1 r28.1 r31.1 r31.2) fun r32 =>
  some (X.normal, (rput (rput (rput (rput (rput (rput R (some 27) r26.1) (some 28) r27.1) (some 29) r28.1) (some 30) r29.1) (some 31) r30.1) (some 32) r31.1), r32.2)
theorem history_Complete_Y1b_eq (call : Eng.Callee) (R : Nat → Value) (W : AW) : kCode Tryz.prog call false 59 (cAt [1, 1, 1, 1, 0, 1, 0, 1] (cod 54)) LT R W ret3 = history_Complete_Y1b call R W := by kernel_rfl
noncomputable def history_Complete_L1 (call : Eng.Callee) (R : Nat → Value) (W : AW) : Option LT :=
  bnd (oBin Tryz.prog .lss 3 false false (R 39) (R 38) W) fun r43 =>
  vIf r43.1 (
    bnd (ixS 24 (R 37) (R 39) r43.2) fun r44 =>
    bnd (ldA 24 r44.1 r44.2) fun r45 =>
    bnd (oAlloc Tryz.prog 121 r45.2) fun r46 =>
    bnd (stV 24 r46.1 r45.1 r46.2) fun r47 =>
    bnd (ldC (R 7) r47.2) fun r48 =>
    bnd (faO 0 r46.1 r48.2) fun r49 =>
    bnd (ldC r49.1 r49.2) fun r50 =>
    bnd (oLookup Tryz.prog 192 r48.1 r50.1 false r50.2) fun r51 =>
    bnd (oMv r51.1 r51.2) fun r52 =>
    bnd (oMv r52.1 r52.2) fun r53 =>
    bnd (oBin Tryz.prog .gtr 3 false true r53.1 (.int .i64 0) r53.2) fun r54 =>
    vIf r54.1 (
      bnd (oMv r52.1 r54.2) fun r55 =>
      bnd (faO 0 r46.1 r55.2) fun r56 =>
      bnd (stV 1 r56.1 r55.1 r56.2) fun r57 =>
      bnd (faO 4 (R 9) r57.2) fun r58 =>
      bnd (ldC r58.1 r58.2) fun r59 =>
      bnd (ldA 24 r46.1 r59.2) fun r60 =>
      bnd (oBuildSlice Tryz.prog 80 1 [(0, r60.1)] r60.2) fun r61 =>
      bnd (aAppend Tryz.prog r61.2 #[80, 80] r59.1 r61.1) fun r62 =>
      bnd (faO 4 (R 9) r62.2) fun r63 =>
      bnd (stV 1 r63.1 r62.1 r63.2) fun r64 =>
      bnd (oBin Tryz.prog .add 3 false true (R 39) (.int .i64 1) r64.2) fun r65 =>
      bnd (oMv r65.1 r65.2) fun r66 =>
      some (X.normal, (rput (rput (rput (rput (rput (rput (rput (rput (rput (rput (rput (rput (rput (rput (rput (rput (rput (rput (rput (rput (rput R (some 40) r43.1) (some 41) r44.1) (some 42) r45.1) (some 11) r46.1) (some 43) r48.1) (some 44) r49.1) (some 45) r50.1) (some 46) r51.1) (some 12) r52.1) (some 47) r53.1) (some 48) r54.1) (some 49) r55.1) (some 50) r56.1) (some 51) r58.1) (some 52) r59.1) (some 53) r60.1) (some 54) r61.1) (some 55) r62.1) (some 56) r63.1) (some 57) r65.1) (some 39) r66.1), r66.2)) (
      bnd (oBin Tryz.prog .add 3 false true (R 39) (.int .i64 1) r54.2) fun r67 =>
      bnd (oMv r67.1 r67.2) fun r68 =>
      some (X.normal, (rput (rput (rput (rput (rput (rput (rput (rput (rput (rput (rput (rput (rput R (some 40) r43.1) (some 41) r44.1) (some 42) r45.1) (some 11) r46.1) (some 43) r48.1) (some 44) r49.1) (some 45) r50.1) (some 46) r51.1) (some 12) r52.1) (some 47) r53.1) (some 48) r54.1) (some 57) r67.1) (some 39) r68.1), r68.2))) (
    some (X.exit 2, (rput R (some 40) r43.1), r43.2))
noncomputable def history_Complete (call : Eng.Callee) (x0 : Value) (W : AW) : Option (Value × AW) :=
  bnd (oBox x0 W) fun r1 =>
  bnd (oAlloc Tryz.prog 82 r1.2) fun r2 =>
  bnd (oMv (.int .i64 0) r2.2) fun r3 =>
  bnd (ldA 5 r1.1 r3.2) fun r4 =>
  bnd (call (fnV 106) [r4.1] r4.2) fun r5 =>
  bnd (oMv r5.1 r5.2) fun r6 =>
  bnd (oExtract r6.1 0 r6.2) fun r7 =>
  bnd (oExtract r6.1 1 r7.2) fun r8 =>
  bnd (oExtract r6.1 2 r8.2) fun r9 =>
  bnd (oMv r7.1 r9.2) fun r10 =>
  bnd (oMv r8.1 r10.2) fun r11 =>
  bnd (oMv r9.1 r11.2) fun r12 =>
  bnd (oMv r12.1 r12.2) fun r13 =>
  bnd (oBin Tryz.prog .neq 29 false true r13.1 (.int .i64 0) r13.2) fun r14 =>
  vIf r14.1 (
    bnd (oBuild Tryz.prog 82 [] r14.2) fun r15 =>
    bnd (oMv r12.1 r15.2) fun r16 =>
    bnd (stV 5 r2.1 r15.1 r16.2) fun r17 =>
    bnd (oMv r16.1 r17.2) fun r18 =>
    oRes Tryz.prog [(r2.1, some 82), (r18.1, none)] r18.2) (
    bnd (oMkMap Tryz.prog 192 none r14.2) fun r19 =>
    bnd (oAlloc Tryz.prog 192 r19.2) fun r20 =>
    bnd (stV 1 r20.1 r19.1 r20.2) fun r21 =>
    bnd (oMv r10.1 r21.2) fun r22 =>
    bnd (call (fnV 111) [r22.1, (fnV 113)] r22.2) fun r23 =>
    bnd (oRange call r23.1 (.loop .ready none (rput (rput (rput (rput (rput (rput (rput (rput (rput (rput (rput (rput (rput (rput (rput (rput (rput (rput (argGo 0 [x0] PlanTab.blank) (some 1) r1.1) (some 2) r2.1) (some 3) r3.1) (some 14) r4.1) (some 15) r5.1) (some 13) r6.1) (some 16) r7.1) (some 17) r8.1) (some 18) r9.1) (some 4) r10.1) (some 5) r11.1) (some 6) r12.1) (some 19) r13.1) (some 20) r14.1) (some 23) r19.1) (some 7) r20.1) (some 24) r22.1) (some 25) r23.1) 59 #[26] (cAt [1, 1, 1, 1, 0, 1, 0, 0] (cod 54)) (cAt [1, 1, 1, 1, 0, 1, 0, 1] (cod 54))) r23.2) fun r33 =>
    kNorm r33.1 (
      bnd (faO 0 r1.1 r33.2) fun r34 =>
      bnd (ldA 4 r34.1 r34.2) fun r35 =>
      bnd (oBuild Tryz.prog 82 [(0, r35.1)] r35.2) fun r36 =>
      bnd (oAlloc Tryz.prog 82 r36.2) fun r37 =>
      bnd (stV 5 r37.1 r36.1 r37.2) fun r38 =>
      bnd (faO 4 r1.1 r38.2) fun r39 =>
      bnd (ldC r39.1 r39.2) fun r40 =>
      bnd (oBuiltin Tryz.prog .len #[80] 3 #[false] [r40.1] r40.2) fun r41 =>
      bnd (oMv (.int .i64 0) r41.2) fun r42 =>
      bnd (loopO (history_Complete_L1 call) (rput (rput (rput (rput (rput (rput (rput (rput (rput (rput (rput (rput (rput (rput (rput (rput (rput (rput (rput (rput (rput (rput (rput (rput (rput (rput (argGo 0 [x0] PlanTab.blank) (some 1) r1.1) (some 2) r2.1) (some 3) r3.1) (some 14) r4.1) (some 15) r5.1) (some 13) r6.1) (some 16) r7.1) (some 17) r8.1) (some 18) r9.1) (some 4) r10.1) (some 5) r11.1) (some 6) r12.1) (some 19) r13.1) (some 20) r14.1) (some 23) r19.1) (some 7) r20.1) (some 24) r22.1) (some 25) r23.1) (some 33) r34.1) (some 34) r35.1) (some 35) r36.1) (some 9) r37.1) (some 36) r39.1) (some 37) r40.1) (some 38) r41.1) (some 39) r42.1) r42.2) fun r69 =>
      kExit 2 r69.1 (
        bnd (ldA 5 (r69.2.1 9) r69.2.2) fun r70 =>
        bnd (stV 5 (r69.2.1 2) r70.1 r70.2) fun r71 =>
        bnd (oMv (.int .i64 0) r71.2) fun r72 =>
        oRes Tryz.prog [((r69.2.1 2), some 82), (r72.1, none)] r72.2) (none)) (none))
theorem history_Complete_eq (call : Eng.Callee) (x0 : Value) (W : AW) : kFun Tryz.prog call 59 (cod 54) (rss 54) [x0] W = history_Complete call x0 W := by kernel_rfl
theorem history_Complete_om {x0 : Value} {W : AW} {r : Value × AW} (h : history_Complete omS x0 W = some r) : omS (.func (.func 54) #[] #[]) [x0] W = some (gc W r) := om_of (nt := 59) (n := 1) (by kernel_rfl) (by kernel_rfl) rfl ((history_Complete_eq omS x0 W).trans h)
noncomputable def history_done (call : Eng.Callee) (x0 : Value) (W : AW) : Option (Value × AW) :=
  bnd (oBox x0 W) fun r1 =>
  bnd (oMv (.bool false) r1.2) fun r2 =>
  bnd (faO 3 r1.1 r2.2) fun r3 =>
  bnd (ldC r3.1 r3.2) fun r4 =>
  bnd (oBin Tryz.prog .geq 3 false true r4.1 (.int .i64 0) r4.2) fun r5 =>
  bnd (oMv r5.1 r5.2) fun r6 =>
  oRes Tryz.prog [(r6.1, none)] r6.2
theorem history_done_eq (call : Eng.Callee) (x0 : Value) (W : AW) : kFun Tryz.prog call 6 (cod 113) (rss 113) [x0] W = history_done call x0 W := by kernel_rfl
theorem history_done_om {x0 : Value} {W : AW} {r : Value × AW} (h : history_done omS x0 W = some r) : omS (.func (.func 113) #[] #[]) [x0] W = some (gc W r) := om_of (nt := 6) (n := 1) (by kernel_rfl) (by kernel_rfl) rfl ((history_done_eq omS x0 W).trans h)
noncomputable def law24_HistoryCuts (call : Eng.Callee) (x0 x1 : Value) (W : AW) : Option (Value × AW) :=
  bnd (oBox x0 W) fun r1 =>
  bnd (oMv (.bool false) r1.2) fun r2 =>
  bnd (ldA 5 r1.1 r2.2) fun r3 =>
  bnd (call (fnV 37) [r3.1, (.int .i64 80)] r3.2) fun r4 =>
  vIf r4.1 (
    bnd (call (fnV 38) [] r4.2) fun r5 =>
    bnd (oMv r5.1 r5.2) fun r6 =>
    oRes Tryz.prog [(r6.1, none)] r6.2) (
    bnd (ldA 5 r1.1 r4.2) fun r7 =>
    bnd (call (fnV 54) [r7.1] r7.2) fun r8 =>
    bnd (oMv r8.1 r8.2) fun r9 =>
    bnd (oExtract r9.1 0 r9.2) fun r10 =>
    bnd (oExtract r9.1 1 r10.2) fun r11 =>
    bnd (oAlloc Tryz.prog 82 r11.2) fun r12 =>
    bnd (stV 5 r12.1 r10.1 r12.2) fun r13 =>
    bnd (oMv r11.1 r13.2) fun r14 =>
    bnd (ldA 5 r1.1 r14.2) fun r15 =>
    bnd (call (fnV 55) [r15.1] r15.2) fun r16 =>
    bnd (oMv r16.1 r16.2) fun r17 =>
    bnd (oExtract r17.1 0 r17.2) fun r18 =>
    bnd (oExtract r17.1 1 r18.2) fun r19 =>
    bnd (oAlloc Tryz.prog 82 r19.2) fun r20 =>
    bnd (stV 5 r20.1 r18.1 r20.2) fun r21 =>
    bnd (oMv r19.1 r21.2) fun r22 =>
    bnd (ldA 5 r1.1 r22.2) fun r23 =>
    bnd (oMv x1 r23.2) fun r24 =>
    bnd (call (fnV 56) [r23.1, r24.1] r24.2) fun r25 =>
    bnd (oMv r25.1 r25.2) fun r26 =>
    bnd (oExtract r26.1 0 r26.2) fun r27 =>
    bnd (oExtract r26.1 1 r27.2) fun r28 =>
    bnd (oAlloc Tryz.prog 82 r28.2) fun r29 =>
    bnd (stV 5 r29.1 r27.1 r29.2) fun r30 =>
    bnd (oMv r28.1 r30.2) fun r31 =>
    bnd (ldA 5 r1.1 r31.2) fun r32 =>
    bnd (oMv x1 r32.2) fun r33 =>
    bnd (call (fnV 57) [r32.1, r33.1] r33.2) fun r34 =>
    bnd (oMv r34.1 r34.2) fun r35 =>
    bnd (oExtract r35.1 0 r35.2) fun r36 =>
    bnd (oExtract r35.1 1 r36.2) fun r37 =>
    bnd (oAlloc Tryz.prog 82 r37.2) fun r38 =>
    bnd (stV 5 r38.1 r36.1 r38.2) fun r39 =>
    bnd (oMv r37.1 r39.2) fun r40 =>
    bnd (ldA 5 r12.1 r40.2) fun r41 =>
    bnd (ldA 5 r20.1 r41.2) fun r42 =>
    bnd (call (fnV 58) [r41.1, r42.1] r42.2) fun r43 =>
    bnd (oMv r43.1 r43.2) fun r44 =>
    bnd (bIf (wnt r44.1 true) (oMv r14.1 r44.2) (some (undef, r44.2))) fun r45 =>
    bnd (bIf (wnt r44.1 true) (oMv r22.1 r45.2) (some (undef, r45.2))) fun r46 =>
    bnd (bIf (wnt r44.1 true) (oBin Tryz.prog .eql 29 false false r45.1 r46.1 r46.2) (some (undef, r46.2))) fun r47 =>
    bnd (oPick r44.1 r47.1 (.bool false) r47.2) fun r48 =>
    bnd (oMv r48.1 r48.2) fun r49 =>
    bnd (bIf (wnt r49.1 true) (ldA 5 r29.1 r49.2) (some (undef, r49.2))) fun r50 =>
    bnd (bIf (wnt r49.1 true) (ldA 5 r38.1 r50.2) (some (undef, r50.2))) fun r51 =>
    bnd (bIf (wnt r49.1 true) (call (fnV 58) [r50.1, r51.1] r51.2) (some (undef, r51.2))) fun r52 =>
    bnd (oPick r49.1 r52.1 (.bool false) r52.2) fun r53 =>
    bnd (oMv r53.1 r53.2) fun r54 =>
    bnd (bIf (wnt r54.1 true) (oMv r31.1 r54.2) (some (undef, r54.2))) fun r55 =>
    bnd (bIf (wnt r54.1 true) (oMv r40.1 r55.2) (some (undef, r55.2))) fun r56 =>
    bnd (bIf (wnt r54.1 true) (oBin Tryz.prog .eql 29 false false r55.1 r56.1 r56.2) (some (undef, r56.2))) fun r57 =>
    bnd (oPick r54.1 r57.1 (.bool false) r57.2) fun r58 =>
    bnd (oMv r58.1 r58.2) fun r59 =>
    bnd (bIf (wnt r59.1 true) (call (fnV 38) [] r59.2) (some (undef, r59.2))) fun r60 =>
    bnd (oPick r59.1 r60.1 (.bool false) r60.2) fun r61 =>
    bnd (oMv r61.1 r61.2) fun r62 =>
    oRes Tryz.prog [(r62.1, none)] r62.2)
theorem law24_HistoryCuts_eq (call : Eng.Callee) (x0 x1 : Value) (W : AW) : kFun Tryz.prog call 59 (cod 11) (rss 11) [x0, x1] W = law24_HistoryCuts call x0 x1 W := by kernel_rfl
theorem law24_HistoryCuts_om {x0 x1 : Value} {W : AW} {r : Value × AW} (h : law24_HistoryCuts omS x0 x1 W = some r) : omS (.func (.func 11) #[] #[]) [x0, x1] W = some (gc W r) := om_of (nt := 59) (n := 2) (by kernel_rfl) (by kernel_rfl) rfl ((law24_HistoryCuts_eq omS x0 x1 W).trans h)
noncomputable def ref24_Complete_L1_L2 (call : Eng.Callee) (R : Nat → Value) (W : AW) : Option LT :=
  bnd (oMv (R 12) W) fun r53 =>
  bnd (faO 0 (R 10) r53.2) fun r54 =>
  bnd (ldC r54.1 r54.2) fun r55 =>
  bnd (oBin Tryz.prog .lss 3 false false r53.1 r55.1 r55.2) fun r56 =>
  vIf r56.1 (
    bnd (oMv (R 7) r56.2) fun r57 =>
    bnd (oMv (R 12) r57.2) fun r58 =>
    bnd (ixS 25 r57.1 r58.1 r58.2) fun r59 =>
    bnd (faO 3 r59.1 r59.2) fun r60 =>
    bnd (ldC r60.1 r60.2) fun r61 =>
    bnd (oBin Tryz.prog .geq 3 false true r61.1 (.int .i64 0) r61.2) fun r62 =>
    vIf r62.1 (
      bnd (oMv (R 11) r62.2) fun r63 =>
      bnd (oBin Tryz.prog .add 3 false true r63.1 (.int .i64 1) r63.2) fun r64 =>
      bnd (oMv r64.1 r64.2) fun r65 =>
      bnd (oMv (R 12) r65.2) fun r66 =>
      bnd (oBin Tryz.prog .add 3 false true r66.1 (.int .i64 1) r66.2) fun r67 =>
      bnd (oMv r67.1 r67.2) fun r68 =>
      some (X.normal, (rput (rput (rput (rput (rput (rput (rput (rput (rput (rput (rput (rput (rput (rput (rput (rput R (some 48) r53.1) (some 49) r54.1) (some 50) r55.1) (some 51) r56.1) (some 54) r57.1) (some 55) r58.1) (some 56) r59.1) (some 57) r60.1) (some 58) r61.1) (some 59) r62.1) (some 60) r63.1) (some 61) r64.1) (some 11) r65.1) (some 52) r66.1) (some 53) r67.1) (some 12) r68.1), r68.2)) (
      bnd (oMv (R 12) r62.2) fun r69 =>
      bnd (oBin Tryz.prog .add 3 false true r69.1 (.int .i64 1) r69.2) fun r70 =>
      bnd (oMv r70.1 r70.2) fun r71 =>
      some (X.normal, (rput (rput (rput (rput (rput (rput (rput (rput (rput (rput (rput (rput (rput R (some 48) r53.1) (some 49) r54.1) (some 50) r55.1) (some 51) r56.1) (some 54) r57.1) (some 55) r58.1) (some 56) r59.1) (some 57) r60.1) (some 58) r61.1) (some 59) r62.1) (some 52) r69.1) (some 53) r70.1) (some 12) r71.1), r71.2))) (
    some (X.exit 2, (rput (rput (rput (rput R (some 48) r53.1) (some 49) r54.1) (some 50) r55.1) (some 51) r56.1), r56.2))
noncomputable def ref24_Complete_L1 (call : Eng.Callee) (R : Nat → Value) (W : AW) : Option LT :=
  bnd (oMv (R 9) W) fun r30 =>
  bnd (oMv (R 8) r30.2) fun r31 =>
  bnd (oBuiltin Tryz.prog .len #[80] 3 #[false] [r31.1] r31.2) fun r32 =>
  bnd (oBin Tryz.prog .lss 3 false false r30.1 r32.1 r32.2) fun r33 =>
  vIf r33.1 (
    bnd (oMv (R 8) r33.2) fun r34 =>
    bnd (oMv (R 9) r34.2) fun r35 =>
    bnd (ixS 24 r34.1 r35.1 r35.2) fun r36 =>
    bnd (ldA 24 r36.1 r36.2) fun r37 =>
    bnd (oAlloc Tryz.prog 121 r37.2) fun r38 =>
    bnd (stV 24 r38.1 r37.1 r38.2) fun r39 =>
    bnd (oMv (R 7) r39.2) fun r40 =>
    bnd (faO 0 r38.1 r40.2) fun r41 =>
    bnd (ldC r41.1 r41.2) fun r42 =>
    bnd (oBin Tryz.prog .sub 3 false true r42.1 (.int .i64 1) r42.2) fun r43 =>
    bnd (ixS 25 r40.1 r43.1 r43.2) fun r44 =>
    bnd (faO 3 r44.1 r44.2) fun r45 =>
    bnd (ldC r45.1 r45.2) fun r46 =>
    bnd (oBin Tryz.prog .lss 3 false true r46.1 (.int .i64 0) r46.2) fun r47 =>
    vIf r47.1 (
      bnd (oMv (R 9) r47.2) fun r48 =>
      bnd (oBin Tryz.prog .add 3 false true r48.1 (.int .i64 1) r48.2) fun r49 =>
      bnd (oMv r49.1 r49.2) fun r50 =>
      some (X.normal, (rput (rput (rput (rput (rput (rput (rput (rput (rput (rput (rput (rput (rput (rput (rput (rput (rput (rput (rput (rput R (some 30) r30.1) (some 31) r31.1) (some 32) r32.1) (some 33) r33.1) (some 36) r34.1) (some 37) r35.1) (some 38) r36.1) (some 39) r37.1) (some 10) r38.1) (some 40) r40.1) (some 41) r41.1) (some 42) r42.1) (some 43) r43.1) (some 44) r44.1) (some 45) r45.1) (some 46) r46.1) (some 47) r47.1) (some 34) r48.1) (some 35) r49.1) (some 9) r50.1), r50.2)) (
      bnd (oMv (.int .i64 0) r47.2) fun r51 =>
      bnd (oMv (.int .i64 0) r51.2) fun r52 =>
      bnd (loopO (ref24_Complete_L1_L2 call) (rput (rput (rput (rput (rput (rput (rput (rput (rput (rput (rput (rput (rput (rput (rput (rput (rput (rput (rput R (some 30) r30.1) (some 31) r31.1) (some 32) r32.1) (some 33) r33.1) (some 36) r34.1) (some 37) r35.1) (some 38) r36.1) (some 39) r37.1) (some 10) r38.1) (some 40) r40.1) (some 41) r41.1) (some 42) r42.1) (some 43) r43.1) (some 44) r44.1) (some 45) r45.1) (some 46) r46.1) (some 47) r47.1) (some 11) r51.1) (some 12) r52.1) r52.2) fun r72 =>
      kExit 2 r72.1 (
        bnd (oMv (r72.2.1 11) r72.2.2) fun r73 =>
        bnd (faO 0 (r72.2.1 10) r73.2) fun r74 =>
        bnd (stV 1 r74.1 r73.1 r74.2) fun r75 =>
        bnd (faO 4 (r72.2.1 6) r75.2) fun r76 =>
        bnd (ldC r76.1 r76.2) fun r77 =>
        bnd (ldA 24 (r72.2.1 10) r77.2) fun r78 =>
        bnd (oBuildSlice Tryz.prog 80 1 [(0, r78.1)] r78.2) fun r79 =>
        bnd (aAppend Tryz.prog r79.2 #[80, 80] r77.1 r79.1) fun r80 =>
        bnd (faO 4 (r72.2.1 6) r80.2) fun r81 =>
        bnd (stV 1 r81.1 r80.1 r81.2) fun r82 =>
        bnd (oMv (r72.2.1 9) r82.2) fun r83 =>
        bnd (oBin Tryz.prog .add 3 false true r83.1 (.int .i64 1) r83.2) fun r84 =>
        bnd (oMv r84.1 r84.2) fun r85 =>
        some (X.normal, (rput (rput (rput (rput (rput (rput (rput (rput (rput (rput (rput r72.2.1 (some 62) r73.1) (some 63) r74.1) (some 64) r76.1) (some 65) r77.1) (some 66) r78.1) (some 67) r79.1) (some 68) r80.1) (some 69) r81.1) (some 34) r83.1) (some 35) r84.1) (some 9) r85.1), r85.2)) (none))) (
    some (X.exit 0, (rput (rput (rput (rput R (some 30) r30.1) (some 31) r31.1) (some 32) r32.1) (some 33) r33.1), r33.2))
noncomputable def ref24_Complete (call : Eng.Callee) (x0 : Value) (W : AW) : Option (Value × AW) :=
  bnd (oBox x0 W) fun r1 =>
  bnd (oAlloc Tryz.prog 82 r1.2) fun r2 =>
  bnd (oMv (.int .i64 0) r2.2) fun r3 =>
  bnd (ldA 5 r1.1 r3.2) fun r4 =>
  bnd (call (fnV 47) [r4.1] r4.2) fun r5 =>
  bnd (oMv r5.1 r5.2) fun r6 =>
  bnd (oExtract r6.1 0 r6.2) fun r7 =>
  bnd (oExtract r6.1 1 r7.2) fun r8 =>
  bnd (oMv r7.1 r8.2) fun r9 =>
  bnd (oMv r8.1 r9.2) fun r10 =>
  bnd (oMv r10.1 r10.2) fun r11 =>
  bnd (oBin Tryz.prog .neq 29 false true r11.1 (.int .i64 0) r11.2) fun r12 =>
  vIf r12.1 (
    bnd (oBuild Tryz.prog 82 [] r12.2) fun r13 =>
    bnd (oMv r10.1 r13.2) fun r14 =>
    bnd (stV 5 r2.1 r13.1 r14.2) fun r15 =>
    bnd (oMv r14.1 r15.2) fun r16 =>
    oRes Tryz.prog [(r2.1, some 82), (r16.1, none)] r16.2) (
    bnd (faO 0 r1.1 r12.2) fun r17 =>
    bnd (ldA 4 r17.1 r17.2) fun r18 =>
    bnd (oBuild Tryz.prog 82 [(0, r18.1)] r18.2) fun r19 =>
    bnd (oAlloc Tryz.prog 82 r19.2) fun r20 =>
    bnd (stV 5 r20.1 r19.1 r20.2) fun r21 =>
    bnd (ldA 5 r1.1 r21.2) fun r22 =>
    bnd (call (fnV 110) [r22.1] r22.2) fun r23 =>
    bnd (oMv r23.1 r23.2) fun r24 =>
    bnd (ldA 5 r1.1 r24.2) fun r25 =>
    bnd (call (fnV 62) [r25.1] r25.2) fun r26 =>
    bnd (fdC 4 r26.1 r26.2) fun r27 =>
    bnd (oMv r27.1 r27.2) fun r28 =>
    bnd (oMv (.int .i64 0) r28.2) fun r29 =>
    bnd (loopO (ref24_Complete_L1 call) (rput (rput (rput (rput (rput (rput (rput (rput (rput (rput (rput (rput (rput (rput (rput (rput (rput (rput (rput (rput (rput (rput (rput (rput (argGo 0 [x0] PlanTab.blank) (some 1) r1.1) (some 2) r2.1) (some 3) r3.1) (some 14) r4.1) (some 15) r5.1) (some 13) r6.1) (some 16) r7.1) (some 17) r8.1) (some 4) r9.1) (some 5) r10.1) (some 18) r11.1) (some 19) r12.1) (some 22) r17.1) (some 23) r18.1) (some 24) r19.1) (some 6) r20.1) (some 25) r22.1) (some 26) r23.1) (some 7) r24.1) (some 27) r25.1) (some 28) r26.1) (some 29) r27.1) (some 8) r28.1) (some 9) r29.1) r29.2) fun r86 =>
    kExit 0 r86.1 (
      bnd (ldA 5 (r86.2.1 6) r86.2.2) fun r87 =>
      bnd (stV 5 (r86.2.1 2) r87.1 r87.2) fun r88 =>
      bnd (oMv (.int .i64 0) r88.2) fun r89 =>
      oRes Tryz.prog [((r86.2.1 2), some 82), (r89.1, none)] r89.2) (none))
theorem ref24_Complete_eq (call : Eng.Callee) (x0 : Value) (W : AW) : kFun Tryz.prog call 71 (cod 55) (rss 55) [x0] W = ref24_Complete call x0 W := by kernel_rfl
theorem ref24_Complete_om {x0 : Value} {W : AW} {r : Value × AW} (h : ref24_Complete omS x0 W = some r) : omS (.func (.func 55) #[] #[]) [x0] W = some (gc W r) := om_of (nt := 71) (n := 1) (by kernel_rfl) (by kernel_rfl) rfl ((ref24_Complete_eq omS x0 W).trans h)
end Go.Proofs.YtnigceddndemkaaGreatDoor
