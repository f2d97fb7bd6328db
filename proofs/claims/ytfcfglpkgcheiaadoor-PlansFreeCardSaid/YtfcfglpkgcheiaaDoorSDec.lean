/- Texts of the program told in continuations: written by a program, shown by the kernel. -/
import Derived.Test.YtfcfglpkgcheiaaDoorSBase
import Derived.KernelRfl
namespace Go.Proofs.YtfcfglpkgcheiaaDoor
open Go Go.Eng
set_option linter.unusedVariables false
set_option maxRecDepth 100000
noncomputable def plans_Target (call : Eng.Callee) (x0 : Value) (W : AW) : Option (Value × AW) :=
  bnd (oBox x0 W) fun r1 =>
  bnd (oMv (.int .i64 0) r1.2) fun r2 =>
  bnd (oMv (.int .i64 0) r2.2) fun r3 =>
  bnd (oMv (.int .i64 0) r3.2) fun r4 =>
  bnd (ldA 12 r1.1 r4.2) fun r5 =>
  bnd (call (fnV 14) [r5.1] r5.2) fun r6 =>
  bnd (oMv r6.1 r6.2) fun r7 =>
  bnd (oMv r7.1 r7.2) fun r8 =>
  bnd (oBin Tryd.prog .neq 28 false true r8.1 (.int .i64 0) r8.2) fun r9 =>
  vIf r9.1 (
    bnd (oMv r7.1 r9.2) fun r10 =>
    bnd (oMv (.int .i64 0) r10.2) fun r11 =>
    bnd (oMv (.int .i64 0) r11.2) fun r12 =>
    bnd (oMv r10.1 r12.2) fun r13 =>
    oRes Tryd.prog [(r11.1, none), (r12.1, none), (r13.1, none)] r13.2) (
    bnd (oMv (.int .i64 (-1)) r9.2) fun r14 =>
    bnd (oMv (.int .i64 (-1)) r14.2) fun r15 =>
    bnd (faO 0 r1.1 r15.2) fun r16 =>
    bnd (ldC r16.1 r16.2) fun r17 =>
    bnd (ixA 13 1 (glbV 0) r17.1 r17.2) fun r18 =>
    bnd (ldC r18.1 r18.2) fun r19 =>
    bnd (oMv r19.1 r19.2) fun r20 =>
    bnd (oMv r20.1 r20.2) fun r21 =>
    bnd (oBin Tryd.prog .and 3 false true r21.1 (.int .i64 4) r21.2) fun r22 =>
    bnd (oBin Tryd.prog .neq 3 false true r22.1 (.int .i64 0) r22.2) fun r23 =>
    bnd (oMv r23.1 r23.2) fun r24 =>
    vIf r24.1 (
      bnd (faO 3 r1.1 r24.2) fun r25 =>
      bnd (ldC r25.1 r25.2) fun r26 =>
      bnd (oMv r26.1 r26.2) fun r27 =>
      bnd (oMv r27.1 r27.2) fun r28 =>
      bnd (oMv r15.1 r28.2) fun r29 =>
      bnd (oMv r28.1 r29.2) fun r30 =>
      bnd (oMv r29.1 r30.2) fun r31 =>
      bnd (oMv (.int .i64 0) r31.2) fun r32 =>
      oRes Tryd.prog [(r30.1, none), (r31.1, none), (r32.1, none)] r32.2) (
      bnd (oMv r20.1 r24.2) fun r33 =>
      bnd (oBin Tryd.prog .and 3 false true r33.1 (.int .i64 64) r33.2) fun r34 =>
      bnd (oBin Tryd.prog .neq 3 false true r34.1 (.int .i64 0) r34.2) fun r35 =>
      bnd (oMv r35.1 r35.2) fun r36 =>
      vIf r36.1 (
        bnd (faO 7 r1.1 r36.2) fun r37 =>
        bnd (faO 0 r37.1 r37.2) fun r38 =>
        bnd (ldC r38.1 r38.2) fun r39 =>
        bnd (oConv Tryd.prog 22 3 r39.1 r39.2) fun r40 =>
        bnd (oMv r40.1 r40.2) fun r41 =>
        bnd (oMv r41.1 r41.2) fun r42 =>
        bnd (oMv r15.1 r42.2) fun r43 =>
        bnd (oMv r42.1 r43.2) fun r44 =>
        bnd (oMv r43.1 r44.2) fun r45 =>
        bnd (oMv (.int .i64 0) r45.2) fun r46 =>
        oRes Tryd.prog [(r44.1, none), (r45.1, none), (r46.1, none)] r46.2) (
        bnd (oMv r20.1 r36.2) fun r47 =>
        bnd (oBin Tryd.prog .and 3 false true r47.1 (.int .i64 8) r47.2) fun r48 =>
        bnd (oBin Tryd.prog .neq 3 false true r48.1 (.int .i64 0) r48.2) fun r49 =>
        bnd (oMv r49.1 r49.2) fun r50 =>
        vIf r50.1 (
          bnd (faO 4 r1.1 r50.2) fun r51 =>
          bnd (ldC r51.1 r51.2) fun r52 =>
          bnd (oMv r52.1 r52.2) fun r53 =>
          bnd (oMv r14.1 r53.2) fun r54 =>
          bnd (oMv r53.1 r54.2) fun r55 =>
          bnd (oMv r54.1 r55.2) fun r56 =>
          bnd (oMv r55.1 r56.2) fun r57 =>
          bnd (oMv (.int .i64 0) r57.2) fun r58 =>
          oRes Tryd.prog [(r56.1, none), (r57.1, none), (r58.1, none)] r58.2) (
          bnd (oMv r14.1 r50.2) fun r59 =>
          bnd (oMv r15.1 r59.2) fun r60 =>
          bnd (oMv r59.1 r60.2) fun r61 =>
          bnd (oMv r60.1 r61.2) fun r62 =>
          bnd (oMv (.int .i64 0) r62.2) fun r63 =>
          oRes Tryd.prog [(r61.1, none), (r62.1, none), (r63.1, none)] r63.2))))
theorem plans_Target_eq (call : Eng.Callee) (x0 : Value) (W : AW) : kFun Tryd.prog call 38 (cod 12) (rss 12) [x0] W = plans_Target call x0 W := by kernel_rfl
theorem plans_Target_om {x0 : Value} {W : AW} {r : Value × AW} (h : plans_Target omS x0 W = some r) : omS (.func (.func 12) #[] #[]) [x0] W = some (gc W r) := om_of (nt := 38) (n := 1) (by kernel_rfl) (by kernel_rfl) rfl ((plans_Target_eq omS x0 W).trans h)
noncomputable def law22_wide_L1 (call : Eng.Callee) (R : Nat → Value) (W : AW) : Option LT :=
  bnd (oMv (R 3) W) fun r4 =>
  bnd (faO 3 (R 1) r4.2) fun r5 =>
  bnd (ldC r5.1 r5.2) fun r6 =>
  bnd (oBuiltin Tryd.prog .len #[34] 3 #[false] [r6.1] r6.2) fun r7 =>
  bnd (oBin Tryd.prog .lss 3 false false r4.1 r7.1 r7.2) fun r8 =>
  bnd (oMv r8.1 r8.2) fun r9 =>
  bnd (bIf (wnt r9.1 true) (oMv (R 3) r9.2) (some (undef, r9.2))) fun r10 =>
  bnd (bIf (wnt r9.1 true) (oBin Tryd.prog .lss 3 false true r10.1 (.int .i64 20) r10.2) (some (undef, r10.2))) fun r11 =>
  bnd (oPick r9.1 r11.1 (.bool false) r11.2) fun r12 =>
  vIf r12.1 (
    bnd (faO 3 (R 1) r12.2) fun r13 =>
    bnd (ldC r13.1 r13.2) fun r14 =>
    bnd (oMv (R 3) r14.2) fun r15 =>
    bnd (ixS 3 r14.1 r15.1 r15.2) fun r16 =>
    bnd (faO 0 r16.1 r16.2) fun r17 =>
    bnd (ldC r17.1 r17.2) fun r18 =>
    bnd (oBuiltin Tryd.prog .len #[9] 3 #[false] [r18.1] r18.2) fun r19 =>
    bnd (oBin Tryd.prog .gtr 3 false true r19.1 (.int .i64 100) r19.2) fun r20 =>
    bnd (oMv r20.1 r20.2) fun r21 =>
    bnd (bIf (wnt r21.1 false) (faO 3 (R 1) r21.2) (some (undef, r21.2))) fun r22 =>
    bnd (bIf (wnt r21.1 false) (ldC r22.1 r22.2) (some (undef, r22.2))) fun r23 =>
    bnd (bIf (wnt r21.1 false) (oMv (R 3) r23.2) (some (undef, r23.2))) fun r24 =>
    bnd (bIf (wnt r21.1 false) (ixS 3 r23.1 r24.1 r24.2) (some (undef, r24.2))) fun r25 =>
    bnd (bIf (wnt r21.1 false) (faO 1 r25.1 r25.2) (some (undef, r25.2))) fun r26 =>
    bnd (bIf (wnt r21.1 false) (ldC r26.1 r26.2) (some (undef, r26.2))) fun r27 =>
    bnd (bIf (wnt r21.1 false) (oBuiltin Tryd.prog .len #[38] 3 #[false] [r27.1] r27.2) (some (undef, r27.2))) fun r28 =>
    bnd (bIf (wnt r21.1 false) (oBin Tryd.prog .gtr 3 false true r28.1 (.int .i64 20) r28.2) (some (undef, r28.2))) fun r29 =>
    bnd (oPick r21.1 (.bool true) r29.1 r29.2) fun r30 =>
    vIf r30.1 (
      bnd (oMv (.bool true) r30.2) fun r31 =>
      some (X.ret, (rput (rput (rput (rput (rput (rput (rput (rput (rput (rput (rput (rput (rput (rput (rput (rput (rput (rput (rput (rput (rput (rput (rput (rput (rput (rput (rput (rput R (some 4) r4.1) (some 5) r5.1) (some 6) r6.1) (some 7) r7.1) (some 8) r8.1) (some 9) r9.1) (some 10) r10.1) (some 11) r11.1) (some 12) r12.1) (some 15) r13.1) (some 16) r14.1) (some 17) r15.1) (some 18) r16.1) (some 19) r17.1) (some 20) r18.1) (some 21) r19.1) (some 22) r20.1) (some 23) r21.1) (some 24) r22.1) (some 25) r23.1) (some 26) r24.1) (some 27) r25.1) (some 28) r26.1) (some 29) r27.1) (some 30) r28.1) (some 31) r29.1) (some 32) r30.1) (some 2) r31.1), r31.2)) (
      bnd (oMv (R 3) r30.2) fun r32 =>
      bnd (oBin Tryd.prog .add 3 false true r32.1 (.int .i64 1) r32.2) fun r33 =>
      bnd (oMv r33.1 r33.2) fun r34 =>
      some (X.normal, (rput (rput (rput (rput (rput (rput (rput (rput (rput (rput (rput (rput (rput (rput (rput (rput (rput (rput (rput (rput (rput (rput (rput (rput (rput (rput (rput (rput (rput (rput R (some 4) r4.1) (some 5) r5.1) (some 6) r6.1) (some 7) r7.1) (some 8) r8.1) (some 9) r9.1) (some 10) r10.1) (some 11) r11.1) (some 12) r12.1) (some 15) r13.1) (some 16) r14.1) (some 17) r15.1) (some 18) r16.1) (some 19) r17.1) (some 20) r18.1) (some 21) r19.1) (some 22) r20.1) (some 23) r21.1) (some 24) r22.1) (some 25) r23.1) (some 26) r24.1) (some 27) r25.1) (some 28) r26.1) (some 29) r27.1) (some 30) r28.1) (some 31) r29.1) (some 32) r30.1) (some 13) r32.1) (some 14) r33.1) (some 3) r34.1), r34.2))) (
    some (X.exit 0, (rput (rput (rput (rput (rput (rput (rput (rput (rput R (some 4) r4.1) (some 5) r5.1) (some 6) r6.1) (some 7) r7.1) (some 8) r8.1) (some 9) r9.1) (some 10) r10.1) (some 11) r11.1) (some 12) r12.1), r12.2))
noncomputable def law22_wide (call : Eng.Callee) (x0 : Value) (W : AW) : Option (Value × AW) :=
  bnd (oBox x0 W) fun r1 =>
  bnd (oMv (.bool false) r1.2) fun r2 =>
  bnd (oMv (.int .i64 0) r2.2) fun r3 =>
  bnd (loopO (law22_wide_L1 call) (rput (rput (rput (argGo 0 [x0] PlanTab.blank) (some 1) r1.1) (some 2) r2.1) (some 3) r3.1) r3.2) fun r35 =>
  kExit 0 r35.1 (
    bnd (faO 3 (r35.2.1 1) r35.2.2) fun r36 =>
    bnd (ldC r36.1 r36.2) fun r37 =>
    bnd (oBuiltin Tryd.prog .len #[34] 3 #[false] [r37.1] r37.2) fun r38 =>
    bnd (oBin Tryd.prog .gtr 3 false true r38.1 (.int .i64 10) r38.2) fun r39 =>
    bnd (oMv r39.1 r39.2) fun r40 =>
    oRes Tryd.prog [(r40.1, none)] r40.2) (kRetX r35.1 (
    oRes Tryd.prog [((r35.2.1 2), none)] r35.2.2))
theorem law22_wide_eq (call : Eng.Callee) (x0 : Value) (W : AW) : kFun Tryd.prog call 37 (cod 17) (rss 17) [x0] W = law22_wide call x0 W := by kernel_rfl
theorem law22_wide_om {x0 : Value} {W : AW} {r : Value × AW} (h : law22_wide omS x0 W = some r) : omS (.func (.func 17) #[] #[]) [x0] W = some (gc W r) := om_of (nt := 37) (n := 1) (by kernel_rfl) (by kernel_rfl) rfl ((law22_wide_eq omS x0 W).trans h)
noncomputable def venue_Of_Y1a (call : Eng.Callee) (R : Nat → Value) (W : AW) : Option LT :=
  bnd (oAlloc Tryd.prog 92 W) fun r21 =>
  bnd (stV 4 r21.1 (R 20) r21.2) fun r22 =>
  some (X.normal, (rput R (some 9) r21.1), r22.2)
theorem venue_Of_Y1a_eq (call : Eng.Callee) (R : Nat → Value) (W : AW) : kCode Tryd.prog call false 37 (cAt [1, 1, 0, 1, 0, 0] (cod 32)) LT R W ret3 = venue_Of_Y1a call R W := by kernel_rfl
noncomputable def venue_Of_Y1b (call : Eng.Callee) (R : Nat → Value) (W : AW) : Option LT :=
  bnd (faO 0 (R 9) W) fun r23 =>
  bnd (ldC r23.1 r23.2) fun r24 =>
  bnd (ldC (R 3) r24.2) fun r25 =>
  bnd (oBin Tryd.prog .neq 3 false false r24.1 r25.1 r25.2) fun r26 =>
  vIf r26.1 (
    some (X.normal, (rput (rput (rput (rput R (some 21) r23.1) (some 22) r24.1) (some 23) r25.1) (some 24) r26.1), r26.2)) (
    bnd (ldC (R 5) r26.2) fun r27 =>
    bnd (oBin Tryd.prog .eql 3 false true r27.1 (.int .i64 0) r27.2) fun r28 =>
    vIf r28.1 (
      bnd (faO 2 (R 9) r28.2) fun r29 =>
      bnd (ldC r29.1 r29.2) fun r30 =>
      bnd (stV 1 (R 4) r30.1 r30.2) fun r31 =>
      bnd (ldC (R 5) r31.2) fun r32 =>
      bnd (faO 3 (R 9) r32.2) fun r33 =>
      bnd (ldC r33.1 r33.2) fun r34 =>
      bnd (oBin Tryd.prog .add 3 false false r32.1 r34.1 r34.2) fun r35 =>
      bnd (stV 1 (R 5) r35.1 r35.2) fun r36 =>
      some (X.normal, (rput (rput (rput (rput (rput (rput (rput (rput (rput (rput (rput (rput R (some 21) r23.1) (some 22) r24.1) (some 23) r25.1) (some 24) r26.1) (some 25) r27.1) (some 26) r28.1) (some 27) r29.1) (some 28) r30.1) (some 29) r32.1) (some 30) r33.1) (some 31) r34.1) (some 32) r35.1), r36.2)) (
      bnd (ldC (R 5) r28.2) fun r37 =>
      bnd (faO 3 (R 9) r37.2) fun r38 =>
      bnd (ldC r38.1 r38.2) fun r39 =>
      bnd (oBin Tryd.prog .add 3 false false r37.1 r39.1 r39.2) fun r40 =>
      bnd (stV 1 (R 5) r40.1 r40.2) fun r41 =>
      some (X.normal, (rput (rput (rput (rput (rput (rput (rput (rput (rput (rput R (some 21) r23.1) (some 22) r24.1) (some 23) r25.1) (some 24) r26.1) (some 25) r27.1) (some 26) r28.1) (some 29) r37.1) (some 30) r38.1) (some 31) r39.1) (some 32) r40.1), r41.2)))
theorem venue_Of_Y1b_eq (call : Eng.Callee) (R : Nat → Value) (W : AW) : kCode Tryd.prog call false 37 (cAt [1, 1, 0, 1, 0, 1] (cod 32)) LT R W ret3 = venue_Of_Y1b call R W := by kernel_rfl
noncomputable def venue_Of (call : Eng.Callee) (x0 x1 : Value) (W : AW) : Option (Value × AW) :=
  bnd (oBox x0 W) fun r1 =>
  bnd (oBox x1 r1.2) fun r2 =>
  bnd (oAlloc Tryd.prog 3 r2.2) fun r3 =>
  bnd (oAlloc Tryd.prog 3 r3.2) fun r4 =>
  bnd (oMv (.int .i64 0) r4.2) fun r5 =>
  bnd (ldA 4 r1.1 r5.2) fun r6 =>
  bnd (call (fnV 42) [r6.1] r6.2) fun r7 =>
  bnd (oMv r7.1 r7.2) fun r8 =>
  bnd (oExtract r8.1 0 r8.2) fun r9 =>
  bnd (oExtract r8.1 1 r9.2) fun r10 =>
  bnd (oMv r9.1 r10.2) fun r11 =>
  bnd (oMv r10.1 r11.2) fun r12 =>
  bnd (oMv r12.1 r12.2) fun r13 =>
  bnd (oBin Tryd.prog .neq 28 false true r13.1 (.int .i64 0) r13.2) fun r14 =>
  vIf r14.1 (
    bnd (oMv r12.1 r14.2) fun r15 =>
    bnd (stV 1 r3.1 (.int .i64 0) r15.2) fun r16 =>
    bnd (stV 1 r4.1 (.int .i64 0) r16.2) fun r17 =>
    bnd (oMv r15.1 r17.2) fun r18 =>
    oRes Tryd.prog [(r3.1, some 3), (r4.1, some 3), (r18.1, none)] r18.2) (
    bnd (ldA 4 r1.1 r14.2) fun r19 =>
    bnd (call (fnV 55) [r19.1] r19.2) fun r20 =>
    bnd (oRange call r20.1 (.loop .ready none (rput (rput (rput (rput (rput (rput (rput (rput (rput (rput (rput (rput (rput (rput (rput (rput (argGo 0 [x0, x1] PlanTab.blank) (some 2) r1.1) (some 3) r2.1) (some 4) r3.1) (some 5) r4.1) (some 6) r5.1) (some 11) r6.1) (some 12) r7.1) (some 10) r8.1) (some 13) r9.1) (some 14) r10.1) (some 7) r11.1) (some 8) r12.1) (some 15) r13.1) (some 16) r14.1) (some 18) r19.1) (some 19) r20.1) 37 #[20] (cAt [1, 1, 0, 1, 0, 0] (cod 32)) (cAt [1, 1, 0, 1, 0, 1] (cod 32))) r20.2) fun r42 =>
    kNorm r42.1 (
      bnd (ldC r4.1 r42.2) fun r43 =>
      bnd (oBin Tryd.prog .eql 3 false true r43.1 (.int .i64 0) r43.2) fun r44 =>
      vIf r44.1 (
        bnd (stV 1 r3.1 (.int .i64 0) r44.2) fun r45 =>
        bnd (stV 1 r4.1 (.int .i64 0) r45.2) fun r46 =>
        bnd (oMv (.int .i64 4) r46.2) fun r47 =>
        oRes Tryd.prog [(r3.1, some 3), (r4.1, some 3), (r47.1, none)] r47.2) (
        bnd (ldC r3.1 r44.2) fun r48 =>
        bnd (ldC r4.1 r48.2) fun r49 =>
        bnd (stV 1 r3.1 r48.1 r49.2) fun r50 =>
        bIf (agV true (ldC r4.1 r50.2) r49.1 && true) (bnd (stV 1 r4.1 r49.1 r50.2) fun r51 =>
        bnd (oMv (.int .i64 0) r51.2) fun r52 =>
        oRes Tryd.prog [(r3.1, some 3), (r4.1, some 3), (r52.1, none)] r52.2) none)) (none))
theorem venue_Of_eq (call : Eng.Callee) (x0 x1 : Value) (W : AW) : kFun Tryd.prog call 37 (cod 32) (rss 32) [x0, x1] W = venue_Of call x0 x1 W := by kernel_rfl
theorem venue_Of_om {x0 x1 : Value} {W : AW} {r : Value × AW} (h : venue_Of omS x0 x1 W = some r) : omS (.func (.func 32) #[] #[]) [x0, x1] W = some (gc W r) := om_of (nt := 37) (n := 2) (by kernel_rfl) (by kernel_rfl) rfl ((venue_Of_eq omS x0 x1 W).trans h)
noncomputable def venue_Place (call : Eng.Callee) (x0 x1 : Value) (W : AW) : Option (Value × AW) :=
  bnd (oBox x0 W) fun r1 =>
  bnd (oAlloc Tryd.prog 65 r1.2) fun r2 =>
  bnd (oMv (.int .i64 0) r2.2) fun r3 =>
  bnd (ldA 4 r1.1 r3.2) fun r4 =>
  bnd (oMv x1 r4.2) fun r5 =>
  bnd (call (fnV 57) [r4.1, r5.1] r5.2) fun r6 =>
  bnd (oMv r6.1 r6.2) fun r7 =>
  bnd (oExtract r7.1 0 r7.2) fun r8 =>
  bnd (oExtract r7.1 1 r8.2) fun r9 =>
  bnd (oAlloc Tryd.prog 92 r9.2) fun r10 =>
  bnd (stV 4 r10.1 r8.1 r10.2) fun r11 =>
  bnd (oMv r9.1 r11.2) fun r12 =>
  bnd (oMv r12.1 r12.2) fun r13 =>
  bnd (oBin Tryd.prog .neq 28 false true r13.1 (.int .i64 0) r13.2) fun r14 =>
  vIf r14.1 (
    bnd (oBuild Tryd.prog 65 [] r14.2) fun r15 =>
    bnd (oMv r12.1 r15.2) fun r16 =>
    bnd (stV 3 r2.1 r15.1 r16.2) fun r17 =>
    bnd (oMv r16.1 r17.2) fun r18 =>
    oRes Tryd.prog [(r2.1, some 65), (r18.1, none)] r18.2) (
    bnd (faO 0 r10.1 r14.2) fun r19 =>
    bnd (ldC r19.1 r19.2) fun r20 =>
    bnd (faO 1 r10.1 r20.2) fun r21 =>
    bnd (ldC r21.1 r21.2) fun r22 =>
    bnd (oMv x1 r22.2) fun r23 =>
    bnd (faO 2 r10.1 r23.2) fun r24 =>
    bnd (ldC r24.1 r24.2) fun r25 =>
    bnd (oBin Tryd.prog .sub 3 false false r23.1 r25.1 r25.2) fun r26 =>
    bnd (oBuild Tryd.prog 65 [(0, r20.1), (1, r22.1), (2, r26.1)] r26.2) fun r27 =>
    bnd (stV 3 r2.1 r27.1 r27.2) fun r28 =>
    bnd (oMv (.int .i64 0) r28.2) fun r29 =>
    oRes Tryd.prog [(r2.1, some 65), (r29.1, none)] r29.2)
theorem venue_Place_eq (call : Eng.Callee) (x0 x1 : Value) (W : AW) : kFun Tryd.prog call 27 (cod 35) (rss 35) [x0, x1] W = venue_Place call x0 x1 W := by kernel_rfl
theorem venue_Place_om {x0 x1 : Value} {W : AW} {r : Value × AW} (h : venue_Place omS x0 x1 W = some r) : omS (.func (.func 35) #[] #[]) [x0, x1] W = some (gc W r) := om_of (nt := 27) (n := 2) (by kernel_rfl) (by kernel_rfl) rfl ((venue_Place_eq omS x0 x1 W).trans h)
noncomputable def venue_Shard (call : Eng.Callee) (x0 x1 : Value) (W : AW) : Option (Value × AW) :=
  bnd (oBox x0 W) fun r1 =>
  bnd (oMv (.int .i64 0) r1.2) fun r2 =>
  bnd (oMv (.int .i64 0) r2.2) fun r3 =>
  bnd (ldA 4 r1.1 r3.2) fun r4 =>
  bnd (oMv x1 r4.2) fun r5 =>
  bnd (call (fnV 57) [r4.1, r5.1] r5.2) fun r6 =>
  bnd (oMv r6.1 r6.2) fun r7 =>
  bnd (oExtract r7.1 0 r7.2) fun r8 =>
  bnd (oExtract r7.1 1 r8.2) fun r9 =>
  bnd (oAlloc Tryd.prog 92 r9.2) fun r10 =>
  bnd (stV 4 r10.1 r8.1 r10.2) fun r11 =>
  bnd (oMv r9.1 r11.2) fun r12 =>
  bnd (oMv r12.1 r12.2) fun r13 =>
  bnd (oBin Tryd.prog .neq 28 false true r13.1 (.int .i64 0) r13.2) fun r14 =>
  vIf r14.1 (
    bnd (oMv r12.1 r14.2) fun r15 =>
    bnd (oMv (.int .i64 0) r15.2) fun r16 =>
    bnd (oMv r15.1 r16.2) fun r17 =>
    oRes Tryd.prog [(r16.1, none), (r17.1, none)] r17.2) (
    bnd (oMv x1 r14.2) fun r18 =>
    bnd (faO 0 r1.1 r18.2) fun r19 =>
    bnd (ldC r19.1 r19.2) fun r20 =>
    bnd (oBin Tryd.prog .rem 3 false false r18.1 r20.1 r20.2) fun r21 =>
    bnd (oMv r21.1 r21.2) fun r22 =>
    bnd (oMv (.int .i64 0) r22.2) fun r23 =>
    oRes Tryd.prog [(r22.1, none), (r23.1, none)] r23.2)
theorem venue_Shard_eq (call : Eng.Callee) (x0 x1 : Value) (W : AW) : kFun Tryd.prog call 21 (cod 37) (rss 37) [x0, x1] W = venue_Shard call x0 x1 W := by kernel_rfl
theorem venue_Shard_om {x0 x1 : Value} {W : AW} {r : Value × AW} (h : venue_Shard omS x0 x1 W = some r) : omS (.func (.func 37) #[] #[]) [x0, x1] W = some (gc W r) := om_of (nt := 21) (n := 2) (by kernel_rfl) (by kernel_rfl) rfl ((venue_Shard_eq omS x0 x1 W).trans h)
noncomputable def venue_Cover_L1 (call : Eng.Callee) (R : Nat → Value) (W : AW) : Option LT :=
  bnd (oBin Tryd.prog .lss 3 false false (R 25) (R 24) W) fun r25 =>
  vIf r25.1 (
    bnd (oMv (R 25) r25.2) fun r26 =>
    bnd (oMv r26.1 r26.2) fun r27 =>
    bnd (oMv (R 9) r27.2) fun r28 =>
    bnd (oMv (R 6) r28.2) fun r29 =>
    bnd (oMv r27.1 r29.2) fun r30 =>
    bnd (oBin Tryd.prog .add 3 false false r29.1 r30.1 r30.2) fun r31 =>
    bnd (faO 0 (R 2) r31.2) fun r32 =>
    bnd (ldC r32.1 r32.2) fun r33 =>
    bnd (oBin Tryd.prog .rem 3 false false r31.1 r33.1 r33.2) fun r34 =>
    bnd (oBuildSlice Tryd.prog 38 1 [(0, r34.1)] r34.2) fun r35 =>
    bnd (aAppend Tryd.prog r35.2 #[38, 38] r28.1 r35.1) fun r36 =>
    bnd (oMv r36.1 r36.2) fun r37 =>
    bnd (oBin Tryd.prog .add 3 false true (R 25) (.int .i64 1) r37.2) fun r38 =>
    bnd (oMv r38.1 r38.2) fun r39 =>
    some (X.normal, (rput (rput (rput (rput (rput (rput (rput (rput (rput (rput (rput (rput (rput (rput (rput R (some 26) r25.1) (some 27) r26.1) (some 10) r27.1) (some 28) r28.1) (some 29) r29.1) (some 30) r30.1) (some 31) r31.1) (some 32) r32.1) (some 33) r33.1) (some 34) r34.1) (some 35) r35.1) (some 36) r36.1) (some 9) r37.1) (some 37) r38.1) (some 25) r39.1), r39.2)) (
    some (X.exit 0, (rput R (some 26) r25.1), r25.2))
noncomputable def venue_Cover (call : Eng.Callee) (x0 x1 : Value) (W : AW) : Option (Value × AW) :=
  bnd (oBox x0 W) fun r1 =>
  bnd (oMv (.slice none 0 0) r1.2) fun r2 =>
  bnd (oMv (.int .i64 0) r2.2) fun r3 =>
  bnd (ldA 4 r1.1 r3.2) fun r4 =>
  bnd (oMv x1 r4.2) fun r5 =>
  bnd (call (fnV 32) [r4.1, r5.1] r5.2) fun r6 =>
  bnd (oMv r6.1 r6.2) fun r7 =>
  bnd (oExtract r7.1 0 r7.2) fun r8 =>
  bnd (oExtract r7.1 1 r8.2) fun r9 =>
  bnd (oExtract r7.1 2 r9.2) fun r10 =>
  bnd (oMv r8.1 r10.2) fun r11 =>
  bnd (oMv r9.1 r11.2) fun r12 =>
  bnd (oMv r10.1 r12.2) fun r13 =>
  bnd (oMv r13.1 r13.2) fun r14 =>
  bnd (oBin Tryd.prog .neq 28 false true r14.1 (.int .i64 0) r14.2) fun r15 =>
  vIf r15.1 (
    bnd (oMv r13.1 r15.2) fun r16 =>
    bnd (oMv (.slice none 0 0) r16.2) fun r17 =>
    bnd (oMv r16.1 r17.2) fun r18 =>
    oRes Tryd.prog [(r17.1, none), (r18.1, none)] r18.2) (
    bnd (oMv (.slice none 0 0) r15.2) fun r19 =>
    bnd (oMv r12.1 r19.2) fun r20 =>
    bnd (faO 0 r1.1 r20.2) fun r21 =>
    bnd (ldC r21.1 r21.2) fun r22 =>
    bnd (oBuiltin Tryd.prog .min #[3, 3] 3 #[false, false] [r20.1, r22.1] r22.2) fun r23 =>
    bnd (oMv (.int .i64 0) r23.2) fun r24 =>
    bnd (loopO (venue_Cover_L1 call) (rput (rput (rput (rput (rput (rput (rput (rput (rput (rput (rput (rput (rput (rput (rput (rput (rput (rput (rput (rput (rput (argGo 0 [x0, x1] PlanTab.blank) (some 2) r1.1) (some 4) r2.1) (some 5) r3.1) (some 12) r4.1) (some 13) r5.1) (some 14) r6.1) (some 11) r7.1) (some 15) r8.1) (some 16) r9.1) (some 17) r10.1) (some 6) r11.1) (some 7) r12.1) (some 8) r13.1) (some 18) r14.1) (some 19) r15.1) (some 9) r19.1) (some 21) r20.1) (some 22) r21.1) (some 23) r22.1) (some 24) r23.1) (some 25) r24.1) r24.2) fun r40 =>
    kExit 0 r40.1 (
      bnd (oMv (r40.2.1 9) r40.2.2) fun r41 =>
      bnd (call (fnV 58) [r41.1] r41.2) fun r42 =>
      bnd (oMv (r40.2.1 9) r42.2) fun r43 =>
      bnd (oMv r43.1 r43.2) fun r44 =>
      bnd (oMv (.int .i64 0) r44.2) fun r45 =>
      oRes Tryd.prog [(r44.1, none), (r45.1, none)] r45.2) (none))
theorem venue_Cover_eq (call : Eng.Callee) (x0 x1 : Value) (W : AW) : kFun Tryd.prog call 41 (cod 38) (rss 38) [x0, x1] W = venue_Cover call x0 x1 W := by kernel_rfl
theorem venue_Cover_om {x0 x1 : Value} {W : AW} {r : Value × AW} (h : venue_Cover omS x0 x1 W = some r) : omS (.func (.func 38) #[] #[]) [x0, x1] W = some (gc W r) := om_of (nt := 41) (n := 2) (by kernel_rfl) (by kernel_rfl) rfl ((venue_Cover_eq omS x0 x1 W).trans h)
noncomputable def venue_Lock (call : Eng.Callee) (x0 x1 : Value) (W : AW) : Option (Value × AW) :=
  bnd (oBox x0 W) fun r1 =>
  bnd (oMv (.int .i64 0) r1.2) fun r2 =>
  bnd (oMv (.int .i64 0) r2.2) fun r3 =>
  bnd (ldA 4 r1.1 r3.2) fun r4 =>
  bnd (oMv x1 r4.2) fun r5 =>
  bnd (call (fnV 32) [r4.1, r5.1] r5.2) fun r6 =>
  bnd (oMv r6.1 r6.2) fun r7 =>
  bnd (oExtract r7.1 0 r7.2) fun r8 =>
  bnd (oExtract r7.1 1 r8.2) fun r9 =>
  bnd (oExtract r7.1 2 r9.2) fun r10 =>
  bnd (oMv r8.1 r10.2) fun r11 =>
  bnd (oMv r9.1 r11.2) fun r12 =>
  bnd (oMv r10.1 r12.2) fun r13 =>
  bnd (oMv r13.1 r13.2) fun r14 =>
  bnd (oBin Tryd.prog .neq 28 false true r14.1 (.int .i64 0) r14.2) fun r15 =>
  vIf r15.1 (
    bnd (oMv r13.1 r15.2) fun r16 =>
    bnd (oMv (.int .i64 0) r16.2) fun r17 =>
    bnd (oMv r16.1 r17.2) fun r18 =>
    oRes Tryd.prog [(r17.1, none), (r18.1, none)] r18.2) (
    bnd (faO 0 r1.1 r15.2) fun r19 =>
    bnd (ldC r19.1 r19.2) fun r20 =>
    bnd (oMv x1 r20.2) fun r21 =>
    bnd (oBin Tryd.prog .add 3 false false r20.1 r21.1 r21.2) fun r22 =>
    bnd (oMv r22.1 r22.2) fun r23 =>
    bnd (oMv (.int .i64 0) r23.2) fun r24 =>
    oRes Tryd.prog [(r23.1, none), (r24.1, none)] r24.2)
theorem venue_Lock_eq (call : Eng.Callee) (x0 x1 : Value) (W : AW) : kFun Tryd.prog call 23 (cod 39) (rss 39) [x0, x1] W = venue_Lock call x0 x1 W := by kernel_rfl
theorem venue_Lock_om {x0 x1 : Value} {W : AW} {r : Value × AW} (h : venue_Lock omS x0 x1 W = some r) : omS (.func (.func 39) #[] #[]) [x0, x1] W = some (gc W r) := om_of (nt := 23) (n := 2) (by kernel_rfl) (by kernel_rfl) rfl ((venue_Lock_eq omS x0 x1 W).trans h)
noncomputable def venue_Check_L1_L2 (call : Eng.Callee) (R : Nat → Value) (W : AW) : Option LT :=
  bnd (oBin Tryd.prog .lss 3 false false (R 55) (R 54) W) fun r63 =>
  vIf r63.1 (
    bnd (ixS 1 (R 53) (R 55) r63.2) fun r64 =>
    bnd (ldC r64.1 r64.2) fun r65 =>
    bnd (oMv r65.1 r65.2) fun r66 =>
    bnd (oMv (R 4) r66.2) fun r67 =>
    bnd (oMv r66.1 r67.2) fun r68 =>
    bnd (oBin Tryd.prog .add 3 false false r67.1 r68.1 r68.2) fun r69 =>
    bnd (oMv r69.1 r69.2) fun r70 =>
    bnd (oBin Tryd.prog .add 3 false true (R 55) (.int .i64 1) r70.2) fun r71 =>
    bnd (oMv r71.1 r71.2) fun r72 =>
    some (X.normal, (rput (rput (rput (rput (rput (rput (rput (rput (rput (rput R (some 56) r63.1) (some 57) r64.1) (some 58) r65.1) (some 9) r66.1) (some 59) r67.1) (some 60) r68.1) (some 61) r69.1) (some 4) r70.1) (some 62) r71.1) (some 55) r72.1), r72.2)) (
    some (X.exit 3, (rput R (some 56) r63.1), r63.2))
noncomputable def venue_Check_L1 (call : Eng.Callee) (R : Nat → Value) (W : AW) : Option LT :=
  bnd (oBin Tryd.prog .lss 3 false false (R 37) (R 36) W) fun r39 =>
  vIf r39.1 (
    bnd (oMv (R 37) r39.2) fun r40 =>
    bnd (ixS 3 (R 35) (R 37) r40.2) fun r41 =>
    bnd (ldA 3 r41.1 r41.2) fun r42 =>
    bnd (oAlloc Tryd.prog 62 r42.2) fun r43 =>
    bnd (oMv r40.1 r43.2) fun r44 =>
    bnd (stV 3 r43.1 r42.1 r44.2) fun r45 =>
    bnd (ldA 3 r43.1 r45.2) fun r46 =>
    bnd (faO 3 (R 1) r46.2) fun r47 =>
    bnd (ldC r47.1 r47.2) fun r48 =>
    bnd (oMv r44.1 r48.2) fun r49 =>
    bnd (oSlice Tryd.prog 34 r48.1 none (some r49.1) none r49.2) fun r50 =>
    bnd (call (fnV 60) [r46.1, r50.1] r50.2) fun r51 =>
    bnd (oMv r51.1 r51.2) fun r52 =>
    bnd (oMv r52.1 r52.2) fun r53 =>
    bnd (oBin Tryd.prog .neq 28 false true r53.1 (.int .i64 0) r53.2) fun r54 =>
    vIf r54.1 (
      bnd (oMv r44.1 r54.2) fun r55 =>
      bnd (oMv r52.1 r55.2) fun r56 =>
      bnd (oMv r55.1 r56.2) fun r57 =>
      bnd (oMv r56.1 r57.2) fun r58 =>
      some (X.ret, (rput (rput (rput (rput (rput (rput (rput (rput (rput (rput (rput (rput (rput (rput (rput (rput (rput (rput (rput R (some 38) r39.1) (some 39) r40.1) (some 40) r41.1) (some 41) r42.1) (some 6) r43.1) (some 5) r44.1) (some 42) r46.1) (some 43) r47.1) (some 44) r48.1) (some 45) r49.1) (some 46) r50.1) (some 47) r51.1) (some 7) r52.1) (some 48) r53.1) (some 49) r54.1) (some 50) r55.1) (some 51) r56.1) (some 2) r57.1) (some 3) r58.1), r58.2)) (
      bnd (faO 1 r43.1 r54.2) fun r59 =>
      bnd (ldC r59.1 r59.2) fun r60 =>
      bnd (oBuiltin Tryd.prog .len #[38] 3 #[false] [r60.1] r60.2) fun r61 =>
      bnd (oMv (.int .i64 0) r61.2) fun r62 =>
      bnd (loopO (venue_Check_L1_L2 call) (rput (rput (rput (rput (rput (rput (rput (rput (rput (rput (rput (rput (rput (rput (rput (rput (rput (rput (rput R (some 38) r39.1) (some 39) r40.1) (some 40) r41.1) (some 41) r42.1) (some 6) r43.1) (some 5) r44.1) (some 42) r46.1) (some 43) r47.1) (some 44) r48.1) (some 45) r49.1) (some 46) r50.1) (some 47) r51.1) (some 7) r52.1) (some 48) r53.1) (some 49) r54.1) (some 52) r59.1) (some 53) r60.1) (some 54) r61.1) (some 55) r62.1) r62.2) fun r73 =>
      kExit 3 r73.1 (
        bnd (oBin Tryd.prog .add 3 false true (r73.2.1 37) (.int .i64 1) r73.2.2) fun r74 =>
        bnd (oMv r74.1 r74.2) fun r75 =>
        some (X.normal, (rput (rput r73.2.1 (some 63) r74.1) (some 37) r75.1), r75.2)) (none))) (
    some (X.exit 1, (rput R (some 38) r39.1), r39.2))
noncomputable def venue_Check (call : Eng.Callee) (x0 : Value) (W : AW) : Option (Value × AW) :=
  bnd (oBox x0 W) fun r1 =>
  bnd (oMv (.int .i64 0) r1.2) fun r2 =>
  bnd (oMv (.int .i64 0) r2.2) fun r3 =>
  bnd (faO 0 r1.1 r3.2) fun r4 =>
  bnd (ldC r4.1 r4.2) fun r5 =>
  bnd (call (fnV 56) [r5.1, (.int .i64 1), (.int .i64 16)] r5.2) fun r6 =>
  bnd (oMv r6.1 r6.2) fun r7 =>
  bnd (bIf (wnt r7.1 false) (faO 1 r1.1 r7.2) (some (undef, r7.2))) fun r8 =>
  bnd (bIf (wnt r7.1 false) (ldC r8.1 r8.2) (some (undef, r8.2))) fun r9 =>
  bnd (bIf (wnt r7.1 false) (call (fnV 59) [r9.1, (.int .i64 1), (.int .i64 1000000000)] r9.2) (some (undef, r9.2))) fun r10 =>
  bnd (oPick r7.1 (.bool true) r10.1 r10.2) fun r11 =>
  bnd (oMv r11.1 r11.2) fun r12 =>
  bnd (bIf (wnt r12.1 false) (faO 2 r1.1 r12.2) (some (undef, r12.2))) fun r13 =>
  bnd (bIf (wnt r12.1 false) (ldC r13.1 r13.2) (some (undef, r13.2))) fun r14 =>
  bnd (bIf (wnt r12.1 false) (call (fnV 59) [r14.1, (.int .i64 1), (.int .i64 1000000000)] r14.2) (some (undef, r14.2))) fun r15 =>
  bnd (oPick r12.1 (.bool true) r15.1 r15.2) fun r16 =>
  bnd (oMv r16.1 r16.2) fun r17 =>
  vIf r17.1 (
    bnd (oMv (.int .i64 (-1)) r17.2) fun r18 =>
    bnd (oMv (.int .i64 7) r18.2) fun r19 =>
    oRes Tryd.prog [(r18.1, none), (r19.1, none)] r19.2) (
    bnd (faO 3 r1.1 r17.2) fun r20 =>
    bnd (ldC r20.1 r20.2) fun r21 =>
    bnd (oBuiltin Tryd.prog .len #[34] 3 #[false] [r21.1] r21.2) fun r22 =>
    bnd (oBin Tryd.prog .eql 3 false true r22.1 (.int .i64 0) r22.2) fun r23 =>
    bnd (oMv r23.1 r23.2) fun r24 =>
    vIf r24.1 (
      bnd (oMv (.int .i64 (-1)) r24.2) fun r25 =>
      bnd (oMv (.int .i64 6) r25.2) fun r26 =>
      oRes Tryd.prog [(r25.1, none), (r26.1, none)] r26.2) (
      bnd (faO 3 r1.1 r24.2) fun r27 =>
      bnd (ldC r27.1 r27.2) fun r28 =>
      bnd (oBuiltin Tryd.prog .len #[34] 3 #[false] [r28.1] r28.2) fun r29 =>
      bnd (oBin Tryd.prog .gtr 3 false true r29.1 (.int .i64 8) r29.2) fun r30 =>
      bnd (oMv r30.1 r30.2) fun r31 =>
      vIf r31.1 (
        bnd (oMv (.int .i64 (-1)) r31.2) fun r32 =>
        bnd (oMv (.int .i64 3) r32.2) fun r33 =>
        oRes Tryd.prog [(r32.1, none), (r33.1, none)] r33.2) (
        bnd (oMv (.int .i64 0) r31.2) fun r34 =>
        bnd (faO 3 r1.1 r34.2) fun r35 =>
        bnd (ldC r35.1 r35.2) fun r36 =>
        bnd (oBuiltin Tryd.prog .len #[34] 3 #[false] [r36.1] r36.2) fun r37 =>
        bnd (oMv (.int .i64 0) r37.2) fun r38 =>
        bnd (loopO (venue_Check_L1 call) (rput (rput (rput (rput (rput (rput (rput (rput (rput (rput (rput (rput (rput (rput (rput (rput (rput (rput (rput (rput (rput (rput (rput (rput (rput (rput (rput (rput (rput (rput (rput (rput (argGo 0 [x0] PlanTab.blank) (some 1) r1.1) (some 2) r2.1) (some 3) r3.1) (some 11) r4.1) (some 12) r5.1) (some 13) r6.1) (some 14) r7.1) (some 15) r8.1) (some 16) r9.1) (some 17) r10.1) (some 18) r11.1) (some 19) r12.1) (some 20) r13.1) (some 21) r14.1) (some 22) r15.1) (some 23) r16.1) (some 10) r17.1) (some 25) r20.1) (some 26) r21.1) (some 27) r22.1) (some 28) r23.1) (some 24) r24.1) (some 30) r27.1) (some 31) r28.1) (some 32) r29.1) (some 33) r30.1) (some 29) r31.1) (some 4) r34.1) (some 34) r35.1) (some 35) r36.1) (some 36) r37.1) (some 37) r38.1) r38.2) fun r76 =>
        kExit 1 r76.1 (
          bnd (oMv (r76.2.1 4) r76.2.2) fun r77 =>
          bnd (oBin Tryd.prog .gtr 3 false true r77.1 (.int .i64 4096) r77.2) fun r78 =>
          vIf r78.1 (
            bnd (oMv (.int .i64 (-1)) r78.2) fun r79 =>
            bnd (oMv (.int .i64 3) r79.2) fun r80 =>
            oRes Tryd.prog [(r79.1, none), (r80.1, none)] r80.2) (
            bnd (oMv (.int .i64 0) r78.2) fun r81 =>
            bnd (oMv (.int .i64 0) r81.2) fun r82 =>
            oRes Tryd.prog [(r81.1, none), (r82.1, none)] r82.2)) (kRetX r76.1 (
          oRes Tryd.prog [((r76.2.1 2), none), ((r76.2.1 3), none)] r76.2.2)))))
theorem venue_Check_eq (call : Eng.Callee) (x0 : Value) (W : AW) : kFun Tryd.prog call 66 (cod 42) (rss 42) [x0] W = venue_Check call x0 W := by kernel_rfl
theorem venue_Check_om {x0 : Value} {W : AW} {r : Value × AW} (h : venue_Check omS x0 W = some r) : omS (.func (.func 42) #[] #[]) [x0] W = some (gc W r) := om_of (nt := 66) (n := 1) (by kernel_rfl) (by kernel_rfl) rfl ((venue_Check_eq omS x0 W).trans h)
noncomputable def venue_rows (call : Eng.Callee) (x0 : Value) (W : AW) : Option (Value × AW) :=
  bnd (oBox x0 W) fun r1 =>
  bnd (oMv .nilFunc r1.2) fun r2 =>
  bnd (oMkFunc (.func 73) #[] #[r1.1] r2.2) fun r3 =>
  bnd (oMv r3.1 r3.2) fun r4 =>
  oRes Tryd.prog [(r4.1, none)] r4.2
theorem venue_rows_eq (call : Eng.Callee) (x0 : Value) (W : AW) : kFun Tryd.prog call 4 (cod 55) (rss 55) [x0] W = venue_rows call x0 W := by kernel_rfl
theorem venue_rows_om {x0 : Value} {W : AW} {r : Value × AW} (h : venue_rows omS x0 W = some r) : omS (.func (.func 55) #[] #[]) [x0] W = some (gc W r) := om_of (nt := 4) (n := 1) (by kernel_rfl) (by kernel_rfl) rfl ((venue_rows_eq omS x0 W).trans h)
noncomputable def venue_outsideint (call : Eng.Callee) (x0 x1 x2 : Value) (W : AW) : Option (Value × AW) :=
  bnd (oMv (.bool false) W) fun r1 =>
  bnd (oMv x0 r1.2) fun r2 =>
  bnd (oMv x1 r2.2) fun r3 =>
  bnd (oBin Tryd.prog .lss 3 false false r2.1 r3.1 r3.2) fun r4 =>
  bnd (oMv r4.1 r4.2) fun r5 =>
  bnd (bIf (wnt r5.1 false) (oMv x0 r5.2) (some (undef, r5.2))) fun r6 =>
  bnd (bIf (wnt r5.1 false) (oMv x2 r6.2) (some (undef, r6.2))) fun r7 =>
  bnd (bIf (wnt r5.1 false) (oBin Tryd.prog .gtr 3 false false r6.1 r7.1 r7.2) (some (undef, r7.2))) fun r8 =>
  bnd (oPick r5.1 (.bool true) r8.1 r8.2) fun r9 =>
  bnd (oMv r9.1 r9.2) fun r10 =>
  oRes Tryd.prog [(r10.1, none)] r10.2
theorem venue_outsideint_eq (call : Eng.Callee) (x0 x1 x2 : Value) (W : AW) : kFun Tryd.prog call 15 (cod 56) (rss 56) [x0, x1, x2] W = venue_outsideint call x0 x1 x2 W := by kernel_rfl
theorem venue_outsideint_om {x0 x1 x2 : Value} {W : AW} {r : Value × AW} (h : venue_outsideint omS x0 x1 x2 W = some r) : omS (.func (.func 56) #[] #[]) [x0, x1, x2] W = some (gc W r) := om_of (nt := 15) (n := 3) (by kernel_rfl) (by kernel_rfl) rfl ((venue_outsideint_eq omS x0 x1 x2 W).trans h)
noncomputable def venue_find_Y1a (call : Eng.Callee) (R : Nat → Value) (W : AW) : Option LT :=
  bnd (oAlloc Tryd.prog 92 W) fun r20 =>
  bnd (stV 4 r20.1 (R 20) r20.2) fun r21 =>
  some (X.normal, (rput R (some 8) r20.1), r21.2)
theorem venue_find_Y1a_eq (call : Eng.Callee) (R : Nat → Value) (W : AW) : kCode Tryd.prog call false 36 (cAt [1, 1, 0, 1, 0, 0] (cod 57)) LT R W ret3 = venue_find_Y1a call R W := by kernel_rfl
noncomputable def venue_find_Y1b (call : Eng.Callee) (R : Nat → Value) (W : AW) : Option LT :=
  bnd (ldC (R 3) W) fun r22 =>
  bnd (faO 2 (R 8) r22.2) fun r23 =>
  bnd (ldC r23.1 r23.2) fun r24 =>
  bnd (oBin Tryd.prog .geq 3 false false r22.1 r24.1 r24.2) fun r25 =>
  bnd (oMv r25.1 r25.2) fun r26 =>
  bnd (bIf (wnt r26.1 true) (ldC (R 3) r26.2) (some (undef, r26.2))) fun r27 =>
  bnd (bIf (wnt r26.1 true) (faO 2 (R 8) r27.2) (some (undef, r27.2))) fun r28 =>
  bnd (bIf (wnt r26.1 true) (ldC r28.1 r28.2) (some (undef, r28.2))) fun r29 =>
  bnd (bIf (wnt r26.1 true) (faO 3 (R 8) r29.2) (some (undef, r29.2))) fun r30 =>
  bnd (bIf (wnt r26.1 true) (ldC r30.1 r30.2) (some (undef, r30.2))) fun r31 =>
  bnd (bIf (wnt r26.1 true) (oBin Tryd.prog .add 3 false false r29.1 r31.1 r31.2) (some (undef, r31.2))) fun r32 =>
  bnd (bIf (wnt r26.1 true) (oBin Tryd.prog .lss 3 false false r27.1 r32.1 r32.2) (some (undef, r32.2))) fun r33 =>
  bnd (oPick r26.1 r33.1 (.bool false) r33.2) fun r34 =>
  vIf r34.1 (
    bnd (ldA 4 (R 8) r34.2) fun r35 =>
    bnd (stV 4 (R 4) r35.1 r35.2) fun r36 =>
    bnd (stV 1 (R 5) (.int .i64 0) r36.2) fun r37 =>
    some (X.ret, (rput (rput (rput (rput (rput (rput (rput (rput (rput (rput (rput (rput (rput (rput R (some 21) r22.1) (some 22) r23.1) (some 23) r24.1) (some 24) r25.1) (some 25) r26.1) (some 26) r27.1) (some 27) r28.1) (some 28) r29.1) (some 29) r30.1) (some 30) r31.1) (some 31) r32.1) (some 32) r33.1) (some 33) r34.1) (some 34) r35.1), r37.2)) (
    some (X.normal, (rput (rput (rput (rput (rput (rput (rput (rput (rput (rput (rput (rput (rput R (some 21) r22.1) (some 22) r23.1) (some 23) r24.1) (some 24) r25.1) (some 25) r26.1) (some 26) r27.1) (some 27) r28.1) (some 28) r29.1) (some 29) r30.1) (some 30) r31.1) (some 31) r32.1) (some 32) r33.1) (some 33) r34.1), r34.2))
theorem venue_find_Y1b_eq (call : Eng.Callee) (R : Nat → Value) (W : AW) : kCode Tryd.prog call false 36 (cAt [1, 1, 0, 1, 0, 1] (cod 57)) LT R W ret3 = venue_find_Y1b call R W := by kernel_rfl
noncomputable def venue_find (call : Eng.Callee) (x0 x1 : Value) (W : AW) : Option (Value × AW) :=
  bnd (oBox x0 W) fun r1 =>
  bnd (oBox x1 r1.2) fun r2 =>
  bnd (oAlloc Tryd.prog 92 r2.2) fun r3 =>
  bnd (oAlloc Tryd.prog 28 r3.2) fun r4 =>
  bnd (ldA 4 r1.1 r4.2) fun r5 =>
  bnd (call (fnV 42) [r5.1] r5.2) fun r6 =>
  bnd (oMv r6.1 r6.2) fun r7 =>
  bnd (oExtract r7.1 0 r7.2) fun r8 =>
  bnd (oExtract r7.1 1 r8.2) fun r9 =>
  bnd (oMv r8.1 r9.2) fun r10 =>
  bnd (oMv r9.1 r10.2) fun r11 =>
  bnd (oMv r11.1 r11.2) fun r12 =>
  bnd (oBin Tryd.prog .neq 28 false true r12.1 (.int .i64 0) r12.2) fun r13 =>
  vIf r13.1 (
    bnd (oBuild Tryd.prog 92 [] r13.2) fun r14 =>
    bnd (oMv r11.1 r14.2) fun r15 =>
    bnd (stV 4 r3.1 r14.1 r15.2) fun r16 =>
    bnd (stV 1 r4.1 r15.1 r16.2) fun r17 =>
    oRes Tryd.prog [(r3.1, some 92), (r4.1, some 28)] r17.2) (
    bnd (ldA 4 r1.1 r13.2) fun r18 =>
    bnd (call (fnV 55) [r18.1] r18.2) fun r19 =>
    bnd (oRange call r19.1 (.loop .ready none (rput (rput (rput (rput (rput (rput (rput (rput (rput (rput (rput (rput (rput (rput (rput (argGo 0 [x0, x1] PlanTab.blank) (some 2) r1.1) (some 3) r2.1) (some 4) r3.1) (some 5) r4.1) (some 10) r5.1) (some 11) r6.1) (some 9) r7.1) (some 12) r8.1) (some 13) r9.1) (some 6) r10.1) (some 7) r11.1) (some 14) r12.1) (some 15) r13.1) (some 18) r18.1) (some 19) r19.1) 36 #[20] (cAt [1, 1, 0, 1, 0, 0] (cod 57)) (cAt [1, 1, 0, 1, 0, 1] (cod 57))) r19.2) fun r38 =>
    kNorm r38.1 (
      bnd (oBuild Tryd.prog 92 [] r38.2) fun r39 =>
      bnd (stV 4 r3.1 r39.1 r39.2) fun r40 =>
      bnd (stV 1 r4.1 (.int .i64 4) r40.2) fun r41 =>
      oRes Tryd.prog [(r3.1, some 92), (r4.1, some 28)] r41.2) (kRetX r38.1 (
      oRes Tryd.prog [(r3.1, some 92), (r4.1, some 28)] r38.2)))
theorem venue_find_eq (call : Eng.Callee) (x0 x1 : Value) (W : AW) : kFun Tryd.prog call 36 (cod 57) (rss 57) [x0, x1] W = venue_find call x0 x1 W := by kernel_rfl
theorem venue_find_om {x0 x1 : Value} {W : AW} {r : Value × AW} (h : venue_find omS x0 x1 W = some r) : omS (.func (.func 57) #[] #[]) [x0, x1] W = some (gc W r) := om_of (nt := 36) (n := 2) (by kernel_rfl) (by kernel_rfl) rfl ((venue_find_eq omS x0 x1 W).trans h)
noncomputable def venue_outsideint64 (call : Eng.Callee) (x0 x1 x2 : Value) (W : AW) : Option (Value × AW) :=
  bnd (oMv (.bool false) W) fun r1 =>
  bnd (oMv x0 r1.2) fun r2 =>
  bnd (oMv x1 r2.2) fun r3 =>
  bnd (oBin Tryd.prog .lss 2 false false r2.1 r3.1 r3.2) fun r4 =>
  bnd (oMv r4.1 r4.2) fun r5 =>
  bnd (bIf (wnt r5.1 false) (oMv x0 r5.2) (some (undef, r5.2))) fun r6 =>
  bnd (bIf (wnt r5.1 false) (oMv x2 r6.2) (some (undef, r6.2))) fun r7 =>
  bnd (bIf (wnt r5.1 false) (oBin Tryd.prog .gtr 2 false false r6.1 r7.1 r7.2) (some (undef, r7.2))) fun r8 =>
  bnd (oPick r5.1 (.bool true) r8.1 r8.2) fun r9 =>
  bnd (oMv r9.1 r9.2) fun r10 =>
  oRes Tryd.prog [(r10.1, none)] r10.2
theorem venue_outsideint64_eq (call : Eng.Callee) (x0 x1 x2 : Value) (W : AW) : kFun Tryd.prog call 15 (cod 59) (rss 59) [x0, x1, x2] W = venue_outsideint64 call x0 x1 x2 W := by kernel_rfl
theorem venue_outsideint64_om {x0 x1 x2 : Value} {W : AW} {r : Value × AW} (h : venue_outsideint64 omS x0 x1 x2 W = some r) : omS (.func (.func 59) #[] #[]) [x0, x1, x2] W = some (gc W r) := om_of (nt := 15) (n := 3) (by kernel_rfl) (by kernel_rfl) rfl ((venue_outsideint64_eq omS x0 x1 x2 W).trans h)
noncomputable def venue_check (call : Eng.Callee) (x0 x1 : Value) (W : AW) : Option (Value × AW) :=
  bnd (oBox x0 W) fun r1 =>
  bnd (oMv (.int .i64 0) r1.2) fun r2 =>
  bnd (faO 0 r1.1 r2.2) fun r3 =>
  bnd (ldC r3.1 r3.2) fun r4 =>
  bnd (call (fnV 76) [r4.1] r4.2) fun r5 =>
  bnd (oUn Tryd.prog .not r5.1 r5.2) fun r6 =>
  bnd (oMv r6.1 r6.2) fun r7 =>
  vIf r7.1 (
    bnd (oMv (.int .i64 6) r7.2) fun r8 =>
    oRes Tryd.prog [(r8.1, none)] r8.2) (
    bnd (oMv x1 r7.2) fun r9 =>
    bnd (oMkFunc (.func 78) #[] #[r1.1] r9.2) fun r10 =>
    bnd (call (fnV 77) [r9.1, r10.1] r10.2) fun r11 =>
    bnd (oMv r11.1 r11.2) fun r12 =>
    vIf r12.1 (
      bnd (oMv (.int .i64 8) r12.2) fun r13 =>
      oRes Tryd.prog [(r13.1, none)] r13.2) (
      bnd (faO 1 r1.1 r12.2) fun r14 =>
      bnd (ldC r14.1 r14.2) fun r15 =>
      bnd (oBuiltin Tryd.prog .len #[38] 3 #[false] [r15.1] r15.2) fun r16 =>
      bnd (oBin Tryd.prog .eql 3 false true r16.1 (.int .i64 0) r16.2) fun r17 =>
      bnd (oMv r17.1 r17.2) fun r18 =>
      vIf r18.1 (
        bnd (oMv (.int .i64 6) r18.2) fun r19 =>
        oRes Tryd.prog [(r19.1, none)] r19.2) (
        bnd (faO 1 r1.1 r18.2) fun r20 =>
        bnd (ldC r20.1 r20.2) fun r21 =>
        bnd (oBuiltin Tryd.prog .len #[38] 3 #[false] [r21.1] r21.2) fun r22 =>
        bnd (oBin Tryd.prog .gtr 3 false true r22.1 (.int .i64 16) r22.2) fun r23 =>
        bnd (oMv r23.1 r23.2) fun r24 =>
        vIf r24.1 (
          bnd (oMv (.int .i64 3) r24.2) fun r25 =>
          oRes Tryd.prog [(r25.1, none)] r25.2) (
          bnd (faO 1 r1.1 r24.2) fun r26 =>
          bnd (ldC r26.1 r26.2) fun r27 =>
          bnd (call (fnV 79) [r27.1, (fnV 80)] r27.2) fun r28 =>
          bnd (oMv r28.1 r28.2) fun r29 =>
          vIf r29.1 (
            bnd (oMv (.int .i64 7) r29.2) fun r30 =>
            oRes Tryd.prog [(r30.1, none)] r30.2) (
            bnd (faO 2 r1.1 r29.2) fun r31 =>
            bnd (ldC r31.1 r31.2) fun r32 =>
            bnd (call (fnV 56) [r32.1, (.int .i64 0), (.int .i64 64)] r32.2) fun r33 =>
            bnd (oMv r33.1 r33.2) fun r34 =>
            vIf r34.1 (
              bnd (oMv (.int .i64 7) r34.2) fun r35 =>
              oRes Tryd.prog [(r35.1, none)] r35.2) (
              bnd (oMv (.int .i64 0) r34.2) fun r36 =>
              oRes Tryd.prog [(r36.1, none)] r36.2))))))
theorem venue_check_eq (call : Eng.Callee) (x0 x1 : Value) (W : AW) : kFun Tryd.prog call 32 (cod 60) (rss 60) [x0, x1] W = venue_check call x0 x1 W := by kernel_rfl
theorem venue_check_om {x0 x1 : Value} {W : AW} {r : Value × AW} (h : venue_check omS x0 x1 W = some r) : omS (.func (.func 60) #[] #[]) [x0, x1] W = some (gc W r) := om_of (nt := 32) (n := 2) (by kernel_rfl) (by kernel_rfl) rfl ((venue_check_eq omS x0 x1 W).trans h)
noncomputable def venue_rows_1_L1_L2 (call : Eng.Callee) (R : Nat → Value) (W : AW) : Option LT :=
  bnd (oBin Tryd.prog .lss 3 false false (R 19) (R 18) W) fun r17 =>
  vIf r17.1 (
    bnd (oMv (R 19) r17.2) fun r18 =>
    bnd (ixS 1 (R 17) (R 19) r18.2) fun r19 =>
    bnd (ldC r19.1 r19.2) fun r20 =>
    bnd (oMv r18.1 r20.2) fun r21 =>
    bnd (oMv r20.1 r21.2) fun r22 =>
    bnd (oMv (R 0) r22.2) fun r23 =>
    bnd (oMv (R 4) r23.2) fun r24 =>
    bnd (oMv r21.1 r24.2) fun r25 =>
    bnd (oMv (R 3) r25.2) fun r26 =>
    bnd (oMv r22.1 r26.2) fun r27 =>
    bnd (oBuild Tryd.prog 92 [(0, r24.1), (1, r25.1), (2, r26.1), (3, r27.1)] r27.2) fun r28 =>
    bnd (call r23.1 [r28.1] r28.2) fun r29 =>
    bnd (oUn Tryd.prog .not r29.1 r29.2) fun r30 =>
    vIf r30.1 (
      some (X.ret, (rput (rput (rput (rput (rput (rput (rput (rput (rput (rput (rput (rput (rput (rput R (some 20) r17.1) (some 21) r18.1) (some 22) r19.1) (some 23) r20.1) (some 6) r21.1) (some 7) r22.1) (some 24) r23.1) (some 25) r24.1) (some 26) r25.1) (some 27) r26.1) (some 28) r27.1) (some 29) r28.1) (some 30) r29.1) (some 31) r30.1), r30.2)) (
      bnd (oMv (R 3) r30.2) fun r31 =>
      bnd (oMv r22.1 r31.2) fun r32 =>
      bnd (oBin Tryd.prog .add 3 false false r31.1 r32.1 r32.2) fun r33 =>
      bnd (oMv r33.1 r33.2) fun r34 =>
      bnd (oBin Tryd.prog .add 3 false true (R 19) (.int .i64 1) r34.2) fun r35 =>
      bnd (oMv r35.1 r35.2) fun r36 =>
      some (X.normal, (rput (rput (rput (rput (rput (rput (rput (rput (rput (rput (rput (rput (rput (rput (rput (rput (rput (rput (rput (rput R (some 20) r17.1) (some 21) r18.1) (some 22) r19.1) (some 23) r20.1) (some 6) r21.1) (some 7) r22.1) (some 24) r23.1) (some 25) r24.1) (some 26) r25.1) (some 27) r26.1) (some 28) r27.1) (some 29) r28.1) (some 30) r29.1) (some 31) r30.1) (some 32) r31.1) (some 33) r32.1) (some 34) r33.1) (some 3) r34.1) (some 35) r35.1) (some 19) r36.1), r36.2))) (
    some (X.exit 2, (rput R (some 20) r17.1), r17.2))
noncomputable def venue_rows_1_L1 (call : Eng.Callee) (R : Nat → Value) (W : AW) : Option LT :=
  bnd (oBin Tryd.prog .lss 3 false false (R 11) (R 10) W) fun r6 =>
  vIf r6.1 (
    bnd (oMv (R 11) r6.2) fun r7 =>
    bnd (ixS 3 (R 9) (R 11) r7.2) fun r8 =>
    bnd (ldA 3 r8.1 r8.2) fun r9 =>
    bnd (oAlloc Tryd.prog 62 r9.2) fun r10 =>
    bnd (oMv r7.1 r10.2) fun r11 =>
    bnd (stV 3 r10.1 r9.1 r11.2) fun r12 =>
    bnd (faO 1 r10.1 r12.2) fun r13 =>
    bnd (ldC r13.1 r13.2) fun r14 =>
    bnd (oBuiltin Tryd.prog .len #[38] 3 #[false] [r14.1] r14.2) fun r15 =>
    bnd (oMv (.int .i64 0) r15.2) fun r16 =>
    bnd (loopO (venue_rows_1_L1_L2 call) (rput (rput (rput (rput (rput (rput (rput (rput (rput (rput R (some 12) r6.1) (some 13) r7.1) (some 14) r8.1) (some 15) r9.1) (some 5) r10.1) (some 4) r11.1) (some 16) r13.1) (some 17) r14.1) (some 18) r15.1) (some 19) r16.1) r16.2) fun r37 =>
    kExit 2 r37.1 (
      bnd (oBin Tryd.prog .add 3 false true (r37.2.1 11) (.int .i64 1) r37.2.2) fun r38 =>
      bnd (oMv r38.1 r38.2) fun r39 =>
      some (X.normal, (rput (rput r37.2.1 (some 36) r38.1) (some 11) r39.1), r39.2)) (kRetX r37.1 (
      some (X.ret, r37.2.1, r37.2.2)))) (
    some (X.exit 0, (rput R (some 12) r6.1), r6.2))
noncomputable def venue_rows_1 (call : Eng.Callee) (x0 x1 : Value) (W : AW) : Option (Value × AW) :=
  bnd (oMv (.int .i64 0) W) fun r1 =>
  bnd (faO 3 x1 r1.2) fun r2 =>
  bnd (ldC r2.1 r2.2) fun r3 =>
  bnd (oBuiltin Tryd.prog .len #[34] 3 #[false] [r3.1] r3.2) fun r4 =>
  bnd (oMv (.int .i64 0) r4.2) fun r5 =>
  bnd (loopO (venue_rows_1_L1 call) (rput (rput (rput (rput (rput (argGo 0 [x0, x1] PlanTab.blank) (some 3) r1.1) (some 8) r2.1) (some 9) r3.1) (some 10) r4.1) (some 11) r5.1) r5.2) fun r40 =>
  kExit 0 r40.1 (
    oRes Tryd.prog [] r40.2.2) (kRetX r40.1 (
    oRes Tryd.prog [] r40.2.2))
theorem venue_rows_1_eq (call : Eng.Callee) (x0 x1 : Value) (W : AW) : kFun Tryd.prog call 37 (cod 73) (rss 73) [x0, x1] W = venue_rows_1 call x0 x1 W := by kernel_rfl
theorem venue_rows_1_om {x0 x1 : Value} {W : AW} {r : Value × AW} (h : venue_rows_1 omS x0 x1 W = some r) : omS (.func (.func 73) #[] #[x1]) [x0] W = some (gc W r) := om_of (nt := 37) (n := 2) (by kernel_rfl) (by kernel_rfl) rfl ((venue_rows_1_eq omS x0 x1 W).trans h)
noncomputable def slices_ContainsFuncapi_VnSectionapi_VnSection (call : Eng.Callee) (x0 x1 : Value) (W : AW) : Option (Value × AW) :=
  bnd (oMv (.bool false) W) fun r1 =>
  bnd (oMv x0 r1.2) fun r2 =>
  bnd (oMv x1 r2.2) fun r3 =>
  bnd (call (fnV 99) [r2.1, r3.1] r3.2) fun r4 =>
  bnd (oBin Tryd.prog .geq 3 false true r4.1 (.int .i64 0) r4.2) fun r5 =>
  bnd (oMv r5.1 r5.2) fun r6 =>
  oRes Tryd.prog [(r6.1, none)] r6.2
theorem slices_ContainsFuncapi_VnSectionapi_VnSection_eq (call : Eng.Callee) (x0 x1 : Value) (W : AW) : kFun Tryd.prog call 9 (cod 77) (rss 77) [x0, x1] W = slices_ContainsFuncapi_VnSectionapi_VnSection call x0 x1 W := by kernel_rfl
theorem slices_ContainsFuncapi_VnSectionapi_VnSection_om {x0 x1 : Value} {W : AW} {r : Value × AW} (h : slices_ContainsFuncapi_VnSectionapi_VnSection omS x0 x1 W = some r) : omS (.func (.func 77) #[] #[]) [x0, x1] W = some (gc W r) := om_of (nt := 9) (n := 2) (by kernel_rfl) (by kernel_rfl) rfl ((slices_ContainsFuncapi_VnSectionapi_VnSection_eq omS x0 x1 W).trans h)
noncomputable def venue_check_1 (call : Eng.Callee) (x0 x1 : Value) (W : AW) : Option (Value × AW) :=
  bnd (oBox x0 W) fun r1 =>
  bnd (oMv (.bool false) r1.2) fun r2 =>
  bnd (faO 0 r1.1 r2.2) fun r3 =>
  bnd (ldC r3.1 r3.2) fun r4 =>
  bnd (faO 0 x1 r4.2) fun r5 =>
  bnd (ldC r5.1 r5.2) fun r6 =>
  bnd (oBin Tryd.prog .eql 9 false false r4.1 r6.1 r6.2) fun r7 =>
  bnd (oMv r7.1 r7.2) fun r8 =>
  oRes Tryd.prog [(r8.1, none)] r8.2
theorem venue_check_1_eq (call : Eng.Callee) (x0 x1 : Value) (W : AW) : kFun Tryd.prog call 9 (cod 78) (rss 78) [x0, x1] W = venue_check_1 call x0 x1 W := by kernel_rfl
theorem venue_check_1_om {x0 x1 : Value} {W : AW} {r : Value × AW} (h : venue_check_1 omS x0 x1 W = some r) : omS (.func (.func 78) #[] #[x1]) [x0] W = some (gc W r) := om_of (nt := 9) (n := 2) (by kernel_rfl) (by kernel_rfl) rfl ((venue_check_1_eq omS x0 x1 W).trans h)
noncomputable def slices_ContainsFuncintint (call : Eng.Callee) (x0 x1 : Value) (W : AW) : Option (Value × AW) :=
  bnd (oMv (.bool false) W) fun r1 =>
  bnd (oMv x0 r1.2) fun r2 =>
  bnd (oMv x1 r2.2) fun r3 =>
  bnd (call (fnV 100) [r2.1, r3.1] r3.2) fun r4 =>
  bnd (oBin Tryd.prog .geq 3 false true r4.1 (.int .i64 0) r4.2) fun r5 =>
  bnd (oMv r5.1 r5.2) fun r6 =>
  oRes Tryd.prog [(r6.1, none)] r6.2
theorem slices_ContainsFuncintint_eq (call : Eng.Callee) (x0 x1 : Value) (W : AW) : kFun Tryd.prog call 9 (cod 79) (rss 79) [x0, x1] W = slices_ContainsFuncintint call x0 x1 W := by kernel_rfl
theorem slices_ContainsFuncintint_om {x0 x1 : Value} {W : AW} {r : Value × AW} (h : slices_ContainsFuncintint omS x0 x1 W = some r) : omS (.func (.func 79) #[] #[]) [x0, x1] W = some (gc W r) := om_of (nt := 9) (n := 2) (by kernel_rfl) (by kernel_rfl) rfl ((slices_ContainsFuncintint_eq omS x0 x1 W).trans h)
noncomputable def venue_check_2 (call : Eng.Callee) (x0 : Value) (W : AW) : Option (Value × AW) :=
  bnd (oMv (.bool false) W) fun r1 =>
  bnd (oMv x0 r1.2) fun r2 =>
  bnd (call (fnV 56) [r2.1, (.int .i64 1), (.int .i64 64)] r2.2) fun r3 =>
  bnd (oMv r3.1 r3.2) fun r4 =>
  oRes Tryd.prog [(r4.1, none)] r4.2
theorem venue_check_2_eq (call : Eng.Callee) (x0 : Value) (W : AW) : kFun Tryd.prog call 5 (cod 80) (rss 80) [x0] W = venue_check_2 call x0 W := by kernel_rfl
theorem venue_check_2_om {x0 : Value} {W : AW} {r : Value × AW} (h : venue_check_2 omS x0 W = some r) : omS (.func (.func 80) #[] #[]) [x0] W = some (gc W r) := om_of (nt := 5) (n := 1) (by kernel_rfl) (by kernel_rfl) rfl ((venue_check_2_eq omS x0 W).trans h)
noncomputable def slices_IndexFuncapi_VnSectionapi_VnSection_L1 (call : Eng.Callee) (R : Nat → Value) (W : AW) : Option LT :=
  bnd (oBin Tryd.prog .lss 3 false false (R 8) (R 7) W) fun r5 =>
  vIf r5.1 (
    bnd (oMv (R 8) r5.2) fun r6 =>
    bnd (oMv r6.1 r6.2) fun r7 =>
    bnd (oMv (R 1) r7.2) fun r8 =>
    bnd (oMv (R 0) r8.2) fun r9 =>
    bnd (oMv r7.1 r9.2) fun r10 =>
    bnd (ixS 3 r9.1 r10.1 r10.2) fun r11 =>
    bnd (ldA 3 r11.1 r11.2) fun r12 =>
    bnd (call r8.1 [r12.1] r12.2) fun r13 =>
    vIf r13.1 (
      bnd (oMv r7.1 r13.2) fun r14 =>
      bnd (oMv r14.1 r14.2) fun r15 =>
      some (X.ret, (rput (rput (rput (rput (rput (rput (rput (rput (rput (rput (rput R (some 9) r5.1) (some 10) r6.1) (some 5) r7.1) (some 11) r8.1) (some 12) r9.1) (some 13) r10.1) (some 14) r11.1) (some 15) r12.1) (some 16) r13.1) (some 17) r14.1) (some 4) r15.1), r15.2)) (
      bnd (oBin Tryd.prog .add 3 false true (R 8) (.int .i64 1) r13.2) fun r16 =>
      bnd (oMv r16.1 r16.2) fun r17 =>
      some (X.normal, (rput (rput (rput (rput (rput (rput (rput (rput (rput (rput (rput R (some 9) r5.1) (some 10) r6.1) (some 5) r7.1) (some 11) r8.1) (some 12) r9.1) (some 13) r10.1) (some 14) r11.1) (some 15) r12.1) (some 16) r13.1) (some 18) r16.1) (some 8) r17.1), r17.2))) (
    some (X.exit 0, (rput R (some 9) r5.1), r5.2))
noncomputable def slices_IndexFuncapi_VnSectionapi_VnSection (call : Eng.Callee) (x0 x1 : Value) (W : AW) : Option (Value × AW) :=
  bnd (oMv (.int .i64 0) W) fun r1 =>
  bnd (oMv x0 r1.2) fun r2 =>
  bnd (oBuiltin Tryd.prog .len #[34] 3 #[false] [r2.1] r2.2) fun r3 =>
  bnd (oMv (.int .i64 0) r3.2) fun r4 =>
  bnd (loopO (slices_IndexFuncapi_VnSectionapi_VnSection_L1 call) (rput (rput (rput (rput (argGo 0 [x0, x1] PlanTab.blank) (some 4) r1.1) (some 6) r2.1) (some 7) r3.1) (some 8) r4.1) r4.2) fun r18 =>
  kExit 0 r18.1 (
    bnd (oMv (.int .i64 (-1)) r18.2.2) fun r19 =>
    oRes Tryd.prog [(r19.1, none)] r19.2) (kRetX r18.1 (
    oRes Tryd.prog [((r18.2.1 4), none)] r18.2.2))
theorem slices_IndexFuncapi_VnSectionapi_VnSection_eq (call : Eng.Callee) (x0 x1 : Value) (W : AW) : kFun Tryd.prog call 19 (cod 99) (rss 99) [x0, x1] W = slices_IndexFuncapi_VnSectionapi_VnSection call x0 x1 W := by kernel_rfl
theorem slices_IndexFuncapi_VnSectionapi_VnSection_om {x0 x1 : Value} {W : AW} {r : Value × AW} (h : slices_IndexFuncapi_VnSectionapi_VnSection omS x0 x1 W = some r) : omS (.func (.func 99) #[] #[]) [x0, x1] W = some (gc W r) := om_of (nt := 19) (n := 2) (by kernel_rfl) (by kernel_rfl) rfl ((slices_IndexFuncapi_VnSectionapi_VnSection_eq omS x0 x1 W).trans h)
noncomputable def slices_IndexFuncintint_L1 (call : Eng.Callee) (R : Nat → Value) (W : AW) : Option LT :=
  bnd (oBin Tryd.prog .lss 3 false false (R 8) (R 7) W) fun r5 =>
  vIf r5.1 (
    bnd (oMv (R 8) r5.2) fun r6 =>
    bnd (oMv r6.1 r6.2) fun r7 =>
    bnd (oMv (R 1) r7.2) fun r8 =>
    bnd (oMv (R 0) r8.2) fun r9 =>
    bnd (oMv r7.1 r9.2) fun r10 =>
    bnd (ixS 1 r9.1 r10.1 r10.2) fun r11 =>
    bnd (ldC r11.1 r11.2) fun r12 =>
    bnd (call r8.1 [r12.1] r12.2) fun r13 =>
    vIf r13.1 (
      bnd (oMv r7.1 r13.2) fun r14 =>
      bnd (oMv r14.1 r14.2) fun r15 =>
      some (X.ret, (rput (rput (rput (rput (rput (rput (rput (rput (rput (rput (rput R (some 9) r5.1) (some 10) r6.1) (some 5) r7.1) (some 11) r8.1) (some 12) r9.1) (some 13) r10.1) (some 14) r11.1) (some 15) r12.1) (some 16) r13.1) (some 17) r14.1) (some 4) r15.1), r15.2)) (
      bnd (oBin Tryd.prog .add 3 false true (R 8) (.int .i64 1) r13.2) fun r16 =>
      bnd (oMv r16.1 r16.2) fun r17 =>
      some (X.normal, (rput (rput (rput (rput (rput (rput (rput (rput (rput (rput (rput R (some 9) r5.1) (some 10) r6.1) (some 5) r7.1) (some 11) r8.1) (some 12) r9.1) (some 13) r10.1) (some 14) r11.1) (some 15) r12.1) (some 16) r13.1) (some 18) r16.1) (some 8) r17.1), r17.2))) (
    some (X.exit 0, (rput R (some 9) r5.1), r5.2))
noncomputable def slices_IndexFuncintint (call : Eng.Callee) (x0 x1 : Value) (W : AW) : Option (Value × AW) :=
  bnd (oMv (.int .i64 0) W) fun r1 =>
  bnd (oMv x0 r1.2) fun r2 =>
  bnd (oBuiltin Tryd.prog .len #[38] 3 #[false] [r2.1] r2.2) fun r3 =>
  bnd (oMv (.int .i64 0) r3.2) fun r4 =>
  bnd (loopO (slices_IndexFuncintint_L1 call) (rput (rput (rput (rput (argGo 0 [x0, x1] PlanTab.blank) (some 4) r1.1) (some 6) r2.1) (some 7) r3.1) (some 8) r4.1) r4.2) fun r18 =>
  kExit 0 r18.1 (
    bnd (oMv (.int .i64 (-1)) r18.2.2) fun r19 =>
    oRes Tryd.prog [(r19.1, none)] r19.2) (kRetX r18.1 (
    oRes Tryd.prog [((r18.2.1 4), none)] r18.2.2))
theorem slices_IndexFuncintint_eq (call : Eng.Callee) (x0 x1 : Value) (W : AW) : kFun Tryd.prog call 19 (cod 100) (rss 100) [x0, x1] W = slices_IndexFuncintint call x0 x1 W := by kernel_rfl
theorem slices_IndexFuncintint_om {x0 x1 : Value} {W : AW} {r : Value × AW} (h : slices_IndexFuncintint omS x0 x1 W = some r) : omS (.func (.func 100) #[] #[]) [x0, x1] W = some (gc W r) := om_of (nt := 19) (n := 2) (by kernel_rfl) (by kernel_rfl) rfl ((slices_IndexFuncintint_eq omS x0 x1 W).trans h)
noncomputable def plans_Locks_L1 (call : Eng.Callee) (R : Nat → Value) (W : AW) : Option LT :=
  bnd (oBin Tryd.prog .lss 3 false false (R 64) (R 63) W) fun r43 =>
  vIf r43.1 (
    bnd (oMv (R 64) r43.2) fun r44 =>
    bnd (oMv r44.1 r44.2) fun r45 =>
    bnd (oMv (R 11) r45.2) fun r46 =>
    bnd (oMv r45.1 r46.2) fun r47 =>
    bnd (oBuildSlice Tryd.prog 38 1 [(0, r47.1)] r47.2) fun r48 =>
    bnd (aAppend Tryd.prog r48.2 #[38, 38] r46.1 r48.1) fun r49 =>
    bnd (oMv r49.1 r49.2) fun r50 =>
    bnd (oBin Tryd.prog .add 3 false true (R 64) (.int .i64 1) r50.2) fun r51 =>
    bnd (oMv r51.1 r51.2) fun r52 =>
    some (X.normal, (rput (rput (rput (rput (rput (rput (rput (rput (rput (rput R (some 65) r43.1) (some 66) r44.1) (some 12) r45.1) (some 67) r46.1) (some 68) r47.1) (some 69) r48.1) (some 70) r49.1) (some 11) r50.1) (some 71) r51.1) (some 64) r52.1), r52.2)) (
    some (X.exit 6, (rput R (some 65) r43.1), r43.2))
noncomputable def plans_Locks (call : Eng.Callee) (x0 x1 : Value) (W : AW) : Option (Value × AW) :=
  bnd (oBox x0 W) fun r1 =>
  bnd (oBox x1 r1.2) fun r2 =>
  bnd (oMv (.slice none 0 0) r2.2) fun r3 =>
  bnd (oMv (.int .i64 0) r3.2) fun r4 =>
  bnd (ldA 4 r1.1 r4.2) fun r5 =>
  bnd (call (fnV 42) [r5.1] r5.2) fun r6 =>
  bnd (oMv r6.1 r6.2) fun r7 =>
  bnd (oExtract r7.1 0 r7.2) fun r8 =>
  bnd (oExtract r7.1 1 r8.2) fun r9 =>
  bnd (oMv r8.1 r9.2) fun r10 =>
  bnd (oMv r9.1 r10.2) fun r11 =>
  bnd (oMv r11.1 r11.2) fun r12 =>
  bnd (oBin Tryd.prog .neq 28 false true r12.1 (.int .i64 0) r12.2) fun r13 =>
  vIf r13.1 (
    bnd (oMv r11.1 r13.2) fun r14 =>
    bnd (oMv (.slice none 0 0) r14.2) fun r15 =>
    bnd (oMv r14.1 r15.2) fun r16 =>
    oRes Tryd.prog [(r15.1, none), (r16.1, none)] r16.2) (
    bnd (ldA 12 r2.1 r13.2) fun r17 =>
    bnd (call (fnV 12) [r17.1] r17.2) fun r18 =>
    bnd (oMv r18.1 r18.2) fun r19 =>
    bnd (oExtract r19.1 0 r19.2) fun r20 =>
    bnd (oExtract r19.1 1 r20.2) fun r21 =>
    bnd (oExtract r19.1 2 r21.2) fun r22 =>
    bnd (oMv r20.1 r22.2) fun r23 =>
    bnd (oMv r21.1 r23.2) fun r24 =>
    bnd (oMv r22.1 r24.2) fun r25 =>
    bnd (oMv r25.1 r25.2) fun r26 =>
    bnd (oBin Tryd.prog .neq 28 false true r26.1 (.int .i64 0) r26.2) fun r27 =>
    vIf r27.1 (
      bnd (oMv r25.1 r27.2) fun r28 =>
      bnd (oMv (.slice none 0 0) r28.2) fun r29 =>
      bnd (oMv r28.1 r29.2) fun r30 =>
      oRes Tryd.prog [(r29.1, none), (r30.1, none)] r30.2) (
      bnd (oMv (.slice none 0 0) r27.2) fun r31 =>
      bnd (faO 0 r2.1 r31.2) fun r32 =>
      bnd (ldC r32.1 r32.2) fun r33 =>
      bnd (oBin Tryd.prog .eql 3 false true r33.1 (.int .i64 12) r33.2) fun r34 =>
      bnd (oMv r34.1 r34.2) fun r35 =>
      vIf r35.1 (
        bnd (faO 0 r1.1 r35.2) fun r36 =>
        bnd (ldC r36.1 r36.2) fun r37 =>
        bnd (faO 3 r1.1 r37.2) fun r38 =>
        bnd (ldC r38.1 r38.2) fun r39 =>
        bnd (oBuiltin Tryd.prog .len #[34] 3 #[false] [r39.1] r39.2) fun r40 =>
        bnd (oBin Tryd.prog .add 3 false false r37.1 r40.1 r40.2) fun r41 =>
        bnd (oMv (.int .i64 0) r41.2) fun r42 =>
        bnd (loopO (plans_Locks_L1 call) (rput (rput (rput (rput (rput (rput (rput (rput (rput (rput (rput (rput (rput (rput (rput (rput (rput (rput (rput (rput (rput (rput (rput (rput (rput (rput (rput (rput (rput (rput (rput (rput (rput (rput (rput (rput (argGo 0 [x0, x1] PlanTab.blank) (some 2) r1.1) (some 3) r2.1) (some 4) r3.1) (some 5) r4.1) (some 24) r5.1) (some 25) r6.1) (some 23) r7.1) (some 26) r8.1) (some 27) r9.1) (some 6) r10.1) (some 7) r11.1) (some 28) r12.1) (some 29) r13.1) (some 32) r17.1) (some 33) r18.1) (some 31) r19.1) (some 34) r20.1) (some 35) r21.1) (some 36) r22.1) (some 8) r23.1) (some 9) r24.1) (some 10) r25.1) (some 37) r26.1) (some 38) r27.1) (some 11) r31.1) (some 40) r32.1) (some 41) r33.1) (some 43) r34.1) (some 42) r35.1) (some 58) r36.1) (some 59) r37.1) (some 60) r38.1) (some 61) r39.1) (some 62) r40.1) (some 63) r41.1) (some 64) r42.1) r42.2) fun r53 =>
        kExit 6 r53.1 (
          bnd (oMv (r53.2.1 11) r53.2.2) fun r54 =>
          bnd (oMv r54.1 r54.2) fun r55 =>
          bnd (oMv (.int .i64 0) r55.2) fun r56 =>
          oRes Tryd.prog [(r55.1, none), (r56.1, none)] r56.2) (none)) (
        bnd (oBin Tryd.prog .eql 3 false true r33.1 (.int .i64 3) r35.2) fun r57 =>
        bnd (oMv r57.1 r57.2) fun r58 =>
        vIf r58.1 (
          bnd (ldA 4 r1.1 r58.2) fun r59 =>
          bnd (oMv r24.1 r59.2) fun r60 =>
          bnd (call (fnV 38) [r59.1, r60.1] r60.2) fun r61 =>
          bnd (oMv r61.1 r61.2) fun r62 =>
          bnd (oExtract r62.1 0 r62.2) fun r63 =>
          bnd (oExtract r62.1 1 r63.2) fun r64 =>
          bnd (oMv r63.1 r64.2) fun r65 =>
          bnd (oMv r64.1 r65.2) fun r66 =>
          bnd (oMv r66.1 r66.2) fun r67 =>
          bnd (oBin Tryd.prog .eql 28 false true r67.1 (.int .i64 0) r67.2) fun r68 =>
          vIf r68.1 (
            bnd (oMv r65.1 r68.2) fun r69 =>
            bnd (oMv r69.1 r69.2) fun r70 =>
            bnd (oMv r70.1 r70.2) fun r71 =>
            bnd (oMv r71.1 r71.2) fun r72 =>
            bnd (oMv (.int .i64 0) r72.2) fun r73 =>
            oRes Tryd.prog [(r72.1, none), (r73.1, none)] r73.2) (
            bnd (oMv r31.1 r68.2) fun r74 =>
            bnd (oMv r74.1 r74.2) fun r75 =>
            bnd (oMv (.int .i64 0) r75.2) fun r76 =>
            oRes Tryd.prog [(r75.1, none), (r76.1, none)] r76.2)) (
          bnd (oBin Tryd.prog .eql 3 false true r33.1 (.int .i64 4) r58.2) fun r77 =>
          bnd (oMv r77.1 r77.2) fun r78 =>
          vIf r78.1 (
            vIf r78.1 (
              bnd (ldA 4 r1.1 r78.2) fun r79 =>
              bnd (oMv r23.1 r79.2) fun r80 =>
              bnd (call (fnV 35) [r79.1, r80.1] r80.2) fun r81 =>
              bnd (oMv r81.1 r81.2) fun r82 =>
              bnd (oExtract r82.1 0 r82.2) fun r83 =>
              bnd (oExtract r82.1 1 r83.2) fun r84 =>
              bnd (oAlloc Tryd.prog 65 r84.2) fun r85 =>
              bnd (stV 3 r85.1 r83.1 r85.2) fun r86 =>
              bnd (oMv r84.1 r86.2) fun r87 =>
              bnd (oMv r87.1 r87.2) fun r88 =>
              bnd (oBin Tryd.prog .eql 28 false true r88.1 (.int .i64 0) r88.2) fun r89 =>
              vIf r89.1 (
                bnd (ldA 4 r1.1 r89.2) fun r90 =>
                bnd (faO 0 r85.1 r90.2) fun r91 =>
                bnd (ldC r91.1 r91.2) fun r92 =>
                bnd (call (fnV 39) [r90.1, r92.1] r92.2) fun r93 =>
                bnd (oMv r93.1 r93.2) fun r94 =>
                bnd (oExtract r94.1 0 r94.2) fun r95 =>
                bnd (oExtract r94.1 1 r95.2) fun r96 =>
                bnd (oMv r95.1 r96.2) fun r97 =>
                bnd (oMv r96.1 r97.2) fun r98 =>
                bnd (oMv r31.1 r98.2) fun r99 =>
                bnd (oMv r97.1 r99.2) fun r100 =>
                bnd (oBuildSlice Tryd.prog 38 1 [(0, r100.1)] r100.2) fun r101 =>
                bnd (aAppend Tryd.prog r101.2 #[38, 38] r99.1 r101.1) fun r102 =>
                bnd (oMv r102.1 r102.2) fun r103 =>
                bnd (ldA 4 r1.1 r103.2) fun r104 =>
                bnd (oMv r23.1 r104.2) fun r105 =>
                bnd (call (fnV 37) [r104.1, r105.1] r105.2) fun r106 =>
                bnd (oMv r106.1 r106.2) fun r107 =>
                bnd (oExtract r107.1 0 r107.2) fun r108 =>
                bnd (oExtract r107.1 1 r108.2) fun r109 =>
                bnd (oMv r108.1 r109.2) fun r110 =>
                bnd (oMv r109.1 r110.2) fun r111 =>
                bnd (oMv r111.1 r111.2) fun r112 =>
                bnd (oBin Tryd.prog .eql 28 false true r112.1 (.int .i64 0) r112.2) fun r113 =>
                vIf r113.1 (
                  bnd (oMv r110.1 r113.2) fun r114 =>
                  bnd (oBuildSlice Tryd.prog 38 1 [(0, r114.1)] r114.2) fun r115 =>
                  bnd (oMv r103.1 r115.2) fun r116 =>
                  bnd (aAppend Tryd.prog r116.2 #[38, 38] r115.1 r116.1) fun r117 =>
                  bnd (oMv r117.1 r117.2) fun r118 =>
                  bnd (oMv r118.1 r118.2) fun r119 =>
                  bnd (oMv r119.1 r119.2) fun r120 =>
                  bnd (oMv (.int .i64 0) r120.2) fun r121 =>
                  oRes Tryd.prog [(r120.1, none), (r121.1, none)] r121.2) (
                  bnd (oMv r103.1 r113.2) fun r122 =>
                  bnd (oMv r122.1 r122.2) fun r123 =>
                  bnd (oMv (.int .i64 0) r123.2) fun r124 =>
                  oRes Tryd.prog [(r123.1, none), (r124.1, none)] r124.2)) (
                bnd (ldA 4 r1.1 r89.2) fun r125 =>
                bnd (oMv r23.1 r125.2) fun r126 =>
                bnd (call (fnV 37) [r125.1, r126.1] r126.2) fun r127 =>
                bnd (oMv r127.1 r127.2) fun r128 =>
                bnd (oExtract r128.1 0 r128.2) fun r129 =>
                bnd (oExtract r128.1 1 r129.2) fun r130 =>
                bnd (oMv r129.1 r130.2) fun r131 =>
                bnd (oMv r130.1 r131.2) fun r132 =>
                bnd (oMv r132.1 r132.2) fun r133 =>
                bnd (oBin Tryd.prog .eql 28 false true r133.1 (.int .i64 0) r133.2) fun r134 =>
                vIf r134.1 (
                  bnd (oMv r131.1 r134.2) fun r135 =>
                  bnd (oBuildSlice Tryd.prog 38 1 [(0, r135.1)] r135.2) fun r136 =>
                  bnd (oMv r31.1 r136.2) fun r137 =>
                  bnd (aAppend Tryd.prog r137.2 #[38, 38] r136.1 r137.1) fun r138 =>
                  bnd (oMv r138.1 r138.2) fun r139 =>
                  bnd (oMv r139.1 r139.2) fun r140 =>
                  bnd (oMv r140.1 r140.2) fun r141 =>
                  bnd (oMv (.int .i64 0) r141.2) fun r142 =>
                  oRes Tryd.prog [(r141.1, none), (r142.1, none)] r142.2) (
                  bnd (oMv r31.1 r134.2) fun r143 =>
                  bnd (oMv r143.1 r143.2) fun r144 =>
                  bnd (oMv (.int .i64 0) r144.2) fun r145 =>
                  oRes Tryd.prog [(r144.1, none), (r145.1, none)] r145.2))) (
              bnd (oBin Tryd.prog .eql 3 false true r33.1 (.int .i64 2) r78.2) fun r146 =>
              bnd (oMv r146.1 r146.2) fun r147 =>
              vIf r147.1 (
                vIf r147.1 (
                  bnd (ldA 4 r1.1 r147.2) fun r148 =>
                  bnd (oMv r23.1 r148.2) fun r149 =>
                  bnd (call (fnV 37) [r148.1, r149.1] r149.2) fun r150 =>
                  bnd (oMv r150.1 r150.2) fun r151 =>
                  bnd (oExtract r151.1 0 r151.2) fun r152 =>
                  bnd (oExtract r151.1 1 r152.2) fun r153 =>
                  bnd (oMv r152.1 r153.2) fun r154 =>
                  bnd (oMv r153.1 r154.2) fun r155 =>
                  bnd (oMv r155.1 r155.2) fun r156 =>
                  bnd (oBin Tryd.prog .eql 28 false true r156.1 (.int .i64 0) r156.2) fun r157 =>
                  vIf r157.1 (
                    bnd (oMv r154.1 r157.2) fun r158 =>
                    bnd (oBuildSlice Tryd.prog 38 1 [(0, r158.1)] r158.2) fun r159 =>
                    bnd (oMv r31.1 r159.2) fun r160 =>
                    bnd (aAppend Tryd.prog r160.2 #[38, 38] r159.1 r160.1) fun r161 =>
                    bnd (oMv r161.1 r161.2) fun r162 =>
                    bnd (oMv r162.1 r162.2) fun r163 =>
                    bnd (oMv r163.1 r163.2) fun r164 =>
                    bnd (oMv (.int .i64 0) r164.2) fun r165 =>
                    oRes Tryd.prog [(r164.1, none), (r165.1, none)] r165.2) (
                    bnd (oMv r31.1 r157.2) fun r166 =>
                    bnd (oMv r166.1 r166.2) fun r167 =>
                    bnd (oMv (.int .i64 0) r167.2) fun r168 =>
                    oRes Tryd.prog [(r167.1, none), (r168.1, none)] r168.2)) (
                  bnd (oBin Tryd.prog .eql 3 false true r33.1 (.int .i64 10) r147.2) fun r169 =>
                  bnd (oMv r169.1 r169.2) fun r170 =>
                  vIf r170.1 (
                    vIf r170.1 (
                      bnd (ldA 4 r1.1 r170.2) fun r171 =>
                      bnd (oMv r24.1 r171.2) fun r172 =>
                      bnd (call (fnV 39) [r171.1, r172.1] r172.2) fun r173 =>
                      bnd (oMv r173.1 r173.2) fun r174 =>
                      bnd (oExtract r174.1 0 r174.2) fun r175 =>
                      bnd (oExtract r174.1 1 r175.2) fun r176 =>
                      bnd (oMv r175.1 r176.2) fun r177 =>
                      bnd (oMv r176.1 r177.2) fun r178 =>
                      bnd (oMv r178.1 r178.2) fun r179 =>
                      bnd (oBin Tryd.prog .eql 28 false true r179.1 (.int .i64 0) r179.2) fun r180 =>
                      vIf r180.1 (
                        bnd (oMv r31.1 r180.2) fun r181 =>
                        bnd (oMv r177.1 r181.2) fun r182 =>
                        bnd (oBuildSlice Tryd.prog 38 1 [(0, r182.1)] r182.2) fun r183 =>
                        bnd (aAppend Tryd.prog r183.2 #[38, 38] r181.1 r183.1) fun r184 =>
                        bnd (oMv r184.1 r184.2) fun r185 =>
                        bnd (oMv r185.1 r185.2) fun r186 =>
                        bnd (oMv r186.1 r186.2) fun r187 =>
                        bnd (oMv (.int .i64 0) r187.2) fun r188 =>
                        oRes Tryd.prog [(r187.1, none), (r188.1, none)] r188.2) (
                        bnd (oMv r31.1 r180.2) fun r189 =>
                        bnd (oMv r189.1 r189.2) fun r190 =>
                        bnd (oMv (.int .i64 0) r190.2) fun r191 =>
                        oRes Tryd.prog [(r190.1, none), (r191.1, none)] r191.2)) (
                      bnd (oMv r31.1 r170.2) fun r192 =>
                      bnd (oMv r192.1 r192.2) fun r193 =>
                      bnd (oMv (.int .i64 0) r193.2) fun r194 =>
                      oRes Tryd.prog [(r193.1, none), (r194.1, none)] r194.2)) (
                    bnd (oBin Tryd.prog .eql 3 false true r33.1 (.int .i64 11) r170.2) fun r195 =>
                    bnd (oMv r195.1 r195.2) fun r196 =>
                    vIf r196.1 (
                      bnd (ldA 4 r1.1 r196.2) fun r197 =>
                      bnd (oMv r24.1 r197.2) fun r198 =>
                      bnd (call (fnV 39) [r197.1, r198.1] r198.2) fun r199 =>
                      bnd (oMv r199.1 r199.2) fun r200 =>
                      bnd (oExtract r200.1 0 r200.2) fun r201 =>
                      bnd (oExtract r200.1 1 r201.2) fun r202 =>
                      bnd (oMv r201.1 r202.2) fun r203 =>
                      bnd (oMv r202.1 r203.2) fun r204 =>
                      bnd (oMv r204.1 r204.2) fun r205 =>
                      bnd (oBin Tryd.prog .eql 28 false true r205.1 (.int .i64 0) r205.2) fun r206 =>
                      vIf r206.1 (
                        bnd (oMv r31.1 r206.2) fun r207 =>
                        bnd (oMv r203.1 r207.2) fun r208 =>
                        bnd (oBuildSlice Tryd.prog 38 1 [(0, r208.1)] r208.2) fun r209 =>
                        bnd (aAppend Tryd.prog r209.2 #[38, 38] r207.1 r209.1) fun r210 =>
                        bnd (oMv r210.1 r210.2) fun r211 =>
                        bnd (oMv r211.1 r211.2) fun r212 =>
                        bnd (oMv r212.1 r212.2) fun r213 =>
                        bnd (oMv (.int .i64 0) r213.2) fun r214 =>
                        oRes Tryd.prog [(r213.1, none), (r214.1, none)] r214.2) (
                        bnd (oMv r31.1 r206.2) fun r215 =>
                        bnd (oMv r215.1 r215.2) fun r216 =>
                        bnd (oMv (.int .i64 0) r216.2) fun r217 =>
                        oRes Tryd.prog [(r216.1, none), (r217.1, none)] r217.2)) (
                      bnd (oMv r31.1 r196.2) fun r218 =>
                      bnd (oMv r218.1 r218.2) fun r219 =>
                      bnd (oMv (.int .i64 0) r219.2) fun r220 =>
                      oRes Tryd.prog [(r219.1, none), (r220.1, none)] r220.2)))) (
                bnd (oBin Tryd.prog .eql 3 false true r33.1 (.int .i64 5) r147.2) fun r221 =>
                bnd (oMv r221.1 r221.2) fun r222 =>
                vIf r222.1 (
                  vIf r222.1 (
                    bnd (ldA 4 r1.1 r222.2) fun r223 =>
                    bnd (oMv r23.1 r223.2) fun r224 =>
                    bnd (call (fnV 37) [r223.1, r224.1] r224.2) fun r225 =>
                    bnd (oMv r225.1 r225.2) fun r226 =>
                    bnd (oExtract r226.1 0 r226.2) fun r227 =>
                    bnd (oExtract r226.1 1 r227.2) fun r228 =>
                    bnd (oMv r227.1 r228.2) fun r229 =>
                    bnd (oMv r228.1 r229.2) fun r230 =>
                    bnd (oMv r230.1 r230.2) fun r231 =>
                    bnd (oBin Tryd.prog .eql 28 false true r231.1 (.int .i64 0) r231.2) fun r232 =>
                    vIf r232.1 (
                      bnd (oMv r229.1 r232.2) fun r233 =>
                      bnd (oBuildSlice Tryd.prog 38 1 [(0, r233.1)] r233.2) fun r234 =>
                      bnd (oMv r31.1 r234.2) fun r235 =>
                      bnd (aAppend Tryd.prog r235.2 #[38, 38] r234.1 r235.1) fun r236 =>
                      bnd (oMv r236.1 r236.2) fun r237 =>
                      bnd (oMv r237.1 r237.2) fun r238 =>
                      bnd (oMv r238.1 r238.2) fun r239 =>
                      bnd (oMv (.int .i64 0) r239.2) fun r240 =>
                      oRes Tryd.prog [(r239.1, none), (r240.1, none)] r240.2) (
                      bnd (oMv r31.1 r232.2) fun r241 =>
                      bnd (oMv r241.1 r241.2) fun r242 =>
                      bnd (oMv (.int .i64 0) r242.2) fun r243 =>
                      oRes Tryd.prog [(r242.1, none), (r243.1, none)] r243.2)) (
                    bnd (oBin Tryd.prog .eql 3 false true r33.1 (.int .i64 10) r222.2) fun r244 =>
                    bnd (oMv r244.1 r244.2) fun r245 =>
                    vIf r245.1 (
                      vIf r245.1 (
                        bnd (ldA 4 r1.1 r245.2) fun r246 =>
                        bnd (oMv r24.1 r246.2) fun r247 =>
                        bnd (call (fnV 39) [r246.1, r247.1] r247.2) fun r248 =>
                        bnd (oMv r248.1 r248.2) fun r249 =>
                        bnd (oExtract r249.1 0 r249.2) fun r250 =>
                        bnd (oExtract r249.1 1 r250.2) fun r251 =>
                        bnd (oMv r250.1 r251.2) fun r252 =>
                        bnd (oMv r251.1 r252.2) fun r253 =>
                        bnd (oMv r253.1 r253.2) fun r254 =>
                        bnd (oBin Tryd.prog .eql 28 false true r254.1 (.int .i64 0) r254.2) fun r255 =>
                        vIf r255.1 (
                          bnd (oMv r31.1 r255.2) fun r256 =>
                          bnd (oMv r252.1 r256.2) fun r257 =>
                          bnd (oBuildSlice Tryd.prog 38 1 [(0, r257.1)] r257.2) fun r258 =>
                          bnd (aAppend Tryd.prog r258.2 #[38, 38] r256.1 r258.1) fun r259 =>
                          bnd (oMv r259.1 r259.2) fun r260 =>
                          bnd (oMv r260.1 r260.2) fun r261 =>
                          bnd (oMv r261.1 r261.2) fun r262 =>
                          bnd (oMv (.int .i64 0) r262.2) fun r263 =>
                          oRes Tryd.prog [(r262.1, none), (r263.1, none)] r263.2) (
                          bnd (oMv r31.1 r255.2) fun r264 =>
                          bnd (oMv r264.1 r264.2) fun r265 =>
                          bnd (oMv (.int .i64 0) r265.2) fun r266 =>
                          oRes Tryd.prog [(r265.1, none), (r266.1, none)] r266.2)) (
                        bnd (oMv r31.1 r245.2) fun r267 =>
                        bnd (oMv r267.1 r267.2) fun r268 =>
                        bnd (oMv (.int .i64 0) r268.2) fun r269 =>
                        oRes Tryd.prog [(r268.1, none), (r269.1, none)] r269.2)) (
                      bnd (oBin Tryd.prog .eql 3 false true r33.1 (.int .i64 11) r245.2) fun r270 =>
                      bnd (oMv r270.1 r270.2) fun r271 =>
                      vIf r271.1 (
                        bnd (ldA 4 r1.1 r271.2) fun r272 =>
                        bnd (oMv r24.1 r272.2) fun r273 =>
                        bnd (call (fnV 39) [r272.1, r273.1] r273.2) fun r274 =>
                        bnd (oMv r274.1 r274.2) fun r275 =>
                        bnd (oExtract r275.1 0 r275.2) fun r276 =>
                        bnd (oExtract r275.1 1 r276.2) fun r277 =>
                        bnd (oMv r276.1 r277.2) fun r278 =>
                        bnd (oMv r277.1 r278.2) fun r279 =>
                        bnd (oMv r279.1 r279.2) fun r280 =>
                        bnd (oBin Tryd.prog .eql 28 false true r280.1 (.int .i64 0) r280.2) fun r281 =>
                        vIf r281.1 (
                          bnd (oMv r31.1 r281.2) fun r282 =>
                          bnd (oMv r278.1 r282.2) fun r283 =>
                          bnd (oBuildSlice Tryd.prog 38 1 [(0, r283.1)] r283.2) fun r284 =>
                          bnd (aAppend Tryd.prog r284.2 #[38, 38] r282.1 r284.1) fun r285 =>
                          bnd (oMv r285.1 r285.2) fun r286 =>
                          bnd (oMv r286.1 r286.2) fun r287 =>
                          bnd (oMv r287.1 r287.2) fun r288 =>
                          bnd (oMv (.int .i64 0) r288.2) fun r289 =>
                          oRes Tryd.prog [(r288.1, none), (r289.1, none)] r289.2) (
                          bnd (oMv r31.1 r281.2) fun r290 =>
                          bnd (oMv r290.1 r290.2) fun r291 =>
                          bnd (oMv (.int .i64 0) r291.2) fun r292 =>
                          oRes Tryd.prog [(r291.1, none), (r292.1, none)] r292.2)) (
                        bnd (oMv r31.1 r271.2) fun r293 =>
                        bnd (oMv r293.1 r293.2) fun r294 =>
                        bnd (oMv (.int .i64 0) r294.2) fun r295 =>
                        oRes Tryd.prog [(r294.1, none), (r295.1, none)] r295.2)))) (
                  bnd (oBin Tryd.prog .eql 3 false true r33.1 (.int .i64 6) r222.2) fun r296 =>
                  bnd (oMv r296.1 r296.2) fun r297 =>
                  vIf r297.1 (
                    vIf r297.1 (
                      bnd (ldA 4 r1.1 r297.2) fun r298 =>
                      bnd (oMv r23.1 r298.2) fun r299 =>
                      bnd (call (fnV 37) [r298.1, r299.1] r299.2) fun r300 =>
                      bnd (oMv r300.1 r300.2) fun r301 =>
                      bnd (oExtract r301.1 0 r301.2) fun r302 =>
                      bnd (oExtract r301.1 1 r302.2) fun r303 =>
                      bnd (oMv r302.1 r303.2) fun r304 =>
                      bnd (oMv r303.1 r304.2) fun r305 =>
                      bnd (oMv r305.1 r305.2) fun r306 =>
                      bnd (oBin Tryd.prog .eql 28 false true r306.1 (.int .i64 0) r306.2) fun r307 =>
                      vIf r307.1 (
                        bnd (oMv r304.1 r307.2) fun r308 =>
                        bnd (oBuildSlice Tryd.prog 38 1 [(0, r308.1)] r308.2) fun r309 =>
                        bnd (oMv r31.1 r309.2) fun r310 =>
                        bnd (aAppend Tryd.prog r310.2 #[38, 38] r309.1 r310.1) fun r311 =>
                        bnd (oMv r311.1 r311.2) fun r312 =>
                        bnd (oMv r312.1 r312.2) fun r313 =>
                        bnd (oMv r313.1 r313.2) fun r314 =>
                        bnd (oMv (.int .i64 0) r314.2) fun r315 =>
                        oRes Tryd.prog [(r314.1, none), (r315.1, none)] r315.2) (
                        bnd (oMv r31.1 r307.2) fun r316 =>
                        bnd (oMv r316.1 r316.2) fun r317 =>
                        bnd (oMv (.int .i64 0) r317.2) fun r318 =>
                        oRes Tryd.prog [(r317.1, none), (r318.1, none)] r318.2)) (
                      bnd (oBin Tryd.prog .eql 3 false true r33.1 (.int .i64 10) r297.2) fun r319 =>
                      bnd (oMv r319.1 r319.2) fun r320 =>
                      vIf r320.1 (
                        vIf r320.1 (
                          bnd (ldA 4 r1.1 r320.2) fun r321 =>
                          bnd (oMv r24.1 r321.2) fun r322 =>
                          bnd (call (fnV 39) [r321.1, r322.1] r322.2) fun r323 =>
                          bnd (oMv r323.1 r323.2) fun r324 =>
                          bnd (oExtract r324.1 0 r324.2) fun r325 =>
                          bnd (oExtract r324.1 1 r325.2) fun r326 =>
                          bnd (oMv r325.1 r326.2) fun r327 =>
                          bnd (oMv r326.1 r327.2) fun r328 =>
                          bnd (oMv r328.1 r328.2) fun r329 =>
                          bnd (oBin Tryd.prog .eql 28 false true r329.1 (.int .i64 0) r329.2) fun r330 =>
                          vIf r330.1 (
                            bnd (oMv r31.1 r330.2) fun r331 =>
                            bnd (oMv r327.1 r331.2) fun r332 =>
                            bnd (oBuildSlice Tryd.prog 38 1 [(0, r332.1)] r332.2) fun r333 =>
                            bnd (aAppend Tryd.prog r333.2 #[38, 38] r331.1 r333.1) fun r334 =>
                            bnd (oMv r334.1 r334.2) fun r335 =>
                            bnd (oMv r335.1 r335.2) fun r336 =>
                            bnd (oMv r336.1 r336.2) fun r337 =>
                            bnd (oMv (.int .i64 0) r337.2) fun r338 =>
                            oRes Tryd.prog [(r337.1, none), (r338.1, none)] r338.2) (
                            bnd (oMv r31.1 r330.2) fun r339 =>
                            bnd (oMv r339.1 r339.2) fun r340 =>
                            bnd (oMv (.int .i64 0) r340.2) fun r341 =>
                            oRes Tryd.prog [(r340.1, none), (r341.1, none)] r341.2)) (
                          bnd (oMv r31.1 r320.2) fun r342 =>
                          bnd (oMv r342.1 r342.2) fun r343 =>
                          bnd (oMv (.int .i64 0) r343.2) fun r344 =>
                          oRes Tryd.prog [(r343.1, none), (r344.1, none)] r344.2)) (
                        bnd (oBin Tryd.prog .eql 3 false true r33.1 (.int .i64 11) r320.2) fun r345 =>
                        bnd (oMv r345.1 r345.2) fun r346 =>
                        vIf r346.1 (
                          bnd (ldA 4 r1.1 r346.2) fun r347 =>
                          bnd (oMv r24.1 r347.2) fun r348 =>
                          bnd (call (fnV 39) [r347.1, r348.1] r348.2) fun r349 =>
                          bnd (oMv r349.1 r349.2) fun r350 =>
                          bnd (oExtract r350.1 0 r350.2) fun r351 =>
                          bnd (oExtract r350.1 1 r351.2) fun r352 =>
                          bnd (oMv r351.1 r352.2) fun r353 =>
                          bnd (oMv r352.1 r353.2) fun r354 =>
                          bnd (oMv r354.1 r354.2) fun r355 =>
                          bnd (oBin Tryd.prog .eql 28 false true r355.1 (.int .i64 0) r355.2) fun r356 =>
                          vIf r356.1 (
                            bnd (oMv r31.1 r356.2) fun r357 =>
                            bnd (oMv r353.1 r357.2) fun r358 =>
                            bnd (oBuildSlice Tryd.prog 38 1 [(0, r358.1)] r358.2) fun r359 =>
                            bnd (aAppend Tryd.prog r359.2 #[38, 38] r357.1 r359.1) fun r360 =>
                            bnd (oMv r360.1 r360.2) fun r361 =>
                            bnd (oMv r361.1 r361.2) fun r362 =>
                            bnd (oMv r362.1 r362.2) fun r363 =>
                            bnd (oMv (.int .i64 0) r363.2) fun r364 =>
                            oRes Tryd.prog [(r363.1, none), (r364.1, none)] r364.2) (
                            bnd (oMv r31.1 r356.2) fun r365 =>
                            bnd (oMv r365.1 r365.2) fun r366 =>
                            bnd (oMv (.int .i64 0) r366.2) fun r367 =>
                            oRes Tryd.prog [(r366.1, none), (r367.1, none)] r367.2)) (
                          bnd (oMv r31.1 r346.2) fun r368 =>
                          bnd (oMv r368.1 r368.2) fun r369 =>
                          bnd (oMv (.int .i64 0) r369.2) fun r370 =>
                          oRes Tryd.prog [(r369.1, none), (r370.1, none)] r370.2)))) (
                    bnd (oBin Tryd.prog .eql 3 false true r33.1 (.int .i64 9) r297.2) fun r371 =>
                    bnd (oMv r371.1 r371.2) fun r372 =>
                    vIf r372.1 (
                      bnd (ldA 4 r1.1 r372.2) fun r373 =>
                      bnd (oMv r23.1 r373.2) fun r374 =>
                      bnd (call (fnV 37) [r373.1, r374.1] r374.2) fun r375 =>
                      bnd (oMv r375.1 r375.2) fun r376 =>
                      bnd (oExtract r376.1 0 r376.2) fun r377 =>
                      bnd (oExtract r376.1 1 r377.2) fun r378 =>
                      bnd (oMv r377.1 r378.2) fun r379 =>
                      bnd (oMv r378.1 r379.2) fun r380 =>
                      bnd (oMv r380.1 r380.2) fun r381 =>
                      bnd (oBin Tryd.prog .eql 28 false true r381.1 (.int .i64 0) r381.2) fun r382 =>
                      vIf r382.1 (
                        bnd (oMv r379.1 r382.2) fun r383 =>
                        bnd (oBuildSlice Tryd.prog 38 1 [(0, r383.1)] r383.2) fun r384 =>
                        bnd (oMv r31.1 r384.2) fun r385 =>
                        bnd (aAppend Tryd.prog r385.2 #[38, 38] r384.1 r385.1) fun r386 =>
                        bnd (oMv r386.1 r386.2) fun r387 =>
                        bnd (oMv r387.1 r387.2) fun r388 =>
                        bnd (oMv r388.1 r388.2) fun r389 =>
                        bnd (oMv (.int .i64 0) r389.2) fun r390 =>
                        oRes Tryd.prog [(r389.1, none), (r390.1, none)] r390.2) (
                        bnd (oMv r31.1 r382.2) fun r391 =>
                        bnd (oMv r391.1 r391.2) fun r392 =>
                        bnd (oMv (.int .i64 0) r392.2) fun r393 =>
                        oRes Tryd.prog [(r392.1, none), (r393.1, none)] r393.2)) (
                      bnd (oBin Tryd.prog .eql 3 false true r33.1 (.int .i64 10) r372.2) fun r394 =>
                      bnd (oMv r394.1 r394.2) fun r395 =>
                      vIf r395.1 (
                        vIf r395.1 (
                          bnd (ldA 4 r1.1 r395.2) fun r396 =>
                          bnd (oMv r24.1 r396.2) fun r397 =>
                          bnd (call (fnV 39) [r396.1, r397.1] r397.2) fun r398 =>
                          bnd (oMv r398.1 r398.2) fun r399 =>
                          bnd (oExtract r399.1 0 r399.2) fun r400 =>
                          bnd (oExtract r399.1 1 r400.2) fun r401 =>
                          bnd (oMv r400.1 r401.2) fun r402 =>
                          bnd (oMv r401.1 r402.2) fun r403 =>
                          bnd (oMv r403.1 r403.2) fun r404 =>
                          bnd (oBin Tryd.prog .eql 28 false true r404.1 (.int .i64 0) r404.2) fun r405 =>
                          vIf r405.1 (
                            bnd (oMv r31.1 r405.2) fun r406 =>
                            bnd (oMv r402.1 r406.2) fun r407 =>
                            bnd (oBuildSlice Tryd.prog 38 1 [(0, r407.1)] r407.2) fun r408 =>
                            bnd (aAppend Tryd.prog r408.2 #[38, 38] r406.1 r408.1) fun r409 =>
                            bnd (oMv r409.1 r409.2) fun r410 =>
                            bnd (oMv r410.1 r410.2) fun r411 =>
                            bnd (oMv r411.1 r411.2) fun r412 =>
                            bnd (oMv (.int .i64 0) r412.2) fun r413 =>
                            oRes Tryd.prog [(r412.1, none), (r413.1, none)] r413.2) (
                            bnd (oMv r31.1 r405.2) fun r414 =>
                            bnd (oMv r414.1 r414.2) fun r415 =>
                            bnd (oMv (.int .i64 0) r415.2) fun r416 =>
                            oRes Tryd.prog [(r415.1, none), (r416.1, none)] r416.2)) (
                          bnd (oMv r31.1 r395.2) fun r417 =>
                          bnd (oMv r417.1 r417.2) fun r418 =>
                          bnd (oMv (.int .i64 0) r418.2) fun r419 =>
                          oRes Tryd.prog [(r418.1, none), (r419.1, none)] r419.2)) (
                        bnd (oBin Tryd.prog .eql 3 false true r33.1 (.int .i64 11) r395.2) fun r420 =>
                        bnd (oMv r420.1 r420.2) fun r421 =>
                        vIf r421.1 (
                          bnd (ldA 4 r1.1 r421.2) fun r422 =>
                          bnd (oMv r24.1 r422.2) fun r423 =>
                          bnd (call (fnV 39) [r422.1, r423.1] r423.2) fun r424 =>
                          bnd (oMv r424.1 r424.2) fun r425 =>
                          bnd (oExtract r425.1 0 r425.2) fun r426 =>
                          bnd (oExtract r425.1 1 r426.2) fun r427 =>
                          bnd (oMv r426.1 r427.2) fun r428 =>
                          bnd (oMv r427.1 r428.2) fun r429 =>
                          bnd (oMv r429.1 r429.2) fun r430 =>
                          bnd (oBin Tryd.prog .eql 28 false true r430.1 (.int .i64 0) r430.2) fun r431 =>
                          vIf r431.1 (
                            bnd (oMv r31.1 r431.2) fun r432 =>
                            bnd (oMv r428.1 r432.2) fun r433 =>
                            bnd (oBuildSlice Tryd.prog 38 1 [(0, r433.1)] r433.2) fun r434 =>
                            bnd (aAppend Tryd.prog r434.2 #[38, 38] r432.1 r434.1) fun r435 =>
                            bnd (oMv r435.1 r435.2) fun r436 =>
                            bnd (oMv r436.1 r436.2) fun r437 =>
                            bnd (oMv r437.1 r437.2) fun r438 =>
                            bnd (oMv (.int .i64 0) r438.2) fun r439 =>
                            oRes Tryd.prog [(r438.1, none), (r439.1, none)] r439.2) (
                            bnd (oMv r31.1 r431.2) fun r440 =>
                            bnd (oMv r440.1 r440.2) fun r441 =>
                            bnd (oMv (.int .i64 0) r441.2) fun r442 =>
                            oRes Tryd.prog [(r441.1, none), (r442.1, none)] r442.2)) (
                          bnd (oMv r31.1 r421.2) fun r443 =>
                          bnd (oMv r443.1 r443.2) fun r444 =>
                          bnd (oMv (.int .i64 0) r444.2) fun r445 =>
                          oRes Tryd.prog [(r444.1, none), (r445.1, none)] r445.2)))))))) (
            bnd (oBin Tryd.prog .eql 3 false true r33.1 (.int .i64 8) r78.2) fun r446 =>
            bnd (oMv r446.1 r446.2) fun r447 =>
            vIf r447.1 (
              vIf r447.1 (
                bnd (ldA 4 r1.1 r447.2) fun r448 =>
                bnd (oMv r23.1 r448.2) fun r449 =>
                bnd (call (fnV 35) [r448.1, r449.1] r449.2) fun r450 =>
                bnd (oMv r450.1 r450.2) fun r451 =>
                bnd (oExtract r451.1 0 r451.2) fun r452 =>
                bnd (oExtract r451.1 1 r452.2) fun r453 =>
                bnd (oAlloc Tryd.prog 65 r453.2) fun r454 =>
                bnd (stV 3 r454.1 r452.1 r454.2) fun r455 =>
                bnd (oMv r453.1 r455.2) fun r456 =>
                bnd (oMv r456.1 r456.2) fun r457 =>
                bnd (oBin Tryd.prog .eql 28 false true r457.1 (.int .i64 0) r457.2) fun r458 =>
                vIf r458.1 (
                  bnd (ldA 4 r1.1 r458.2) fun r459 =>
                  bnd (faO 0 r454.1 r459.2) fun r460 =>
                  bnd (ldC r460.1 r460.2) fun r461 =>
                  bnd (call (fnV 39) [r459.1, r461.1] r461.2) fun r462 =>
                  bnd (oMv r462.1 r462.2) fun r463 =>
                  bnd (oExtract r463.1 0 r463.2) fun r464 =>
                  bnd (oExtract r463.1 1 r464.2) fun r465 =>
                  bnd (oMv r464.1 r465.2) fun r466 =>
                  bnd (oMv r465.1 r466.2) fun r467 =>
                  bnd (oMv r31.1 r467.2) fun r468 =>
                  bnd (oMv r466.1 r468.2) fun r469 =>
                  bnd (oBuildSlice Tryd.prog 38 1 [(0, r469.1)] r469.2) fun r470 =>
                  bnd (aAppend Tryd.prog r470.2 #[38, 38] r468.1 r470.1) fun r471 =>
                  bnd (oMv r471.1 r471.2) fun r472 =>
                  bnd (ldA 4 r1.1 r472.2) fun r473 =>
                  bnd (oMv r23.1 r473.2) fun r474 =>
                  bnd (call (fnV 37) [r473.1, r474.1] r474.2) fun r475 =>
                  bnd (oMv r475.1 r475.2) fun r476 =>
                  bnd (oExtract r476.1 0 r476.2) fun r477 =>
                  bnd (oExtract r476.1 1 r477.2) fun r478 =>
                  bnd (oMv r477.1 r478.2) fun r479 =>
                  bnd (oMv r478.1 r479.2) fun r480 =>
                  bnd (oMv r480.1 r480.2) fun r481 =>
                  bnd (oBin Tryd.prog .eql 28 false true r481.1 (.int .i64 0) r481.2) fun r482 =>
                  vIf r482.1 (
                    bnd (oMv r479.1 r482.2) fun r483 =>
                    bnd (oBuildSlice Tryd.prog 38 1 [(0, r483.1)] r483.2) fun r484 =>
                    bnd (oMv r472.1 r484.2) fun r485 =>
                    bnd (aAppend Tryd.prog r485.2 #[38, 38] r484.1 r485.1) fun r486 =>
                    bnd (oMv r486.1 r486.2) fun r487 =>
                    bnd (oMv r487.1 r487.2) fun r488 =>
                    bnd (oMv r488.1 r488.2) fun r489 =>
                    bnd (oMv (.int .i64 0) r489.2) fun r490 =>
                    oRes Tryd.prog [(r489.1, none), (r490.1, none)] r490.2) (
                    bnd (oMv r472.1 r482.2) fun r491 =>
                    bnd (oMv r491.1 r491.2) fun r492 =>
                    bnd (oMv (.int .i64 0) r492.2) fun r493 =>
                    oRes Tryd.prog [(r492.1, none), (r493.1, none)] r493.2)) (
                  bnd (ldA 4 r1.1 r458.2) fun r494 =>
                  bnd (oMv r23.1 r494.2) fun r495 =>
                  bnd (call (fnV 37) [r494.1, r495.1] r495.2) fun r496 =>
                  bnd (oMv r496.1 r496.2) fun r497 =>
                  bnd (oExtract r497.1 0 r497.2) fun r498 =>
                  bnd (oExtract r497.1 1 r498.2) fun r499 =>
                  bnd (oMv r498.1 r499.2) fun r500 =>
                  bnd (oMv r499.1 r500.2) fun r501 =>
                  bnd (oMv r501.1 r501.2) fun r502 =>
                  bnd (oBin Tryd.prog .eql 28 false true r502.1 (.int .i64 0) r502.2) fun r503 =>
                  vIf r503.1 (
                    bnd (oMv r500.1 r503.2) fun r504 =>
                    bnd (oBuildSlice Tryd.prog 38 1 [(0, r504.1)] r504.2) fun r505 =>
                    bnd (oMv r31.1 r505.2) fun r506 =>
                    bnd (aAppend Tryd.prog r506.2 #[38, 38] r505.1 r506.1) fun r507 =>
                    bnd (oMv r507.1 r507.2) fun r508 =>
                    bnd (oMv r508.1 r508.2) fun r509 =>
                    bnd (oMv r509.1 r509.2) fun r510 =>
                    bnd (oMv (.int .i64 0) r510.2) fun r511 =>
                    oRes Tryd.prog [(r510.1, none), (r511.1, none)] r511.2) (
                    bnd (oMv r31.1 r503.2) fun r512 =>
                    bnd (oMv r512.1 r512.2) fun r513 =>
                    bnd (oMv (.int .i64 0) r513.2) fun r514 =>
                    oRes Tryd.prog [(r513.1, none), (r514.1, none)] r514.2))) (
                bnd (oBin Tryd.prog .eql 3 false true r33.1 (.int .i64 2) r447.2) fun r515 =>
                bnd (oMv r515.1 r515.2) fun r516 =>
                vIf r516.1 (
                  vIf r516.1 (
                    bnd (ldA 4 r1.1 r516.2) fun r517 =>
                    bnd (oMv r23.1 r517.2) fun r518 =>
                    bnd (call (fnV 37) [r517.1, r518.1] r518.2) fun r519 =>
                    bnd (oMv r519.1 r519.2) fun r520 =>
                    bnd (oExtract r520.1 0 r520.2) fun r521 =>
                    bnd (oExtract r520.1 1 r521.2) fun r522 =>
                    bnd (oMv r521.1 r522.2) fun r523 =>
                    bnd (oMv r522.1 r523.2) fun r524 =>
                    bnd (oMv r524.1 r524.2) fun r525 =>
                    bnd (oBin Tryd.prog .eql 28 false true r525.1 (.int .i64 0) r525.2) fun r526 =>
                    vIf r526.1 (
                      bnd (oMv r523.1 r526.2) fun r527 =>
                      bnd (oBuildSlice Tryd.prog 38 1 [(0, r527.1)] r527.2) fun r528 =>
                      bnd (oMv r31.1 r528.2) fun r529 =>
                      bnd (aAppend Tryd.prog r529.2 #[38, 38] r528.1 r529.1) fun r530 =>
                      bnd (oMv r530.1 r530.2) fun r531 =>
                      bnd (oMv r531.1 r531.2) fun r532 =>
                      bnd (oMv r532.1 r532.2) fun r533 =>
                      bnd (oMv (.int .i64 0) r533.2) fun r534 =>
                      oRes Tryd.prog [(r533.1, none), (r534.1, none)] r534.2) (
                      bnd (oMv r31.1 r526.2) fun r535 =>
                      bnd (oMv r535.1 r535.2) fun r536 =>
                      bnd (oMv (.int .i64 0) r536.2) fun r537 =>
                      oRes Tryd.prog [(r536.1, none), (r537.1, none)] r537.2)) (
                    bnd (oBin Tryd.prog .eql 3 false true r33.1 (.int .i64 10) r516.2) fun r538 =>
                    bnd (oMv r538.1 r538.2) fun r539 =>
                    vIf r539.1 (
                      vIf r539.1 (
                        bnd (ldA 4 r1.1 r539.2) fun r540 =>
                        bnd (oMv r24.1 r540.2) fun r541 =>
                        bnd (call (fnV 39) [r540.1, r541.1] r541.2) fun r542 =>
                        bnd (oMv r542.1 r542.2) fun r543 =>
                        bnd (oExtract r543.1 0 r543.2) fun r544 =>
                        bnd (oExtract r543.1 1 r544.2) fun r545 =>
                        bnd (oMv r544.1 r545.2) fun r546 =>
                        bnd (oMv r545.1 r546.2) fun r547 =>
                        bnd (oMv r547.1 r547.2) fun r548 =>
                        bnd (oBin Tryd.prog .eql 28 false true r548.1 (.int .i64 0) r548.2) fun r549 =>
                        vIf r549.1 (
                          bnd (oMv r31.1 r549.2) fun r550 =>
                          bnd (oMv r546.1 r550.2) fun r551 =>
                          bnd (oBuildSlice Tryd.prog 38 1 [(0, r551.1)] r551.2) fun r552 =>
                          bnd (aAppend Tryd.prog r552.2 #[38, 38] r550.1 r552.1) fun r553 =>
                          bnd (oMv r553.1 r553.2) fun r554 =>
                          bnd (oMv r554.1 r554.2) fun r555 =>
                          bnd (oMv r555.1 r555.2) fun r556 =>
                          bnd (oMv (.int .i64 0) r556.2) fun r557 =>
                          oRes Tryd.prog [(r556.1, none), (r557.1, none)] r557.2) (
                          bnd (oMv r31.1 r549.2) fun r558 =>
                          bnd (oMv r558.1 r558.2) fun r559 =>
                          bnd (oMv (.int .i64 0) r559.2) fun r560 =>
                          oRes Tryd.prog [(r559.1, none), (r560.1, none)] r560.2)) (
                        bnd (oMv r31.1 r539.2) fun r561 =>
                        bnd (oMv r561.1 r561.2) fun r562 =>
                        bnd (oMv (.int .i64 0) r562.2) fun r563 =>
                        oRes Tryd.prog [(r562.1, none), (r563.1, none)] r563.2)) (
                      bnd (oBin Tryd.prog .eql 3 false true r33.1 (.int .i64 11) r539.2) fun r564 =>
                      bnd (oMv r564.1 r564.2) fun r565 =>
                      vIf r565.1 (
                        bnd (ldA 4 r1.1 r565.2) fun r566 =>
                        bnd (oMv r24.1 r566.2) fun r567 =>
                        bnd (call (fnV 39) [r566.1, r567.1] r567.2) fun r568 =>
                        bnd (oMv r568.1 r568.2) fun r569 =>
                        bnd (oExtract r569.1 0 r569.2) fun r570 =>
                        bnd (oExtract r569.1 1 r570.2) fun r571 =>
                        bnd (oMv r570.1 r571.2) fun r572 =>
                        bnd (oMv r571.1 r572.2) fun r573 =>
                        bnd (oMv r573.1 r573.2) fun r574 =>
                        bnd (oBin Tryd.prog .eql 28 false true r574.1 (.int .i64 0) r574.2) fun r575 =>
                        vIf r575.1 (
                          bnd (oMv r31.1 r575.2) fun r576 =>
                          bnd (oMv r572.1 r576.2) fun r577 =>
                          bnd (oBuildSlice Tryd.prog 38 1 [(0, r577.1)] r577.2) fun r578 =>
                          bnd (aAppend Tryd.prog r578.2 #[38, 38] r576.1 r578.1) fun r579 =>
                          bnd (oMv r579.1 r579.2) fun r580 =>
                          bnd (oMv r580.1 r580.2) fun r581 =>
                          bnd (oMv r581.1 r581.2) fun r582 =>
                          bnd (oMv (.int .i64 0) r582.2) fun r583 =>
                          oRes Tryd.prog [(r582.1, none), (r583.1, none)] r583.2) (
                          bnd (oMv r31.1 r575.2) fun r584 =>
                          bnd (oMv r584.1 r584.2) fun r585 =>
                          bnd (oMv (.int .i64 0) r585.2) fun r586 =>
                          oRes Tryd.prog [(r585.1, none), (r586.1, none)] r586.2)) (
                        bnd (oMv r31.1 r565.2) fun r587 =>
                        bnd (oMv r587.1 r587.2) fun r588 =>
                        bnd (oMv (.int .i64 0) r588.2) fun r589 =>
                        oRes Tryd.prog [(r588.1, none), (r589.1, none)] r589.2)))) (
                  bnd (oBin Tryd.prog .eql 3 false true r33.1 (.int .i64 5) r516.2) fun r590 =>
                  bnd (oMv r590.1 r590.2) fun r591 =>
                  vIf r591.1 (
                    vIf r591.1 (
                      bnd (ldA 4 r1.1 r591.2) fun r592 =>
                      bnd (oMv r23.1 r592.2) fun r593 =>
                      bnd (call (fnV 37) [r592.1, r593.1] r593.2) fun r594 =>
                      bnd (oMv r594.1 r594.2) fun r595 =>
                      bnd (oExtract r595.1 0 r595.2) fun r596 =>
                      bnd (oExtract r595.1 1 r596.2) fun r597 =>
                      bnd (oMv r596.1 r597.2) fun r598 =>
                      bnd (oMv r597.1 r598.2) fun r599 =>
                      bnd (oMv r599.1 r599.2) fun r600 =>
                      bnd (oBin Tryd.prog .eql 28 false true r600.1 (.int .i64 0) r600.2) fun r601 =>
                      vIf r601.1 (
                        bnd (oMv r598.1 r601.2) fun r602 =>
                        bnd (oBuildSlice Tryd.prog 38 1 [(0, r602.1)] r602.2) fun r603 =>
                        bnd (oMv r31.1 r603.2) fun r604 =>
                        bnd (aAppend Tryd.prog r604.2 #[38, 38] r603.1 r604.1) fun r605 =>
                        bnd (oMv r605.1 r605.2) fun r606 =>
                        bnd (oMv r606.1 r606.2) fun r607 =>
                        bnd (oMv r607.1 r607.2) fun r608 =>
                        bnd (oMv (.int .i64 0) r608.2) fun r609 =>
                        oRes Tryd.prog [(r608.1, none), (r609.1, none)] r609.2) (
                        bnd (oMv r31.1 r601.2) fun r610 =>
                        bnd (oMv r610.1 r610.2) fun r611 =>
                        bnd (oMv (.int .i64 0) r611.2) fun r612 =>
                        oRes Tryd.prog [(r611.1, none), (r612.1, none)] r612.2)) (
                      bnd (oBin Tryd.prog .eql 3 false true r33.1 (.int .i64 10) r591.2) fun r613 =>
                      bnd (oMv r613.1 r613.2) fun r614 =>
                      vIf r614.1 (
                        vIf r614.1 (
                          bnd (ldA 4 r1.1 r614.2) fun r615 =>
                          bnd (oMv r24.1 r615.2) fun r616 =>
                          bnd (call (fnV 39) [r615.1, r616.1] r616.2) fun r617 =>
                          bnd (oMv r617.1 r617.2) fun r618 =>
                          bnd (oExtract r618.1 0 r618.2) fun r619 =>
                          bnd (oExtract r618.1 1 r619.2) fun r620 =>
                          bnd (oMv r619.1 r620.2) fun r621 =>
                          bnd (oMv r620.1 r621.2) fun r622 =>
                          bnd (oMv r622.1 r622.2) fun r623 =>
                          bnd (oBin Tryd.prog .eql 28 false true r623.1 (.int .i64 0) r623.2) fun r624 =>
                          vIf r624.1 (
                            bnd (oMv r31.1 r624.2) fun r625 =>
                            bnd (oMv r621.1 r625.2) fun r626 =>
                            bnd (oBuildSlice Tryd.prog 38 1 [(0, r626.1)] r626.2) fun r627 =>
                            bnd (aAppend Tryd.prog r627.2 #[38, 38] r625.1 r627.1) fun r628 =>
                            bnd (oMv r628.1 r628.2) fun r629 =>
                            bnd (oMv r629.1 r629.2) fun r630 =>
                            bnd (oMv r630.1 r630.2) fun r631 =>
                            bnd (oMv (.int .i64 0) r631.2) fun r632 =>
                            oRes Tryd.prog [(r631.1, none), (r632.1, none)] r632.2) (
                            bnd (oMv r31.1 r624.2) fun r633 =>
                            bnd (oMv r633.1 r633.2) fun r634 =>
                            bnd (oMv (.int .i64 0) r634.2) fun r635 =>
                            oRes Tryd.prog [(r634.1, none), (r635.1, none)] r635.2)) (
                          bnd (oMv r31.1 r614.2) fun r636 =>
                          bnd (oMv r636.1 r636.2) fun r637 =>
                          bnd (oMv (.int .i64 0) r637.2) fun r638 =>
                          oRes Tryd.prog [(r637.1, none), (r638.1, none)] r638.2)) (
                        bnd (oBin Tryd.prog .eql 3 false true r33.1 (.int .i64 11) r614.2) fun r639 =>
                        bnd (oMv r639.1 r639.2) fun r640 =>
                        vIf r640.1 (
                          bnd (ldA 4 r1.1 r640.2) fun r641 =>
                          bnd (oMv r24.1 r641.2) fun r642 =>
                          bnd (call (fnV 39) [r641.1, r642.1] r642.2) fun r643 =>
                          bnd (oMv r643.1 r643.2) fun r644 =>
                          bnd (oExtract r644.1 0 r644.2) fun r645 =>
                          bnd (oExtract r644.1 1 r645.2) fun r646 =>
                          bnd (oMv r645.1 r646.2) fun r647 =>
                          bnd (oMv r646.1 r647.2) fun r648 =>
                          bnd (oMv r648.1 r648.2) fun r649 =>
                          bnd (oBin Tryd.prog .eql 28 false true r649.1 (.int .i64 0) r649.2) fun r650 =>
                          vIf r650.1 (
                            bnd (oMv r31.1 r650.2) fun r651 =>
                            bnd (oMv r647.1 r651.2) fun r652 =>
                            bnd (oBuildSlice Tryd.prog 38 1 [(0, r652.1)] r652.2) fun r653 =>
                            bnd (aAppend Tryd.prog r653.2 #[38, 38] r651.1 r653.1) fun r654 =>
                            bnd (oMv r654.1 r654.2) fun r655 =>
                            bnd (oMv r655.1 r655.2) fun r656 =>
                            bnd (oMv r656.1 r656.2) fun r657 =>
                            bnd (oMv (.int .i64 0) r657.2) fun r658 =>
                            oRes Tryd.prog [(r657.1, none), (r658.1, none)] r658.2) (
                            bnd (oMv r31.1 r650.2) fun r659 =>
                            bnd (oMv r659.1 r659.2) fun r660 =>
                            bnd (oMv (.int .i64 0) r660.2) fun r661 =>
                            oRes Tryd.prog [(r660.1, none), (r661.1, none)] r661.2)) (
                          bnd (oMv r31.1 r640.2) fun r662 =>
                          bnd (oMv r662.1 r662.2) fun r663 =>
                          bnd (oMv (.int .i64 0) r663.2) fun r664 =>
                          oRes Tryd.prog [(r663.1, none), (r664.1, none)] r664.2)))) (
                    bnd (oBin Tryd.prog .eql 3 false true r33.1 (.int .i64 6) r591.2) fun r665 =>
                    bnd (oMv r665.1 r665.2) fun r666 =>
                    vIf r666.1 (
                      vIf r666.1 (
                        bnd (ldA 4 r1.1 r666.2) fun r667 =>
                        bnd (oMv r23.1 r667.2) fun r668 =>
                        bnd (call (fnV 37) [r667.1, r668.1] r668.2) fun r669 =>
                        bnd (oMv r669.1 r669.2) fun r670 =>
                        bnd (oExtract r670.1 0 r670.2) fun r671 =>
                        bnd (oExtract r670.1 1 r671.2) fun r672 =>
                        bnd (oMv r671.1 r672.2) fun r673 =>
                        bnd (oMv r672.1 r673.2) fun r674 =>
                        bnd (oMv r674.1 r674.2) fun r675 =>
                        bnd (oBin Tryd.prog .eql 28 false true r675.1 (.int .i64 0) r675.2) fun r676 =>
                        vIf r676.1 (
                          bnd (oMv r673.1 r676.2) fun r677 =>
                          bnd (oBuildSlice Tryd.prog 38 1 [(0, r677.1)] r677.2) fun r678 =>
                          bnd (oMv r31.1 r678.2) fun r679 =>
                          bnd (aAppend Tryd.prog r679.2 #[38, 38] r678.1 r679.1) fun r680 =>
                          bnd (oMv r680.1 r680.2) fun r681 =>
                          bnd (oMv r681.1 r681.2) fun r682 =>
                          bnd (oMv r682.1 r682.2) fun r683 =>
                          bnd (oMv (.int .i64 0) r683.2) fun r684 =>
                          oRes Tryd.prog [(r683.1, none), (r684.1, none)] r684.2) (
                          bnd (oMv r31.1 r676.2) fun r685 =>
                          bnd (oMv r685.1 r685.2) fun r686 =>
                          bnd (oMv (.int .i64 0) r686.2) fun r687 =>
                          oRes Tryd.prog [(r686.1, none), (r687.1, none)] r687.2)) (
                        bnd (oBin Tryd.prog .eql 3 false true r33.1 (.int .i64 10) r666.2) fun r688 =>
                        bnd (oMv r688.1 r688.2) fun r689 =>
                        vIf r689.1 (
                          vIf r689.1 (
                            bnd (ldA 4 r1.1 r689.2) fun r690 =>
                            bnd (oMv r24.1 r690.2) fun r691 =>
                            bnd (call (fnV 39) [r690.1, r691.1] r691.2) fun r692 =>
                            bnd (oMv r692.1 r692.2) fun r693 =>
                            bnd (oExtract r693.1 0 r693.2) fun r694 =>
                            bnd (oExtract r693.1 1 r694.2) fun r695 =>
                            bnd (oMv r694.1 r695.2) fun r696 =>
                            bnd (oMv r695.1 r696.2) fun r697 =>
                            bnd (oMv r697.1 r697.2) fun r698 =>
                            bnd (oBin Tryd.prog .eql 28 false true r698.1 (.int .i64 0) r698.2) fun r699 =>
                            vIf r699.1 (
                              bnd (oMv r31.1 r699.2) fun r700 =>
                              bnd (oMv r696.1 r700.2) fun r701 =>
                              bnd (oBuildSlice Tryd.prog 38 1 [(0, r701.1)] r701.2) fun r702 =>
                              bnd (aAppend Tryd.prog r702.2 #[38, 38] r700.1 r702.1) fun r703 =>
                              bnd (oMv r703.1 r703.2) fun r704 =>
                              bnd (oMv r704.1 r704.2) fun r705 =>
                              bnd (oMv r705.1 r705.2) fun r706 =>
                              bnd (oMv (.int .i64 0) r706.2) fun r707 =>
                              oRes Tryd.prog [(r706.1, none), (r707.1, none)] r707.2) (
                              bnd (oMv r31.1 r699.2) fun r708 =>
                              bnd (oMv r708.1 r708.2) fun r709 =>
                              bnd (oMv (.int .i64 0) r709.2) fun r710 =>
                              oRes Tryd.prog [(r709.1, none), (r710.1, none)] r710.2)) (
                            bnd (oMv r31.1 r689.2) fun r711 =>
                            bnd (oMv r711.1 r711.2) fun r712 =>
                            bnd (oMv (.int .i64 0) r712.2) fun r713 =>
                            oRes Tryd.prog [(r712.1, none), (r713.1, none)] r713.2)) (
                          bnd (oBin Tryd.prog .eql 3 false true r33.1 (.int .i64 11) r689.2) fun r714 =>
                          bnd (oMv r714.1 r714.2) fun r715 =>
                          vIf r715.1 (
                            bnd (ldA 4 r1.1 r715.2) fun r716 =>
                            bnd (oMv r24.1 r716.2) fun r717 =>
                            bnd (call (fnV 39) [r716.1, r717.1] r717.2) fun r718 =>
                            bnd (oMv r718.1 r718.2) fun r719 =>
                            bnd (oExtract r719.1 0 r719.2) fun r720 =>
                            bnd (oExtract r719.1 1 r720.2) fun r721 =>
                            bnd (oMv r720.1 r721.2) fun r722 =>
                            bnd (oMv r721.1 r722.2) fun r723 =>
                            bnd (oMv r723.1 r723.2) fun r724 =>
                            bnd (oBin Tryd.prog .eql 28 false true r724.1 (.int .i64 0) r724.2) fun r725 =>
                            vIf r725.1 (
                              bnd (oMv r31.1 r725.2) fun r726 =>
                              bnd (oMv r722.1 r726.2) fun r727 =>
                              bnd (oBuildSlice Tryd.prog 38 1 [(0, r727.1)] r727.2) fun r728 =>
                              bnd (aAppend Tryd.prog r728.2 #[38, 38] r726.1 r728.1) fun r729 =>
                              bnd (oMv r729.1 r729.2) fun r730 =>
                              bnd (oMv r730.1 r730.2) fun r731 =>
                              bnd (oMv r731.1 r731.2) fun r732 =>
                              bnd (oMv (.int .i64 0) r732.2) fun r733 =>
                              oRes Tryd.prog [(r732.1, none), (r733.1, none)] r733.2) (
                              bnd (oMv r31.1 r725.2) fun r734 =>
                              bnd (oMv r734.1 r734.2) fun r735 =>
                              bnd (oMv (.int .i64 0) r735.2) fun r736 =>
                              oRes Tryd.prog [(r735.1, none), (r736.1, none)] r736.2)) (
                            bnd (oMv r31.1 r715.2) fun r737 =>
                            bnd (oMv r737.1 r737.2) fun r738 =>
                            bnd (oMv (.int .i64 0) r738.2) fun r739 =>
                            oRes Tryd.prog [(r738.1, none), (r739.1, none)] r739.2)))) (
                      bnd (oBin Tryd.prog .eql 3 false true r33.1 (.int .i64 9) r666.2) fun r740 =>
                      bnd (oMv r740.1 r740.2) fun r741 =>
                      vIf r741.1 (
                        bnd (ldA 4 r1.1 r741.2) fun r742 =>
                        bnd (oMv r23.1 r742.2) fun r743 =>
                        bnd (call (fnV 37) [r742.1, r743.1] r743.2) fun r744 =>
                        bnd (oMv r744.1 r744.2) fun r745 =>
                        bnd (oExtract r745.1 0 r745.2) fun r746 =>
                        bnd (oExtract r745.1 1 r746.2) fun r747 =>
                        bnd (oMv r746.1 r747.2) fun r748 =>
                        bnd (oMv r747.1 r748.2) fun r749 =>
                        bnd (oMv r749.1 r749.2) fun r750 =>
                        bnd (oBin Tryd.prog .eql 28 false true r750.1 (.int .i64 0) r750.2) fun r751 =>
                        vIf r751.1 (
                          bnd (oMv r748.1 r751.2) fun r752 =>
                          bnd (oBuildSlice Tryd.prog 38 1 [(0, r752.1)] r752.2) fun r753 =>
                          bnd (oMv r31.1 r753.2) fun r754 =>
                          bnd (aAppend Tryd.prog r754.2 #[38, 38] r753.1 r754.1) fun r755 =>
                          bnd (oMv r755.1 r755.2) fun r756 =>
                          bnd (oMv r756.1 r756.2) fun r757 =>
                          bnd (oMv r757.1 r757.2) fun r758 =>
                          bnd (oMv (.int .i64 0) r758.2) fun r759 =>
                          oRes Tryd.prog [(r758.1, none), (r759.1, none)] r759.2) (
                          bnd (oMv r31.1 r751.2) fun r760 =>
                          bnd (oMv r760.1 r760.2) fun r761 =>
                          bnd (oMv (.int .i64 0) r761.2) fun r762 =>
                          oRes Tryd.prog [(r761.1, none), (r762.1, none)] r762.2)) (
                        bnd (oBin Tryd.prog .eql 3 false true r33.1 (.int .i64 10) r741.2) fun r763 =>
                        bnd (oMv r763.1 r763.2) fun r764 =>
                        vIf r764.1 (
                          vIf r764.1 (
                            bnd (ldA 4 r1.1 r764.2) fun r765 =>
                            bnd (oMv r24.1 r765.2) fun r766 =>
                            bnd (call (fnV 39) [r765.1, r766.1] r766.2) fun r767 =>
                            bnd (oMv r767.1 r767.2) fun r768 =>
                            bnd (oExtract r768.1 0 r768.2) fun r769 =>
                            bnd (oExtract r768.1 1 r769.2) fun r770 =>
                            bnd (oMv r769.1 r770.2) fun r771 =>
                            bnd (oMv r770.1 r771.2) fun r772 =>
                            bnd (oMv r772.1 r772.2) fun r773 =>
                            bnd (oBin Tryd.prog .eql 28 false true r773.1 (.int .i64 0) r773.2) fun r774 =>
                            vIf r774.1 (
                              bnd (oMv r31.1 r774.2) fun r775 =>
                              bnd (oMv r771.1 r775.2) fun r776 =>
                              bnd (oBuildSlice Tryd.prog 38 1 [(0, r776.1)] r776.2) fun r777 =>
                              bnd (aAppend Tryd.prog r777.2 #[38, 38] r775.1 r777.1) fun r778 =>
                              bnd (oMv r778.1 r778.2) fun r779 =>
                              bnd (oMv r779.1 r779.2) fun r780 =>
                              bnd (oMv r780.1 r780.2) fun r781 =>
                              bnd (oMv (.int .i64 0) r781.2) fun r782 =>
                              oRes Tryd.prog [(r781.1, none), (r782.1, none)] r782.2) (
                              bnd (oMv r31.1 r774.2) fun r783 =>
                              bnd (oMv r783.1 r783.2) fun r784 =>
                              bnd (oMv (.int .i64 0) r784.2) fun r785 =>
                              oRes Tryd.prog [(r784.1, none), (r785.1, none)] r785.2)) (
                            bnd (oMv r31.1 r764.2) fun r786 =>
                            bnd (oMv r786.1 r786.2) fun r787 =>
                            bnd (oMv (.int .i64 0) r787.2) fun r788 =>
                            oRes Tryd.prog [(r787.1, none), (r788.1, none)] r788.2)) (
                          bnd (oBin Tryd.prog .eql 3 false true r33.1 (.int .i64 11) r764.2) fun r789 =>
                          bnd (oMv r789.1 r789.2) fun r790 =>
                          vIf r790.1 (
                            bnd (ldA 4 r1.1 r790.2) fun r791 =>
                            bnd (oMv r24.1 r791.2) fun r792 =>
                            bnd (call (fnV 39) [r791.1, r792.1] r792.2) fun r793 =>
                            bnd (oMv r793.1 r793.2) fun r794 =>
                            bnd (oExtract r794.1 0 r794.2) fun r795 =>
                            bnd (oExtract r794.1 1 r795.2) fun r796 =>
                            bnd (oMv r795.1 r796.2) fun r797 =>
                            bnd (oMv r796.1 r797.2) fun r798 =>
                            bnd (oMv r798.1 r798.2) fun r799 =>
                            bnd (oBin Tryd.prog .eql 28 false true r799.1 (.int .i64 0) r799.2) fun r800 =>
                            vIf r800.1 (
                              bnd (oMv r31.1 r800.2) fun r801 =>
                              bnd (oMv r797.1 r801.2) fun r802 =>
                              bnd (oBuildSlice Tryd.prog 38 1 [(0, r802.1)] r802.2) fun r803 =>
                              bnd (aAppend Tryd.prog r803.2 #[38, 38] r801.1 r803.1) fun r804 =>
                              bnd (oMv r804.1 r804.2) fun r805 =>
                              bnd (oMv r805.1 r805.2) fun r806 =>
                              bnd (oMv r806.1 r806.2) fun r807 =>
                              bnd (oMv (.int .i64 0) r807.2) fun r808 =>
                              oRes Tryd.prog [(r807.1, none), (r808.1, none)] r808.2) (
                              bnd (oMv r31.1 r800.2) fun r809 =>
                              bnd (oMv r809.1 r809.2) fun r810 =>
                              bnd (oMv (.int .i64 0) r810.2) fun r811 =>
                              oRes Tryd.prog [(r810.1, none), (r811.1, none)] r811.2)) (
                            bnd (oMv r31.1 r790.2) fun r812 =>
                            bnd (oMv r812.1 r812.2) fun r813 =>
                            bnd (oMv (.int .i64 0) r813.2) fun r814 =>
                            oRes Tryd.prog [(r813.1, none), (r814.1, none)] r814.2)))))))) (
              bnd (oBin Tryd.prog .eql 3 false true r33.1 (.int .i64 7) r447.2) fun r815 =>
              bnd (oMv r815.1 r815.2) fun r816 =>
              vIf r816.1 (
                bnd (ldA 4 r1.1 r816.2) fun r817 =>
                bnd (oMv r23.1 r817.2) fun r818 =>
                bnd (call (fnV 35) [r817.1, r818.1] r818.2) fun r819 =>
                bnd (oMv r819.1 r819.2) fun r820 =>
                bnd (oExtract r820.1 0 r820.2) fun r821 =>
                bnd (oExtract r820.1 1 r821.2) fun r822 =>
                bnd (oAlloc Tryd.prog 65 r822.2) fun r823 =>
                bnd (stV 3 r823.1 r821.1 r823.2) fun r824 =>
                bnd (oMv r822.1 r824.2) fun r825 =>
                bnd (oMv r825.1 r825.2) fun r826 =>
                bnd (oBin Tryd.prog .eql 28 false true r826.1 (.int .i64 0) r826.2) fun r827 =>
                vIf r827.1 (
                  bnd (ldA 4 r1.1 r827.2) fun r828 =>
                  bnd (faO 0 r823.1 r828.2) fun r829 =>
                  bnd (ldC r829.1 r829.2) fun r830 =>
                  bnd (call (fnV 39) [r828.1, r830.1] r830.2) fun r831 =>
                  bnd (oMv r831.1 r831.2) fun r832 =>
                  bnd (oExtract r832.1 0 r832.2) fun r833 =>
                  bnd (oExtract r832.1 1 r833.2) fun r834 =>
                  bnd (oMv r833.1 r834.2) fun r835 =>
                  bnd (oMv r834.1 r835.2) fun r836 =>
                  bnd (oMv r31.1 r836.2) fun r837 =>
                  bnd (oMv r835.1 r837.2) fun r838 =>
                  bnd (oBuildSlice Tryd.prog 38 1 [(0, r838.1)] r838.2) fun r839 =>
                  bnd (aAppend Tryd.prog r839.2 #[38, 38] r837.1 r839.1) fun r840 =>
                  bnd (oMv r840.1 r840.2) fun r841 =>
                  bnd (ldA 4 r1.1 r841.2) fun r842 =>
                  bnd (oMv r23.1 r842.2) fun r843 =>
                  bnd (call (fnV 37) [r842.1, r843.1] r843.2) fun r844 =>
                  bnd (oMv r844.1 r844.2) fun r845 =>
                  bnd (oExtract r845.1 0 r845.2) fun r846 =>
                  bnd (oExtract r845.1 1 r846.2) fun r847 =>
                  bnd (oMv r846.1 r847.2) fun r848 =>
                  bnd (oMv r847.1 r848.2) fun r849 =>
                  bnd (oMv r849.1 r849.2) fun r850 =>
                  bnd (oBin Tryd.prog .eql 28 false true r850.1 (.int .i64 0) r850.2) fun r851 =>
                  vIf r851.1 (
                    bnd (oMv r848.1 r851.2) fun r852 =>
                    bnd (oBuildSlice Tryd.prog 38 1 [(0, r852.1)] r852.2) fun r853 =>
                    bnd (oMv r841.1 r853.2) fun r854 =>
                    bnd (aAppend Tryd.prog r854.2 #[38, 38] r853.1 r854.1) fun r855 =>
                    bnd (oMv r855.1 r855.2) fun r856 =>
                    bnd (oMv r856.1 r856.2) fun r857 =>
                    bnd (oMv r857.1 r857.2) fun r858 =>
                    bnd (oMv (.int .i64 0) r858.2) fun r859 =>
                    oRes Tryd.prog [(r858.1, none), (r859.1, none)] r859.2) (
                    bnd (oMv r841.1 r851.2) fun r860 =>
                    bnd (oMv r860.1 r860.2) fun r861 =>
                    bnd (oMv (.int .i64 0) r861.2) fun r862 =>
                    oRes Tryd.prog [(r861.1, none), (r862.1, none)] r862.2)) (
                  bnd (ldA 4 r1.1 r827.2) fun r863 =>
                  bnd (oMv r23.1 r863.2) fun r864 =>
                  bnd (call (fnV 37) [r863.1, r864.1] r864.2) fun r865 =>
                  bnd (oMv r865.1 r865.2) fun r866 =>
                  bnd (oExtract r866.1 0 r866.2) fun r867 =>
                  bnd (oExtract r866.1 1 r867.2) fun r868 =>
                  bnd (oMv r867.1 r868.2) fun r869 =>
                  bnd (oMv r868.1 r869.2) fun r870 =>
                  bnd (oMv r870.1 r870.2) fun r871 =>
                  bnd (oBin Tryd.prog .eql 28 false true r871.1 (.int .i64 0) r871.2) fun r872 =>
                  vIf r872.1 (
                    bnd (oMv r869.1 r872.2) fun r873 =>
                    bnd (oBuildSlice Tryd.prog 38 1 [(0, r873.1)] r873.2) fun r874 =>
                    bnd (oMv r31.1 r874.2) fun r875 =>
                    bnd (aAppend Tryd.prog r875.2 #[38, 38] r874.1 r875.1) fun r876 =>
                    bnd (oMv r876.1 r876.2) fun r877 =>
                    bnd (oMv r877.1 r877.2) fun r878 =>
                    bnd (oMv r878.1 r878.2) fun r879 =>
                    bnd (oMv (.int .i64 0) r879.2) fun r880 =>
                    oRes Tryd.prog [(r879.1, none), (r880.1, none)] r880.2) (
                    bnd (oMv r31.1 r872.2) fun r881 =>
                    bnd (oMv r881.1 r881.2) fun r882 =>
                    bnd (oMv (.int .i64 0) r882.2) fun r883 =>
                    oRes Tryd.prog [(r882.1, none), (r883.1, none)] r883.2))) (
                bnd (oBin Tryd.prog .eql 3 false true r33.1 (.int .i64 2) r816.2) fun r884 =>
                bnd (oMv r884.1 r884.2) fun r885 =>
                vIf r885.1 (
                  vIf r885.1 (
                    bnd (ldA 4 r1.1 r885.2) fun r886 =>
                    bnd (oMv r23.1 r886.2) fun r887 =>
                    bnd (call (fnV 37) [r886.1, r887.1] r887.2) fun r888 =>
                    bnd (oMv r888.1 r888.2) fun r889 =>
                    bnd (oExtract r889.1 0 r889.2) fun r890 =>
                    bnd (oExtract r889.1 1 r890.2) fun r891 =>
                    bnd (oMv r890.1 r891.2) fun r892 =>
                    bnd (oMv r891.1 r892.2) fun r893 =>
                    bnd (oMv r893.1 r893.2) fun r894 =>
                    bnd (oBin Tryd.prog .eql 28 false true r894.1 (.int .i64 0) r894.2) fun r895 =>
                    vIf r895.1 (
                      bnd (oMv r892.1 r895.2) fun r896 =>
                      bnd (oBuildSlice Tryd.prog 38 1 [(0, r896.1)] r896.2) fun r897 =>
                      bnd (oMv r31.1 r897.2) fun r898 =>
                      bnd (aAppend Tryd.prog r898.2 #[38, 38] r897.1 r898.1) fun r899 =>
                      bnd (oMv r899.1 r899.2) fun r900 =>
                      bnd (oMv r900.1 r900.2) fun r901 =>
                      bnd (oMv r901.1 r901.2) fun r902 =>
                      bnd (oMv (.int .i64 0) r902.2) fun r903 =>
                      oRes Tryd.prog [(r902.1, none), (r903.1, none)] r903.2) (
                      bnd (oMv r31.1 r895.2) fun r904 =>
                      bnd (oMv r904.1 r904.2) fun r905 =>
                      bnd (oMv (.int .i64 0) r905.2) fun r906 =>
                      oRes Tryd.prog [(r905.1, none), (r906.1, none)] r906.2)) (
                    bnd (oBin Tryd.prog .eql 3 false true r33.1 (.int .i64 10) r885.2) fun r907 =>
                    bnd (oMv r907.1 r907.2) fun r908 =>
                    vIf r908.1 (
                      vIf r908.1 (
                        bnd (ldA 4 r1.1 r908.2) fun r909 =>
                        bnd (oMv r24.1 r909.2) fun r910 =>
                        bnd (call (fnV 39) [r909.1, r910.1] r910.2) fun r911 =>
                        bnd (oMv r911.1 r911.2) fun r912 =>
                        bnd (oExtract r912.1 0 r912.2) fun r913 =>
                        bnd (oExtract r912.1 1 r913.2) fun r914 =>
                        bnd (oMv r913.1 r914.2) fun r915 =>
                        bnd (oMv r914.1 r915.2) fun r916 =>
                        bnd (oMv r916.1 r916.2) fun r917 =>
                        bnd (oBin Tryd.prog .eql 28 false true r917.1 (.int .i64 0) r917.2) fun r918 =>
                        vIf r918.1 (
                          bnd (oMv r31.1 r918.2) fun r919 =>
                          bnd (oMv r915.1 r919.2) fun r920 =>
                          bnd (oBuildSlice Tryd.prog 38 1 [(0, r920.1)] r920.2) fun r921 =>
                          bnd (aAppend Tryd.prog r921.2 #[38, 38] r919.1 r921.1) fun r922 =>
                          bnd (oMv r922.1 r922.2) fun r923 =>
                          bnd (oMv r923.1 r923.2) fun r924 =>
                          bnd (oMv r924.1 r924.2) fun r925 =>
                          bnd (oMv (.int .i64 0) r925.2) fun r926 =>
                          oRes Tryd.prog [(r925.1, none), (r926.1, none)] r926.2) (
                          bnd (oMv r31.1 r918.2) fun r927 =>
                          bnd (oMv r927.1 r927.2) fun r928 =>
                          bnd (oMv (.int .i64 0) r928.2) fun r929 =>
                          oRes Tryd.prog [(r928.1, none), (r929.1, none)] r929.2)) (
                        bnd (oMv r31.1 r908.2) fun r930 =>
                        bnd (oMv r930.1 r930.2) fun r931 =>
                        bnd (oMv (.int .i64 0) r931.2) fun r932 =>
                        oRes Tryd.prog [(r931.1, none), (r932.1, none)] r932.2)) (
                      bnd (oBin Tryd.prog .eql 3 false true r33.1 (.int .i64 11) r908.2) fun r933 =>
                      bnd (oMv r933.1 r933.2) fun r934 =>
                      vIf r934.1 (
                        bnd (ldA 4 r1.1 r934.2) fun r935 =>
                        bnd (oMv r24.1 r935.2) fun r936 =>
                        bnd (call (fnV 39) [r935.1, r936.1] r936.2) fun r937 =>
                        bnd (oMv r937.1 r937.2) fun r938 =>
                        bnd (oExtract r938.1 0 r938.2) fun r939 =>
                        bnd (oExtract r938.1 1 r939.2) fun r940 =>
                        bnd (oMv r939.1 r940.2) fun r941 =>
                        bnd (oMv r940.1 r941.2) fun r942 =>
                        bnd (oMv r942.1 r942.2) fun r943 =>
                        bnd (oBin Tryd.prog .eql 28 false true r943.1 (.int .i64 0) r943.2) fun r944 =>
                        vIf r944.1 (
                          bnd (oMv r31.1 r944.2) fun r945 =>
                          bnd (oMv r941.1 r945.2) fun r946 =>
                          bnd (oBuildSlice Tryd.prog 38 1 [(0, r946.1)] r946.2) fun r947 =>
                          bnd (aAppend Tryd.prog r947.2 #[38, 38] r945.1 r947.1) fun r948 =>
                          bnd (oMv r948.1 r948.2) fun r949 =>
                          bnd (oMv r949.1 r949.2) fun r950 =>
                          bnd (oMv r950.1 r950.2) fun r951 =>
                          bnd (oMv (.int .i64 0) r951.2) fun r952 =>
                          oRes Tryd.prog [(r951.1, none), (r952.1, none)] r952.2) (
                          bnd (oMv r31.1 r944.2) fun r953 =>
                          bnd (oMv r953.1 r953.2) fun r954 =>
                          bnd (oMv (.int .i64 0) r954.2) fun r955 =>
                          oRes Tryd.prog [(r954.1, none), (r955.1, none)] r955.2)) (
                        bnd (oMv r31.1 r934.2) fun r956 =>
                        bnd (oMv r956.1 r956.2) fun r957 =>
                        bnd (oMv (.int .i64 0) r957.2) fun r958 =>
                        oRes Tryd.prog [(r957.1, none), (r958.1, none)] r958.2)))) (
                  bnd (oBin Tryd.prog .eql 3 false true r33.1 (.int .i64 5) r885.2) fun r959 =>
                  bnd (oMv r959.1 r959.2) fun r960 =>
                  vIf r960.1 (
                    vIf r960.1 (
                      bnd (ldA 4 r1.1 r960.2) fun r961 =>
                      bnd (oMv r23.1 r961.2) fun r962 =>
                      bnd (call (fnV 37) [r961.1, r962.1] r962.2) fun r963 =>
                      bnd (oMv r963.1 r963.2) fun r964 =>
                      bnd (oExtract r964.1 0 r964.2) fun r965 =>
                      bnd (oExtract r964.1 1 r965.2) fun r966 =>
                      bnd (oMv r965.1 r966.2) fun r967 =>
                      bnd (oMv r966.1 r967.2) fun r968 =>
                      bnd (oMv r968.1 r968.2) fun r969 =>
                      bnd (oBin Tryd.prog .eql 28 false true r969.1 (.int .i64 0) r969.2) fun r970 =>
                      vIf r970.1 (
                        bnd (oMv r967.1 r970.2) fun r971 =>
                        bnd (oBuildSlice Tryd.prog 38 1 [(0, r971.1)] r971.2) fun r972 =>
                        bnd (oMv r31.1 r972.2) fun r973 =>
                        bnd (aAppend Tryd.prog r973.2 #[38, 38] r972.1 r973.1) fun r974 =>
                        bnd (oMv r974.1 r974.2) fun r975 =>
                        bnd (oMv r975.1 r975.2) fun r976 =>
                        bnd (oMv r976.1 r976.2) fun r977 =>
                        bnd (oMv (.int .i64 0) r977.2) fun r978 =>
                        oRes Tryd.prog [(r977.1, none), (r978.1, none)] r978.2) (
                        bnd (oMv r31.1 r970.2) fun r979 =>
                        bnd (oMv r979.1 r979.2) fun r980 =>
                        bnd (oMv (.int .i64 0) r980.2) fun r981 =>
                        oRes Tryd.prog [(r980.1, none), (r981.1, none)] r981.2)) (
                      bnd (oBin Tryd.prog .eql 3 false true r33.1 (.int .i64 10) r960.2) fun r982 =>
                      bnd (oMv r982.1 r982.2) fun r983 =>
                      vIf r983.1 (
                        vIf r983.1 (
                          bnd (ldA 4 r1.1 r983.2) fun r984 =>
                          bnd (oMv r24.1 r984.2) fun r985 =>
                          bnd (call (fnV 39) [r984.1, r985.1] r985.2) fun r986 =>
                          bnd (oMv r986.1 r986.2) fun r987 =>
                          bnd (oExtract r987.1 0 r987.2) fun r988 =>
                          bnd (oExtract r987.1 1 r988.2) fun r989 =>
                          bnd (oMv r988.1 r989.2) fun r990 =>
                          bnd (oMv r989.1 r990.2) fun r991 =>
                          bnd (oMv r991.1 r991.2) fun r992 =>
                          bnd (oBin Tryd.prog .eql 28 false true r992.1 (.int .i64 0) r992.2) fun r993 =>
                          vIf r993.1 (
                            bnd (oMv r31.1 r993.2) fun r994 =>
                            bnd (oMv r990.1 r994.2) fun r995 =>
                            bnd (oBuildSlice Tryd.prog 38 1 [(0, r995.1)] r995.2) fun r996 =>
                            bnd (aAppend Tryd.prog r996.2 #[38, 38] r994.1 r996.1) fun r997 =>
                            bnd (oMv r997.1 r997.2) fun r998 =>
                            bnd (oMv r998.1 r998.2) fun r999 =>
                            bnd (oMv r999.1 r999.2) fun r1000 =>
                            bnd (oMv (.int .i64 0) r1000.2) fun r1001 =>
                            oRes Tryd.prog [(r1000.1, none), (r1001.1, none)] r1001.2) (
                            bnd (oMv r31.1 r993.2) fun r1002 =>
                            bnd (oMv r1002.1 r1002.2) fun r1003 =>
                            bnd (oMv (.int .i64 0) r1003.2) fun r1004 =>
                            oRes Tryd.prog [(r1003.1, none), (r1004.1, none)] r1004.2)) (
                          bnd (oMv r31.1 r983.2) fun r1005 =>
                          bnd (oMv r1005.1 r1005.2) fun r1006 =>
                          bnd (oMv (.int .i64 0) r1006.2) fun r1007 =>
                          oRes Tryd.prog [(r1006.1, none), (r1007.1, none)] r1007.2)) (
                        bnd (oBin Tryd.prog .eql 3 false true r33.1 (.int .i64 11) r983.2) fun r1008 =>
                        bnd (oMv r1008.1 r1008.2) fun r1009 =>
                        vIf r1009.1 (
                          bnd (ldA 4 r1.1 r1009.2) fun r1010 =>
                          bnd (oMv r24.1 r1010.2) fun r1011 =>
                          bnd (call (fnV 39) [r1010.1, r1011.1] r1011.2) fun r1012 =>
                          bnd (oMv r1012.1 r1012.2) fun r1013 =>
                          bnd (oExtract r1013.1 0 r1013.2) fun r1014 =>
                          bnd (oExtract r1013.1 1 r1014.2) fun r1015 =>
                          bnd (oMv r1014.1 r1015.2) fun r1016 =>
                          bnd (oMv r1015.1 r1016.2) fun r1017 =>
                          bnd (oMv r1017.1 r1017.2) fun r1018 =>
                          bnd (oBin Tryd.prog .eql 28 false true r1018.1 (.int .i64 0) r1018.2) fun r1019 =>
                          vIf r1019.1 (
                            bnd (oMv r31.1 r1019.2) fun r1020 =>
                            bnd (oMv r1016.1 r1020.2) fun r1021 =>
                            bnd (oBuildSlice Tryd.prog 38 1 [(0, r1021.1)] r1021.2) fun r1022 =>
                            bnd (aAppend Tryd.prog r1022.2 #[38, 38] r1020.1 r1022.1) fun r1023 =>
                            bnd (oMv r1023.1 r1023.2) fun r1024 =>
                            bnd (oMv r1024.1 r1024.2) fun r1025 =>
                            bnd (oMv r1025.1 r1025.2) fun r1026 =>
                            bnd (oMv (.int .i64 0) r1026.2) fun r1027 =>
                            oRes Tryd.prog [(r1026.1, none), (r1027.1, none)] r1027.2) (
                            bnd (oMv r31.1 r1019.2) fun r1028 =>
                            bnd (oMv r1028.1 r1028.2) fun r1029 =>
                            bnd (oMv (.int .i64 0) r1029.2) fun r1030 =>
                            oRes Tryd.prog [(r1029.1, none), (r1030.1, none)] r1030.2)) (
                          bnd (oMv r31.1 r1009.2) fun r1031 =>
                          bnd (oMv r1031.1 r1031.2) fun r1032 =>
                          bnd (oMv (.int .i64 0) r1032.2) fun r1033 =>
                          oRes Tryd.prog [(r1032.1, none), (r1033.1, none)] r1033.2)))) (
                    bnd (oBin Tryd.prog .eql 3 false true r33.1 (.int .i64 6) r960.2) fun r1034 =>
                    bnd (oMv r1034.1 r1034.2) fun r1035 =>
                    vIf r1035.1 (
                      vIf r1035.1 (
                        bnd (ldA 4 r1.1 r1035.2) fun r1036 =>
                        bnd (oMv r23.1 r1036.2) fun r1037 =>
                        bnd (call (fnV 37) [r1036.1, r1037.1] r1037.2) fun r1038 =>
                        bnd (oMv r1038.1 r1038.2) fun r1039 =>
                        bnd (oExtract r1039.1 0 r1039.2) fun r1040 =>
                        bnd (oExtract r1039.1 1 r1040.2) fun r1041 =>
                        bnd (oMv r1040.1 r1041.2) fun r1042 =>
                        bnd (oMv r1041.1 r1042.2) fun r1043 =>
                        bnd (oMv r1043.1 r1043.2) fun r1044 =>
                        bnd (oBin Tryd.prog .eql 28 false true r1044.1 (.int .i64 0) r1044.2) fun r1045 =>
                        vIf r1045.1 (
                          bnd (oMv r1042.1 r1045.2) fun r1046 =>
                          bnd (oBuildSlice Tryd.prog 38 1 [(0, r1046.1)] r1046.2) fun r1047 =>
                          bnd (oMv r31.1 r1047.2) fun r1048 =>
                          bnd (aAppend Tryd.prog r1048.2 #[38, 38] r1047.1 r1048.1) fun r1049 =>
                          bnd (oMv r1049.1 r1049.2) fun r1050 =>
                          bnd (oMv r1050.1 r1050.2) fun r1051 =>
                          bnd (oMv r1051.1 r1051.2) fun r1052 =>
                          bnd (oMv (.int .i64 0) r1052.2) fun r1053 =>
                          oRes Tryd.prog [(r1052.1, none), (r1053.1, none)] r1053.2) (
                          bnd (oMv r31.1 r1045.2) fun r1054 =>
                          bnd (oMv r1054.1 r1054.2) fun r1055 =>
                          bnd (oMv (.int .i64 0) r1055.2) fun r1056 =>
                          oRes Tryd.prog [(r1055.1, none), (r1056.1, none)] r1056.2)) (
                        bnd (oBin Tryd.prog .eql 3 false true r33.1 (.int .i64 10) r1035.2) fun r1057 =>
                        bnd (oMv r1057.1 r1057.2) fun r1058 =>
                        vIf r1058.1 (
                          vIf r1058.1 (
                            bnd (ldA 4 r1.1 r1058.2) fun r1059 =>
                            bnd (oMv r24.1 r1059.2) fun r1060 =>
                            bnd (call (fnV 39) [r1059.1, r1060.1] r1060.2) fun r1061 =>
                            bnd (oMv r1061.1 r1061.2) fun r1062 =>
                            bnd (oExtract r1062.1 0 r1062.2) fun r1063 =>
                            bnd (oExtract r1062.1 1 r1063.2) fun r1064 =>
                            bnd (oMv r1063.1 r1064.2) fun r1065 =>
                            bnd (oMv r1064.1 r1065.2) fun r1066 =>
                            bnd (oMv r1066.1 r1066.2) fun r1067 =>
                            bnd (oBin Tryd.prog .eql 28 false true r1067.1 (.int .i64 0) r1067.2) fun r1068 =>
                            vIf r1068.1 (
                              bnd (oMv r31.1 r1068.2) fun r1069 =>
                              bnd (oMv r1065.1 r1069.2) fun r1070 =>
                              bnd (oBuildSlice Tryd.prog 38 1 [(0, r1070.1)] r1070.2) fun r1071 =>
                              bnd (aAppend Tryd.prog r1071.2 #[38, 38] r1069.1 r1071.1) fun r1072 =>
                              bnd (oMv r1072.1 r1072.2) fun r1073 =>
                              bnd (oMv r1073.1 r1073.2) fun r1074 =>
                              bnd (oMv r1074.1 r1074.2) fun r1075 =>
                              bnd (oMv (.int .i64 0) r1075.2) fun r1076 =>
                              oRes Tryd.prog [(r1075.1, none), (r1076.1, none)] r1076.2) (
                              bnd (oMv r31.1 r1068.2) fun r1077 =>
                              bnd (oMv r1077.1 r1077.2) fun r1078 =>
                              bnd (oMv (.int .i64 0) r1078.2) fun r1079 =>
                              oRes Tryd.prog [(r1078.1, none), (r1079.1, none)] r1079.2)) (
                            bnd (oMv r31.1 r1058.2) fun r1080 =>
                            bnd (oMv r1080.1 r1080.2) fun r1081 =>
                            bnd (oMv (.int .i64 0) r1081.2) fun r1082 =>
                            oRes Tryd.prog [(r1081.1, none), (r1082.1, none)] r1082.2)) (
                          bnd (oBin Tryd.prog .eql 3 false true r33.1 (.int .i64 11) r1058.2) fun r1083 =>
                          bnd (oMv r1083.1 r1083.2) fun r1084 =>
                          vIf r1084.1 (
                            bnd (ldA 4 r1.1 r1084.2) fun r1085 =>
                            bnd (oMv r24.1 r1085.2) fun r1086 =>
                            bnd (call (fnV 39) [r1085.1, r1086.1] r1086.2) fun r1087 =>
                            bnd (oMv r1087.1 r1087.2) fun r1088 =>
                            bnd (oExtract r1088.1 0 r1088.2) fun r1089 =>
                            bnd (oExtract r1088.1 1 r1089.2) fun r1090 =>
                            bnd (oMv r1089.1 r1090.2) fun r1091 =>
                            bnd (oMv r1090.1 r1091.2) fun r1092 =>
                            bnd (oMv r1092.1 r1092.2) fun r1093 =>
                            bnd (oBin Tryd.prog .eql 28 false true r1093.1 (.int .i64 0) r1093.2) fun r1094 =>
                            vIf r1094.1 (
                              bnd (oMv r31.1 r1094.2) fun r1095 =>
                              bnd (oMv r1091.1 r1095.2) fun r1096 =>
                              bnd (oBuildSlice Tryd.prog 38 1 [(0, r1096.1)] r1096.2) fun r1097 =>
                              bnd (aAppend Tryd.prog r1097.2 #[38, 38] r1095.1 r1097.1) fun r1098 =>
                              bnd (oMv r1098.1 r1098.2) fun r1099 =>
                              bnd (oMv r1099.1 r1099.2) fun r1100 =>
                              bnd (oMv r1100.1 r1100.2) fun r1101 =>
                              bnd (oMv (.int .i64 0) r1101.2) fun r1102 =>
                              oRes Tryd.prog [(r1101.1, none), (r1102.1, none)] r1102.2) (
                              bnd (oMv r31.1 r1094.2) fun r1103 =>
                              bnd (oMv r1103.1 r1103.2) fun r1104 =>
                              bnd (oMv (.int .i64 0) r1104.2) fun r1105 =>
                              oRes Tryd.prog [(r1104.1, none), (r1105.1, none)] r1105.2)) (
                            bnd (oMv r31.1 r1084.2) fun r1106 =>
                            bnd (oMv r1106.1 r1106.2) fun r1107 =>
                            bnd (oMv (.int .i64 0) r1107.2) fun r1108 =>
                            oRes Tryd.prog [(r1107.1, none), (r1108.1, none)] r1108.2)))) (
                      bnd (oBin Tryd.prog .eql 3 false true r33.1 (.int .i64 9) r1035.2) fun r1109 =>
                      bnd (oMv r1109.1 r1109.2) fun r1110 =>
                      vIf r1110.1 (
                        bnd (ldA 4 r1.1 r1110.2) fun r1111 =>
                        bnd (oMv r23.1 r1111.2) fun r1112 =>
                        bnd (call (fnV 37) [r1111.1, r1112.1] r1112.2) fun r1113 =>
                        bnd (oMv r1113.1 r1113.2) fun r1114 =>
                        bnd (oExtract r1114.1 0 r1114.2) fun r1115 =>
                        bnd (oExtract r1114.1 1 r1115.2) fun r1116 =>
                        bnd (oMv r1115.1 r1116.2) fun r1117 =>
                        bnd (oMv r1116.1 r1117.2) fun r1118 =>
                        bnd (oMv r1118.1 r1118.2) fun r1119 =>
                        bnd (oBin Tryd.prog .eql 28 false true r1119.1 (.int .i64 0) r1119.2) fun r1120 =>
                        vIf r1120.1 (
                          bnd (oMv r1117.1 r1120.2) fun r1121 =>
                          bnd (oBuildSlice Tryd.prog 38 1 [(0, r1121.1)] r1121.2) fun r1122 =>
                          bnd (oMv r31.1 r1122.2) fun r1123 =>
                          bnd (aAppend Tryd.prog r1123.2 #[38, 38] r1122.1 r1123.1) fun r1124 =>
                          bnd (oMv r1124.1 r1124.2) fun r1125 =>
                          bnd (oMv r1125.1 r1125.2) fun r1126 =>
                          bnd (oMv r1126.1 r1126.2) fun r1127 =>
                          bnd (oMv (.int .i64 0) r1127.2) fun r1128 =>
                          oRes Tryd.prog [(r1127.1, none), (r1128.1, none)] r1128.2) (
                          bnd (oMv r31.1 r1120.2) fun r1129 =>
                          bnd (oMv r1129.1 r1129.2) fun r1130 =>
                          bnd (oMv (.int .i64 0) r1130.2) fun r1131 =>
                          oRes Tryd.prog [(r1130.1, none), (r1131.1, none)] r1131.2)) (
                        bnd (oBin Tryd.prog .eql 3 false true r33.1 (.int .i64 10) r1110.2) fun r1132 =>
                        bnd (oMv r1132.1 r1132.2) fun r1133 =>
                        vIf r1133.1 (
                          vIf r1133.1 (
                            bnd (ldA 4 r1.1 r1133.2) fun r1134 =>
                            bnd (oMv r24.1 r1134.2) fun r1135 =>
                            bnd (call (fnV 39) [r1134.1, r1135.1] r1135.2) fun r1136 =>
                            bnd (oMv r1136.1 r1136.2) fun r1137 =>
                            bnd (oExtract r1137.1 0 r1137.2) fun r1138 =>
                            bnd (oExtract r1137.1 1 r1138.2) fun r1139 =>
                            bnd (oMv r1138.1 r1139.2) fun r1140 =>
                            bnd (oMv r1139.1 r1140.2) fun r1141 =>
                            bnd (oMv r1141.1 r1141.2) fun r1142 =>
                            bnd (oBin Tryd.prog .eql 28 false true r1142.1 (.int .i64 0) r1142.2) fun r1143 =>
                            vIf r1143.1 (
                              bnd (oMv r31.1 r1143.2) fun r1144 =>
                              bnd (oMv r1140.1 r1144.2) fun r1145 =>
                              bnd (oBuildSlice Tryd.prog 38 1 [(0, r1145.1)] r1145.2) fun r1146 =>
                              bnd (aAppend Tryd.prog r1146.2 #[38, 38] r1144.1 r1146.1) fun r1147 =>
                              bnd (oMv r1147.1 r1147.2) fun r1148 =>
                              bnd (oMv r1148.1 r1148.2) fun r1149 =>
                              bnd (oMv r1149.1 r1149.2) fun r1150 =>
                              bnd (oMv (.int .i64 0) r1150.2) fun r1151 =>
                              oRes Tryd.prog [(r1150.1, none), (r1151.1, none)] r1151.2) (
                              bnd (oMv r31.1 r1143.2) fun r1152 =>
                              bnd (oMv r1152.1 r1152.2) fun r1153 =>
                              bnd (oMv (.int .i64 0) r1153.2) fun r1154 =>
                              oRes Tryd.prog [(r1153.1, none), (r1154.1, none)] r1154.2)) (
                            bnd (oMv r31.1 r1133.2) fun r1155 =>
                            bnd (oMv r1155.1 r1155.2) fun r1156 =>
                            bnd (oMv (.int .i64 0) r1156.2) fun r1157 =>
                            oRes Tryd.prog [(r1156.1, none), (r1157.1, none)] r1157.2)) (
                          bnd (oBin Tryd.prog .eql 3 false true r33.1 (.int .i64 11) r1133.2) fun r1158 =>
                          bnd (oMv r1158.1 r1158.2) fun r1159 =>
                          vIf r1159.1 (
                            bnd (ldA 4 r1.1 r1159.2) fun r1160 =>
                            bnd (oMv r24.1 r1160.2) fun r1161 =>
                            bnd (call (fnV 39) [r1160.1, r1161.1] r1161.2) fun r1162 =>
                            bnd (oMv r1162.1 r1162.2) fun r1163 =>
                            bnd (oExtract r1163.1 0 r1163.2) fun r1164 =>
                            bnd (oExtract r1163.1 1 r1164.2) fun r1165 =>
                            bnd (oMv r1164.1 r1165.2) fun r1166 =>
                            bnd (oMv r1165.1 r1166.2) fun r1167 =>
                            bnd (oMv r1167.1 r1167.2) fun r1168 =>
                            bnd (oBin Tryd.prog .eql 28 false true r1168.1 (.int .i64 0) r1168.2) fun r1169 =>
                            vIf r1169.1 (
                              bnd (oMv r31.1 r1169.2) fun r1170 =>
                              bnd (oMv r1166.1 r1170.2) fun r1171 =>
                              bnd (oBuildSlice Tryd.prog 38 1 [(0, r1171.1)] r1171.2) fun r1172 =>
                              bnd (aAppend Tryd.prog r1172.2 #[38, 38] r1170.1 r1172.1) fun r1173 =>
                              bnd (oMv r1173.1 r1173.2) fun r1174 =>
                              bnd (oMv r1174.1 r1174.2) fun r1175 =>
                              bnd (oMv r1175.1 r1175.2) fun r1176 =>
                              bnd (oMv (.int .i64 0) r1176.2) fun r1177 =>
                              oRes Tryd.prog [(r1176.1, none), (r1177.1, none)] r1177.2) (
                              bnd (oMv r31.1 r1169.2) fun r1178 =>
                              bnd (oMv r1178.1 r1178.2) fun r1179 =>
                              bnd (oMv (.int .i64 0) r1179.2) fun r1180 =>
                              oRes Tryd.prog [(r1179.1, none), (r1180.1, none)] r1180.2)) (
                            bnd (oMv r31.1 r1159.2) fun r1181 =>
                            bnd (oMv r1181.1 r1181.2) fun r1182 =>
                            bnd (oMv (.int .i64 0) r1182.2) fun r1183 =>
                            oRes Tryd.prog [(r1182.1, none), (r1183.1, none)] r1183.2)))))))))))))
theorem plans_Locks_eq (call : Eng.Callee) (x0 x1 : Value) (W : AW) : kFun Tryd.prog call 125 (cod 18) (rss 18) [x0, x1] W = plans_Locks call x0 x1 W := by kernel_rfl
theorem plans_Locks_om {x0 x1 : Value} {W : AW} {r : Value × AW} (h : plans_Locks omS x0 x1 W = some r) : omS (.func (.func 18) #[] #[]) [x0, x1] W = some (gc W r) := om_of (nt := 125) (n := 2) (by kernel_rfl) (by kernel_rfl) rfl ((plans_Locks_eq omS x0 x1 W).trans h)
noncomputable def plans_Steps (call : Eng.Callee) (x0 x1 : Value) (W : AW) : Option (Value × AW) :=
  bnd (oBox x0 W) fun r1 =>
  bnd (oBox x1 r1.2) fun r2 =>
  bnd (oMv (.int .i64 0) r2.2) fun r3 =>
  bnd (oMv (.int .i64 0) r3.2) fun r4 =>
  bnd (ldA 4 r1.1 r4.2) fun r5 =>
  bnd (ldA 12 r2.1 r5.2) fun r6 =>
  bnd (call (fnV 18) [r5.1, r6.1] r6.2) fun r7 =>
  bnd (oMv r7.1 r7.2) fun r8 =>
  bnd (oExtract r8.1 0 r8.2) fun r9 =>
  bnd (oExtract r8.1 1 r9.2) fun r10 =>
  bnd (oMv r9.1 r10.2) fun r11 =>
  bnd (oMv r10.1 r11.2) fun r12 =>
  bnd (oMv r12.1 r12.2) fun r13 =>
  bnd (oBin Tryd.prog .neq 28 false true r13.1 (.int .i64 0) r13.2) fun r14 =>
  vIf r14.1 (
    bnd (oMv r12.1 r14.2) fun r15 =>
    bnd (oMv (.int .i64 0) r15.2) fun r16 =>
    bnd (oMv r15.1 r16.2) fun r17 =>
    oRes Tryd.prog [(r16.1, none), (r17.1, none)] r17.2) (
    bnd (oMv r11.1 r14.2) fun r18 =>
    bnd (oBuiltin Tryd.prog .len #[38] 3 #[false] [r18.1] r18.2) fun r19 =>
    bnd (oBin Tryd.prog .mul 3 true false (.int .i64 2) r19.1 r19.2) fun r20 =>
    bnd (oBin Tryd.prog .add 3 false true r20.1 (.int .i64 1) r20.2) fun r21 =>
    bnd (oMv r21.1 r21.2) fun r22 =>
    bnd (oMv (.int .i64 0) r22.2) fun r23 =>
    oRes Tryd.prog [(r22.1, none), (r23.1, none)] r23.2)
theorem plans_Steps_eq (call : Eng.Callee) (x0 x1 : Value) (W : AW) : kFun Tryd.prog call 21 (cod 21) (rss 21) [x0, x1] W = plans_Steps call x0 x1 W := by kernel_rfl
theorem plans_Steps_om {x0 x1 : Value} {W : AW} {r : Value × AW} (h : plans_Steps omS x0 x1 W = some r) : omS (.func (.func 21) #[] #[]) [x0, x1] W = some (gc W r) := om_of (nt := 21) (n := 2) (by kernel_rfl) (by kernel_rfl) rfl ((plans_Steps_eq omS x0 x1 W).trans h)
noncomputable def plans_Step_Y1a (call : Eng.Callee) (R : Nat → Value) (W : AW) : Option LT :=
  bnd (oMv (R 24) W) fun r22 =>
  bnd (oAlloc Tryd.prog 46 r22.2) fun r23 =>
  bnd (stV 2 r23.1 (R 25) r23.2) fun r24 =>
  some (X.normal, (rput (rput R (some 10) r22.1) (some 11) r23.1), r24.2)
theorem plans_Step_Y1a_eq (call : Eng.Callee) (R : Nat → Value) (W : AW) : kCode Tryd.prog call false 31 (cAt [1, 1, 1, 0, 1, 0, 0] (cod 23)) LT R W ret3 = plans_Step_Y1a call R W := by kernel_rfl
noncomputable def plans_Step_Y1b (call : Eng.Callee) (R : Nat → Value) (W : AW) : Option LT :=
  bnd (oMv (R 10) W) fun r25 =>
  bnd (ldC (R 5) r25.2) fun r26 =>
  bnd (oBin Tryd.prog .eql 3 false false r25.1 r26.1 r26.2) fun r27 =>
  vIf r27.1 (
    bnd (ldA 2 (R 11) r27.2) fun r28 =>
    bnd (stV 2 (R 6) r28.1 r28.2) fun r29 =>
    bnd (stV 1 (R 7) (.int .i64 0) r29.2) fun r30 =>
    some (X.ret, (rput (rput (rput (rput R (some 26) r25.1) (some 27) r26.1) (some 28) r27.1) (some 29) r28.1), r30.2)) (
    some (X.normal, (rput (rput (rput R (some 26) r25.1) (some 27) r26.1) (some 28) r27.1), r27.2))
theorem plans_Step_Y1b_eq (call : Eng.Callee) (R : Nat → Value) (W : AW) : kCode Tryd.prog call false 31 (cAt [1, 1, 1, 0, 1, 0, 1] (cod 23)) LT R W ret3 = plans_Step_Y1b call R W := by kernel_rfl
noncomputable def plans_Step (call : Eng.Callee) (x0 x1 x2 : Value) (W : AW) : Option (Value × AW) :=
  bnd (oBox x0 W) fun r1 =>
  bnd (oBox x1 r1.2) fun r2 =>
  bnd (oBox x2 r2.2) fun r3 =>
  bnd (oAlloc Tryd.prog 46 r3.2) fun r4 =>
  bnd (oAlloc Tryd.prog 28 r4.2) fun r5 =>
  bnd (ldA 4 r1.1 r5.2) fun r6 =>
  bnd (ldA 12 r2.1 r6.2) fun r7 =>
  bnd (call (fnV 18) [r6.1, r7.1] r7.2) fun r8 =>
  bnd (oMv r8.1 r8.2) fun r9 =>
  bnd (oExtract r9.1 0 r9.2) fun r10 =>
  bnd (oExtract r9.1 1 r10.2) fun r11 =>
  bnd (oMv r10.1 r11.2) fun r12 =>
  bnd (oMv r11.1 r12.2) fun r13 =>
  bnd (oMv r13.1 r13.2) fun r14 =>
  bnd (oBin Tryd.prog .neq 28 false true r14.1 (.int .i64 0) r14.2) fun r15 =>
  vIf r15.1 (
    bnd (oBuild Tryd.prog 46 [] r15.2) fun r16 =>
    bnd (oMv r13.1 r16.2) fun r17 =>
    bnd (stV 2 r4.1 r16.1 r17.2) fun r18 =>
    bnd (stV 1 r5.1 r17.1 r18.2) fun r19 =>
    oRes Tryd.prog [(r4.1, some 46), (r5.1, some 28)] r19.2) (
    bnd (oMv r12.1 r15.2) fun r20 =>
    bnd (call (fnV 50) [r20.1] r20.2) fun r21 =>
    bnd (oRange call r21.1 (.loop .ready none (rput (rput (rput (rput (rput (rput (rput (rput (rput (rput (rput (rput (rput (rput (rput (rput (rput (argGo 0 [x0, x1, x2] PlanTab.blank) (some 3) r1.1) (some 4) r2.1) (some 5) r3.1) (some 6) r4.1) (some 7) r5.1) (some 13) r6.1) (some 14) r7.1) (some 15) r8.1) (some 12) r9.1) (some 16) r10.1) (some 17) r11.1) (some 8) r12.1) (some 9) r13.1) (some 18) r14.1) (some 19) r15.1) (some 22) r20.1) (some 23) r21.1) 31 #[24, 25] (cAt [1, 1, 1, 0, 1, 0, 0] (cod 23)) (cAt [1, 1, 1, 0, 1, 0, 1] (cod 23))) r21.2) fun r31 =>
    kNorm r31.1 (
      bnd (oBuild Tryd.prog 46 [] r31.2) fun r32 =>
      bnd (stV 2 r4.1 r32.1 r32.2) fun r33 =>
      bnd (stV 1 r5.1 (.int .i64 7) r33.2) fun r34 =>
      oRes Tryd.prog [(r4.1, some 46), (r5.1, some 28)] r34.2) (kRetX r31.1 (
      oRes Tryd.prog [(r4.1, some 46), (r5.1, some 28)] r31.2)))
theorem plans_Step_eq (call : Eng.Callee) (x0 x1 x2 : Value) (W : AW) : kFun Tryd.prog call 31 (cod 23) (rss 23) [x0, x1, x2] W = plans_Step call x0 x1 x2 W := by kernel_rfl
theorem plans_Step_om {x0 x1 x2 : Value} {W : AW} {r : Value × AW} (h : plans_Step omS x0 x1 x2 W = some r) : omS (.func (.func 23) #[] #[]) [x0, x1, x2] W = some (gc W r) := om_of (nt := 31) (n := 3) (by kernel_rfl) (by kernel_rfl) rfl ((plans_Step_eq omS x0 x1 x2 W).trans h)
noncomputable def plans_steps (call : Eng.Callee) (x0 : Value) (W : AW) : Option (Value × AW) :=
  bnd (oBox x0 W) fun r1 =>
  bnd (oMv .nilFunc r1.2) fun r2 =>
  bnd (oMkFunc (.func 66) #[] #[r1.1] r2.2) fun r3 =>
  bnd (oMv r3.1 r3.2) fun r4 =>
  oRes Tryd.prog [(r4.1, none)] r4.2
theorem plans_steps_eq (call : Eng.Callee) (x0 : Value) (W : AW) : kFun Tryd.prog call 4 (cod 50) (rss 50) [x0] W = plans_steps call x0 W := by kernel_rfl
theorem plans_steps_om {x0 : Value} {W : AW} {r : Value × AW} (h : plans_steps omS x0 W = some r) : omS (.func (.func 50) #[] #[]) [x0] W = some (gc W r) := om_of (nt := 4) (n := 1) (by kernel_rfl) (by kernel_rfl) rfl ((plans_steps_eq omS x0 W).trans h)
noncomputable def plans_steps_1_L1 (call : Eng.Callee) (R : Nat → Value) (W : AW) : Option LT :=
  bnd (oBin Tryd.prog .lss 3 false false (R 11) (R 10) W) fun r8 =>
  vIf r8.1 (
    bnd (oMv (R 11) r8.2) fun r9 =>
    bnd (oMv r9.1 r9.2) fun r10 =>
    bnd (oBuild Tryd.prog 46 [(0, (.int .i64 2))] r10.2) fun r11 =>
    bnd (oAlloc Tryd.prog 46 r11.2) fun r12 =>
    bnd (stV 2 r12.1 r11.1 r12.2) fun r13 =>
    bnd (oMv r10.1 r13.2) fun r14 =>
    bnd (oMv (R 3) r14.2) fun r15 =>
    bnd (oBin Tryd.prog .lss 3 false false r14.1 r15.1 r15.2) fun r16 =>
    bnd (oMv r16.1 r16.2) fun r17 =>
    vIf r17.1 (
      bnd (ldC (R 1) r17.2) fun r18 =>
      bnd (oMv r10.1 r18.2) fun r19 =>
      bnd (ixS 1 r18.1 r19.1 r19.2) fun r20 =>
      bnd (ldC r20.1 r20.2) fun r21 =>
      bnd (oBuild Tryd.prog 46 [(0, (.int .i64 1)), (1, r21.1)] r21.2) fun r22 =>
      bnd (stV 2 r12.1 r22.1 r22.2) fun r23 =>
      bnd (oMv (R 0) r23.2) fun r24 =>
      bnd (oMv r10.1 r24.2) fun r25 =>
      bnd (ldA 2 r12.1 r25.2) fun r26 =>
      bnd (call r24.1 [r25.1, r26.1] r26.2) fun r27 =>
      bnd (oUn Tryd.prog .not r27.1 r27.2) fun r28 =>
      vIf r28.1 (
        some (X.ret, (rput (rput (rput (rput (rput (rput (rput (rput (rput (rput (rput (rput (rput (rput (rput (rput (rput (rput (rput R (some 12) r8.1) (some 13) r9.1) (some 4) r10.1) (some 14) r11.1) (some 5) r12.1) (some 16) r14.1) (some 17) r15.1) (some 18) r16.1) (some 15) r17.1) (some 19) r18.1) (some 20) r19.1) (some 21) r20.1) (some 22) r21.1) (some 23) r22.1) (some 36) r24.1) (some 37) r25.1) (some 38) r26.1) (some 39) r27.1) (some 40) r28.1), r28.2)) (
        bnd (oBin Tryd.prog .add 3 false true (R 11) (.int .i64 1) r28.2) fun r29 =>
        bnd (oMv r29.1 r29.2) fun r30 =>
        some (X.normal, (rput (rput (rput (rput (rput (rput (rput (rput (rput (rput (rput (rput (rput (rput (rput (rput (rput (rput (rput (rput (rput R (some 12) r8.1) (some 13) r9.1) (some 4) r10.1) (some 14) r11.1) (some 5) r12.1) (some 16) r14.1) (some 17) r15.1) (some 18) r16.1) (some 15) r17.1) (some 19) r18.1) (some 20) r19.1) (some 21) r20.1) (some 22) r21.1) (some 23) r22.1) (some 36) r24.1) (some 37) r25.1) (some 38) r26.1) (some 39) r27.1) (some 40) r28.1) (some 41) r29.1) (some 11) r30.1), r30.2))) (
      bnd (oMv r10.1 r17.2) fun r31 =>
      bnd (oMv (R 3) r31.2) fun r32 =>
      bnd (oBin Tryd.prog .gtr 3 false false r31.1 r32.1 r32.2) fun r33 =>
      bnd (oMv r33.1 r33.2) fun r34 =>
      vIf r34.1 (
        bnd (ldC (R 1) r34.2) fun r35 =>
        bnd (oMv (R 3) r35.2) fun r36 =>
        bnd (oBin Tryd.prog .mul 3 true false (.int .i64 2) r36.1 r36.2) fun r37 =>
        bnd (oMv r10.1 r37.2) fun r38 =>
        bnd (oBin Tryd.prog .sub 3 false false r37.1 r38.1 r38.2) fun r39 =>
        bnd (ixS 1 r35.1 r39.1 r39.2) fun r40 =>
        bnd (ldC r40.1 r40.2) fun r41 =>
        bnd (oBuild Tryd.prog 46 [(0, (.int .i64 3)), (1, r41.1)] r41.2) fun r42 =>
        bnd (stV 2 r12.1 r42.1 r42.2) fun r43 =>
        bnd (oMv (R 0) r43.2) fun r44 =>
        bnd (oMv r10.1 r44.2) fun r45 =>
        bnd (ldA 2 r12.1 r45.2) fun r46 =>
        bnd (call r44.1 [r45.1, r46.1] r46.2) fun r47 =>
        bnd (oUn Tryd.prog .not r47.1 r47.2) fun r48 =>
        vIf r48.1 (
          some (X.ret, (rput (rput (rput (rput (rput (rput (rput (rput (rput (rput (rput (rput (rput (rput (rput (rput (rput (rput (rput (rput (rput (rput (rput (rput (rput (rput R (some 12) r8.1) (some 13) r9.1) (some 4) r10.1) (some 14) r11.1) (some 5) r12.1) (some 16) r14.1) (some 17) r15.1) (some 18) r16.1) (some 15) r17.1) (some 25) r31.1) (some 26) r32.1) (some 27) r33.1) (some 24) r34.1) (some 28) r35.1) (some 29) r36.1) (some 30) r37.1) (some 31) r38.1) (some 32) r39.1) (some 33) r40.1) (some 34) r41.1) (some 35) r42.1) (some 36) r44.1) (some 37) r45.1) (some 38) r46.1) (some 39) r47.1) (some 40) r48.1), r48.2)) (
          bnd (oBin Tryd.prog .add 3 false true (R 11) (.int .i64 1) r48.2) fun r49 =>
          bnd (oMv r49.1 r49.2) fun r50 =>
          some (X.normal, (rput (rput (rput (rput (rput (rput (rput (rput (rput (rput (rput (rput (rput (rput (rput (rput (rput (rput (rput (rput (rput (rput (rput (rput (rput (rput (rput (rput R (some 12) r8.1) (some 13) r9.1) (some 4) r10.1) (some 14) r11.1) (some 5) r12.1) (some 16) r14.1) (some 17) r15.1) (some 18) r16.1) (some 15) r17.1) (some 25) r31.1) (some 26) r32.1) (some 27) r33.1) (some 24) r34.1) (some 28) r35.1) (some 29) r36.1) (some 30) r37.1) (some 31) r38.1) (some 32) r39.1) (some 33) r40.1) (some 34) r41.1) (some 35) r42.1) (some 36) r44.1) (some 37) r45.1) (some 38) r46.1) (some 39) r47.1) (some 40) r48.1) (some 41) r49.1) (some 11) r50.1), r50.2))) (
        bnd (oMv (R 0) r34.2) fun r51 =>
        bnd (oMv r10.1 r51.2) fun r52 =>
        bnd (ldA 2 r12.1 r52.2) fun r53 =>
        bnd (call r51.1 [r52.1, r53.1] r53.2) fun r54 =>
        bnd (oUn Tryd.prog .not r54.1 r54.2) fun r55 =>
        vIf r55.1 (
          some (X.ret, (rput (rput (rput (rput (rput (rput (rput (rput (rput (rput (rput (rput (rput (rput (rput (rput (rput (rput R (some 12) r8.1) (some 13) r9.1) (some 4) r10.1) (some 14) r11.1) (some 5) r12.1) (some 16) r14.1) (some 17) r15.1) (some 18) r16.1) (some 15) r17.1) (some 25) r31.1) (some 26) r32.1) (some 27) r33.1) (some 24) r34.1) (some 36) r51.1) (some 37) r52.1) (some 38) r53.1) (some 39) r54.1) (some 40) r55.1), r55.2)) (
          bnd (oBin Tryd.prog .add 3 false true (R 11) (.int .i64 1) r55.2) fun r56 =>
          bnd (oMv r56.1 r56.2) fun r57 =>
          some (X.normal, (rput (rput (rput (rput (rput (rput (rput (rput (rput (rput (rput (rput (rput (rput (rput (rput (rput (rput (rput (rput R (some 12) r8.1) (some 13) r9.1) (some 4) r10.1) (some 14) r11.1) (some 5) r12.1) (some 16) r14.1) (some 17) r15.1) (some 18) r16.1) (some 15) r17.1) (some 25) r31.1) (some 26) r32.1) (some 27) r33.1) (some 24) r34.1) (some 36) r51.1) (some 37) r52.1) (some 38) r53.1) (some 39) r54.1) (some 40) r55.1) (some 41) r56.1) (some 11) r57.1), r57.2))))) (
    some (X.exit 0, (rput R (some 12) r8.1), r8.2))
noncomputable def plans_steps_1 (call : Eng.Callee) (x0 x1 : Value) (W : AW) : Option (Value × AW) :=
  bnd (ldC x1 W) fun r1 =>
  bnd (oBuiltin Tryd.prog .len #[38] 3 #[false] [r1.1] r1.2) fun r2 =>
  bnd (oMv r2.1 r2.2) fun r3 =>
  bnd (oMv r3.1 r3.2) fun r4 =>
  bnd (oBin Tryd.prog .mul 3 true false (.int .i64 2) r4.1 r4.2) fun r5 =>
  bnd (oBin Tryd.prog .add 3 false true r5.1 (.int .i64 1) r5.2) fun r6 =>
  bnd (oMv (.int .i64 0) r6.2) fun r7 =>
  bnd (loopO (plans_steps_1_L1 call) (rput (rput (rput (rput (rput (rput (rput (argGo 0 [x0, x1] PlanTab.blank) (some 6) r1.1) (some 7) r2.1) (some 3) r3.1) (some 8) r4.1) (some 9) r5.1) (some 10) r6.1) (some 11) r7.1) r7.2) fun r58 =>
  kExit 0 r58.1 (
    oRes Tryd.prog [] r58.2.2) (kRetX r58.1 (
    oRes Tryd.prog [] r58.2.2))
theorem plans_steps_1_eq (call : Eng.Callee) (x0 x1 : Value) (W : AW) : kFun Tryd.prog call 42 (cod 66) (rss 66) [x0, x1] W = plans_steps_1 call x0 x1 W := by kernel_rfl
theorem plans_steps_1_om {x0 x1 : Value} {W : AW} {r : Value × AW} (h : plans_steps_1 omS x0 x1 W = some r) : omS (.func (.func 66) #[] #[x1]) [x0] W = some (gc W r) := om_of (nt := 42) (n := 2) (by kernel_rfl) (by kernel_rfl) rfl ((plans_steps_1_eq omS x0 x1 W).trans h)
noncomputable def law22_PlansFree_L1 (call : Eng.Callee) (R : Nat → Value) (W : AW) : Option LT :=
  bnd (oMv (R 10) W) fun r22 =>
  bnd (oMv (R 1) r22.2) fun r23 =>
  bnd (oBuiltin Tryd.prog .len #[50] 3 #[false] [r23.1] r23.2) fun r24 =>
  bnd (oBin Tryd.prog .lss 3 false false r22.1 r24.1 r24.2) fun r25 =>
  vIf r25.1 (
    bnd (ldA 4 (R 3) r25.2) fun r26 =>
    bnd (oMv (R 1) r26.2) fun r27 =>
    bnd (oMv (R 10) r27.2) fun r28 =>
    bnd (ixS 12 r27.1 r28.1 r28.2) fun r29 =>
    bnd (ldA 12 r29.1 r29.2) fun r30 =>
    bnd (call (fnV 21) [r26.1, r30.1] r30.2) fun r31 =>
    bnd (oMv r31.1 r31.2) fun r32 =>
    bnd (oExtract r32.1 0 r32.2) fun r33 =>
    bnd (oExtract r32.1 1 r33.2) fun r34 =>
    bnd (oMv r33.1 r34.2) fun r35 =>
    bnd (oMv r34.1 r35.2) fun r36 =>
    bnd (oMv r36.1 r36.2) fun r37 =>
    bnd (oBin Tryd.prog .neq 28 false true r37.1 (.int .i64 0) r37.2) fun r38 =>
    vIf r38.1 (
      bnd (call (fnV 16) [] r38.2) fun r39 =>
      bnd (oMv r39.1 r39.2) fun r40 =>
      some (X.ret, (rput (rput (rput (rput (rput (rput (rput (rput (rput (rput (rput (rput (rput (rput (rput (rput (rput (rput (rput R (some 36) r22.1) (some 37) r23.1) (some 38) r24.1) (some 39) r25.1) (some 43) r26.1) (some 44) r27.1) (some 45) r28.1) (some 46) r29.1) (some 47) r30.1) (some 48) r31.1) (some 42) r32.1) (some 49) r33.1) (some 50) r34.1) (some 11) r35.1) (some 12) r36.1) (some 51) r37.1) (some 52) r38.1) (some 53) r39.1) (some 6) r40.1), r40.2)) (
      bnd (oMv (R 8) r38.2) fun r41 =>
      bnd (oMv (R 10) r41.2) fun r42 =>
      bnd (oMv r35.1 r42.2) fun r43 =>
      bnd (ixS 1 r41.1 r42.1 r43.2) fun r44 =>
      bnd (stV 1 r44.1 r43.1 r44.2) fun r45 =>
      bnd (oMv (R 9) r45.2) fun r46 =>
      bnd (oMv r35.1 r46.2) fun r47 =>
      bnd (oBin Tryd.prog .add 3 false false r46.1 r47.1 r47.2) fun r48 =>
      bnd (oMv r48.1 r48.2) fun r49 =>
      bnd (oMv (R 10) r49.2) fun r50 =>
      bnd (oBin Tryd.prog .add 3 false true r50.1 (.int .i64 1) r50.2) fun r51 =>
      bnd (oMv r51.1 r51.2) fun r52 =>
      some (X.normal, (rput (rput (rput (rput (rput (rput (rput (rput (rput (rput (rput (rput (rput (rput (rput (rput (rput (rput (rput (rput (rput (rput (rput (rput (rput (rput (rput (rput R (some 36) r22.1) (some 37) r23.1) (some 38) r24.1) (some 39) r25.1) (some 43) r26.1) (some 44) r27.1) (some 45) r28.1) (some 46) r29.1) (some 47) r30.1) (some 48) r31.1) (some 42) r32.1) (some 49) r33.1) (some 50) r34.1) (some 11) r35.1) (some 12) r36.1) (some 51) r37.1) (some 52) r38.1) (some 54) r41.1) (some 55) r42.1) (some 56) r43.1) (some 57) r44.1) (some 58) r46.1) (some 59) r47.1) (some 60) r48.1) (some 9) r49.1) (some 40) r50.1) (some 41) r51.1) (some 10) r52.1), r52.2))) (
    some (X.exit 0, (rput (rput (rput (rput R (some 36) r22.1) (some 37) r23.1) (some 38) r24.1) (some 39) r25.1), r25.2))
noncomputable def law22_PlansFree_L2_L3 (call : Eng.Callee) (R : Nat → Value) (W : AW) : Option LT :=
  bnd (oMv (R 16) W) fun r61 =>
  bnd (oMv (R 1) r61.2) fun r62 =>
  bnd (oBuiltin Tryd.prog .len #[50] 3 #[false] [r62.1] r62.2) fun r63 =>
  bnd (oBin Tryd.prog .lss 3 false false r61.1 r63.1 r63.2) fun r64 =>
  vIf r64.1 (
    bnd (oMv (R 7) r64.2) fun r65 =>
    bnd (oMv (R 16) r65.2) fun r66 =>
    bnd (ixS 1 r65.1 r66.1 r66.2) fun r67 =>
    bnd (ldC r67.1 r67.2) fun r68 =>
    bnd (oMv (R 8) r68.2) fun r69 =>
    bnd (oMv (R 16) r69.2) fun r70 =>
    bnd (ixS 1 r69.1 r70.1 r70.2) fun r71 =>
    bnd (ldC r71.1 r71.2) fun r72 =>
    bnd (oBin Tryd.prog .geq 3 false false r68.1 r72.1 r72.2) fun r73 =>
    vIf r73.1 (
      bnd (oMv (R 16) r73.2) fun r74 =>
      bnd (oBin Tryd.prog .add 3 false true r74.1 (.int .i64 1) r74.2) fun r75 =>
      bnd (oMv r75.1 r75.2) fun r76 =>
      some (X.normal, (rput (rput (rput (rput (rput (rput (rput (rput (rput (rput (rput (rput (rput (rput (rput (rput R (some 66) r61.1) (some 67) r62.1) (some 68) r63.1) (some 69) r64.1) (some 72) r65.1) (some 73) r66.1) (some 74) r67.1) (some 75) r68.1) (some 76) r69.1) (some 77) r70.1) (some 78) r71.1) (some 79) r72.1) (some 80) r73.1) (some 70) r74.1) (some 71) r75.1) (some 16) r76.1), r76.2)) (
      bnd (ldA 4 (R 3) r73.2) fun r77 =>
      bnd (oMv (R 1) r77.2) fun r78 =>
      bnd (oMv (R 16) r78.2) fun r79 =>
      bnd (ixS 12 r78.1 r79.1 r79.2) fun r80 =>
      bnd (ldA 12 r80.1 r80.2) fun r81 =>
      bnd (oMv (R 7) r81.2) fun r82 =>
      bnd (oMv (R 16) r82.2) fun r83 =>
      bnd (ixS 1 r82.1 r83.1 r83.2) fun r84 =>
      bnd (ldC r84.1 r84.2) fun r85 =>
      bnd (oAlloc Tryd.prog 46 r85.2) fun r86 =>
      bnd (call (fnV 23) [r77.1, r81.1, r85.1] r86.2) fun r87 =>
      bnd (oMv r87.1 r87.2) fun r88 =>
      bnd (oExtract r88.1 0 r88.2) fun r89 =>
      bnd (oExtract r88.1 1 r89.2) fun r90 =>
      bnd (stV 2 r86.1 r89.1 r90.2) fun r91 =>
      bnd (oMv r90.1 r91.2) fun r92 =>
      bnd (oMv r92.1 r92.2) fun r93 =>
      bnd (oBin Tryd.prog .neq 28 false true r93.1 (.int .i64 0) r93.2) fun r94 =>
      bnd (oMv r94.1 r94.2) fun r95 =>
      bnd (bIf (wnt r95.1 false) (faO 1 r86.1 r95.2) (some (undef, r95.2))) fun r96 =>
      bnd (bIf (wnt r95.1 false) (ldC r96.1 r96.2) (some (undef, r96.2))) fun r97 =>
      bnd (bIf (wnt r95.1 false) (oBin Tryd.prog .lss 3 false true r97.1 (.int .i64 0) r97.2) (some (undef, r97.2))) fun r98 =>
      bnd (oPick r95.1 (.bool true) r98.1 r98.2) fun r99 =>
      bnd (oMv r99.1 r99.2) fun r100 =>
      bnd (bIf (wnt r100.1 false) (faO 1 r86.1 r100.2) (some (undef, r100.2))) fun r101 =>
      bnd (bIf (wnt r100.1 false) (ldC r101.1 r101.2) (some (undef, r101.2))) fun r102 =>
      bnd (bIf (wnt r100.1 false) (oBin Tryd.prog .geq 3 false true r102.1 (.int .i64 64) r102.2) (some (undef, r102.2))) fun r103 =>
      bnd (oPick r100.1 (.bool true) r103.1 r103.2) fun r104 =>
      vIf r104.1 (
        bnd (oMv (.bool false) r104.2) fun r105 =>
        some (X.ret, (rput (rput (rput (rput (rput (rput (rput (rput (rput (rput (rput (rput (rput (rput (rput (rput (rput (rput (rput (rput (rput (rput (rput (rput (rput (rput (rput (rput (rput (rput (rput (rput (rput (rput (rput (rput (rput (rput (rput (rput (rput R (some 66) r61.1) (some 67) r62.1) (some 68) r63.1) (some 69) r64.1) (some 72) r65.1) (some 73) r66.1) (some 74) r67.1) (some 75) r68.1) (some 76) r69.1) (some 77) r70.1) (some 78) r71.1) (some 79) r72.1) (some 80) r73.1) (some 82) r77.1) (some 83) r78.1) (some 84) r79.1) (some 85) r80.1) (some 86) r81.1) (some 87) r82.1) (some 88) r83.1) (some 89) r84.1) (some 90) r85.1) (some 17) r86.1) (some 91) r87.1) (some 81) r88.1) (some 92) r89.1) (some 93) r90.1) (some 18) r92.1) (some 94) r93.1) (some 95) r94.1) (some 96) r95.1) (some 97) r96.1) (some 98) r97.1) (some 99) r98.1) (some 100) r99.1) (some 101) r100.1) (some 102) r101.1) (some 103) r102.1) (some 104) r103.1) (some 105) r104.1) (some 6) r105.1), r105.2)) (
        bnd (faO 0 r86.1 r104.2) fun r106 =>
        bnd (ldC r106.1 r106.2) fun r107 =>
        bnd (oBin Tryd.prog .neq 3 false true r107.1 (.int .i64 1) r107.2) fun r108 =>
        bnd (oMv r108.1 r108.2) fun r109 =>
        bnd (bIf (wnt r109.1 false) (faO 1 r86.1 r109.2) (some (undef, r109.2))) fun r110 =>
        bnd (bIf (wnt r109.1 false) (ldC r110.1 r110.2) (some (undef, r110.2))) fun r111 =>
        bnd (bIf (wnt r109.1 false) (ixA 64 1 (R 13) r111.1 r111.2) (some (undef, r111.2))) fun r112 =>
        bnd (bIf (wnt r109.1 false) (ldC r112.1 r112.2) (some (undef, r112.2))) fun r113 =>
        bnd (bIf (wnt r109.1 false) (oBin Tryd.prog .eql 3 false true r113.1 (.int .i64 0) r113.2) (some (undef, r113.2))) fun r114 =>
        bnd (oPick r109.1 (.bool true) r114.1 r114.2) fun r115 =>
        vIf r115.1 (
          bnd (oMv (R 15) r115.2) fun r116 =>
          bnd (oMv (R 16) r116.2) fun r117 =>
          bnd (oBuildSlice Tryd.prog 38 1 [(0, r117.1)] r117.2) fun r118 =>
          bnd (aAppend Tryd.prog r118.2 #[38, 38] r116.1 r118.1) fun r119 =>
          bnd (oMv r119.1 r119.2) fun r120 =>
          bnd (oMv (R 16) r120.2) fun r121 =>
          bnd (oBin Tryd.prog .add 3 false true r121.1 (.int .i64 1) r121.2) fun r122 =>
          bnd (oMv r122.1 r122.2) fun r123 =>
          some (X.normal, (rput (rput (rput (rput (rput (rput (rput (rput (rput (rput (rput (rput (rput (rput (rput (rput (rput (rput (rput (rput (rput (rput (rput (rput (rput (rput (rput (rput (rput (rput (rput (rput (rput (rput (rput (rput (rput (rput (rput (rput (rput (rput (rput (rput (rput (rput (rput (rput (rput (rput (rput (rput (rput (rput (rput (rput (rput (rput R (some 66) r61.1) (some 67) r62.1) (some 68) r63.1) (some 69) r64.1) (some 72) r65.1) (some 73) r66.1) (some 74) r67.1) (some 75) r68.1) (some 76) r69.1) (some 77) r70.1) (some 78) r71.1) (some 79) r72.1) (some 80) r73.1) (some 82) r77.1) (some 83) r78.1) (some 84) r79.1) (some 85) r80.1) (some 86) r81.1) (some 87) r82.1) (some 88) r83.1) (some 89) r84.1) (some 90) r85.1) (some 17) r86.1) (some 91) r87.1) (some 81) r88.1) (some 92) r89.1) (some 93) r90.1) (some 18) r92.1) (some 94) r93.1) (some 95) r94.1) (some 96) r95.1) (some 97) r96.1) (some 98) r97.1) (some 99) r98.1) (some 100) r99.1) (some 101) r100.1) (some 102) r101.1) (some 103) r102.1) (some 104) r103.1) (some 105) r104.1) (some 106) r106.1) (some 107) r107.1) (some 108) r108.1) (some 109) r109.1) (some 110) r110.1) (some 111) r111.1) (some 112) r112.1) (some 113) r113.1) (some 114) r114.1) (some 115) r115.1) (some 116) r116.1) (some 117) r117.1) (some 118) r118.1) (some 119) r119.1) (some 15) r120.1) (some 70) r121.1) (some 71) r122.1) (some 16) r123.1), r123.2)) (
          bnd (oMv (R 16) r115.2) fun r124 =>
          bnd (oBin Tryd.prog .add 3 false true r124.1 (.int .i64 1) r124.2) fun r125 =>
          bnd (oMv r125.1 r125.2) fun r126 =>
          some (X.normal, (rput (rput (rput (rput (rput (rput (rput (rput (rput (rput (rput (rput (rput (rput (rput (rput (rput (rput (rput (rput (rput (rput (rput (rput (rput (rput (rput (rput (rput (rput (rput (rput (rput (rput (rput (rput (rput (rput (rput (rput (rput (rput (rput (rput (rput (rput (rput (rput (rput (rput (rput (rput (rput R (some 66) r61.1) (some 67) r62.1) (some 68) r63.1) (some 69) r64.1) (some 72) r65.1) (some 73) r66.1) (some 74) r67.1) (some 75) r68.1) (some 76) r69.1) (some 77) r70.1) (some 78) r71.1) (some 79) r72.1) (some 80) r73.1) (some 82) r77.1) (some 83) r78.1) (some 84) r79.1) (some 85) r80.1) (some 86) r81.1) (some 87) r82.1) (some 88) r83.1) (some 89) r84.1) (some 90) r85.1) (some 17) r86.1) (some 91) r87.1) (some 81) r88.1) (some 92) r89.1) (some 93) r90.1) (some 18) r92.1) (some 94) r93.1) (some 95) r94.1) (some 96) r95.1) (some 97) r96.1) (some 98) r97.1) (some 99) r98.1) (some 100) r99.1) (some 101) r100.1) (some 102) r101.1) (some 103) r102.1) (some 104) r103.1) (some 105) r104.1) (some 106) r106.1) (some 107) r107.1) (some 108) r108.1) (some 109) r109.1) (some 110) r110.1) (some 111) r111.1) (some 112) r112.1) (some 113) r113.1) (some 114) r114.1) (some 115) r115.1) (some 70) r124.1) (some 71) r125.1) (some 16) r126.1), r126.2))))) (
    some (X.exit 4, (rput (rput (rput (rput R (some 66) r61.1) (some 67) r62.1) (some 68) r63.1) (some 69) r64.1), r64.2))
noncomputable def law22_PlansFree_L2 (call : Eng.Callee) (R : Nat → Value) (W : AW) : Option LT :=
  bnd (oMv (R 14) W) fun r56 =>
  bnd (oMv (R 9) r56.2) fun r57 =>
  bnd (oBin Tryd.prog .lss 3 false false r56.1 r57.1 r57.2) fun r58 =>
  vIf r58.1 (
    bnd (oMv (.slice none 0 0) r58.2) fun r59 =>
    bnd (oMv (.int .i64 0) r59.2) fun r60 =>
    bnd (loopO (law22_PlansFree_L2_L3 call) (rput (rput (rput (rput (rput R (some 61) r56.1) (some 62) r57.1) (some 63) r58.1) (some 15) r59.1) (some 16) r60.1) r60.2) fun r127 =>
    kExit 4 r127.1 (
      bnd (oMv (r127.2.1 15) r127.2.2) fun r128 =>
      bnd (oBuiltin Tryd.prog .len #[38] 3 #[false] [r128.1] r128.2) fun r129 =>
      bnd (oBin Tryd.prog .eql 3 false true r129.1 (.int .i64 0) r129.2) fun r130 =>
      vIf r130.1 (
        bnd (oMv (.bool false) r130.2) fun r131 =>
        some (X.ret, (rput (rput (rput (rput r127.2.1 (some 120) r128.1) (some 121) r129.1) (some 122) r130.1) (some 6) r131.1), r131.2)) (
        bnd (oMv (r127.2.1 15) r130.2) fun r132 =>
        bnd (ixS 1 r132.1 (.int .i64 0) r132.2) fun r133 =>
        bnd (ldC r133.1 r133.2) fun r134 =>
        bnd (oMv r134.1 r134.2) fun r135 =>
        bnd (oMv (r127.2.1 14) r135.2) fun r136 =>
        bnd (oMv (r127.2.1 2) r136.2) fun r137 =>
        bnd (oBuiltin Tryd.prog .len #[51] 3 #[false] [r137.1] r137.2) fun r138 =>
        bnd (oBin Tryd.prog .lss 3 false false r136.1 r138.1 r138.2) fun r139 =>
        vIf r139.1 (
          bnd (oMv (r127.2.1 15) r139.2) fun r140 =>
          bnd (oMv (r127.2.1 2) r140.2) fun r141 =>
          bnd (oMv (r127.2.1 14) r141.2) fun r142 =>
          bnd (ixS 1 r141.1 r142.1 r142.2) fun r143 =>
          bnd (ldC r143.1 r143.2) fun r144 =>
          bnd (oConv Tryd.prog 5 3 r144.1 r144.2) fun r145 =>
          bnd (oMv (r127.2.1 15) r145.2) fun r146 =>
          bnd (oBuiltin Tryd.prog .len #[38] 3 #[false] [r146.1] r146.2) fun r147 =>
          bnd (oBin Tryd.prog .rem 3 false false r145.1 r147.1 r147.2) fun r148 =>
          bnd (ixS 1 r140.1 r148.1 r148.2) fun r149 =>
          bnd (ldC r149.1 r149.2) fun r150 =>
          bnd (oMv r150.1 r150.2) fun r151 =>
          bnd (ldA 4 (r127.2.1 3) r151.2) fun r152 =>
          bnd (oMv (r127.2.1 1) r152.2) fun r153 =>
          bnd (oMv r151.1 r153.2) fun r154 =>
          bnd (ixS 12 r153.1 r154.1 r154.2) fun r155 =>
          bnd (ldA 12 r155.1 r155.2) fun r156 =>
          bnd (oMv (r127.2.1 7) r156.2) fun r157 =>
          bnd (oMv r151.1 r157.2) fun r158 =>
          bnd (ixS 1 r157.1 r158.1 r158.2) fun r159 =>
          bnd (ldC r159.1 r159.2) fun r160 =>
          bnd (oAlloc Tryd.prog 46 r160.2) fun r161 =>
          bnd (call (fnV 23) [r152.1, r156.1, r160.1] r161.2) fun r162 =>
          bnd (oMv r162.1 r162.2) fun r163 =>
          bnd (oExtract r163.1 0 r163.2) fun r164 =>
          bnd (oExtract r163.1 1 r164.2) fun r165 =>
          bnd (stV 2 r161.1 r164.1 r165.2) fun r166 =>
          bnd (oMv r165.1 r166.2) fun r167 =>
          bnd (faO 0 r161.1 r167.2) fun r168 =>
          bnd (ldC r168.1 r168.2) fun r169 =>
          bnd (oBin Tryd.prog .eql 3 false true r169.1 (.int .i64 1) r169.2) fun r170 =>
          vIf r170.1 (
            bnd (faO 1 r161.1 r170.2) fun r171 =>
            bnd (ldC r171.1 r171.2) fun r172 =>
            bnd (oMv r151.1 r172.2) fun r173 =>
            bnd (oBin Tryd.prog .add 3 false true r173.1 (.int .i64 1) r173.2) fun r174 =>
            bnd (ixA 64 1 (r127.2.1 13) r172.1 r174.2) fun r175 =>
            bnd (stV 1 r175.1 r174.1 r175.2) fun r176 =>
            bnd (faO 0 r161.1 r176.2) fun r177 =>
            bnd (ldC r177.1 r177.2) fun r178 =>
            bnd (oBin Tryd.prog .eql 3 false true r178.1 (.int .i64 3) r178.2) fun r179 =>
            vIf r179.1 (
              bnd (faO 1 r161.1 r179.2) fun r180 =>
              bnd (ldC r180.1 r180.2) fun r181 =>
              bnd (ixA 64 1 (r127.2.1 13) r181.1 r181.2) fun r182 =>
              bnd (ldC r182.1 r182.2) fun r183 =>
              bnd (oMv r151.1 r183.2) fun r184 =>
              bnd (oBin Tryd.prog .add 3 false true r184.1 (.int .i64 1) r184.2) fun r185 =>
              bnd (oBin Tryd.prog .neq 3 false false r183.1 r185.1 r185.2) fun r186 =>
              vIf r186.1 (
                bnd (oMv (.bool false) r186.2) fun r187 =>
                some (X.ret, (rput (rput (rput (rput (rput (rput (rput (rput (rput (rput (rput (rput (rput (rput (rput (rput (rput (rput (rput (rput (rput (rput (rput (rput (rput (rput (rput (rput (rput (rput (rput (rput (rput (rput (rput (rput (rput (rput (rput (rput (rput (rput (rput (rput (rput (rput (rput (rput (rput (rput (rput (rput (rput (rput (rput (rput (rput r127.2.1 (some 120) r128.1) (some 121) r129.1) (some 122) r130.1) (some 123) r132.1) (some 124) r133.1) (some 125) r134.1) (some 19) r135.1) (some 126) r136.1) (some 127) r137.1) (some 128) r138.1) (some 129) r139.1) (some 130) r140.1) (some 131) r141.1) (some 132) r142.1) (some 133) r143.1) (some 134) r144.1) (some 135) r145.1) (some 136) r146.1) (some 137) r147.1) (some 138) r148.1) (some 139) r149.1) (some 140) r150.1) (some 19) r151.1) (some 142) r152.1) (some 143) r153.1) (some 144) r154.1) (some 145) r155.1) (some 146) r156.1) (some 147) r157.1) (some 148) r158.1) (some 149) r159.1) (some 150) r160.1) (some 20) r161.1) (some 151) r162.1) (some 141) r163.1) (some 152) r164.1) (some 153) r165.1) (some 21) r167.1) (some 154) r168.1) (some 155) r169.1) (some 156) r170.1) (some 157) r171.1) (some 158) r172.1) (some 159) r173.1) (some 160) r174.1) (some 161) r175.1) (some 162) r177.1) (some 163) r178.1) (some 164) r179.1) (some 165) r180.1) (some 166) r181.1) (some 167) r182.1) (some 168) r183.1) (some 169) r184.1) (some 170) r185.1) (some 171) r186.1) (some 6) r187.1), r187.2)) (
                bnd (faO 1 r161.1 r186.2) fun r188 =>
                bnd (ldC r188.1 r188.2) fun r189 =>
                bnd (ixA 64 1 (r127.2.1 13) r189.1 r189.2) fun r190 =>
                bnd (stV 1 r190.1 (.int .i64 0) r190.2) fun r191 =>
                bnd (oMv (r127.2.1 7) r191.2) fun r192 =>
                bnd (oMv r151.1 r192.2) fun r193 =>
                bnd (ixS 1 r192.1 r193.1 r193.2) fun r194 =>
                bnd (ldC r194.1 r194.2) fun r195 =>
                bnd (oBin Tryd.prog .add 3 false true r195.1 (.int .i64 1) r195.2) fun r196 =>
                bnd (ixS 1 r192.1 r193.1 r196.2) fun r197 =>
                bnd (stV 1 r197.1 r196.1 r197.2) fun r198 =>
                bnd (oMv (r127.2.1 14) r198.2) fun r199 =>
                bnd (oBin Tryd.prog .add 3 false true r199.1 (.int .i64 1) r199.2) fun r200 =>
                bnd (oMv r200.1 r200.2) fun r201 =>
                some (X.normal, (rput (rput (rput (rput (rput (rput (rput (rput (rput (rput (rput (rput (rput (rput (rput (rput (rput (rput (rput (rput (rput (rput (rput (rput (rput (rput (rput (rput (rput (rput (rput (rput (rput (rput (rput (rput (rput (rput (rput (rput (rput (rput (rput (rput (rput (rput (rput (rput (rput (rput (rput (rput (rput (rput (rput (rput (rput (rput (rput (rput (rput (rput (rput (rput (rput (rput (rput (rput r127.2.1 (some 120) r128.1) (some 121) r129.1) (some 122) r130.1) (some 123) r132.1) (some 124) r133.1) (some 125) r134.1) (some 19) r135.1) (some 126) r136.1) (some 127) r137.1) (some 128) r138.1) (some 129) r139.1) (some 130) r140.1) (some 131) r141.1) (some 132) r142.1) (some 133) r143.1) (some 134) r144.1) (some 135) r145.1) (some 136) r146.1) (some 137) r147.1) (some 138) r148.1) (some 139) r149.1) (some 140) r150.1) (some 19) r151.1) (some 142) r152.1) (some 143) r153.1) (some 144) r154.1) (some 145) r155.1) (some 146) r156.1) (some 147) r157.1) (some 148) r158.1) (some 149) r159.1) (some 150) r160.1) (some 20) r161.1) (some 151) r162.1) (some 141) r163.1) (some 152) r164.1) (some 153) r165.1) (some 21) r167.1) (some 154) r168.1) (some 155) r169.1) (some 156) r170.1) (some 157) r171.1) (some 158) r172.1) (some 159) r173.1) (some 160) r174.1) (some 161) r175.1) (some 162) r177.1) (some 163) r178.1) (some 164) r179.1) (some 165) r180.1) (some 166) r181.1) (some 167) r182.1) (some 168) r183.1) (some 169) r184.1) (some 170) r185.1) (some 171) r186.1) (some 172) r188.1) (some 173) r189.1) (some 174) r190.1) (some 175) r192.1) (some 176) r193.1) (some 177) r194.1) (some 178) r195.1) (some 179) r196.1) (some 180) r197.1) (some 64) r199.1) (some 65) r200.1) (some 14) r201.1), r201.2))) (
              bnd (oMv (r127.2.1 7) r179.2) fun r202 =>
              bnd (oMv r151.1 r202.2) fun r203 =>
              bnd (ixS 1 r202.1 r203.1 r203.2) fun r204 =>
              bnd (ldC r204.1 r204.2) fun r205 =>
              bnd (oBin Tryd.prog .add 3 false true r205.1 (.int .i64 1) r205.2) fun r206 =>
              bnd (ixS 1 r202.1 r203.1 r206.2) fun r207 =>
              bnd (stV 1 r207.1 r206.1 r207.2) fun r208 =>
              bnd (oMv (r127.2.1 14) r208.2) fun r209 =>
              bnd (oBin Tryd.prog .add 3 false true r209.1 (.int .i64 1) r209.2) fun r210 =>
              bnd (oMv r210.1 r210.2) fun r211 =>
              some (X.normal, (rput (rput (rput (rput (rput (rput (rput (rput (rput (rput (rput (rput (rput (rput (rput (rput (rput (rput (rput (rput (rput (rput (rput (rput (rput (rput (rput (rput (rput (rput (rput (rput (rput (rput (rput (rput (rput (rput (rput (rput (rput (rput (rput (rput (rput (rput (rput (rput (rput (rput (rput (rput (rput (rput (rput (rput (rput (rput r127.2.1 (some 120) r128.1) (some 121) r129.1) (some 122) r130.1) (some 123) r132.1) (some 124) r133.1) (some 125) r134.1) (some 19) r135.1) (some 126) r136.1) (some 127) r137.1) (some 128) r138.1) (some 129) r139.1) (some 130) r140.1) (some 131) r141.1) (some 132) r142.1) (some 133) r143.1) (some 134) r144.1) (some 135) r145.1) (some 136) r146.1) (some 137) r147.1) (some 138) r148.1) (some 139) r149.1) (some 140) r150.1) (some 19) r151.1) (some 142) r152.1) (some 143) r153.1) (some 144) r154.1) (some 145) r155.1) (some 146) r156.1) (some 147) r157.1) (some 148) r158.1) (some 149) r159.1) (some 150) r160.1) (some 20) r161.1) (some 151) r162.1) (some 141) r163.1) (some 152) r164.1) (some 153) r165.1) (some 21) r167.1) (some 154) r168.1) (some 155) r169.1) (some 156) r170.1) (some 157) r171.1) (some 158) r172.1) (some 159) r173.1) (some 160) r174.1) (some 161) r175.1) (some 162) r177.1) (some 163) r178.1) (some 164) r179.1) (some 175) r202.1) (some 176) r203.1) (some 177) r204.1) (some 178) r205.1) (some 179) r206.1) (some 180) r207.1) (some 64) r209.1) (some 65) r210.1) (some 14) r211.1), r211.2))) (
            bnd (faO 0 r161.1 r170.2) fun r212 =>
            bnd (ldC r212.1 r212.2) fun r213 =>
            bnd (oBin Tryd.prog .eql 3 false true r213.1 (.int .i64 3) r213.2) fun r214 =>
            vIf r214.1 (
              bnd (faO 1 r161.1 r214.2) fun r215 =>
              bnd (ldC r215.1 r215.2) fun r216 =>
              bnd (ixA 64 1 (r127.2.1 13) r216.1 r216.2) fun r217 =>
              bnd (ldC r217.1 r217.2) fun r218 =>
              bnd (oMv r151.1 r218.2) fun r219 =>
              bnd (oBin Tryd.prog .add 3 false true r219.1 (.int .i64 1) r219.2) fun r220 =>
              bnd (oBin Tryd.prog .neq 3 false false r218.1 r220.1 r220.2) fun r221 =>
              vIf r221.1 (
                bnd (oMv (.bool false) r221.2) fun r222 =>
                some (X.ret, (rput (rput (rput (rput (rput (rput (rput (rput (rput (rput (rput (rput (rput (rput (rput (rput (rput (rput (rput (rput (rput (rput (rput (rput (rput (rput (rput (rput (rput (rput (rput (rput (rput (rput (rput (rput (rput (rput (rput (rput (rput (rput (rput (rput (rput (rput (rput (rput (rput (rput (rput (rput r127.2.1 (some 120) r128.1) (some 121) r129.1) (some 122) r130.1) (some 123) r132.1) (some 124) r133.1) (some 125) r134.1) (some 19) r135.1) (some 126) r136.1) (some 127) r137.1) (some 128) r138.1) (some 129) r139.1) (some 130) r140.1) (some 131) r141.1) (some 132) r142.1) (some 133) r143.1) (some 134) r144.1) (some 135) r145.1) (some 136) r146.1) (some 137) r147.1) (some 138) r148.1) (some 139) r149.1) (some 140) r150.1) (some 19) r151.1) (some 142) r152.1) (some 143) r153.1) (some 144) r154.1) (some 145) r155.1) (some 146) r156.1) (some 147) r157.1) (some 148) r158.1) (some 149) r159.1) (some 150) r160.1) (some 20) r161.1) (some 151) r162.1) (some 141) r163.1) (some 152) r164.1) (some 153) r165.1) (some 21) r167.1) (some 154) r168.1) (some 155) r169.1) (some 156) r170.1) (some 162) r212.1) (some 163) r213.1) (some 164) r214.1) (some 165) r215.1) (some 166) r216.1) (some 167) r217.1) (some 168) r218.1) (some 169) r219.1) (some 170) r220.1) (some 171) r221.1) (some 6) r222.1), r222.2)) (
                bnd (faO 1 r161.1 r221.2) fun r223 =>
                bnd (ldC r223.1 r223.2) fun r224 =>
                bnd (ixA 64 1 (r127.2.1 13) r224.1 r224.2) fun r225 =>
                bnd (stV 1 r225.1 (.int .i64 0) r225.2) fun r226 =>
                bnd (oMv (r127.2.1 7) r226.2) fun r227 =>
                bnd (oMv r151.1 r227.2) fun r228 =>
                bnd (ixS 1 r227.1 r228.1 r228.2) fun r229 =>
                bnd (ldC r229.1 r229.2) fun r230 =>
                bnd (oBin Tryd.prog .add 3 false true r230.1 (.int .i64 1) r230.2) fun r231 =>
                bnd (ixS 1 r227.1 r228.1 r231.2) fun r232 =>
                bnd (stV 1 r232.1 r231.1 r232.2) fun r233 =>
                bnd (oMv (r127.2.1 14) r233.2) fun r234 =>
                bnd (oBin Tryd.prog .add 3 false true r234.1 (.int .i64 1) r234.2) fun r235 =>
                bnd (oMv r235.1 r235.2) fun r236 =>
                some (X.normal, (rput (rput (rput (rput (rput (rput (rput (rput (rput (rput (rput (rput (rput (rput (rput (rput (rput (rput (rput (rput (rput (rput (rput (rput (rput (rput (rput (rput (rput (rput (rput (rput (rput (rput (rput (rput (rput (rput (rput (rput (rput (rput (rput (rput (rput (rput (rput (rput (rput (rput (rput (rput (rput (rput (rput (rput (rput (rput (rput (rput (rput (rput (rput r127.2.1 (some 120) r128.1) (some 121) r129.1) (some 122) r130.1) (some 123) r132.1) (some 124) r133.1) (some 125) r134.1) (some 19) r135.1) (some 126) r136.1) (some 127) r137.1) (some 128) r138.1) (some 129) r139.1) (some 130) r140.1) (some 131) r141.1) (some 132) r142.1) (some 133) r143.1) (some 134) r144.1) (some 135) r145.1) (some 136) r146.1) (some 137) r147.1) (some 138) r148.1) (some 139) r149.1) (some 140) r150.1) (some 19) r151.1) (some 142) r152.1) (some 143) r153.1) (some 144) r154.1) (some 145) r155.1) (some 146) r156.1) (some 147) r157.1) (some 148) r158.1) (some 149) r159.1) (some 150) r160.1) (some 20) r161.1) (some 151) r162.1) (some 141) r163.1) (some 152) r164.1) (some 153) r165.1) (some 21) r167.1) (some 154) r168.1) (some 155) r169.1) (some 156) r170.1) (some 162) r212.1) (some 163) r213.1) (some 164) r214.1) (some 165) r215.1) (some 166) r216.1) (some 167) r217.1) (some 168) r218.1) (some 169) r219.1) (some 170) r220.1) (some 171) r221.1) (some 172) r223.1) (some 173) r224.1) (some 174) r225.1) (some 175) r227.1) (some 176) r228.1) (some 177) r229.1) (some 178) r230.1) (some 179) r231.1) (some 180) r232.1) (some 64) r234.1) (some 65) r235.1) (some 14) r236.1), r236.2))) (
              bnd (oMv (r127.2.1 7) r214.2) fun r237 =>
              bnd (oMv r151.1 r237.2) fun r238 =>
              bnd (ixS 1 r237.1 r238.1 r238.2) fun r239 =>
              bnd (ldC r239.1 r239.2) fun r240 =>
              bnd (oBin Tryd.prog .add 3 false true r240.1 (.int .i64 1) r240.2) fun r241 =>
              bnd (ixS 1 r237.1 r238.1 r241.2) fun r242 =>
              bnd (stV 1 r242.1 r241.1 r242.2) fun r243 =>
              bnd (oMv (r127.2.1 14) r243.2) fun r244 =>
              bnd (oBin Tryd.prog .add 3 false true r244.1 (.int .i64 1) r244.2) fun r245 =>
              bnd (oMv r245.1 r245.2) fun r246 =>
              some (X.normal, (rput (rput (rput (rput (rput (rput (rput (rput (rput (rput (rput (rput (rput (rput (rput (rput (rput (rput (rput (rput (rput (rput (rput (rput (rput (rput (rput (rput (rput (rput (rput (rput (rput (rput (rput (rput (rput (rput (rput (rput (rput (rput (rput (rput (rput (rput (rput (rput (rput (rput (rput (rput (rput r127.2.1 (some 120) r128.1) (some 121) r129.1) (some 122) r130.1) (some 123) r132.1) (some 124) r133.1) (some 125) r134.1) (some 19) r135.1) (some 126) r136.1) (some 127) r137.1) (some 128) r138.1) (some 129) r139.1) (some 130) r140.1) (some 131) r141.1) (some 132) r142.1) (some 133) r143.1) (some 134) r144.1) (some 135) r145.1) (some 136) r146.1) (some 137) r147.1) (some 138) r148.1) (some 139) r149.1) (some 140) r150.1) (some 19) r151.1) (some 142) r152.1) (some 143) r153.1) (some 144) r154.1) (some 145) r155.1) (some 146) r156.1) (some 147) r157.1) (some 148) r158.1) (some 149) r159.1) (some 150) r160.1) (some 20) r161.1) (some 151) r162.1) (some 141) r163.1) (some 152) r164.1) (some 153) r165.1) (some 21) r167.1) (some 154) r168.1) (some 155) r169.1) (some 156) r170.1) (some 162) r212.1) (some 163) r213.1) (some 164) r214.1) (some 175) r237.1) (some 176) r238.1) (some 177) r239.1) (some 178) r240.1) (some 179) r241.1) (some 180) r242.1) (some 64) r244.1) (some 65) r245.1) (some 14) r246.1), r246.2)))) (
          bnd (ldA 4 (r127.2.1 3) r139.2) fun r247 =>
          bnd (oMv (r127.2.1 1) r247.2) fun r248 =>
          bnd (oMv r135.1 r248.2) fun r249 =>
          bnd (ixS 12 r248.1 r249.1 r249.2) fun r250 =>
          bnd (ldA 12 r250.1 r250.2) fun r251 =>
          bnd (oMv (r127.2.1 7) r251.2) fun r252 =>
          bnd (oMv r135.1 r252.2) fun r253 =>
          bnd (ixS 1 r252.1 r253.1 r253.2) fun r254 =>
          bnd (ldC r254.1 r254.2) fun r255 =>
          bnd (oAlloc Tryd.prog 46 r255.2) fun r256 =>
          bnd (call (fnV 23) [r247.1, r251.1, r255.1] r256.2) fun r257 =>
          bnd (oMv r257.1 r257.2) fun r258 =>
          bnd (oExtract r258.1 0 r258.2) fun r259 =>
          bnd (oExtract r258.1 1 r259.2) fun r260 =>
          bnd (stV 2 r256.1 r259.1 r260.2) fun r261 =>
          bnd (oMv r260.1 r261.2) fun r262 =>
          bnd (faO 0 r256.1 r262.2) fun r263 =>
          bnd (ldC r263.1 r263.2) fun r264 =>
          bnd (oBin Tryd.prog .eql 3 false true r264.1 (.int .i64 1) r264.2) fun r265 =>
          vIf r265.1 (
            bnd (faO 1 r256.1 r265.2) fun r266 =>
            bnd (ldC r266.1 r266.2) fun r267 =>
            bnd (oMv r135.1 r267.2) fun r268 =>
            bnd (oBin Tryd.prog .add 3 false true r268.1 (.int .i64 1) r268.2) fun r269 =>
            bnd (ixA 64 1 (r127.2.1 13) r267.1 r269.2) fun r270 =>
            bnd (stV 1 r270.1 r269.1 r270.2) fun r271 =>
            bnd (faO 0 r256.1 r271.2) fun r272 =>
            bnd (ldC r272.1 r272.2) fun r273 =>
            bnd (oBin Tryd.prog .eql 3 false true r273.1 (.int .i64 3) r273.2) fun r274 =>
            vIf r274.1 (
              bnd (faO 1 r256.1 r274.2) fun r275 =>
              bnd (ldC r275.1 r275.2) fun r276 =>
              bnd (ixA 64 1 (r127.2.1 13) r276.1 r276.2) fun r277 =>
              bnd (ldC r277.1 r277.2) fun r278 =>
              bnd (oMv r135.1 r278.2) fun r279 =>
              bnd (oBin Tryd.prog .add 3 false true r279.1 (.int .i64 1) r279.2) fun r280 =>
              bnd (oBin Tryd.prog .neq 3 false false r278.1 r280.1 r280.2) fun r281 =>
              vIf r281.1 (
                bnd (oMv (.bool false) r281.2) fun r282 =>
                some (X.ret, (rput (rput (rput (rput (rput (rput (rput (rput (rput (rput (rput (rput (rput (rput (rput (rput (rput (rput (rput (rput (rput (rput (rput (rput (rput (rput (rput (rput (rput (rput (rput (rput (rput (rput (rput (rput (rput (rput (rput (rput (rput (rput (rput (rput (rput r127.2.1 (some 120) r128.1) (some 121) r129.1) (some 122) r130.1) (some 123) r132.1) (some 124) r133.1) (some 125) r134.1) (some 19) r135.1) (some 126) r136.1) (some 127) r137.1) (some 128) r138.1) (some 129) r139.1) (some 142) r247.1) (some 143) r248.1) (some 144) r249.1) (some 145) r250.1) (some 146) r251.1) (some 147) r252.1) (some 148) r253.1) (some 149) r254.1) (some 150) r255.1) (some 20) r256.1) (some 151) r257.1) (some 141) r258.1) (some 152) r259.1) (some 153) r260.1) (some 21) r262.1) (some 154) r263.1) (some 155) r264.1) (some 156) r265.1) (some 157) r266.1) (some 158) r267.1) (some 159) r268.1) (some 160) r269.1) (some 161) r270.1) (some 162) r272.1) (some 163) r273.1) (some 164) r274.1) (some 165) r275.1) (some 166) r276.1) (some 167) r277.1) (some 168) r278.1) (some 169) r279.1) (some 170) r280.1) (some 171) r281.1) (some 6) r282.1), r282.2)) (
                bnd (faO 1 r256.1 r281.2) fun r283 =>
                bnd (ldC r283.1 r283.2) fun r284 =>
                bnd (ixA 64 1 (r127.2.1 13) r284.1 r284.2) fun r285 =>
                bnd (stV 1 r285.1 (.int .i64 0) r285.2) fun r286 =>
                bnd (oMv (r127.2.1 7) r286.2) fun r287 =>
                bnd (oMv r135.1 r287.2) fun r288 =>
                bnd (ixS 1 r287.1 r288.1 r288.2) fun r289 =>
                bnd (ldC r289.1 r289.2) fun r290 =>
                bnd (oBin Tryd.prog .add 3 false true r290.1 (.int .i64 1) r290.2) fun r291 =>
                bnd (ixS 1 r287.1 r288.1 r291.2) fun r292 =>
                bnd (stV 1 r292.1 r291.1 r292.2) fun r293 =>
                bnd (oMv (r127.2.1 14) r293.2) fun r294 =>
                bnd (oBin Tryd.prog .add 3 false true r294.1 (.int .i64 1) r294.2) fun r295 =>
                bnd (oMv r295.1 r295.2) fun r296 =>
                some (X.normal, (rput (rput (rput (rput (rput (rput (rput (rput (rput (rput (rput (rput (rput (rput (rput (rput (rput (rput (rput (rput (rput (rput (rput (rput (rput (rput (rput (rput (rput (rput (rput (rput (rput (rput (rput (rput (rput (rput (rput (rput (rput (rput (rput (rput (rput (rput (rput (rput (rput (rput (rput (rput (rput (rput (rput (rput r127.2.1 (some 120) r128.1) (some 121) r129.1) (some 122) r130.1) (some 123) r132.1) (some 124) r133.1) (some 125) r134.1) (some 19) r135.1) (some 126) r136.1) (some 127) r137.1) (some 128) r138.1) (some 129) r139.1) (some 142) r247.1) (some 143) r248.1) (some 144) r249.1) (some 145) r250.1) (some 146) r251.1) (some 147) r252.1) (some 148) r253.1) (some 149) r254.1) (some 150) r255.1) (some 20) r256.1) (some 151) r257.1) (some 141) r258.1) (some 152) r259.1) (some 153) r260.1) (some 21) r262.1) (some 154) r263.1) (some 155) r264.1) (some 156) r265.1) (some 157) r266.1) (some 158) r267.1) (some 159) r268.1) (some 160) r269.1) (some 161) r270.1) (some 162) r272.1) (some 163) r273.1) (some 164) r274.1) (some 165) r275.1) (some 166) r276.1) (some 167) r277.1) (some 168) r278.1) (some 169) r279.1) (some 170) r280.1) (some 171) r281.1) (some 172) r283.1) (some 173) r284.1) (some 174) r285.1) (some 175) r287.1) (some 176) r288.1) (some 177) r289.1) (some 178) r290.1) (some 179) r291.1) (some 180) r292.1) (some 64) r294.1) (some 65) r295.1) (some 14) r296.1), r296.2))) (
              bnd (oMv (r127.2.1 7) r274.2) fun r297 =>
              bnd (oMv r135.1 r297.2) fun r298 =>
              bnd (ixS 1 r297.1 r298.1 r298.2) fun r299 =>
              bnd (ldC r299.1 r299.2) fun r300 =>
              bnd (oBin Tryd.prog .add 3 false true r300.1 (.int .i64 1) r300.2) fun r301 =>
              bnd (ixS 1 r297.1 r298.1 r301.2) fun r302 =>
              bnd (stV 1 r302.1 r301.1 r302.2) fun r303 =>
              bnd (oMv (r127.2.1 14) r303.2) fun r304 =>
              bnd (oBin Tryd.prog .add 3 false true r304.1 (.int .i64 1) r304.2) fun r305 =>
              bnd (oMv r305.1 r305.2) fun r306 =>
              some (X.normal, (rput (rput (rput (rput (rput (rput (rput (rput (rput (rput (rput (rput (rput (rput (rput (rput (rput (rput (rput (rput (rput (rput (rput (rput (rput (rput (rput (rput (rput (rput (rput (rput (rput (rput (rput (rput (rput (rput (rput (rput (rput (rput (rput (rput (rput (rput r127.2.1 (some 120) r128.1) (some 121) r129.1) (some 122) r130.1) (some 123) r132.1) (some 124) r133.1) (some 125) r134.1) (some 19) r135.1) (some 126) r136.1) (some 127) r137.1) (some 128) r138.1) (some 129) r139.1) (some 142) r247.1) (some 143) r248.1) (some 144) r249.1) (some 145) r250.1) (some 146) r251.1) (some 147) r252.1) (some 148) r253.1) (some 149) r254.1) (some 150) r255.1) (some 20) r256.1) (some 151) r257.1) (some 141) r258.1) (some 152) r259.1) (some 153) r260.1) (some 21) r262.1) (some 154) r263.1) (some 155) r264.1) (some 156) r265.1) (some 157) r266.1) (some 158) r267.1) (some 159) r268.1) (some 160) r269.1) (some 161) r270.1) (some 162) r272.1) (some 163) r273.1) (some 164) r274.1) (some 175) r297.1) (some 176) r298.1) (some 177) r299.1) (some 178) r300.1) (some 179) r301.1) (some 180) r302.1) (some 64) r304.1) (some 65) r305.1) (some 14) r306.1), r306.2))) (
            bnd (faO 0 r256.1 r265.2) fun r307 =>
            bnd (ldC r307.1 r307.2) fun r308 =>
            bnd (oBin Tryd.prog .eql 3 false true r308.1 (.int .i64 3) r308.2) fun r309 =>
            vIf r309.1 (
              bnd (faO 1 r256.1 r309.2) fun r310 =>
              bnd (ldC r310.1 r310.2) fun r311 =>
              bnd (ixA 64 1 (r127.2.1 13) r311.1 r311.2) fun r312 =>
              bnd (ldC r312.1 r312.2) fun r313 =>
              bnd (oMv r135.1 r313.2) fun r314 =>
              bnd (oBin Tryd.prog .add 3 false true r314.1 (.int .i64 1) r314.2) fun r315 =>
              bnd (oBin Tryd.prog .neq 3 false false r313.1 r315.1 r315.2) fun r316 =>
              vIf r316.1 (
                bnd (oMv (.bool false) r316.2) fun r317 =>
                some (X.ret, (rput (rput (rput (rput (rput (rput (rput (rput (rput (rput (rput (rput (rput (rput (rput (rput (rput (rput (rput (rput (rput (rput (rput (rput (rput (rput (rput (rput (rput (rput (rput (rput (rput (rput (rput (rput (rput (rput (rput (rput r127.2.1 (some 120) r128.1) (some 121) r129.1) (some 122) r130.1) (some 123) r132.1) (some 124) r133.1) (some 125) r134.1) (some 19) r135.1) (some 126) r136.1) (some 127) r137.1) (some 128) r138.1) (some 129) r139.1) (some 142) r247.1) (some 143) r248.1) (some 144) r249.1) (some 145) r250.1) (some 146) r251.1) (some 147) r252.1) (some 148) r253.1) (some 149) r254.1) (some 150) r255.1) (some 20) r256.1) (some 151) r257.1) (some 141) r258.1) (some 152) r259.1) (some 153) r260.1) (some 21) r262.1) (some 154) r263.1) (some 155) r264.1) (some 156) r265.1) (some 162) r307.1) (some 163) r308.1) (some 164) r309.1) (some 165) r310.1) (some 166) r311.1) (some 167) r312.1) (some 168) r313.1) (some 169) r314.1) (some 170) r315.1) (some 171) r316.1) (some 6) r317.1), r317.2)) (
                bnd (faO 1 r256.1 r316.2) fun r318 =>
                bnd (ldC r318.1 r318.2) fun r319 =>
                bnd (ixA 64 1 (r127.2.1 13) r319.1 r319.2) fun r320 =>
                bnd (stV 1 r320.1 (.int .i64 0) r320.2) fun r321 =>
                bnd (oMv (r127.2.1 7) r321.2) fun r322 =>
                bnd (oMv r135.1 r322.2) fun r323 =>
                bnd (ixS 1 r322.1 r323.1 r323.2) fun r324 =>
                bnd (ldC r324.1 r324.2) fun r325 =>
                bnd (oBin Tryd.prog .add 3 false true r325.1 (.int .i64 1) r325.2) fun r326 =>
                bnd (ixS 1 r322.1 r323.1 r326.2) fun r327 =>
                bnd (stV 1 r327.1 r326.1 r327.2) fun r328 =>
                bnd (oMv (r127.2.1 14) r328.2) fun r329 =>
                bnd (oBin Tryd.prog .add 3 false true r329.1 (.int .i64 1) r329.2) fun r330 =>
                bnd (oMv r330.1 r330.2) fun r331 =>
                some (X.normal, (rput (rput (rput (rput (rput (rput (rput (rput (rput (rput (rput (rput (rput (rput (rput (rput (rput (rput (rput (rput (rput (rput (rput (rput (rput (rput (rput (rput (rput (rput (rput (rput (rput (rput (rput (rput (rput (rput (rput (rput (rput (rput (rput (rput (rput (rput (rput (rput (rput (rput (rput r127.2.1 (some 120) r128.1) (some 121) r129.1) (some 122) r130.1) (some 123) r132.1) (some 124) r133.1) (some 125) r134.1) (some 19) r135.1) (some 126) r136.1) (some 127) r137.1) (some 128) r138.1) (some 129) r139.1) (some 142) r247.1) (some 143) r248.1) (some 144) r249.1) (some 145) r250.1) (some 146) r251.1) (some 147) r252.1) (some 148) r253.1) (some 149) r254.1) (some 150) r255.1) (some 20) r256.1) (some 151) r257.1) (some 141) r258.1) (some 152) r259.1) (some 153) r260.1) (some 21) r262.1) (some 154) r263.1) (some 155) r264.1) (some 156) r265.1) (some 162) r307.1) (some 163) r308.1) (some 164) r309.1) (some 165) r310.1) (some 166) r311.1) (some 167) r312.1) (some 168) r313.1) (some 169) r314.1) (some 170) r315.1) (some 171) r316.1) (some 172) r318.1) (some 173) r319.1) (some 174) r320.1) (some 175) r322.1) (some 176) r323.1) (some 177) r324.1) (some 178) r325.1) (some 179) r326.1) (some 180) r327.1) (some 64) r329.1) (some 65) r330.1) (some 14) r331.1), r331.2))) (
              bnd (oMv (r127.2.1 7) r309.2) fun r332 =>
              bnd (oMv r135.1 r332.2) fun r333 =>
              bnd (ixS 1 r332.1 r333.1 r333.2) fun r334 =>
              bnd (ldC r334.1 r334.2) fun r335 =>
              bnd (oBin Tryd.prog .add 3 false true r335.1 (.int .i64 1) r335.2) fun r336 =>
              bnd (ixS 1 r332.1 r333.1 r336.2) fun r337 =>
              bnd (stV 1 r337.1 r336.1 r337.2) fun r338 =>
              bnd (oMv (r127.2.1 14) r338.2) fun r339 =>
              bnd (oBin Tryd.prog .add 3 false true r339.1 (.int .i64 1) r339.2) fun r340 =>
              bnd (oMv r340.1 r340.2) fun r341 =>
              some (X.normal, (rput (rput (rput (rput (rput (rput (rput (rput (rput (rput (rput (rput (rput (rput (rput (rput (rput (rput (rput (rput (rput (rput (rput (rput (rput (rput (rput (rput (rput (rput (rput (rput (rput (rput (rput (rput (rput (rput (rput (rput (rput r127.2.1 (some 120) r128.1) (some 121) r129.1) (some 122) r130.1) (some 123) r132.1) (some 124) r133.1) (some 125) r134.1) (some 19) r135.1) (some 126) r136.1) (some 127) r137.1) (some 128) r138.1) (some 129) r139.1) (some 142) r247.1) (some 143) r248.1) (some 144) r249.1) (some 145) r250.1) (some 146) r251.1) (some 147) r252.1) (some 148) r253.1) (some 149) r254.1) (some 150) r255.1) (some 20) r256.1) (some 151) r257.1) (some 141) r258.1) (some 152) r259.1) (some 153) r260.1) (some 21) r262.1) (some 154) r263.1) (some 155) r264.1) (some 156) r265.1) (some 162) r307.1) (some 163) r308.1) (some 164) r309.1) (some 175) r332.1) (some 176) r333.1) (some 177) r334.1) (some 178) r335.1) (some 179) r336.1) (some 180) r337.1) (some 64) r339.1) (some 65) r340.1) (some 14) r341.1), r341.2)))))) (kRetX r127.1 (
      some (X.ret, r127.2.1, r127.2.2)))) (
    some (X.exit 2, (rput (rput (rput R (some 61) r56.1) (some 62) r57.1) (some 63) r58.1), r58.2))
noncomputable def law22_PlansFree (call : Eng.Callee) (x0 x1 x2 : Value) (W : AW) : Option (Value × AW) :=
  bnd (oBox x0 W) fun r1 =>
  bnd (oMv (.bool false) r1.2) fun r2 =>
  bnd (ldA 4 r1.1 r2.2) fun r3 =>
  bnd (call (fnV 17) [r3.1] r3.2) fun r4 =>
  bnd (oMv r4.1 r4.2) fun r5 =>
  bnd (bIf (wnt r5.1 false) (oMv x1 r5.2) (some (undef, r5.2))) fun r6 =>
  bnd (bIf (wnt r5.1 false) (oBuiltin Tryd.prog .len #[50] 3 #[false] [r6.1] r6.2) (some (undef, r6.2))) fun r7 =>
  bnd (bIf (wnt r5.1 false) (oBin Tryd.prog .gtr 3 false true r7.1 (.int .i64 8) r7.2) (some (undef, r7.2))) fun r8 =>
  bnd (oPick r5.1 (.bool true) r8.1 r8.2) fun r9 =>
  vIf r9.1 (
    bnd (call (fnV 16) [] r9.2) fun r10 =>
    bnd (oMv r10.1 r10.2) fun r11 =>
    oRes Tryd.prog [(r11.1, none)] r11.2) (
    bnd (oMv x1 r9.2) fun r12 =>
    bnd (oBuiltin Tryd.prog .len #[50] 3 #[false] [r12.1] r12.2) fun r13 =>
    bnd (oMkSlice Tryd.prog 38 r13.1 r13.1 r13.2) fun r14 =>
    bnd (oMv x1 r14.2) fun r15 =>
    bnd (oBuiltin Tryd.prog .len #[50] 3 #[false] [r15.1] r15.2) fun r16 =>
    bnd (oMkSlice Tryd.prog 38 r16.1 r16.1 r16.2) fun r17 =>
    bnd (oMv r14.1 r17.2) fun r18 =>
    bnd (oMv r17.1 r18.2) fun r19 =>
    bnd (oMv (.int .i64 0) r19.2) fun r20 =>
    bnd (oMv (.int .i64 0) r20.2) fun r21 =>
    bnd (loopO (law22_PlansFree_L1 call) (rput (rput (rput (rput (rput (rput (rput (rput (rput (rput (rput (rput (rput (rput (rput (rput (rput (rput (rput (argGo 0 [x0, x1, x2] PlanTab.blank) (some 3) r1.1) (some 6) r2.1) (some 22) r3.1) (some 23) r4.1) (some 24) r5.1) (some 25) r6.1) (some 26) r7.1) (some 27) r8.1) (some 28) r9.1) (some 30) r12.1) (some 31) r13.1) (some 32) r14.1) (some 33) r15.1) (some 34) r16.1) (some 35) r17.1) (some 7) r18.1) (some 8) r19.1) (some 9) r20.1) (some 10) r21.1) r21.2) fun r53 =>
    kExit 0 r53.1 (
      bnd (oAlloc Tryd.prog 52 r53.2.2) fun r54 =>
      bnd (oMv (.int .i64 0) r54.2) fun r55 =>
      bnd (loopO (law22_PlansFree_L2 call) (rput (rput r53.2.1 (some 13) r54.1) (some 14) r55.1) r55.2) fun r342 =>
      kExit 2 r342.1 (
        bnd (ldA 64 (r342.2.1 13) r342.2.2) fun r343 =>
        bnd (oBuild Tryd.prog 52 [] r343.2) fun r344 =>
        bnd (oBin Tryd.prog .eql 52 false false r343.1 r344.1 r344.2) fun r345 =>
        bnd (oMv r345.1 r345.2) fun r346 =>
        bnd (bIf (wnt r346.1 true) (call (fnV 16) [] r346.2) (some (undef, r346.2))) fun r347 =>
        bnd (oPick r346.1 r347.1 (.bool false) r347.2) fun r348 =>
        bnd (oMv r348.1 r348.2) fun r349 =>
        oRes Tryd.prog [(r349.1, none)] r349.2) (kRetX r342.1 (
        oRes Tryd.prog [((r342.2.1 6), none)] r342.2.2))) (kRetX r53.1 (
      oRes Tryd.prog [((r53.2.1 6), none)] r53.2.2)))
theorem law22_PlansFree_eq (call : Eng.Callee) (x0 x1 x2 : Value) (W : AW) : kFun Tryd.prog call 187 (cod 6) (rss 6) [x0, x1, x2] W = law22_PlansFree call x0 x1 x2 W := by kernel_rfl
theorem law22_PlansFree_om {x0 x1 x2 : Value} {W : AW} {r : Value × AW} (h : law22_PlansFree omS x0 x1 x2 W = some r) : omS (.func (.func 6) #[] #[]) [x0, x1, x2] W = some (gc W r) := om_of (nt := 187) (n := 3) (by kernel_rfl) (by kernel_rfl) rfl ((law22_PlansFree_eq omS x0 x1 x2 W).trans h)
noncomputable def words_Name (call : Eng.Callee) (x0 : Value) (W : AW) : Option (Value × AW) :=
  bnd (oMv (.bool false) W) fun r1 =>
  bnd (oMv x0 r1.2) fun r2 =>
  bnd (oBin Tryd.prog .eql 9 false true r2.1 (strV []) r2.2) fun r3 =>
  bnd (oMv r3.1 r3.2) fun r4 =>
  bnd (bIf (wnt r4.1 false) (oMv x0 r4.2) (some (undef, r4.2))) fun r5 =>
  bnd (bIf (wnt r4.1 false) (oBuiltin Tryd.prog .len #[9] 3 #[false] [r5.1] r5.2) (some (undef, r5.2))) fun r6 =>
  bnd (bIf (wnt r4.1 false) (oBin Tryd.prog .gtr 3 false true r6.1 (.int .i64 16) r6.2) (some (undef, r6.2))) fun r7 =>
  bnd (oPick r4.1 (.bool true) r7.1 r7.2) fun r8 =>
  bnd (oMv r8.1 r8.2) fun r9 =>
  bnd (bIf (wnt r9.1 false) (oMv x0 r9.2) (some (undef, r9.2))) fun r10 =>
  bnd (bIf (wnt r9.1 false) (oIndex Tryd.prog 9 r10.1 (.int .i64 0) r10.2) (some (undef, r10.2))) fun r11 =>
  bnd (bIf (wnt r9.1 false) (oBin Tryd.prog .lss 5 false true r11.1 (.int .u8 97) r11.2) (some (undef, r11.2))) fun r12 =>
  bnd (oPick r9.1 (.bool true) r12.1 r12.2) fun r13 =>
  bnd (oMv r13.1 r13.2) fun r14 =>
  bnd (bIf (wnt r14.1 false) (oMv x0 r14.2) (some (undef, r14.2))) fun r15 =>
  bnd (bIf (wnt r14.1 false) (oIndex Tryd.prog 9 r15.1 (.int .i64 0) r15.2) (some (undef, r15.2))) fun r16 =>
  bnd (bIf (wnt r14.1 false) (oBin Tryd.prog .gtr 5 false true r16.1 (.int .u8 122) r16.2) (some (undef, r16.2))) fun r17 =>
  bnd (oPick r14.1 (.bool true) r17.1 r17.2) fun r18 =>
  vIf r18.1 (
    bnd (oMv (.bool false) r18.2) fun r19 =>
    oRes Tryd.prog [(r19.1, none)] r19.2) (
    bnd (oMv x0 r18.2) fun r20 =>
    bnd (call (fnV 98) [r20.1, (strV [97, 98, 99, 100, 101, 102, 103, 104, 105, 106, 107, 108, 109, 110, 111, 112, 113, 114, 115, 116, 117, 118, 119, 120, 121, 122, 48, 49, 50, 51, 52, 53, 54, 55, 56, 57, 45])] r20.2) fun r21 =>
    bnd (oBin Tryd.prog .eql 9 false true r21.1 (strV []) r21.2) fun r22 =>
    bnd (oMv r22.1 r22.2) fun r23 =>
    oRes Tryd.prog [(r23.1, none)] r23.2)
theorem words_Name_eq (call : Eng.Callee) (x0 : Value) (W : AW) : kFun Tryd.prog call 23 (cod 76) (rss 76) [x0] W = words_Name call x0 W := by kernel_rfl
theorem words_Name_om {x0 : Value} {W : AW} {r : Value × AW} (h : words_Name omS x0 W = some r) : omS (.func (.func 76) #[] #[]) [x0] W = some (gc W r) := om_of (nt := 23) (n := 1) (by kernel_rfl) (by kernel_rfl) rfl ((words_Name_eq omS x0 W).trans h)
noncomputable def strings_Trim (call : Eng.Callee) (x0 x1 : Value) (W : AW) : Option (Value × AW) :=
  bnd (oMv (strV []) W) fun r1 =>
  bnd (oMv x0 r1.2) fun r2 =>
  bnd (oBin Tryd.prog .eql 9 false true r2.1 (strV []) r2.2) fun r3 =>
  bnd (oMv r3.1 r3.2) fun r4 =>
  bnd (bIf (wnt r4.1 false) (oMv x1 r4.2) (some (undef, r4.2))) fun r5 =>
  bnd (bIf (wnt r4.1 false) (oBin Tryd.prog .eql 9 false true r5.1 (strV []) r5.2) (some (undef, r5.2))) fun r6 =>
  bnd (oPick r4.1 (.bool true) r6.1 r6.2) fun r7 =>
  vIf r7.1 (
    bnd (oMv x0 r7.2) fun r8 =>
    bnd (oMv r8.1 r8.2) fun r9 =>
    oRes Tryd.prog [(r9.1, none)] r9.2) (
    bnd (oMv x1 r7.2) fun r10 =>
    bnd (oBuiltin Tryd.prog .len #[9] 3 #[false] [r10.1] r10.2) fun r11 =>
    bnd (oBin Tryd.prog .eql 3 false true r11.1 (.int .i64 1) r11.2) fun r12 =>
    bnd (oMv r12.1 r12.2) fun r13 =>
    bnd (bIf (wnt r13.1 true) (oMv x1 r13.2) (some (undef, r13.2))) fun r14 =>
    bnd (bIf (wnt r13.1 true) (oIndex Tryd.prog 9 r14.1 (.int .i64 0) r14.2) (some (undef, r14.2))) fun r15 =>
    bnd (bIf (wnt r13.1 true) (oBin Tryd.prog .lss 5 false true r15.1 (.int .u8 128) r15.2) (some (undef, r15.2))) fun r16 =>
    bnd (oPick r13.1 r16.1 (.bool false) r16.2) fun r17 =>
    vIf r17.1 (
      bnd (oMv x0 r17.2) fun r18 =>
      bnd (oMv x1 r18.2) fun r19 =>
      bnd (oIndex Tryd.prog 9 r19.1 (.int .i64 0) r19.2) fun r20 =>
      bnd (oMv x1 r20.2) fun r21 =>
      bnd (oIndex Tryd.prog 9 r21.1 (.int .i64 0) r21.2) fun r22 =>
      bnd (call (fnV 116) [r18.1, r20.1] r22.2) fun r23 =>
      bnd (call (fnV 115) [r23.1, r22.1] r23.2) fun r24 =>
      bnd (oMv r24.1 r24.2) fun r25 =>
      oRes Tryd.prog [(r25.1, none)] r25.2) (
      bnd (oMv x1 r17.2) fun r26 =>
      bnd (call (fnV 117) [r26.1] r26.2) fun r27 =>
      bnd (oMv r27.1 r27.2) fun r28 =>
      bnd (oExtract r28.1 0 r28.2) fun r29 =>
      bnd (oExtract r28.1 1 r29.2) fun r30 =>
      bnd (oAlloc Tryd.prog 156 r30.2) fun r31 =>
      bnd (stV 256 r31.1 r29.1 r31.2) fun r32 =>
      bnd (oMv r30.1 r32.2) fun r33 =>
      bnd (oMv r33.1 r33.2) fun r34 =>
      vIf r34.1 (
        bnd (oMv x0 r34.2) fun r35 =>
        bnd (call (fnV 119) [r35.1, r31.1] r35.2) fun r36 =>
        bnd (call (fnV 118) [r36.1, r31.1] r36.2) fun r37 =>
        bnd (oMv r37.1 r37.2) fun r38 =>
        oRes Tryd.prog [(r38.1, none)] r38.2) (
        bnd (oMv x0 r34.2) fun r39 =>
        bnd (oMv x1 r39.2) fun r40 =>
        bnd (call (fnV 121) [r39.1, r40.1] r40.2) fun r41 =>
        bnd (oMv x1 r41.2) fun r42 =>
        bnd (call (fnV 120) [r41.1, r42.1] r42.2) fun r43 =>
        bnd (oMv r43.1 r43.2) fun r44 =>
        oRes Tryd.prog [(r44.1, none)] r44.2)))
theorem strings_Trim_eq (call : Eng.Callee) (x0 x1 : Value) (W : AW) : kFun Tryd.prog call 43 (cod 98) (rss 98) [x0, x1] W = strings_Trim call x0 x1 W := by kernel_rfl
theorem strings_Trim_om {x0 x1 : Value} {W : AW} {r : Value × AW} (h : strings_Trim omS x0 x1 W = some r) : omS (.func (.func 98) #[] #[]) [x0, x1] W = some (gc W r) := om_of (nt := 43) (n := 2) (by kernel_rfl) (by kernel_rfl) rfl ((strings_Trim_eq omS x0 x1 W).trans h)
noncomputable def strings_makeASCIISet_L1 (call : Eng.Callee) (R : Nat → Value) (W : AW) : Option LT :=
  bnd (oMv (R 4) W) fun r4 =>
  bnd (oMv (R 0) r4.2) fun r5 =>
  bnd (oBuiltin Tryd.prog .len #[9] 3 #[false] [r5.1] r5.2) fun r6 =>
  bnd (oBin Tryd.prog .lss 3 false false r4.1 r6.1 r6.2) fun r7 =>
  vIf r7.1 (
    bnd (oMv (R 0) r7.2) fun r8 =>
    bnd (oMv (R 4) r8.2) fun r9 =>
    bnd (oIndex Tryd.prog 9 r8.1 r9.1 r9.2) fun r10 =>
    bnd (oMv r10.1 r10.2) fun r11 =>
    bnd (oMv r11.1 r11.2) fun r12 =>
    bnd (oBin Tryd.prog .geq 5 false true r12.1 (.int .u8 128) r12.2) fun r13 =>
    vIf r13.1 (
      bnd (ldA 256 (R 2) r13.2) fun r14 =>
      bnd (stV 256 (R 2) r14.1 r14.2) fun r15 =>
      bnd (oMv (.bool false) r15.2) fun r16 =>
      some (X.ret, (rput (rput (rput (rput (rput (rput (rput (rput (rput (rput (rput (rput R (some 6) r4.1) (some 7) r5.1) (some 8) r6.1) (some 9) r7.1) (some 12) r8.1) (some 13) r9.1) (some 14) r10.1) (some 5) r11.1) (some 15) r12.1) (some 16) r13.1) (some 17) r14.1) (some 3) r16.1), r16.2)) (
      bnd (oMv r11.1 r13.2) fun r17 =>
      bnd (ixA 256 1 (R 2) r17.1 r17.2) fun r18 =>
      bnd (stV 1 r18.1 (.bool true) r18.2) fun r19 =>
      bnd (oMv (R 4) r19.2) fun r20 =>
      bnd (oBin Tryd.prog .add 3 false true r20.1 (.int .i64 1) r20.2) fun r21 =>
      bnd (oMv r21.1 r21.2) fun r22 =>
      some (X.normal, (rput (rput (rput (rput (rput (rput (rput (rput (rput (rput (rput (rput (rput (rput (rput R (some 6) r4.1) (some 7) r5.1) (some 8) r6.1) (some 9) r7.1) (some 12) r8.1) (some 13) r9.1) (some 14) r10.1) (some 5) r11.1) (some 15) r12.1) (some 16) r13.1) (some 18) r17.1) (some 19) r18.1) (some 10) r20.1) (some 11) r21.1) (some 4) r22.1), r22.2))) (
    some (X.exit 0, (rput (rput (rput (rput R (some 6) r4.1) (some 7) r5.1) (some 8) r6.1) (some 9) r7.1), r7.2))
noncomputable def strings_makeASCIISet (call : Eng.Callee) (x0 : Value) (W : AW) : Option (Value × AW) :=
  bnd (oAlloc Tryd.prog 156 W) fun r1 =>
  bnd (oMv (.bool false) r1.2) fun r2 =>
  bnd (oMv (.int .i64 0) r2.2) fun r3 =>
  bnd (loopO (strings_makeASCIISet_L1 call) (rput (rput (rput (argGo 0 [x0] PlanTab.blank) (some 2) r1.1) (some 3) r2.1) (some 4) r3.1) r3.2) fun r23 =>
  kExit 0 r23.1 (
    bnd (ldA 256 (r23.2.1 2) r23.2.2) fun r24 =>
    bnd (stV 256 (r23.2.1 2) r24.1 r24.2) fun r25 =>
    bnd (oMv (.bool true) r25.2) fun r26 =>
    oRes Tryd.prog [((r23.2.1 2), some 156), (r26.1, none)] r26.2) (kRetX r23.1 (
    oRes Tryd.prog [((r23.2.1 2), some 156), ((r23.2.1 3), none)] r23.2.2))
theorem strings_makeASCIISet_eq (call : Eng.Callee) (x0 : Value) (W : AW) : kFun Tryd.prog call 21 (cod 117) (rss 117) [x0] W = strings_makeASCIISet call x0 W := by kernel_rfl
theorem strings_makeASCIISet_om {x0 : Value} {W : AW} {r : Value × AW} (h : strings_makeASCIISet omS x0 W = some r) : omS (.func (.func 117) #[] #[]) [x0] W = some (gc W r) := om_of (nt := 21) (n := 1) (by kernel_rfl) (by kernel_rfl) rfl ((strings_makeASCIISet_eq omS x0 W).trans h)
noncomputable def strings_trimLeftASCII_L1 (call : Eng.Callee) (R : Nat → Value) (W : AW) : Option LT :=
  bnd (oMv (R 0) W) fun r2 =>
  bnd (oBuiltin Tryd.prog .len #[9] 3 #[false] [r2.1] r2.2) fun r3 =>
  bnd (oBin Tryd.prog .gtr 3 false true r3.1 (.int .i64 0) r3.2) fun r4 =>
  vIf r4.1 (
    bnd (oMv (R 1) r4.2) fun r5 =>
    bnd (oMv (R 0) r5.2) fun r6 =>
    bnd (oIndex Tryd.prog 9 r6.1 (.int .i64 0) r6.2) fun r7 =>
    bnd (call (fnV 128) [r5.1, r7.1] r7.2) fun r8 =>
    bnd (oUn Tryd.prog .not r8.1 r8.2) fun r9 =>
    vIf r9.1 (
      some (X.exit 0, (rput (rput (rput (rput (rput (rput (rput (rput R (some 5) r2.1) (some 6) r3.1) (some 7) r4.1) (some 8) r5.1) (some 9) r6.1) (some 10) r7.1) (some 11) r8.1) (some 12) r9.1), r9.2)) (
      bnd (oMv (R 0) r9.2) fun r10 =>
      bnd (oSlice Tryd.prog 9 r10.1 (some (.int .i64 1)) none none r10.2) fun r11 =>
      bnd (oMv r11.1 r11.2) fun r12 =>
      some (X.normal, (rput (rput (rput (rput (rput (rput (rput (rput (rput (rput (rput R (some 5) r2.1) (some 6) r3.1) (some 7) r4.1) (some 8) r5.1) (some 9) r6.1) (some 10) r7.1) (some 11) r8.1) (some 12) r9.1) (some 13) r10.1) (some 14) r11.1) (some 0) r12.1), r12.2))) (
    some (X.exit 0, (rput (rput (rput R (some 5) r2.1) (some 6) r3.1) (some 7) r4.1), r4.2))
noncomputable def strings_trimLeftASCII (call : Eng.Callee) (x0 x1 : Value) (W : AW) : Option (Value × AW) :=
  bnd (oMv (strV []) W) fun r1 =>
  bnd (loopO (strings_trimLeftASCII_L1 call) (rput (argGo 0 [x0, x1] PlanTab.blank) (some 4) r1.1) r1.2) fun r13 =>
  kExit 0 r13.1 (
    bnd (oMv (r13.2.1 0) r13.2.2) fun r14 =>
    bnd (oMv r14.1 r14.2) fun r15 =>
    oRes Tryd.prog [(r15.1, none)] r15.2) (none)
theorem strings_trimLeftASCII_eq (call : Eng.Callee) (x0 x1 : Value) (W : AW) : kFun Tryd.prog call 16 (cod 118) (rss 118) [x0, x1] W = strings_trimLeftASCII call x0 x1 W := by kernel_rfl
theorem strings_trimLeftASCII_om {x0 x1 : Value} {W : AW} {r : Value × AW} (h : strings_trimLeftASCII omS x0 x1 W = some r) : omS (.func (.func 118) #[] #[]) [x0, x1] W = some (gc W r) := om_of (nt := 16) (n := 2) (by kernel_rfl) (by kernel_rfl) rfl ((strings_trimLeftASCII_eq omS x0 x1 W).trans h)
noncomputable def strings_trimRightASCII_L1 (call : Eng.Callee) (R : Nat → Value) (W : AW) : Option LT :=
  bnd (oMv (R 0) W) fun r2 =>
  bnd (oBuiltin Tryd.prog .len #[9] 3 #[false] [r2.1] r2.2) fun r3 =>
  bnd (oBin Tryd.prog .gtr 3 false true r3.1 (.int .i64 0) r3.2) fun r4 =>
  vIf r4.1 (
    bnd (oMv (R 1) r4.2) fun r5 =>
    bnd (oMv (R 0) r5.2) fun r6 =>
    bnd (oMv (R 0) r6.2) fun r7 =>
    bnd (oBuiltin Tryd.prog .len #[9] 3 #[false] [r7.1] r7.2) fun r8 =>
    bnd (oBin Tryd.prog .sub 3 false true r8.1 (.int .i64 1) r8.2) fun r9 =>
    bnd (oIndex Tryd.prog 9 r6.1 r9.1 r9.2) fun r10 =>
    bnd (call (fnV 128) [r5.1, r10.1] r10.2) fun r11 =>
    bnd (oUn Tryd.prog .not r11.1 r11.2) fun r12 =>
    vIf r12.1 (
      some (X.exit 0, (rput (rput (rput (rput (rput (rput (rput (rput (rput (rput (rput R (some 5) r2.1) (some 6) r3.1) (some 7) r4.1) (some 8) r5.1) (some 9) r6.1) (some 10) r7.1) (some 11) r8.1) (some 12) r9.1) (some 13) r10.1) (some 14) r11.1) (some 15) r12.1), r12.2)) (
      bnd (oMv (R 0) r12.2) fun r13 =>
      bnd (oMv (R 0) r13.2) fun r14 =>
      bnd (oBuiltin Tryd.prog .len #[9] 3 #[false] [r14.1] r14.2) fun r15 =>
      bnd (oBin Tryd.prog .sub 3 false true r15.1 (.int .i64 1) r15.2) fun r16 =>
      bnd (oSlice Tryd.prog 9 r13.1 none (some r16.1) none r16.2) fun r17 =>
      bnd (oMv r17.1 r17.2) fun r18 =>
      some (X.normal, (rput (rput (rput (rput (rput (rput (rput (rput (rput (rput (rput (rput (rput (rput (rput (rput (rput R (some 5) r2.1) (some 6) r3.1) (some 7) r4.1) (some 8) r5.1) (some 9) r6.1) (some 10) r7.1) (some 11) r8.1) (some 12) r9.1) (some 13) r10.1) (some 14) r11.1) (some 15) r12.1) (some 16) r13.1) (some 17) r14.1) (some 18) r15.1) (some 19) r16.1) (some 20) r17.1) (some 0) r18.1), r18.2))) (
    some (X.exit 0, (rput (rput (rput R (some 5) r2.1) (some 6) r3.1) (some 7) r4.1), r4.2))
noncomputable def strings_trimRightASCII (call : Eng.Callee) (x0 x1 : Value) (W : AW) : Option (Value × AW) :=
  bnd (oMv (strV []) W) fun r1 =>
  bnd (loopO (strings_trimRightASCII_L1 call) (rput (argGo 0 [x0, x1] PlanTab.blank) (some 4) r1.1) r1.2) fun r19 =>
  kExit 0 r19.1 (
    bnd (oMv (r19.2.1 0) r19.2.2) fun r20 =>
    bnd (oMv r20.1 r20.2) fun r21 =>
    oRes Tryd.prog [(r21.1, none)] r21.2) (none)
theorem strings_trimRightASCII_eq (call : Eng.Callee) (x0 x1 : Value) (W : AW) : kFun Tryd.prog call 22 (cod 119) (rss 119) [x0, x1] W = strings_trimRightASCII call x0 x1 W := by kernel_rfl
theorem strings_trimRightASCII_om {x0 x1 : Value} {W : AW} {r : Value × AW} (h : strings_trimRightASCII omS x0 x1 W = some r) : omS (.func (.func 119) #[] #[]) [x0, x1] W = some (gc W r) := om_of (nt := 22) (n := 2) (by kernel_rfl) (by kernel_rfl) rfl ((strings_trimRightASCII_eq omS x0 x1 W).trans h)
noncomputable def strings_asciiSet_contains (call : Eng.Callee) (x0 x1 : Value) (W : AW) : Option (Value × AW) :=
  bnd (oMv (.bool false) W) fun r1 =>
  bnd (oMv x0 r1.2) fun r2 =>
  bnd (oMv x1 r2.2) fun r3 =>
  bnd (oNilCheck r2.1 r3.2) fun r4 =>
  bnd (ixA 256 1 r4.1 r3.1 r4.2) fun r5 =>
  bnd (ldC r5.1 r5.2) fun r6 =>
  bnd (oMv r6.1 r6.2) fun r7 =>
  oRes Tryd.prog [(r7.1, none)] r7.2
theorem strings_asciiSet_contains_eq (call : Eng.Callee) (x0 x1 : Value) (W : AW) : kFun Tryd.prog call 10 (cod 128) (rss 128) [x0, x1] W = strings_asciiSet_contains call x0 x1 W := by kernel_rfl
theorem strings_asciiSet_contains_om {x0 x1 : Value} {W : AW} {r : Value × AW} (h : strings_asciiSet_contains omS x0 x1 W = some r) : omS (.func (.func 128) #[] #[]) [x0, x1] W = some (gc W r) := om_of (nt := 10) (n := 2) (by kernel_rfl) (by kernel_rfl) rfl ((strings_asciiSet_contains_eq omS x0 x1 W).trans h)
end Go.Proofs.YtfcfglpkgcheiaaDoor
