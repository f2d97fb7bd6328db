/- Texts of the program told in continuations: written by a program, shown by the kernel. -/
import Derived.Test.YtfcfglpkgcheiaaGreatDoorSBase
import Derived.KernelRfl
namespace Go.Proofs.YtfcfglpkgcheiaaGreatDoor
open Go Go.Eng
set_option linter.unusedVariables false
set_option maxRecDepth 100000
noncomputable def law15_VenueChecks_L1 (call : Eng.Callee) (R : Nat → Value) (W : AW) : Option LT :=
  bnd (oMv (R 3) W) fun r10 =>
  bnd (faO 3 (R 1) r10.2) fun r11 =>
  bnd (ldC r11.1 r11.2) fun r12 =>
  bnd (oBuiltin Tryz.prog .len #[22] 3 #[false] [r12.1] r12.2) fun r13 =>
  bnd (oBin Tryz.prog .lss 3 false false r10.1 r13.1 r13.2) fun r14 =>
  vIf r14.1 (
    bnd (faO 3 (R 1) r14.2) fun r15 =>
    bnd (ldC r15.1 r15.2) fun r16 =>
    bnd (oMv (R 3) r16.2) fun r17 =>
    bnd (ixS 3 r16.1 r17.1 r17.2) fun r18 =>
    bnd (faO 1 r18.1 r18.2) fun r19 =>
    bnd (ldC r19.1 r19.2) fun r20 =>
    bnd (oBuiltin Tryz.prog .len #[26] 3 #[false] [r20.1] r20.2) fun r21 =>
    bnd (oBin Tryz.prog .gtr 3 false true r21.1 (.int .i64 20) r21.2) fun r22 =>
    bnd (oMv r22.1 r22.2) fun r23 =>
    bnd (bIf (wnt r23.1 false) (faO 3 (R 1) r23.2) (some (undef, r23.2))) fun r24 =>
    bnd (bIf (wnt r23.1 false) (ldC r24.1 r24.2) (some (undef, r24.2))) fun r25 =>
    bnd (bIf (wnt r23.1 false) (oMv (R 3) r25.2) (some (undef, r25.2))) fun r26 =>
    bnd (bIf (wnt r23.1 false) (ixS 3 r25.1 r26.1 r26.2) (some (undef, r26.2))) fun r27 =>
    bnd (bIf (wnt r23.1 false) (faO 0 r27.1 r27.2) (some (undef, r27.2))) fun r28 =>
    bnd (bIf (wnt r23.1 false) (ldC r28.1 r28.2) (some (undef, r28.2))) fun r29 =>
    bnd (bIf (wnt r23.1 false) (oBuiltin Tryz.prog .len #[9] 3 #[false] [r29.1] r29.2) (some (undef, r29.2))) fun r30 =>
    bnd (bIf (wnt r23.1 false) (oBin Tryz.prog .gtr 3 false true r30.1 (.int .i64 100) r30.2) (some (undef, r30.2))) fun r31 =>
    bnd (oPick r23.1 (.bool true) r31.1 r31.2) fun r32 =>
    vIf r32.1 (
      bnd (call (fnV 6) [] r32.2) fun r33 =>
      bnd (oMv r33.1 r33.2) fun r34 =>
      some (X.ret, (rput (rput (rput (rput (rput (rput (rput (rput (rput (rput (rput (rput (rput (rput (rput (rput (rput (rput (rput (rput (rput (rput (rput (rput (rput R (some 17) r10.1) (some 18) r11.1) (some 19) r12.1) (some 20) r13.1) (some 21) r14.1) (some 24) r15.1) (some 25) r16.1) (some 26) r17.1) (some 27) r18.1) (some 28) r19.1) (some 29) r20.1) (some 30) r21.1) (some 31) r22.1) (some 32) r23.1) (some 33) r24.1) (some 34) r25.1) (some 35) r26.1) (some 36) r27.1) (some 37) r28.1) (some 38) r29.1) (some 39) r30.1) (some 40) r31.1) (some 41) r32.1) (some 42) r33.1) (some 2) r34.1), r34.2)) (
      bnd (oMv (R 3) r32.2) fun r35 =>
      bnd (oBin Tryz.prog .add 3 false true r35.1 (.int .i64 1) r35.2) fun r36 =>
      bnd (oMv r36.1 r36.2) fun r37 =>
      some (X.normal, (rput (rput (rput (rput (rput (rput (rput (rput (rput (rput (rput (rput (rput (rput (rput (rput (rput (rput (rput (rput (rput (rput (rput (rput (rput (rput R (some 17) r10.1) (some 18) r11.1) (some 19) r12.1) (some 20) r13.1) (some 21) r14.1) (some 24) r15.1) (some 25) r16.1) (some 26) r17.1) (some 27) r18.1) (some 28) r19.1) (some 29) r20.1) (some 30) r21.1) (some 31) r22.1) (some 32) r23.1) (some 33) r24.1) (some 34) r25.1) (some 35) r26.1) (some 36) r27.1) (some 37) r28.1) (some 38) r29.1) (some 39) r30.1) (some 40) r31.1) (some 41) r32.1) (some 22) r35.1) (some 23) r36.1) (some 3) r37.1), r37.2))) (
    some (X.exit 0, (rput (rput (rput (rput (rput R (some 17) r10.1) (some 18) r11.1) (some 19) r12.1) (some 20) r13.1) (some 21) r14.1), r14.2))
noncomputable def law15_VenueChecks (call : Eng.Callee) (x0 : Value) (W : AW) : Option (Value × AW) :=
  bnd (oBox x0 W) fun r1 =>
  bnd (oMv (.bool false) r1.2) fun r2 =>
  bnd (faO 3 r1.1 r2.2) fun r3 =>
  bnd (ldC r3.1 r3.2) fun r4 =>
  bnd (oBuiltin Tryz.prog .len #[22] 3 #[false] [r4.1] r4.2) fun r5 =>
  bnd (oBin Tryz.prog .gtr 3 false true r5.1 (.int .i64 10) r5.2) fun r6 =>
  vIf r6.1 (
    bnd (call (fnV 6) [] r6.2) fun r7 =>
    bnd (oMv r7.1 r7.2) fun r8 =>
    oRes Tryz.prog [(r8.1, none)] r8.2) (
    bnd (oMv (.int .i64 0) r6.2) fun r9 =>
    bnd (loopO (law15_VenueChecks_L1 call) (rput (rput (rput (rput (rput (rput (rput (argGo 0 [x0] PlanTab.blank) (some 1) r1.1) (some 2) r2.1) (some 12) r3.1) (some 13) r4.1) (some 14) r5.1) (some 15) r6.1) (some 3) r9.1) r9.2) fun r38 =>
    kExit 0 r38.1 (
      bnd (ldA 4 (r38.2.1 1) r38.2.2) fun r39 =>
      bnd (call (fnV 7) [r39.1] r39.2) fun r40 =>
      bnd (oMv r40.1 r40.2) fun r41 =>
      bnd (oExtract r41.1 0 r41.2) fun r42 =>
      bnd (oExtract r41.1 1 r42.2) fun r43 =>
      bnd (oMv r42.1 r43.2) fun r44 =>
      bnd (oMv r43.1 r44.2) fun r45 =>
      bnd (ldA 4 (r38.2.1 1) r45.2) fun r46 =>
      bnd (call (fnV 8) [r46.1] r46.2) fun r47 =>
      bnd (oMv r47.1 r47.2) fun r48 =>
      bnd (oExtract r48.1 0 r48.2) fun r49 =>
      bnd (oExtract r48.1 1 r49.2) fun r50 =>
      bnd (oMv r49.1 r50.2) fun r51 =>
      bnd (oMv r50.1 r51.2) fun r52 =>
      bnd (ldA 4 (r38.2.1 1) r52.2) fun r53 =>
      bnd (call (fnV 9) [r53.1] r53.2) fun r54 =>
      bnd (oMv r54.1 r54.2) fun r55 =>
      bnd (oExtract r55.1 0 r55.2) fun r56 =>
      bnd (oExtract r55.1 1 r56.2) fun r57 =>
      bnd (oMv r56.1 r57.2) fun r58 =>
      bnd (oMv r57.1 r58.2) fun r59 =>
      bnd (ldA 4 (r38.2.1 1) r59.2) fun r60 =>
      bnd (call (fnV 10) [r60.1] r60.2) fun r61 =>
      bnd (oMv r61.1 r61.2) fun r62 =>
      bnd (oExtract r62.1 0 r62.2) fun r63 =>
      bnd (oExtract r62.1 1 r63.2) fun r64 =>
      bnd (oMv r63.1 r64.2) fun r65 =>
      bnd (oMv r64.1 r65.2) fun r66 =>
      bnd (oMv r44.1 r66.2) fun r67 =>
      bnd (oMv r51.1 r67.2) fun r68 =>
      bnd (oBin Tryz.prog .eql 3 false false r67.1 r68.1 r68.2) fun r69 =>
      bnd (oMv r69.1 r69.2) fun r70 =>
      bnd (bIf (wnt r70.1 true) (oMv r45.1 r70.2) (some (undef, r70.2))) fun r71 =>
      bnd (bIf (wnt r70.1 true) (oMv r52.1 r71.2) (some (undef, r71.2))) fun r72 =>
      bnd (bIf (wnt r70.1 true) (oBin Tryz.prog .eql 29 false false r71.1 r72.1 r72.2) (some (undef, r72.2))) fun r73 =>
      bnd (oPick r70.1 r73.1 (.bool false) r73.2) fun r74 =>
      bnd (oMv r74.1 r74.2) fun r75 =>
      bnd (bIf (wnt r75.1 true) (oMv r58.1 r75.2) (some (undef, r75.2))) fun r76 =>
      bnd (bIf (wnt r75.1 true) (oMv r65.1 r76.2) (some (undef, r76.2))) fun r77 =>
      bnd (bIf (wnt r75.1 true) (oBin Tryz.prog .eql 3 false false r76.1 r77.1 r77.2) (some (undef, r77.2))) fun r78 =>
      bnd (oPick r75.1 r78.1 (.bool false) r78.2) fun r79 =>
      bnd (oMv r79.1 r79.2) fun r80 =>
      bnd (bIf (wnt r80.1 true) (oMv r59.1 r80.2) (some (undef, r80.2))) fun r81 =>
      bnd (bIf (wnt r80.1 true) (oMv r66.1 r81.2) (some (undef, r81.2))) fun r82 =>
      bnd (bIf (wnt r80.1 true) (oBin Tryz.prog .eql 29 false false r81.1 r82.1 r82.2) (some (undef, r82.2))) fun r83 =>
      bnd (oPick r80.1 r83.1 (.bool false) r83.2) fun r84 =>
      bnd (oMv r84.1 r84.2) fun r85 =>
      bnd (bIf (wnt r85.1 true) (call (fnV 6) [] r85.2) (some (undef, r85.2))) fun r86 =>
      bnd (oPick r85.1 r86.1 (.bool false) r86.2) fun r87 =>
      bnd (oMv r87.1 r87.2) fun r88 =>
      oRes Tryz.prog [(r88.1, none)] r88.2) (kRetX r38.1 (
      oRes Tryz.prog [((r38.2.1 2), none)] r38.2.2)))
theorem law15_VenueChecks_eq (call : Eng.Callee) (x0 : Value) (W : AW) : kFun Tryz.prog call 84 (cod 3) (rss 3) [x0] W = law15_VenueChecks call x0 W := by kernel_rfl
theorem law15_VenueChecks_om {x0 : Value} {W : AW} {r : Value × AW} (h : law15_VenueChecks omS x0 W = some r) : omS (.func (.func 3) #[] #[]) [x0] W = some (gc W r) := om_of (nt := 84) (n := 1) (by kernel_rfl) (by kernel_rfl) rfl ((law15_VenueChecks_eq omS x0 W).trans h)
noncomputable def venue_Check_L1_L2 (call : Eng.Callee) (R : Nat → Value) (W : AW) : Option LT :=
  bnd (oBin Tryz.prog .lss 3 false false (R 55) (R 54) W) fun r63 =>
  vIf r63.1 (
    bnd (ixS 1 (R 53) (R 55) r63.2) fun r64 =>
    bnd (ldC r64.1 r64.2) fun r65 =>
    bnd (oMv r65.1 r65.2) fun r66 =>
    bnd (oMv (R 4) r66.2) fun r67 =>
    bnd (oMv r66.1 r67.2) fun r68 =>
    bnd (oBin Tryz.prog .add 3 false false r67.1 r68.1 r68.2) fun r69 =>
    bnd (oMv r69.1 r69.2) fun r70 =>
    bnd (oBin Tryz.prog .add 3 false true (R 55) (.int .i64 1) r70.2) fun r71 =>
    bnd (oMv r71.1 r71.2) fun r72 =>
    some (X.normal, (rput (rput (rput (rput (rput (rput (rput (rput (rput (rput R (some 56) r63.1) (some 57) r64.1) (some 58) r65.1) (some 9) r66.1) (some 59) r67.1) (some 60) r68.1) (some 61) r69.1) (some 4) r70.1) (some 62) r71.1) (some 55) r72.1), r72.2)) (
    some (X.exit 3, (rput R (some 56) r63.1), r63.2))
noncomputable def venue_Check_L1 (call : Eng.Callee) (R : Nat → Value) (W : AW) : Option LT :=
  bnd (oBin Tryz.prog .lss 3 false false (R 37) (R 36) W) fun r39 =>
  vIf r39.1 (
    bnd (oMv (R 37) r39.2) fun r40 =>
    bnd (ixS 3 (R 35) (R 37) r40.2) fun r41 =>
    bnd (ldA 3 r41.1 r41.2) fun r42 =>
    bnd (oAlloc Tryz.prog 28 r42.2) fun r43 =>
    bnd (oMv r40.1 r43.2) fun r44 =>
    bnd (stV 3 r43.1 r42.1 r44.2) fun r45 =>
    bnd (ldA 3 r43.1 r45.2) fun r46 =>
    bnd (faO 3 (R 1) r46.2) fun r47 =>
    bnd (ldC r47.1 r47.2) fun r48 =>
    bnd (oMv r44.1 r48.2) fun r49 =>
    bnd (oSlice Tryz.prog 22 r48.1 none (some r49.1) none r49.2) fun r50 =>
    bnd (call (fnV 35) [r46.1, r50.1] r50.2) fun r51 =>
    bnd (oMv r51.1 r51.2) fun r52 =>
    bnd (oMv r52.1 r52.2) fun r53 =>
    bnd (oBin Tryz.prog .neq 29 false true r53.1 (.int .i64 0) r53.2) fun r54 =>
    vIf r54.1 (
      bnd (oMv r44.1 r54.2) fun r55 =>
      bnd (oMv r52.1 r55.2) fun r56 =>
      bnd (oMv r55.1 r56.2) fun r57 =>
      bnd (oMv r56.1 r57.2) fun r58 =>
      some (X.ret, (rput (rput (rput (rput (rput (rput (rput (rput (rput (rput (rput (rput (rput (rput (rput (rput (rput (rput (rput R (some 38) r39.1) (some 39) r40.1) (some 40) r41.1) (some 41) r42.1) (some 6) r43.1) (some 5) r44.1) (some 42) r46.1) (some 43) r47.1) (some 44) r48.1) (some 45) r49.1) (some 46) r50.1) (some 47) r51.1) (some 7) r52.1) (some 48) r53.1) (some 49) r54.1) (some 50) r55.1) (some 51) r56.1) (some 2) r57.1) (some 3) r58.1), r58.2)) (
      bnd (faO 1 r43.1 r54.2) fun r59 =>
      bnd (ldC r59.1 r59.2) fun r60 =>
      bnd (oBuiltin Tryz.prog .len #[26] 3 #[false] [r60.1] r60.2) fun r61 =>
      bnd (oMv (.int .i64 0) r61.2) fun r62 =>
      bnd (loopO (venue_Check_L1_L2 call) (rput (rput (rput (rput (rput (rput (rput (rput (rput (rput (rput (rput (rput (rput (rput (rput (rput (rput (rput R (some 38) r39.1) (some 39) r40.1) (some 40) r41.1) (some 41) r42.1) (some 6) r43.1) (some 5) r44.1) (some 42) r46.1) (some 43) r47.1) (some 44) r48.1) (some 45) r49.1) (some 46) r50.1) (some 47) r51.1) (some 7) r52.1) (some 48) r53.1) (some 49) r54.1) (some 52) r59.1) (some 53) r60.1) (some 54) r61.1) (some 55) r62.1) r62.2) fun r73 =>
      kExit 3 r73.1 (
        bnd (oBin Tryz.prog .add 3 false true (r73.2.1 37) (.int .i64 1) r73.2.2) fun r74 =>
        bnd (oMv r74.1 r74.2) fun r75 =>
        some (X.normal, (rput (rput r73.2.1 (some 63) r74.1) (some 37) r75.1), r75.2)) (none))) (
    some (X.exit 1, (rput R (some 38) r39.1), r39.2))
noncomputable def venue_Check (call : Eng.Callee) (x0 : Value) (W : AW) : Option (Value × AW) :=
  bnd (oBox x0 W) fun r1 =>
  bnd (oMv (.int .i64 0) r1.2) fun r2 =>
  bnd (oMv (.int .i64 0) r2.2) fun r3 =>
  bnd (faO 0 r1.1 r3.2) fun r4 =>
  bnd (ldC r4.1 r4.2) fun r5 =>
  bnd (call (fnV 33) [r5.1, (.int .i64 1), (.int .i64 16)] r5.2) fun r6 =>
  bnd (oMv r6.1 r6.2) fun r7 =>
  bnd (bIf (wnt r7.1 false) (faO 1 r1.1 r7.2) (some (undef, r7.2))) fun r8 =>
  bnd (bIf (wnt r7.1 false) (ldC r8.1 r8.2) (some (undef, r8.2))) fun r9 =>
  bnd (bIf (wnt r7.1 false) (call (fnV 34) [r9.1, (.int .i64 1), (.int .i64 1000000000)] r9.2) (some (undef, r9.2))) fun r10 =>
  bnd (oPick r7.1 (.bool true) r10.1 r10.2) fun r11 =>
  bnd (oMv r11.1 r11.2) fun r12 =>
  bnd (bIf (wnt r12.1 false) (faO 2 r1.1 r12.2) (some (undef, r12.2))) fun r13 =>
  bnd (bIf (wnt r12.1 false) (ldC r13.1 r13.2) (some (undef, r13.2))) fun r14 =>
  bnd (bIf (wnt r12.1 false) (call (fnV 34) [r14.1, (.int .i64 1), (.int .i64 1000000000)] r14.2) (some (undef, r14.2))) fun r15 =>
  bnd (oPick r12.1 (.bool true) r15.1 r15.2) fun r16 =>
  bnd (oMv r16.1 r16.2) fun r17 =>
  vIf r17.1 (
    bnd (oMv (.int .i64 (-1)) r17.2) fun r18 =>
    bnd (oMv (.int .i64 7) r18.2) fun r19 =>
    oRes Tryz.prog [(r18.1, none), (r19.1, none)] r19.2) (
    bnd (faO 3 r1.1 r17.2) fun r20 =>
    bnd (ldC r20.1 r20.2) fun r21 =>
    bnd (oBuiltin Tryz.prog .len #[22] 3 #[false] [r21.1] r21.2) fun r22 =>
    bnd (oBin Tryz.prog .eql 3 false true r22.1 (.int .i64 0) r22.2) fun r23 =>
    bnd (oMv r23.1 r23.2) fun r24 =>
    vIf r24.1 (
      bnd (oMv (.int .i64 (-1)) r24.2) fun r25 =>
      bnd (oMv (.int .i64 6) r25.2) fun r26 =>
      oRes Tryz.prog [(r25.1, none), (r26.1, none)] r26.2) (
      bnd (faO 3 r1.1 r24.2) fun r27 =>
      bnd (ldC r27.1 r27.2) fun r28 =>
      bnd (oBuiltin Tryz.prog .len #[22] 3 #[false] [r28.1] r28.2) fun r29 =>
      bnd (oBin Tryz.prog .gtr 3 false true r29.1 (.int .i64 8) r29.2) fun r30 =>
      bnd (oMv r30.1 r30.2) fun r31 =>
      vIf r31.1 (
        bnd (oMv (.int .i64 (-1)) r31.2) fun r32 =>
        bnd (oMv (.int .i64 3) r32.2) fun r33 =>
        oRes Tryz.prog [(r32.1, none), (r33.1, none)] r33.2) (
        bnd (oMv (.int .i64 0) r31.2) fun r34 =>
        bnd (faO 3 r1.1 r34.2) fun r35 =>
        bnd (ldC r35.1 r35.2) fun r36 =>
        bnd (oBuiltin Tryz.prog .len #[22] 3 #[false] [r36.1] r36.2) fun r37 =>
        bnd (oMv (.int .i64 0) r37.2) fun r38 =>
        bnd (loopO (venue_Check_L1 call) (rput (rput (rput (rput (rput (rput (rput (rput (rput (rput (rput (rput (rput (rput (rput (rput (rput (rput (rput (rput (rput (rput (rput (rput (rput (rput (rput (rput (rput (rput (rput (rput (argGo 0 [x0] PlanTab.blank) (some 1) r1.1) (some 2) r2.1) (some 3) r3.1) (some 11) r4.1) (some 12) r5.1) (some 13) r6.1) (some 14) r7.1) (some 15) r8.1) (some 16) r9.1) (some 17) r10.1) (some 18) r11.1) (some 19) r12.1) (some 20) r13.1) (some 21) r14.1) (some 22) r15.1) (some 23) r16.1) (some 10) r17.1) (some 25) r20.1) (some 26) r21.1) (some 27) r22.1) (some 28) r23.1) (some 24) r24.1) (some 30) r27.1) (some 31) r28.1) (some 32) r29.1) (some 33) r30.1) (some 29) r31.1) (some 4) r34.1) (some 34) r35.1) (some 35) r36.1) (some 36) r37.1) (some 37) r38.1) r38.2) fun r76 =>
        kExit 1 r76.1 (
          bnd (oMv (r76.2.1 4) r76.2.2) fun r77 =>
          bnd (oBin Tryz.prog .gtr 3 false true r77.1 (.int .i64 4096) r77.2) fun r78 =>
          vIf r78.1 (
            bnd (oMv (.int .i64 (-1)) r78.2) fun r79 =>
            bnd (oMv (.int .i64 3) r79.2) fun r80 =>
            oRes Tryz.prog [(r79.1, none), (r80.1, none)] r80.2) (
            bnd (oMv (.int .i64 0) r78.2) fun r81 =>
            bnd (oMv (.int .i64 0) r81.2) fun r82 =>
            oRes Tryz.prog [(r81.1, none), (r82.1, none)] r82.2)) (kRetX r76.1 (
          oRes Tryz.prog [((r76.2.1 2), none), ((r76.2.1 3), none)] r76.2.2)))))
theorem venue_Check_eq (call : Eng.Callee) (x0 : Value) (W : AW) : kFun Tryz.prog call 66 (cod 7) (rss 7) [x0] W = venue_Check call x0 W := by kernel_rfl
theorem venue_Check_om {x0 : Value} {W : AW} {r : Value × AW} (h : venue_Check omS x0 W = some r) : omS (.func (.func 7) #[] #[]) [x0] W = some (gc W r) := om_of (nt := 66) (n := 1) (by kernel_rfl) (by kernel_rfl) rfl ((venue_Check_eq omS x0 W).trans h)
noncomputable def ref15_Check_L1 (call : Eng.Callee) (R : Nat → Value) (W : AW) : Option LT :=
  bnd (oMv (R 4) W) fun r35 =>
  bnd (faO 3 (R 1) r35.2) fun r36 =>
  bnd (ldC r36.1 r36.2) fun r37 =>
  bnd (oBuiltin Tryz.prog .len #[22] 3 #[false] [r37.1] r37.2) fun r38 =>
  bnd (oBin Tryz.prog .lss 3 false false r35.1 r38.1 r38.2) fun r39 =>
  vIf r39.1 (
    bnd (ldA 4 (R 1) r39.2) fun r40 =>
    bnd (oMv (R 4) r40.2) fun r41 =>
    bnd (call (fnV 37) [r40.1, r41.1] r41.2) fun r42 =>
    bnd (oMv r42.1 r42.2) fun r43 =>
    bnd (oMv r43.1 r43.2) fun r44 =>
    bnd (oBin Tryz.prog .neq 29 false true r44.1 (.int .i64 0) r44.2) fun r45 =>
    vIf r45.1 (
      bnd (oMv (R 4) r45.2) fun r46 =>
      bnd (oMv r43.1 r46.2) fun r47 =>
      bnd (oMv r46.1 r47.2) fun r48 =>
      bnd (oMv r47.1 r48.2) fun r49 =>
      some (X.ret, (rput (rput (rput (rput (rput (rput (rput (rput (rput (rput (rput (rput (rput (rput (rput R (some 30) r35.1) (some 31) r36.1) (some 32) r37.1) (some 33) r38.1) (some 34) r39.1) (some 37) r40.1) (some 38) r41.1) (some 39) r42.1) (some 5) r43.1) (some 40) r44.1) (some 41) r45.1) (some 42) r46.1) (some 43) r47.1) (some 2) r48.1) (some 3) r49.1), r49.2)) (
      bnd (oMv (R 4) r45.2) fun r50 =>
      bnd (oBin Tryz.prog .add 3 false true r50.1 (.int .i64 1) r50.2) fun r51 =>
      bnd (oMv r51.1 r51.2) fun r52 =>
      some (X.normal, (rput (rput (rput (rput (rput (rput (rput (rput (rput (rput (rput (rput (rput (rput R (some 30) r35.1) (some 31) r36.1) (some 32) r37.1) (some 33) r38.1) (some 34) r39.1) (some 37) r40.1) (some 38) r41.1) (some 39) r42.1) (some 5) r43.1) (some 40) r44.1) (some 41) r45.1) (some 35) r50.1) (some 36) r51.1) (some 4) r52.1), r52.2))) (
    some (X.exit 0, (rput (rput (rput (rput (rput R (some 30) r35.1) (some 31) r36.1) (some 32) r37.1) (some 33) r38.1) (some 34) r39.1), r39.2))
noncomputable def ref15_Check (call : Eng.Callee) (x0 : Value) (W : AW) : Option (Value × AW) :=
  bnd (oBox x0 W) fun r1 =>
  bnd (oMv (.int .i64 0) r1.2) fun r2 =>
  bnd (oMv (.int .i64 0) r2.2) fun r3 =>
  bnd (faO 0 r1.1 r3.2) fun r4 =>
  bnd (ldC r4.1 r4.2) fun r5 =>
  bnd (call (fnV 36) [r5.1, (.int .i64 1), (.int .i64 16)] r5.2) fun r6 =>
  bnd (oUn Tryz.prog .not r6.1 r6.2) fun r7 =>
  bnd (oMv r7.1 r7.2) fun r8 =>
  bnd (bIf (wnt r8.1 false) (faO 1 r1.1 r8.2) (some (undef, r8.2))) fun r9 =>
  bnd (bIf (wnt r8.1 false) (ldC r9.1 r9.2) (some (undef, r9.2))) fun r10 =>
  bnd (bIf (wnt r8.1 false) (call (fnV 36) [r10.1, (.int .i64 1), (.int .i64 1000000000)] r10.2) (some (undef, r10.2))) fun r11 =>
  bnd (bIf (wnt r8.1 false) (oUn Tryz.prog .not r11.1 r11.2) (some (undef, r11.2))) fun r12 =>
  bnd (oPick r8.1 (.bool true) r12.1 r12.2) fun r13 =>
  bnd (oMv r13.1 r13.2) fun r14 =>
  bnd (bIf (wnt r14.1 false) (faO 2 r1.1 r14.2) (some (undef, r14.2))) fun r15 =>
  bnd (bIf (wnt r14.1 false) (ldC r15.1 r15.2) (some (undef, r15.2))) fun r16 =>
  bnd (bIf (wnt r14.1 false) (call (fnV 36) [r16.1, (.int .i64 1), (.int .i64 1000000000)] r16.2) (some (undef, r16.2))) fun r17 =>
  bnd (bIf (wnt r14.1 false) (oUn Tryz.prog .not r17.1 r17.2) (some (undef, r17.2))) fun r18 =>
  bnd (oPick r14.1 (.bool true) r18.1 r18.2) fun r19 =>
  vIf r19.1 (
    bnd (oMv (.int .i64 (-1)) r19.2) fun r20 =>
    bnd (oMv (.int .i64 7) r20.2) fun r21 =>
    oRes Tryz.prog [(r20.1, none), (r21.1, none)] r21.2) (
    bnd (faO 3 r1.1 r19.2) fun r22 =>
    bnd (ldC r22.1 r22.2) fun r23 =>
    bnd (oBuiltin Tryz.prog .len #[22] 3 #[false] [r23.1] r23.2) fun r24 =>
    bnd (oBin Tryz.prog .eql 3 false true r24.1 (.int .i64 0) r24.2) fun r25 =>
    vIf r25.1 (
      bnd (oMv (.int .i64 (-1)) r25.2) fun r26 =>
      bnd (oMv (.int .i64 6) r26.2) fun r27 =>
      oRes Tryz.prog [(r26.1, none), (r27.1, none)] r27.2) (
      bnd (faO 3 r1.1 r25.2) fun r28 =>
      bnd (ldC r28.1 r28.2) fun r29 =>
      bnd (oBuiltin Tryz.prog .len #[22] 3 #[false] [r29.1] r29.2) fun r30 =>
      bnd (oBin Tryz.prog .gtr 3 false true r30.1 (.int .i64 8) r30.2) fun r31 =>
      vIf r31.1 (
        bnd (oMv (.int .i64 (-1)) r31.2) fun r32 =>
        bnd (oMv (.int .i64 3) r32.2) fun r33 =>
        oRes Tryz.prog [(r32.1, none), (r33.1, none)] r33.2) (
        bnd (oMv (.int .i64 0) r31.2) fun r34 =>
        bnd (loopO (ref15_Check_L1 call) (rput (rput (rput (rput (rput (rput (rput (rput (rput (rput (rput (rput (rput (rput (rput (rput (rput (rput (rput (rput (rput (rput (rput (rput (rput (rput (rput (rput (argGo 0 [x0] PlanTab.blank) (some 1) r1.1) (some 2) r2.1) (some 3) r3.1) (some 6) r4.1) (some 7) r5.1) (some 8) r6.1) (some 9) r7.1) (some 10) r8.1) (some 11) r9.1) (some 12) r10.1) (some 13) r11.1) (some 14) r12.1) (some 15) r13.1) (some 16) r14.1) (some 17) r15.1) (some 18) r16.1) (some 19) r17.1) (some 20) r18.1) (some 21) r19.1) (some 22) r22.1) (some 23) r23.1) (some 24) r24.1) (some 25) r25.1) (some 26) r28.1) (some 27) r29.1) (some 28) r30.1) (some 29) r31.1) (some 4) r34.1) r34.2) fun r53 =>
        kExit 0 r53.1 (
          bnd (ldA 4 (r53.2.1 1) r53.2.2) fun r54 =>
          bnd (call (fnV 38) [r54.1] r54.2) fun r55 =>
          bnd (oBuiltin Tryz.prog .len #[55] 3 #[false] [r55.1] r55.2) fun r56 =>
          bnd (oBin Tryz.prog .gtr 3 false true r56.1 (.int .i64 4096) r56.2) fun r57 =>
          vIf r57.1 (
            bnd (oMv (.int .i64 (-1)) r57.2) fun r58 =>
            bnd (oMv (.int .i64 3) r58.2) fun r59 =>
            oRes Tryz.prog [(r58.1, none), (r59.1, none)] r59.2) (
            bnd (oMv (.int .i64 0) r57.2) fun r60 =>
            bnd (oMv (.int .i64 0) r60.2) fun r61 =>
            oRes Tryz.prog [(r60.1, none), (r61.1, none)] r61.2)) (kRetX r53.1 (
          oRes Tryz.prog [((r53.2.1 2), none), ((r53.2.1 3), none)] r53.2.2)))))
theorem ref15_Check_eq (call : Eng.Callee) (x0 : Value) (W : AW) : kFun Tryz.prog call 48 (cod 8) (rss 8) [x0] W = ref15_Check call x0 W := by kernel_rfl
theorem ref15_Check_om {x0 : Value} {W : AW} {r : Value × AW} (h : ref15_Check omS x0 W = some r) : omS (.func (.func 8) #[] #[]) [x0] W = some (gc W r) := om_of (nt := 48) (n := 1) (by kernel_rfl) (by kernel_rfl) rfl ((ref15_Check_eq omS x0 W).trans h)
noncomputable def venue_Seats_Y1a (call : Eng.Callee) (R : Nat → Value) (W : AW) : Option LT :=
  bnd (oAlloc Tryz.prog 61 W) fun r18 =>
  bnd (stV 4 r18.1 (R 17) r18.2) fun r19 =>
  some (X.normal, (rput R (some 6) r18.1), r19.2)
theorem venue_Seats_Y1a_eq (call : Eng.Callee) (R : Nat → Value) (W : AW) : kCode Tryz.prog call false 23 (cAt [1, 1, 0, 1, 0, 0] (cod 9)) LT R W ret3 = venue_Seats_Y1a call R W := by kernel_rfl
noncomputable def venue_Seats_Y1b (call : Eng.Callee) (R : Nat → Value) (W : AW) : Option LT :=
  bnd (ldC (R 2) W) fun r20 =>
  bnd (faO 3 (R 6) r20.2) fun r21 =>
  bnd (ldC r21.1 r21.2) fun r22 =>
  bnd (oBin Tryz.prog .add 3 false false r20.1 r22.1 r22.2) fun r23 =>
  bnd (stV 1 (R 2) r23.1 r23.2) fun r24 =>
  some (X.normal, (rput (rput (rput (rput R (some 18) r20.1) (some 19) r21.1) (some 20) r22.1) (some 21) r23.1), r24.2)
theorem venue_Seats_Y1b_eq (call : Eng.Callee) (R : Nat → Value) (W : AW) : kCode Tryz.prog call false 23 (cAt [1, 1, 0, 1, 0, 1] (cod 9)) LT R W ret3 = venue_Seats_Y1b call R W := by kernel_rfl
noncomputable def venue_Seats (call : Eng.Callee) (x0 : Value) (W : AW) : Option (Value × AW) :=
  bnd (oBox x0 W) fun r1 =>
  bnd (oAlloc Tryz.prog 3 r1.2) fun r2 =>
  bnd (oMv (.int .i64 0) r2.2) fun r3 =>
  bnd (ldA 4 r1.1 r3.2) fun r4 =>
  bnd (call (fnV 7) [r4.1] r4.2) fun r5 =>
  bnd (oMv r5.1 r5.2) fun r6 =>
  bnd (oExtract r6.1 0 r6.2) fun r7 =>
  bnd (oExtract r6.1 1 r7.2) fun r8 =>
  bnd (oMv r7.1 r8.2) fun r9 =>
  bnd (oMv r8.1 r9.2) fun r10 =>
  bnd (oMv r10.1 r10.2) fun r11 =>
  bnd (oBin Tryz.prog .neq 29 false true r11.1 (.int .i64 0) r11.2) fun r12 =>
  vIf r12.1 (
    bnd (oMv r10.1 r12.2) fun r13 =>
    bnd (stV 1 r2.1 (.int .i64 0) r13.2) fun r14 =>
    bnd (oMv r13.1 r14.2) fun r15 =>
    oRes Tryz.prog [(r2.1, some 3), (r15.1, none)] r15.2) (
    bnd (ldA 4 r1.1 r12.2) fun r16 =>
    bnd (call (fnV 39) [r16.1] r16.2) fun r17 =>
    bnd (oRange call r17.1 (.loop .ready none (rput (rput (rput (rput (rput (rput (rput (rput (rput (rput (rput (rput (rput (rput (argGo 0 [x0] PlanTab.blank) (some 1) r1.1) (some 2) r2.1) (some 3) r3.1) (some 8) r4.1) (some 9) r5.1) (some 7) r6.1) (some 10) r7.1) (some 11) r8.1) (some 4) r9.1) (some 5) r10.1) (some 12) r11.1) (some 13) r12.1) (some 15) r16.1) (some 16) r17.1) 23 #[17] (cAt [1, 1, 0, 1, 0, 0] (cod 9)) (cAt [1, 1, 0, 1, 0, 1] (cod 9))) r17.2) fun r25 =>
    kNorm r25.1 (
      bnd (ldC r2.1 r25.2) fun r26 =>
      bnd (stV 1 r2.1 r26.1 r26.2) fun r27 =>
      bnd (oMv (.int .i64 0) r27.2) fun r28 =>
      oRes Tryz.prog [(r2.1, some 3), (r28.1, none)] r28.2) (none))
theorem venue_Seats_eq (call : Eng.Callee) (x0 : Value) (W : AW) : kFun Tryz.prog call 23 (cod 9) (rss 9) [x0] W = venue_Seats call x0 W := by kernel_rfl
theorem venue_Seats_om {x0 : Value} {W : AW} {r : Value × AW} (h : venue_Seats omS x0 W = some r) : omS (.func (.func 9) #[] #[]) [x0] W = some (gc W r) := om_of (nt := 23) (n := 1) (by kernel_rfl) (by kernel_rfl) rfl ((venue_Seats_eq omS x0 W).trans h)
noncomputable def ref15_Seats (call : Eng.Callee) (x0 : Value) (W : AW) : Option (Value × AW) :=
  bnd (oBox x0 W) fun r1 =>
  bnd (oMv (.int .i64 0) r1.2) fun r2 =>
  bnd (oMv (.int .i64 0) r2.2) fun r3 =>
  bnd (ldA 4 r1.1 r3.2) fun r4 =>
  bnd (call (fnV 8) [r4.1] r4.2) fun r5 =>
  bnd (oMv r5.1 r5.2) fun r6 =>
  bnd (oExtract r6.1 0 r6.2) fun r7 =>
  bnd (oExtract r6.1 1 r7.2) fun r8 =>
  bnd (oMv r7.1 r8.2) fun r9 =>
  bnd (oMv r8.1 r9.2) fun r10 =>
  bnd (oMv r10.1 r10.2) fun r11 =>
  bnd (oBin Tryz.prog .neq 29 false true r11.1 (.int .i64 0) r11.2) fun r12 =>
  vIf r12.1 (
    bnd (oMv r10.1 r12.2) fun r13 =>
    bnd (oMv (.int .i64 0) r13.2) fun r14 =>
    bnd (oMv r13.1 r14.2) fun r15 =>
    oRes Tryz.prog [(r14.1, none), (r15.1, none)] r15.2) (
    bnd (ldA 4 r1.1 r12.2) fun r16 =>
    bnd (call (fnV 38) [r16.1] r16.2) fun r17 =>
    bnd (oBuiltin Tryz.prog .len #[55] 3 #[false] [r17.1] r17.2) fun r18 =>
    bnd (oMv r18.1 r18.2) fun r19 =>
    bnd (oMv (.int .i64 0) r19.2) fun r20 =>
    oRes Tryz.prog [(r19.1, none), (r20.1, none)] r20.2)
theorem ref15_Seats_eq (call : Eng.Callee) (x0 : Value) (W : AW) : kFun Tryz.prog call 17 (cod 10) (rss 10) [x0] W = ref15_Seats call x0 W := by kernel_rfl
theorem ref15_Seats_om {x0 : Value} {W : AW} {r : Value × AW} (h : ref15_Seats omS x0 W = some r) : omS (.func (.func 10) #[] #[]) [x0] W = some (gc W r) := om_of (nt := 17) (n := 1) (by kernel_rfl) (by kernel_rfl) rfl ((ref15_Seats_eq omS x0 W).trans h)
noncomputable def venue_outsideint (call : Eng.Callee) (x0 x1 x2 : Value) (W : AW) : Option (Value × AW) :=
  bnd (oMv (.bool false) W) fun r1 =>
  bnd (oMv x0 r1.2) fun r2 =>
  bnd (oMv x1 r2.2) fun r3 =>
  bnd (oBin Tryz.prog .lss 3 false false r2.1 r3.1 r3.2) fun r4 =>
  bnd (oMv r4.1 r4.2) fun r5 =>
  bnd (bIf (wnt r5.1 false) (oMv x0 r5.2) (some (undef, r5.2))) fun r6 =>
  bnd (bIf (wnt r5.1 false) (oMv x2 r6.2) (some (undef, r6.2))) fun r7 =>
  bnd (bIf (wnt r5.1 false) (oBin Tryz.prog .gtr 3 false false r6.1 r7.1 r7.2) (some (undef, r7.2))) fun r8 =>
  bnd (oPick r5.1 (.bool true) r8.1 r8.2) fun r9 =>
  bnd (oMv r9.1 r9.2) fun r10 =>
  oRes Tryz.prog [(r10.1, none)] r10.2
theorem venue_outsideint_eq (call : Eng.Callee) (x0 x1 x2 : Value) (W : AW) : kFun Tryz.prog call 15 (cod 33) (rss 33) [x0, x1, x2] W = venue_outsideint call x0 x1 x2 W := by kernel_rfl
theorem venue_outsideint_om {x0 x1 x2 : Value} {W : AW} {r : Value × AW} (h : venue_outsideint omS x0 x1 x2 W = some r) : omS (.func (.func 33) #[] #[]) [x0, x1, x2] W = some (gc W r) := om_of (nt := 15) (n := 3) (by kernel_rfl) (by kernel_rfl) rfl ((venue_outsideint_eq omS x0 x1 x2 W).trans h)
noncomputable def venue_outsideint64 (call : Eng.Callee) (x0 x1 x2 : Value) (W : AW) : Option (Value × AW) :=
  bnd (oMv (.bool false) W) fun r1 =>
  bnd (oMv x0 r1.2) fun r2 =>
  bnd (oMv x1 r2.2) fun r3 =>
  bnd (oBin Tryz.prog .lss 2 false false r2.1 r3.1 r3.2) fun r4 =>
  bnd (oMv r4.1 r4.2) fun r5 =>
  bnd (bIf (wnt r5.1 false) (oMv x0 r5.2) (some (undef, r5.2))) fun r6 =>
  bnd (bIf (wnt r5.1 false) (oMv x2 r6.2) (some (undef, r6.2))) fun r7 =>
  bnd (bIf (wnt r5.1 false) (oBin Tryz.prog .gtr 2 false false r6.1 r7.1 r7.2) (some (undef, r7.2))) fun r8 =>
  bnd (oPick r5.1 (.bool true) r8.1 r8.2) fun r9 =>
  bnd (oMv r9.1 r9.2) fun r10 =>
  oRes Tryz.prog [(r10.1, none)] r10.2
theorem venue_outsideint64_eq (call : Eng.Callee) (x0 x1 x2 : Value) (W : AW) : kFun Tryz.prog call 15 (cod 34) (rss 34) [x0, x1, x2] W = venue_outsideint64 call x0 x1 x2 W := by kernel_rfl
theorem venue_outsideint64_om {x0 x1 x2 : Value} {W : AW} {r : Value × AW} (h : venue_outsideint64 omS x0 x1 x2 W = some r) : omS (.func (.func 34) #[] #[]) [x0, x1, x2] W = some (gc W r) := om_of (nt := 15) (n := 3) (by kernel_rfl) (by kernel_rfl) rfl ((venue_outsideint64_eq omS x0 x1 x2 W).trans h)
noncomputable def venue_check (call : Eng.Callee) (x0 x1 : Value) (W : AW) : Option (Value × AW) :=
  bnd (oBox x0 W) fun r1 =>
  bnd (oMv (.int .i64 0) r1.2) fun r2 =>
  bnd (faO 0 r1.1 r2.2) fun r3 =>
  bnd (ldC r3.1 r3.2) fun r4 =>
  bnd (call (fnV 51) [r4.1] r4.2) fun r5 =>
  bnd (oUn Tryz.prog .not r5.1 r5.2) fun r6 =>
  bnd (oMv r6.1 r6.2) fun r7 =>
  vIf r7.1 (
    bnd (oMv (.int .i64 6) r7.2) fun r8 =>
    oRes Tryz.prog [(r8.1, none)] r8.2) (
    bnd (oMv x1 r7.2) fun r9 =>
    bnd (oMkFunc (.func 53) #[] #[r1.1] r9.2) fun r10 =>
    bnd (call (fnV 52) [r9.1, r10.1] r10.2) fun r11 =>
    bnd (oMv r11.1 r11.2) fun r12 =>
    vIf r12.1 (
      bnd (oMv (.int .i64 8) r12.2) fun r13 =>
      oRes Tryz.prog [(r13.1, none)] r13.2) (
      bnd (faO 1 r1.1 r12.2) fun r14 =>
      bnd (ldC r14.1 r14.2) fun r15 =>
      bnd (oBuiltin Tryz.prog .len #[26] 3 #[false] [r15.1] r15.2) fun r16 =>
      bnd (oBin Tryz.prog .eql 3 false true r16.1 (.int .i64 0) r16.2) fun r17 =>
      bnd (oMv r17.1 r17.2) fun r18 =>
      vIf r18.1 (
        bnd (oMv (.int .i64 6) r18.2) fun r19 =>
        oRes Tryz.prog [(r19.1, none)] r19.2) (
        bnd (faO 1 r1.1 r18.2) fun r20 =>
        bnd (ldC r20.1 r20.2) fun r21 =>
        bnd (oBuiltin Tryz.prog .len #[26] 3 #[false] [r21.1] r21.2) fun r22 =>
        bnd (oBin Tryz.prog .gtr 3 false true r22.1 (.int .i64 16) r22.2) fun r23 =>
        bnd (oMv r23.1 r23.2) fun r24 =>
        vIf r24.1 (
          bnd (oMv (.int .i64 3) r24.2) fun r25 =>
          oRes Tryz.prog [(r25.1, none)] r25.2) (
          bnd (faO 1 r1.1 r24.2) fun r26 =>
          bnd (ldC r26.1 r26.2) fun r27 =>
          bnd (call (fnV 54) [r27.1, (fnV 55)] r27.2) fun r28 =>
          bnd (oMv r28.1 r28.2) fun r29 =>
          vIf r29.1 (
            bnd (oMv (.int .i64 7) r29.2) fun r30 =>
            oRes Tryz.prog [(r30.1, none)] r30.2) (
            bnd (faO 2 r1.1 r29.2) fun r31 =>
            bnd (ldC r31.1 r31.2) fun r32 =>
            bnd (call (fnV 33) [r32.1, (.int .i64 0), (.int .i64 64)] r32.2) fun r33 =>
            bnd (oMv r33.1 r33.2) fun r34 =>
            vIf r34.1 (
              bnd (oMv (.int .i64 7) r34.2) fun r35 =>
              oRes Tryz.prog [(r35.1, none)] r35.2) (
              bnd (oMv (.int .i64 0) r34.2) fun r36 =>
              oRes Tryz.prog [(r36.1, none)] r36.2))))))
theorem venue_check_eq (call : Eng.Callee) (x0 x1 : Value) (W : AW) : kFun Tryz.prog call 32 (cod 35) (rss 35) [x0, x1] W = venue_check call x0 x1 W := by kernel_rfl
theorem venue_check_om {x0 x1 : Value} {W : AW} {r : Value × AW} (h : venue_check omS x0 x1 W = some r) : omS (.func (.func 35) #[] #[]) [x0, x1] W = some (gc W r) := om_of (nt := 32) (n := 2) (by kernel_rfl) (by kernel_rfl) rfl ((venue_check_eq omS x0 x1 W).trans h)
noncomputable def ref15_within (call : Eng.Callee) (x0 x1 x2 : Value) (W : AW) : Option (Value × AW) :=
  bnd (oMv (.bool false) W) fun r1 =>
  bnd (oMv x0 r1.2) fun r2 =>
  bnd (oMv x1 r2.2) fun r3 =>
  bnd (oBin Tryz.prog .geq 2 false false r2.1 r3.1 r3.2) fun r4 =>
  bnd (oMv r4.1 r4.2) fun r5 =>
  bnd (bIf (wnt r5.1 true) (oMv x0 r5.2) (some (undef, r5.2))) fun r6 =>
  bnd (bIf (wnt r5.1 true) (oMv x2 r6.2) (some (undef, r6.2))) fun r7 =>
  bnd (bIf (wnt r5.1 true) (oBin Tryz.prog .leq 2 false false r6.1 r7.1 r7.2) (some (undef, r7.2))) fun r8 =>
  bnd (oPick r5.1 r8.1 (.bool false) r8.2) fun r9 =>
  bnd (oMv r9.1 r9.2) fun r10 =>
  oRes Tryz.prog [(r10.1, none)] r10.2
theorem ref15_within_eq (call : Eng.Callee) (x0 x1 x2 : Value) (W : AW) : kFun Tryz.prog call 15 (cod 36) (rss 36) [x0, x1, x2] W = ref15_within call x0 x1 x2 W := by kernel_rfl
theorem ref15_within_om {x0 x1 x2 : Value} {W : AW} {r : Value × AW} (h : ref15_within omS x0 x1 x2 W = some r) : omS (.func (.func 36) #[] #[]) [x0, x1, x2] W = some (gc W r) := om_of (nt := 15) (n := 3) (by kernel_rfl) (by kernel_rfl) rfl ((ref15_within_eq omS x0 x1 x2 W).trans h)
noncomputable def ref15_section_L1 (call : Eng.Callee) (R : Nat → Value) (W : AW) : Option LT :=
  bnd (oMv (R 6) W) fun r16 =>
  bnd (oMv (R 1) r16.2) fun r17 =>
  bnd (oBin Tryz.prog .lss 3 false false r16.1 r17.1 r17.2) fun r18 =>
  vIf r18.1 (
    bnd (faO 3 (R 2) r18.2) fun r19 =>
    bnd (ldC r19.1 r19.2) fun r20 =>
    bnd (oMv (R 6) r20.2) fun r21 =>
    bnd (ixS 3 r20.1 r21.1 r21.2) fun r22 =>
    bnd (faO 0 r22.1 r22.2) fun r23 =>
    bnd (ldC r23.1 r23.2) fun r24 =>
    bnd (faO 0 (R 5) r24.2) fun r25 =>
    bnd (ldC r25.1 r25.2) fun r26 =>
    bnd (oBin Tryz.prog .eql 9 false false r24.1 r26.1 r26.2) fun r27 =>
    vIf r27.1 (
      bnd (oMv (.int .i64 8) r27.2) fun r28 =>
      some (X.ret, (rput (rput (rput (rput (rput (rput (rput (rput (rput (rput (rput (rput (rput R (some 17) r16.1) (some 18) r17.1) (some 19) r18.1) (some 22) r19.1) (some 23) r20.1) (some 24) r21.1) (some 25) r22.1) (some 26) r23.1) (some 27) r24.1) (some 28) r25.1) (some 29) r26.1) (some 30) r27.1) (some 4) r28.1), r28.2)) (
      bnd (oMv (R 6) r27.2) fun r29 =>
      bnd (oBin Tryz.prog .add 3 false true r29.1 (.int .i64 1) r29.2) fun r30 =>
      bnd (oMv r30.1 r30.2) fun r31 =>
      some (X.normal, (rput (rput (rput (rput (rput (rput (rput (rput (rput (rput (rput (rput (rput (rput (rput R (some 17) r16.1) (some 18) r17.1) (some 19) r18.1) (some 22) r19.1) (some 23) r20.1) (some 24) r21.1) (some 25) r22.1) (some 26) r23.1) (some 27) r24.1) (some 28) r25.1) (some 29) r26.1) (some 30) r27.1) (some 20) r29.1) (some 21) r30.1) (some 6) r31.1), r31.2))) (
    some (X.exit 0, (rput (rput (rput R (some 17) r16.1) (some 18) r17.1) (some 19) r18.1), r18.2))
noncomputable def ref15_section_L2 (call : Eng.Callee) (R : Nat → Value) (W : AW) : Option LT :=
  bnd (oMv (R 7) W) fun r44 =>
  bnd (faO 1 (R 5) r44.2) fun r45 =>
  bnd (ldC r45.1 r45.2) fun r46 =>
  bnd (oBuiltin Tryz.prog .len #[26] 3 #[false] [r46.1] r46.2) fun r47 =>
  bnd (oBin Tryz.prog .lss 3 false false r44.1 r47.1 r47.2) fun r48 =>
  vIf r48.1 (
    bnd (faO 1 (R 5) r48.2) fun r49 =>
    bnd (ldC r49.1 r49.2) fun r50 =>
    bnd (oMv (R 7) r50.2) fun r51 =>
    bnd (ixS 1 r50.1 r51.1 r51.2) fun r52 =>
    bnd (ldC r52.1 r52.2) fun r53 =>
    bnd (call (fnV 36) [r53.1, (.int .i64 1), (.int .i64 64)] r53.2) fun r54 =>
    bnd (oUn Tryz.prog .not r54.1 r54.2) fun r55 =>
    vIf r55.1 (
      bnd (oMv (.int .i64 7) r55.2) fun r56 =>
      some (X.ret, (rput (rput (rput (rput (rput (rput (rput (rput (rput (rput (rput (rput (rput R (some 39) r44.1) (some 40) r45.1) (some 41) r46.1) (some 42) r47.1) (some 43) r48.1) (some 46) r49.1) (some 47) r50.1) (some 48) r51.1) (some 49) r52.1) (some 50) r53.1) (some 51) r54.1) (some 52) r55.1) (some 4) r56.1), r56.2)) (
      bnd (oMv (R 7) r55.2) fun r57 =>
      bnd (oBin Tryz.prog .add 3 false true r57.1 (.int .i64 1) r57.2) fun r58 =>
      bnd (oMv r58.1 r58.2) fun r59 =>
      some (X.normal, (rput (rput (rput (rput (rput (rput (rput (rput (rput (rput (rput (rput (rput (rput (rput R (some 39) r44.1) (some 40) r45.1) (some 41) r46.1) (some 42) r47.1) (some 43) r48.1) (some 46) r49.1) (some 47) r50.1) (some 48) r51.1) (some 49) r52.1) (some 50) r53.1) (some 51) r54.1) (some 52) r55.1) (some 44) r57.1) (some 45) r58.1) (some 7) r59.1), r59.2))) (
    some (X.exit 2, (rput (rput (rput (rput (rput R (some 39) r44.1) (some 40) r45.1) (some 41) r46.1) (some 42) r47.1) (some 43) r48.1), r48.2))
noncomputable def ref15_section (call : Eng.Callee) (x0 x1 : Value) (W : AW) : Option (Value × AW) :=
  bnd (oBox x0 W) fun r1 =>
  bnd (oMv (.int .i64 0) r1.2) fun r2 =>
  bnd (faO 3 r1.1 r2.2) fun r3 =>
  bnd (ldC r3.1 r3.2) fun r4 =>
  bnd (oMv x1 r4.2) fun r5 =>
  bnd (ixS 3 r4.1 r5.1 r5.2) fun r6 =>
  bnd (ldA 3 r6.1 r6.2) fun r7 =>
  bnd (oAlloc Tryz.prog 28 r7.2) fun r8 =>
  bnd (stV 3 r8.1 r7.1 r8.2) fun r9 =>
  bnd (faO 0 r8.1 r9.2) fun r10 =>
  bnd (ldC r10.1 r10.2) fun r11 =>
  bnd (call (fnV 56) [r11.1] r11.2) fun r12 =>
  bnd (oUn Tryz.prog .not r12.1 r12.2) fun r13 =>
  vIf r13.1 (
    bnd (oMv (.int .i64 6) r13.2) fun r14 =>
    oRes Tryz.prog [(r14.1, none)] r14.2) (
    bnd (oMv (.int .i64 0) r13.2) fun r15 =>
    bnd (loopO (ref15_section_L1 call) (rput (rput (rput (rput (rput (rput (rput (rput (rput (rput (rput (rput (rput (argGo 0 [x0, x1] PlanTab.blank) (some 2) r1.1) (some 4) r2.1) (some 8) r3.1) (some 9) r4.1) (some 10) r5.1) (some 11) r6.1) (some 12) r7.1) (some 5) r8.1) (some 13) r10.1) (some 14) r11.1) (some 15) r12.1) (some 16) r13.1) (some 6) r15.1) r15.2) fun r32 =>
    kExit 0 r32.1 (
      bnd (faO 1 (r32.2.1 5) r32.2.2) fun r33 =>
      bnd (ldC r33.1 r33.2) fun r34 =>
      bnd (oBuiltin Tryz.prog .len #[26] 3 #[false] [r34.1] r34.2) fun r35 =>
      bnd (oBin Tryz.prog .eql 3 false true r35.1 (.int .i64 0) r35.2) fun r36 =>
      vIf r36.1 (
        bnd (oMv (.int .i64 6) r36.2) fun r37 =>
        oRes Tryz.prog [(r37.1, none)] r37.2) (
        bnd (faO 1 (r32.2.1 5) r36.2) fun r38 =>
        bnd (ldC r38.1 r38.2) fun r39 =>
        bnd (oBuiltin Tryz.prog .len #[26] 3 #[false] [r39.1] r39.2) fun r40 =>
        bnd (oBin Tryz.prog .gtr 3 false true r40.1 (.int .i64 16) r40.2) fun r41 =>
        vIf r41.1 (
          bnd (oMv (.int .i64 3) r41.2) fun r42 =>
          oRes Tryz.prog [(r42.1, none)] r42.2) (
          bnd (oMv (.int .i64 0) r41.2) fun r43 =>
          bnd (loopO (ref15_section_L2 call) (rput (rput (rput (rput (rput (rput (rput (rput (rput r32.2.1 (some 31) r33.1) (some 32) r34.1) (some 33) r35.1) (some 34) r36.1) (some 35) r38.1) (some 36) r39.1) (some 37) r40.1) (some 38) r41.1) (some 7) r43.1) r43.2) fun r60 =>
          kExit 2 r60.1 (
            bnd (faO 2 (r60.2.1 5) r60.2.2) fun r61 =>
            bnd (ldC r61.1 r61.2) fun r62 =>
            bnd (call (fnV 36) [r62.1, (.int .i64 0), (.int .i64 64)] r62.2) fun r63 =>
            bnd (oUn Tryz.prog .not r63.1 r63.2) fun r64 =>
            vIf r64.1 (
              bnd (oMv (.int .i64 7) r64.2) fun r65 =>
              oRes Tryz.prog [(r65.1, none)] r65.2) (
              bnd (oMv (.int .i64 0) r64.2) fun r66 =>
              oRes Tryz.prog [(r66.1, none)] r66.2)) (kRetX r60.1 (
            oRes Tryz.prog [((r60.2.1 4), none)] r60.2.2))))) (kRetX r32.1 (
      oRes Tryz.prog [((r32.2.1 4), none)] r32.2.2)))
theorem ref15_section_eq (call : Eng.Callee) (x0 x1 : Value) (W : AW) : kFun Tryz.prog call 57 (cod 37) (rss 37) [x0, x1] W = ref15_section call x0 x1 W := by kernel_rfl
theorem ref15_section_om {x0 x1 : Value} {W : AW} {r : Value × AW} (h : ref15_section omS x0 x1 W = some r) : omS (.func (.func 37) #[] #[]) [x0, x1] W = some (gc W r) := om_of (nt := 57) (n := 2) (by kernel_rfl) (by kernel_rfl) rfl ((ref15_section_eq omS x0 x1 W).trans h)
noncomputable def ref15_Places_L1_L2_L3 (call : Eng.Callee) (R : Nat → Value) (W : AW) : Option LT :=
  bnd (oMv (R 6) W) fun r21 =>
  bnd (faO 3 (R 1) r21.2) fun r22 =>
  bnd (ldC r22.1 r22.2) fun r23 =>
  bnd (oMv (R 4) r23.2) fun r24 =>
  bnd (ixS 3 r23.1 r24.1 r24.2) fun r25 =>
  bnd (faO 1 r25.1 r25.2) fun r26 =>
  bnd (ldC r26.1 r26.2) fun r27 =>
  bnd (oMv (R 5) r27.2) fun r28 =>
  bnd (ixS 1 r27.1 r28.1 r28.2) fun r29 =>
  bnd (ldC r29.1 r29.2) fun r30 =>
  bnd (oBin Tryz.prog .lss 3 false false r21.1 r30.1 r30.2) fun r31 =>
  vIf r31.1 (
    bnd (oMv (R 3) r31.2) fun r32 =>
    bnd (oMv (R 4) r32.2) fun r33 =>
    bnd (oMv (R 5) r33.2) fun r34 =>
    bnd (oMv (R 6) r34.2) fun r35 =>
    bnd (oBuild Tryz.prog 34 [(0, r33.1), (1, r34.1), (2, r35.1)] r35.2) fun r36 =>
    bnd (oBuildSlice Tryz.prog 55 1 [(0, r36.1)] r36.2) fun r37 =>
    bnd (aAppend Tryz.prog r37.2 #[55, 55] r32.1 r37.1) fun r38 =>
    bnd (oMv r38.1 r38.2) fun r39 =>
    bnd (oMv (R 6) r39.2) fun r40 =>
    bnd (oBin Tryz.prog .add 3 false true r40.1 (.int .i64 1) r40.2) fun r41 =>
    bnd (oMv r41.1 r41.2) fun r42 =>
    some (X.normal, (rput (rput (rput (rput (rput (rput (rput (rput (rput (rput (rput (rput (rput (rput (rput (rput (rput (rput (rput (rput (rput (rput R (some 25) r21.1) (some 26) r22.1) (some 27) r23.1) (some 28) r24.1) (some 29) r25.1) (some 30) r26.1) (some 31) r27.1) (some 32) r28.1) (some 33) r29.1) (some 34) r30.1) (some 35) r31.1) (some 38) r32.1) (some 39) r33.1) (some 40) r34.1) (some 41) r35.1) (some 42) r36.1) (some 43) r37.1) (some 44) r38.1) (some 3) r39.1) (some 36) r40.1) (some 37) r41.1) (some 6) r42.1), r42.2)) (
    some (X.exit 4, (rput (rput (rput (rput (rput (rput (rput (rput (rput (rput (rput R (some 25) r21.1) (some 26) r22.1) (some 27) r23.1) (some 28) r24.1) (some 29) r25.1) (some 30) r26.1) (some 31) r27.1) (some 32) r28.1) (some 33) r29.1) (some 34) r30.1) (some 35) r31.1), r31.2))
noncomputable def ref15_Places_L1_L2 (call : Eng.Callee) (R : Nat → Value) (W : AW) : Option LT :=
  bnd (oMv (R 5) W) fun r11 =>
  bnd (faO 3 (R 1) r11.2) fun r12 =>
  bnd (ldC r12.1 r12.2) fun r13 =>
  bnd (oMv (R 4) r13.2) fun r14 =>
  bnd (ixS 3 r13.1 r14.1 r14.2) fun r15 =>
  bnd (faO 1 r15.1 r15.2) fun r16 =>
  bnd (ldC r16.1 r16.2) fun r17 =>
  bnd (oBuiltin Tryz.prog .len #[26] 3 #[false] [r17.1] r17.2) fun r18 =>
  bnd (oBin Tryz.prog .lss 3 false false r11.1 r18.1 r18.2) fun r19 =>
  vIf r19.1 (
    bnd (oMv (.int .i64 0) r19.2) fun r20 =>
    bnd (loopO (ref15_Places_L1_L2_L3 call) (rput (rput (rput (rput (rput (rput (rput (rput (rput (rput R (some 14) r11.1) (some 15) r12.1) (some 16) r13.1) (some 17) r14.1) (some 18) r15.1) (some 19) r16.1) (some 20) r17.1) (some 21) r18.1) (some 22) r19.1) (some 6) r20.1) r20.2) fun r43 =>
    kExit 4 r43.1 (
      bnd (oMv (r43.2.1 5) r43.2.2) fun r44 =>
      bnd (oBin Tryz.prog .add 3 false true r44.1 (.int .i64 1) r44.2) fun r45 =>
      bnd (oMv r45.1 r45.2) fun r46 =>
      some (X.normal, (rput (rput (rput r43.2.1 (some 23) r44.1) (some 24) r45.1) (some 5) r46.1), r46.2)) (none)) (
    some (X.exit 2, (rput (rput (rput (rput (rput (rput (rput (rput (rput R (some 14) r11.1) (some 15) r12.1) (some 16) r13.1) (some 17) r14.1) (some 18) r15.1) (some 19) r16.1) (some 20) r17.1) (some 21) r18.1) (some 22) r19.1), r19.2))
noncomputable def ref15_Places_L1 (call : Eng.Callee) (R : Nat → Value) (W : AW) : Option LT :=
  bnd (oMv (R 4) W) fun r5 =>
  bnd (faO 3 (R 1) r5.2) fun r6 =>
  bnd (ldC r6.1 r6.2) fun r7 =>
  bnd (oBuiltin Tryz.prog .len #[22] 3 #[false] [r7.1] r7.2) fun r8 =>
  bnd (oBin Tryz.prog .lss 3 false false r5.1 r8.1 r8.2) fun r9 =>
  vIf r9.1 (
    bnd (oMv (.int .i64 0) r9.2) fun r10 =>
    bnd (loopO (ref15_Places_L1_L2 call) (rput (rput (rput (rput (rput (rput R (some 7) r5.1) (some 8) r6.1) (some 9) r7.1) (some 10) r8.1) (some 11) r9.1) (some 5) r10.1) r10.2) fun r47 =>
    kExit 2 r47.1 (
      bnd (oMv (r47.2.1 4) r47.2.2) fun r48 =>
      bnd (oBin Tryz.prog .add 3 false true r48.1 (.int .i64 1) r48.2) fun r49 =>
      bnd (oMv r49.1 r49.2) fun r50 =>
      some (X.normal, (rput (rput (rput r47.2.1 (some 12) r48.1) (some 13) r49.1) (some 4) r50.1), r50.2)) (none)) (
    some (X.exit 0, (rput (rput (rput (rput (rput R (some 7) r5.1) (some 8) r6.1) (some 9) r7.1) (some 10) r8.1) (some 11) r9.1), r9.2))
noncomputable def ref15_Places (call : Eng.Callee) (x0 : Value) (W : AW) : Option (Value × AW) :=
  bnd (oBox x0 W) fun r1 =>
  bnd (oMv (.slice none 0 0) r1.2) fun r2 =>
  bnd (oMv (.slice none 0 0) r2.2) fun r3 =>
  bnd (oMv (.int .i64 0) r3.2) fun r4 =>
  bnd (loopO (ref15_Places_L1 call) (rput (rput (rput (rput (argGo 0 [x0] PlanTab.blank) (some 1) r1.1) (some 2) r2.1) (some 3) r3.1) (some 4) r4.1) r4.2) fun r51 =>
  kExit 0 r51.1 (
    bnd (oMv (r51.2.1 3) r51.2.2) fun r52 =>
    bnd (oMv r52.1 r52.2) fun r53 =>
    oRes Tryz.prog [(r53.1, none)] r53.2) (none)
theorem ref15_Places_eq (call : Eng.Callee) (x0 : Value) (W : AW) : kFun Tryz.prog call 46 (cod 38) (rss 38) [x0] W = ref15_Places call x0 W := by kernel_rfl
theorem ref15_Places_om {x0 : Value} {W : AW} {r : Value × AW} (h : ref15_Places omS x0 W = some r) : omS (.func (.func 38) #[] #[]) [x0] W = some (gc W r) := om_of (nt := 46) (n := 1) (by kernel_rfl) (by kernel_rfl) rfl ((ref15_Places_eq omS x0 W).trans h)
noncomputable def venue_rows (call : Eng.Callee) (x0 : Value) (W : AW) : Option (Value × AW) :=
  bnd (oBox x0 W) fun r1 =>
  bnd (oMv .nilFunc r1.2) fun r2 =>
  bnd (oMkFunc (.func 57) #[] #[r1.1] r2.2) fun r3 =>
  bnd (oMv r3.1 r3.2) fun r4 =>
  oRes Tryz.prog [(r4.1, none)] r4.2
theorem venue_rows_eq (call : Eng.Callee) (x0 : Value) (W : AW) : kFun Tryz.prog call 4 (cod 39) (rss 39) [x0] W = venue_rows call x0 W := by kernel_rfl
theorem venue_rows_om {x0 : Value} {W : AW} {r : Value × AW} (h : venue_rows omS x0 W = some r) : omS (.func (.func 39) #[] #[]) [x0] W = some (gc W r) := om_of (nt := 4) (n := 1) (by kernel_rfl) (by kernel_rfl) rfl ((venue_rows_eq omS x0 W).trans h)
noncomputable def slices_IndexFuncapi_VnSectionapi_VnSection_L1 (call : Eng.Callee) (R : Nat → Value) (W : AW) : Option LT :=
  bnd (oBin Tryz.prog .lss 3 false false (R 8) (R 7) W) fun r5 =>
  vIf r5.1 (
    bnd (oMv (R 8) r5.2) fun r6 =>
    bnd (oMv r6.1 r6.2) fun r7 =>
    bnd (oMv (R 1) r7.2) fun r8 =>
    bnd (oMv (R 0) r8.2) fun r9 =>
    bnd (oMv r7.1 r9.2) fun r10 =>
    bnd (ixS 3 r9.1 r10.1 r10.2) fun r11 =>
    bnd (ldA 3 r11.1 r11.2) fun r12 =>
    bnd (call r8.1 [r12.1] r12.2) fun r13 =>
    vIf r13.1 (
      bnd (oMv r7.1 r13.2) fun r14 =>
      bnd (oMv r14.1 r14.2) fun r15 =>
      some (X.ret, (rput (rput (rput (rput (rput (rput (rput (rput (rput (rput (rput R (some 9) r5.1) (some 10) r6.1) (some 5) r7.1) (some 11) r8.1) (some 12) r9.1) (some 13) r10.1) (some 14) r11.1) (some 15) r12.1) (some 16) r13.1) (some 17) r14.1) (some 4) r15.1), r15.2)) (
      bnd (oBin Tryz.prog .add 3 false true (R 8) (.int .i64 1) r13.2) fun r16 =>
      bnd (oMv r16.1 r16.2) fun r17 =>
      some (X.normal, (rput (rput (rput (rput (rput (rput (rput (rput (rput (rput (rput R (some 9) r5.1) (some 10) r6.1) (some 5) r7.1) (some 11) r8.1) (some 12) r9.1) (some 13) r10.1) (some 14) r11.1) (some 15) r12.1) (some 16) r13.1) (some 18) r16.1) (some 8) r17.1), r17.2))) (
    some (X.exit 0, (rput R (some 9) r5.1), r5.2))
noncomputable def slices_IndexFuncapi_VnSectionapi_VnSection (call : Eng.Callee) (x0 x1 : Value) (W : AW) : Option (Value × AW) :=
  bnd (oMv (.int .i64 0) W) fun r1 =>
  bnd (oMv x0 r1.2) fun r2 =>
  bnd (oBuiltin Tryz.prog .len #[22] 3 #[false] [r2.1] r2.2) fun r3 =>
  bnd (oMv (.int .i64 0) r3.2) fun r4 =>
  bnd (loopO (slices_IndexFuncapi_VnSectionapi_VnSection_L1 call) (rput (rput (rput (rput (argGo 0 [x0, x1] PlanTab.blank) (some 4) r1.1) (some 6) r2.1) (some 7) r3.1) (some 8) r4.1) r4.2) fun r18 =>
  kExit 0 r18.1 (
    bnd (oMv (.int .i64 (-1)) r18.2.2) fun r19 =>
    oRes Tryz.prog [(r19.1, none)] r19.2) (kRetX r18.1 (
    oRes Tryz.prog [((r18.2.1 4), none)] r18.2.2))
theorem slices_IndexFuncapi_VnSectionapi_VnSection_eq (call : Eng.Callee) (x0 x1 : Value) (W : AW) : kFun Tryz.prog call 19 (cod 43) (rss 43) [x0, x1] W = slices_IndexFuncapi_VnSectionapi_VnSection call x0 x1 W := by kernel_rfl
theorem slices_IndexFuncapi_VnSectionapi_VnSection_om {x0 x1 : Value} {W : AW} {r : Value × AW} (h : slices_IndexFuncapi_VnSectionapi_VnSection omS x0 x1 W = some r) : omS (.func (.func 43) #[] #[]) [x0, x1] W = some (gc W r) := om_of (nt := 19) (n := 2) (by kernel_rfl) (by kernel_rfl) rfl ((slices_IndexFuncapi_VnSectionapi_VnSection_eq omS x0 x1 W).trans h)
noncomputable def slices_ContainsFuncapi_VnSectionapi_VnSection (call : Eng.Callee) (x0 x1 : Value) (W : AW) : Option (Value × AW) :=
  bnd (oMv (.bool false) W) fun r1 =>
  bnd (oMv x0 r1.2) fun r2 =>
  bnd (oMv x1 r2.2) fun r3 =>
  bnd (call (fnV 43) [r2.1, r3.1] r3.2) fun r4 =>
  bnd (oBin Tryz.prog .geq 3 false true r4.1 (.int .i64 0) r4.2) fun r5 =>
  bnd (oMv r5.1 r5.2) fun r6 =>
  oRes Tryz.prog [(r6.1, none)] r6.2
theorem slices_ContainsFuncapi_VnSectionapi_VnSection_eq (call : Eng.Callee) (x0 x1 : Value) (W : AW) : kFun Tryz.prog call 9 (cod 52) (rss 52) [x0, x1] W = slices_ContainsFuncapi_VnSectionapi_VnSection call x0 x1 W := by kernel_rfl
theorem slices_ContainsFuncapi_VnSectionapi_VnSection_om {x0 x1 : Value} {W : AW} {r : Value × AW} (h : slices_ContainsFuncapi_VnSectionapi_VnSection omS x0 x1 W = some r) : omS (.func (.func 52) #[] #[]) [x0, x1] W = some (gc W r) := om_of (nt := 9) (n := 2) (by kernel_rfl) (by kernel_rfl) rfl ((slices_ContainsFuncapi_VnSectionapi_VnSection_eq omS x0 x1 W).trans h)
noncomputable def venue_check_1 (call : Eng.Callee) (x0 x1 : Value) (W : AW) : Option (Value × AW) :=
  bnd (oBox x0 W) fun r1 =>
  bnd (oMv (.bool false) r1.2) fun r2 =>
  bnd (faO 0 r1.1 r2.2) fun r3 =>
  bnd (ldC r3.1 r3.2) fun r4 =>
  bnd (faO 0 x1 r4.2) fun r5 =>
  bnd (ldC r5.1 r5.2) fun r6 =>
  bnd (oBin Tryz.prog .eql 9 false false r4.1 r6.1 r6.2) fun r7 =>
  bnd (oMv r7.1 r7.2) fun r8 =>
  oRes Tryz.prog [(r8.1, none)] r8.2
theorem venue_check_1_eq (call : Eng.Callee) (x0 x1 : Value) (W : AW) : kFun Tryz.prog call 9 (cod 53) (rss 53) [x0, x1] W = venue_check_1 call x0 x1 W := by kernel_rfl
theorem venue_check_1_om {x0 x1 : Value} {W : AW} {r : Value × AW} (h : venue_check_1 omS x0 x1 W = some r) : omS (.func (.func 53) #[] #[x1]) [x0] W = some (gc W r) := om_of (nt := 9) (n := 2) (by kernel_rfl) (by kernel_rfl) rfl ((venue_check_1_eq omS x0 x1 W).trans h)
noncomputable def slices_ContainsFuncintint (call : Eng.Callee) (x0 x1 : Value) (W : AW) : Option (Value × AW) :=
  bnd (oMv (.bool false) W) fun r1 =>
  bnd (oMv x0 r1.2) fun r2 =>
  bnd (oMv x1 r2.2) fun r3 =>
  bnd (call (fnV 65) [r2.1, r3.1] r3.2) fun r4 =>
  bnd (oBin Tryz.prog .geq 3 false true r4.1 (.int .i64 0) r4.2) fun r5 =>
  bnd (oMv r5.1 r5.2) fun r6 =>
  oRes Tryz.prog [(r6.1, none)] r6.2
theorem slices_ContainsFuncintint_eq (call : Eng.Callee) (x0 x1 : Value) (W : AW) : kFun Tryz.prog call 9 (cod 54) (rss 54) [x0, x1] W = slices_ContainsFuncintint call x0 x1 W := by kernel_rfl
theorem slices_ContainsFuncintint_om {x0 x1 : Value} {W : AW} {r : Value × AW} (h : slices_ContainsFuncintint omS x0 x1 W = some r) : omS (.func (.func 54) #[] #[]) [x0, x1] W = some (gc W r) := om_of (nt := 9) (n := 2) (by kernel_rfl) (by kernel_rfl) rfl ((slices_ContainsFuncintint_eq omS x0 x1 W).trans h)
noncomputable def venue_check_2 (call : Eng.Callee) (x0 : Value) (W : AW) : Option (Value × AW) :=
  bnd (oMv (.bool false) W) fun r1 =>
  bnd (oMv x0 r1.2) fun r2 =>
  bnd (call (fnV 33) [r2.1, (.int .i64 1), (.int .i64 64)] r2.2) fun r3 =>
  bnd (oMv r3.1 r3.2) fun r4 =>
  oRes Tryz.prog [(r4.1, none)] r4.2
theorem venue_check_2_eq (call : Eng.Callee) (x0 : Value) (W : AW) : kFun Tryz.prog call 5 (cod 55) (rss 55) [x0] W = venue_check_2 call x0 W := by kernel_rfl
theorem venue_check_2_om {x0 : Value} {W : AW} {r : Value × AW} (h : venue_check_2 omS x0 W = some r) : omS (.func (.func 55) #[] #[]) [x0] W = some (gc W r) := om_of (nt := 5) (n := 1) (by kernel_rfl) (by kernel_rfl) rfl ((venue_check_2_eq omS x0 W).trans h)
noncomputable def ref01_Name_L1 (call : Eng.Callee) (R : Nat → Value) (W : AW) : Option LT :=
  bnd (oMv (R 3) W) fun r18 =>
  bnd (oMv (R 0) r18.2) fun r19 =>
  bnd (oBuiltin Tryz.prog .len #[9] 3 #[false] [r19.1] r19.2) fun r20 =>
  bnd (oBin Tryz.prog .lss 3 false false r18.1 r20.1 r20.2) fun r21 =>
  vIf r21.1 (
    bnd (oMv (R 0) r21.2) fun r22 =>
    bnd (oMv (R 3) r22.2) fun r23 =>
    bnd (oIndex Tryz.prog 9 r22.1 r23.1 r23.2) fun r24 =>
    bnd (call (fnV 66) [r24.1] r24.2) fun r25 =>
    bnd (oUn Tryz.prog .not r25.1 r25.2) fun r26 =>
    bnd (oMv r26.1 r26.2) fun r27 =>
    bnd (bIf (wnt r27.1 true) (oMv (R 0) r27.2) (some (undef, r27.2))) fun r28 =>
    bnd (bIf (wnt r27.1 true) (oMv (R 3) r28.2) (some (undef, r28.2))) fun r29 =>
    bnd (bIf (wnt r27.1 true) (oIndex Tryz.prog 9 r28.1 r29.1 r29.2) (some (undef, r29.2))) fun r30 =>
    bnd (bIf (wnt r27.1 true) (call (fnV 67) [r30.1] r30.2) (some (undef, r30.2))) fun r31 =>
    bnd (bIf (wnt r27.1 true) (oUn Tryz.prog .not r31.1 r31.2) (some (undef, r31.2))) fun r32 =>
    bnd (oPick r27.1 r32.1 (.bool false) r32.2) fun r33 =>
    bnd (oMv r33.1 r33.2) fun r34 =>
    bnd (bIf (wnt r34.1 true) (oMv (R 0) r34.2) (some (undef, r34.2))) fun r35 =>
    bnd (bIf (wnt r34.1 true) (oMv (R 3) r35.2) (some (undef, r35.2))) fun r36 =>
    bnd (bIf (wnt r34.1 true) (oIndex Tryz.prog 9 r35.1 r36.1 r36.2) (some (undef, r36.2))) fun r37 =>
    bnd (bIf (wnt r34.1 true) (oBin Tryz.prog .neq 5 false true r37.1 (.int .u8 45) r37.2) (some (undef, r37.2))) fun r38 =>
    bnd (oPick r34.1 r38.1 (.bool false) r38.2) fun r39 =>
    vIf r39.1 (
      bnd (oMv (.bool false) r39.2) fun r40 =>
      some (X.ret, (rput (rput (rput (rput (rput (rput (rput (rput (rput (rput (rput (rput (rput (rput (rput (rput (rput (rput (rput (rput (rput (rput (rput R (some 18) r18.1) (some 19) r19.1) (some 20) r20.1) (some 21) r21.1) (some 24) r22.1) (some 25) r23.1) (some 26) r24.1) (some 27) r25.1) (some 28) r26.1) (some 29) r27.1) (some 30) r28.1) (some 31) r29.1) (some 32) r30.1) (some 33) r31.1) (some 34) r32.1) (some 35) r33.1) (some 36) r34.1) (some 37) r35.1) (some 38) r36.1) (some 39) r37.1) (some 40) r38.1) (some 41) r39.1) (some 2) r40.1), r40.2)) (
      bnd (oMv (R 3) r39.2) fun r41 =>
      bnd (oBin Tryz.prog .add 3 false true r41.1 (.int .i64 1) r41.2) fun r42 =>
      bnd (oMv r42.1 r42.2) fun r43 =>
      some (X.normal, (rput (rput (rput (rput (rput (rput (rput (rput (rput (rput (rput (rput (rput (rput (rput (rput (rput (rput (rput (rput (rput (rput (rput (rput (rput R (some 18) r18.1) (some 19) r19.1) (some 20) r20.1) (some 21) r21.1) (some 24) r22.1) (some 25) r23.1) (some 26) r24.1) (some 27) r25.1) (some 28) r26.1) (some 29) r27.1) (some 30) r28.1) (some 31) r29.1) (some 32) r30.1) (some 33) r31.1) (some 34) r32.1) (some 35) r33.1) (some 36) r34.1) (some 37) r35.1) (some 38) r36.1) (some 39) r37.1) (some 40) r38.1) (some 41) r39.1) (some 22) r41.1) (some 23) r42.1) (some 3) r43.1), r43.2))) (
    some (X.exit 0, (rput (rput (rput (rput R (some 18) r18.1) (some 19) r19.1) (some 20) r20.1) (some 21) r21.1), r21.2))
noncomputable def ref01_Name (call : Eng.Callee) (x0 : Value) (W : AW) : Option (Value × AW) :=
  bnd (oMv (.bool false) W) fun r1 =>
  bnd (oMv x0 r1.2) fun r2 =>
  bnd (oBuiltin Tryz.prog .len #[9] 3 #[false] [r2.1] r2.2) fun r3 =>
  bnd (oBin Tryz.prog .lss 3 false true r3.1 (.int .i64 1) r3.2) fun r4 =>
  bnd (oMv r4.1 r4.2) fun r5 =>
  bnd (bIf (wnt r5.1 false) (oMv x0 r5.2) (some (undef, r5.2))) fun r6 =>
  bnd (bIf (wnt r5.1 false) (oBuiltin Tryz.prog .len #[9] 3 #[false] [r6.1] r6.2) (some (undef, r6.2))) fun r7 =>
  bnd (bIf (wnt r5.1 false) (oBin Tryz.prog .gtr 3 false true r7.1 (.int .i64 16) r7.2) (some (undef, r7.2))) fun r8 =>
  bnd (oPick r5.1 (.bool true) r8.1 r8.2) fun r9 =>
  bnd (oMv r9.1 r9.2) fun r10 =>
  bnd (bIf (wnt r10.1 false) (oMv x0 r10.2) (some (undef, r10.2))) fun r11 =>
  bnd (bIf (wnt r10.1 false) (oIndex Tryz.prog 9 r11.1 (.int .i64 0) r11.2) (some (undef, r11.2))) fun r12 =>
  bnd (bIf (wnt r10.1 false) (call (fnV 66) [r12.1] r12.2) (some (undef, r12.2))) fun r13 =>
  bnd (bIf (wnt r10.1 false) (oUn Tryz.prog .not r13.1 r13.2) (some (undef, r13.2))) fun r14 =>
  bnd (oPick r10.1 (.bool true) r14.1 r14.2) fun r15 =>
  vIf r15.1 (
    bnd (oMv (.bool false) r15.2) fun r16 =>
    oRes Tryz.prog [(r16.1, none)] r16.2) (
    bnd (oMv (.int .i64 0) r15.2) fun r17 =>
    bnd (loopO (ref01_Name_L1 call) (rput (rput (rput (rput (rput (rput (rput (rput (rput (rput (rput (rput (rput (rput (rput (rput (argGo 0 [x0] PlanTab.blank) (some 2) r1.1) (some 4) r2.1) (some 5) r3.1) (some 6) r4.1) (some 7) r5.1) (some 8) r6.1) (some 9) r7.1) (some 10) r8.1) (some 11) r9.1) (some 12) r10.1) (some 13) r11.1) (some 14) r12.1) (some 15) r13.1) (some 16) r14.1) (some 17) r15.1) (some 3) r17.1) r17.2) fun r44 =>
    kExit 0 r44.1 (
      bnd (oMv (.bool true) r44.2.2) fun r45 =>
      oRes Tryz.prog [(r45.1, none)] r45.2) (kRetX r44.1 (
      oRes Tryz.prog [((r44.2.1 2), none)] r44.2.2)))
theorem ref01_Name_eq (call : Eng.Callee) (x0 : Value) (W : AW) : kFun Tryz.prog call 42 (cod 56) (rss 56) [x0] W = ref01_Name call x0 W := by kernel_rfl
theorem ref01_Name_om {x0 : Value} {W : AW} {r : Value × AW} (h : ref01_Name omS x0 W = some r) : omS (.func (.func 56) #[] #[]) [x0] W = some (gc W r) := om_of (nt := 42) (n := 1) (by kernel_rfl) (by kernel_rfl) rfl ((ref01_Name_eq omS x0 W).trans h)
noncomputable def venue_rows_1_L1_L2 (call : Eng.Callee) (R : Nat → Value) (W : AW) : Option LT :=
  bnd (oBin Tryz.prog .lss 3 false false (R 19) (R 18) W) fun r17 =>
  vIf r17.1 (
    bnd (oMv (R 19) r17.2) fun r18 =>
    bnd (ixS 1 (R 17) (R 19) r18.2) fun r19 =>
    bnd (ldC r19.1 r19.2) fun r20 =>
    bnd (oMv r18.1 r20.2) fun r21 =>
    bnd (oMv r20.1 r21.2) fun r22 =>
    bnd (oMv (R 0) r22.2) fun r23 =>
    bnd (oMv (R 4) r23.2) fun r24 =>
    bnd (oMv r21.1 r24.2) fun r25 =>
    bnd (oMv (R 3) r25.2) fun r26 =>
    bnd (oMv r22.1 r26.2) fun r27 =>
    bnd (oBuild Tryz.prog 61 [(0, r24.1), (1, r25.1), (2, r26.1), (3, r27.1)] r27.2) fun r28 =>
    bnd (call r23.1 [r28.1] r28.2) fun r29 =>
    bnd (oUn Tryz.prog .not r29.1 r29.2) fun r30 =>
    vIf r30.1 (
      some (X.ret, (rput (rput (rput (rput (rput (rput (rput (rput (rput (rput (rput (rput (rput (rput R (some 20) r17.1) (some 21) r18.1) (some 22) r19.1) (some 23) r20.1) (some 6) r21.1) (some 7) r22.1) (some 24) r23.1) (some 25) r24.1) (some 26) r25.1) (some 27) r26.1) (some 28) r27.1) (some 29) r28.1) (some 30) r29.1) (some 31) r30.1), r30.2)) (
      bnd (oMv (R 3) r30.2) fun r31 =>
      bnd (oMv r22.1 r31.2) fun r32 =>
      bnd (oBin Tryz.prog .add 3 false false r31.1 r32.1 r32.2) fun r33 =>
      bnd (oMv r33.1 r33.2) fun r34 =>
      bnd (oBin Tryz.prog .add 3 false true (R 19) (.int .i64 1) r34.2) fun r35 =>
      bnd (oMv r35.1 r35.2) fun r36 =>
      some (X.normal, (rput (rput (rput (rput (rput (rput (rput (rput (rput (rput (rput (rput (rput (rput (rput (rput (rput (rput (rput (rput R (some 20) r17.1) (some 21) r18.1) (some 22) r19.1) (some 23) r20.1) (some 6) r21.1) (some 7) r22.1) (some 24) r23.1) (some 25) r24.1) (some 26) r25.1) (some 27) r26.1) (some 28) r27.1) (some 29) r28.1) (some 30) r29.1) (some 31) r30.1) (some 32) r31.1) (some 33) r32.1) (some 34) r33.1) (some 3) r34.1) (some 35) r35.1) (some 19) r36.1), r36.2))) (
    some (X.exit 2, (rput R (some 20) r17.1), r17.2))
noncomputable def venue_rows_1_L1 (call : Eng.Callee) (R : Nat → Value) (W : AW) : Option LT :=
  bnd (oBin Tryz.prog .lss 3 false false (R 11) (R 10) W) fun r6 =>
  vIf r6.1 (
    bnd (oMv (R 11) r6.2) fun r7 =>
    bnd (ixS 3 (R 9) (R 11) r7.2) fun r8 =>
    bnd (ldA 3 r8.1 r8.2) fun r9 =>
    bnd (oAlloc Tryz.prog 28 r9.2) fun r10 =>
    bnd (oMv r7.1 r10.2) fun r11 =>
    bnd (stV 3 r10.1 r9.1 r11.2) fun r12 =>
    bnd (faO 1 r10.1 r12.2) fun r13 =>
    bnd (ldC r13.1 r13.2) fun r14 =>
    bnd (oBuiltin Tryz.prog .len #[26] 3 #[false] [r14.1] r14.2) fun r15 =>
    bnd (oMv (.int .i64 0) r15.2) fun r16 =>
    bnd (loopO (venue_rows_1_L1_L2 call) (rput (rput (rput (rput (rput (rput (rput (rput (rput (rput R (some 12) r6.1) (some 13) r7.1) (some 14) r8.1) (some 15) r9.1) (some 5) r10.1) (some 4) r11.1) (some 16) r13.1) (some 17) r14.1) (some 18) r15.1) (some 19) r16.1) r16.2) fun r37 =>
    kExit 2 r37.1 (
      bnd (oBin Tryz.prog .add 3 false true (r37.2.1 11) (.int .i64 1) r37.2.2) fun r38 =>
      bnd (oMv r38.1 r38.2) fun r39 =>
      some (X.normal, (rput (rput r37.2.1 (some 36) r38.1) (some 11) r39.1), r39.2)) (kRetX r37.1 (
      some (X.ret, r37.2.1, r37.2.2)))) (
    some (X.exit 0, (rput R (some 12) r6.1), r6.2))
noncomputable def venue_rows_1 (call : Eng.Callee) (x0 x1 : Value) (W : AW) : Option (Value × AW) :=
  bnd (oMv (.int .i64 0) W) fun r1 =>
  bnd (faO 3 x1 r1.2) fun r2 =>
  bnd (ldC r2.1 r2.2) fun r3 =>
  bnd (oBuiltin Tryz.prog .len #[22] 3 #[false] [r3.1] r3.2) fun r4 =>
  bnd (oMv (.int .i64 0) r4.2) fun r5 =>
  bnd (loopO (venue_rows_1_L1 call) (rput (rput (rput (rput (rput (argGo 0 [x0, x1] PlanTab.blank) (some 3) r1.1) (some 8) r2.1) (some 9) r3.1) (some 10) r4.1) (some 11) r5.1) r5.2) fun r40 =>
  kExit 0 r40.1 (
    oRes Tryz.prog [] r40.2.2) (kRetX r40.1 (
    oRes Tryz.prog [] r40.2.2))
theorem venue_rows_1_eq (call : Eng.Callee) (x0 x1 : Value) (W : AW) : kFun Tryz.prog call 37 (cod 57) (rss 57) [x0, x1] W = venue_rows_1 call x0 x1 W := by kernel_rfl
theorem venue_rows_1_om {x0 x1 : Value} {W : AW} {r : Value × AW} (h : venue_rows_1 omS x0 x1 W = some r) : omS (.func (.func 57) #[] #[x1]) [x0] W = some (gc W r) := om_of (nt := 37) (n := 2) (by kernel_rfl) (by kernel_rfl) rfl ((venue_rows_1_eq omS x0 x1 W).trans h)
noncomputable def slices_IndexFuncintint_L1 (call : Eng.Callee) (R : Nat → Value) (W : AW) : Option LT :=
  bnd (oBin Tryz.prog .lss 3 false false (R 8) (R 7) W) fun r5 =>
  vIf r5.1 (
    bnd (oMv (R 8) r5.2) fun r6 =>
    bnd (oMv r6.1 r6.2) fun r7 =>
    bnd (oMv (R 1) r7.2) fun r8 =>
    bnd (oMv (R 0) r8.2) fun r9 =>
    bnd (oMv r7.1 r9.2) fun r10 =>
    bnd (ixS 1 r9.1 r10.1 r10.2) fun r11 =>
    bnd (ldC r11.1 r11.2) fun r12 =>
    bnd (call r8.1 [r12.1] r12.2) fun r13 =>
    vIf r13.1 (
      bnd (oMv r7.1 r13.2) fun r14 =>
      bnd (oMv r14.1 r14.2) fun r15 =>
      some (X.ret, (rput (rput (rput (rput (rput (rput (rput (rput (rput (rput (rput R (some 9) r5.1) (some 10) r6.1) (some 5) r7.1) (some 11) r8.1) (some 12) r9.1) (some 13) r10.1) (some 14) r11.1) (some 15) r12.1) (some 16) r13.1) (some 17) r14.1) (some 4) r15.1), r15.2)) (
      bnd (oBin Tryz.prog .add 3 false true (R 8) (.int .i64 1) r13.2) fun r16 =>
      bnd (oMv r16.1 r16.2) fun r17 =>
      some (X.normal, (rput (rput (rput (rput (rput (rput (rput (rput (rput (rput (rput R (some 9) r5.1) (some 10) r6.1) (some 5) r7.1) (some 11) r8.1) (some 12) r9.1) (some 13) r10.1) (some 14) r11.1) (some 15) r12.1) (some 16) r13.1) (some 18) r16.1) (some 8) r17.1), r17.2))) (
    some (X.exit 0, (rput R (some 9) r5.1), r5.2))
noncomputable def slices_IndexFuncintint (call : Eng.Callee) (x0 x1 : Value) (W : AW) : Option (Value × AW) :=
  bnd (oMv (.int .i64 0) W) fun r1 =>
  bnd (oMv x0 r1.2) fun r2 =>
  bnd (oBuiltin Tryz.prog .len #[26] 3 #[false] [r2.1] r2.2) fun r3 =>
  bnd (oMv (.int .i64 0) r3.2) fun r4 =>
  bnd (loopO (slices_IndexFuncintint_L1 call) (rput (rput (rput (rput (argGo 0 [x0, x1] PlanTab.blank) (some 4) r1.1) (some 6) r2.1) (some 7) r3.1) (some 8) r4.1) r4.2) fun r18 =>
  kExit 0 r18.1 (
    bnd (oMv (.int .i64 (-1)) r18.2.2) fun r19 =>
    oRes Tryz.prog [(r19.1, none)] r19.2) (kRetX r18.1 (
    oRes Tryz.prog [((r18.2.1 4), none)] r18.2.2))
theorem slices_IndexFuncintint_eq (call : Eng.Callee) (x0 x1 : Value) (W : AW) : kFun Tryz.prog call 19 (cod 65) (rss 65) [x0, x1] W = slices_IndexFuncintint call x0 x1 W := by kernel_rfl
theorem slices_IndexFuncintint_om {x0 x1 : Value} {W : AW} {r : Value × AW} (h : slices_IndexFuncintint omS x0 x1 W = some r) : omS (.func (.func 65) #[] #[]) [x0, x1] W = some (gc W r) := om_of (nt := 19) (n := 2) (by kernel_rfl) (by kernel_rfl) rfl ((slices_IndexFuncintint_eq omS x0 x1 W).trans h)
noncomputable def ref01_lower (call : Eng.Callee) (x0 : Value) (W : AW) : Option (Value × AW) :=
  bnd (oMv (.bool false) W) fun r1 =>
  bnd (oMv x0 r1.2) fun r2 =>
  bnd (oBin Tryz.prog .geq 5 false true r2.1 (.int .u8 97) r2.2) fun r3 =>
  bnd (oMv r3.1 r3.2) fun r4 =>
  bnd (bIf (wnt r4.1 true) (oMv x0 r4.2) (some (undef, r4.2))) fun r5 =>
  bnd (bIf (wnt r4.1 true) (oBin Tryz.prog .leq 5 false true r5.1 (.int .u8 122) r5.2) (some (undef, r5.2))) fun r6 =>
  bnd (oPick r4.1 r6.1 (.bool false) r6.2) fun r7 =>
  bnd (oMv r7.1 r7.2) fun r8 =>
  oRes Tryz.prog [(r8.1, none)] r8.2
theorem ref01_lower_eq (call : Eng.Callee) (x0 : Value) (W : AW) : kFun Tryz.prog call 9 (cod 66) (rss 66) [x0] W = ref01_lower call x0 W := by kernel_rfl
theorem ref01_lower_om {x0 : Value} {W : AW} {r : Value × AW} (h : ref01_lower omS x0 W = some r) : omS (.func (.func 66) #[] #[]) [x0] W = some (gc W r) := om_of (nt := 9) (n := 1) (by kernel_rfl) (by kernel_rfl) rfl ((ref01_lower_eq omS x0 W).trans h)
noncomputable def ref01_digit (call : Eng.Callee) (x0 : Value) (W : AW) : Option (Value × AW) :=
  bnd (oMv (.bool false) W) fun r1 =>
  bnd (oMv x0 r1.2) fun r2 =>
  bnd (oBin Tryz.prog .geq 5 false true r2.1 (.int .u8 48) r2.2) fun r3 =>
  bnd (oMv r3.1 r3.2) fun r4 =>
  bnd (bIf (wnt r4.1 true) (oMv x0 r4.2) (some (undef, r4.2))) fun r5 =>
  bnd (bIf (wnt r4.1 true) (oBin Tryz.prog .leq 5 false true r5.1 (.int .u8 57) r5.2) (some (undef, r5.2))) fun r6 =>
  bnd (oPick r4.1 r6.1 (.bool false) r6.2) fun r7 =>
  bnd (oMv r7.1 r7.2) fun r8 =>
  oRes Tryz.prog [(r8.1, none)] r8.2
theorem ref01_digit_eq (call : Eng.Callee) (x0 : Value) (W : AW) : kFun Tryz.prog call 9 (cod 67) (rss 67) [x0] W = ref01_digit call x0 W := by kernel_rfl
theorem ref01_digit_om {x0 : Value} {W : AW} {r : Value × AW} (h : ref01_digit omS x0 W = some r) : omS (.func (.func 67) #[] #[]) [x0] W = some (gc W r) := om_of (nt := 9) (n := 1) (by kernel_rfl) (by kernel_rfl) rfl ((ref01_digit_eq omS x0 W).trans h)
noncomputable def words_Name (call : Eng.Callee) (x0 : Value) (W : AW) : Option (Value × AW) :=
  bnd (oMv (.bool false) W) fun r1 =>
  bnd (oMv x0 r1.2) fun r2 =>
  bnd (oBin Tryz.prog .eql 9 false true r2.1 (strV []) r2.2) fun r3 =>
  bnd (oMv r3.1 r3.2) fun r4 =>
  bnd (bIf (wnt r4.1 false) (oMv x0 r4.2) (some (undef, r4.2))) fun r5 =>
  bnd (bIf (wnt r4.1 false) (oBuiltin Tryz.prog .len #[9] 3 #[false] [r5.1] r5.2) (some (undef, r5.2))) fun r6 =>
  bnd (bIf (wnt r4.1 false) (oBin Tryz.prog .gtr 3 false true r6.1 (.int .i64 16) r6.2) (some (undef, r6.2))) fun r7 =>
  bnd (oPick r4.1 (.bool true) r7.1 r7.2) fun r8 =>
  bnd (oMv r8.1 r8.2) fun r9 =>
  bnd (bIf (wnt r9.1 false) (oMv x0 r9.2) (some (undef, r9.2))) fun r10 =>
  bnd (bIf (wnt r9.1 false) (oIndex Tryz.prog 9 r10.1 (.int .i64 0) r10.2) (some (undef, r10.2))) fun r11 =>
  bnd (bIf (wnt r9.1 false) (oBin Tryz.prog .lss 5 false true r11.1 (.int .u8 97) r11.2) (some (undef, r11.2))) fun r12 =>
  bnd (oPick r9.1 (.bool true) r12.1 r12.2) fun r13 =>
  bnd (oMv r13.1 r13.2) fun r14 =>
  bnd (bIf (wnt r14.1 false) (oMv x0 r14.2) (some (undef, r14.2))) fun r15 =>
  bnd (bIf (wnt r14.1 false) (oIndex Tryz.prog 9 r15.1 (.int .i64 0) r15.2) (some (undef, r15.2))) fun r16 =>
  bnd (bIf (wnt r14.1 false) (oBin Tryz.prog .gtr 5 false true r16.1 (.int .u8 122) r16.2) (some (undef, r16.2))) fun r17 =>
  bnd (oPick r14.1 (.bool true) r17.1 r17.2) fun r18 =>
  vIf r18.1 (
    bnd (oMv (.bool false) r18.2) fun r19 =>
    oRes Tryz.prog [(r19.1, none)] r19.2) (
    bnd (oMv x0 r18.2) fun r20 =>
    bnd (call (fnV 64) [r20.1, (strV [97, 98, 99, 100, 101, 102, 103, 104, 105, 106, 107, 108, 109, 110, 111, 112, 113, 114, 115, 116, 117, 118, 119, 120, 121, 122, 48, 49, 50, 51, 52, 53, 54, 55, 56, 57, 45])] r20.2) fun r21 =>
    bnd (oBin Tryz.prog .eql 9 false true r21.1 (strV []) r21.2) fun r22 =>
    bnd (oMv r22.1 r22.2) fun r23 =>
    oRes Tryz.prog [(r23.1, none)] r23.2)
theorem words_Name_eq (call : Eng.Callee) (x0 : Value) (W : AW) : kFun Tryz.prog call 23 (cod 51) (rss 51) [x0] W = words_Name call x0 W := by kernel_rfl
theorem words_Name_om {x0 : Value} {W : AW} {r : Value × AW} (h : words_Name omS x0 W = some r) : omS (.func (.func 51) #[] #[]) [x0] W = some (gc W r) := om_of (nt := 23) (n := 1) (by kernel_rfl) (by kernel_rfl) rfl ((words_Name_eq omS x0 W).trans h)
noncomputable def strings_Trim (call : Eng.Callee) (x0 x1 : Value) (W : AW) : Option (Value × AW) :=
  bnd (oMv (strV []) W) fun r1 =>
  bnd (oMv x0 r1.2) fun r2 =>
  bnd (oBin Tryz.prog .eql 9 false true r2.1 (strV []) r2.2) fun r3 =>
  bnd (oMv r3.1 r3.2) fun r4 =>
  bnd (bIf (wnt r4.1 false) (oMv x1 r4.2) (some (undef, r4.2))) fun r5 =>
  bnd (bIf (wnt r4.1 false) (oBin Tryz.prog .eql 9 false true r5.1 (strV []) r5.2) (some (undef, r5.2))) fun r6 =>
  bnd (oPick r4.1 (.bool true) r6.1 r6.2) fun r7 =>
  vIf r7.1 (
    bnd (oMv x0 r7.2) fun r8 =>
    bnd (oMv r8.1 r8.2) fun r9 =>
    oRes Tryz.prog [(r9.1, none)] r9.2) (
    bnd (oMv x1 r7.2) fun r10 =>
    bnd (oBuiltin Tryz.prog .len #[9] 3 #[false] [r10.1] r10.2) fun r11 =>
    bnd (oBin Tryz.prog .eql 3 false true r11.1 (.int .i64 1) r11.2) fun r12 =>
    bnd (oMv r12.1 r12.2) fun r13 =>
    bnd (bIf (wnt r13.1 true) (oMv x1 r13.2) (some (undef, r13.2))) fun r14 =>
    bnd (bIf (wnt r13.1 true) (oIndex Tryz.prog 9 r14.1 (.int .i64 0) r14.2) (some (undef, r14.2))) fun r15 =>
    bnd (bIf (wnt r13.1 true) (oBin Tryz.prog .lss 5 false true r15.1 (.int .u8 128) r15.2) (some (undef, r15.2))) fun r16 =>
    bnd (oPick r13.1 r16.1 (.bool false) r16.2) fun r17 =>
    vIf r17.1 (
      bnd (oMv x0 r17.2) fun r18 =>
      bnd (oMv x1 r18.2) fun r19 =>
      bnd (oIndex Tryz.prog 9 r19.1 (.int .i64 0) r19.2) fun r20 =>
      bnd (oMv x1 r20.2) fun r21 =>
      bnd (oIndex Tryz.prog 9 r21.1 (.int .i64 0) r21.2) fun r22 =>
      bnd (call (fnV 86) [r18.1, r20.1] r22.2) fun r23 =>
      bnd (call (fnV 85) [r23.1, r22.1] r23.2) fun r24 =>
      bnd (oMv r24.1 r24.2) fun r25 =>
      oRes Tryz.prog [(r25.1, none)] r25.2) (
      bnd (oMv x1 r17.2) fun r26 =>
      bnd (call (fnV 87) [r26.1] r26.2) fun r27 =>
      bnd (oMv r27.1 r27.2) fun r28 =>
      bnd (oExtract r28.1 0 r28.2) fun r29 =>
      bnd (oExtract r28.1 1 r29.2) fun r30 =>
      bnd (oAlloc Tryz.prog 115 r30.2) fun r31 =>
      bnd (stV 256 r31.1 r29.1 r31.2) fun r32 =>
      bnd (oMv r30.1 r32.2) fun r33 =>
      bnd (oMv r33.1 r33.2) fun r34 =>
      vIf r34.1 (
        bnd (oMv x0 r34.2) fun r35 =>
        bnd (call (fnV 89) [r35.1, r31.1] r35.2) fun r36 =>
        bnd (call (fnV 88) [r36.1, r31.1] r36.2) fun r37 =>
        bnd (oMv r37.1 r37.2) fun r38 =>
        oRes Tryz.prog [(r38.1, none)] r38.2) (
        bnd (oMv x0 r34.2) fun r39 =>
        bnd (oMv x1 r39.2) fun r40 =>
        bnd (call (fnV 91) [r39.1, r40.1] r40.2) fun r41 =>
        bnd (oMv x1 r41.2) fun r42 =>
        bnd (call (fnV 90) [r41.1, r42.1] r42.2) fun r43 =>
        bnd (oMv r43.1 r43.2) fun r44 =>
        oRes Tryz.prog [(r44.1, none)] r44.2)))
theorem strings_Trim_eq (call : Eng.Callee) (x0 x1 : Value) (W : AW) : kFun Tryz.prog call 43 (cod 64) (rss 64) [x0, x1] W = strings_Trim call x0 x1 W := by kernel_rfl
theorem strings_Trim_om {x0 x1 : Value} {W : AW} {r : Value × AW} (h : strings_Trim omS x0 x1 W = some r) : omS (.func (.func 64) #[] #[]) [x0, x1] W = some (gc W r) := om_of (nt := 43) (n := 2) (by kernel_rfl) (by kernel_rfl) rfl ((strings_Trim_eq omS x0 x1 W).trans h)
noncomputable def strings_makeASCIISet_L1 (call : Eng.Callee) (R : Nat → Value) (W : AW) : Option LT :=
  bnd (oMv (R 4) W) fun r4 =>
  bnd (oMv (R 0) r4.2) fun r5 =>
  bnd (oBuiltin Tryz.prog .len #[9] 3 #[false] [r5.1] r5.2) fun r6 =>
  bnd (oBin Tryz.prog .lss 3 false false r4.1 r6.1 r6.2) fun r7 =>
  vIf r7.1 (
    bnd (oMv (R 0) r7.2) fun r8 =>
    bnd (oMv (R 4) r8.2) fun r9 =>
    bnd (oIndex Tryz.prog 9 r8.1 r9.1 r9.2) fun r10 =>
    bnd (oMv r10.1 r10.2) fun r11 =>
    bnd (oMv r11.1 r11.2) fun r12 =>
    bnd (oBin Tryz.prog .geq 5 false true r12.1 (.int .u8 128) r12.2) fun r13 =>
    vIf r13.1 (
      bnd (ldA 256 (R 2) r13.2) fun r14 =>
      bnd (stV 256 (R 2) r14.1 r14.2) fun r15 =>
      bnd (oMv (.bool false) r15.2) fun r16 =>
      some (X.ret, (rput (rput (rput (rput (rput (rput (rput (rput (rput (rput (rput (rput R (some 6) r4.1) (some 7) r5.1) (some 8) r6.1) (some 9) r7.1) (some 12) r8.1) (some 13) r9.1) (some 14) r10.1) (some 5) r11.1) (some 15) r12.1) (some 16) r13.1) (some 17) r14.1) (some 3) r16.1), r16.2)) (
      bnd (oMv r11.1 r13.2) fun r17 =>
      bnd (ixA 256 1 (R 2) r17.1 r17.2) fun r18 =>
      bnd (stV 1 r18.1 (.bool true) r18.2) fun r19 =>
      bnd (oMv (R 4) r19.2) fun r20 =>
      bnd (oBin Tryz.prog .add 3 false true r20.1 (.int .i64 1) r20.2) fun r21 =>
      bnd (oMv r21.1 r21.2) fun r22 =>
      some (X.normal, (rput (rput (rput (rput (rput (rput (rput (rput (rput (rput (rput (rput (rput (rput (rput R (some 6) r4.1) (some 7) r5.1) (some 8) r6.1) (some 9) r7.1) (some 12) r8.1) (some 13) r9.1) (some 14) r10.1) (some 5) r11.1) (some 15) r12.1) (some 16) r13.1) (some 18) r17.1) (some 19) r18.1) (some 10) r20.1) (some 11) r21.1) (some 4) r22.1), r22.2))) (
    some (X.exit 0, (rput (rput (rput (rput R (some 6) r4.1) (some 7) r5.1) (some 8) r6.1) (some 9) r7.1), r7.2))
noncomputable def strings_makeASCIISet (call : Eng.Callee) (x0 : Value) (W : AW) : Option (Value × AW) :=
  bnd (oAlloc Tryz.prog 115 W) fun r1 =>
  bnd (oMv (.bool false) r1.2) fun r2 =>
  bnd (oMv (.int .i64 0) r2.2) fun r3 =>
  bnd (loopO (strings_makeASCIISet_L1 call) (rput (rput (rput (argGo 0 [x0] PlanTab.blank) (some 2) r1.1) (some 3) r2.1) (some 4) r3.1) r3.2) fun r23 =>
  kExit 0 r23.1 (
    bnd (ldA 256 (r23.2.1 2) r23.2.2) fun r24 =>
    bnd (stV 256 (r23.2.1 2) r24.1 r24.2) fun r25 =>
    bnd (oMv (.bool true) r25.2) fun r26 =>
    oRes Tryz.prog [((r23.2.1 2), some 115), (r26.1, none)] r26.2) (kRetX r23.1 (
    oRes Tryz.prog [((r23.2.1 2), some 115), ((r23.2.1 3), none)] r23.2.2))
theorem strings_makeASCIISet_eq (call : Eng.Callee) (x0 : Value) (W : AW) : kFun Tryz.prog call 21 (cod 87) (rss 87) [x0] W = strings_makeASCIISet call x0 W := by kernel_rfl
theorem strings_makeASCIISet_om {x0 : Value} {W : AW} {r : Value × AW} (h : strings_makeASCIISet omS x0 W = some r) : omS (.func (.func 87) #[] #[]) [x0] W = some (gc W r) := om_of (nt := 21) (n := 1) (by kernel_rfl) (by kernel_rfl) rfl ((strings_makeASCIISet_eq omS x0 W).trans h)
noncomputable def strings_trimLeftASCII_L1 (call : Eng.Callee) (R : Nat → Value) (W : AW) : Option LT :=
  bnd (oMv (R 0) W) fun r2 =>
  bnd (oBuiltin Tryz.prog .len #[9] 3 #[false] [r2.1] r2.2) fun r3 =>
  bnd (oBin Tryz.prog .gtr 3 false true r3.1 (.int .i64 0) r3.2) fun r4 =>
  vIf r4.1 (
    bnd (oMv (R 1) r4.2) fun r5 =>
    bnd (oMv (R 0) r5.2) fun r6 =>
    bnd (oIndex Tryz.prog 9 r6.1 (.int .i64 0) r6.2) fun r7 =>
    bnd (call (fnV 103) [r5.1, r7.1] r7.2) fun r8 =>
    bnd (oUn Tryz.prog .not r8.1 r8.2) fun r9 =>
    vIf r9.1 (
      some (X.exit 0, (rput (rput (rput (rput (rput (rput (rput (rput R (some 5) r2.1) (some 6) r3.1) (some 7) r4.1) (some 8) r5.1) (some 9) r6.1) (some 10) r7.1) (some 11) r8.1) (some 12) r9.1), r9.2)) (
      bnd (oMv (R 0) r9.2) fun r10 =>
      bnd (oSlice Tryz.prog 9 r10.1 (some (.int .i64 1)) none none r10.2) fun r11 =>
      bnd (oMv r11.1 r11.2) fun r12 =>
      some (X.normal, (rput (rput (rput (rput (rput (rput (rput (rput (rput (rput (rput R (some 5) r2.1) (some 6) r3.1) (some 7) r4.1) (some 8) r5.1) (some 9) r6.1) (some 10) r7.1) (some 11) r8.1) (some 12) r9.1) (some 13) r10.1) (some 14) r11.1) (some 0) r12.1), r12.2))) (
    some (X.exit 0, (rput (rput (rput R (some 5) r2.1) (some 6) r3.1) (some 7) r4.1), r4.2))
noncomputable def strings_trimLeftASCII (call : Eng.Callee) (x0 x1 : Value) (W : AW) : Option (Value × AW) :=
  bnd (oMv (strV []) W) fun r1 =>
  bnd (loopO (strings_trimLeftASCII_L1 call) (rput (argGo 0 [x0, x1] PlanTab.blank) (some 4) r1.1) r1.2) fun r13 =>
  kExit 0 r13.1 (
    bnd (oMv (r13.2.1 0) r13.2.2) fun r14 =>
    bnd (oMv r14.1 r14.2) fun r15 =>
    oRes Tryz.prog [(r15.1, none)] r15.2) (none)
theorem strings_trimLeftASCII_eq (call : Eng.Callee) (x0 x1 : Value) (W : AW) : kFun Tryz.prog call 16 (cod 88) (rss 88) [x0, x1] W = strings_trimLeftASCII call x0 x1 W := by kernel_rfl
theorem strings_trimLeftASCII_om {x0 x1 : Value} {W : AW} {r : Value × AW} (h : strings_trimLeftASCII omS x0 x1 W = some r) : omS (.func (.func 88) #[] #[]) [x0, x1] W = some (gc W r) := om_of (nt := 16) (n := 2) (by kernel_rfl) (by kernel_rfl) rfl ((strings_trimLeftASCII_eq omS x0 x1 W).trans h)
noncomputable def strings_trimRightASCII_L1 (call : Eng.Callee) (R : Nat → Value) (W : AW) : Option LT :=
  bnd (oMv (R 0) W) fun r2 =>
  bnd (oBuiltin Tryz.prog .len #[9] 3 #[false] [r2.1] r2.2) fun r3 =>
  bnd (oBin Tryz.prog .gtr 3 false true r3.1 (.int .i64 0) r3.2) fun r4 =>
  vIf r4.1 (
    bnd (oMv (R 1) r4.2) fun r5 =>
    bnd (oMv (R 0) r5.2) fun r6 =>
    bnd (oMv (R 0) r6.2) fun r7 =>
    bnd (oBuiltin Tryz.prog .len #[9] 3 #[false] [r7.1] r7.2) fun r8 =>
    bnd (oBin Tryz.prog .sub 3 false true r8.1 (.int .i64 1) r8.2) fun r9 =>
    bnd (oIndex Tryz.prog 9 r6.1 r9.1 r9.2) fun r10 =>
    bnd (call (fnV 103) [r5.1, r10.1] r10.2) fun r11 =>
    bnd (oUn Tryz.prog .not r11.1 r11.2) fun r12 =>
    vIf r12.1 (
      some (X.exit 0, (rput (rput (rput (rput (rput (rput (rput (rput (rput (rput (rput R (some 5) r2.1) (some 6) r3.1) (some 7) r4.1) (some 8) r5.1) (some 9) r6.1) (some 10) r7.1) (some 11) r8.1) (some 12) r9.1) (some 13) r10.1) (some 14) r11.1) (some 15) r12.1), r12.2)) (
      bnd (oMv (R 0) r12.2) fun r13 =>
      bnd (oMv (R 0) r13.2) fun r14 =>
      bnd (oBuiltin Tryz.prog .len #[9] 3 #[false] [r14.1] r14.2) fun r15 =>
      bnd (oBin Tryz.prog .sub 3 false true r15.1 (.int .i64 1) r15.2) fun r16 =>
      bnd (oSlice Tryz.prog 9 r13.1 none (some r16.1) none r16.2) fun r17 =>
      bnd (oMv r17.1 r17.2) fun r18 =>
      some (X.normal, (rput (rput (rput (rput (rput (rput (rput (rput (rput (rput (rput (rput (rput (rput (rput (rput (rput R (some 5) r2.1) (some 6) r3.1) (some 7) r4.1) (some 8) r5.1) (some 9) r6.1) (some 10) r7.1) (some 11) r8.1) (some 12) r9.1) (some 13) r10.1) (some 14) r11.1) (some 15) r12.1) (some 16) r13.1) (some 17) r14.1) (some 18) r15.1) (some 19) r16.1) (some 20) r17.1) (some 0) r18.1), r18.2))) (
    some (X.exit 0, (rput (rput (rput R (some 5) r2.1) (some 6) r3.1) (some 7) r4.1), r4.2))
noncomputable def strings_trimRightASCII (call : Eng.Callee) (x0 x1 : Value) (W : AW) : Option (Value × AW) :=
  bnd (oMv (strV []) W) fun r1 =>
  bnd (loopO (strings_trimRightASCII_L1 call) (rput (argGo 0 [x0, x1] PlanTab.blank) (some 4) r1.1) r1.2) fun r19 =>
  kExit 0 r19.1 (
    bnd (oMv (r19.2.1 0) r19.2.2) fun r20 =>
    bnd (oMv r20.1 r20.2) fun r21 =>
    oRes Tryz.prog [(r21.1, none)] r21.2) (none)
theorem strings_trimRightASCII_eq (call : Eng.Callee) (x0 x1 : Value) (W : AW) : kFun Tryz.prog call 22 (cod 89) (rss 89) [x0, x1] W = strings_trimRightASCII call x0 x1 W := by kernel_rfl
theorem strings_trimRightASCII_om {x0 x1 : Value} {W : AW} {r : Value × AW} (h : strings_trimRightASCII omS x0 x1 W = some r) : omS (.func (.func 89) #[] #[]) [x0, x1] W = some (gc W r) := om_of (nt := 22) (n := 2) (by kernel_rfl) (by kernel_rfl) rfl ((strings_trimRightASCII_eq omS x0 x1 W).trans h)
noncomputable def strings_asciiSet_contains (call : Eng.Callee) (x0 x1 : Value) (W : AW) : Option (Value × AW) :=
  bnd (oMv (.bool false) W) fun r1 =>
  bnd (oMv x0 r1.2) fun r2 =>
  bnd (oMv x1 r2.2) fun r3 =>
  bnd (oNilCheck r2.1 r3.2) fun r4 =>
  bnd (ixA 256 1 r4.1 r3.1 r4.2) fun r5 =>
  bnd (ldC r5.1 r5.2) fun r6 =>
  bnd (oMv r6.1 r6.2) fun r7 =>
  oRes Tryz.prog [(r7.1, none)] r7.2
theorem strings_asciiSet_contains_eq (call : Eng.Callee) (x0 x1 : Value) (W : AW) : kFun Tryz.prog call 10 (cod 103) (rss 103) [x0, x1] W = strings_asciiSet_contains call x0 x1 W := by kernel_rfl
theorem strings_asciiSet_contains_om {x0 x1 : Value} {W : AW} {r : Value × AW} (h : strings_asciiSet_contains omS x0 x1 W = some r) : omS (.func (.func 103) #[] #[]) [x0, x1] W = some (gc W r) := om_of (nt := 10) (n := 2) (by kernel_rfl) (by kernel_rfl) rfl ((strings_asciiSet_contains_eq omS x0 x1 W).trans h)
end Go.Proofs.YtfcfglpkgcheiaaGreatDoor
