/- Texts of the program told in continuations: written by a program, shown by the kernel. -/
import Derived.Test.YtkpgmabebjmahaaGreatSBase
import Derived.KernelRfl
namespace Go.Proofs.YtkpgmabebjmahaaGreat
open Go Go.Eng
set_option linter.unusedVariables false
set_option maxRecDepth 100000
noncomputable def law17_HoldsLoads_L1 (call : Eng.Callee) (R : Nat → Value) (W : AW) : Option LT :=
  bnd (oMv (R 11) W) fun r45 =>
  bnd (oMv (R 2) r45.2) fun r46 =>
  bnd (oBuiltin Tryz.prog .len #[23] 3 #[false] [r46.1] r46.2) fun r47 =>
  bnd (oBin Tryz.prog .lss 3 false false r45.1 r47.1 r47.2) fun r48 =>
  vIf r48.1 (
    bnd (oMv (R 7) r48.2) fun r49 =>
    bnd (faO 1 (R 9) r49.2) fun r50 =>
    bnd (ldC r50.1 r50.2) fun r51 =>
    bnd (call (fnV 8) [r49.1] r51.2) fun r52 =>
    bIf (agV true (ldC r50.1 r52.2) r51.1 && true) (bnd (call (fnV 7) [r52.1, r51.1] r52.2) fun r53 =>
    bnd (oUn Tryz.prog .not r53.1 r53.2) fun r54 =>
    vIf r54.1 (
      bnd (oMv (.bool false) r54.2) fun r55 =>
      some (X.ret, (rput (rput (rput (rput (rput (rput (rput (rput (rput (rput (rput R (some 50) r45.1) (some 51) r46.1) (some 52) r47.1) (some 53) r48.1) (some 56) r49.1) (some 58) r50.1) (some 59) r51.1) (some 57) r52.1) (some 60) r53.1) (some 61) r54.1) (some 6) r55.1), r55.2)) (
      bnd (oMv (R 7) r54.2) fun r56 =>
      bnd (ldA 2 (R 9) r56.2) fun r57 =>
      bnd (oMv (R 2) r57.2) fun r58 =>
      bnd (oMv (R 11) r58.2) fun r59 =>
      bnd (ixS 3 r58.1 r59.1 r59.2) fun r60 =>
      bnd (ldA 3 r60.1 r60.2) fun r61 =>
      bnd (oAlloc Tryz.prog 30 r61.2) fun r62 =>
      bnd (call (fnV 9) [r56.1, r57.1, r61.1] r62.2) fun r63 =>
      bnd (oMv r63.1 r63.2) fun r64 =>
      bnd (oExtract r64.1 0 r64.2) fun r65 =>
      bnd (oExtract r64.1 1 r65.2) fun r66 =>
      bnd (stV 2 r62.1 r65.1 r66.2) fun r67 =>
      bnd (oMv r66.1 r67.2) fun r68 =>
      bnd (oMv r68.1 r68.2) fun r69 =>
      bnd (oUn Tryz.prog .not r69.1 r69.2) fun r70 =>
      vIf r70.1 (
        bnd (oMv (.bool false) r70.2) fun r71 =>
        some (X.ret, (rput (rput (rput (rput (rput (rput (rput (rput (rput (rput (rput (rput (rput (rput (rput (rput (rput (rput (rput (rput (rput (rput (rput (rput (rput R (some 50) r45.1) (some 51) r46.1) (some 52) r47.1) (some 53) r48.1) (some 56) r49.1) (some 58) r50.1) (some 59) r51.1) (some 57) r52.1) (some 60) r53.1) (some 61) r54.1) (some 63) r56.1) (some 64) r57.1) (some 65) r58.1) (some 66) r59.1) (some 67) r60.1) (some 68) r61.1) (some 12) r62.1) (some 69) r63.1) (some 62) r64.1) (some 70) r65.1) (some 71) r66.1) (some 13) r68.1) (some 72) r69.1) (some 73) r70.1) (some 6) r71.1), r71.2)) (
        bnd (ldA 2 r62.1 r70.2) fun r72 =>
        bnd (stV 2 (R 9) r72.1 r72.2) fun r73 =>
        bnd (oMv (R 11) r73.2) fun r74 =>
        bnd (oBin Tryz.prog .add 3 false true r74.1 (.int .i64 1) r74.2) fun r75 =>
        bnd (oMv r75.1 r75.2) fun r76 =>
        some (X.normal, (rput (rput (rput (rput (rput (rput (rput (rput (rput (rput (rput (rput (rput (rput (rput (rput (rput (rput (rput (rput (rput (rput (rput (rput (rput (rput (rput (rput R (some 50) r45.1) (some 51) r46.1) (some 52) r47.1) (some 53) r48.1) (some 56) r49.1) (some 58) r50.1) (some 59) r51.1) (some 57) r52.1) (some 60) r53.1) (some 61) r54.1) (some 63) r56.1) (some 64) r57.1) (some 65) r58.1) (some 66) r59.1) (some 67) r60.1) (some 68) r61.1) (some 12) r62.1) (some 69) r63.1) (some 62) r64.1) (some 70) r65.1) (some 71) r66.1) (some 13) r68.1) (some 72) r69.1) (some 73) r70.1) (some 74) r72.1) (some 54) r74.1) (some 55) r75.1) (some 11) r76.1), r76.2)))) none) (
    some (X.exit 0, (rput (rput (rput (rput R (some 50) r45.1) (some 51) r46.1) (some 52) r47.1) (some 53) r48.1), r48.2))
noncomputable def law17_HoldsLoads (call : Eng.Callee) (x0 x1 x2 : Value) (W : AW) : Option (Value × AW) :=
  bnd (oMv (.bool false) W) fun r1 =>
  bnd (oMv x1 r1.2) fun r2 =>
  bnd (oBuiltin Tryz.prog .len #[22] 3 #[false] [r2.1] r2.2) fun r3 =>
  bnd (oBin Tryz.prog .gtr 3 false true r3.1 (.int .i64 100) r3.2) fun r4 =>
  bnd (oMv r4.1 r4.2) fun r5 =>
  bnd (bIf (wnt r5.1 false) (oMv x2 r5.2) (some (undef, r5.2))) fun r6 =>
  bnd (bIf (wnt r5.1 false) (oBuiltin Tryz.prog .len #[23] 3 #[false] [r6.1] r6.2) (some (undef, r6.2))) fun r7 =>
  bnd (bIf (wnt r5.1 false) (oBin Tryz.prog .gtr 3 false true r7.1 (.int .i64 50) r7.2) (some (undef, r7.2))) fun r8 =>
  bnd (oPick r5.1 (.bool true) r8.1 r8.2) fun r9 =>
  vIf r9.1 (
    bnd (call (fnV 4) [] r9.2) fun r10 =>
    bnd (oMv r10.1 r10.2) fun r11 =>
    oRes Tryz.prog [(r11.1, none)] r11.2) (
    bnd (oMv x0 r9.2) fun r12 =>
    bnd (oMv x1 r12.2) fun r13 =>
    bnd (call (fnV 5) [r12.1, r13.1] r13.2) fun r14 =>
    bnd (oMv r14.1 r14.2) fun r15 =>
    bnd (oExtract r15.1 0 r15.2) fun r16 =>
    bnd (oExtract r15.1 1 r16.2) fun r17 =>
    bnd (oMv r16.1 r17.2) fun r18 =>
    bnd (oMv r17.1 r18.2) fun r19 =>
    bnd (oMv x0 r19.2) fun r20 =>
    bnd (oMv x1 r20.2) fun r21 =>
    bnd (call (fnV 6) [r20.1, r21.1] r21.2) fun r22 =>
    bnd (oMv r22.1 r22.2) fun r23 =>
    bnd (oExtract r23.1 0 r23.2) fun r24 =>
    bnd (oExtract r23.1 1 r24.2) fun r25 =>
    bnd (oAlloc Tryz.prog 30 r25.2) fun r26 =>
    bnd (stV 2 r26.1 r24.1 r26.2) fun r27 =>
    bnd (oMv r25.1 r27.2) fun r28 =>
    bnd (oMv r19.1 r28.2) fun r29 =>
    bnd (oMv r28.1 r29.2) fun r30 =>
    bnd (oBin Tryz.prog .neq 26 false false r29.1 r30.1 r30.2) fun r31 =>
    bnd (oMv r31.1 r31.2) fun r32 =>
    bnd (bIf (wnt r32.1 false) (oMv r18.1 r32.2) (some (undef, r32.2))) fun r33 =>
    bnd (bIf (wnt r32.1 false) (oBin Tryz.prog .eql 25 false true r33.1 (.pointer none) r33.2) (some (undef, r33.2))) fun r34 =>
    bnd (bIf (wnt r32.1 false) (oMv r19.1 r34.2) (some (undef, r34.2))) fun r35 =>
    bnd (bIf (wnt r32.1 false) (oBin Tryz.prog .neq 26 false true r35.1 (.int .i64 0) r35.2) (some (undef, r35.2))) fun r36 =>
    bnd (bIf (wnt r32.1 false) (oBin Tryz.prog .neq 4 false false r34.1 r36.1 r36.2) (some (undef, r36.2))) fun r37 =>
    bnd (oPick r32.1 (.bool true) r37.1 r37.2) fun r38 =>
    vIf r38.1 (
      bnd (oMv (.bool false) r38.2) fun r39 =>
      oRes Tryz.prog [(r39.1, none)] r39.2) (
      bnd (oMv r19.1 r38.2) fun r40 =>
      bnd (oBin Tryz.prog .neq 26 false true r40.1 (.int .i64 0) r40.2) fun r41 =>
      vIf r41.1 (
        bnd (call (fnV 4) [] r41.2) fun r42 =>
        bnd (oMv r42.1 r42.2) fun r43 =>
        oRes Tryz.prog [(r43.1, none)] r43.2) (
        bnd (oMv (.int .i64 0) r41.2) fun r44 =>
        bnd (loopO (law17_HoldsLoads_L1 call) (rput (rput (rput (rput (rput (rput (rput (rput (rput (rput (rput (rput (rput (rput (rput (rput (rput (rput (rput (rput (rput (rput (rput (rput (rput (rput (rput (rput (rput (rput (rput (rput (rput (rput (rput (rput (rput (rput (argGo 0 [x0, x1, x2] PlanTab.blank) (some 6) r1.1) (some 16) r2.1) (some 17) r3.1) (some 18) r4.1) (some 19) r5.1) (some 20) r6.1) (some 21) r7.1) (some 22) r8.1) (some 23) r9.1) (some 26) r12.1) (some 27) r13.1) (some 28) r14.1) (some 25) r15.1) (some 29) r16.1) (some 30) r17.1) (some 7) r18.1) (some 8) r19.1) (some 32) r20.1) (some 33) r21.1) (some 34) r22.1) (some 31) r23.1) (some 35) r24.1) (some 36) r25.1) (some 9) r26.1) (some 10) r28.1) (some 37) r29.1) (some 38) r30.1) (some 39) r31.1) (some 40) r32.1) (some 41) r33.1) (some 42) r34.1) (some 43) r35.1) (some 44) r36.1) (some 45) r37.1) (some 46) r38.1) (some 47) r40.1) (some 48) r41.1) (some 11) r44.1) r44.2) fun r77 =>
        kExit 0 r77.1 (
          bnd (oMv (r77.2.1 0) r77.2.2) fun r78 =>
          bnd (oMv (r77.2.1 7) r78.2) fun r79 =>
          bnd (call (fnV 8) [r79.1] r79.2) fun r80 =>
          bnd (call (fnV 5) [r78.1, r80.1] r80.2) fun r81 =>
          bnd (oMv r81.1 r81.2) fun r82 =>
          bnd (oExtract r82.1 0 r82.2) fun r83 =>
          bnd (oExtract r82.1 1 r83.2) fun r84 =>
          bnd (oMv r83.1 r84.2) fun r85 =>
          bnd (oMv r84.1 r85.2) fun r86 =>
          bnd (oMv r86.1 r86.2) fun r87 =>
          bnd (oBin Tryz.prog .eql 26 false true r87.1 (.int .i64 0) r87.2) fun r88 =>
          bnd (oMv r88.1 r88.2) fun r89 =>
          bnd (bIf (wnt r89.1 true) (oMv r85.1 r89.2) (some (undef, r89.2))) fun r90 =>
          bnd (bIf (wnt r89.1 true) (oBin Tryz.prog .neq 25 false true r90.1 (.pointer none) r90.2) (some (undef, r90.2))) fun r91 =>
          bnd (oPick r89.1 r91.1 (.bool false) r91.2) fun r92 =>
          bnd (oMv r92.1 r92.2) fun r93 =>
          bnd (bIf (wnt r93.1 true) (oMv r85.1 r93.2) (some (undef, r93.2))) fun r94 =>
          bnd (bIf (wnt r93.1 true) (call (fnV 8) [r94.1] r94.2) (some (undef, r94.2))) fun r95 =>
          bnd (bIf (wnt r93.1 true) (oMv (r77.2.1 7) r95.2) (some (undef, r95.2))) fun r96 =>
          bnd (bIf (wnt r93.1 true) (call (fnV 8) [r96.1] r96.2) (some (undef, r96.2))) fun r97 =>
          bnd (bIf (wnt r93.1 true) (call (fnV 7) [r95.1, r97.1] r97.2) (some (undef, r97.2))) fun r98 =>
          bnd (oPick r93.1 r98.1 (.bool false) r98.2) fun r99 =>
          bnd (oMv r99.1 r99.2) fun r100 =>
          bnd (bIf (wnt r100.1 true) (call (fnV 4) [] r100.2) (some (undef, r100.2))) fun r101 =>
          bnd (oPick r100.1 r101.1 (.bool false) r101.2) fun r102 =>
          bnd (oMv r102.1 r102.2) fun r103 =>
          oRes Tryz.prog [(r103.1, none)] r103.2) (kRetX r77.1 (
          oRes Tryz.prog [((r77.2.1 6), none)] r77.2.2)))))
theorem law17_HoldsLoads_eq (call : Eng.Callee) (x0 x1 x2 : Value) (W : AW) : kFun Tryz.prog call 98 (cod 3) (rss 3) [x0, x1, x2] W = law17_HoldsLoads call x0 x1 x2 W := by kernel_rfl
theorem law17_HoldsLoads_om {x0 x1 x2 : Value} {W : AW} {r : Value × AW} (h : law17_HoldsLoads omS x0 x1 x2 W = some r) : omS (.func (.func 3) #[] #[]) [x0, x1, x2] W = some (gc W r) := om_of (nt := 98) (n := 3) (by kernel_rfl) (by kernel_rfl) rfl ((law17_HoldsLoads_eq omS x0 x1 x2 W).trans h)
noncomputable def holds_Load_L1 (call : Eng.Callee) (R : Nat → Value) (W : AW) : Option LT :=
  bnd (oBin Tryz.prog .lss 3 false false (R 25) (R 24) W) fun r20 =>
  vIf r20.1 (
    bnd (ixS 2 (R 23) (R 25) r20.2) fun r21 =>
    bnd (ldA 2 r21.1 r21.2) fun r22 =>
    bnd (oAlloc Tryz.prog 43 r22.2) fun r23 =>
    bnd (stV 2 r23.1 r22.1 r23.2) fun r24 =>
    bnd (oMv (R 6) r24.2) fun r25 =>
    bnd (faO 0 r23.1 r25.2) fun r26 =>
    bnd (ldC r26.1 r26.2) fun r27 =>
    bnd (faO 1 r23.1 r27.2) fun r28 =>
    bnd (ldC r28.1 r28.2) fun r29 =>
    bnd (call (fnV 16) [r25.1, r27.1, r29.1] r29.2) fun r30 =>
    vIf r30.1 (
      bnd (oMv (.pointer none) r30.2) fun r31 =>
      bnd (oMv (.int .i64 7) r31.2) fun r32 =>
      some (X.ret, (rput (rput (rput (rput (rput (rput (rput (rput (rput (rput (rput (rput R (some 26) r20.1) (some 27) r21.1) (some 28) r22.1) (some 10) r23.1) (some 29) r25.1) (some 30) r26.1) (some 31) r27.1) (some 32) r28.1) (some 33) r29.1) (some 34) r30.1) (some 4) r31.1) (some 5) r32.1), r32.2)) (
      bnd (oMv (R 8) r30.2) fun r33 =>
      bnd (faO 0 r23.1 r33.2) fun r34 =>
      bnd (ldC r34.1 r34.2) fun r35 =>
      bnd (oMapUpdate Tryz.prog 49 r33.1 r35.1 (.bool true) r35.2) fun r36 =>
      bnd (oBin Tryz.prog .add 3 false true (R 25) (.int .i64 1) r36.2) fun r37 =>
      bnd (oMv r37.1 r37.2) fun r38 =>
      some (X.normal, (rput (rput (rput (rput (rput (rput (rput (rput (rput (rput (rput (rput (rput (rput (rput R (some 26) r20.1) (some 27) r21.1) (some 28) r22.1) (some 10) r23.1) (some 29) r25.1) (some 30) r26.1) (some 31) r27.1) (some 32) r28.1) (some 33) r29.1) (some 34) r30.1) (some 35) r33.1) (some 36) r34.1) (some 37) r35.1) (some 38) r37.1) (some 25) r38.1), r38.2))) (
    some (X.exit 0, (rput R (some 26) r20.1), r20.2))
noncomputable def holds_Load_L2 (call : Eng.Callee) (R : Nat → Value) (W : AW) : Option LT :=
  bnd (oBin Tryz.prog .lss 3 false false (R 51) (R 50) W) fun r57 =>
  vIf r57.1 (
    bnd (ixS 2 (R 49) (R 51) r57.2) fun r58 =>
    bnd (ldA 2 r58.1 r58.2) fun r59 =>
    bnd (oAlloc Tryz.prog 43 r59.2) fun r60 =>
    bnd (stV 2 r60.1 r59.1 r60.2) fun r61 =>
    bnd (oMv (R 6) r61.2) fun r62 =>
    bnd (faO 0 r60.1 r62.2) fun r63 =>
    bnd (ldC r63.1 r63.2) fun r64 =>
    bnd (faO 1 r60.1 r64.2) fun r65 =>
    bnd (ldC r65.1 r65.2) fun r66 =>
    bnd (call (fnV 11) [r62.1, r64.1, r66.1] r66.2) fun r67 =>
    bnd (oMv r67.1 r67.2) fun r68 =>
    bnd (oMv r68.1 r68.2) fun r69 =>
    bnd (oBin Tryz.prog .neq 26 false true r69.1 (.int .i64 0) r69.2) fun r70 =>
    vIf r70.1 (
      bnd (oMv r68.1 r70.2) fun r71 =>
      bnd (oMv (.pointer none) r71.2) fun r72 =>
      bnd (oMv r71.1 r72.2) fun r73 =>
      some (X.ret, (rput (rput (rput (rput (rput (rput (rput (rput (rput (rput (rput (rput (rput (rput (rput (rput R (some 52) r57.1) (some 53) r58.1) (some 54) r59.1) (some 12) r60.1) (some 55) r62.1) (some 56) r63.1) (some 57) r64.1) (some 58) r65.1) (some 59) r66.1) (some 60) r67.1) (some 13) r68.1) (some 61) r69.1) (some 62) r70.1) (some 63) r71.1) (some 4) r72.1) (some 5) r73.1), r73.2)) (
      bnd (oBin Tryz.prog .add 3 false true (R 51) (.int .i64 1) r70.2) fun r74 =>
      bnd (oMv r74.1 r74.2) fun r75 =>
      some (X.normal, (rput (rput (rput (rput (rput (rput (rput (rput (rput (rput (rput (rput (rput (rput (rput R (some 52) r57.1) (some 53) r58.1) (some 54) r59.1) (some 12) r60.1) (some 55) r62.1) (some 56) r63.1) (some 57) r64.1) (some 58) r65.1) (some 59) r66.1) (some 60) r67.1) (some 13) r68.1) (some 61) r69.1) (some 62) r70.1) (some 64) r74.1) (some 51) r75.1), r75.2))) (
    some (X.exit 3, (rput R (some 52) r57.1), r57.2))
noncomputable def holds_Load (call : Eng.Callee) (x0 x1 : Value) (W : AW) : Option (Value × AW) :=
  bnd (oMv (.pointer none) W) fun r1 =>
  bnd (oMv (.int .i64 0) r1.2) fun r2 =>
  bnd (oMv x0 r2.2) fun r3 =>
  bnd (call (fnV 10) [r3.1] r3.2) fun r4 =>
  bnd (oMv r4.1 r4.2) fun r5 =>
  bnd (oExtract r5.1 0 r5.2) fun r6 =>
  bnd (oExtract r5.1 1 r6.2) fun r7 =>
  bnd (oMv r6.1 r7.2) fun r8 =>
  bnd (oMv r7.1 r8.2) fun r9 =>
  bnd (oMv r9.1 r9.2) fun r10 =>
  bnd (oBin Tryz.prog .neq 26 false true r10.1 (.int .i64 0) r10.2) fun r11 =>
  vIf r11.1 (
    bnd (oMv r9.1 r11.2) fun r12 =>
    bnd (oMv (.pointer none) r12.2) fun r13 =>
    bnd (oMv r12.1 r13.2) fun r14 =>
    oRes Tryz.prog [(r13.1, none), (r14.1, none)] r14.2) (
    bnd (oMkMap Tryz.prog 49 none r11.2) fun r15 =>
    bnd (oMv r15.1 r15.2) fun r16 =>
    bnd (oMv x1 r16.2) fun r17 =>
    bnd (oBuiltin Tryz.prog .len #[22] 3 #[false] [r17.1] r17.2) fun r18 =>
    bnd (oMv (.int .i64 0) r18.2) fun r19 =>
    bnd (loopO (holds_Load_L1 call) (rput (rput (rput (rput (rput (rput (rput (rput (rput (rput (rput (rput (rput (rput (rput (rput (argGo 0 [x0, x1] PlanTab.blank) (some 4) r1.1) (some 5) r2.1) (some 15) r3.1) (some 16) r4.1) (some 14) r5.1) (some 17) r6.1) (some 18) r7.1) (some 6) r8.1) (some 7) r9.1) (some 19) r10.1) (some 20) r11.1) (some 22) r15.1) (some 8) r16.1) (some 23) r17.1) (some 24) r18.1) (some 25) r19.1) r19.2) fun r39 =>
    kExit 0 r39.1 (
      bnd (oMv (r39.2.1 8) r39.2.2) fun r40 =>
      bnd (oBuiltin Tryz.prog .len #[49] 3 #[false] [r40.1] r40.2) fun r41 =>
      bnd (oMv (r39.2.1 1) r41.2) fun r42 =>
      bnd (oBuiltin Tryz.prog .len #[22] 3 #[false] [r42.1] r42.2) fun r43 =>
      bnd (oBin Tryz.prog .lss 3 false false r41.1 r43.1 r43.2) fun r44 =>
      bnd (oMv r44.1 r44.2) fun r45 =>
      vIf r45.1 (
        bnd (oMv (.pointer none) r45.2) fun r46 =>
        bnd (oMv (.int .i64 8) r46.2) fun r47 =>
        oRes Tryz.prog [(r46.1, none), (r47.1, none)] r47.2) (
        bnd (oMv (r39.2.1 1) r45.2) fun r48 =>
        bnd (call (fnV 17) [r48.1, (fnV 18)] r48.2) fun r49 =>
        bnd (oUn Tryz.prog .not r49.1 r49.2) fun r50 =>
        bnd (oMv r50.1 r50.2) fun r51 =>
        vIf r51.1 (
          bnd (oMv (.pointer none) r51.2) fun r52 =>
          bnd (oMv (.int .i64 6) r52.2) fun r53 =>
          oRes Tryz.prog [(r52.1, none), (r53.1, none)] r53.2) (
          bnd (oMv (r39.2.1 1) r51.2) fun r54 =>
          bnd (oBuiltin Tryz.prog .len #[22] 3 #[false] [r54.1] r54.2) fun r55 =>
          bnd (oMv (.int .i64 0) r55.2) fun r56 =>
          bnd (loopO (holds_Load_L2 call) (rput (rput (rput (rput (rput (rput (rput (rput (rput (rput (rput (rput (rput r39.2.1 (some 40) r40.1) (some 41) r41.1) (some 42) r42.1) (some 43) r43.1) (some 44) r44.1) (some 39) r45.1) (some 46) r48.1) (some 47) r49.1) (some 48) r50.1) (some 45) r51.1) (some 49) r54.1) (some 50) r55.1) (some 51) r56.1) r56.2) fun r76 =>
          kExit 3 r76.1 (
            bnd (oMv (r76.2.1 6) r76.2.2) fun r77 =>
            bnd (oMv r77.1 r77.2) fun r78 =>
            bnd (oMv (.int .i64 0) r78.2) fun r79 =>
            oRes Tryz.prog [(r78.1, none), (r79.1, none)] r79.2) (kRetX r76.1 (
            oRes Tryz.prog [((r76.2.1 4), none), ((r76.2.1 5), none)] r76.2.2))))) (kRetX r39.1 (
      oRes Tryz.prog [((r39.2.1 4), none), ((r39.2.1 5), none)] r39.2.2)))
theorem holds_Load_eq (call : Eng.Callee) (x0 x1 : Value) (W : AW) : kFun Tryz.prog call 66 (cod 5) (rss 5) [x0, x1] W = holds_Load call x0 x1 W := by kernel_rfl
theorem holds_Load_om {x0 x1 : Value} {W : AW} {r : Value × AW} (h : holds_Load omS x0 x1 W = some r) : omS (.func (.func 5) #[] #[]) [x0, x1] W = some (gc W r) := om_of (nt := 66) (n := 2) (by kernel_rfl) (by kernel_rfl) rfl ((holds_Load_eq omS x0 x1 W).trans h)
noncomputable def ref17_Load_L1 (call : Eng.Callee) (R : Nat → Value) (W : AW) : Option LT :=
  bnd (oMv (R 8) W) fun r18 =>
  bnd (oMv (R 1) r18.2) fun r19 =>
  bnd (oBuiltin Tryz.prog .len #[22] 3 #[false] [r19.1] r19.2) fun r20 =>
  bnd (oBin Tryz.prog .lss 3 false false r18.1 r20.1 r20.2) fun r21 =>
  vIf r21.1 (
    bnd (ldA 2 (R 6) r21.2) fun r22 =>
    bnd (oMv (R 1) r22.2) fun r23 =>
    bnd (oMv (R 8) r23.2) fun r24 =>
    bnd (ixS 2 r23.1 r24.1 r24.2) fun r25 =>
    bnd (faO 0 r25.1 r25.2) fun r26 =>
    bnd (ldC r26.1 r26.2) fun r27 =>
    bnd (oMv (R 1) r27.2) fun r28 =>
    bnd (oMv (R 8) r28.2) fun r29 =>
    bnd (ixS 2 r28.1 r29.1 r29.2) fun r30 =>
    bnd (faO 1 r30.1 r30.2) fun r31 =>
    bnd (ldC r31.1 r31.2) fun r32 =>
    bnd (call (fnV 21) [r22.1, r27.1, r32.1] r32.2) fun r33 =>
    bnd (oMv r33.1 r33.2) fun r34 =>
    bnd (oMv r34.1 r34.2) fun r35 =>
    bnd (oBin Tryz.prog .neq 26 false true r35.1 (.int .i64 0) r35.2) fun r36 =>
    vIf r36.1 (
      bnd (oBuild Tryz.prog 30 [] r36.2) fun r37 =>
      bnd (oMv r34.1 r37.2) fun r38 =>
      bnd (stV 2 (R 4) r37.1 r38.2) fun r39 =>
      bnd (oMv r38.1 r39.2) fun r40 =>
      some (X.ret, (rput (rput (rput (rput (rput (rput (rput (rput (rput (rput (rput (rput (rput (rput (rput (rput (rput (rput (rput (rput (rput (rput R (some 21) r18.1) (some 22) r19.1) (some 23) r20.1) (some 24) r21.1) (some 27) r22.1) (some 28) r23.1) (some 29) r24.1) (some 30) r25.1) (some 31) r26.1) (some 32) r27.1) (some 33) r28.1) (some 34) r29.1) (some 35) r30.1) (some 36) r31.1) (some 37) r32.1) (some 38) r33.1) (some 7) r34.1) (some 39) r35.1) (some 40) r36.1) (some 41) r37.1) (some 42) r38.1) (some 5) r40.1), r40.2)) (
      bnd (oMv (R 8) r36.2) fun r41 =>
      bnd (oBin Tryz.prog .add 3 false true r41.1 (.int .i64 1) r41.2) fun r42 =>
      bnd (oMv r42.1 r42.2) fun r43 =>
      some (X.normal, (rput (rput (rput (rput (rput (rput (rput (rput (rput (rput (rput (rput (rput (rput (rput (rput (rput (rput (rput (rput (rput (rput R (some 21) r18.1) (some 22) r19.1) (some 23) r20.1) (some 24) r21.1) (some 27) r22.1) (some 28) r23.1) (some 29) r24.1) (some 30) r25.1) (some 31) r26.1) (some 32) r27.1) (some 33) r28.1) (some 34) r29.1) (some 35) r30.1) (some 36) r31.1) (some 37) r32.1) (some 38) r33.1) (some 7) r34.1) (some 39) r35.1) (some 40) r36.1) (some 25) r41.1) (some 26) r42.1) (some 8) r43.1), r43.2))) (
    some (X.exit 0, (rput (rput (rput (rput R (some 21) r18.1) (some 22) r19.1) (some 23) r20.1) (some 24) r21.1), r21.2))
noncomputable def ref17_Load_L2_L3 (call : Eng.Callee) (R : Nat → Value) (W : AW) : Option LT :=
  bnd (oMv (R 10) W) fun r51 =>
  bnd (oMv (R 9) r51.2) fun r52 =>
  bnd (oBin Tryz.prog .lss 3 false false r51.1 r52.1 r52.2) fun r53 =>
  vIf r53.1 (
    bnd (oMv (R 1) r53.2) fun r54 =>
    bnd (oMv (R 10) r54.2) fun r55 =>
    bnd (ixS 2 r54.1 r55.1 r55.2) fun r56 =>
    bnd (faO 0 r56.1 r56.2) fun r57 =>
    bnd (ldC r57.1 r57.2) fun r58 =>
    bnd (oMv (R 1) r58.2) fun r59 =>
    bnd (oMv (R 9) r59.2) fun r60 =>
    bnd (ixS 2 r59.1 r60.1 r60.2) fun r61 =>
    bnd (faO 0 r61.1 r61.2) fun r62 =>
    bnd (ldC r62.1 r62.2) fun r63 =>
    bnd (oBin Tryz.prog .eql 3 false false r58.1 r63.1 r63.2) fun r64 =>
    vIf r64.1 (
      bnd (oBuild Tryz.prog 30 [] r64.2) fun r65 =>
      bnd (stV 2 (R 4) r65.1 r65.2) fun r66 =>
      bnd (oMv (.int .i64 8) r66.2) fun r67 =>
      some (X.ret, (rput (rput (rput (rput (rput (rput (rput (rput (rput (rput (rput (rput (rput (rput (rput (rput R (some 49) r51.1) (some 50) r52.1) (some 51) r53.1) (some 54) r54.1) (some 55) r55.1) (some 56) r56.1) (some 57) r57.1) (some 58) r58.1) (some 59) r59.1) (some 60) r60.1) (some 61) r61.1) (some 62) r62.1) (some 63) r63.1) (some 64) r64.1) (some 65) r65.1) (some 5) r67.1), r67.2)) (
      bnd (oMv (R 10) r64.2) fun r68 =>
      bnd (oBin Tryz.prog .add 3 false true r68.1 (.int .i64 1) r68.2) fun r69 =>
      bnd (oMv r69.1 r69.2) fun r70 =>
      some (X.normal, (rput (rput (rput (rput (rput (rput (rput (rput (rput (rput (rput (rput (rput (rput (rput (rput (rput R (some 49) r51.1) (some 50) r52.1) (some 51) r53.1) (some 54) r54.1) (some 55) r55.1) (some 56) r56.1) (some 57) r57.1) (some 58) r58.1) (some 59) r59.1) (some 60) r60.1) (some 61) r61.1) (some 62) r62.1) (some 63) r63.1) (some 64) r64.1) (some 52) r68.1) (some 53) r69.1) (some 10) r70.1), r70.2))) (
    some (X.exit 4, (rput (rput (rput R (some 49) r51.1) (some 50) r52.1) (some 51) r53.1), r53.2))
noncomputable def ref17_Load_L2 (call : Eng.Callee) (R : Nat → Value) (W : AW) : Option LT :=
  bnd (oMv (R 9) W) fun r46 =>
  bnd (oMv (R 1) r46.2) fun r47 =>
  bnd (oBuiltin Tryz.prog .len #[22] 3 #[false] [r47.1] r47.2) fun r48 =>
  bnd (oBin Tryz.prog .lss 3 false false r46.1 r48.1 r48.2) fun r49 =>
  vIf r49.1 (
    bnd (oMv (.int .i64 0) r49.2) fun r50 =>
    bnd (loopO (ref17_Load_L2_L3 call) (rput (rput (rput (rput (rput R (some 43) r46.1) (some 44) r47.1) (some 45) r48.1) (some 46) r49.1) (some 10) r50.1) r50.2) fun r71 =>
    kExit 4 r71.1 (
      bnd (oMv (r71.2.1 9) r71.2.2) fun r72 =>
      bnd (oBin Tryz.prog .add 3 false true r72.1 (.int .i64 1) r72.2) fun r73 =>
      bnd (oMv r73.1 r73.2) fun r74 =>
      some (X.normal, (rput (rput (rput r71.2.1 (some 47) r72.1) (some 48) r73.1) (some 9) r74.1), r74.2)) (kRetX r71.1 (
      some (X.ret, r71.2.1, r71.2.2)))) (
    some (X.exit 2, (rput (rput (rput (rput R (some 43) r46.1) (some 44) r47.1) (some 45) r48.1) (some 46) r49.1), r49.2))
noncomputable def ref17_Load_L4 (call : Eng.Callee) (R : Nat → Value) (W : AW) : Option LT :=
  bnd (oMv (R 11) W) fun r77 =>
  bnd (oMv (R 1) r77.2) fun r78 =>
  bnd (oBuiltin Tryz.prog .len #[22] 3 #[false] [r78.1] r78.2) fun r79 =>
  bnd (oBin Tryz.prog .lss 3 false false r77.1 r79.1 r79.2) fun r80 =>
  vIf r80.1 (
    bnd (oMv (R 1) r80.2) fun r81 =>
    bnd (oMv (R 11) r81.2) fun r82 =>
    bnd (ixS 2 r81.1 r82.1 r82.2) fun r83 =>
    bnd (faO 0 r83.1 r83.2) fun r84 =>
    bnd (ldC r84.1 r84.2) fun r85 =>
    bnd (oMv (R 1) r85.2) fun r86 =>
    bnd (oMv (R 11) r86.2) fun r87 =>
    bnd (oBin Tryz.prog .sub 3 false true r87.1 (.int .i64 1) r87.2) fun r88 =>
    bnd (ixS 2 r86.1 r88.1 r88.2) fun r89 =>
    bnd (faO 0 r89.1 r89.2) fun r90 =>
    bnd (ldC r90.1 r90.2) fun r91 =>
    bnd (oBin Tryz.prog .lss 3 false false r85.1 r91.1 r91.2) fun r92 =>
    vIf r92.1 (
      bnd (oBuild Tryz.prog 30 [] r92.2) fun r93 =>
      bnd (stV 2 (R 4) r93.1 r93.2) fun r94 =>
      bnd (oMv (.int .i64 6) r94.2) fun r95 =>
      some (X.ret, (rput (rput (rput (rput (rput (rput (rput (rput (rput (rput (rput (rput (rput (rput (rput (rput (rput (rput R (some 66) r77.1) (some 67) r78.1) (some 68) r79.1) (some 69) r80.1) (some 72) r81.1) (some 73) r82.1) (some 74) r83.1) (some 75) r84.1) (some 76) r85.1) (some 77) r86.1) (some 78) r87.1) (some 79) r88.1) (some 80) r89.1) (some 81) r90.1) (some 82) r91.1) (some 83) r92.1) (some 84) r93.1) (some 5) r95.1), r95.2)) (
      bnd (oMv (R 11) r92.2) fun r96 =>
      bnd (oBin Tryz.prog .add 3 false true r96.1 (.int .i64 1) r96.2) fun r97 =>
      bnd (oMv r97.1 r97.2) fun r98 =>
      some (X.normal, (rput (rput (rput (rput (rput (rput (rput (rput (rput (rput (rput (rput (rput (rput (rput (rput (rput (rput (rput R (some 66) r77.1) (some 67) r78.1) (some 68) r79.1) (some 69) r80.1) (some 72) r81.1) (some 73) r82.1) (some 74) r83.1) (some 75) r84.1) (some 76) r85.1) (some 77) r86.1) (some 78) r87.1) (some 79) r88.1) (some 80) r89.1) (some 81) r90.1) (some 82) r91.1) (some 83) r92.1) (some 70) r96.1) (some 71) r97.1) (some 11) r98.1), r98.2))) (
    some (X.exit 6, (rput (rput (rput (rput R (some 66) r77.1) (some 67) r78.1) (some 68) r79.1) (some 69) r80.1), r80.2))
noncomputable def ref17_Load (call : Eng.Callee) (x0 x1 : Value) (W : AW) : Option (Value × AW) :=
  bnd (oAlloc Tryz.prog 30 W) fun r1 =>
  bnd (oMv (.int .i64 0) r1.2) fun r2 =>
  bnd (oMv x0 r2.2) fun r3 =>
  bnd (call (fnV 20) [r3.1] r3.2) fun r4 =>
  bnd (oMv r4.1 r4.2) fun r5 =>
  bnd (oExtract r5.1 0 r5.2) fun r6 =>
  bnd (oExtract r5.1 1 r6.2) fun r7 =>
  bnd (oAlloc Tryz.prog 30 r7.2) fun r8 =>
  bnd (stV 2 r8.1 r6.1 r8.2) fun r9 =>
  bnd (oMv r7.1 r9.2) fun r10 =>
  bnd (oMv r10.1 r10.2) fun r11 =>
  bnd (oBin Tryz.prog .neq 26 false true r11.1 (.int .i64 0) r11.2) fun r12 =>
  vIf r12.1 (
    bnd (oBuild Tryz.prog 30 [] r12.2) fun r13 =>
    bnd (oMv r10.1 r13.2) fun r14 =>
    bnd (stV 2 r1.1 r13.1 r14.2) fun r15 =>
    bnd (oMv r14.1 r15.2) fun r16 =>
    oRes Tryz.prog [(r1.1, some 30), (r16.1, none)] r16.2) (
    bnd (oMv (.int .i64 0) r12.2) fun r17 =>
    bnd (loopO (ref17_Load_L1 call) (rput (rput (rput (rput (rput (rput (rput (rput (rput (rput (rput (rput (argGo 0 [x0, x1] PlanTab.blank) (some 4) r1.1) (some 5) r2.1) (some 13) r3.1) (some 14) r4.1) (some 12) r5.1) (some 15) r6.1) (some 16) r7.1) (some 6) r8.1) (some 7) r10.1) (some 17) r11.1) (some 18) r12.1) (some 8) r17.1) r17.2) fun r44 =>
    kExit 0 r44.1 (
      bnd (oMv (.int .i64 0) r44.2.2) fun r45 =>
      bnd (loopO (ref17_Load_L2 call) (rput r44.2.1 (some 9) r45.1) r45.2) fun r75 =>
      kExit 2 r75.1 (
        bnd (oMv (.int .i64 1) r75.2.2) fun r76 =>
        bnd (loopO (ref17_Load_L4 call) (rput r75.2.1 (some 11) r76.1) r76.2) fun r99 =>
        kExit 6 r99.1 (
          bnd (oBuildSlice Tryz.prog 22 0 [] r99.2.2) fun r100 =>
          bnd (oMv (r99.2.1 1) r100.2) fun r101 =>
          bnd (aAppend Tryz.prog r101.2 #[22, 22] r100.1 r101.1) fun r102 =>
          bnd (faO 1 (r99.2.1 6) r102.2) fun r103 =>
          bnd (stV 1 r103.1 r102.1 r103.2) fun r104 =>
          bnd (ldA 2 (r99.2.1 6) r104.2) fun r105 =>
          bnd (stV 2 (r99.2.1 4) r105.1 r105.2) fun r106 =>
          bnd (oMv (.int .i64 0) r106.2) fun r107 =>
          oRes Tryz.prog [((r99.2.1 4), some 30), (r107.1, none)] r107.2) (kRetX r99.1 (
          oRes Tryz.prog [((r99.2.1 4), some 30), ((r99.2.1 5), none)] r99.2.2))) (kRetX r75.1 (
        oRes Tryz.prog [((r75.2.1 4), some 30), ((r75.2.1 5), none)] r75.2.2))) (kRetX r44.1 (
      oRes Tryz.prog [((r44.2.1 4), some 30), ((r44.2.1 5), none)] r44.2.2)))
theorem ref17_Load_eq (call : Eng.Callee) (x0 x1 : Value) (W : AW) : kFun Tryz.prog call 90 (cod 6) (rss 6) [x0, x1] W = ref17_Load call x0 x1 W := by kernel_rfl
theorem ref17_Load_om {x0 x1 : Value} {W : AW} {r : Value × AW} (h : ref17_Load omS x0 x1 W = some r) : omS (.func (.func 6) #[] #[]) [x0, x1] W = some (gc W r) := om_of (nt := 90) (n := 2) (by kernel_rfl) (by kernel_rfl) rfl ((ref17_Load_eq omS x0 x1 W).trans h)
noncomputable def ref17_Same_L1 (call : Eng.Callee) (R : Nat → Value) (W : AW) : Option LT :=
  bnd (oMv (R 5) W) fun r9 =>
  bnd (oMv (R 0) r9.2) fun r10 =>
  bnd (oBuiltin Tryz.prog .len #[22] 3 #[false] [r10.1] r10.2) fun r11 =>
  bnd (oBin Tryz.prog .lss 3 false false r9.1 r11.1 r11.2) fun r12 =>
  vIf r12.1 (
    bnd (oMv (R 0) r12.2) fun r13 =>
    bnd (oMv (R 5) r13.2) fun r14 =>
    bnd (ixS 2 r13.1 r14.1 r14.2) fun r15 =>
    bnd (ldA 2 r15.1 r15.2) fun r16 =>
    bnd (oMv (R 1) r16.2) fun r17 =>
    bnd (oMv (R 5) r17.2) fun r18 =>
    bnd (ixS 2 r17.1 r18.1 r18.2) fun r19 =>
    bnd (ldA 2 r19.1 r19.2) fun r20 =>
    bnd (oBin Tryz.prog .neq 43 false false r16.1 r20.1 r20.2) fun r21 =>
    vIf r21.1 (
      bnd (oMv (.bool false) r21.2) fun r22 =>
      some (X.ret, (rput (rput (rput (rput (rput (rput (rput (rput (rput (rput (rput (rput (rput (rput R (some 11) r9.1) (some 12) r10.1) (some 13) r11.1) (some 14) r12.1) (some 17) r13.1) (some 18) r14.1) (some 19) r15.1) (some 20) r16.1) (some 21) r17.1) (some 22) r18.1) (some 23) r19.1) (some 24) r20.1) (some 25) r21.1) (some 4) r22.1), r22.2)) (
      bnd (oMv (R 5) r21.2) fun r23 =>
      bnd (oBin Tryz.prog .add 3 false true r23.1 (.int .i64 1) r23.2) fun r24 =>
      bnd (oMv r24.1 r24.2) fun r25 =>
      some (X.normal, (rput (rput (rput (rput (rput (rput (rput (rput (rput (rput (rput (rput (rput (rput (rput (rput R (some 11) r9.1) (some 12) r10.1) (some 13) r11.1) (some 14) r12.1) (some 17) r13.1) (some 18) r14.1) (some 19) r15.1) (some 20) r16.1) (some 21) r17.1) (some 22) r18.1) (some 23) r19.1) (some 24) r20.1) (some 25) r21.1) (some 15) r23.1) (some 16) r24.1) (some 5) r25.1), r25.2))) (
    some (X.exit 0, (rput (rput (rput (rput R (some 11) r9.1) (some 12) r10.1) (some 13) r11.1) (some 14) r12.1), r12.2))
noncomputable def ref17_Same (call : Eng.Callee) (x0 x1 : Value) (W : AW) : Option (Value × AW) :=
  bnd (oMv (.bool false) W) fun r1 =>
  bnd (oMv x0 r1.2) fun r2 =>
  bnd (oBuiltin Tryz.prog .len #[22] 3 #[false] [r2.1] r2.2) fun r3 =>
  bnd (oMv x1 r3.2) fun r4 =>
  bnd (oBuiltin Tryz.prog .len #[22] 3 #[false] [r4.1] r4.2) fun r5 =>
  bnd (oBin Tryz.prog .neq 3 false false r3.1 r5.1 r5.2) fun r6 =>
  vIf r6.1 (
    bnd (oMv (.bool false) r6.2) fun r7 =>
    oRes Tryz.prog [(r7.1, none)] r7.2) (
    bnd (oMv (.int .i64 0) r6.2) fun r8 =>
    bnd (loopO (ref17_Same_L1 call) (rput (rput (rput (rput (rput (rput (rput (argGo 0 [x0, x1] PlanTab.blank) (some 4) r1.1) (some 6) r2.1) (some 7) r3.1) (some 8) r4.1) (some 9) r5.1) (some 10) r6.1) (some 5) r8.1) r8.2) fun r26 =>
    kExit 0 r26.1 (
      bnd (oMv (.bool true) r26.2.2) fun r27 =>
      oRes Tryz.prog [(r27.1, none)] r27.2) (kRetX r26.1 (
      oRes Tryz.prog [((r26.2.1 4), none)] r26.2.2)))
theorem ref17_Same_eq (call : Eng.Callee) (x0 x1 : Value) (W : AW) : kFun Tryz.prog call 26 (cod 7) (rss 7) [x0, x1] W = ref17_Same call x0 x1 W := by kernel_rfl
theorem ref17_Same_om {x0 x1 : Value} {W : AW} {r : Value × AW} (h : ref17_Same omS x0 x1 W = some r) : omS (.func (.func 7) #[] #[]) [x0, x1] W = some (gc W r) := om_of (nt := 26) (n := 2) (by kernel_rfl) (by kernel_rfl) rfl ((ref17_Same_eq omS x0 x1 W).trans h)
noncomputable def holds_Holds_Save_Y1a (call : Eng.Callee) (R : Nat → Value) (W : AW) : Option LT :=
  bnd (oAlloc Tryz.prog 43 W) fun r18 =>
  bnd (stV 2 r18.1 (R 21) r18.2) fun r19 =>
  some (X.normal, (rput R (some 5) r18.1), r19.2)
theorem holds_Holds_Save_Y1a_eq (call : Eng.Callee) (R : Nat → Value) (W : AW) : kCode Tryz.prog call false 29 (cAt [1, 1, 1, 0, 1, 0, 0] (cod 8)) LT R W ret3 = holds_Holds_Save_Y1a call R W := by kernel_rfl
noncomputable def holds_Holds_Save_Y1b (call : Eng.Callee) (R : Nat → Value) (W : AW) : Option LT :=
  bnd (ldC (R 3) W) fun r20 =>
  bnd (ldA 2 (R 5) r20.2) fun r21 =>
  bnd (oBuildSlice Tryz.prog 22 1 [(0, r21.1)] r21.2) fun r22 =>
  bnd (aAppend Tryz.prog r22.2 #[22, 22] r20.1 r22.1) fun r23 =>
  bnd (stV 1 (R 3) r23.1 r23.2) fun r24 =>
  some (X.normal, (rput (rput (rput (rput R (some 22) r20.1) (some 23) r21.1) (some 24) r22.1) (some 25) r23.1), r24.2)
theorem holds_Holds_Save_Y1b_eq (call : Eng.Callee) (R : Nat → Value) (W : AW) : kCode Tryz.prog call false 29 (cAt [1, 1, 1, 0, 1, 0, 1] (cod 8)) LT R W ret3 = holds_Holds_Save_Y1b call R W := by kernel_rfl
noncomputable def holds_Holds_Save (call : Eng.Callee) (x0 : Value) (W : AW) : Option (Value × AW) :=
  bnd (oMv (.slice none 0 0) W) fun r1 =>
  bnd (oMv x0 r1.2) fun r2 =>
  bnd (oBin Tryz.prog .eql 25 false true r2.1 (.pointer none) r2.2) fun r3 =>
  bnd (oMv r3.1 r3.2) fun r4 =>
  bnd (bIf (wnt r4.1 false) (oMv x0 r4.2) (some (undef, r4.2))) fun r5 =>
  bnd (bIf (wnt r4.1 false) (oNilCheck r5.1 r5.2) (some (undef, r5.2))) fun r6 =>
  bnd (bIf (wnt r4.1 false) (faO 0 r6.1 r6.2) (some (undef, r6.2))) fun r7 =>
  bnd (bIf (wnt r4.1 false) (ldC r7.1 r7.2) (some (undef, r7.2))) fun r8 =>
  bnd (bIf (wnt r4.1 false) (oBin Tryz.prog .eql 3 false true r8.1 (.int .i64 0) r8.2) (some (undef, r8.2))) fun r9 =>
  bnd (oPick r4.1 (.bool true) r9.1 r9.2) fun r10 =>
  vIf r10.1 (
    bnd (oMv (.slice none 0 0) r10.2) fun r11 =>
    oRes Tryz.prog [(r11.1, none)] r11.2) (
    bnd (oAlloc Tryz.prog 22 r10.2) fun r12 =>
    bnd (oMv x0 r12.2) fun r13 =>
    bnd (oNilCheck r13.1 r13.2) fun r14 =>
    bnd (faO 1 r14.1 r14.2) fun r15 =>
    bnd (ldC r15.1 r15.2) fun r16 =>
    bnd (call (fnV 22) [r16.1] r16.2) fun r17 =>
    bnd (oRange call r17.1 (.loop .ready none (rput (rput (rput (rput (rput (rput (rput (rput (rput (rput (rput (rput (rput (rput (rput (rput (argGo 0 [x0] PlanTab.blank) (some 2) r1.1) (some 6) r2.1) (some 7) r3.1) (some 8) r4.1) (some 9) r5.1) (some 10) r6.1) (some 11) r7.1) (some 12) r8.1) (some 13) r9.1) (some 14) r10.1) (some 3) r12.1) (some 15) r13.1) (some 16) r14.1) (some 17) r15.1) (some 18) r16.1) (some 19) r17.1) 29 #[20, 21] (cAt [1, 1, 1, 0, 1, 0, 0] (cod 8)) (cAt [1, 1, 1, 0, 1, 0, 1] (cod 8))) r17.2) fun r25 =>
    kNorm r25.1 (
      bnd (ldC r12.1 r25.2) fun r26 =>
      bnd (call (fnV 23) [r26.1, (fnV 24)] r26.2) fun r27 =>
      bnd (ldC r12.1 r27.2) fun r28 =>
      bnd (oMv r28.1 r28.2) fun r29 =>
      oRes Tryz.prog [(r29.1, none)] r29.2) (none))
theorem holds_Holds_Save_eq (call : Eng.Callee) (x0 : Value) (W : AW) : kFun Tryz.prog call 29 (cod 8) (rss 8) [x0] W = holds_Holds_Save call x0 W := by kernel_rfl
theorem holds_Holds_Save_om {x0 : Value} {W : AW} {r : Value × AW} (h : holds_Holds_Save omS x0 W = some r) : omS (.func (.func 8) #[] #[]) [x0] W = some (gc W r) := om_of (nt := 29) (n := 1) (by kernel_rfl) (by kernel_rfl) rfl ((holds_Holds_Save_eq omS x0 W).trans h)
noncomputable def law17_one (call : Eng.Callee) (x0 x1 x2 : Value) (W : AW) : Option (Value × AW) :=
  bnd (oBox x1 W) fun r1 =>
  bnd (oBox x2 r1.2) fun r2 =>
  bnd (oAlloc Tryz.prog 30 r2.2) fun r3 =>
  bnd (oMv (.bool false) r3.2) fun r4 =>
  bnd (faO 0 r2.1 r4.2) fun r5 =>
  bnd (ldC r5.1 r5.2) fun r6 =>
  bnd (oBin Tryz.prog .rem 5 false true r6.1 (.int .u8 8) r6.2) fun r7 =>
  bnd (oBin Tryz.prog .eql 5 false true r7.1 (.int .u8 0) r7.2) fun r8 =>
  bnd (oMv r8.1 r8.2) fun r9 =>
  vIf r9.1 (
    vIf r9.1 (
      bnd (ldA 2 r1.1 r9.2) fun r10 =>
      bnd (faO 1 r2.1 r10.2) fun r11 =>
      bnd (ldC r11.1 r11.2) fun r12 =>
      bnd (faO 2 r2.1 r12.2) fun r13 =>
      bnd (ldC r13.1 r13.2) fun r14 =>
      bnd (call (fnV 25) [r10.1, r12.1, r14.1] r14.2) fun r15 =>
      bnd (oMv r15.1 r15.2) fun r16 =>
      bnd (oExtract r16.1 0 r16.2) fun r17 =>
      bnd (oExtract r16.1 1 r17.2) fun r18 =>
      bnd (oAlloc Tryz.prog 30 r18.2) fun r19 =>
      bnd (stV 2 r19.1 r17.1 r19.2) fun r20 =>
      bnd (oMv r18.1 r20.2) fun r21 =>
      bnd (ldA 2 r19.1 r21.2) fun r22 =>
      bnd (oMv x0 r22.2) fun r23 =>
      bnd (faO 1 r2.1 r23.2) fun r24 =>
      bnd (ldC r24.1 r24.2) fun r25 =>
      bnd (faO 2 r2.1 r25.2) fun r26 =>
      bnd (ldC r26.1 r26.2) fun r27 =>
      bnd (oMv r21.1 r27.2) fun r28 =>
      bnd (call (fnV 11) [r23.1, r25.1, r27.1] r28.2) fun r29 =>
      bIf (agV true (ldA 2 r19.1 r29.2) r22.1 && true) (bnd (oBin Tryz.prog .eql 26 false false r29.1 r28.1 r29.2) fun r30 =>
      bnd (stV 2 r3.1 r22.1 r30.2) fun r31 =>
      bIf (agV true (oBin Tryz.prog .eql 26 false false r29.1 r28.1 r31.2) r30.1 && true) (bnd (oMv r30.1 r31.2) fun r32 =>
      oRes Tryz.prog [(r3.1, some 30), (r32.1, none)] r32.2) none) none) (
      bnd (oBin Tryz.prog .eql 5 false true r7.1 (.int .u8 2) r9.2) fun r33 =>
      bnd (oMv r33.1 r33.2) fun r34 =>
      vIf r34.1 (
        bnd (ldA 2 r1.1 r34.2) fun r35 =>
        bnd (faO 1 r2.1 r35.2) fun r36 =>
        bnd (ldC r36.1 r36.2) fun r37 =>
        bnd (faO 2 r2.1 r37.2) fun r38 =>
        bnd (ldC r38.1 r38.2) fun r39 =>
        bnd (call (fnV 26) [r35.1, r37.1, r39.1] r39.2) fun r40 =>
        bnd (oMv r40.1 r40.2) fun r41 =>
        bnd (oExtract r41.1 0 r41.2) fun r42 =>
        bnd (oExtract r41.1 1 r42.2) fun r43 =>
        bnd (oAlloc Tryz.prog 30 r43.2) fun r44 =>
        bnd (stV 2 r44.1 r42.1 r44.2) fun r45 =>
        bnd (oMv r43.1 r45.2) fun r46 =>
        bnd (ldA 2 r44.1 r46.2) fun r47 =>
        bnd (oMv x0 r47.2) fun r48 =>
        bnd (faO 1 r2.1 r48.2) fun r49 =>
        bnd (ldC r49.1 r49.2) fun r50 =>
        bnd (faO 2 r2.1 r50.2) fun r51 =>
        bnd (ldC r51.1 r51.2) fun r52 =>
        bnd (oMv r46.1 r52.2) fun r53 =>
        bnd (call (fnV 13) [r48.1, r50.1, r52.1] r53.2) fun r54 =>
        bIf (agV true (ldA 2 r44.1 r54.2) r47.1 && true) (bnd (oBin Tryz.prog .eql 26 false false r54.1 r53.1 r54.2) fun r55 =>
        bnd (stV 2 r3.1 r47.1 r55.2) fun r56 =>
        bIf (agV true (oBin Tryz.prog .eql 26 false false r54.1 r53.1 r56.2) r55.1 && true) (bnd (oMv r55.1 r56.2) fun r57 =>
        oRes Tryz.prog [(r3.1, some 30), (r57.1, none)] r57.2) none) none) (
        bnd (oBin Tryz.prog .eql 5 false true r7.1 (.int .u8 3) r34.2) fun r58 =>
        bnd (oMv r58.1 r58.2) fun r59 =>
        vIf r59.1 (
          bnd (oMv x0 r59.2) fun r60 =>
          bnd (faO 1 r2.1 r60.2) fun r61 =>
          bnd (ldC r61.1 r61.2) fun r62 =>
          bnd (call (fnV 27) [r60.1, r62.1] r62.2) fun r63 =>
          bnd (oMv r63.1 r63.2) fun r64 =>
          bnd (oExtract r64.1 0 r64.2) fun r65 =>
          bnd (oExtract r64.1 1 r65.2) fun r66 =>
          bnd (oMv r65.1 r66.2) fun r67 =>
          bnd (oMv r66.1 r67.2) fun r68 =>
          bnd (ldA 2 r1.1 r68.2) fun r69 =>
          bnd (faO 1 r2.1 r69.2) fun r70 =>
          bnd (ldC r70.1 r70.2) fun r71 =>
          bnd (call (fnV 28) [r69.1, r71.1] r71.2) fun r72 =>
          bnd (oMv r72.1 r72.2) fun r73 =>
          bnd (oExtract r73.1 0 r73.2) fun r74 =>
          bnd (oExtract r73.1 1 r74.2) fun r75 =>
          bnd (oExtract r73.1 2 r75.2) fun r76 =>
          bnd (oAlloc Tryz.prog 30 r76.2) fun r77 =>
          bnd (stV 2 r77.1 r74.1 r77.2) fun r78 =>
          bnd (oMv r75.1 r78.2) fun r79 =>
          bnd (oMv r76.1 r79.2) fun r80 =>
          bnd (ldA 2 r77.1 r80.2) fun r81 =>
          bnd (oMv r67.1 r81.2) fun r82 =>
          bnd (oMv r79.1 r82.2) fun r83 =>
          bnd (oBin Tryz.prog .eql 2 false false r82.1 r83.1 r83.2) fun r84 =>
          bnd (oMv r84.1 r84.2) fun r85 =>
          bnd (bIf (wnt r85.1 true) (oMv r68.1 r85.2) (some (undef, r85.2))) fun r86 =>
          bnd (bIf (wnt r85.1 true) (oMv r80.1 r86.2) (some (undef, r86.2))) fun r87 =>
          bnd (bIf (wnt r85.1 true) (oBin Tryz.prog .eql 26 false false r86.1 r87.1 r87.2) (some (undef, r87.2))) fun r88 =>
          bnd (oPick r85.1 r88.1 (.bool false) r88.2) fun r89 =>
          bnd (stV 2 r3.1 r81.1 r89.2) fun r90 =>
          bnd (oMv r89.1 r90.2) fun r91 =>
          oRes Tryz.prog [(r3.1, some 30), (r91.1, none)] r91.2) (
          bnd (oBin Tryz.prog .eql 5 false true r7.1 (.int .u8 4) r59.2) fun r92 =>
          bnd (oMv r92.1 r92.2) fun r93 =>
          vIf r93.1 (
            bnd (oMv x0 r93.2) fun r94 =>
            bnd (faO 1 r2.1 r94.2) fun r95 =>
            bnd (ldC r95.1 r95.2) fun r96 =>
            bnd (call (fnV 29) [r94.1, r96.1] r96.2) fun r97 =>
            bnd (oMv r97.1 r97.2) fun r98 =>
            bnd (oExtract r98.1 0 r98.2) fun r99 =>
            bnd (oExtract r98.1 1 r99.2) fun r100 =>
            bnd (oMv r99.1 r100.2) fun r101 =>
            bnd (oMv r100.1 r101.2) fun r102 =>
            bnd (ldA 2 r1.1 r102.2) fun r103 =>
            bnd (faO 1 r2.1 r103.2) fun r104 =>
            bnd (ldC r104.1 r104.2) fun r105 =>
            bnd (call (fnV 30) [r103.1, r105.1] r105.2) fun r106 =>
            bnd (oMv r106.1 r106.2) fun r107 =>
            bnd (oExtract r107.1 0 r107.2) fun r108 =>
            bnd (oExtract r107.1 1 r108.2) fun r109 =>
            bnd (oMv r108.1 r109.2) fun r110 =>
            bnd (oMv r109.1 r110.2) fun r111 =>
            bnd (ldA 2 r1.1 r111.2) fun r112 =>
            bnd (oMv r101.1 r112.2) fun r113 =>
            bnd (oMv r110.1 r113.2) fun r114 =>
            bnd (oBin Tryz.prog .eql 2 false false r113.1 r114.1 r114.2) fun r115 =>
            bnd (oMv r115.1 r115.2) fun r116 =>
            bnd (bIf (wnt r116.1 true) (oMv r102.1 r116.2) (some (undef, r116.2))) fun r117 =>
            bnd (bIf (wnt r116.1 true) (oMv r111.1 r117.2) (some (undef, r117.2))) fun r118 =>
            bnd (bIf (wnt r116.1 true) (oBin Tryz.prog .eql 26 false false r117.1 r118.1 r118.2) (some (undef, r118.2))) fun r119 =>
            bnd (oPick r116.1 r119.1 (.bool false) r119.2) fun r120 =>
            bnd (stV 2 r3.1 r112.1 r120.2) fun r121 =>
            bnd (oMv r120.1 r121.2) fun r122 =>
            oRes Tryz.prog [(r3.1, some 30), (r122.1, none)] r122.2) (
            bnd (oBin Tryz.prog .eql 5 false true r7.1 (.int .u8 5) r93.2) fun r123 =>
            bnd (oMv r123.1 r123.2) fun r124 =>
            vIf r124.1 (
              bnd (oMv x0 r124.2) fun r125 =>
              bnd (call (fnV 12) [r125.1] r125.2) fun r126 =>
              bnd (oMv r126.1 r126.2) fun r127 =>
              bnd (oExtract r127.1 0 r127.2) fun r128 =>
              bnd (oExtract r127.1 1 r128.2) fun r129 =>
              bnd (oAlloc Tryz.prog 43 r129.2) fun r130 =>
              bnd (stV 2 r130.1 r128.1 r130.2) fun r131 =>
              bnd (oMv r129.1 r131.2) fun r132 =>
              bnd (ldA 2 r1.1 r132.2) fun r133 =>
              bnd (call (fnV 31) [r133.1] r133.2) fun r134 =>
              bnd (oMv r134.1 r134.2) fun r135 =>
              bnd (oExtract r135.1 0 r135.2) fun r136 =>
              bnd (oExtract r135.1 1 r136.2) fun r137 =>
              bnd (oAlloc Tryz.prog 43 r137.2) fun r138 =>
              bnd (stV 2 r138.1 r136.1 r138.2) fun r139 =>
              bnd (oMv r137.1 r139.2) fun r140 =>
              bnd (ldA 2 r1.1 r140.2) fun r141 =>
              bnd (ldA 2 r130.1 r141.2) fun r142 =>
              bnd (ldA 2 r138.1 r142.2) fun r143 =>
              bnd (oBin Tryz.prog .eql 43 false false r142.1 r143.1 r143.2) fun r144 =>
              bnd (oMv r144.1 r144.2) fun r145 =>
              bnd (bIf (wnt r145.1 true) (oMv r132.1 r145.2) (some (undef, r145.2))) fun r146 =>
              bnd (bIf (wnt r145.1 true) (oMv r140.1 r146.2) (some (undef, r146.2))) fun r147 =>
              bnd (bIf (wnt r145.1 true) (oBin Tryz.prog .eql 26 false false r146.1 r147.1 r147.2) (some (undef, r147.2))) fun r148 =>
              bnd (oPick r145.1 r148.1 (.bool false) r148.2) fun r149 =>
              bnd (oMv r149.1 r149.2) fun r150 =>
              bnd (bIf (wnt r150.1 true) (oMv x0 r150.2) (some (undef, r150.2))) fun r151 =>
              bnd (bIf (wnt r150.1 true) (faO 1 r1.1 r151.2) (some (undef, r151.2))) fun r152 =>
              bnd (bIf (wnt r150.1 true) (ldC r152.1 r152.2) (some (undef, r152.2))) fun r153 =>
              bnd (bIf (wnt r150.1 true) (oBuiltin Tryz.prog .len #[22] 3 #[false] [r153.1] r153.2) (some (undef, r153.2))) fun r154 =>
              bnd (bIf (wnt r150.1 true) (call (fnV 15) [r151.1] r154.2) (some (undef, r154.2))) fun r155 =>
              bIf (agV (wnt r150.1 true) (oBuiltin Tryz.prog .len #[22] 3 #[false] [r153.1] r155.2) r154.1 && (agV (wnt r150.1 true) (ldC r152.1 r155.2) r153.1 && (agV true (ldA 2 r1.1 r155.2) r141.1 && true))) (bnd (bIf (wnt r150.1 true) (oBin Tryz.prog .eql 3 false false r155.1 r154.1 r155.2) (some (undef, r155.2))) fun r156 =>
              bnd (oPick r150.1 r156.1 (.bool false) r156.2) fun r157 =>
              bnd (stV 2 r3.1 r141.1 r157.2) fun r158 =>
              bIf (agV (wnt r150.1 true) (oBin Tryz.prog .eql 3 false false r155.1 r154.1 r158.2) r156.1 && (agV (wnt r150.1 true) (oBuiltin Tryz.prog .len #[22] 3 #[false] [r153.1] r158.2) r154.1 && (agV (wnt r150.1 true) (ldC r152.1 r158.2) r153.1 && true))) (bnd (oMv r157.1 r158.2) fun r159 =>
              oRes Tryz.prog [(r3.1, some 30), (r159.1, none)] r159.2) none) none) (
              bnd (oMv x0 r124.2) fun r160 =>
              bnd (faO 2 r2.1 r160.2) fun r161 =>
              bnd (ldC r161.1 r161.2) fun r162 =>
              bnd (call (fnV 14) [r160.1, r162.1] r162.2) fun r163 =>
              bnd (oMv r163.1 r163.2) fun r164 =>
              bnd (oExtract r164.1 0 r164.2) fun r165 =>
              bnd (oExtract r164.1 1 r165.2) fun r166 =>
              bnd (oMv r165.1 r166.2) fun r167 =>
              bnd (oMv r166.1 r167.2) fun r168 =>
              bnd (ldA 2 r1.1 r168.2) fun r169 =>
              bnd (faO 2 r2.1 r169.2) fun r170 =>
              bnd (ldC r170.1 r170.2) fun r171 =>
              bnd (call (fnV 32) [r169.1, r171.1] r171.2) fun r172 =>
              bnd (oMv r172.1 r172.2) fun r173 =>
              bnd (oExtract r173.1 0 r173.2) fun r174 =>
              bnd (oExtract r173.1 1 r174.2) fun r175 =>
              bnd (oExtract r173.1 2 r175.2) fun r176 =>
              bnd (oAlloc Tryz.prog 30 r176.2) fun r177 =>
              bnd (stV 2 r177.1 r174.1 r177.2) fun r178 =>
              bnd (oMv r175.1 r178.2) fun r179 =>
              bnd (oMv r176.1 r179.2) fun r180 =>
              bnd (ldA 2 r177.1 r180.2) fun r181 =>
              bnd (oMv r167.1 r181.2) fun r182 =>
              bnd (oMv r179.1 r182.2) fun r183 =>
              bnd (call (fnV 7) [r182.1, r183.1] r183.2) fun r184 =>
              bIf (agV true (ldA 2 r177.1 r184.2) r181.1 && true) (bnd (oMv r184.1 r184.2) fun r185 =>
              bnd (bIf (wnt r185.1 true) (oMv r168.1 r185.2) (some (undef, r185.2))) fun r186 =>
              bnd (bIf (wnt r185.1 true) (oMv r180.1 r186.2) (some (undef, r186.2))) fun r187 =>
              bnd (bIf (wnt r185.1 true) (oBin Tryz.prog .eql 26 false false r186.1 r187.1 r187.2) (some (undef, r187.2))) fun r188 =>
              bnd (oPick r185.1 r188.1 (.bool false) r188.2) fun r189 =>
              bnd (stV 2 r3.1 r181.1 r189.2) fun r190 =>
              bIf (agV (wnt r185.1 true) (oBin Tryz.prog .eql 26 false false r186.1 r187.1 r190.2) r188.1 && true) (bnd (oMv r189.1 r190.2) fun r191 =>
              oRes Tryz.prog [(r3.1, some 30), (r191.1, none)] r191.2) none) none)))))) (
    bnd (oBin Tryz.prog .eql 5 false true r7.1 (.int .u8 1) r9.2) fun r192 =>
    bnd (oMv r192.1 r192.2) fun r193 =>
    vIf r193.1 (
      bnd (ldA 2 r1.1 r193.2) fun r194 =>
      bnd (faO 1 r2.1 r194.2) fun r195 =>
      bnd (ldC r195.1 r195.2) fun r196 =>
      bnd (faO 2 r2.1 r196.2) fun r197 =>
      bnd (ldC r197.1 r197.2) fun r198 =>
      bnd (call (fnV 25) [r194.1, r196.1, r198.1] r198.2) fun r199 =>
      bnd (oMv r199.1 r199.2) fun r200 =>
      bnd (oExtract r200.1 0 r200.2) fun r201 =>
      bnd (oExtract r200.1 1 r201.2) fun r202 =>
      bnd (oAlloc Tryz.prog 30 r202.2) fun r203 =>
      bnd (stV 2 r203.1 r201.1 r203.2) fun r204 =>
      bnd (oMv r202.1 r204.2) fun r205 =>
      bnd (ldA 2 r203.1 r205.2) fun r206 =>
      bnd (oMv x0 r206.2) fun r207 =>
      bnd (faO 1 r2.1 r207.2) fun r208 =>
      bnd (ldC r208.1 r208.2) fun r209 =>
      bnd (faO 2 r2.1 r209.2) fun r210 =>
      bnd (ldC r210.1 r210.2) fun r211 =>
      bnd (oMv r205.1 r211.2) fun r212 =>
      bnd (call (fnV 11) [r207.1, r209.1, r211.1] r212.2) fun r213 =>
      bIf (agV true (ldA 2 r203.1 r213.2) r206.1 && true) (bnd (oBin Tryz.prog .eql 26 false false r213.1 r212.1 r213.2) fun r214 =>
      bnd (stV 2 r3.1 r206.1 r214.2) fun r215 =>
      bIf (agV true (oBin Tryz.prog .eql 26 false false r213.1 r212.1 r215.2) r214.1 && true) (bnd (oMv r214.1 r215.2) fun r216 =>
      oRes Tryz.prog [(r3.1, some 30), (r216.1, none)] r216.2) none) none) (
      bnd (oBin Tryz.prog .eql 5 false true r7.1 (.int .u8 2) r193.2) fun r217 =>
      bnd (oMv r217.1 r217.2) fun r218 =>
      vIf r218.1 (
        bnd (ldA 2 r1.1 r218.2) fun r219 =>
        bnd (faO 1 r2.1 r219.2) fun r220 =>
        bnd (ldC r220.1 r220.2) fun r221 =>
        bnd (faO 2 r2.1 r221.2) fun r222 =>
        bnd (ldC r222.1 r222.2) fun r223 =>
        bnd (call (fnV 26) [r219.1, r221.1, r223.1] r223.2) fun r224 =>
        bnd (oMv r224.1 r224.2) fun r225 =>
        bnd (oExtract r225.1 0 r225.2) fun r226 =>
        bnd (oExtract r225.1 1 r226.2) fun r227 =>
        bnd (oAlloc Tryz.prog 30 r227.2) fun r228 =>
        bnd (stV 2 r228.1 r226.1 r228.2) fun r229 =>
        bnd (oMv r227.1 r229.2) fun r230 =>
        bnd (ldA 2 r228.1 r230.2) fun r231 =>
        bnd (oMv x0 r231.2) fun r232 =>
        bnd (faO 1 r2.1 r232.2) fun r233 =>
        bnd (ldC r233.1 r233.2) fun r234 =>
        bnd (faO 2 r2.1 r234.2) fun r235 =>
        bnd (ldC r235.1 r235.2) fun r236 =>
        bnd (oMv r230.1 r236.2) fun r237 =>
        bnd (call (fnV 13) [r232.1, r234.1, r236.1] r237.2) fun r238 =>
        bIf (agV true (ldA 2 r228.1 r238.2) r231.1 && true) (bnd (oBin Tryz.prog .eql 26 false false r238.1 r237.1 r238.2) fun r239 =>
        bnd (stV 2 r3.1 r231.1 r239.2) fun r240 =>
        bIf (agV true (oBin Tryz.prog .eql 26 false false r238.1 r237.1 r240.2) r239.1 && true) (bnd (oMv r239.1 r240.2) fun r241 =>
        oRes Tryz.prog [(r3.1, some 30), (r241.1, none)] r241.2) none) none) (
        bnd (oBin Tryz.prog .eql 5 false true r7.1 (.int .u8 3) r218.2) fun r242 =>
        bnd (oMv r242.1 r242.2) fun r243 =>
        vIf r243.1 (
          bnd (oMv x0 r243.2) fun r244 =>
          bnd (faO 1 r2.1 r244.2) fun r245 =>
          bnd (ldC r245.1 r245.2) fun r246 =>
          bnd (call (fnV 27) [r244.1, r246.1] r246.2) fun r247 =>
          bnd (oMv r247.1 r247.2) fun r248 =>
          bnd (oExtract r248.1 0 r248.2) fun r249 =>
          bnd (oExtract r248.1 1 r249.2) fun r250 =>
          bnd (oMv r249.1 r250.2) fun r251 =>
          bnd (oMv r250.1 r251.2) fun r252 =>
          bnd (ldA 2 r1.1 r252.2) fun r253 =>
          bnd (faO 1 r2.1 r253.2) fun r254 =>
          bnd (ldC r254.1 r254.2) fun r255 =>
          bnd (call (fnV 28) [r253.1, r255.1] r255.2) fun r256 =>
          bnd (oMv r256.1 r256.2) fun r257 =>
          bnd (oExtract r257.1 0 r257.2) fun r258 =>
          bnd (oExtract r257.1 1 r258.2) fun r259 =>
          bnd (oExtract r257.1 2 r259.2) fun r260 =>
          bnd (oAlloc Tryz.prog 30 r260.2) fun r261 =>
          bnd (stV 2 r261.1 r258.1 r261.2) fun r262 =>
          bnd (oMv r259.1 r262.2) fun r263 =>
          bnd (oMv r260.1 r263.2) fun r264 =>
          bnd (ldA 2 r261.1 r264.2) fun r265 =>
          bnd (oMv r251.1 r265.2) fun r266 =>
          bnd (oMv r263.1 r266.2) fun r267 =>
          bnd (oBin Tryz.prog .eql 2 false false r266.1 r267.1 r267.2) fun r268 =>
          bnd (oMv r268.1 r268.2) fun r269 =>
          bnd (bIf (wnt r269.1 true) (oMv r252.1 r269.2) (some (undef, r269.2))) fun r270 =>
          bnd (bIf (wnt r269.1 true) (oMv r264.1 r270.2) (some (undef, r270.2))) fun r271 =>
          bnd (bIf (wnt r269.1 true) (oBin Tryz.prog .eql 26 false false r270.1 r271.1 r271.2) (some (undef, r271.2))) fun r272 =>
          bnd (oPick r269.1 r272.1 (.bool false) r272.2) fun r273 =>
          bnd (stV 2 r3.1 r265.1 r273.2) fun r274 =>
          bnd (oMv r273.1 r274.2) fun r275 =>
          oRes Tryz.prog [(r3.1, some 30), (r275.1, none)] r275.2) (
          bnd (oBin Tryz.prog .eql 5 false true r7.1 (.int .u8 4) r243.2) fun r276 =>
          bnd (oMv r276.1 r276.2) fun r277 =>
          vIf r277.1 (
            bnd (oMv x0 r277.2) fun r278 =>
            bnd (faO 1 r2.1 r278.2) fun r279 =>
            bnd (ldC r279.1 r279.2) fun r280 =>
            bnd (call (fnV 29) [r278.1, r280.1] r280.2) fun r281 =>
            bnd (oMv r281.1 r281.2) fun r282 =>
            bnd (oExtract r282.1 0 r282.2) fun r283 =>
            bnd (oExtract r282.1 1 r283.2) fun r284 =>
            bnd (oMv r283.1 r284.2) fun r285 =>
            bnd (oMv r284.1 r285.2) fun r286 =>
            bnd (ldA 2 r1.1 r286.2) fun r287 =>
            bnd (faO 1 r2.1 r287.2) fun r288 =>
            bnd (ldC r288.1 r288.2) fun r289 =>
            bnd (call (fnV 30) [r287.1, r289.1] r289.2) fun r290 =>
            bnd (oMv r290.1 r290.2) fun r291 =>
            bnd (oExtract r291.1 0 r291.2) fun r292 =>
            bnd (oExtract r291.1 1 r292.2) fun r293 =>
            bnd (oMv r292.1 r293.2) fun r294 =>
            bnd (oMv r293.1 r294.2) fun r295 =>
            bnd (ldA 2 r1.1 r295.2) fun r296 =>
            bnd (oMv r285.1 r296.2) fun r297 =>
            bnd (oMv r294.1 r297.2) fun r298 =>
            bnd (oBin Tryz.prog .eql 2 false false r297.1 r298.1 r298.2) fun r299 =>
            bnd (oMv r299.1 r299.2) fun r300 =>
            bnd (bIf (wnt r300.1 true) (oMv r286.1 r300.2) (some (undef, r300.2))) fun r301 =>
            bnd (bIf (wnt r300.1 true) (oMv r295.1 r301.2) (some (undef, r301.2))) fun r302 =>
            bnd (bIf (wnt r300.1 true) (oBin Tryz.prog .eql 26 false false r301.1 r302.1 r302.2) (some (undef, r302.2))) fun r303 =>
            bnd (oPick r300.1 r303.1 (.bool false) r303.2) fun r304 =>
            bnd (stV 2 r3.1 r296.1 r304.2) fun r305 =>
            bnd (oMv r304.1 r305.2) fun r306 =>
            oRes Tryz.prog [(r3.1, some 30), (r306.1, none)] r306.2) (
            bnd (oBin Tryz.prog .eql 5 false true r7.1 (.int .u8 5) r277.2) fun r307 =>
            bnd (oMv r307.1 r307.2) fun r308 =>
            vIf r308.1 (
              bnd (oMv x0 r308.2) fun r309 =>
              bnd (call (fnV 12) [r309.1] r309.2) fun r310 =>
              bnd (oMv r310.1 r310.2) fun r311 =>
              bnd (oExtract r311.1 0 r311.2) fun r312 =>
              bnd (oExtract r311.1 1 r312.2) fun r313 =>
              bnd (oAlloc Tryz.prog 43 r313.2) fun r314 =>
              bnd (stV 2 r314.1 r312.1 r314.2) fun r315 =>
              bnd (oMv r313.1 r315.2) fun r316 =>
              bnd (ldA 2 r1.1 r316.2) fun r317 =>
              bnd (call (fnV 31) [r317.1] r317.2) fun r318 =>
              bnd (oMv r318.1 r318.2) fun r319 =>
              bnd (oExtract r319.1 0 r319.2) fun r320 =>
              bnd (oExtract r319.1 1 r320.2) fun r321 =>
              bnd (oAlloc Tryz.prog 43 r321.2) fun r322 =>
              bnd (stV 2 r322.1 r320.1 r322.2) fun r323 =>
              bnd (oMv r321.1 r323.2) fun r324 =>
              bnd (ldA 2 r1.1 r324.2) fun r325 =>
              bnd (ldA 2 r314.1 r325.2) fun r326 =>
              bnd (ldA 2 r322.1 r326.2) fun r327 =>
              bnd (oBin Tryz.prog .eql 43 false false r326.1 r327.1 r327.2) fun r328 =>
              bnd (oMv r328.1 r328.2) fun r329 =>
              bnd (bIf (wnt r329.1 true) (oMv r316.1 r329.2) (some (undef, r329.2))) fun r330 =>
              bnd (bIf (wnt r329.1 true) (oMv r324.1 r330.2) (some (undef, r330.2))) fun r331 =>
              bnd (bIf (wnt r329.1 true) (oBin Tryz.prog .eql 26 false false r330.1 r331.1 r331.2) (some (undef, r331.2))) fun r332 =>
              bnd (oPick r329.1 r332.1 (.bool false) r332.2) fun r333 =>
              bnd (oMv r333.1 r333.2) fun r334 =>
              bnd (bIf (wnt r334.1 true) (oMv x0 r334.2) (some (undef, r334.2))) fun r335 =>
              bnd (bIf (wnt r334.1 true) (faO 1 r1.1 r335.2) (some (undef, r335.2))) fun r336 =>
              bnd (bIf (wnt r334.1 true) (ldC r336.1 r336.2) (some (undef, r336.2))) fun r337 =>
              bnd (bIf (wnt r334.1 true) (oBuiltin Tryz.prog .len #[22] 3 #[false] [r337.1] r337.2) (some (undef, r337.2))) fun r338 =>
              bnd (bIf (wnt r334.1 true) (call (fnV 15) [r335.1] r338.2) (some (undef, r338.2))) fun r339 =>
              bIf (agV (wnt r334.1 true) (oBuiltin Tryz.prog .len #[22] 3 #[false] [r337.1] r339.2) r338.1 && (agV (wnt r334.1 true) (ldC r336.1 r339.2) r337.1 && (agV true (ldA 2 r1.1 r339.2) r325.1 && true))) (bnd (bIf (wnt r334.1 true) (oBin Tryz.prog .eql 3 false false r339.1 r338.1 r339.2) (some (undef, r339.2))) fun r340 =>
              bnd (oPick r334.1 r340.1 (.bool false) r340.2) fun r341 =>
              bnd (stV 2 r3.1 r325.1 r341.2) fun r342 =>
              bIf (agV (wnt r334.1 true) (oBin Tryz.prog .eql 3 false false r339.1 r338.1 r342.2) r340.1 && (agV (wnt r334.1 true) (oBuiltin Tryz.prog .len #[22] 3 #[false] [r337.1] r342.2) r338.1 && (agV (wnt r334.1 true) (ldC r336.1 r342.2) r337.1 && true))) (bnd (oMv r341.1 r342.2) fun r343 =>
              oRes Tryz.prog [(r3.1, some 30), (r343.1, none)] r343.2) none) none) (
              bnd (oMv x0 r308.2) fun r344 =>
              bnd (faO 2 r2.1 r344.2) fun r345 =>
              bnd (ldC r345.1 r345.2) fun r346 =>
              bnd (call (fnV 14) [r344.1, r346.1] r346.2) fun r347 =>
              bnd (oMv r347.1 r347.2) fun r348 =>
              bnd (oExtract r348.1 0 r348.2) fun r349 =>
              bnd (oExtract r348.1 1 r349.2) fun r350 =>
              bnd (oMv r349.1 r350.2) fun r351 =>
              bnd (oMv r350.1 r351.2) fun r352 =>
              bnd (ldA 2 r1.1 r352.2) fun r353 =>
              bnd (faO 2 r2.1 r353.2) fun r354 =>
              bnd (ldC r354.1 r354.2) fun r355 =>
              bnd (call (fnV 32) [r353.1, r355.1] r355.2) fun r356 =>
              bnd (oMv r356.1 r356.2) fun r357 =>
              bnd (oExtract r357.1 0 r357.2) fun r358 =>
              bnd (oExtract r357.1 1 r358.2) fun r359 =>
              bnd (oExtract r357.1 2 r359.2) fun r360 =>
              bnd (oAlloc Tryz.prog 30 r360.2) fun r361 =>
              bnd (stV 2 r361.1 r358.1 r361.2) fun r362 =>
              bnd (oMv r359.1 r362.2) fun r363 =>
              bnd (oMv r360.1 r363.2) fun r364 =>
              bnd (ldA 2 r361.1 r364.2) fun r365 =>
              bnd (oMv r351.1 r365.2) fun r366 =>
              bnd (oMv r363.1 r366.2) fun r367 =>
              bnd (call (fnV 7) [r366.1, r367.1] r367.2) fun r368 =>
              bIf (agV true (ldA 2 r361.1 r368.2) r365.1 && true) (bnd (oMv r368.1 r368.2) fun r369 =>
              bnd (bIf (wnt r369.1 true) (oMv r352.1 r369.2) (some (undef, r369.2))) fun r370 =>
              bnd (bIf (wnt r369.1 true) (oMv r364.1 r370.2) (some (undef, r370.2))) fun r371 =>
              bnd (bIf (wnt r369.1 true) (oBin Tryz.prog .eql 26 false false r370.1 r371.1 r371.2) (some (undef, r371.2))) fun r372 =>
              bnd (oPick r369.1 r372.1 (.bool false) r372.2) fun r373 =>
              bnd (stV 2 r3.1 r365.1 r373.2) fun r374 =>
              bIf (agV (wnt r369.1 true) (oBin Tryz.prog .eql 26 false false r370.1 r371.1 r374.2) r372.1 && true) (bnd (oMv r373.1 r374.2) fun r375 =>
              oRes Tryz.prog [(r3.1, some 30), (r375.1, none)] r375.2) none) none))))))
theorem law17_one_eq (call : Eng.Callee) (x0 x1 x2 : Value) (W : AW) : kFun Tryz.prog call 178 (cod 9) (rss 9) [x0, x1, x2] W = law17_one call x0 x1 x2 W := by kernel_rfl
theorem law17_one_om {x0 x1 x2 : Value} {W : AW} {r : Value × AW} (h : law17_one omS x0 x1 x2 W = some r) : omS (.func (.func 9) #[] #[]) [x0, x1, x2] W = some (gc W r) := om_of (nt := 178) (n := 3) (by kernel_rfl) (by kernel_rfl) rfl ((law17_one_eq omS x0 x1 x2 W).trans h)
noncomputable def holds_New (call : Eng.Callee) (x0 : Value) (W : AW) : Option (Value × AW) :=
  bnd (oMv (.pointer none) W) fun r1 =>
  bnd (oMv (.int .i64 0) r1.2) fun r2 =>
  bnd (oMv x0 r2.2) fun r3 =>
  bnd (oBin Tryz.prog .lss 3 false true r3.1 (.int .i64 1) r3.2) fun r4 =>
  bnd (oMv r4.1 r4.2) fun r5 =>
  bnd (bIf (wnt r5.1 false) (oMv x0 r5.2) (some (undef, r5.2))) fun r6 =>
  bnd (bIf (wnt r5.1 false) (oBin Tryz.prog .gtr 3 false true r6.1 (.int .i64 4096) r6.2) (some (undef, r6.2))) fun r7 =>
  bnd (oPick r5.1 (.bool true) r7.1 r7.2) fun r8 =>
  vIf r8.1 (
    bnd (oMv (.pointer none) r8.2) fun r9 =>
    bnd (oMv (.int .i64 7) r9.2) fun r10 =>
    oRes Tryz.prog [(r9.1, none), (r10.1, none)] r10.2) (
    bnd (oMv (fnV 33) r8.2) fun r11 =>
    bnd (oMv x0 r11.2) fun r12 =>
    bnd (oMv r11.1 r12.2) fun r13 =>
    bnd (call (fnV 36) [r13.1] r13.2) fun r14 =>
    bnd (oMkMap Tryz.prog 57 none r14.2) fun r15 =>
    bnd (oBuild Tryz.prog 59 [(0, r12.1), (1, r14.1), (2, r15.1)] r15.2) fun r16 =>
    bnd (oBox r16.1 r16.2) fun r17 =>
    bnd (oMv r17.1 r17.2) fun r18 =>
    bnd (oMv (.int .i64 0) r18.2) fun r19 =>
    oRes Tryz.prog [(r18.1, none), (r19.1, none)] r19.2)
theorem holds_New_eq (call : Eng.Callee) (x0 : Value) (W : AW) : kFun Tryz.prog call 17 (cod 10) (rss 10) [x0] W = holds_New call x0 W := by kernel_rfl
theorem holds_New_om {x0 : Value} {W : AW} {r : Value × AW} (h : holds_New omS x0 W = some r) : omS (.func (.func 10) #[] #[]) [x0] W = some (gc W r) := om_of (nt := 17) (n := 1) (by kernel_rfl) (by kernel_rfl) rfl ((holds_New_eq omS x0 W).trans h)
noncomputable def holds_Holds_Put (call : Eng.Callee) (x0 x1 x2 : Value) (W : AW) : Option (Value × AW) :=
  bnd (oMv (.int .i64 0) W) fun r1 =>
  bnd (oMv x0 r1.2) fun r2 =>
  bnd (oMv x1 r2.2) fun r3 =>
  bnd (oMv x2 r3.2) fun r4 =>
  bnd (call (fnV 37) [r2.1, r3.1, r4.1] r4.2) fun r5 =>
  bnd (oMv r5.1 r5.2) fun r6 =>
  bnd (oExtract r6.1 0 r6.2) fun r7 =>
  bnd (oExtract r6.1 1 r7.2) fun r8 =>
  bnd (oMv r7.1 r8.2) fun r9 =>
  bnd (oMv r8.1 r9.2) fun r10 =>
  bnd (oMv r10.1 r10.2) fun r11 =>
  bnd (oBin Tryz.prog .eql 26 false true r11.1 (.int .i64 0) r11.2) fun r12 =>
  bnd (oMv r12.1 r12.2) fun r13 =>
  vIf r13.1 (
    bnd (oMv (.int .i64 8) r13.2) fun r14 =>
    oRes Tryz.prog [(r14.1, none)] r14.2) (
    bnd (oBin Tryz.prog .eql 26 false true r11.1 (.int .i64 4) r13.2) fun r15 =>
    bnd (oMv r15.1 r15.2) fun r16 =>
    vIf r16.1 (
      bnd (oMv x0 r16.2) fun r17 =>
      bnd (oNilCheck r17.1 r17.2) fun r18 =>
      bnd (faO 1 r18.1 r18.2) fun r19 =>
      bnd (ldC r19.1 r19.2) fun r20 =>
      bnd (oMv x1 r20.2) fun r21 =>
      bnd (oMv x2 r21.2) fun r22 =>
      bnd (oBuild Tryz.prog 43 [(0, r21.1), (1, r22.1)] r22.2) fun r23 =>
      bnd (call (fnV 38) [r20.1, r23.1] r23.2) fun r24 =>
      bnd (oMv r24.1 r24.2) fun r25 =>
      bnd (oExtract r25.1 0 r25.2) fun r26 =>
      bnd (oExtract r25.1 1 r26.2) fun r27 =>
      bnd (oMv r26.1 r27.2) fun r28 =>
      bnd (oMv r27.1 r28.2) fun r29 =>
      bnd (oMv r29.1 r29.2) fun r30 =>
      bnd (oBin Tryz.prog .eql 26 false true r30.1 (.int .i64 0) r30.2) fun r31 =>
      vIf r31.1 (
        bnd (oMv x0 r31.2) fun r32 =>
        bnd (oNilCheck r32.1 r32.2) fun r33 =>
        bnd (faO 2 r33.1 r33.2) fun r34 =>
        bnd (ldC r34.1 r34.2) fun r35 =>
        bnd (oMv x1 r35.2) fun r36 =>
        bnd (oMv r28.1 r36.2) fun r37 =>
        bnd (oMapUpdate Tryz.prog 57 r35.1 r36.1 r37.1 r37.2) fun r38 =>
        bnd (oMv r29.1 r38.2) fun r39 =>
        bnd (oMv r39.1 r39.2) fun r40 =>
        oRes Tryz.prog [(r40.1, none)] r40.2) (
        bnd (oMv r29.1 r31.2) fun r41 =>
        bnd (oMv r41.1 r41.2) fun r42 =>
        oRes Tryz.prog [(r42.1, none)] r42.2)) (
      bnd (oMv r10.1 r16.2) fun r43 =>
      bnd (oMv r43.1 r43.2) fun r44 =>
      oRes Tryz.prog [(r44.1, none)] r44.2))
theorem holds_Holds_Put_eq (call : Eng.Callee) (x0 x1 x2 : Value) (W : AW) : kFun Tryz.prog call 44 (cod 11) (rss 11) [x0, x1, x2] W = holds_Holds_Put call x0 x1 x2 W := by kernel_rfl
theorem holds_Holds_Put_om {x0 x1 x2 : Value} {W : AW} {r : Value × AW} (h : holds_Holds_Put omS x0 x1 x2 W = some r) : omS (.func (.func 11) #[] #[]) [x0, x1, x2] W = some (gc W r) := om_of (nt := 44) (n := 3) (by kernel_rfl) (by kernel_rfl) rfl ((holds_Holds_Put_eq omS x0 x1 x2 W).trans h)
noncomputable def holds_Holds_Next (call : Eng.Callee) (x0 : Value) (W : AW) : Option (Value × AW) :=
  bnd (oAlloc Tryz.prog 43 W) fun r1 =>
  bnd (oMv (.int .i64 0) r1.2) fun r2 =>
  bnd (oMv x0 r2.2) fun r3 =>
  bnd (oBin Tryz.prog .eql 25 false true r3.1 (.pointer none) r3.2) fun r4 =>
  bnd (oMv r4.1 r4.2) fun r5 =>
  bnd (bIf (wnt r5.1 false) (oMv x0 r5.2) (some (undef, r5.2))) fun r6 =>
  bnd (bIf (wnt r5.1 false) (oNilCheck r6.1 r6.2) (some (undef, r6.2))) fun r7 =>
  bnd (bIf (wnt r5.1 false) (faO 0 r7.1 r7.2) (some (undef, r7.2))) fun r8 =>
  bnd (bIf (wnt r5.1 false) (ldC r8.1 r8.2) (some (undef, r8.2))) fun r9 =>
  bnd (bIf (wnt r5.1 false) (oBin Tryz.prog .eql 3 false true r9.1 (.int .i64 0) r9.2) (some (undef, r9.2))) fun r10 =>
  bnd (oPick r5.1 (.bool true) r10.1 r10.2) fun r11 =>
  vIf r11.1 (
    bnd (oBuild Tryz.prog 43 [] r11.2) fun r12 =>
    bnd (stV 2 r1.1 r12.1 r12.2) fun r13 =>
    bnd (oMv (.int .i64 1) r13.2) fun r14 =>
    oRes Tryz.prog [(r1.1, some 43), (r14.1, none)] r14.2) (
    bnd (oMv x0 r11.2) fun r15 =>
    bnd (oNilCheck r15.1 r15.2) fun r16 =>
    bnd (faO 1 r16.1 r16.2) fun r17 =>
    bnd (ldC r17.1 r17.2) fun r18 =>
    bnd (call (fnV 39) [r18.1] r18.2) fun r19 =>
    bnd (oMv r19.1 r19.2) fun r20 =>
    bnd (oExtract r20.1 0 r20.2) fun r21 =>
    bnd (oExtract r20.1 1 r21.2) fun r22 =>
    bnd (oExtract r20.1 2 r22.2) fun r23 =>
    bnd (oAlloc Tryz.prog 43 r23.2) fun r24 =>
    bnd (oMv r21.1 r24.2) fun r25 =>
    bnd (stV 2 r24.1 r22.1 r25.2) fun r26 =>
    bnd (oMv r23.1 r26.2) fun r27 =>
    bnd (ldA 2 r24.1 r27.2) fun r28 =>
    bnd (oMv r27.1 r28.2) fun r29 =>
    bnd (stV 2 r1.1 r28.1 r29.2) fun r30 =>
    bnd (oMv r29.1 r30.2) fun r31 =>
    oRes Tryz.prog [(r1.1, some 43), (r31.1, none)] r31.2)
theorem holds_Holds_Next_eq (call : Eng.Callee) (x0 : Value) (W : AW) : kFun Tryz.prog call 28 (cod 12) (rss 12) [x0] W = holds_Holds_Next call x0 W := by kernel_rfl
theorem holds_Holds_Next_om {x0 : Value} {W : AW} {r : Value × AW} (h : holds_Holds_Next omS x0 W = some r) : omS (.func (.func 12) #[] #[]) [x0] W = some (gc W r) := om_of (nt := 28) (n := 1) (by kernel_rfl) (by kernel_rfl) rfl ((holds_Holds_Next_eq omS x0 W).trans h)
noncomputable def holds_Holds_Move (call : Eng.Callee) (x0 x1 x2 : Value) (W : AW) : Option (Value × AW) :=
  bnd (oMv (.int .i64 0) W) fun r1 =>
  bnd (oMv x0 r1.2) fun r2 =>
  bnd (oMv x1 r2.2) fun r3 =>
  bnd (oMv x2 r3.2) fun r4 =>
  bnd (call (fnV 37) [r2.1, r3.1, r4.1] r4.2) fun r5 =>
  bnd (oMv r5.1 r5.2) fun r6 =>
  bnd (oExtract r6.1 0 r6.2) fun r7 =>
  bnd (oExtract r6.1 1 r7.2) fun r8 =>
  bnd (oMv r7.1 r8.2) fun r9 =>
  bnd (oMv r8.1 r9.2) fun r10 =>
  bnd (oMv r10.1 r10.2) fun r11 =>
  bnd (oBin Tryz.prog .neq 26 false true r11.1 (.int .i64 0) r11.2) fun r12 =>
  vIf r12.1 (
    bnd (oMv r10.1 r12.2) fun r13 =>
    bnd (oMv r13.1 r13.2) fun r14 =>
    oRes Tryz.prog [(r14.1, none)] r14.2) (
    bnd (oMv x0 r12.2) fun r15 =>
    bnd (oNilCheck r15.1 r15.2) fun r16 =>
    bnd (faO 1 r16.1 r16.2) fun r17 =>
    bnd (ldC r17.1 r17.2) fun r18 =>
    bnd (oMv r9.1 r18.2) fun r19 =>
    bnd (oMv x1 r19.2) fun r20 =>
    bnd (oMv x2 r20.2) fun r21 =>
    bnd (oBuild Tryz.prog 43 [(0, r20.1), (1, r21.1)] r21.2) fun r22 =>
    bnd (call (fnV 40) [r18.1, r19.1, r22.1] r22.2) fun r23 =>
    bnd (oMv r23.1 r23.2) fun r24 =>
    oRes Tryz.prog [(r24.1, none)] r24.2)
theorem holds_Holds_Move_eq (call : Eng.Callee) (x0 x1 x2 : Value) (W : AW) : kFun Tryz.prog call 28 (cod 13) (rss 13) [x0, x1, x2] W = holds_Holds_Move call x0 x1 x2 W := by kernel_rfl
theorem holds_Holds_Move_om {x0 x1 x2 : Value} {W : AW} {r : Value × AW} (h : holds_Holds_Move omS x0 x1 x2 W = some r) : omS (.func (.func 13) #[] #[]) [x0, x1, x2] W = some (gc W r) := om_of (nt := 28) (n := 3) (by kernel_rfl) (by kernel_rfl) rfl ((holds_Holds_Move_eq omS x0 x1 x2 W).trans h)
noncomputable def holds_Holds_Due_L1 (call : Eng.Callee) (R : Nat → Value) (W : AW) : Option LT :=
  bnd (oMv (R 0) W) fun r21 =>
  bnd (oNilCheck r21.1 r21.2) fun r22 =>
  bnd (faO 1 r22.1 r22.2) fun r23 =>
  bnd (ldC r23.1 r23.2) fun r24 =>
  bnd (call (fnV 39) [r24.1] r24.2) fun r25 =>
  bnd (oMv r25.1 r25.2) fun r26 =>
  bnd (oExtract r26.1 0 r26.2) fun r27 =>
  bnd (oExtract r26.1 1 r27.2) fun r28 =>
  bnd (oExtract r26.1 2 r28.2) fun r29 =>
  bnd (oAlloc Tryz.prog 43 r29.2) fun r30 =>
  bnd (oMv r27.1 r30.2) fun r31 =>
  bnd (stV 2 r30.1 r28.1 r31.2) fun r32 =>
  bnd (oMv r29.1 r32.2) fun r33 =>
  bnd (oMv r33.1 r33.2) fun r34 =>
  bnd (oBin Tryz.prog .neq 26 false true r34.1 (.int .i64 0) r34.2) fun r35 =>
  vIf r35.1 (
    bnd (oMv (R 6) r35.2) fun r36 =>
    bnd (oMv r36.1 r36.2) fun r37 =>
    bnd (oMv (.int .i64 0) r37.2) fun r38 =>
    some (X.ret, (rput (rput (rput (rput (rput (rput (rput (rput (rput (rput (rput (rput (rput (rput (rput (rput (rput R (some 26) r21.1) (some 27) r22.1) (some 28) r23.1) (some 29) r24.1) (some 30) r25.1) (some 25) r26.1) (some 31) r27.1) (some 32) r28.1) (some 33) r29.1) (some 8) r30.1) (some 7) r31.1) (some 9) r33.1) (some 34) r34.1) (some 35) r35.1) (some 36) r36.1) (some 4) r37.1) (some 5) r38.1), r38.2)) (
    bnd (faO 1 r30.1 r35.2) fun r39 =>
    bnd (ldC r39.1 r39.2) fun r40 =>
    bnd (oMv (R 1) r40.2) fun r41 =>
    bnd (call (fnV 41) [r40.1, r41.1] r41.2) fun r42 =>
    bnd (oMv r42.1 r42.2) fun r43 =>
    bnd (oExtract r43.1 0 r43.2) fun r44 =>
    bnd (oExtract r43.1 1 r44.2) fun r45 =>
    bnd (oMv r44.1 r45.2) fun r46 =>
    bnd (oMv r45.1 r46.2) fun r47 =>
    bnd (oMv r46.1 r47.2) fun r48 =>
    bnd (oUn Tryz.prog .not r48.1 r48.2) fun r49 =>
    vIf r49.1 (
      bnd (oMv (R 6) r49.2) fun r50 =>
      bnd (oMv r50.1 r50.2) fun r51 =>
      bnd (oMv (.int .i64 0) r51.2) fun r52 =>
      some (X.ret, (rput (rput (rput (rput (rput (rput (rput (rput (rput (rput (rput (rput (rput (rput (rput (rput (rput (rput (rput (rput (rput (rput (rput (rput (rput (rput (rput (rput R (some 26) r21.1) (some 27) r22.1) (some 28) r23.1) (some 29) r24.1) (some 30) r25.1) (some 25) r26.1) (some 31) r27.1) (some 32) r28.1) (some 33) r29.1) (some 8) r30.1) (some 7) r31.1) (some 9) r33.1) (some 34) r34.1) (some 35) r35.1) (some 38) r39.1) (some 39) r40.1) (some 40) r41.1) (some 41) r42.1) (some 37) r43.1) (some 42) r44.1) (some 43) r45.1) (some 10) r46.1) (some 11) r47.1) (some 44) r48.1) (some 45) r49.1) (some 46) r50.1) (some 4) r51.1) (some 5) r52.1), r52.2)) (
      bnd (oMv (R 0) r49.2) fun r53 =>
      bnd (oNilCheck r53.1 r53.2) fun r54 =>
      bnd (faO 1 r54.1 r54.2) fun r55 =>
      bnd (ldC r55.1 r55.2) fun r56 =>
      bnd (call (fnV 42) [r56.1] r56.2) fun r57 =>
      bnd (oMv r57.1 r57.2) fun r58 =>
      bnd (oExtract r58.1 0 r58.2) fun r59 =>
      bnd (oExtract r58.1 1 r59.2) fun r60 =>
      bnd (oExtract r58.1 2 r60.2) fun r61 =>
      bnd (oMv (R 0) r61.2) fun r62 =>
      bnd (oNilCheck r62.1 r62.2) fun r63 =>
      bnd (faO 2 r63.1 r63.2) fun r64 =>
      bnd (ldC r64.1 r64.2) fun r65 =>
      bnd (faO 0 r30.1 r65.2) fun r66 =>
      bnd (ldC r66.1 r66.2) fun r67 =>
      bnd (oBuiltin Tryz.prog .delete #[57, 3] 0 #[false, false] [r65.1, r67.1] r67.2) fun r68 =>
      bnd (oMv (R 6) r68.2) fun r69 =>
      bnd (ldA 2 r30.1 r69.2) fun r70 =>
      bnd (oBuildSlice Tryz.prog 22 1 [(0, r70.1)] r70.2) fun r71 =>
      bnd (aAppend Tryz.prog r71.2 #[22, 22] r69.1 r71.1) fun r72 =>
      bnd (oMv r72.1 r72.2) fun r73 =>
      some (X.normal, (rput (rput (rput (rput (rput (rput (rput (rput (rput (rput (rput (rput (rput (rput (rput (rput (rput (rput (rput (rput (rput (rput (rput (rput (rput (rput (rput (rput (rput (rput (rput (rput (rput (rput (rput (rput (rput (rput (rput (rput (rput (rput (rput (rput (rput R (some 26) r21.1) (some 27) r22.1) (some 28) r23.1) (some 29) r24.1) (some 30) r25.1) (some 25) r26.1) (some 31) r27.1) (some 32) r28.1) (some 33) r29.1) (some 8) r30.1) (some 7) r31.1) (some 9) r33.1) (some 34) r34.1) (some 35) r35.1) (some 38) r39.1) (some 39) r40.1) (some 40) r41.1) (some 41) r42.1) (some 37) r43.1) (some 42) r44.1) (some 43) r45.1) (some 10) r46.1) (some 11) r47.1) (some 44) r48.1) (some 45) r49.1) (some 48) r53.1) (some 49) r54.1) (some 50) r55.1) (some 51) r56.1) (some 52) r57.1) (some 47) r58.1) (some 53) r59.1) (some 54) r60.1) (some 55) r61.1) (some 56) r62.1) (some 57) r63.1) (some 58) r64.1) (some 59) r65.1) (some 60) r66.1) (some 61) r67.1) (some 62) r69.1) (some 63) r70.1) (some 64) r71.1) (some 65) r72.1) (some 6) r73.1), r73.2)))
noncomputable def holds_Holds_Due (call : Eng.Callee) (x0 x1 : Value) (W : AW) : Option (Value × AW) :=
  bnd (oMv (.slice none 0 0) W) fun r1 =>
  bnd (oMv (.int .i64 0) r1.2) fun r2 =>
  bnd (oMv x0 r2.2) fun r3 =>
  bnd (oBin Tryz.prog .eql 25 false true r3.1 (.pointer none) r3.2) fun r4 =>
  bnd (oMv r4.1 r4.2) fun r5 =>
  bnd (bIf (wnt r5.1 false) (oMv x0 r5.2) (some (undef, r5.2))) fun r6 =>
  bnd (bIf (wnt r5.1 false) (oNilCheck r6.1 r6.2) (some (undef, r6.2))) fun r7 =>
  bnd (bIf (wnt r5.1 false) (faO 0 r7.1 r7.2) (some (undef, r7.2))) fun r8 =>
  bnd (bIf (wnt r5.1 false) (ldC r8.1 r8.2) (some (undef, r8.2))) fun r9 =>
  bnd (bIf (wnt r5.1 false) (oBin Tryz.prog .eql 3 false true r9.1 (.int .i64 0) r9.2) (some (undef, r9.2))) fun r10 =>
  bnd (oPick r5.1 (.bool true) r10.1 r10.2) fun r11 =>
  bnd (oMv r11.1 r11.2) fun r12 =>
  vIf r12.1 (
    bnd (oMv (.slice none 0 0) r12.2) fun r13 =>
    bnd (oMv (.int .i64 1) r13.2) fun r14 =>
    oRes Tryz.prog [(r13.1, none), (r14.1, none)] r14.2) (
    bnd (oMv x1 r12.2) fun r15 =>
    bnd (oBin Tryz.prog .lss 2 false true r15.1 (.int .i64 0) r15.2) fun r16 =>
    bnd (oMv r16.1 r16.2) fun r17 =>
    vIf r17.1 (
      bnd (oMv (.slice none 0 0) r17.2) fun r18 =>
      bnd (oMv (.int .i64 7) r18.2) fun r19 =>
      oRes Tryz.prog [(r18.1, none), (r19.1, none)] r19.2) (
      bnd (oMv (.slice none 0 0) r17.2) fun r20 =>
      bnd (loopO (holds_Holds_Due_L1 call) (rput (rput (rput (rput (rput (rput (rput (rput (rput (rput (rput (rput (rput (rput (rput (rput (argGo 0 [x0, x1] PlanTab.blank) (some 4) r1.1) (some 5) r2.1) (some 13) r3.1) (some 14) r4.1) (some 15) r5.1) (some 16) r6.1) (some 17) r7.1) (some 18) r8.1) (some 19) r9.1) (some 20) r10.1) (some 21) r11.1) (some 12) r12.1) (some 23) r15.1) (some 24) r16.1) (some 22) r17.1) (some 6) r20.1) r20.2) fun r74 =>
      kRetX r74.1 (
        oRes Tryz.prog [((r74.2.1 4), none), ((r74.2.1 5), none)] r74.2.2)))
theorem holds_Holds_Due_eq (call : Eng.Callee) (x0 x1 : Value) (W : AW) : kFun Tryz.prog call 66 (cod 14) (rss 14) [x0, x1] W = holds_Holds_Due call x0 x1 W := by kernel_rfl
theorem holds_Holds_Due_om {x0 x1 : Value} {W : AW} {r : Value × AW} (h : holds_Holds_Due omS x0 x1 W = some r) : omS (.func (.func 14) #[] #[]) [x0, x1] W = some (gc W r) := om_of (nt := 66) (n := 2) (by kernel_rfl) (by kernel_rfl) rfl ((holds_Holds_Due_eq omS x0 x1 W).trans h)
noncomputable def holds_Holds_Len (call : Eng.Callee) (x0 : Value) (W : AW) : Option (Value × AW) :=
  bnd (oMv (.int .i64 0) W) fun r1 =>
  bnd (oMv x0 r1.2) fun r2 =>
  bnd (oBin Tryz.prog .eql 25 false true r2.1 (.pointer none) r2.2) fun r3 =>
  bnd (oMv r3.1 r3.2) fun r4 =>
  bnd (bIf (wnt r4.1 false) (oMv x0 r4.2) (some (undef, r4.2))) fun r5 =>
  bnd (bIf (wnt r4.1 false) (oNilCheck r5.1 r5.2) (some (undef, r5.2))) fun r6 =>
  bnd (bIf (wnt r4.1 false) (faO 0 r6.1 r6.2) (some (undef, r6.2))) fun r7 =>
  bnd (bIf (wnt r4.1 false) (ldC r7.1 r7.2) (some (undef, r7.2))) fun r8 =>
  bnd (bIf (wnt r4.1 false) (oBin Tryz.prog .eql 3 false true r8.1 (.int .i64 0) r8.2) (some (undef, r8.2))) fun r9 =>
  bnd (oPick r4.1 (.bool true) r9.1 r9.2) fun r10 =>
  vIf r10.1 (
    bnd (oMv (.int .i64 0) r10.2) fun r11 =>
    oRes Tryz.prog [(r11.1, none)] r11.2) (
    bnd (oMv x0 r10.2) fun r12 =>
    bnd (oNilCheck r12.1 r12.2) fun r13 =>
    bnd (faO 1 r13.1 r13.2) fun r14 =>
    bnd (ldC r14.1 r14.2) fun r15 =>
    bnd (call (fnV 43) [r15.1] r15.2) fun r16 =>
    bnd (oMv r16.1 r16.2) fun r17 =>
    oRes Tryz.prog [(r17.1, none)] r17.2)
theorem holds_Holds_Len_eq (call : Eng.Callee) (x0 : Value) (W : AW) : kFun Tryz.prog call 17 (cod 15) (rss 15) [x0] W = holds_Holds_Len call x0 W := by kernel_rfl
theorem holds_Holds_Len_om {x0 : Value} {W : AW} {r : Value × AW} (h : holds_Holds_Len omS x0 W = some r) : omS (.func (.func 15) #[] #[]) [x0] W = some (gc W r) := om_of (nt := 17) (n := 1) (by kernel_rfl) (by kernel_rfl) rfl ((holds_Holds_Len_eq omS x0 W).trans h)
noncomputable def holds_Holds_bad (call : Eng.Callee) (x0 x1 x2 : Value) (W : AW) : Option (Value × AW) :=
  bnd (oMv (.bool false) W) fun r1 =>
  bnd (oMv x1 r1.2) fun r2 =>
  bnd (oBin Tryz.prog .lss 3 false true r2.1 (.int .i64 0) r2.2) fun r3 =>
  bnd (oMv r3.1 r3.2) fun r4 =>
  bnd (bIf (wnt r4.1 false) (oMv x1 r4.2) (some (undef, r4.2))) fun r5 =>
  bnd (bIf (wnt r4.1 false) (oMv x0 r5.2) (some (undef, r5.2))) fun r6 =>
  bnd (bIf (wnt r4.1 false) (oNilCheck r6.1 r6.2) (some (undef, r6.2))) fun r7 =>
  bnd (bIf (wnt r4.1 false) (faO 0 r7.1 r7.2) (some (undef, r7.2))) fun r8 =>
  bnd (bIf (wnt r4.1 false) (ldC r8.1 r8.2) (some (undef, r8.2))) fun r9 =>
  bnd (bIf (wnt r4.1 false) (oBin Tryz.prog .geq 3 false false r5.1 r9.1 r9.2) (some (undef, r9.2))) fun r10 =>
  bnd (oPick r4.1 (.bool true) r10.1 r10.2) fun r11 =>
  bnd (oMv r11.1 r11.2) fun r12 =>
  bnd (bIf (wnt r12.1 false) (oMv x2 r12.2) (some (undef, r12.2))) fun r13 =>
  bnd (bIf (wnt r12.1 false) (oBin Tryz.prog .lss 2 false true r13.1 (.int .i64 0) r13.2) (some (undef, r13.2))) fun r14 =>
  bnd (oPick r12.1 (.bool true) r14.1 r14.2) fun r15 =>
  bnd (oMv r15.1 r15.2) fun r16 =>
  oRes Tryz.prog [(r16.1, none)] r16.2
theorem holds_Holds_bad_eq (call : Eng.Callee) (x0 x1 x2 : Value) (W : AW) : kFun Tryz.prog call 21 (cod 16) (rss 16) [x0, x1, x2] W = holds_Holds_bad call x0 x1 x2 W := by kernel_rfl
theorem holds_Holds_bad_om {x0 x1 x2 : Value} {W : AW} {r : Value × AW} (h : holds_Holds_bad omS x0 x1 x2 W = some r) : omS (.func (.func 16) #[] #[]) [x0, x1, x2] W = some (gc W r) := om_of (nt := 21) (n := 3) (by kernel_rfl) (by kernel_rfl) rfl ((holds_Holds_bad_eq omS x0 x1 x2 W).trans h)
noncomputable def slices_IsSortedFuncapi_HoEntryapi_HoEntry_L1 (call : Eng.Callee) (R : Nat → Value) (W : AW) : Option LT :=
  bnd (oMv (R 5) W) fun r6 =>
  bnd (oBin Tryz.prog .gtr 3 false true r6.1 (.int .i64 0) r6.2) fun r7 =>
  vIf r7.1 (
    bnd (oMv (R 1) r7.2) fun r8 =>
    bnd (oMv (R 0) r8.2) fun r9 =>
    bnd (oMv (R 5) r9.2) fun r10 =>
    bnd (ixS 2 r9.1 r10.1 r10.2) fun r11 =>
    bnd (ldA 2 r11.1 r11.2) fun r12 =>
    bnd (oMv (R 0) r12.2) fun r13 =>
    bnd (oMv (R 5) r13.2) fun r14 =>
    bnd (oBin Tryz.prog .sub 3 false true r14.1 (.int .i64 1) r14.2) fun r15 =>
    bnd (ixS 2 r13.1 r15.1 r15.2) fun r16 =>
    bnd (ldA 2 r16.1 r16.2) fun r17 =>
    bnd (call r8.1 [r12.1, r17.1] r17.2) fun r18 =>
    bnd (oBin Tryz.prog .lss 3 false true r18.1 (.int .i64 0) r18.2) fun r19 =>
    vIf r19.1 (
      bnd (oMv (.bool false) r19.2) fun r20 =>
      some (X.ret, (rput (rput (rput (rput (rput (rput (rput (rput (rput (rput (rput (rput (rput (rput (rput R (some 9) r6.1) (some 10) r7.1) (some 13) r8.1) (some 14) r9.1) (some 15) r10.1) (some 16) r11.1) (some 17) r12.1) (some 18) r13.1) (some 19) r14.1) (some 20) r15.1) (some 21) r16.1) (some 22) r17.1) (some 23) r18.1) (some 24) r19.1) (some 4) r20.1), r20.2)) (
      bnd (oMv (R 5) r19.2) fun r21 =>
      bnd (oBin Tryz.prog .sub 3 false true r21.1 (.int .i64 1) r21.2) fun r22 =>
      bnd (oMv r22.1 r22.2) fun r23 =>
      some (X.normal, (rput (rput (rput (rput (rput (rput (rput (rput (rput (rput (rput (rput (rput (rput (rput (rput (rput R (some 9) r6.1) (some 10) r7.1) (some 13) r8.1) (some 14) r9.1) (some 15) r10.1) (some 16) r11.1) (some 17) r12.1) (some 18) r13.1) (some 19) r14.1) (some 20) r15.1) (some 21) r16.1) (some 22) r17.1) (some 23) r18.1) (some 24) r19.1) (some 11) r21.1) (some 12) r22.1) (some 5) r23.1), r23.2))) (
    some (X.exit 0, (rput (rput R (some 9) r6.1) (some 10) r7.1), r7.2))
noncomputable def slices_IsSortedFuncapi_HoEntryapi_HoEntry (call : Eng.Callee) (x0 x1 : Value) (W : AW) : Option (Value × AW) :=
  bnd (oMv (.bool false) W) fun r1 =>
  bnd (oMv x0 r1.2) fun r2 =>
  bnd (oBuiltin Tryz.prog .len #[22] 3 #[false] [r2.1] r2.2) fun r3 =>
  bnd (oBin Tryz.prog .sub 3 false true r3.1 (.int .i64 1) r3.2) fun r4 =>
  bnd (oMv r4.1 r4.2) fun r5 =>
  bnd (loopO (slices_IsSortedFuncapi_HoEntryapi_HoEntry_L1 call) (rput (rput (rput (rput (rput (argGo 0 [x0, x1] PlanTab.blank) (some 4) r1.1) (some 6) r2.1) (some 7) r3.1) (some 8) r4.1) (some 5) r5.1) r5.2) fun r24 =>
  kExit 0 r24.1 (
    bnd (oMv (.bool true) r24.2.2) fun r25 =>
    oRes Tryz.prog [(r25.1, none)] r25.2) (kRetX r24.1 (
    oRes Tryz.prog [((r24.2.1 4), none)] r24.2.2))
theorem slices_IsSortedFuncapi_HoEntryapi_HoEntry_eq (call : Eng.Callee) (x0 x1 : Value) (W : AW) : kFun Tryz.prog call 25 (cod 17) (rss 17) [x0, x1] W = slices_IsSortedFuncapi_HoEntryapi_HoEntry call x0 x1 W := by kernel_rfl
theorem slices_IsSortedFuncapi_HoEntryapi_HoEntry_om {x0 x1 : Value} {W : AW} {r : Value × AW} (h : slices_IsSortedFuncapi_HoEntryapi_HoEntry omS x0 x1 W = some r) : omS (.func (.func 17) #[] #[]) [x0, x1] W = some (gc W r) := om_of (nt := 25) (n := 2) (by kernel_rfl) (by kernel_rfl) rfl ((slices_IsSortedFuncapi_HoEntryapi_HoEntry_eq omS x0 x1 W).trans h)
noncomputable def holds_Load_1 (call : Eng.Callee) (x0 x1 : Value) (W : AW) : Option (Value × AW) :=
  bnd (oBox x0 W) fun r1 =>
  bnd (oBox x1 r1.2) fun r2 =>
  bnd (oMv (.int .i64 0) r2.2) fun r3 =>
  bnd (faO 0 r1.1 r3.2) fun r4 =>
  bnd (ldC r4.1 r4.2) fun r5 =>
  bnd (faO 0 r2.1 r5.2) fun r6 =>
  bnd (ldC r6.1 r6.2) fun r7 =>
  bnd (call (fnV 19) [r5.1, r7.1] r7.2) fun r8 =>
  bnd (oMv r8.1 r8.2) fun r9 =>
  oRes Tryz.prog [(r9.1, none)] r9.2
theorem holds_Load_1_eq (call : Eng.Callee) (x0 x1 : Value) (W : AW) : kFun Tryz.prog call 10 (cod 18) (rss 18) [x0, x1] W = holds_Load_1 call x0 x1 W := by kernel_rfl
theorem holds_Load_1_om {x0 x1 : Value} {W : AW} {r : Value × AW} (h : holds_Load_1 omS x0 x1 W = some r) : omS (.func (.func 18) #[] #[]) [x0, x1] W = some (gc W r) := om_of (nt := 10) (n := 2) (by kernel_rfl) (by kernel_rfl) rfl ((holds_Load_1_eq omS x0 x1 W).trans h)
noncomputable def cmp_Compareint (call : Eng.Callee) (x0 x1 : Value) (W : AW) : Option (Value × AW) :=
  bnd (oMv (.int .i64 0) W) fun r1 =>
  bnd (oMv x0 r1.2) fun r2 =>
  bnd (call (fnV 44) [r2.1] r2.2) fun r3 =>
  bnd (oMv r3.1 r3.2) fun r4 =>
  bnd (oMv x1 r4.2) fun r5 =>
  bnd (call (fnV 44) [r5.1] r5.2) fun r6 =>
  bnd (oMv r6.1 r6.2) fun r7 =>
  bnd (oMv r4.1 r7.2) fun r8 =>
  vIf r8.1 (
    bnd (oMv r7.1 r8.2) fun r9 =>
    vIf r9.1 (
      bnd (oMv (.int .i64 0) r9.2) fun r10 =>
      oRes Tryz.prog [(r10.1, none)] r10.2) (
      bnd (oMv (.int .i64 (-1)) r9.2) fun r11 =>
      oRes Tryz.prog [(r11.1, none)] r11.2)) (
    bnd (oMv r7.1 r8.2) fun r12 =>
    vIf r12.1 (
      bnd (oMv (.int .i64 1) r12.2) fun r13 =>
      oRes Tryz.prog [(r13.1, none)] r13.2) (
      bnd (oMv x0 r12.2) fun r14 =>
      bnd (oMv x1 r14.2) fun r15 =>
      bnd (oBin Tryz.prog .lss 3 false false r14.1 r15.1 r15.2) fun r16 =>
      vIf r16.1 (
        bnd (oMv (.int .i64 (-1)) r16.2) fun r17 =>
        oRes Tryz.prog [(r17.1, none)] r17.2) (
        bnd (oMv x0 r16.2) fun r18 =>
        bnd (oMv x1 r18.2) fun r19 =>
        bnd (oBin Tryz.prog .gtr 3 false false r18.1 r19.1 r19.2) fun r20 =>
        vIf r20.1 (
          bnd (oMv (.int .i64 1) r20.2) fun r21 =>
          oRes Tryz.prog [(r21.1, none)] r21.2) (
          bnd (oMv (.int .i64 0) r20.2) fun r22 =>
          oRes Tryz.prog [(r22.1, none)] r22.2))))
theorem cmp_Compareint_eq (call : Eng.Callee) (x0 x1 : Value) (W : AW) : kFun Tryz.prog call 20 (cod 19) (rss 19) [x0, x1] W = cmp_Compareint call x0 x1 W := by kernel_rfl
theorem cmp_Compareint_om {x0 x1 : Value} {W : AW} {r : Value × AW} (h : cmp_Compareint omS x0 x1 W = some r) : omS (.func (.func 19) #[] #[]) [x0, x1] W = some (gc W r) := om_of (nt := 20) (n := 2) (by kernel_rfl) (by kernel_rfl) rfl ((cmp_Compareint_eq omS x0 x1 W).trans h)
theorem cmp_Compareint_om1 {x0 x1 : Value} {W : AW} {r : Value × AW} (h : cmp_Compareint om1 x0 x1 W = some r) : om1 (.func (.func 19) #[] #[]) [x0, x1] W = some (gc W r) := om_of (nt := 20) (n := 2) (by kernel_rfl) (by kernel_rfl) rfl ((cmp_Compareint_eq om1 x0 x1 W).trans h)
noncomputable def ref17_New (call : Eng.Callee) (x0 : Value) (W : AW) : Option (Value × AW) :=
  bnd (oAlloc Tryz.prog 30 W) fun r1 =>
  bnd (oMv (.int .i64 0) r1.2) fun r2 =>
  bnd (oMv x0 r2.2) fun r3 =>
  bnd (oBin Tryz.prog .lss 3 false true r3.1 (.int .i64 1) r3.2) fun r4 =>
  bnd (oMv r4.1 r4.2) fun r5 =>
  bnd (bIf (wnt r5.1 false) (oMv x0 r5.2) (some (undef, r5.2))) fun r6 =>
  bnd (bIf (wnt r5.1 false) (oBin Tryz.prog .gtr 3 false true r6.1 (.int .i64 4096) r6.2) (some (undef, r6.2))) fun r7 =>
  bnd (oPick r5.1 (.bool true) r7.1 r7.2) fun r8 =>
  vIf r8.1 (
    bnd (oBuild Tryz.prog 30 [] r8.2) fun r9 =>
    bnd (stV 2 r1.1 r9.1 r9.2) fun r10 =>
    bnd (oMv (.int .i64 7) r10.2) fun r11 =>
    oRes Tryz.prog [(r1.1, some 30), (r11.1, none)] r11.2) (
    bnd (oMv x0 r8.2) fun r12 =>
    bnd (oBuild Tryz.prog 30 [(0, r12.1)] r12.2) fun r13 =>
    bnd (stV 2 r1.1 r13.1 r13.2) fun r14 =>
    bnd (oMv (.int .i64 0) r14.2) fun r15 =>
    oRes Tryz.prog [(r1.1, some 30), (r15.1, none)] r15.2)
theorem ref17_New_eq (call : Eng.Callee) (x0 : Value) (W : AW) : kFun Tryz.prog call 13 (cod 20) (rss 20) [x0] W = ref17_New call x0 W := by kernel_rfl
theorem ref17_New_om {x0 : Value} {W : AW} {r : Value × AW} (h : ref17_New omS x0 W = some r) : omS (.func (.func 20) #[] #[]) [x0] W = some (gc W r) := om_of (nt := 13) (n := 1) (by kernel_rfl) (by kernel_rfl) rfl ((ref17_New_eq omS x0 W).trans h)
noncomputable def ref17_asked (call : Eng.Callee) (x0 x1 x2 : Value) (W : AW) : Option (Value × AW) :=
  bnd (oBox x0 W) fun r1 =>
  bnd (oMv (.int .i64 0) r1.2) fun r2 =>
  bnd (oMv x1 r2.2) fun r3 =>
  bnd (oBin Tryz.prog .lss 3 false true r3.1 (.int .i64 0) r3.2) fun r4 =>
  bnd (oMv r4.1 r4.2) fun r5 =>
  bnd (bIf (wnt r5.1 false) (oMv x1 r5.2) (some (undef, r5.2))) fun r6 =>
  bnd (bIf (wnt r5.1 false) (faO 0 r1.1 r6.2) (some (undef, r6.2))) fun r7 =>
  bnd (bIf (wnt r5.1 false) (ldC r7.1 r7.2) (some (undef, r7.2))) fun r8 =>
  bnd (bIf (wnt r5.1 false) (oBin Tryz.prog .geq 3 false false r6.1 r8.1 r8.2) (some (undef, r8.2))) fun r9 =>
  bnd (oPick r5.1 (.bool true) r9.1 r9.2) fun r10 =>
  bnd (oMv r10.1 r10.2) fun r11 =>
  bnd (bIf (wnt r11.1 false) (oMv x2 r11.2) (some (undef, r11.2))) fun r12 =>
  bnd (bIf (wnt r11.1 false) (oBin Tryz.prog .lss 2 false true r12.1 (.int .i64 0) r12.2) (some (undef, r12.2))) fun r13 =>
  bnd (oPick r11.1 (.bool true) r13.1 r13.2) fun r14 =>
  vIf r14.1 (
    bnd (oMv (.int .i64 7) r14.2) fun r15 =>
    oRes Tryz.prog [(r15.1, none)] r15.2) (
    bnd (oMv (.int .i64 0) r14.2) fun r16 =>
    oRes Tryz.prog [(r16.1, none)] r16.2)
theorem ref17_asked_eq (call : Eng.Callee) (x0 x1 x2 : Value) (W : AW) : kFun Tryz.prog call 19 (cod 21) (rss 21) [x0, x1, x2] W = ref17_asked call x0 x1 x2 W := by kernel_rfl
theorem ref17_asked_om {x0 x1 x2 : Value} {W : AW} {r : Value × AW} (h : ref17_asked omS x0 x1 x2 W = some r) : omS (.func (.func 21) #[] #[]) [x0, x1, x2] W = some (gc W r) := om_of (nt := 19) (n := 3) (by kernel_rfl) (by kernel_rfl) rfl ((ref17_asked_eq omS x0 x1 x2 W).trans h)
noncomputable def heaps_Queueapi_HoEntry_All (call : Eng.Callee) (x0 : Value) (W : AW) : Option (Value × AW) :=
  bnd (oBox x0 W) fun r1 =>
  bnd (oMv .nilFunc r1.2) fun r2 =>
  bnd (oMkFunc (.func 45) #[] #[r1.1] r2.2) fun r3 =>
  bnd (oMv r3.1 r3.2) fun r4 =>
  oRes Tryz.prog [(r4.1, none)] r4.2
theorem heaps_Queueapi_HoEntry_All_eq (call : Eng.Callee) (x0 : Value) (W : AW) : kFun Tryz.prog call 4 (cod 22) (rss 22) [x0] W = heaps_Queueapi_HoEntry_All call x0 W := by kernel_rfl
theorem heaps_Queueapi_HoEntry_All_om {x0 : Value} {W : AW} {r : Value × AW} (h : heaps_Queueapi_HoEntry_All omS x0 W = some r) : omS (.func (.func 22) #[] #[]) [x0] W = some (gc W r) := om_of (nt := 4) (n := 1) (by kernel_rfl) (by kernel_rfl) rfl ((heaps_Queueapi_HoEntry_All_eq omS x0 W).trans h)
noncomputable def holds_Holds_Save_1 (call : Eng.Callee) (x0 x1 : Value) (W : AW) : Option (Value × AW) :=
  bnd (oBox x0 W) fun r1 =>
  bnd (oBox x1 r1.2) fun r2 =>
  bnd (oMv (.int .i64 0) r2.2) fun r3 =>
  bnd (faO 0 r1.1 r3.2) fun r4 =>
  bnd (ldC r4.1 r4.2) fun r5 =>
  bnd (faO 0 r2.1 r5.2) fun r6 =>
  bnd (ldC r6.1 r6.2) fun r7 =>
  bnd (call (fnV 19) [r5.1, r7.1] r7.2) fun r8 =>
  bnd (oMv r8.1 r8.2) fun r9 =>
  oRes Tryz.prog [(r9.1, none)] r9.2
theorem holds_Holds_Save_1_eq (call : Eng.Callee) (x0 x1 : Value) (W : AW) : kFun Tryz.prog call 10 (cod 24) (rss 24) [x0, x1] W = holds_Holds_Save_1 call x0 x1 W := by kernel_rfl
theorem holds_Holds_Save_1_om {x0 x1 : Value} {W : AW} {r : Value × AW} (h : holds_Holds_Save_1 omS x0 x1 W = some r) : omS (.func (.func 24) #[] #[]) [x0, x1] W = some (gc W r) := om_of (nt := 10) (n := 2) (by kernel_rfl) (by kernel_rfl) rfl ((holds_Holds_Save_1_eq omS x0 x1 W).trans h)
theorem holds_Holds_Save_1_om1 {x0 x1 : Value} {W : AW} {r : Value × AW} (h : holds_Holds_Save_1 om1 x0 x1 W = some r) : om1 (.func (.func 24) #[] #[]) [x0, x1] W = some (gc W r) := om_of (nt := 10) (n := 2) (by kernel_rfl) (by kernel_rfl) rfl ((holds_Holds_Save_1_eq om1 x0 x1 W).trans h)
noncomputable def ref17_Put_L1 (call : Eng.Callee) (R : Nat → Value) (W : AW) : Option LT :=
  bnd (oMv (R 9) W) fun r25 =>
  bnd (faO 1 (R 3) r25.2) fun r26 =>
  bnd (ldC r26.1 r26.2) fun r27 =>
  bnd (oBuiltin Tryz.prog .len #[22] 3 #[false] [r27.1] r27.2) fun r28 =>
  bnd (oBin Tryz.prog .lss 3 false false r25.1 r28.1 r28.2) fun r29 =>
  bnd (oMv r29.1 r29.2) fun r30 =>
  bnd (bIf (wnt r30.1 true) (faO 1 (R 3) r30.2) (some (undef, r30.2))) fun r31 =>
  bnd (bIf (wnt r30.1 true) (ldC r31.1 r31.2) (some (undef, r31.2))) fun r32 =>
  bnd (bIf (wnt r30.1 true) (oMv (R 9) r32.2) (some (undef, r32.2))) fun r33 =>
  bnd (bIf (wnt r30.1 true) (ixS 2 r32.1 r33.1 r33.2) (some (undef, r33.2))) fun r34 =>
  bnd (bIf (wnt r30.1 true) (faO 0 r34.1 r34.2) (some (undef, r34.2))) fun r35 =>
  bnd (bIf (wnt r30.1 true) (ldC r35.1 r35.2) (some (undef, r35.2))) fun r36 =>
  bnd (bIf (wnt r30.1 true) (oMv (R 1) r36.2) (some (undef, r36.2))) fun r37 =>
  bnd (bIf (wnt r30.1 true) (oBin Tryz.prog .lss 3 false false r36.1 r37.1 r37.2) (some (undef, r37.2))) fun r38 =>
  bnd (oPick r30.1 r38.1 (.bool false) r38.2) fun r39 =>
  vIf r39.1 (
    bnd (oMv (R 9) r39.2) fun r40 =>
    bnd (oBin Tryz.prog .add 3 false true r40.1 (.int .i64 1) r40.2) fun r41 =>
    bnd (oMv r41.1 r41.2) fun r42 =>
    some (X.normal, (rput (rput (rput (rput (rput (rput (rput (rput (rput (rput (rput (rput (rput (rput (rput (rput (rput (rput R (some 27) r25.1) (some 28) r26.1) (some 29) r27.1) (some 30) r28.1) (some 31) r29.1) (some 32) r30.1) (some 33) r31.1) (some 34) r32.1) (some 35) r33.1) (some 36) r34.1) (some 37) r35.1) (some 38) r36.1) (some 39) r37.1) (some 40) r38.1) (some 41) r39.1) (some 42) r40.1) (some 43) r41.1) (some 9) r42.1), r42.2)) (
    some (X.exit 0, (rput (rput (rput (rput (rput (rput (rput (rput (rput (rput (rput (rput (rput (rput (rput R (some 27) r25.1) (some 28) r26.1) (some 29) r27.1) (some 30) r28.1) (some 31) r29.1) (some 32) r30.1) (some 33) r31.1) (some 34) r32.1) (some 35) r33.1) (some 36) r34.1) (some 37) r35.1) (some 38) r36.1) (some 39) r37.1) (some 40) r38.1) (some 41) r39.1), r39.2))
noncomputable def ref17_Put_L2 (call : Eng.Callee) (R : Nat → Value) (W : AW) : Option LT :=
  bnd (oMv (R 9) W) fun r74 =>
  bnd (faO 1 (R 3) r74.2) fun r75 =>
  bnd (ldC r75.1 r75.2) fun r76 =>
  bnd (oBuiltin Tryz.prog .len #[22] 3 #[false] [r76.1] r76.2) fun r77 =>
  bnd (oBin Tryz.prog .lss 3 false false r74.1 r77.1 r77.2) fun r78 =>
  bnd (oMv r78.1 r78.2) fun r79 =>
  bnd (bIf (wnt r79.1 true) (faO 1 (R 3) r79.2) (some (undef, r79.2))) fun r80 =>
  bnd (bIf (wnt r79.1 true) (ldC r80.1 r80.2) (some (undef, r80.2))) fun r81 =>
  bnd (bIf (wnt r79.1 true) (oMv (R 9) r81.2) (some (undef, r81.2))) fun r82 =>
  bnd (bIf (wnt r79.1 true) (ixS 2 r81.1 r82.1 r82.2) (some (undef, r82.2))) fun r83 =>
  bnd (bIf (wnt r79.1 true) (faO 0 r83.1 r83.2) (some (undef, r83.2))) fun r84 =>
  bnd (bIf (wnt r79.1 true) (ldC r84.1 r84.2) (some (undef, r84.2))) fun r85 =>
  bnd (bIf (wnt r79.1 true) (oMv (R 1) r85.2) (some (undef, r85.2))) fun r86 =>
  bnd (bIf (wnt r79.1 true) (oBin Tryz.prog .lss 3 false false r85.1 r86.1 r86.2) (some (undef, r86.2))) fun r87 =>
  bnd (oPick r79.1 r87.1 (.bool false) r87.2) fun r88 =>
  vIf r88.1 (
    bnd (oMv (R 9) r88.2) fun r89 =>
    bnd (oBin Tryz.prog .add 3 false true r89.1 (.int .i64 1) r89.2) fun r90 =>
    bnd (oMv r90.1 r90.2) fun r91 =>
    some (X.normal, (rput (rput (rput (rput (rput (rput (rput (rput (rput (rput (rput (rput (rput (rput (rput (rput (rput (rput R (some 27) r74.1) (some 28) r75.1) (some 29) r76.1) (some 30) r77.1) (some 31) r78.1) (some 32) r79.1) (some 33) r80.1) (some 34) r81.1) (some 35) r82.1) (some 36) r83.1) (some 37) r84.1) (some 38) r85.1) (some 39) r86.1) (some 40) r87.1) (some 41) r88.1) (some 42) r89.1) (some 43) r90.1) (some 9) r91.1), r91.2)) (
    some (X.exit 0, (rput (rput (rput (rput (rput (rput (rput (rput (rput (rput (rput (rput (rput (rput (rput R (some 27) r74.1) (some 28) r75.1) (some 29) r76.1) (some 30) r77.1) (some 31) r78.1) (some 32) r79.1) (some 33) r80.1) (some 34) r81.1) (some 35) r82.1) (some 36) r83.1) (some 37) r84.1) (some 38) r85.1) (some 39) r86.1) (some 40) r87.1) (some 41) r88.1), r88.2))
noncomputable def ref17_Put (call : Eng.Callee) (x0 x1 x2 : Value) (W : AW) : Option (Value × AW) :=
  bnd (oBox x0 W) fun r1 =>
  bnd (oAlloc Tryz.prog 30 r1.2) fun r2 =>
  bnd (oMv (.int .i64 0) r2.2) fun r3 =>
  bnd (ldA 2 r1.1 r3.2) fun r4 =>
  bnd (oMv x1 r4.2) fun r5 =>
  bnd (oMv x2 r5.2) fun r6 =>
  bnd (call (fnV 21) [r4.1, r5.1, r6.1] r6.2) fun r7 =>
  bnd (oMv r7.1 r7.2) fun r8 =>
  bnd (oMv r8.1 r8.2) fun r9 =>
  bnd (oBin Tryz.prog .eql 26 false true r9.1 (.int .i64 0) r9.2) fun r10 =>
  bnd (oMv r10.1 r10.2) fun r11 =>
  bnd (bIf (wnt r11.1 true) (ldA 2 r1.1 r11.2) (some (undef, r11.2))) fun r12 =>
  bnd (bIf (wnt r11.1 true) (oMv x1 r12.2) (some (undef, r12.2))) fun r13 =>
  bnd (bIf (wnt r11.1 true) (call (fnV 50) [r12.1, r13.1] r13.2) (some (undef, r13.2))) fun r14 =>
  bnd (bIf (wnt r11.1 true) (oBin Tryz.prog .geq 3 false true r14.1 (.int .i64 0) r14.2) (some (undef, r14.2))) fun r15 =>
  bnd (oPick r11.1 r15.1 (.bool false) r15.2) fun r16 =>
  vIf r16.1 (
    bnd (oMv (.int .i64 8) r16.2) fun r17 =>
    bnd (oMv r17.1 r17.2) fun r18 =>
    bnd (oBin Tryz.prog .neq 26 false true r18.1 (.int .i64 0) r18.2) fun r19 =>
    vIf r19.1 (
      bnd (ldA 2 r1.1 r19.2) fun r20 =>
      bnd (oMv r17.1 r20.2) fun r21 =>
      bnd (stV 2 r2.1 r20.1 r21.2) fun r22 =>
      bnd (oMv r21.1 r22.2) fun r23 =>
      oRes Tryz.prog [(r2.1, some 30), (r23.1, none)] r23.2) (
      bnd (oMv (.int .i64 0) r19.2) fun r24 =>
      bnd (loopO (ref17_Put_L1 call) (rput (rput (rput (rput (rput (rput (rput (rput (rput (rput (rput (rput (rput (rput (rput (rput (rput (rput (rput (rput (argGo 0 [x0, x1, x2] PlanTab.blank) (some 3) r1.1) (some 6) r2.1) (some 7) r3.1) (some 11) r4.1) (some 12) r5.1) (some 13) r6.1) (some 14) r7.1) (some 8) r8.1) (some 15) r9.1) (some 16) r10.1) (some 17) r11.1) (some 18) r12.1) (some 19) r13.1) (some 20) r14.1) (some 21) r15.1) (some 22) r16.1) (some 8) r17.1) (some 23) r18.1) (some 24) r19.1) (some 9) r24.1) r24.2) fun r43 =>
      kExit 0 r43.1 (
        bnd (oMv (r43.2.1 1) r43.2.2) fun r44 =>
        bnd (oMv (r43.2.1 2) r44.2) fun r45 =>
        bnd (oBuild Tryz.prog 43 [(0, r44.1), (1, r45.1)] r45.2) fun r46 =>
        bnd (oBuildSlice Tryz.prog 22 1 [(0, r46.1)] r46.2) fun r47 =>
        bnd (faO 1 (r43.2.1 3) r47.2) fun r48 =>
        bnd (ldC r48.1 r48.2) fun r49 =>
        bnd (oMv (r43.2.1 9) r49.2) fun r50 =>
        bnd (oSlice Tryz.prog 22 r49.1 (some r50.1) none none r50.2) fun r51 =>
        bnd (aAppend Tryz.prog r51.2 #[22, 22] r47.1 r51.1) fun r52 =>
        bnd (oMv r52.1 r52.2) fun r53 =>
        bnd (oBuildSlice Tryz.prog 22 0 [] r53.2) fun r54 =>
        bnd (faO 1 (r43.2.1 3) r54.2) fun r55 =>
        bnd (ldC r55.1 r55.2) fun r56 =>
        bnd (oMv (r43.2.1 9) r56.2) fun r57 =>
        bnd (oSlice Tryz.prog 22 r56.1 none (some r57.1) none r57.2) fun r58 =>
        bnd (aAppend Tryz.prog r58.2 #[22, 22] r54.1 r58.1) fun r59 =>
        bnd (oMv r53.1 r59.2) fun r60 =>
        bnd (aAppend Tryz.prog r60.2 #[22, 22] r59.1 r60.1) fun r61 =>
        bnd (faO 1 (r43.2.1 3) r61.2) fun r62 =>
        bnd (stV 1 r62.1 r61.1 r62.2) fun r63 =>
        bnd (ldA 2 (r43.2.1 3) r63.2) fun r64 =>
        bnd (stV 2 (r43.2.1 6) r64.1 r64.2) fun r65 =>
        bnd (oMv (.int .i64 0) r65.2) fun r66 =>
        oRes Tryz.prog [((r43.2.1 6), some 30), (r66.1, none)] r66.2) (none))) (
    bnd (oMv r8.1 r16.2) fun r67 =>
    bnd (oBin Tryz.prog .neq 26 false true r67.1 (.int .i64 0) r67.2) fun r68 =>
    vIf r68.1 (
      bnd (ldA 2 r1.1 r68.2) fun r69 =>
      bnd (oMv r8.1 r69.2) fun r70 =>
      bnd (stV 2 r2.1 r69.1 r70.2) fun r71 =>
      bnd (oMv r70.1 r71.2) fun r72 =>
      oRes Tryz.prog [(r2.1, some 30), (r72.1, none)] r72.2) (
      bnd (oMv (.int .i64 0) r68.2) fun r73 =>
      bnd (loopO (ref17_Put_L2 call) (rput (rput (rput (rput (rput (rput (rput (rput (rput (rput (rput (rput (rput (rput (rput (rput (rput (rput (rput (argGo 0 [x0, x1, x2] PlanTab.blank) (some 3) r1.1) (some 6) r2.1) (some 7) r3.1) (some 11) r4.1) (some 12) r5.1) (some 13) r6.1) (some 14) r7.1) (some 8) r8.1) (some 15) r9.1) (some 16) r10.1) (some 17) r11.1) (some 18) r12.1) (some 19) r13.1) (some 20) r14.1) (some 21) r15.1) (some 22) r16.1) (some 23) r67.1) (some 24) r68.1) (some 9) r73.1) r73.2) fun r92 =>
      kExit 0 r92.1 (
        bnd (oMv (r92.2.1 1) r92.2.2) fun r93 =>
        bnd (oMv (r92.2.1 2) r93.2) fun r94 =>
        bnd (oBuild Tryz.prog 43 [(0, r93.1), (1, r94.1)] r94.2) fun r95 =>
        bnd (oBuildSlice Tryz.prog 22 1 [(0, r95.1)] r95.2) fun r96 =>
        bnd (faO 1 (r92.2.1 3) r96.2) fun r97 =>
        bnd (ldC r97.1 r97.2) fun r98 =>
        bnd (oMv (r92.2.1 9) r98.2) fun r99 =>
        bnd (oSlice Tryz.prog 22 r98.1 (some r99.1) none none r99.2) fun r100 =>
        bnd (aAppend Tryz.prog r100.2 #[22, 22] r96.1 r100.1) fun r101 =>
        bnd (oMv r101.1 r101.2) fun r102 =>
        bnd (oBuildSlice Tryz.prog 22 0 [] r102.2) fun r103 =>
        bnd (faO 1 (r92.2.1 3) r103.2) fun r104 =>
        bnd (ldC r104.1 r104.2) fun r105 =>
        bnd (oMv (r92.2.1 9) r105.2) fun r106 =>
        bnd (oSlice Tryz.prog 22 r105.1 none (some r106.1) none r106.2) fun r107 =>
        bnd (aAppend Tryz.prog r107.2 #[22, 22] r103.1 r107.1) fun r108 =>
        bnd (oMv r102.1 r108.2) fun r109 =>
        bnd (aAppend Tryz.prog r109.2 #[22, 22] r108.1 r109.1) fun r110 =>
        bnd (faO 1 (r92.2.1 3) r110.2) fun r111 =>
        bnd (stV 1 r111.1 r110.1 r111.2) fun r112 =>
        bnd (ldA 2 (r92.2.1 3) r112.2) fun r113 =>
        bnd (stV 2 (r92.2.1 6) r113.1 r113.2) fun r114 =>
        bnd (oMv (.int .i64 0) r114.2) fun r115 =>
        oRes Tryz.prog [((r92.2.1 6), some 30), (r115.1, none)] r115.2) (none)))
theorem ref17_Put_eq (call : Eng.Callee) (x0 x1 x2 : Value) (W : AW) : kFun Tryz.prog call 63 (cod 25) (rss 25) [x0, x1, x2] W = ref17_Put call x0 x1 x2 W := by kernel_rfl
theorem ref17_Put_om {x0 x1 x2 : Value} {W : AW} {r : Value × AW} (h : ref17_Put omS x0 x1 x2 W = some r) : omS (.func (.func 25) #[] #[]) [x0, x1, x2] W = some (gc W r) := om_of (nt := 63) (n := 3) (by kernel_rfl) (by kernel_rfl) rfl ((ref17_Put_eq omS x0 x1 x2 W).trans h)
noncomputable def ref17_Move (call : Eng.Callee) (x0 x1 x2 : Value) (W : AW) : Option (Value × AW) :=
  bnd (oBox x0 W) fun r1 =>
  bnd (oAlloc Tryz.prog 30 r1.2) fun r2 =>
  bnd (oMv (.int .i64 0) r2.2) fun r3 =>
  bnd (ldA 2 r1.1 r3.2) fun r4 =>
  bnd (oMv x1 r4.2) fun r5 =>
  bnd (oMv x2 r5.2) fun r6 =>
  bnd (call (fnV 21) [r4.1, r5.1, r6.1] r6.2) fun r7 =>
  bnd (oMv r7.1 r7.2) fun r8 =>
  bnd (oMv r8.1 r8.2) fun r9 =>
  bnd (oBin Tryz.prog .eql 26 false true r9.1 (.int .i64 0) r9.2) fun r10 =>
  vIf r10.1 (
    bnd (ldA 2 r1.1 r10.2) fun r11 =>
    bnd (oMv x1 r11.2) fun r12 =>
    bnd (call (fnV 30) [r11.1, r12.1] r12.2) fun r13 =>
    bnd (oMv r13.1 r13.2) fun r14 =>
    bnd (oExtract r14.1 0 r14.2) fun r15 =>
    bnd (oExtract r14.1 1 r15.2) fun r16 =>
    bnd (oMv r16.1 r16.2) fun r17 =>
    bnd (oMv r17.1 r17.2) fun r18 =>
    bnd (oBin Tryz.prog .neq 26 false true r18.1 (.int .i64 0) r18.2) fun r19 =>
    vIf r19.1 (
      bnd (ldA 2 r1.1 r19.2) fun r20 =>
      bnd (oMv r17.1 r20.2) fun r21 =>
      bnd (stV 2 r2.1 r20.1 r21.2) fun r22 =>
      bnd (oMv r21.1 r22.2) fun r23 =>
      oRes Tryz.prog [(r2.1, some 30), (r23.1, none)] r23.2) (
      bnd (ldA 2 r1.1 r19.2) fun r24 =>
      bnd (ldA 2 r1.1 r24.2) fun r25 =>
      bnd (oMv x1 r25.2) fun r26 =>
      bnd (oMv x1 r26.2) fun r27 =>
      bnd (oMv x2 r27.2) fun r28 =>
      bnd (call (fnV 50) [r25.1, r26.1] r28.2) fun r29 =>
      bIf (agV true (ldA 2 r1.1 r29.2) r24.1 && true) (bnd (call (fnV 51) [r24.1, r29.1] r29.2) fun r30 =>
      bnd (call (fnV 25) [r30.1, r27.1, r28.1] r30.2) fun r31 =>
      bnd (oExtract r31.1 0 r31.2) fun r32 =>
      bnd (oExtract r31.1 1 r32.2) fun r33 =>
      bnd (stV 2 r2.1 r32.1 r33.2) fun r34 =>
      bnd (oMv r33.1 r34.2) fun r35 =>
      oRes Tryz.prog [(r2.1, some 30), (r35.1, none)] r35.2) none)) (
    bnd (oMv r8.1 r10.2) fun r36 =>
    bnd (oBin Tryz.prog .neq 26 false true r36.1 (.int .i64 0) r36.2) fun r37 =>
    vIf r37.1 (
      bnd (ldA 2 r1.1 r37.2) fun r38 =>
      bnd (oMv r8.1 r38.2) fun r39 =>
      bnd (stV 2 r2.1 r38.1 r39.2) fun r40 =>
      bnd (oMv r39.1 r40.2) fun r41 =>
      oRes Tryz.prog [(r2.1, some 30), (r41.1, none)] r41.2) (
      bnd (ldA 2 r1.1 r37.2) fun r42 =>
      bnd (ldA 2 r1.1 r42.2) fun r43 =>
      bnd (oMv x1 r43.2) fun r44 =>
      bnd (oMv x1 r44.2) fun r45 =>
      bnd (oMv x2 r45.2) fun r46 =>
      bnd (call (fnV 50) [r43.1, r44.1] r46.2) fun r47 =>
      bIf (agV true (ldA 2 r1.1 r47.2) r42.1 && true) (bnd (call (fnV 51) [r42.1, r47.1] r47.2) fun r48 =>
      bnd (call (fnV 25) [r48.1, r45.1, r46.1] r48.2) fun r49 =>
      bnd (oExtract r49.1 0 r49.2) fun r50 =>
      bnd (oExtract r49.1 1 r50.2) fun r51 =>
      bnd (stV 2 r2.1 r50.1 r51.2) fun r52 =>
      bnd (oMv r51.1 r52.2) fun r53 =>
      oRes Tryz.prog [(r2.1, some 30), (r53.1, none)] r53.2) none))
theorem ref17_Move_eq (call : Eng.Callee) (x0 x1 x2 : Value) (W : AW) : kFun Tryz.prog call 35 (cod 26) (rss 26) [x0, x1, x2] W = ref17_Move call x0 x1 x2 W := by kernel_rfl
theorem ref17_Move_om {x0 x1 x2 : Value} {W : AW} {r : Value × AW} (h : ref17_Move omS x0 x1 x2 W = some r) : omS (.func (.func 26) #[] #[]) [x0, x1, x2] W = some (gc W r) := om_of (nt := 35) (n := 3) (by kernel_rfl) (by kernel_rfl) rfl ((ref17_Move_eq omS x0 x1 x2 W).trans h)
noncomputable def holds_Holds_Drop (call : Eng.Callee) (x0 x1 : Value) (W : AW) : Option (Value × AW) :=
  bnd (oMv (.int .i64 0) W) fun r1 =>
  bnd (oMv (.int .i64 0) r1.2) fun r2 =>
  bnd (oMv x0 r2.2) fun r3 =>
  bnd (oMv x1 r3.2) fun r4 =>
  bnd (call (fnV 37) [r3.1, r4.1, (.int .i64 0)] r4.2) fun r5 =>
  bnd (oMv r5.1 r5.2) fun r6 =>
  bnd (oExtract r6.1 0 r6.2) fun r7 =>
  bnd (oExtract r6.1 1 r7.2) fun r8 =>
  bnd (oMv r7.1 r8.2) fun r9 =>
  bnd (oMv r8.1 r9.2) fun r10 =>
  bnd (oMv r10.1 r10.2) fun r11 =>
  bnd (oBin Tryz.prog .neq 26 false true r11.1 (.int .i64 0) r11.2) fun r12 =>
  vIf r12.1 (
    bnd (oMv r10.1 r12.2) fun r13 =>
    bnd (oMv (.int .i64 0) r13.2) fun r14 =>
    bnd (oMv r13.1 r14.2) fun r15 =>
    oRes Tryz.prog [(r14.1, none), (r15.1, none)] r15.2) (
    bnd (oMv x0 r12.2) fun r16 =>
    bnd (oNilCheck r16.1 r16.2) fun r17 =>
    bnd (faO 1 r17.1 r17.2) fun r18 =>
    bnd (ldC r18.1 r18.2) fun r19 =>
    bnd (oMv r9.1 r19.2) fun r20 =>
    bnd (call (fnV 52) [r19.1, r20.1] r20.2) fun r21 =>
    bnd (oMv r21.1 r21.2) fun r22 =>
    bnd (oExtract r22.1 0 r22.2) fun r23 =>
    bnd (oExtract r22.1 1 r23.2) fun r24 =>
    bnd (oAlloc Tryz.prog 43 r24.2) fun r25 =>
    bnd (stV 2 r25.1 r23.1 r25.2) fun r26 =>
    bnd (oMv r24.1 r26.2) fun r27 =>
    bnd (oMv x0 r27.2) fun r28 =>
    bnd (oNilCheck r28.1 r28.2) fun r29 =>
    bnd (faO 2 r29.1 r29.2) fun r30 =>
    bnd (ldC r30.1 r30.2) fun r31 =>
    bnd (oMv x1 r31.2) fun r32 =>
    bnd (oBuiltin Tryz.prog .delete #[57, 3] 0 #[false, false] [r31.1, r32.1] r32.2) fun r33 =>
    bnd (faO 1 r25.1 r33.2) fun r34 =>
    bnd (ldC r34.1 r34.2) fun r35 =>
    bnd (oMv r27.1 r35.2) fun r36 =>
    bnd (oMv r35.1 r36.2) fun r37 =>
    bnd (oMv r36.1 r37.2) fun r38 =>
    oRes Tryz.prog [(r37.1, none), (r38.1, none)] r38.2)
theorem holds_Holds_Drop_eq (call : Eng.Callee) (x0 x1 : Value) (W : AW) : kFun Tryz.prog call 34 (cod 27) (rss 27) [x0, x1] W = holds_Holds_Drop call x0 x1 W := by kernel_rfl
theorem holds_Holds_Drop_om {x0 x1 : Value} {W : AW} {r : Value × AW} (h : holds_Holds_Drop omS x0 x1 W = some r) : omS (.func (.func 27) #[] #[]) [x0, x1] W = some (gc W r) := om_of (nt := 34) (n := 2) (by kernel_rfl) (by kernel_rfl) rfl ((holds_Holds_Drop_eq omS x0 x1 W).trans h)
noncomputable def ref17_Drop (call : Eng.Callee) (x0 x1 : Value) (W : AW) : Option (Value × AW) :=
  bnd (oBox x0 W) fun r1 =>
  bnd (oAlloc Tryz.prog 30 r1.2) fun r2 =>
  bnd (oMv (.int .i64 0) r2.2) fun r3 =>
  bnd (oMv (.int .i64 0) r3.2) fun r4 =>
  bnd (ldA 2 r1.1 r4.2) fun r5 =>
  bnd (oMv x1 r5.2) fun r6 =>
  bnd (call (fnV 30) [r5.1, r6.1] r6.2) fun r7 =>
  bnd (oMv r7.1 r7.2) fun r8 =>
  bnd (oExtract r8.1 0 r8.2) fun r9 =>
  bnd (oExtract r8.1 1 r9.2) fun r10 =>
  bnd (oMv r9.1 r10.2) fun r11 =>
  bnd (oMv r10.1 r11.2) fun r12 =>
  bnd (oMv r12.1 r12.2) fun r13 =>
  bnd (oBin Tryz.prog .neq 26 false true r13.1 (.int .i64 0) r13.2) fun r14 =>
  vIf r14.1 (
    bnd (ldA 2 r1.1 r14.2) fun r15 =>
    bnd (oMv r12.1 r15.2) fun r16 =>
    bnd (stV 2 r2.1 r15.1 r16.2) fun r17 =>
    bnd (oMv (.int .i64 0) r17.2) fun r18 =>
    bnd (oMv r16.1 r18.2) fun r19 =>
    oRes Tryz.prog [(r2.1, some 30), (r18.1, none), (r19.1, none)] r19.2) (
    bnd (ldA 2 r1.1 r14.2) fun r20 =>
    bnd (ldA 2 r1.1 r20.2) fun r21 =>
    bnd (oMv x1 r21.2) fun r22 =>
    bnd (oMv r11.1 r22.2) fun r23 =>
    bnd (call (fnV 50) [r21.1, r22.1] r23.2) fun r24 =>
    bIf (agV true (ldA 2 r1.1 r24.2) r20.1 && true) (bnd (call (fnV 51) [r20.1, r24.1] r24.2) fun r25 =>
    bnd (stV 2 r2.1 r25.1 r25.2) fun r26 =>
    bnd (oMv r23.1 r26.2) fun r27 =>
    bnd (oMv (.int .i64 0) r27.2) fun r28 =>
    oRes Tryz.prog [(r2.1, some 30), (r27.1, none), (r28.1, none)] r28.2) none)
theorem ref17_Drop_eq (call : Eng.Callee) (x0 x1 : Value) (W : AW) : kFun Tryz.prog call 25 (cod 28) (rss 28) [x0, x1] W = ref17_Drop call x0 x1 W := by kernel_rfl
theorem ref17_Drop_om {x0 x1 : Value} {W : AW} {r : Value × AW} (h : ref17_Drop omS x0 x1 W = some r) : omS (.func (.func 28) #[] #[]) [x0, x1] W = some (gc W r) := om_of (nt := 25) (n := 2) (by kernel_rfl) (by kernel_rfl) rfl ((ref17_Drop_eq omS x0 x1 W).trans h)
noncomputable def holds_Holds_Of (call : Eng.Callee) (x0 x1 : Value) (W : AW) : Option (Value × AW) :=
  bnd (oMv (.int .i64 0) W) fun r1 =>
  bnd (oMv (.int .i64 0) r1.2) fun r2 =>
  bnd (oMv x0 r2.2) fun r3 =>
  bnd (oMv x1 r3.2) fun r4 =>
  bnd (call (fnV 37) [r3.1, r4.1, (.int .i64 0)] r4.2) fun r5 =>
  bnd (oMv r5.1 r5.2) fun r6 =>
  bnd (oExtract r6.1 0 r6.2) fun r7 =>
  bnd (oExtract r6.1 1 r7.2) fun r8 =>
  bnd (oMv r7.1 r8.2) fun r9 =>
  bnd (oMv r8.1 r9.2) fun r10 =>
  bnd (oMv r10.1 r10.2) fun r11 =>
  bnd (oBin Tryz.prog .neq 26 false true r11.1 (.int .i64 0) r11.2) fun r12 =>
  vIf r12.1 (
    bnd (oMv r10.1 r12.2) fun r13 =>
    bnd (oMv (.int .i64 0) r13.2) fun r14 =>
    bnd (oMv r13.1 r14.2) fun r15 =>
    oRes Tryz.prog [(r14.1, none), (r15.1, none)] r15.2) (
    bnd (oMv x0 r12.2) fun r16 =>
    bnd (oNilCheck r16.1 r16.2) fun r17 =>
    bnd (faO 1 r17.1 r17.2) fun r18 =>
    bnd (ldC r18.1 r18.2) fun r19 =>
    bnd (oMv r9.1 r19.2) fun r20 =>
    bnd (call (fnV 53) [r19.1, r20.1] r20.2) fun r21 =>
    bnd (oMv r21.1 r21.2) fun r22 =>
    bnd (oExtract r22.1 0 r22.2) fun r23 =>
    bnd (oExtract r22.1 1 r23.2) fun r24 =>
    bnd (oAlloc Tryz.prog 43 r24.2) fun r25 =>
    bnd (stV 2 r25.1 r23.1 r25.2) fun r26 =>
    bnd (oMv r24.1 r26.2) fun r27 =>
    bnd (faO 1 r25.1 r27.2) fun r28 =>
    bnd (ldC r28.1 r28.2) fun r29 =>
    bnd (oMv r27.1 r29.2) fun r30 =>
    bnd (oMv r29.1 r30.2) fun r31 =>
    bnd (oMv r30.1 r31.2) fun r32 =>
    oRes Tryz.prog [(r31.1, none), (r32.1, none)] r32.2)
theorem holds_Holds_Of_eq (call : Eng.Callee) (x0 x1 : Value) (W : AW) : kFun Tryz.prog call 29 (cod 29) (rss 29) [x0, x1] W = holds_Holds_Of call x0 x1 W := by kernel_rfl
theorem holds_Holds_Of_om {x0 x1 : Value} {W : AW} {r : Value × AW} (h : holds_Holds_Of omS x0 x1 W = some r) : omS (.func (.func 29) #[] #[]) [x0, x1] W = some (gc W r) := om_of (nt := 29) (n := 2) (by kernel_rfl) (by kernel_rfl) rfl ((holds_Holds_Of_eq omS x0 x1 W).trans h)
noncomputable def ref17_Of (call : Eng.Callee) (x0 x1 : Value) (W : AW) : Option (Value × AW) :=
  bnd (oBox x0 W) fun r1 =>
  bnd (oMv (.int .i64 0) r1.2) fun r2 =>
  bnd (oMv (.int .i64 0) r2.2) fun r3 =>
  bnd (ldA 2 r1.1 r3.2) fun r4 =>
  bnd (oMv x1 r4.2) fun r5 =>
  bnd (call (fnV 21) [r4.1, r5.1, (.int .i64 0)] r5.2) fun r6 =>
  bnd (oMv r6.1 r6.2) fun r7 =>
  bnd (oMv r7.1 r7.2) fun r8 =>
  bnd (oBin Tryz.prog .neq 26 false true r8.1 (.int .i64 0) r8.2) fun r9 =>
  vIf r9.1 (
    bnd (oMv r7.1 r9.2) fun r10 =>
    bnd (oMv (.int .i64 0) r10.2) fun r11 =>
    bnd (oMv r10.1 r11.2) fun r12 =>
    oRes Tryz.prog [(r11.1, none), (r12.1, none)] r12.2) (
    bnd (ldA 2 r1.1 r9.2) fun r13 =>
    bnd (oMv x1 r13.2) fun r14 =>
    bnd (call (fnV 50) [r13.1, r14.1] r14.2) fun r15 =>
    bnd (oMv r15.1 r15.2) fun r16 =>
    bnd (oMv r16.1 r16.2) fun r17 =>
    bnd (oBin Tryz.prog .lss 3 false true r17.1 (.int .i64 0) r17.2) fun r18 =>
    vIf r18.1 (
      bnd (oMv (.int .i64 0) r18.2) fun r19 =>
      bnd (oMv (.int .i64 4) r19.2) fun r20 =>
      oRes Tryz.prog [(r19.1, none), (r20.1, none)] r20.2) (
      bnd (faO 1 r1.1 r18.2) fun r21 =>
      bnd (ldC r21.1 r21.2) fun r22 =>
      bnd (oMv r16.1 r22.2) fun r23 =>
      bnd (ixS 2 r22.1 r23.1 r23.2) fun r24 =>
      bnd (faO 1 r24.1 r24.2) fun r25 =>
      bnd (ldC r25.1 r25.2) fun r26 =>
      bnd (oMv r26.1 r26.2) fun r27 =>
      bnd (oMv (.int .i64 0) r27.2) fun r28 =>
      oRes Tryz.prog [(r27.1, none), (r28.1, none)] r28.2))
theorem ref17_Of_eq (call : Eng.Callee) (x0 x1 : Value) (W : AW) : kFun Tryz.prog call 25 (cod 30) (rss 30) [x0, x1] W = ref17_Of call x0 x1 W := by kernel_rfl
theorem ref17_Of_om {x0 x1 : Value} {W : AW} {r : Value × AW} (h : ref17_Of omS x0 x1 W = some r) : omS (.func (.func 30) #[] #[]) [x0, x1] W = some (gc W r) := om_of (nt := 25) (n := 2) (by kernel_rfl) (by kernel_rfl) rfl ((ref17_Of_eq omS x0 x1 W).trans h)
noncomputable def ref17_Next (call : Eng.Callee) (x0 : Value) (W : AW) : Option (Value × AW) :=
  bnd (oBox x0 W) fun r1 =>
  bnd (oAlloc Tryz.prog 43 r1.2) fun r2 =>
  bnd (oMv (.int .i64 0) r2.2) fun r3 =>
  bnd (faO 1 r1.1 r3.2) fun r4 =>
  bnd (ldC r4.1 r4.2) fun r5 =>
  bnd (oBuiltin Tryz.prog .len #[22] 3 #[false] [r5.1] r5.2) fun r6 =>
  bnd (oBin Tryz.prog .eql 3 false true r6.1 (.int .i64 0) r6.2) fun r7 =>
  vIf r7.1 (
    bnd (oBuild Tryz.prog 43 [] r7.2) fun r8 =>
    bnd (stV 2 r2.1 r8.1 r8.2) fun r9 =>
    bnd (oMv (.int .i64 4) r9.2) fun r10 =>
    oRes Tryz.prog [(r2.1, some 43), (r10.1, none)] r10.2) (
    bnd (faO 1 r1.1 r7.2) fun r11 =>
    bnd (ldC r11.1 r11.2) fun r12 =>
    bnd (faO 1 r1.1 r12.2) fun r13 =>
    bnd (ldC r13.1 r13.2) fun r14 =>
    bnd (call (fnV 54) [r14.1] r14.2) fun r15 =>
    bIf (agV true (ldC r11.1 r15.2) r12.1 && true) (bnd (ixS 2 r12.1 r15.1 r15.2) fun r16 =>
    bnd (ldA 2 r16.1 r16.2) fun r17 =>
    bnd (stV 2 r2.1 r17.1 r17.2) fun r18 =>
    bnd (oMv (.int .i64 0) r18.2) fun r19 =>
    oRes Tryz.prog [(r2.1, some 43), (r19.1, none)] r19.2) none)
theorem ref17_Next_eq (call : Eng.Callee) (x0 : Value) (W : AW) : kFun Tryz.prog call 16 (cod 31) (rss 31) [x0] W = ref17_Next call x0 W := by kernel_rfl
theorem ref17_Next_om {x0 : Value} {W : AW} {r : Value × AW} (h : ref17_Next omS x0 W = some r) : omS (.func (.func 31) #[] #[]) [x0] W = some (gc W r) := om_of (nt := 16) (n := 1) (by kernel_rfl) (by kernel_rfl) rfl ((ref17_Next_eq omS x0 W).trans h)
noncomputable def ref17_Due_L1 (call : Eng.Callee) (R : Nat → Value) (W : AW) : Option LT :=
  bnd (faO 1 (R 2) W) fun r12 =>
  bnd (ldC r12.1 r12.2) fun r13 =>
  bnd (oBuiltin Tryz.prog .len #[22] 3 #[false] [r13.1] r13.2) fun r14 =>
  bnd (oBin Tryz.prog .gtr 3 false true r14.1 (.int .i64 0) r14.2) fun r15 =>
  vIf r15.1 (
    bnd (faO 1 (R 2) r15.2) fun r16 =>
    bnd (ldC r16.1 r16.2) fun r17 =>
    bnd (call (fnV 54) [r17.1] r17.2) fun r18 =>
    bnd (oMv r18.1 r18.2) fun r19 =>
    bnd (faO 1 (R 2) r19.2) fun r20 =>
    bnd (ldC r20.1 r20.2) fun r21 =>
    bnd (oMv r19.1 r21.2) fun r22 =>
    bnd (ixS 2 r21.1 r22.1 r22.2) fun r23 =>
    bnd (faO 1 r23.1 r23.2) fun r24 =>
    bnd (ldC r24.1 r24.2) fun r25 =>
    bnd (oMv (R 1) r25.2) fun r26 =>
    bnd (call (fnV 55) [r25.1, r26.1] r26.2) fun r27 =>
    bnd (oMv r27.1 r27.2) fun r28 =>
    bnd (oExtract r28.1 0 r28.2) fun r29 =>
    bnd (oExtract r28.1 1 r29.2) fun r30 =>
    bnd (oMv r29.1 r30.2) fun r31 =>
    bnd (oMv r30.1 r31.2) fun r32 =>
    bnd (oMv r31.1 r32.2) fun r33 =>
    bnd (oUn Tryz.prog .not r33.1 r33.2) fun r34 =>
    vIf r34.1 (
      some (X.exit 0, (rput (rput (rput (rput (rput (rput (rput (rput (rput (rput (rput (rput (rput (rput (rput (rput (rput (rput (rput (rput (rput (rput (rput R (some 14) r12.1) (some 15) r13.1) (some 16) r14.1) (some 17) r15.1) (some 18) r16.1) (some 19) r17.1) (some 20) r18.1) (some 8) r19.1) (some 22) r20.1) (some 23) r21.1) (some 24) r22.1) (some 25) r23.1) (some 26) r24.1) (some 27) r25.1) (some 28) r26.1) (some 29) r27.1) (some 21) r28.1) (some 30) r29.1) (some 31) r30.1) (some 9) r31.1) (some 10) r32.1) (some 32) r33.1) (some 33) r34.1), r34.2)) (
      bnd (oMv (R 7) r34.2) fun r35 =>
      bnd (faO 1 (R 2) r35.2) fun r36 =>
      bnd (ldC r36.1 r36.2) fun r37 =>
      bnd (oMv r19.1 r37.2) fun r38 =>
      bnd (ixS 2 r37.1 r38.1 r38.2) fun r39 =>
      bnd (ldA 2 r39.1 r39.2) fun r40 =>
      bnd (oBuildSlice Tryz.prog 22 1 [(0, r40.1)] r40.2) fun r41 =>
      bnd (aAppend Tryz.prog r41.2 #[22, 22] r35.1 r41.1) fun r42 =>
      bnd (oMv r42.1 r42.2) fun r43 =>
      bnd (ldA 2 (R 2) r43.2) fun r44 =>
      bnd (oMv r19.1 r44.2) fun r45 =>
      bnd (call (fnV 51) [r44.1, r45.1] r45.2) fun r46 =>
      bnd (stV 2 (R 2) r46.1 r46.2) fun r47 =>
      some (X.normal, (rput (rput (rput (rput (rput (rput (rput (rput (rput (rput (rput (rput (rput (rput (rput (rput (rput (rput (rput (rput (rput (rput (rput (rput (rput (rput (rput (rput (rput (rput (rput (rput (rput (rput (rput R (some 14) r12.1) (some 15) r13.1) (some 16) r14.1) (some 17) r15.1) (some 18) r16.1) (some 19) r17.1) (some 20) r18.1) (some 8) r19.1) (some 22) r20.1) (some 23) r21.1) (some 24) r22.1) (some 25) r23.1) (some 26) r24.1) (some 27) r25.1) (some 28) r26.1) (some 29) r27.1) (some 21) r28.1) (some 30) r29.1) (some 31) r30.1) (some 9) r31.1) (some 10) r32.1) (some 32) r33.1) (some 33) r34.1) (some 34) r35.1) (some 35) r36.1) (some 36) r37.1) (some 37) r38.1) (some 38) r39.1) (some 39) r40.1) (some 40) r41.1) (some 41) r42.1) (some 7) r43.1) (some 42) r44.1) (some 43) r45.1) (some 44) r46.1), r47.2))) (
    some (X.exit 0, (rput (rput (rput (rput R (some 14) r12.1) (some 15) r13.1) (some 16) r14.1) (some 17) r15.1), r15.2))
noncomputable def ref17_Due (call : Eng.Callee) (x0 x1 : Value) (W : AW) : Option (Value × AW) :=
  bnd (oBox x0 W) fun r1 =>
  bnd (oAlloc Tryz.prog 30 r1.2) fun r2 =>
  bnd (oMv (.slice none 0 0) r2.2) fun r3 =>
  bnd (oMv (.int .i64 0) r3.2) fun r4 =>
  bnd (oMv x1 r4.2) fun r5 =>
  bnd (oBin Tryz.prog .lss 2 false true r5.1 (.int .i64 0) r5.2) fun r6 =>
  vIf r6.1 (
    bnd (ldA 2 r1.1 r6.2) fun r7 =>
    bnd (stV 2 r2.1 r7.1 r7.2) fun r8 =>
    bnd (oMv (.slice none 0 0) r8.2) fun r9 =>
    bnd (oMv (.int .i64 7) r9.2) fun r10 =>
    oRes Tryz.prog [(r2.1, some 30), (r9.1, none), (r10.1, none)] r10.2) (
    bnd (oMv (.slice none 0 0) r6.2) fun r11 =>
    bnd (loopO (ref17_Due_L1 call) (rput (rput (rput (rput (rput (rput (rput (argGo 0 [x0, x1] PlanTab.blank) (some 2) r1.1) (some 4) r2.1) (some 5) r3.1) (some 6) r4.1) (some 11) r5.1) (some 12) r6.1) (some 7) r11.1) r11.2) fun r48 =>
    kExit 0 r48.1 (
      bnd (ldA 2 (r48.2.1 2) r48.2.2) fun r49 =>
      bnd (oMv (r48.2.1 7) r49.2) fun r50 =>
      bnd (stV 2 (r48.2.1 4) r49.1 r50.2) fun r51 =>
      bnd (oMv r50.1 r51.2) fun r52 =>
      bnd (oMv (.int .i64 0) r52.2) fun r53 =>
      oRes Tryz.prog [((r48.2.1 4), some 30), (r52.1, none), (r53.1, none)] r53.2) (none))
theorem ref17_Due_eq (call : Eng.Callee) (x0 x1 : Value) (W : AW) : kFun Tryz.prog call 47 (cod 32) (rss 32) [x0, x1] W = ref17_Due call x0 x1 W := by kernel_rfl
theorem ref17_Due_om {x0 x1 : Value} {W : AW} {r : Value × AW} (h : ref17_Due omS x0 x1 W = some r) : omS (.func (.func 32) #[] #[]) [x0, x1] W = some (gc W r) := om_of (nt := 47) (n := 2) (by kernel_rfl) (by kernel_rfl) rfl ((ref17_Due_eq omS x0 x1 W).trans h)
noncomputable def holds_New_1 (call : Eng.Callee) (x0 x1 : Value) (W : AW) : Option (Value × AW) :=
  bnd (oBox x0 W) fun r1 =>
  bnd (oBox x1 r1.2) fun r2 =>
  bnd (oMv (.bool false) r2.2) fun r3 =>
  bnd (faO 1 r1.1 r3.2) fun r4 =>
  bnd (ldC r4.1 r4.2) fun r5 =>
  bnd (faO 1 r2.1 r5.2) fun r6 =>
  bnd (ldC r6.1 r6.2) fun r7 =>
  bnd (faO 0 r1.1 r7.2) fun r8 =>
  bnd (ldC r8.1 r8.2) fun r9 =>
  bnd (faO 0 r2.1 r9.2) fun r10 =>
  bnd (ldC r10.1 r10.2) fun r11 =>
  bnd (call (fnV 35) [r5.1, r7.1] r11.2) fun r12 =>
  bIf (agV true (ldC r10.1 r12.2) r11.1 && (agV true (ldC r8.1 r12.2) r9.1 && true)) (bnd (call (fnV 19) [r9.1, r11.1] r12.2) fun r13 =>
  bnd (oBuildSlice Tryz.prog 97 2 [(0, r12.1), (1, r13.1)] r13.2) fun r14 =>
  bnd (call (fnV 34) [r14.1] r14.2) fun r15 =>
  bnd (oBin Tryz.prog .lss 3 false true r15.1 (.int .i64 0) r15.2) fun r16 =>
  bnd (oMv r16.1 r16.2) fun r17 =>
  oRes Tryz.prog [(r17.1, none)] r17.2) none
theorem holds_New_1_eq (call : Eng.Callee) (x0 x1 : Value) (W : AW) : kFun Tryz.prog call 18 (cod 33) (rss 33) [x0, x1] W = holds_New_1 call x0 x1 W := by kernel_rfl
theorem holds_New_1_om {x0 x1 : Value} {W : AW} {r : Value × AW} (h : holds_New_1 omS x0 x1 W = some r) : omS (.func (.func 33) #[] #[]) [x0, x1] W = some (gc W r) := om_of (nt := 18) (n := 2) (by kernel_rfl) (by kernel_rfl) rfl ((holds_New_1_eq omS x0 x1 W).trans h)
theorem holds_New_1_om1 {x0 x1 : Value} {W : AW} {r : Value × AW} (h : holds_New_1 om1 x0 x1 W = some r) : om1 (.func (.func 33) #[] #[]) [x0, x1] W = some (gc W r) := om_of (nt := 18) (n := 2) (by kernel_rfl) (by kernel_rfl) rfl ((holds_New_1_eq om1 x0 x1 W).trans h)
noncomputable def cmp_Orint_L1 (call : Eng.Callee) (R : Nat → Value) (W : AW) : Option LT :=
  bnd (oBin Tryz.prog .lss 3 false false (R 8) (R 7) W) fun r6 =>
  vIf r6.1 (
    bnd (ixS 1 (R 6) (R 8) r6.2) fun r7 =>
    bnd (ldC r7.1 r7.2) fun r8 =>
    bnd (oMv r8.1 r8.2) fun r9 =>
    bnd (oMv r9.1 r9.2) fun r10 =>
    bnd (oMv (R 3) r10.2) fun r11 =>
    bnd (oBin Tryz.prog .neq 3 false false r10.1 r11.1 r11.2) fun r12 =>
    vIf r12.1 (
      bnd (oMv r9.1 r12.2) fun r13 =>
      bnd (oMv r13.1 r13.2) fun r14 =>
      some (X.ret, (rput (rput (rput (rput (rput (rput (rput (rput (rput R (some 9) r6.1) (some 10) r7.1) (some 11) r8.1) (some 5) r9.1) (some 12) r10.1) (some 13) r11.1) (some 14) r12.1) (some 15) r13.1) (some 2) r14.1), r14.2)) (
      bnd (oBin Tryz.prog .add 3 false true (R 8) (.int .i64 1) r12.2) fun r15 =>
      bnd (oMv r15.1 r15.2) fun r16 =>
      some (X.normal, (rput (rput (rput (rput (rput (rput (rput (rput (rput R (some 9) r6.1) (some 10) r7.1) (some 11) r8.1) (some 5) r9.1) (some 12) r10.1) (some 13) r11.1) (some 14) r12.1) (some 16) r15.1) (some 8) r16.1), r16.2))) (
    some (X.exit 0, (rput R (some 9) r6.1), r6.2))
noncomputable def cmp_Orint (call : Eng.Callee) (x0 : Value) (W : AW) : Option (Value × AW) :=
  bnd (oMv (.int .i64 0) W) fun r1 =>
  bnd (oMv (.int .i64 0) r1.2) fun r2 =>
  bnd (oMv x0 r2.2) fun r3 =>
  bnd (oBuiltin Tryz.prog .len #[97] 3 #[false] [r3.1] r3.2) fun r4 =>
  bnd (oMv (.int .i64 0) r4.2) fun r5 =>
  bnd (loopO (cmp_Orint_L1 call) (rput (rput (rput (rput (rput (argGo 0 [x0] PlanTab.blank) (some 2) r1.1) (some 3) r2.1) (some 6) r3.1) (some 7) r4.1) (some 8) r5.1) r5.2) fun r17 =>
  kExit 0 r17.1 (
    bnd (oMv (r17.2.1 3) r17.2.2) fun r18 =>
    bnd (oMv r18.1 r18.2) fun r19 =>
    oRes Tryz.prog [(r19.1, none)] r19.2) (kRetX r17.1 (
    oRes Tryz.prog [((r17.2.1 2), none)] r17.2.2))
theorem cmp_Orint_eq (call : Eng.Callee) (x0 : Value) (W : AW) : kFun Tryz.prog call 18 (cod 34) (rss 34) [x0] W = cmp_Orint call x0 W := by kernel_rfl
theorem cmp_Orint_om {x0 : Value} {W : AW} {r : Value × AW} (h : cmp_Orint omS x0 W = some r) : omS (.func (.func 34) #[] #[]) [x0] W = some (gc W r) := om_of (nt := 18) (n := 1) (by kernel_rfl) (by kernel_rfl) rfl ((cmp_Orint_eq omS x0 W).trans h)
theorem cmp_Orint_om1 {x0 : Value} {W : AW} {r : Value × AW} (h : cmp_Orint om1 x0 W = some r) : om1 (.func (.func 34) #[] #[]) [x0] W = some (gc W r) := om_of (nt := 18) (n := 1) (by kernel_rfl) (by kernel_rfl) rfl ((cmp_Orint_eq om1 x0 W).trans h)
noncomputable def cmp_Compareint64 (call : Eng.Callee) (x0 x1 : Value) (W : AW) : Option (Value × AW) :=
  bnd (oMv (.int .i64 0) W) fun r1 =>
  bnd (oMv x0 r1.2) fun r2 =>
  bnd (call (fnV 56) [r2.1] r2.2) fun r3 =>
  bnd (oMv r3.1 r3.2) fun r4 =>
  bnd (oMv x1 r4.2) fun r5 =>
  bnd (call (fnV 56) [r5.1] r5.2) fun r6 =>
  bnd (oMv r6.1 r6.2) fun r7 =>
  bnd (oMv r4.1 r7.2) fun r8 =>
  vIf r8.1 (
    bnd (oMv r7.1 r8.2) fun r9 =>
    vIf r9.1 (
      bnd (oMv (.int .i64 0) r9.2) fun r10 =>
      oRes Tryz.prog [(r10.1, none)] r10.2) (
      bnd (oMv (.int .i64 (-1)) r9.2) fun r11 =>
      oRes Tryz.prog [(r11.1, none)] r11.2)) (
    bnd (oMv r7.1 r8.2) fun r12 =>
    vIf r12.1 (
      bnd (oMv (.int .i64 1) r12.2) fun r13 =>
      oRes Tryz.prog [(r13.1, none)] r13.2) (
      bnd (oMv x0 r12.2) fun r14 =>
      bnd (oMv x1 r14.2) fun r15 =>
      bnd (oBin Tryz.prog .lss 2 false false r14.1 r15.1 r15.2) fun r16 =>
      vIf r16.1 (
        bnd (oMv (.int .i64 (-1)) r16.2) fun r17 =>
        oRes Tryz.prog [(r17.1, none)] r17.2) (
        bnd (oMv x0 r16.2) fun r18 =>
        bnd (oMv x1 r18.2) fun r19 =>
        bnd (oBin Tryz.prog .gtr 2 false false r18.1 r19.1 r19.2) fun r20 =>
        vIf r20.1 (
          bnd (oMv (.int .i64 1) r20.2) fun r21 =>
          oRes Tryz.prog [(r21.1, none)] r21.2) (
          bnd (oMv (.int .i64 0) r20.2) fun r22 =>
          oRes Tryz.prog [(r22.1, none)] r22.2))))
theorem cmp_Compareint64_eq (call : Eng.Callee) (x0 x1 : Value) (W : AW) : kFun Tryz.prog call 20 (cod 35) (rss 35) [x0, x1] W = cmp_Compareint64 call x0 x1 W := by kernel_rfl
theorem cmp_Compareint64_om {x0 x1 : Value} {W : AW} {r : Value × AW} (h : cmp_Compareint64 omS x0 x1 W = some r) : omS (.func (.func 35) #[] #[]) [x0, x1] W = some (gc W r) := om_of (nt := 20) (n := 2) (by kernel_rfl) (by kernel_rfl) rfl ((cmp_Compareint64_eq omS x0 x1 W).trans h)
theorem cmp_Compareint64_om1 {x0 x1 : Value} {W : AW} {r : Value × AW} (h : cmp_Compareint64 om1 x0 x1 W = some r) : om1 (.func (.func 35) #[] #[]) [x0, x1] W = some (gc W r) := om_of (nt := 20) (n := 2) (by kernel_rfl) (by kernel_rfl) rfl ((cmp_Compareint64_eq om1 x0 x1 W).trans h)
noncomputable def heaps_Newapi_HoEntry (call : Eng.Callee) (x0 : Value) (W : AW) : Option (Value × AW) :=
  bnd (oMv (.pointer none) W) fun r1 =>
  bnd (oMv x0 r1.2) fun r2 =>
  bnd (oBin Tryz.prog .eql 75 false true r2.1 .nilFunc r2.2) fun r3 =>
  vIf r3.1 (
    bnd (oMv (.pointer none) r3.2) fun r4 =>
    oRes Tryz.prog [(r4.1, none)] r4.2) (
    bnd (oMv x0 r3.2) fun r5 =>
    bnd (oBuild Tryz.prog 101 [(1, r5.1)] r5.2) fun r6 =>
    bnd (oMkMap Tryz.prog 102 none r6.2) fun r7 =>
    bnd (oBuild Tryz.prog 104 [(0, r6.1), (1, r7.1), (2, (.int .i64 1))] r7.2) fun r8 =>
    bnd (oBox r8.1 r8.2) fun r9 =>
    bnd (oMv r9.1 r9.2) fun r10 =>
    oRes Tryz.prog [(r10.1, none)] r10.2)
theorem heaps_Newapi_HoEntry_eq (call : Eng.Callee) (x0 : Value) (W : AW) : kFun Tryz.prog call 10 (cod 36) (rss 36) [x0] W = heaps_Newapi_HoEntry call x0 W := by kernel_rfl
theorem heaps_Newapi_HoEntry_om {x0 : Value} {W : AW} {r : Value × AW} (h : heaps_Newapi_HoEntry omS x0 W = some r) : omS (.func (.func 36) #[] #[]) [x0] W = some (gc W r) := om_of (nt := 10) (n := 1) (by kernel_rfl) (by kernel_rfl) rfl ((heaps_Newapi_HoEntry_eq omS x0 W).trans h)
noncomputable def holds_Holds_find (call : Eng.Callee) (x0 x1 x2 : Value) (W : AW) : Option (Value × AW) :=
  bnd (oMv (.int .i64 0) W) fun r1 =>
  bnd (oMv (.int .i64 0) r1.2) fun r2 =>
  bnd (oMv x0 r2.2) fun r3 =>
  bnd (oBin Tryz.prog .eql 25 false true r3.1 (.pointer none) r3.2) fun r4 =>
  bnd (oMv r4.1 r4.2) fun r5 =>
  bnd (bIf (wnt r5.1 false) (oMv x0 r5.2) (some (undef, r5.2))) fun r6 =>
  bnd (bIf (wnt r5.1 false) (oNilCheck r6.1 r6.2) (some (undef, r6.2))) fun r7 =>
  bnd (bIf (wnt r5.1 false) (faO 0 r7.1 r7.2) (some (undef, r7.2))) fun r8 =>
  bnd (bIf (wnt r5.1 false) (ldC r8.1 r8.2) (some (undef, r8.2))) fun r9 =>
  bnd (bIf (wnt r5.1 false) (oBin Tryz.prog .eql 3 false true r9.1 (.int .i64 0) r9.2) (some (undef, r9.2))) fun r10 =>
  bnd (oPick r5.1 (.bool true) r10.1 r10.2) fun r11 =>
  bnd (oMv r11.1 r11.2) fun r12 =>
  vIf r12.1 (
    bnd (oMv (.int .i64 0) r12.2) fun r13 =>
    bnd (oMv (.int .i64 1) r13.2) fun r14 =>
    oRes Tryz.prog [(r13.1, none), (r14.1, none)] r14.2) (
    bnd (oMv x0 r12.2) fun r15 =>
    bnd (oMv x1 r15.2) fun r16 =>
    bnd (oMv x2 r16.2) fun r17 =>
    bnd (call (fnV 16) [r15.1, r16.1, r17.1] r17.2) fun r18 =>
    bnd (oMv r18.1 r18.2) fun r19 =>
    vIf r19.1 (
      bnd (oMv (.int .i64 0) r19.2) fun r20 =>
      bnd (oMv (.int .i64 7) r20.2) fun r21 =>
      oRes Tryz.prog [(r20.1, none), (r21.1, none)] r21.2) (
      bnd (oMv x0 r19.2) fun r22 =>
      bnd (oNilCheck r22.1 r22.2) fun r23 =>
      bnd (faO 2 r23.1 r23.2) fun r24 =>
      bnd (ldC r24.1 r24.2) fun r25 =>
      bnd (oMv x1 r25.2) fun r26 =>
      bnd (oLookup Tryz.prog 57 r25.1 r26.1 true r26.2) fun r27 =>
      bnd (oMv r27.1 r27.2) fun r28 =>
      bnd (oExtract r28.1 0 r28.2) fun r29 =>
      bnd (oExtract r28.1 1 r29.2) fun r30 =>
      bnd (oMv r29.1 r30.2) fun r31 =>
      bnd (oMv r30.1 r31.2) fun r32 =>
      bnd (oMv r32.1 r32.2) fun r33 =>
      bnd (oUn Tryz.prog .not r33.1 r33.2) fun r34 =>
      vIf r34.1 (
        bnd (oMv (.int .i64 0) r34.2) fun r35 =>
        bnd (oMv (.int .i64 4) r35.2) fun r36 =>
        oRes Tryz.prog [(r35.1, none), (r36.1, none)] r36.2) (
        bnd (oMv r31.1 r34.2) fun r37 =>
        bnd (oMv r37.1 r37.2) fun r38 =>
        bnd (oMv (.int .i64 0) r38.2) fun r39 =>
        oRes Tryz.prog [(r38.1, none), (r39.1, none)] r39.2)))
theorem holds_Holds_find_eq (call : Eng.Callee) (x0 x1 x2 : Value) (W : AW) : kFun Tryz.prog call 37 (cod 37) (rss 37) [x0, x1, x2] W = holds_Holds_find call x0 x1 x2 W := by kernel_rfl
theorem holds_Holds_find_om {x0 x1 x2 : Value} {W : AW} {r : Value × AW} (h : holds_Holds_find omS x0 x1 x2 W = some r) : omS (.func (.func 37) #[] #[]) [x0, x1, x2] W = some (gc W r) := om_of (nt := 37) (n := 3) (by kernel_rfl) (by kernel_rfl) rfl ((holds_Holds_find_eq omS x0 x1 x2 W).trans h)
noncomputable def heaps_Queueapi_HoEntry_Push (call : Eng.Callee) (x0 x1 : Value) (W : AW) : Option (Value × AW) :=
  bnd (oBox x1 W) fun r1 =>
  bnd (oMv (.int .i64 0) r1.2) fun r2 =>
  bnd (oMv (.int .i64 0) r2.2) fun r3 =>
  bnd (oMv x0 r3.2) fun r4 =>
  bnd (call (fnV 46) [r4.1] r4.2) fun r5 =>
  bnd (oUn Tryz.prog .not r5.1 r5.2) fun r6 =>
  bnd (oMv r6.1 r6.2) fun r7 =>
  vIf r7.1 (
    bnd (oMv (.int .i64 0) r7.2) fun r8 =>
    bnd (oMv (.int .i64 1) r8.2) fun r9 =>
    oRes Tryz.prog [(r8.1, none), (r9.1, none)] r9.2) (
    bnd (oMv x0 r7.2) fun r10 =>
    bnd (oNilCheck r10.1 r10.2) fun r11 =>
    bnd (faO 0 r11.1 r11.2) fun r12 =>
    bnd (faO 0 r12.1 r12.2) fun r13 =>
    bnd (ldC r13.1 r13.2) fun r14 =>
    bnd (oBuiltin Tryz.prog .len #[99] 3 #[false] [r14.1] r14.2) fun r15 =>
    bnd (oBin Tryz.prog .geq 3 false true r15.1 (.int .i64 5000) r15.2) fun r16 =>
    bnd (oMv r16.1 r16.2) fun r17 =>
    bnd (bIf (wnt r17.1 false) (oMv x0 r17.2) (some (undef, r17.2))) fun r18 =>
    bnd (bIf (wnt r17.1 false) (oNilCheck r18.1 r18.2) (some (undef, r18.2))) fun r19 =>
    bnd (bIf (wnt r17.1 false) (faO 3 r19.1 r19.2) (some (undef, r19.2))) fun r20 =>
    bnd (bIf (wnt r17.1 false) (ldC r20.1 r20.2) (some (undef, r20.2))) fun r21 =>
    bnd (bIf (wnt r17.1 false) (oBin Tryz.prog .geq 2 false true r21.1 (.int .i64 1000000000000000) r21.2) (some (undef, r21.2))) fun r22 =>
    bnd (oPick r17.1 (.bool true) r22.1 r22.2) fun r23 =>
    bnd (oMv r23.1 r23.2) fun r24 =>
    vIf r24.1 (
      bnd (oMv (.int .i64 0) r24.2) fun r25 =>
      bnd (oMv (.int .i64 5) r25.2) fun r26 =>
      oRes Tryz.prog [(r25.1, none), (r26.1, none)] r26.2) (
      bnd (oMv x0 r24.2) fun r27 =>
      bnd (oNilCheck r27.1 r27.2) fun r28 =>
      bnd (faO 3 r28.1 r28.2) fun r29 =>
      bnd (ldC r29.1 r29.2) fun r30 =>
      bnd (ldA 2 r1.1 r30.2) fun r31 =>
      bnd (oBuild Tryz.prog 108 [(0, r30.1), (1, r31.1)] r31.2) fun r32 =>
      bnd (oBox r32.1 r32.2) fun r33 =>
      bnd (oMv r33.1 r33.2) fun r34 =>
      bnd (oMv x0 r34.2) fun r35 =>
      bnd (oNilCheck r35.1 r35.2) fun r36 =>
      bnd (faO 3 r36.1 r36.2) fun r37 =>
      bnd (ldC r37.1 r37.2) fun r38 =>
      bnd (oBin Tryz.prog .add 2 false true r38.1 (.int .i64 1) r38.2) fun r39 =>
      bnd (oNilCheck r35.1 r39.2) fun r40 =>
      bnd (faO 3 r40.1 r40.2) fun r41 =>
      bnd (stV 1 r41.1 r39.1 r41.2) fun r42 =>
      bnd (oMv x0 r42.2) fun r43 =>
      bnd (oNilCheck r43.1 r43.2) fun r44 =>
      bnd (faO 2 r44.1 r44.2) fun r45 =>
      bnd (ldC r45.1 r45.2) fun r46 =>
      bnd (oMv r34.1 r46.2) fun r47 =>
      bnd (oNilCheck r47.1 r47.2) fun r48 =>
      bnd (faO 0 r48.1 r48.2) fun r49 =>
      bnd (ldC r49.1 r49.2) fun r50 =>
      bnd (oMv r34.1 r50.2) fun r51 =>
      bnd (oMapUpdate Tryz.prog 102 r46.1 r50.1 r51.1 r51.2) fun r52 =>
      bnd (oMv x0 r52.2) fun r53 =>
      bnd (oNilCheck r53.1 r53.2) fun r54 =>
      bnd (faO 0 r54.1 r54.2) fun r55 =>
      bnd (oMkIface Tryz.prog 110 r55.1 r55.2) fun r56 =>
      bnd (oMv r34.1 r56.2) fun r57 =>
      bnd (oMkIface Tryz.prog 106 r57.1 r57.2) fun r58 =>
      bnd (call (fnV 57) [r56.1, r58.1] r58.2) fun r59 =>
      bnd (oMv r34.1 r59.2) fun r60 =>
      bnd (oNilCheck r60.1 r60.2) fun r61 =>
      bnd (faO 0 r61.1 r61.2) fun r62 =>
      bnd (ldC r62.1 r62.2) fun r63 =>
      bnd (oMv r63.1 r63.2) fun r64 =>
      bnd (oMv (.int .i64 0) r64.2) fun r65 =>
      oRes Tryz.prog [(r64.1, none), (r65.1, none)] r65.2))
theorem heaps_Queueapi_HoEntry_Push_eq (call : Eng.Callee) (x0 x1 : Value) (W : AW) : kFun Tryz.prog call 60 (cod 38) (rss 38) [x0, x1] W = heaps_Queueapi_HoEntry_Push call x0 x1 W := by kernel_rfl
theorem heaps_Queueapi_HoEntry_Push_om {x0 x1 : Value} {W : AW} {r : Value × AW} (h : heaps_Queueapi_HoEntry_Push omS x0 x1 W = some r) : omS (.func (.func 38) #[] #[]) [x0, x1] W = some (gc W r) := om_of (nt := 60) (n := 2) (by kernel_rfl) (by kernel_rfl) rfl ((heaps_Queueapi_HoEntry_Push_eq omS x0 x1 W).trans h)
noncomputable def heaps_Queueapi_HoEntry_Peek (call : Eng.Callee) (x0 : Value) (W : AW) : Option (Value × AW) :=
  bnd (oMv (.int .i64 0) W) fun r1 =>
  bnd (oAlloc Tryz.prog 43 r1.2) fun r2 =>
  bnd (oMv (.int .i64 0) r2.2) fun r3 =>
  bnd (oMv x0 r3.2) fun r4 =>
  bnd (call (fnV 46) [r4.1] r4.2) fun r5 =>
  bnd (oUn Tryz.prog .not r5.1 r5.2) fun r6 =>
  bnd (oMv r6.1 r6.2) fun r7 =>
  vIf r7.1 (
    bnd (ldA 2 r2.1 r7.2) fun r8 =>
    bnd (oMv (.int .i64 0) r8.2) fun r9 =>
    bnd (stV 2 r2.1 r8.1 r9.2) fun r10 =>
    bnd (oMv (.int .i64 1) r10.2) fun r11 =>
    oRes Tryz.prog [(r9.1, none), (r2.1, some 43), (r11.1, none)] r11.2) (
    bnd (oMv x0 r7.2) fun r12 =>
    bnd (oNilCheck r12.1 r12.2) fun r13 =>
    bnd (faO 0 r13.1 r13.2) fun r14 =>
    bnd (faO 0 r14.1 r14.2) fun r15 =>
    bnd (ldC r15.1 r15.2) fun r16 =>
    bnd (oBuiltin Tryz.prog .len #[99] 3 #[false] [r16.1] r16.2) fun r17 =>
    bnd (oBin Tryz.prog .eql 3 false true r17.1 (.int .i64 0) r17.2) fun r18 =>
    bnd (oMv r18.1 r18.2) fun r19 =>
    vIf r19.1 (
      bnd (ldA 2 r2.1 r19.2) fun r20 =>
      bnd (oMv (.int .i64 0) r20.2) fun r21 =>
      bnd (stV 2 r2.1 r20.1 r21.2) fun r22 =>
      bnd (oMv (.int .i64 4) r22.2) fun r23 =>
      oRes Tryz.prog [(r21.1, none), (r2.1, some 43), (r23.1, none)] r23.2) (
      bnd (oMv x0 r19.2) fun r24 =>
      bnd (oNilCheck r24.1 r24.2) fun r25 =>
      bnd (faO 0 r25.1 r25.2) fun r26 =>
      bnd (faO 0 r26.1 r26.2) fun r27 =>
      bnd (ldC r27.1 r27.2) fun r28 =>
      bnd (ixS 1 r28.1 (.int .i64 0) r28.2) fun r29 =>
      bnd (ldC r29.1 r29.2) fun r30 =>
      bnd (oMv r30.1 r30.2) fun r31 =>
      bnd (oMv r31.1 r31.2) fun r32 =>
      bnd (oNilCheck r32.1 r32.2) fun r33 =>
      bnd (faO 0 r33.1 r33.2) fun r34 =>
      bnd (ldC r34.1 r34.2) fun r35 =>
      bnd (oMv r31.1 r35.2) fun r36 =>
      bnd (oNilCheck r36.1 r36.2) fun r37 =>
      bnd (faO 1 r37.1 r37.2) fun r38 =>
      bnd (ldA 2 r38.1 r38.2) fun r39 =>
      bnd (oMv r35.1 r39.2) fun r40 =>
      bnd (stV 2 r2.1 r39.1 r40.2) fun r41 =>
      bnd (oMv (.int .i64 0) r41.2) fun r42 =>
      oRes Tryz.prog [(r40.1, none), (r2.1, some 43), (r42.1, none)] r42.2))
theorem heaps_Queueapi_HoEntry_Peek_eq (call : Eng.Callee) (x0 : Value) (W : AW) : kFun Tryz.prog call 35 (cod 39) (rss 39) [x0] W = heaps_Queueapi_HoEntry_Peek call x0 W := by kernel_rfl
theorem heaps_Queueapi_HoEntry_Peek_om {x0 : Value} {W : AW} {r : Value × AW} (h : heaps_Queueapi_HoEntry_Peek omS x0 W = some r) : omS (.func (.func 39) #[] #[]) [x0] W = some (gc W r) := om_of (nt := 35) (n := 1) (by kernel_rfl) (by kernel_rfl) rfl ((heaps_Queueapi_HoEntry_Peek_eq omS x0 W).trans h)
noncomputable def heaps_Queueapi_HoEntry_Set (call : Eng.Callee) (x0 x1 x2 : Value) (W : AW) : Option (Value × AW) :=
  bnd (oBox x2 W) fun r1 =>
  bnd (oMv (.int .i64 0) r1.2) fun r2 =>
  bnd (oMv x0 r2.2) fun r3 =>
  bnd (oMv x1 r3.2) fun r4 =>
  bnd (call (fnV 58) [r3.1, r4.1] r4.2) fun r5 =>
  bnd (oMv r5.1 r5.2) fun r6 =>
  bnd (oExtract r6.1 0 r6.2) fun r7 =>
  bnd (oExtract r6.1 1 r7.2) fun r8 =>
  bnd (oMv r7.1 r8.2) fun r9 =>
  bnd (oMv r8.1 r9.2) fun r10 =>
  bnd (oMv r10.1 r10.2) fun r11 =>
  bnd (oBin Tryz.prog .neq 26 false true r11.1 (.int .i64 0) r11.2) fun r12 =>
  vIf r12.1 (
    bnd (oMv r10.1 r12.2) fun r13 =>
    bnd (oMv r13.1 r13.2) fun r14 =>
    oRes Tryz.prog [(r14.1, none)] r14.2) (
    bnd (oMv r9.1 r12.2) fun r15 =>
    bnd (ldA 2 r1.1 r15.2) fun r16 =>
    bnd (oNilCheck r15.1 r16.2) fun r17 =>
    bnd (faO 1 r17.1 r17.2) fun r18 =>
    bnd (stV 2 r18.1 r16.1 r18.2) fun r19 =>
    bnd (oMv x0 r19.2) fun r20 =>
    bnd (oNilCheck r20.1 r20.2) fun r21 =>
    bnd (faO 0 r21.1 r21.2) fun r22 =>
    bnd (oMkIface Tryz.prog 110 r22.1 r22.2) fun r23 =>
    bnd (oMv r9.1 r23.2) fun r24 =>
    bnd (oNilCheck r24.1 r24.2) fun r25 =>
    bnd (faO 3 r25.1 r25.2) fun r26 =>
    bnd (ldC r26.1 r26.2) fun r27 =>
    bnd (call (fnV 59) [r23.1, r27.1] r27.2) fun r28 =>
    bnd (oMv (.int .i64 0) r28.2) fun r29 =>
    oRes Tryz.prog [(r29.1, none)] r29.2)
theorem heaps_Queueapi_HoEntry_Set_eq (call : Eng.Callee) (x0 x1 x2 : Value) (W : AW) : kFun Tryz.prog call 31 (cod 40) (rss 40) [x0, x1, x2] W = heaps_Queueapi_HoEntry_Set call x0 x1 x2 W := by kernel_rfl
theorem heaps_Queueapi_HoEntry_Set_om {x0 x1 x2 : Value} {W : AW} {r : Value × AW} (h : heaps_Queueapi_HoEntry_Set omS x0 x1 x2 W = some r) : omS (.func (.func 40) #[] #[]) [x0, x1, x2] W = some (gc W r) := om_of (nt := 31) (n := 3) (by kernel_rfl) (by kernel_rfl) rfl ((heaps_Queueapi_HoEntry_Set_eq omS x0 x1 x2 W).trans h)
noncomputable def times_Passed (call : Eng.Callee) (x0 x1 : Value) (W : AW) : Option (Value × AW) :=
  bnd (oMv (.bool false) W) fun r1 =>
  bnd (oMv (.int .i64 0) r1.2) fun r2 =>
  bnd (oMv x0 r2.2) fun r3 =>
  bnd (oMv x1 r3.2) fun r4 =>
  bnd (oBuildSlice Tryz.prog 139 2 [(0, r3.1), (1, r4.1)] r4.2) fun r5 =>
  bnd (call (fnV 60) [r5.1] r5.2) fun r6 =>
  vIf r6.1 (
    bnd (oMv (.bool false) r6.2) fun r7 =>
    bnd (oMv (.int .i64 7) r7.2) fun r8 =>
    oRes Tryz.prog [(r7.1, none), (r8.1, none)] r8.2) (
    bnd (oMv x0 r6.2) fun r9 =>
    bnd (oMv x1 r9.2) fun r10 =>
    bnd (oBin Tryz.prog .leq 2 false false r9.1 r10.1 r10.2) fun r11 =>
    bnd (oMv r11.1 r11.2) fun r12 =>
    bnd (oMv (.int .i64 0) r12.2) fun r13 =>
    oRes Tryz.prog [(r12.1, none), (r13.1, none)] r13.2)
theorem times_Passed_eq (call : Eng.Callee) (x0 x1 : Value) (W : AW) : kFun Tryz.prog call 13 (cod 41) (rss 41) [x0, x1] W = times_Passed call x0 x1 W := by kernel_rfl
theorem times_Passed_om {x0 x1 : Value} {W : AW} {r : Value × AW} (h : times_Passed omS x0 x1 W = some r) : omS (.func (.func 41) #[] #[]) [x0, x1] W = some (gc W r) := om_of (nt := 13) (n := 2) (by kernel_rfl) (by kernel_rfl) rfl ((times_Passed_eq omS x0 x1 W).trans h)
noncomputable def heaps_Queueapi_HoEntry_Pop (call : Eng.Callee) (x0 : Value) (W : AW) : Option (Value × AW) :=
  bnd (oMv (.int .i64 0) W) fun r1 =>
  bnd (oAlloc Tryz.prog 43 r1.2) fun r2 =>
  bnd (oMv (.int .i64 0) r2.2) fun r3 =>
  bnd (oMv x0 r3.2) fun r4 =>
  bnd (call (fnV 39) [r4.1] r4.2) fun r5 =>
  bnd (oMv r5.1 r5.2) fun r6 =>
  bnd (oExtract r6.1 0 r6.2) fun r7 =>
  bnd (oExtract r6.1 1 r7.2) fun r8 =>
  bnd (oExtract r6.1 2 r8.2) fun r9 =>
  bnd (oMv r7.1 r9.2) fun r10 =>
  bnd (stV 2 r2.1 r8.1 r10.2) fun r11 =>
  bnd (oMv r9.1 r11.2) fun r12 =>
  bnd (oMv r12.1 r12.2) fun r13 =>
  bnd (oBin Tryz.prog .neq 26 false true r13.1 (.int .i64 0) r13.2) fun r14 =>
  vIf r14.1 (
    bnd (ldA 2 r2.1 r14.2) fun r15 =>
    bnd (oMv r12.1 r15.2) fun r16 =>
    bnd (oMv (.int .i64 0) r16.2) fun r17 =>
    bnd (stV 2 r2.1 r15.1 r17.2) fun r18 =>
    bnd (oMv r16.1 r18.2) fun r19 =>
    oRes Tryz.prog [(r17.1, none), (r2.1, some 43), (r19.1, none)] r19.2) (
    bnd (oMv x0 r14.2) fun r20 =>
    bnd (oNilCheck r20.1 r20.2) fun r21 =>
    bnd (faO 0 r21.1 r21.2) fun r22 =>
    bnd (oMkIface Tryz.prog 110 r22.1 r22.2) fun r23 =>
    bnd (call (fnV 61) [r23.1] r23.2) fun r24 =>
    bnd (oMv x0 r24.2) fun r25 =>
    bnd (oNilCheck r25.1 r25.2) fun r26 =>
    bnd (faO 2 r26.1 r26.2) fun r27 =>
    bnd (ldC r27.1 r27.2) fun r28 =>
    bnd (oMv r10.1 r28.2) fun r29 =>
    bnd (oBuiltin Tryz.prog .delete #[102, 2] 0 #[false, false] [r28.1, r29.1] r29.2) fun r30 =>
    bnd (oMv r10.1 r30.2) fun r31 =>
    bnd (ldA 2 r2.1 r31.2) fun r32 =>
    bnd (oMv r31.1 r32.2) fun r33 =>
    bIf (agV true (ldA 2 r2.1 r33.2) r32.1 && true) (bnd (stV 2 r2.1 r32.1 r33.2) fun r34 =>
    bnd (oMv (.int .i64 0) r34.2) fun r35 =>
    oRes Tryz.prog [(r33.1, none), (r2.1, some 43), (r35.1, none)] r35.2) none)
theorem heaps_Queueapi_HoEntry_Pop_eq (call : Eng.Callee) (x0 : Value) (W : AW) : kFun Tryz.prog call 27 (cod 42) (rss 42) [x0] W = heaps_Queueapi_HoEntry_Pop call x0 W := by kernel_rfl
theorem heaps_Queueapi_HoEntry_Pop_om {x0 : Value} {W : AW} {r : Value × AW} (h : heaps_Queueapi_HoEntry_Pop omS x0 W = some r) : omS (.func (.func 42) #[] #[]) [x0] W = some (gc W r) := om_of (nt := 27) (n := 1) (by kernel_rfl) (by kernel_rfl) rfl ((heaps_Queueapi_HoEntry_Pop_eq omS x0 W).trans h)
noncomputable def heaps_Queueapi_HoEntry_Len (call : Eng.Callee) (x0 : Value) (W : AW) : Option (Value × AW) :=
  bnd (oMv (.int .i64 0) W) fun r1 =>
  bnd (oMv x0 r1.2) fun r2 =>
  bnd (call (fnV 46) [r2.1] r2.2) fun r3 =>
  bnd (oUn Tryz.prog .not r3.1 r3.2) fun r4 =>
  vIf r4.1 (
    bnd (oMv (.int .i64 0) r4.2) fun r5 =>
    oRes Tryz.prog [(r5.1, none)] r5.2) (
    bnd (oMv x0 r4.2) fun r6 =>
    bnd (oNilCheck r6.1 r6.2) fun r7 =>
    bnd (faO 0 r7.1 r7.2) fun r8 =>
    bnd (faO 0 r8.1 r8.2) fun r9 =>
    bnd (ldC r9.1 r9.2) fun r10 =>
    bnd (oBuiltin Tryz.prog .len #[99] 3 #[false] [r10.1] r10.2) fun r11 =>
    bnd (oMv r11.1 r11.2) fun r12 =>
    oRes Tryz.prog [(r12.1, none)] r12.2)
theorem heaps_Queueapi_HoEntry_Len_eq (call : Eng.Callee) (x0 : Value) (W : AW) : kFun Tryz.prog call 12 (cod 43) (rss 43) [x0] W = heaps_Queueapi_HoEntry_Len call x0 W := by kernel_rfl
theorem heaps_Queueapi_HoEntry_Len_om {x0 : Value} {W : AW} {r : Value × AW} (h : heaps_Queueapi_HoEntry_Len omS x0 W = some r) : omS (.func (.func 43) #[] #[]) [x0] W = some (gc W r) := om_of (nt := 12) (n := 1) (by kernel_rfl) (by kernel_rfl) rfl ((heaps_Queueapi_HoEntry_Len_eq omS x0 W).trans h)
noncomputable def cmp_isNaNint (call : Eng.Callee) (x0 : Value) (W : AW) : Option (Value × AW) :=
  bnd (oMv (.bool false) W) fun r1 =>
  bnd (oMv x0 r1.2) fun r2 =>
  bnd (oMv x0 r2.2) fun r3 =>
  bnd (oBin Tryz.prog .neq 3 false false r2.1 r3.1 r3.2) fun r4 =>
  bnd (oMv r4.1 r4.2) fun r5 =>
  oRes Tryz.prog [(r5.1, none)] r5.2
theorem cmp_isNaNint_eq (call : Eng.Callee) (x0 : Value) (W : AW) : kFun Tryz.prog call 6 (cod 44) (rss 44) [x0] W = cmp_isNaNint call x0 W := by kernel_rfl
theorem cmp_isNaNint_om {x0 : Value} {W : AW} {r : Value × AW} (h : cmp_isNaNint omS x0 W = some r) : omS (.func (.func 44) #[] #[]) [x0] W = some (gc W r) := om_of (nt := 6) (n := 1) (by kernel_rfl) (by kernel_rfl) rfl ((cmp_isNaNint_eq omS x0 W).trans h)
theorem cmp_isNaNint_om1 {x0 : Value} {W : AW} {r : Value × AW} (h : cmp_isNaNint om1 x0 W = some r) : om1 (.func (.func 44) #[] #[]) [x0] W = some (gc W r) := om_of (nt := 6) (n := 1) (by kernel_rfl) (by kernel_rfl) rfl ((cmp_isNaNint_eq om1 x0 W).trans h)
noncomputable def heaps_Queueapi_HoEntry_All_1_L1 (call : Eng.Callee) (R : Nat → Value) (W : AW) : Option LT :=
  bnd (oBin Tryz.prog .lss 3 false false (R 11) (R 10) W) fun r8 =>
  vIf r8.1 (
    bnd (ixS 3 (R 9) (R 11) r8.2) fun r9 =>
    bnd (ldA 3 r9.1 r9.2) fun r10 =>
    bnd (oAlloc Tryz.prog 89 r10.2) fun r11 =>
    bnd (stV 3 r11.1 r10.1 r11.2) fun r12 =>
    bnd (oMv (R 0) r12.2) fun r13 =>
    bnd (faO 0 r11.1 r13.2) fun r14 =>
    bnd (ldC r14.1 r14.2) fun r15 =>
    bnd (faO 1 r11.1 r15.2) fun r16 =>
    bnd (ldA 2 r16.1 r16.2) fun r17 =>
    bnd (call r13.1 [r15.1, r17.1] r17.2) fun r18 =>
    bnd (oUn Tryz.prog .not r18.1 r18.2) fun r19 =>
    vIf r19.1 (
      some (X.ret, (rput (rput (rput (rput (rput (rput (rput (rput (rput (rput (rput R (some 12) r8.1) (some 13) r9.1) (some 14) r10.1) (some 4) r11.1) (some 15) r13.1) (some 16) r14.1) (some 17) r15.1) (some 18) r16.1) (some 19) r17.1) (some 20) r18.1) (some 21) r19.1), r19.2)) (
      bnd (oBin Tryz.prog .add 3 false true (R 11) (.int .i64 1) r19.2) fun r20 =>
      bnd (oMv r20.1 r20.2) fun r21 =>
      some (X.normal, (rput (rput (rput (rput (rput (rput (rput (rput (rput (rput (rput (rput (rput R (some 12) r8.1) (some 13) r9.1) (some 14) r10.1) (some 4) r11.1) (some 15) r13.1) (some 16) r14.1) (some 17) r15.1) (some 18) r16.1) (some 19) r17.1) (some 20) r18.1) (some 21) r19.1) (some 22) r20.1) (some 11) r21.1), r21.2))) (
    some (X.exit 0, (rput R (some 12) r8.1), r8.2))
noncomputable def heaps_Queueapi_HoEntry_All_1 (call : Eng.Callee) (x0 x1 : Value) (W : AW) : Option (Value × AW) :=
  bnd (ldC x1 W) fun r1 =>
  bnd (call (fnV 46) [r1.1] r1.2) fun r2 =>
  bnd (oUn Tryz.prog .not r2.1 r2.2) fun r3 =>
  vIf r3.1 (
    oRes Tryz.prog [] r3.2) (
    bnd (ldC x1 r3.2) fun r4 =>
    bnd (call (fnV 47) [r4.1] r4.2) fun r5 =>
    bnd (oBuiltin Tryz.prog .len #[86] 3 #[false] [r5.1] r5.2) fun r6 =>
    bnd (oMv (.int .i64 0) r6.2) fun r7 =>
    bnd (loopO (heaps_Queueapi_HoEntry_All_1_L1 call) (rput (rput (rput (rput (rput (rput (rput (argGo 0 [x0, x1] PlanTab.blank) (some 5) r1.1) (some 6) r2.1) (some 7) r3.1) (some 8) r4.1) (some 9) r5.1) (some 10) r6.1) (some 11) r7.1) r7.2) fun r22 =>
    kExit 0 r22.1 (
      oRes Tryz.prog [] r22.2.2) (kRetX r22.1 (
      oRes Tryz.prog [] r22.2.2)))
theorem heaps_Queueapi_HoEntry_All_1_eq (call : Eng.Callee) (x0 x1 : Value) (W : AW) : kFun Tryz.prog call 23 (cod 45) (rss 45) [x0, x1] W = heaps_Queueapi_HoEntry_All_1 call x0 x1 W := by kernel_rfl
theorem heaps_Queueapi_HoEntry_All_1_om {x0 x1 : Value} {W : AW} {r : Value × AW} (h : heaps_Queueapi_HoEntry_All_1 omS x0 x1 W = some r) : omS (.func (.func 45) #[] #[x1]) [x0] W = some (gc W r) := om_of (nt := 23) (n := 2) (by kernel_rfl) (by kernel_rfl) rfl ((heaps_Queueapi_HoEntry_All_1_eq omS x0 x1 W).trans h)
noncomputable def heaps_Queueapi_HoEntry_made (call : Eng.Callee) (x0 : Value) (W : AW) : Option (Value × AW) :=
  bnd (oMv (.bool false) W) fun r1 =>
  bnd (oMv x0 r1.2) fun r2 =>
  bnd (oBin Tryz.prog .neq 56 false true r2.1 (.pointer none) r2.2) fun r3 =>
  bnd (oMv r3.1 r3.2) fun r4 =>
  bnd (bIf (wnt r4.1 true) (oMv x0 r4.2) (some (undef, r4.2))) fun r5 =>
  bnd (bIf (wnt r4.1 true) (oNilCheck r5.1 r5.2) (some (undef, r5.2))) fun r6 =>
  bnd (bIf (wnt r4.1 true) (faO 2 r6.1 r6.2) (some (undef, r6.2))) fun r7 =>
  bnd (bIf (wnt r4.1 true) (ldC r7.1 r7.2) (some (undef, r7.2))) fun r8 =>
  bnd (bIf (wnt r4.1 true) (oBin Tryz.prog .neq 102 false true r8.1 (.map none) r8.2) (some (undef, r8.2))) fun r9 =>
  bnd (oPick r4.1 r9.1 (.bool false) r9.2) fun r10 =>
  bnd (oMv r10.1 r10.2) fun r11 =>
  oRes Tryz.prog [(r11.1, none)] r11.2
theorem heaps_Queueapi_HoEntry_made_eq (call : Eng.Callee) (x0 : Value) (W : AW) : kFun Tryz.prog call 12 (cod 46) (rss 46) [x0] W = heaps_Queueapi_HoEntry_made call x0 W := by kernel_rfl
theorem heaps_Queueapi_HoEntry_made_om {x0 : Value} {W : AW} {r : Value × AW} (h : heaps_Queueapi_HoEntry_made omS x0 W = some r) : omS (.func (.func 46) #[] #[]) [x0] W = some (gc W r) := om_of (nt := 12) (n := 1) (by kernel_rfl) (by kernel_rfl) rfl ((heaps_Queueapi_HoEntry_made_eq omS x0 W).trans h)
noncomputable def heaps_Queueapi_HoEntry_sorted_L1 (call : Eng.Callee) (R : Nat → Value) (W : AW) : Option LT :=
  bnd (oBin Tryz.prog .lss 3 false false (R 18) (R 17) W) fun r17 =>
  vIf r17.1 (
    bnd (ixS 1 (R 16) (R 18) r17.2) fun r18 =>
    bnd (ldC r18.1 r18.2) fun r19 =>
    bnd (oMv r19.1 r19.2) fun r20 =>
    bnd (oMv (R 4) r20.2) fun r21 =>
    bnd (oMv r20.1 r21.2) fun r22 =>
    bnd (oNilCheck r22.1 r22.2) fun r23 =>
    bnd (faO 0 r23.1 r23.2) fun r24 =>
    bnd (ldC r24.1 r24.2) fun r25 =>
    bnd (oMv r20.1 r25.2) fun r26 =>
    bnd (oNilCheck r26.1 r26.2) fun r27 =>
    bnd (faO 1 r27.1 r27.2) fun r28 =>
    bnd (ldA 2 r28.1 r28.2) fun r29 =>
    bnd (oBuild Tryz.prog 89 [(0, r25.1), (1, r29.1)] r29.2) fun r30 =>
    bnd (oBuildSlice Tryz.prog 86 1 [(0, r30.1)] r30.2) fun r31 =>
    bnd (aAppend Tryz.prog r31.2 #[86, 86] r21.1 r31.1) fun r32 =>
    bnd (oMv r32.1 r32.2) fun r33 =>
    bnd (oBin Tryz.prog .add 3 false true (R 18) (.int .i64 1) r33.2) fun r34 =>
    bnd (oMv r34.1 r34.2) fun r35 =>
    some (X.normal, (rput (rput (rput (rput (rput (rput (rput (rput (rput (rput (rput (rput (rput (rput (rput (rput (rput (rput (rput R (some 19) r17.1) (some 20) r18.1) (some 21) r19.1) (some 6) r20.1) (some 22) r21.1) (some 23) r22.1) (some 24) r23.1) (some 25) r24.1) (some 26) r25.1) (some 27) r26.1) (some 28) r27.1) (some 29) r28.1) (some 30) r29.1) (some 31) r30.1) (some 32) r31.1) (some 33) r32.1) (some 4) r33.1) (some 34) r34.1) (some 18) r35.1), r35.2)) (
    some (X.exit 0, (rput R (some 19) r17.1), r17.2))
noncomputable def heaps_Queueapi_HoEntry_sorted (call : Eng.Callee) (x0 : Value) (W : AW) : Option (Value × AW) :=
  bnd (oBox x0 W) fun r1 =>
  bnd (oMv (.slice none 0 0) r1.2) fun r2 =>
  bnd (ldC r1.1 r2.2) fun r3 =>
  bnd (oNilCheck r3.1 r3.2) fun r4 =>
  bnd (faO 0 r4.1 r4.2) fun r5 =>
  bnd (faO 0 r5.1 r5.2) fun r6 =>
  bnd (ldC r6.1 r6.2) fun r7 =>
  bnd (call (fnV 62) [r7.1] r7.2) fun r8 =>
  bnd (oMv r8.1 r8.2) fun r9 =>
  bnd (oMv r9.1 r9.2) fun r10 =>
  bnd (oMkFunc (.func 64) #[] #[r1.1] r10.2) fun r11 =>
  bnd (call (fnV 63) [r10.1, r11.1] r11.2) fun r12 =>
  bnd (oMv (.slice none 0 0) r12.2) fun r13 =>
  bnd (oMv r9.1 r13.2) fun r14 =>
  bnd (oBuiltin Tryz.prog .len #[99] 3 #[false] [r14.1] r14.2) fun r15 =>
  bnd (oMv (.int .i64 0) r15.2) fun r16 =>
  bnd (loopO (heaps_Queueapi_HoEntry_sorted_L1 call) (rput (rput (rput (rput (rput (rput (rput (rput (rput (rput (rput (rput (rput (rput (rput (rput (argGo 0 [x0] PlanTab.blank) (some 1) r1.1) (some 2) r2.1) (some 7) r3.1) (some 8) r4.1) (some 9) r5.1) (some 10) r6.1) (some 11) r7.1) (some 12) r8.1) (some 3) r9.1) (some 13) r10.1) (some 14) r11.1) (some 15) r12.1) (some 4) r13.1) (some 16) r14.1) (some 17) r15.1) (some 18) r16.1) r16.2) fun r36 =>
  kExit 0 r36.1 (
    bnd (oMv (r36.2.1 4) r36.2.2) fun r37 =>
    bnd (oMv r37.1 r37.2) fun r38 =>
    oRes Tryz.prog [(r38.1, none)] r38.2) (none)
theorem heaps_Queueapi_HoEntry_sorted_eq (call : Eng.Callee) (x0 : Value) (W : AW) : kFun Tryz.prog call 36 (cod 47) (rss 47) [x0] W = heaps_Queueapi_HoEntry_sorted call x0 W := by kernel_rfl
theorem heaps_Queueapi_HoEntry_sorted_om {x0 : Value} {W : AW} {r : Value × AW} (h : heaps_Queueapi_HoEntry_sorted omS x0 W = some r) : omS (.func (.func 47) #[] #[]) [x0] W = some (gc W r) := om_of (nt := 36) (n := 1) (by kernel_rfl) (by kernel_rfl) rfl ((heaps_Queueapi_HoEntry_sorted_eq omS x0 W).trans h)
noncomputable def ref17_at_L1 (call : Eng.Callee) (R : Nat → Value) (W : AW) : Option LT :=
  bnd (oMv (R 5) W) fun r4 =>
  bnd (faO 1 (R 2) r4.2) fun r5 =>
  bnd (ldC r5.1 r5.2) fun r6 =>
  bnd (oBuiltin Tryz.prog .len #[22] 3 #[false] [r6.1] r6.2) fun r7 =>
  bnd (oBin Tryz.prog .lss 3 false false r4.1 r7.1 r7.2) fun r8 =>
  vIf r8.1 (
    bnd (faO 1 (R 2) r8.2) fun r9 =>
    bnd (ldC r9.1 r9.2) fun r10 =>
    bnd (oMv (R 5) r10.2) fun r11 =>
    bnd (ixS 2 r10.1 r11.1 r11.2) fun r12 =>
    bnd (faO 0 r12.1 r12.2) fun r13 =>
    bnd (ldC r13.1 r13.2) fun r14 =>
    bnd (oMv (R 1) r14.2) fun r15 =>
    bnd (oBin Tryz.prog .eql 3 false false r14.1 r15.1 r15.2) fun r16 =>
    vIf r16.1 (
      bnd (oMv (R 5) r16.2) fun r17 =>
      bnd (oMv r17.1 r17.2) fun r18 =>
      some (X.ret, (rput (rput (rput (rput (rput (rput (rput (rput (rput (rput (rput (rput (rput (rput (rput R (some 6) r4.1) (some 7) r5.1) (some 8) r6.1) (some 9) r7.1) (some 10) r8.1) (some 13) r9.1) (some 14) r10.1) (some 15) r11.1) (some 16) r12.1) (some 17) r13.1) (some 18) r14.1) (some 19) r15.1) (some 20) r16.1) (some 21) r17.1) (some 4) r18.1), r18.2)) (
      bnd (oMv (R 5) r16.2) fun r19 =>
      bnd (oBin Tryz.prog .add 3 false true r19.1 (.int .i64 1) r19.2) fun r20 =>
      bnd (oMv r20.1 r20.2) fun r21 =>
      some (X.normal, (rput (rput (rput (rput (rput (rput (rput (rput (rput (rput (rput (rput (rput (rput (rput (rput R (some 6) r4.1) (some 7) r5.1) (some 8) r6.1) (some 9) r7.1) (some 10) r8.1) (some 13) r9.1) (some 14) r10.1) (some 15) r11.1) (some 16) r12.1) (some 17) r13.1) (some 18) r14.1) (some 19) r15.1) (some 20) r16.1) (some 11) r19.1) (some 12) r20.1) (some 5) r21.1), r21.2))) (
    some (X.exit 0, (rput (rput (rput (rput (rput R (some 6) r4.1) (some 7) r5.1) (some 8) r6.1) (some 9) r7.1) (some 10) r8.1), r8.2))
noncomputable def ref17_at (call : Eng.Callee) (x0 x1 : Value) (W : AW) : Option (Value × AW) :=
  bnd (oBox x0 W) fun r1 =>
  bnd (oMv (.int .i64 0) r1.2) fun r2 =>
  bnd (oMv (.int .i64 0) r2.2) fun r3 =>
  bnd (loopO (ref17_at_L1 call) (rput (rput (rput (argGo 0 [x0, x1] PlanTab.blank) (some 2) r1.1) (some 4) r2.1) (some 5) r3.1) r3.2) fun r22 =>
  kExit 0 r22.1 (
    bnd (oMv (.int .i64 (-1)) r22.2.2) fun r23 =>
    oRes Tryz.prog [(r23.1, none)] r23.2) (kRetX r22.1 (
    oRes Tryz.prog [((r22.2.1 4), none)] r22.2.2))
theorem ref17_at_eq (call : Eng.Callee) (x0 x1 : Value) (W : AW) : kFun Tryz.prog call 22 (cod 50) (rss 50) [x0, x1] W = ref17_at call x0 x1 W := by kernel_rfl
theorem ref17_at_om {x0 x1 : Value} {W : AW} {r : Value × AW} (h : ref17_at omS x0 x1 W = some r) : omS (.func (.func 50) #[] #[]) [x0, x1] W = some (gc W r) := om_of (nt := 22) (n := 2) (by kernel_rfl) (by kernel_rfl) rfl ((ref17_at_eq omS x0 x1 W).trans h)
noncomputable def ref17_without (call : Eng.Callee) (x0 x1 : Value) (W : AW) : Option (Value × AW) :=
  bnd (oBox x0 W) fun r1 =>
  bnd (oAlloc Tryz.prog 30 r1.2) fun r2 =>
  bnd (oBuildSlice Tryz.prog 22 0 [] r2.2) fun r3 =>
  bnd (faO 1 r1.1 r3.2) fun r4 =>
  bnd (ldC r4.1 r4.2) fun r5 =>
  bnd (oMv x1 r5.2) fun r6 =>
  bnd (oSlice Tryz.prog 22 r5.1 none (some r6.1) none r6.2) fun r7 =>
  bnd (faO 1 r1.1 r7.2) fun r8 =>
  bnd (ldC r8.1 r8.2) fun r9 =>
  bnd (oMv x1 r9.2) fun r10 =>
  bnd (oBin Tryz.prog .add 3 false true r10.1 (.int .i64 1) r10.2) fun r11 =>
  bnd (oSlice Tryz.prog 22 r9.1 (some r11.1) none none r11.2) fun r12 =>
  bnd (aAppend Tryz.prog r12.2 #[22, 22] r3.1 r7.1) fun r13 =>
  bIf (agV true (ldC r8.1 r13.2) r9.1 && true) (bnd (aAppend Tryz.prog r13.2 #[22, 22] r13.1 r12.1) fun r14 =>
  bnd (faO 1 r1.1 r14.2) fun r15 =>
  bnd (stV 1 r15.1 r14.1 r15.2) fun r16 =>
  bnd (ldA 2 r1.1 r16.2) fun r17 =>
  bnd (stV 2 r2.1 r17.1 r17.2) fun r18 =>
  oRes Tryz.prog [(r2.1, some 30)] r18.2) none
theorem ref17_without_eq (call : Eng.Callee) (x0 x1 : Value) (W : AW) : kFun Tryz.prog call 19 (cod 51) (rss 51) [x0, x1] W = ref17_without call x0 x1 W := by kernel_rfl
theorem ref17_without_om {x0 x1 : Value} {W : AW} {r : Value × AW} (h : ref17_without omS x0 x1 W = some r) : omS (.func (.func 51) #[] #[]) [x0, x1] W = some (gc W r) := om_of (nt := 19) (n := 2) (by kernel_rfl) (by kernel_rfl) rfl ((ref17_without_eq omS x0 x1 W).trans h)
noncomputable def heaps_Queueapi_HoEntry_Remove (call : Eng.Callee) (x0 x1 : Value) (W : AW) : Option (Value × AW) :=
  bnd (oAlloc Tryz.prog 43 W) fun r1 =>
  bnd (oMv (.int .i64 0) r1.2) fun r2 =>
  bnd (oMv x0 r2.2) fun r3 =>
  bnd (oMv x1 r3.2) fun r4 =>
  bnd (call (fnV 58) [r3.1, r4.1] r4.2) fun r5 =>
  bnd (oMv r5.1 r5.2) fun r6 =>
  bnd (oExtract r6.1 0 r6.2) fun r7 =>
  bnd (oExtract r6.1 1 r7.2) fun r8 =>
  bnd (oMv r7.1 r8.2) fun r9 =>
  bnd (oMv r8.1 r9.2) fun r10 =>
  bnd (oMv r10.1 r10.2) fun r11 =>
  bnd (oBin Tryz.prog .neq 26 false true r11.1 (.int .i64 0) r11.2) fun r12 =>
  vIf r12.1 (
    bnd (ldA 2 r1.1 r12.2) fun r13 =>
    bnd (oMv r10.1 r13.2) fun r14 =>
    bnd (stV 2 r1.1 r13.1 r14.2) fun r15 =>
    bnd (oMv r14.1 r15.2) fun r16 =>
    oRes Tryz.prog [(r1.1, some 43), (r16.1, none)] r16.2) (
    bnd (oMv x0 r12.2) fun r17 =>
    bnd (oNilCheck r17.1 r17.2) fun r18 =>
    bnd (faO 0 r18.1 r18.2) fun r19 =>
    bnd (oMkIface Tryz.prog 110 r19.1 r19.2) fun r20 =>
    bnd (oMv r9.1 r20.2) fun r21 =>
    bnd (oNilCheck r21.1 r21.2) fun r22 =>
    bnd (faO 3 r22.1 r22.2) fun r23 =>
    bnd (ldC r23.1 r23.2) fun r24 =>
    bnd (call (fnV 76) [r20.1, r24.1] r24.2) fun r25 =>
    bnd (oMv x0 r25.2) fun r26 =>
    bnd (oNilCheck r26.1 r26.2) fun r27 =>
    bnd (faO 2 r27.1 r27.2) fun r28 =>
    bnd (ldC r28.1 r28.2) fun r29 =>
    bnd (oMv x1 r29.2) fun r30 =>
    bnd (oBuiltin Tryz.prog .delete #[102, 2] 0 #[false, false] [r29.1, r30.1] r30.2) fun r31 =>
    bnd (oMv r9.1 r31.2) fun r32 =>
    bnd (oNilCheck r32.1 r32.2) fun r33 =>
    bnd (faO 1 r33.1 r33.2) fun r34 =>
    bnd (ldA 2 r34.1 r34.2) fun r35 =>
    bnd (stV 2 r1.1 r35.1 r35.2) fun r36 =>
    bnd (oMv (.int .i64 0) r36.2) fun r37 =>
    oRes Tryz.prog [(r1.1, some 43), (r37.1, none)] r37.2)
theorem heaps_Queueapi_HoEntry_Remove_eq (call : Eng.Callee) (x0 x1 : Value) (W : AW) : kFun Tryz.prog call 35 (cod 52) (rss 52) [x0, x1] W = heaps_Queueapi_HoEntry_Remove call x0 x1 W := by kernel_rfl
theorem heaps_Queueapi_HoEntry_Remove_om {x0 x1 : Value} {W : AW} {r : Value × AW} (h : heaps_Queueapi_HoEntry_Remove omS x0 x1 W = some r) : omS (.func (.func 52) #[] #[]) [x0, x1] W = some (gc W r) := om_of (nt := 35) (n := 2) (by kernel_rfl) (by kernel_rfl) rfl ((heaps_Queueapi_HoEntry_Remove_eq omS x0 x1 W).trans h)
noncomputable def heaps_Queueapi_HoEntry_Get (call : Eng.Callee) (x0 x1 : Value) (W : AW) : Option (Value × AW) :=
  bnd (oAlloc Tryz.prog 43 W) fun r1 =>
  bnd (oMv (.int .i64 0) r1.2) fun r2 =>
  bnd (oMv x0 r2.2) fun r3 =>
  bnd (oMv x1 r3.2) fun r4 =>
  bnd (call (fnV 58) [r3.1, r4.1] r4.2) fun r5 =>
  bnd (oMv r5.1 r5.2) fun r6 =>
  bnd (oExtract r6.1 0 r6.2) fun r7 =>
  bnd (oExtract r6.1 1 r7.2) fun r8 =>
  bnd (oMv r7.1 r8.2) fun r9 =>
  bnd (oMv r8.1 r9.2) fun r10 =>
  bnd (oMv r10.1 r10.2) fun r11 =>
  bnd (oBin Tryz.prog .neq 26 false true r11.1 (.int .i64 0) r11.2) fun r12 =>
  vIf r12.1 (
    bnd (ldA 2 r1.1 r12.2) fun r13 =>
    bnd (oMv r10.1 r13.2) fun r14 =>
    bnd (stV 2 r1.1 r13.1 r14.2) fun r15 =>
    bnd (oMv r14.1 r15.2) fun r16 =>
    oRes Tryz.prog [(r1.1, some 43), (r16.1, none)] r16.2) (
    bnd (oMv r9.1 r12.2) fun r17 =>
    bnd (oNilCheck r17.1 r17.2) fun r18 =>
    bnd (faO 1 r18.1 r18.2) fun r19 =>
    bnd (ldA 2 r19.1 r19.2) fun r20 =>
    bnd (stV 2 r1.1 r20.1 r20.2) fun r21 =>
    bnd (oMv (.int .i64 0) r21.2) fun r22 =>
    oRes Tryz.prog [(r1.1, some 43), (r22.1, none)] r22.2)
theorem heaps_Queueapi_HoEntry_Get_eq (call : Eng.Callee) (x0 x1 : Value) (W : AW) : kFun Tryz.prog call 21 (cod 53) (rss 53) [x0, x1] W = heaps_Queueapi_HoEntry_Get call x0 x1 W := by kernel_rfl
theorem heaps_Queueapi_HoEntry_Get_om {x0 x1 : Value} {W : AW} {r : Value × AW} (h : heaps_Queueapi_HoEntry_Get omS x0 x1 W = some r) : omS (.func (.func 53) #[] #[]) [x0, x1] W = some (gc W r) := om_of (nt := 21) (n := 2) (by kernel_rfl) (by kernel_rfl) rfl ((heaps_Queueapi_HoEntry_Get_eq omS x0 x1 W).trans h)
noncomputable def ref17_first_L1 (call : Eng.Callee) (R : Nat → Value) (W : AW) : Option LT :=
  bnd (oMv (R 4) W) fun r4 =>
  bnd (oMv (R 0) r4.2) fun r5 =>
  bnd (oBuiltin Tryz.prog .len #[22] 3 #[false] [r5.1] r5.2) fun r6 =>
  bnd (oBin Tryz.prog .lss 3 false false r4.1 r6.1 r6.2) fun r7 =>
  vIf r7.1 (
    bnd (oMv (R 0) r7.2) fun r8 =>
    bnd (oMv (R 4) r8.2) fun r9 =>
    bnd (ixS 2 r8.1 r9.1 r9.2) fun r10 =>
    bnd (faO 1 r10.1 r10.2) fun r11 =>
    bnd (ldC r11.1 r11.2) fun r12 =>
    bnd (oMv (R 0) r12.2) fun r13 =>
    bnd (oMv (R 3) r13.2) fun r14 =>
    bnd (ixS 2 r13.1 r14.1 r14.2) fun r15 =>
    bnd (faO 1 r15.1 r15.2) fun r16 =>
    bnd (ldC r16.1 r16.2) fun r17 =>
    bnd (oBin Tryz.prog .lss 2 false false r12.1 r17.1 r17.2) fun r18 =>
    bnd (oMv r18.1 r18.2) fun r19 =>
    bnd (bIf (wnt r19.1 false) (oMv (R 0) r19.2) (some (undef, r19.2))) fun r20 =>
    bnd (bIf (wnt r19.1 false) (oMv (R 4) r20.2) (some (undef, r20.2))) fun r21 =>
    bnd (bIf (wnt r19.1 false) (ixS 2 r20.1 r21.1 r21.2) (some (undef, r21.2))) fun r22 =>
    bnd (bIf (wnt r19.1 false) (faO 1 r22.1 r22.2) (some (undef, r22.2))) fun r23 =>
    bnd (bIf (wnt r19.1 false) (ldC r23.1 r23.2) (some (undef, r23.2))) fun r24 =>
    bnd (bIf (wnt r19.1 false) (oMv (R 0) r24.2) (some (undef, r24.2))) fun r25 =>
    bnd (bIf (wnt r19.1 false) (oMv (R 3) r25.2) (some (undef, r25.2))) fun r26 =>
    bnd (bIf (wnt r19.1 false) (ixS 2 r25.1 r26.1 r26.2) (some (undef, r26.2))) fun r27 =>
    bnd (bIf (wnt r19.1 false) (faO 1 r27.1 r27.2) (some (undef, r27.2))) fun r28 =>
    bnd (bIf (wnt r19.1 false) (ldC r28.1 r28.2) (some (undef, r28.2))) fun r29 =>
    bnd (bIf (wnt r19.1 false) (oBin Tryz.prog .eql 2 false false r24.1 r29.1 r29.2) (some (undef, r29.2))) fun r30 =>
    bnd (bIf (wnt r19.1 false) (oMv r30.1 r30.2) (some (undef, r30.2))) fun r31 =>
    bnd (bIf (wnt r31.1 true) (oMv (R 0) r31.2) (some (undef, r31.2))) fun r32 =>
    bnd (bIf (wnt r31.1 true) (oMv (R 4) r32.2) (some (undef, r32.2))) fun r33 =>
    bnd (bIf (wnt r31.1 true) (ixS 2 r32.1 r33.1 r33.2) (some (undef, r33.2))) fun r34 =>
    bnd (bIf (wnt r31.1 true) (faO 0 r34.1 r34.2) (some (undef, r34.2))) fun r35 =>
    bnd (bIf (wnt r31.1 true) (ldC r35.1 r35.2) (some (undef, r35.2))) fun r36 =>
    bnd (bIf (wnt r31.1 true) (oMv (R 0) r36.2) (some (undef, r36.2))) fun r37 =>
    bnd (bIf (wnt r31.1 true) (oMv (R 3) r37.2) (some (undef, r37.2))) fun r38 =>
    bnd (bIf (wnt r31.1 true) (ixS 2 r37.1 r38.1 r38.2) (some (undef, r38.2))) fun r39 =>
    bnd (bIf (wnt r31.1 true) (faO 0 r39.1 r39.2) (some (undef, r39.2))) fun r40 =>
    bnd (bIf (wnt r31.1 true) (ldC r40.1 r40.2) (some (undef, r40.2))) fun r41 =>
    bnd (bIf (wnt r31.1 true) (oBin Tryz.prog .lss 3 false false r36.1 r41.1 r41.2) (some (undef, r41.2))) fun r42 =>
    bnd (bIf (wnt r19.1 false) (oPick r31.1 r42.1 (.bool false) r42.2) (some (undef, r42.2))) fun r43 =>
    bnd (oPick r19.1 (.bool true) r43.1 r43.2) fun r44 =>
    vIf r44.1 (
      bnd (oMv (R 4) r44.2) fun r45 =>
      bnd (oMv r45.1 r45.2) fun r46 =>
      bnd (oMv (R 4) r46.2) fun r47 =>
      bnd (oBin Tryz.prog .add 3 false true r47.1 (.int .i64 1) r47.2) fun r48 =>
      bnd (oMv r48.1 r48.2) fun r49 =>
      some (X.normal, (rput (rput (rput (rput (rput (rput (rput (rput (rput (rput (rput (rput (rput (rput (rput (rput (rput (rput (rput (rput (rput (rput (rput (rput (rput (rput (rput (rput (rput (rput (rput (rput (rput (rput (rput (rput (rput (rput (rput (rput (rput (rput (rput (rput (rput (rput R (some 5) r4.1) (some 6) r5.1) (some 7) r6.1) (some 8) r7.1) (some 11) r8.1) (some 12) r9.1) (some 13) r10.1) (some 14) r11.1) (some 15) r12.1) (some 16) r13.1) (some 17) r14.1) (some 18) r15.1) (some 19) r16.1) (some 20) r17.1) (some 21) r18.1) (some 22) r19.1) (some 23) r20.1) (some 24) r21.1) (some 25) r22.1) (some 26) r23.1) (some 27) r24.1) (some 28) r25.1) (some 29) r26.1) (some 30) r27.1) (some 31) r28.1) (some 32) r29.1) (some 33) r30.1) (some 34) r31.1) (some 35) r32.1) (some 36) r33.1) (some 37) r34.1) (some 38) r35.1) (some 39) r36.1) (some 40) r37.1) (some 41) r38.1) (some 42) r39.1) (some 43) r40.1) (some 44) r41.1) (some 45) r42.1) (some 46) r43.1) (some 47) r44.1) (some 48) r45.1) (some 3) r46.1) (some 9) r47.1) (some 10) r48.1) (some 4) r49.1), r49.2)) (
      bnd (oMv (R 4) r44.2) fun r50 =>
      bnd (oBin Tryz.prog .add 3 false true r50.1 (.int .i64 1) r50.2) fun r51 =>
      bnd (oMv r51.1 r51.2) fun r52 =>
      some (X.normal, (rput (rput (rput (rput (rput (rput (rput (rput (rput (rput (rput (rput (rput (rput (rput (rput (rput (rput (rput (rput (rput (rput (rput (rput (rput (rput (rput (rput (rput (rput (rput (rput (rput (rput (rput (rput (rput (rput (rput (rput (rput (rput (rput (rput R (some 5) r4.1) (some 6) r5.1) (some 7) r6.1) (some 8) r7.1) (some 11) r8.1) (some 12) r9.1) (some 13) r10.1) (some 14) r11.1) (some 15) r12.1) (some 16) r13.1) (some 17) r14.1) (some 18) r15.1) (some 19) r16.1) (some 20) r17.1) (some 21) r18.1) (some 22) r19.1) (some 23) r20.1) (some 24) r21.1) (some 25) r22.1) (some 26) r23.1) (some 27) r24.1) (some 28) r25.1) (some 29) r26.1) (some 30) r27.1) (some 31) r28.1) (some 32) r29.1) (some 33) r30.1) (some 34) r31.1) (some 35) r32.1) (some 36) r33.1) (some 37) r34.1) (some 38) r35.1) (some 39) r36.1) (some 40) r37.1) (some 41) r38.1) (some 42) r39.1) (some 43) r40.1) (some 44) r41.1) (some 45) r42.1) (some 46) r43.1) (some 47) r44.1) (some 9) r50.1) (some 10) r51.1) (some 4) r52.1), r52.2))) (
    some (X.exit 0, (rput (rput (rput (rput R (some 5) r4.1) (some 6) r5.1) (some 7) r6.1) (some 8) r7.1), r7.2))
noncomputable def ref17_first (call : Eng.Callee) (x0 : Value) (W : AW) : Option (Value × AW) :=
  bnd (oMv (.int .i64 0) W) fun r1 =>
  bnd (oMv (.int .i64 0) r1.2) fun r2 =>
  bnd (oMv (.int .i64 1) r2.2) fun r3 =>
  bnd (loopO (ref17_first_L1 call) (rput (rput (rput (argGo 0 [x0] PlanTab.blank) (some 2) r1.1) (some 3) r2.1) (some 4) r3.1) r3.2) fun r53 =>
  kExit 0 r53.1 (
    bnd (oMv (r53.2.1 3) r53.2.2) fun r54 =>
    bnd (oMv r54.1 r54.2) fun r55 =>
    oRes Tryz.prog [(r55.1, none)] r55.2) (none)
theorem ref17_first_eq (call : Eng.Callee) (x0 : Value) (W : AW) : kFun Tryz.prog call 50 (cod 54) (rss 54) [x0] W = ref17_first call x0 W := by kernel_rfl
theorem ref17_first_om {x0 : Value} {W : AW} {r : Value × AW} (h : ref17_first omS x0 W = some r) : omS (.func (.func 54) #[] #[]) [x0] W = some (gc W r) := om_of (nt := 50) (n := 1) (by kernel_rfl) (by kernel_rfl) rfl ((ref17_first_eq omS x0 W).trans h)
noncomputable def ref05_Passed (call : Eng.Callee) (x0 x1 : Value) (W : AW) : Option (Value × AW) :=
  bnd (oMv (.bool false) W) fun r1 =>
  bnd (oMv (.int .i64 0) r1.2) fun r2 =>
  bnd (oMv x0 r2.2) fun r3 =>
  bnd (oMv x1 r3.2) fun r4 =>
  bnd (call (fnV 77) [r3.1, r4.1] r4.2) fun r5 =>
  bnd (oMv r5.1 r5.2) fun r6 =>
  bnd (oMv r6.1 r6.2) fun r7 =>
  bnd (oBin Tryz.prog .eql 26 false true r7.1 (.int .i64 0) r7.2) fun r8 =>
  bnd (oMv r8.1 r8.2) fun r9 =>
  bnd (bIf (wnt r9.1 true) (oMv x0 r9.2) (some (undef, r9.2))) fun r10 =>
  bnd (bIf (wnt r9.1 true) (oMv x1 r10.2) (some (undef, r10.2))) fun r11 =>
  bnd (bIf (wnt r9.1 true) (oBin Tryz.prog .leq 2 false false r10.1 r11.1 r11.2) (some (undef, r11.2))) fun r12 =>
  bnd (oPick r9.1 r12.1 (.bool false) r12.2) fun r13 =>
  bnd (oMv r6.1 r13.2) fun r14 =>
  bnd (oMv r13.1 r14.2) fun r15 =>
  bnd (oMv r14.1 r15.2) fun r16 =>
  oRes Tryz.prog [(r15.1, none), (r16.1, none)] r16.2
theorem ref05_Passed_eq (call : Eng.Callee) (x0 x1 : Value) (W : AW) : kFun Tryz.prog call 18 (cod 55) (rss 55) [x0, x1] W = ref05_Passed call x0 x1 W := by kernel_rfl
theorem ref05_Passed_om {x0 x1 : Value} {W : AW} {r : Value × AW} (h : ref05_Passed omS x0 x1 W = some r) : omS (.func (.func 55) #[] #[]) [x0, x1] W = some (gc W r) := om_of (nt := 18) (n := 2) (by kernel_rfl) (by kernel_rfl) rfl ((ref05_Passed_eq omS x0 x1 W).trans h)
noncomputable def cmp_isNaNint64 (call : Eng.Callee) (x0 : Value) (W : AW) : Option (Value × AW) :=
  bnd (oMv (.bool false) W) fun r1 =>
  bnd (oMv x0 r1.2) fun r2 =>
  bnd (oMv x0 r2.2) fun r3 =>
  bnd (oBin Tryz.prog .neq 2 false false r2.1 r3.1 r3.2) fun r4 =>
  bnd (oMv r4.1 r4.2) fun r5 =>
  oRes Tryz.prog [(r5.1, none)] r5.2
theorem cmp_isNaNint64_eq (call : Eng.Callee) (x0 : Value) (W : AW) : kFun Tryz.prog call 6 (cod 56) (rss 56) [x0] W = cmp_isNaNint64 call x0 W := by kernel_rfl
theorem cmp_isNaNint64_om {x0 : Value} {W : AW} {r : Value × AW} (h : cmp_isNaNint64 omS x0 W = some r) : omS (.func (.func 56) #[] #[]) [x0] W = some (gc W r) := om_of (nt := 6) (n := 1) (by kernel_rfl) (by kernel_rfl) rfl ((cmp_isNaNint64_eq omS x0 W).trans h)
theorem cmp_isNaNint64_om1 {x0 : Value} {W : AW} {r : Value × AW} (h : cmp_isNaNint64 om1 x0 W = some r) : om1 (.func (.func 56) #[] #[]) [x0] W = some (gc W r) := om_of (nt := 6) (n := 1) (by kernel_rfl) (by kernel_rfl) rfl ((cmp_isNaNint64_eq om1 x0 W).trans h)
noncomputable def containerheap_Push (call : Eng.Callee) (x0 x1 : Value) (W : AW) : Option (Value × AW) :=
  bnd (oMv x0 W) fun r1 =>
  bnd (oMv x1 r1.2) fun r2 =>
  bnd (oInvoke Tryz.prog call r1.1 "Push" [r2.1] r2.2) fun r3 =>
  bnd (oMv x0 r3.2) fun r4 =>
  bnd (oMv x0 r4.2) fun r5 =>
  bnd (oInvoke Tryz.prog call r5.1 "Len" [] r5.2) fun r6 =>
  bnd (oBin Tryz.prog .sub 3 false true r6.1 (.int .i64 1) r6.2) fun r7 =>
  bnd (call (fnV 78) [r4.1, r7.1] r7.2) fun r8 =>
  oRes Tryz.prog [] r8.2
theorem containerheap_Push_eq (call : Eng.Callee) (x0 x1 : Value) (W : AW) : kFun Tryz.prog call 12 (cod 57) (rss 57) [x0, x1] W = containerheap_Push call x0 x1 W := by kernel_rfl
theorem containerheap_Push_om {x0 x1 : Value} {W : AW} {r : Value × AW} (h : containerheap_Push omS x0 x1 W = some r) : omS (.func (.func 57) #[] #[]) [x0, x1] W = some (gc W r) := om_of (nt := 12) (n := 2) (by kernel_rfl) (by kernel_rfl) rfl ((containerheap_Push_eq omS x0 x1 W).trans h)
noncomputable def heaps_Queueapi_HoEntry_find (call : Eng.Callee) (x0 x1 : Value) (W : AW) : Option (Value × AW) :=
  bnd (oMv (.pointer none) W) fun r1 =>
  bnd (oMv (.int .i64 0) r1.2) fun r2 =>
  bnd (oMv x0 r2.2) fun r3 =>
  bnd (call (fnV 46) [r3.1] r3.2) fun r4 =>
  bnd (oUn Tryz.prog .not r4.1 r4.2) fun r5 =>
  vIf r5.1 (
    bnd (oMv (.pointer none) r5.2) fun r6 =>
    bnd (oMv (.int .i64 1) r6.2) fun r7 =>
    oRes Tryz.prog [(r6.1, none), (r7.1, none)] r7.2) (
    bnd (oMv x0 r5.2) fun r8 =>
    bnd (oNilCheck r8.1 r8.2) fun r9 =>
    bnd (faO 2 r9.1 r9.2) fun r10 =>
    bnd (ldC r10.1 r10.2) fun r11 =>
    bnd (oMv x1 r11.2) fun r12 =>
    bnd (oLookup Tryz.prog 102 r11.1 r12.1 true r12.2) fun r13 =>
    bnd (oMv r13.1 r13.2) fun r14 =>
    bnd (oExtract r14.1 0 r14.2) fun r15 =>
    bnd (oExtract r14.1 1 r15.2) fun r16 =>
    bnd (oMv r15.1 r16.2) fun r17 =>
    bnd (oMv r16.1 r17.2) fun r18 =>
    bnd (oMv r18.1 r18.2) fun r19 =>
    bnd (oUn Tryz.prog .not r19.1 r19.2) fun r20 =>
    vIf r20.1 (
      bnd (oMv (.pointer none) r20.2) fun r21 =>
      bnd (oMv (.int .i64 4) r21.2) fun r22 =>
      oRes Tryz.prog [(r21.1, none), (r22.1, none)] r22.2) (
      bnd (oMv r17.1 r20.2) fun r23 =>
      bnd (oMv r23.1 r23.2) fun r24 =>
      bnd (oMv (.int .i64 0) r24.2) fun r25 =>
      oRes Tryz.prog [(r24.1, none), (r25.1, none)] r25.2))
theorem heaps_Queueapi_HoEntry_find_eq (call : Eng.Callee) (x0 x1 : Value) (W : AW) : kFun Tryz.prog call 23 (cod 58) (rss 58) [x0, x1] W = heaps_Queueapi_HoEntry_find call x0 x1 W := by kernel_rfl
theorem heaps_Queueapi_HoEntry_find_om {x0 x1 : Value} {W : AW} {r : Value × AW} (h : heaps_Queueapi_HoEntry_find omS x0 x1 W = some r) : omS (.func (.func 58) #[] #[]) [x0, x1] W = some (gc W r) := om_of (nt := 23) (n := 2) (by kernel_rfl) (by kernel_rfl) rfl ((heaps_Queueapi_HoEntry_find_eq omS x0 x1 W).trans h)
noncomputable def containerheap_Fix (call : Eng.Callee) (x0 x1 : Value) (W : AW) : Option (Value × AW) :=
  bnd (oMv x0 W) fun r1 =>
  bnd (oMv x1 r1.2) fun r2 =>
  bnd (oMv x0 r2.2) fun r3 =>
  bnd (oInvoke Tryz.prog call r3.1 "Len" [] r3.2) fun r4 =>
  bnd (call (fnV 79) [r1.1, r2.1, r4.1] r4.2) fun r5 =>
  bnd (oUn Tryz.prog .not r5.1 r5.2) fun r6 =>
  vIf r6.1 (
    bnd (oMv x0 r6.2) fun r7 =>
    bnd (oMv x1 r7.2) fun r8 =>
    bnd (call (fnV 78) [r7.1, r8.1] r8.2) fun r9 =>
    oRes Tryz.prog [] r9.2) (
    oRes Tryz.prog [] r6.2)
theorem containerheap_Fix_eq (call : Eng.Callee) (x0 x1 : Value) (W : AW) : kFun Tryz.prog call 13 (cod 59) (rss 59) [x0, x1] W = containerheap_Fix call x0 x1 W := by kernel_rfl
theorem containerheap_Fix_om {x0 x1 : Value} {W : AW} {r : Value × AW} (h : containerheap_Fix omS x0 x1 W = some r) : omS (.func (.func 59) #[] #[]) [x0, x1] W = some (gc W r) := om_of (nt := 13) (n := 2) (by kernel_rfl) (by kernel_rfl) rfl ((containerheap_Fix_eq omS x0 x1 W).trans h)
noncomputable def times_none (call : Eng.Callee) (x0 : Value) (W : AW) : Option (Value × AW) :=
  bnd (oMv (.bool false) W) fun r1 =>
  bnd (oMv x0 r1.2) fun r2 =>
  bnd (call (fnV 80) [r2.1] r2.2) fun r3 =>
  bnd (oBin Tryz.prog .lss 2 false true r3.1 (.int .i64 0) r3.2) fun r4 =>
  bnd (oMv r4.1 r4.2) fun r5 =>
  oRes Tryz.prog [(r5.1, none)] r5.2
theorem times_none_eq (call : Eng.Callee) (x0 : Value) (W : AW) : kFun Tryz.prog call 6 (cod 60) (rss 60) [x0] W = times_none call x0 W := by kernel_rfl
theorem times_none_om {x0 : Value} {W : AW} {r : Value × AW} (h : times_none omS x0 W = some r) : omS (.func (.func 60) #[] #[]) [x0] W = some (gc W r) := om_of (nt := 6) (n := 1) (by kernel_rfl) (by kernel_rfl) rfl ((times_none_eq omS x0 W).trans h)
noncomputable def containerheap_Pop (call : Eng.Callee) (x0 : Value) (W : AW) : Option (Value × AW) :=
  bnd (oMv .nilIface W) fun r1 =>
  bnd (oMv x0 r1.2) fun r2 =>
  bnd (oInvoke Tryz.prog call r2.1 "Len" [] r2.2) fun r3 =>
  bnd (oBin Tryz.prog .sub 3 false true r3.1 (.int .i64 1) r3.2) fun r4 =>
  bnd (oMv r4.1 r4.2) fun r5 =>
  bnd (oMv x0 r5.2) fun r6 =>
  bnd (oMv r5.1 r6.2) fun r7 =>
  bnd (oInvoke Tryz.prog call r6.1 "Swap" [(.int .i64 0), r7.1] r7.2) fun r8 =>
  bnd (oMv x0 r8.2) fun r9 =>
  bnd (oMv r5.1 r9.2) fun r10 =>
  bnd (call (fnV 79) [r9.1, (.int .i64 0), r10.1] r10.2) fun r11 =>
  bnd (oMv x0 r11.2) fun r12 =>
  bnd (oInvoke Tryz.prog call r12.1 "Pop" [] r12.2) fun r13 =>
  bnd (oMv r13.1 r13.2) fun r14 =>
  oRes Tryz.prog [(r14.1, none)] r14.2
theorem containerheap_Pop_eq (call : Eng.Callee) (x0 : Value) (W : AW) : kFun Tryz.prog call 15 (cod 61) (rss 61) [x0] W = containerheap_Pop call x0 W := by kernel_rfl
theorem containerheap_Pop_om {x0 : Value} {W : AW} {r : Value × AW} (h : containerheap_Pop omS x0 W = some r) : omS (.func (.func 61) #[] #[]) [x0] W = some (gc W r) := om_of (nt := 15) (n := 1) (by kernel_rfl) (by kernel_rfl) rfl ((containerheap_Pop_eq omS x0 W).trans h)
noncomputable def slices_Cloneheaps_entryapi_HoEntryheaps_entryapi_HoEntry (call : Eng.Callee) (x0 : Value) (W : AW) : Option (Value × AW) :=
  bnd (oMv (.slice none 0 0) W) fun r1 =>
  bnd (oMv x0 r1.2) fun r2 =>
  bnd (oBin Tryz.prog .eql 99 false true r2.1 (.slice none 0 0) r2.2) fun r3 =>
  vIf r3.1 (
    bnd (oMv (.slice none 0 0) r3.2) fun r4 =>
    oRes Tryz.prog [(r4.1, none)] r4.2) (
    bnd (oBuildSlice Tryz.prog 99 0 [] r3.2) fun r5 =>
    bnd (oMv x0 r5.2) fun r6 =>
    bnd (aAppend Tryz.prog r6.2 #[99, 99] r5.1 r6.1) fun r7 =>
    bnd (oMv r7.1 r7.2) fun r8 =>
    oRes Tryz.prog [(r8.1, none)] r8.2)
theorem slices_Cloneheaps_entryapi_HoEntryheaps_entryapi_HoEntry_eq (call : Eng.Callee) (x0 : Value) (W : AW) : kFun Tryz.prog call 8 (cod 62) (rss 62) [x0] W = slices_Cloneheaps_entryapi_HoEntryheaps_entryapi_HoEntry call x0 W := by kernel_rfl
theorem slices_Cloneheaps_entryapi_HoEntryheaps_entryapi_HoEntry_om {x0 : Value} {W : AW} {r : Value × AW} (h : slices_Cloneheaps_entryapi_HoEntryheaps_entryapi_HoEntry omS x0 W = some r) : omS (.func (.func 62) #[] #[]) [x0] W = some (gc W r) := om_of (nt := 8) (n := 1) (by kernel_rfl) (by kernel_rfl) rfl ((slices_Cloneheaps_entryapi_HoEntryheaps_entryapi_HoEntry_eq omS x0 W).trans h)
noncomputable def heaps_pileapi_HoEntry_before (call : Eng.Callee) (x0 x1 x2 : Value) (W : AW) : Option (Value × AW) :=
  bnd (oMv (.bool false) W) fun r1 =>
  bnd (oMv x0 r1.2) fun r2 =>
  bnd (oNilCheck r2.1 r2.2) fun r3 =>
  bnd (faO 1 r3.1 r3.2) fun r4 =>
  bnd (ldC r4.1 r4.2) fun r5 =>
  bnd (oMv x1 r5.2) fun r6 =>
  bnd (oNilCheck r6.1 r6.2) fun r7 =>
  bnd (faO 1 r7.1 r7.2) fun r8 =>
  bnd (ldA 2 r8.1 r8.2) fun r9 =>
  bnd (oMv x2 r9.2) fun r10 =>
  bnd (oNilCheck r10.1 r10.2) fun r11 =>
  bnd (faO 1 r11.1 r11.2) fun r12 =>
  bnd (ldA 2 r12.1 r12.2) fun r13 =>
  bnd (call r5.1 [r9.1, r13.1] r13.2) fun r14 =>
  bnd (oMv r14.1 r14.2) fun r15 =>
  vIf r15.1 (
    bnd (oMv (.bool true) r15.2) fun r16 =>
    oRes Tryz.prog [(r16.1, none)] r16.2) (
    bnd (oMv x0 r15.2) fun r17 =>
    bnd (oNilCheck r17.1 r17.2) fun r18 =>
    bnd (faO 1 r18.1 r18.2) fun r19 =>
    bnd (ldC r19.1 r19.2) fun r20 =>
    bnd (oMv x2 r20.2) fun r21 =>
    bnd (oNilCheck r21.1 r21.2) fun r22 =>
    bnd (faO 1 r22.1 r22.2) fun r23 =>
    bnd (ldA 2 r23.1 r23.2) fun r24 =>
    bnd (oMv x1 r24.2) fun r25 =>
    bnd (oNilCheck r25.1 r25.2) fun r26 =>
    bnd (faO 1 r26.1 r26.2) fun r27 =>
    bnd (ldA 2 r27.1 r27.2) fun r28 =>
    bnd (call r20.1 [r24.1, r28.1] r28.2) fun r29 =>
    bnd (oMv r29.1 r29.2) fun r30 =>
    vIf r30.1 (
      bnd (oMv (.bool false) r30.2) fun r31 =>
      oRes Tryz.prog [(r31.1, none)] r31.2) (
      bnd (oMv x1 r30.2) fun r32 =>
      bnd (oNilCheck r32.1 r32.2) fun r33 =>
      bnd (faO 0 r33.1 r33.2) fun r34 =>
      bnd (ldC r34.1 r34.2) fun r35 =>
      bnd (oMv x2 r35.2) fun r36 =>
      bnd (oNilCheck r36.1 r36.2) fun r37 =>
      bnd (faO 0 r37.1 r37.2) fun r38 =>
      bnd (ldC r38.1 r38.2) fun r39 =>
      bnd (oBin Tryz.prog .lss 2 false false r35.1 r39.1 r39.2) fun r40 =>
      bnd (oMv r40.1 r40.2) fun r41 =>
      oRes Tryz.prog [(r41.1, none)] r41.2))
theorem heaps_pileapi_HoEntry_before_eq (call : Eng.Callee) (x0 x1 x2 : Value) (W : AW) : kFun Tryz.prog call 44 (cod 65) (rss 65) [x0, x1, x2] W = heaps_pileapi_HoEntry_before call x0 x1 x2 W := by kernel_rfl
theorem heaps_pileapi_HoEntry_before_om {x0 x1 x2 : Value} {W : AW} {r : Value × AW} (h : heaps_pileapi_HoEntry_before omS x0 x1 x2 W = some r) : omS (.func (.func 65) #[] #[]) [x0, x1, x2] W = some (gc W r) := om_of (nt := 44) (n := 3) (by kernel_rfl) (by kernel_rfl) rfl ((heaps_pileapi_HoEntry_before_eq omS x0 x1 x2 W).trans h)
theorem heaps_pileapi_HoEntry_before_om1 {x0 x1 x2 : Value} {W : AW} {r : Value × AW} (h : heaps_pileapi_HoEntry_before om1 x0 x1 x2 W = some r) : om1 (.func (.func 65) #[] #[]) [x0, x1, x2] W = some (gc W r) := om_of (nt := 44) (n := 3) (by kernel_rfl) (by kernel_rfl) rfl ((heaps_pileapi_HoEntry_before_eq om1 x0 x1 x2 W).trans h)
noncomputable def containerheap_Remove (call : Eng.Callee) (x0 x1 : Value) (W : AW) : Option (Value × AW) :=
  bnd (oMv .nilIface W) fun r1 =>
  bnd (oMv x0 r1.2) fun r2 =>
  bnd (oInvoke Tryz.prog call r2.1 "Len" [] r2.2) fun r3 =>
  bnd (oBin Tryz.prog .sub 3 false true r3.1 (.int .i64 1) r3.2) fun r4 =>
  bnd (oMv r4.1 r4.2) fun r5 =>
  bnd (oMv r5.1 r5.2) fun r6 =>
  bnd (oMv x1 r6.2) fun r7 =>
  bnd (oBin Tryz.prog .neq 3 false false r6.1 r7.1 r7.2) fun r8 =>
  vIf r8.1 (
    bnd (oMv x0 r8.2) fun r9 =>
    bnd (oMv x1 r9.2) fun r10 =>
    bnd (oMv r5.1 r10.2) fun r11 =>
    bnd (oInvoke Tryz.prog call r9.1 "Swap" [r10.1, r11.1] r11.2) fun r12 =>
    bnd (oMv x0 r12.2) fun r13 =>
    bnd (oMv x1 r13.2) fun r14 =>
    bnd (oMv r5.1 r14.2) fun r15 =>
    bnd (call (fnV 79) [r13.1, r14.1, r15.1] r15.2) fun r16 =>
    bnd (oUn Tryz.prog .not r16.1 r16.2) fun r17 =>
    vIf r17.1 (
      bnd (oMv x0 r17.2) fun r18 =>
      bnd (oMv x1 r18.2) fun r19 =>
      bnd (call (fnV 78) [r18.1, r19.1] r19.2) fun r20 =>
      bnd (oMv x0 r20.2) fun r21 =>
      bnd (oInvoke Tryz.prog call r21.1 "Pop" [] r21.2) fun r22 =>
      bnd (oMv r22.1 r22.2) fun r23 =>
      oRes Tryz.prog [(r23.1, none)] r23.2) (
      bnd (oMv x0 r17.2) fun r24 =>
      bnd (oInvoke Tryz.prog call r24.1 "Pop" [] r24.2) fun r25 =>
      bnd (oMv r25.1 r25.2) fun r26 =>
      oRes Tryz.prog [(r26.1, none)] r26.2)) (
    bnd (oMv x0 r8.2) fun r27 =>
    bnd (oInvoke Tryz.prog call r27.1 "Pop" [] r27.2) fun r28 =>
    bnd (oMv r28.1 r28.2) fun r29 =>
    oRes Tryz.prog [(r29.1, none)] r29.2)
theorem containerheap_Remove_eq (call : Eng.Callee) (x0 x1 : Value) (W : AW) : kFun Tryz.prog call 26 (cod 76) (rss 76) [x0, x1] W = containerheap_Remove call x0 x1 W := by kernel_rfl
theorem containerheap_Remove_om {x0 x1 : Value} {W : AW} {r : Value × AW} (h : containerheap_Remove omS x0 x1 W = some r) : omS (.func (.func 76) #[] #[]) [x0, x1] W = some (gc W r) := om_of (nt := 26) (n := 2) (by kernel_rfl) (by kernel_rfl) rfl ((containerheap_Remove_eq omS x0 x1 W).trans h)
noncomputable def ref05_both (call : Eng.Callee) (x0 x1 : Value) (W : AW) : Option (Value × AW) :=
  bnd (oMv (.int .i64 0) W) fun r1 =>
  bnd (oMv x0 r1.2) fun r2 =>
  bnd (oBin Tryz.prog .lss 2 false true r2.1 (.int .i64 0) r2.2) fun r3 =>
  bnd (oMv r3.1 r3.2) fun r4 =>
  bnd (bIf (wnt r4.1 false) (oMv x1 r4.2) (some (undef, r4.2))) fun r5 =>
  bnd (bIf (wnt r4.1 false) (oBin Tryz.prog .lss 2 false true r5.1 (.int .i64 0) r5.2) (some (undef, r5.2))) fun r6 =>
  bnd (oPick r4.1 (.bool true) r6.1 r6.2) fun r7 =>
  vIf r7.1 (
    bnd (oMv (.int .i64 7) r7.2) fun r8 =>
    oRes Tryz.prog [(r8.1, none)] r8.2) (
    bnd (oMv (.int .i64 0) r7.2) fun r9 =>
    oRes Tryz.prog [(r9.1, none)] r9.2)
theorem ref05_both_eq (call : Eng.Callee) (x0 x1 : Value) (W : AW) : kFun Tryz.prog call 11 (cod 77) (rss 77) [x0, x1] W = ref05_both call x0 x1 W := by kernel_rfl
theorem ref05_both_om {x0 x1 : Value} {W : AW} {r : Value × AW} (h : ref05_both omS x0 x1 W = some r) : omS (.func (.func 77) #[] #[]) [x0, x1] W = some (gc W r) := om_of (nt := 11) (n := 2) (by kernel_rfl) (by kernel_rfl) rfl ((ref05_both_eq omS x0 x1 W).trans h)
noncomputable def containerheap_up_L1 (call : Eng.Callee) (R : Nat → Value) (W : AW) : Option LT :=
  bnd (oMv (R 1) W) fun r1 =>
  bnd (oBin Tryz.prog .sub 3 false true r1.1 (.int .i64 1) r1.2) fun r2 =>
  bnd (oBin Tryz.prog .quo 3 false true r2.1 (.int .i64 2) r2.2) fun r3 =>
  bnd (oMv r3.1 r3.2) fun r4 =>
  bnd (oMv r4.1 r4.2) fun r5 =>
  bnd (oMv (R 1) r5.2) fun r6 =>
  bnd (oBin Tryz.prog .eql 3 false false r5.1 r6.1 r6.2) fun r7 =>
  bnd (oMv r7.1 r7.2) fun r8 =>
  bnd (bIf (wnt r8.1 false) (oMv (R 0) r8.2) (some (undef, r8.2))) fun r9 =>
  bnd (bIf (wnt r8.1 false) (oMv (R 1) r9.2) (some (undef, r9.2))) fun r10 =>
  bnd (bIf (wnt r8.1 false) (oMv r4.1 r10.2) (some (undef, r10.2))) fun r11 =>
  bnd (bIf (wnt r8.1 false) (oInvoke Tryz.prog call r9.1 "Less" [r10.1, r11.1] r11.2) (some (undef, r11.2))) fun r12 =>
  bnd (bIf (wnt r8.1 false) (oUn Tryz.prog .not r12.1 r12.2) (some (undef, r12.2))) fun r13 =>
  bnd (oPick r8.1 (.bool true) r13.1 r13.2) fun r14 =>
  vIf r14.1 (
    some (X.exit 0, (rput (rput (rput (rput (rput (rput (rput (rput (rput (rput (rput (rput (rput (rput R (some 5) r1.1) (some 6) r2.1) (some 7) r3.1) (some 4) r4.1) (some 8) r5.1) (some 9) r6.1) (some 10) r7.1) (some 11) r8.1) (some 12) r9.1) (some 13) r10.1) (some 14) r11.1) (some 15) r12.1) (some 16) r13.1) (some 17) r14.1), r14.2)) (
    bnd (oMv (R 0) r14.2) fun r15 =>
    bnd (oMv r4.1 r15.2) fun r16 =>
    bnd (oMv (R 1) r16.2) fun r17 =>
    bnd (oInvoke Tryz.prog call r15.1 "Swap" [r16.1, r17.1] r17.2) fun r18 =>
    bnd (oMv r4.1 r18.2) fun r19 =>
    bnd (oMv r19.1 r19.2) fun r20 =>
    some (X.normal, (rput (rput (rput (rput (rput (rput (rput (rput (rput (rput (rput (rput (rput (rput (rput (rput (rput (rput (rput (rput R (some 5) r1.1) (some 6) r2.1) (some 7) r3.1) (some 4) r4.1) (some 8) r5.1) (some 9) r6.1) (some 10) r7.1) (some 11) r8.1) (some 12) r9.1) (some 13) r10.1) (some 14) r11.1) (some 15) r12.1) (some 16) r13.1) (some 17) r14.1) (some 18) r15.1) (some 19) r16.1) (some 20) r17.1) (some 21) r18.1) (some 22) r19.1) (some 1) r20.1), r20.2))
noncomputable def containerheap_up (call : Eng.Callee) (x0 x1 : Value) (W : AW) : Option (Value × AW) :=
  bnd (loopO (containerheap_up_L1 call) (argGo 0 [x0, x1] PlanTab.blank) W) fun r21 =>
  kExit 0 r21.1 (
    oRes Tryz.prog [] r21.2.2) (none)
theorem containerheap_up_eq (call : Eng.Callee) (x0 x1 : Value) (W : AW) : kFun Tryz.prog call 23 (cod 78) (rss 78) [x0, x1] W = containerheap_up call x0 x1 W := by kernel_rfl
theorem containerheap_up_om {x0 x1 : Value} {W : AW} {r : Value × AW} (h : containerheap_up omS x0 x1 W = some r) : omS (.func (.func 78) #[] #[]) [x0, x1] W = some (gc W r) := om_of (nt := 23) (n := 2) (by kernel_rfl) (by kernel_rfl) rfl ((containerheap_up_eq omS x0 x1 W).trans h)
noncomputable def containerheap_down_L1 (call : Eng.Callee) (R : Nat → Value) (W : AW) : Option LT :=
  bnd (oMv (R 7) W) fun r4 =>
  bnd (oBin Tryz.prog .mul 3 true false (.int .i64 2) r4.1 r4.2) fun r5 =>
  bnd (oBin Tryz.prog .add 3 false true r5.1 (.int .i64 1) r5.2) fun r6 =>
  bnd (oMv r6.1 r6.2) fun r7 =>
  bnd (oMv r7.1 r7.2) fun r8 =>
  bnd (oMv (R 2) r8.2) fun r9 =>
  bnd (oBin Tryz.prog .geq 3 false false r8.1 r9.1 r9.2) fun r10 =>
  bnd (oMv r10.1 r10.2) fun r11 =>
  bnd (bIf (wnt r11.1 false) (oMv r7.1 r11.2) (some (undef, r11.2))) fun r12 =>
  bnd (bIf (wnt r11.1 false) (oBin Tryz.prog .lss 3 false true r12.1 (.int .i64 0) r12.2) (some (undef, r12.2))) fun r13 =>
  bnd (oPick r11.1 (.bool true) r13.1 r13.2) fun r14 =>
  vIf r14.1 (
    some (X.exit 0, (rput (rput (rput (rput (rput (rput (rput (rput (rput (rput (rput R (some 12) r4.1) (some 13) r5.1) (some 14) r6.1) (some 8) r7.1) (some 15) r8.1) (some 16) r9.1) (some 17) r10.1) (some 18) r11.1) (some 19) r12.1) (some 20) r13.1) (some 21) r14.1), r14.2)) (
    bnd (oMv r7.1 r14.2) fun r15 =>
    bnd (oMv r15.1 r15.2) fun r16 =>
    bnd (oMv r7.1 r16.2) fun r17 =>
    bnd (oBin Tryz.prog .add 3 false true r17.1 (.int .i64 1) r17.2) fun r18 =>
    bnd (oMv r18.1 r18.2) fun r19 =>
    bnd (oMv r19.1 r19.2) fun r20 =>
    bnd (oMv (R 2) r20.2) fun r21 =>
    bnd (oBin Tryz.prog .lss 3 false false r20.1 r21.1 r21.2) fun r22 =>
    bnd (oMv r22.1 r22.2) fun r23 =>
    bnd (bIf (wnt r23.1 true) (oMv (R 0) r23.2) (some (undef, r23.2))) fun r24 =>
    bnd (bIf (wnt r23.1 true) (oMv r19.1 r24.2) (some (undef, r24.2))) fun r25 =>
    bnd (bIf (wnt r23.1 true) (oMv r7.1 r25.2) (some (undef, r25.2))) fun r26 =>
    bnd (bIf (wnt r23.1 true) (oInvoke Tryz.prog call r24.1 "Less" [r25.1, r26.1] r26.2) (some (undef, r26.2))) fun r27 =>
    bnd (oPick r23.1 r27.1 (.bool false) r27.2) fun r28 =>
    vIf r28.1 (
      bnd (oMv r19.1 r28.2) fun r29 =>
      bnd (oMv r29.1 r29.2) fun r30 =>
      bnd (oMv (R 0) r30.2) fun r31 =>
      bnd (oMv r30.1 r31.2) fun r32 =>
      bnd (oMv (R 7) r32.2) fun r33 =>
      bnd (oInvoke Tryz.prog call r31.1 "Less" [r32.1, r33.1] r33.2) fun r34 =>
      bnd (oUn Tryz.prog .not r34.1 r34.2) fun r35 =>
      vIf r35.1 (
        some (X.exit 0, (rput (rput (rput (rput (rput (rput (rput (rput (rput (rput (rput (rput (rput (rput (rput (rput (rput (rput (rput (rput (rput (rput (rput (rput (rput (rput (rput (rput (rput (rput (rput (rput R (some 12) r4.1) (some 13) r5.1) (some 14) r6.1) (some 8) r7.1) (some 15) r8.1) (some 16) r9.1) (some 17) r10.1) (some 18) r11.1) (some 19) r12.1) (some 20) r13.1) (some 21) r14.1) (some 22) r15.1) (some 9) r16.1) (some 23) r17.1) (some 24) r18.1) (some 10) r19.1) (some 25) r20.1) (some 26) r21.1) (some 27) r22.1) (some 28) r23.1) (some 29) r24.1) (some 30) r25.1) (some 31) r26.1) (some 32) r27.1) (some 33) r28.1) (some 34) r29.1) (some 9) r30.1) (some 35) r31.1) (some 36) r32.1) (some 37) r33.1) (some 38) r34.1) (some 39) r35.1), r35.2)) (
        bnd (oMv (R 0) r35.2) fun r36 =>
        bnd (oMv (R 7) r36.2) fun r37 =>
        bnd (oMv r30.1 r37.2) fun r38 =>
        bnd (oInvoke Tryz.prog call r36.1 "Swap" [r37.1, r38.1] r38.2) fun r39 =>
        bnd (oMv r30.1 r39.2) fun r40 =>
        bnd (oMv r40.1 r40.2) fun r41 =>
        some (X.normal, (rput (rput (rput (rput (rput (rput (rput (rput (rput (rput (rput (rput (rput (rput (rput (rput (rput (rput (rput (rput (rput (rput (rput (rput (rput (rput (rput (rput (rput (rput (rput (rput (rput (rput (rput (rput (rput (rput R (some 12) r4.1) (some 13) r5.1) (some 14) r6.1) (some 8) r7.1) (some 15) r8.1) (some 16) r9.1) (some 17) r10.1) (some 18) r11.1) (some 19) r12.1) (some 20) r13.1) (some 21) r14.1) (some 22) r15.1) (some 9) r16.1) (some 23) r17.1) (some 24) r18.1) (some 10) r19.1) (some 25) r20.1) (some 26) r21.1) (some 27) r22.1) (some 28) r23.1) (some 29) r24.1) (some 30) r25.1) (some 31) r26.1) (some 32) r27.1) (some 33) r28.1) (some 34) r29.1) (some 9) r30.1) (some 35) r31.1) (some 36) r32.1) (some 37) r33.1) (some 38) r34.1) (some 39) r35.1) (some 40) r36.1) (some 41) r37.1) (some 42) r38.1) (some 43) r39.1) (some 44) r40.1) (some 7) r41.1), r41.2))) (
      bnd (oMv (R 0) r28.2) fun r42 =>
      bnd (oMv r16.1 r42.2) fun r43 =>
      bnd (oMv (R 7) r43.2) fun r44 =>
      bnd (oInvoke Tryz.prog call r42.1 "Less" [r43.1, r44.1] r44.2) fun r45 =>
      bnd (oUn Tryz.prog .not r45.1 r45.2) fun r46 =>
      vIf r46.1 (
        some (X.exit 0, (rput (rput (rput (rput (rput (rput (rput (rput (rput (rput (rput (rput (rput (rput (rput (rput (rput (rput (rput (rput (rput (rput (rput (rput (rput (rput (rput (rput (rput (rput R (some 12) r4.1) (some 13) r5.1) (some 14) r6.1) (some 8) r7.1) (some 15) r8.1) (some 16) r9.1) (some 17) r10.1) (some 18) r11.1) (some 19) r12.1) (some 20) r13.1) (some 21) r14.1) (some 22) r15.1) (some 9) r16.1) (some 23) r17.1) (some 24) r18.1) (some 10) r19.1) (some 25) r20.1) (some 26) r21.1) (some 27) r22.1) (some 28) r23.1) (some 29) r24.1) (some 30) r25.1) (some 31) r26.1) (some 32) r27.1) (some 33) r28.1) (some 35) r42.1) (some 36) r43.1) (some 37) r44.1) (some 38) r45.1) (some 39) r46.1), r46.2)) (
        bnd (oMv (R 0) r46.2) fun r47 =>
        bnd (oMv (R 7) r47.2) fun r48 =>
        bnd (oMv r16.1 r48.2) fun r49 =>
        bnd (oInvoke Tryz.prog call r47.1 "Swap" [r48.1, r49.1] r49.2) fun r50 =>
        bnd (oMv r16.1 r50.2) fun r51 =>
        bnd (oMv r51.1 r51.2) fun r52 =>
        some (X.normal, (rput (rput (rput (rput (rput (rput (rput (rput (rput (rput (rput (rput (rput (rput (rput (rput (rput (rput (rput (rput (rput (rput (rput (rput (rput (rput (rput (rput (rput (rput (rput (rput (rput (rput (rput (rput R (some 12) r4.1) (some 13) r5.1) (some 14) r6.1) (some 8) r7.1) (some 15) r8.1) (some 16) r9.1) (some 17) r10.1) (some 18) r11.1) (some 19) r12.1) (some 20) r13.1) (some 21) r14.1) (some 22) r15.1) (some 9) r16.1) (some 23) r17.1) (some 24) r18.1) (some 10) r19.1) (some 25) r20.1) (some 26) r21.1) (some 27) r22.1) (some 28) r23.1) (some 29) r24.1) (some 30) r25.1) (some 31) r26.1) (some 32) r27.1) (some 33) r28.1) (some 35) r42.1) (some 36) r43.1) (some 37) r44.1) (some 38) r45.1) (some 39) r46.1) (some 40) r47.1) (some 41) r48.1) (some 42) r49.1) (some 43) r50.1) (some 44) r51.1) (some 7) r52.1), r52.2))))
noncomputable def containerheap_down (call : Eng.Callee) (x0 x1 x2 : Value) (W : AW) : Option (Value × AW) :=
  bnd (oMv (.bool false) W) fun r1 =>
  bnd (oMv x1 r1.2) fun r2 =>
  bnd (oMv r2.1 r2.2) fun r3 =>
  bnd (loopO (containerheap_down_L1 call) (rput (rput (rput (argGo 0 [x0, x1, x2] PlanTab.blank) (some 6) r1.1) (some 11) r2.1) (some 7) r3.1) r3.2) fun r53 =>
  kExit 0 r53.1 (
    bnd (oMv (r53.2.1 7) r53.2.2) fun r54 =>
    bnd (oMv (r53.2.1 1) r54.2) fun r55 =>
    bnd (oBin Tryz.prog .gtr 3 false false r54.1 r55.1 r55.2) fun r56 =>
    bnd (oMv r56.1 r56.2) fun r57 =>
    oRes Tryz.prog [(r57.1, none)] r57.2) (none)
theorem containerheap_down_eq (call : Eng.Callee) (x0 x1 x2 : Value) (W : AW) : kFun Tryz.prog call 48 (cod 79) (rss 79) [x0, x1, x2] W = containerheap_down call x0 x1 x2 W := by kernel_rfl
theorem containerheap_down_om {x0 x1 x2 : Value} {W : AW} {r : Value × AW} (h : containerheap_down omS x0 x1 x2 W = some r) : omS (.func (.func 79) #[] #[]) [x0, x1, x2] W = some (gc W r) := om_of (nt := 48) (n := 3) (by kernel_rfl) (by kernel_rfl) rfl ((containerheap_down_eq omS x0 x1 x2 W).trans h)
noncomputable def slices_Minint64int64_L1 (call : Eng.Callee) (R : Nat → Value) (W : AW) : Option LT :=
  bnd (oMv (R 4) W) fun r12 =>
  bnd (oMv (R 0) r12.2) fun r13 =>
  bnd (oBuiltin Tryz.prog .len #[139] 3 #[false] [r13.1] r13.2) fun r14 =>
  bnd (oBin Tryz.prog .lss 3 false false r12.1 r14.1 r14.2) fun r15 =>
  vIf r15.1 (
    bnd (oMv (R 3) r15.2) fun r16 =>
    bnd (oMv (R 0) r16.2) fun r17 =>
    bnd (oMv (R 4) r17.2) fun r18 =>
    bnd (ixS 1 r17.1 r18.1 r18.2) fun r19 =>
    bnd (ldC r19.1 r19.2) fun r20 =>
    bnd (oBuiltin Tryz.prog .min #[2, 2] 2 #[false, false] [r16.1, r20.1] r20.2) fun r21 =>
    bnd (oMv r21.1 r21.2) fun r22 =>
    bnd (oMv (R 4) r22.2) fun r23 =>
    bnd (oBin Tryz.prog .add 3 false true r23.1 (.int .i64 1) r23.2) fun r24 =>
    bnd (oMv r24.1 r24.2) fun r25 =>
    some (X.normal, (rput (rput (rput (rput (rput (rput (rput (rput (rput (rput (rput (rput (rput (rput R (some 12) r12.1) (some 13) r13.1) (some 14) r14.1) (some 15) r15.1) (some 18) r16.1) (some 19) r17.1) (some 20) r18.1) (some 21) r19.1) (some 22) r20.1) (some 23) r21.1) (some 3) r22.1) (some 16) r23.1) (some 17) r24.1) (some 4) r25.1), r25.2)) (
    some (X.exit 0, (rput (rput (rput (rput R (some 12) r12.1) (some 13) r13.1) (some 14) r14.1) (some 15) r15.1), r15.2))
noncomputable def slices_Minint64int64_L2 (call : Eng.Callee) (R : Nat → Value) (W : AW) : Option LT :=
  bnd (oMv (R 4) W) fun r34 =>
  bnd (oMv (R 0) r34.2) fun r35 =>
  bnd (oBuiltin Tryz.prog .len #[139] 3 #[false] [r35.1] r35.2) fun r36 =>
  bnd (oBin Tryz.prog .lss 3 false false r34.1 r36.1 r36.2) fun r37 =>
  vIf r37.1 (
    bnd (oMv (R 3) r37.2) fun r38 =>
    bnd (oMv (R 0) r38.2) fun r39 =>
    bnd (oMv (R 4) r39.2) fun r40 =>
    bnd (ixS 1 r39.1 r40.1 r40.2) fun r41 =>
    bnd (ldC r41.1 r41.2) fun r42 =>
    bnd (oBuiltin Tryz.prog .min #[2, 2] 2 #[false, false] [r38.1, r42.1] r42.2) fun r43 =>
    bnd (oMv r43.1 r43.2) fun r44 =>
    bnd (oMv (R 4) r44.2) fun r45 =>
    bnd (oBin Tryz.prog .add 3 false true r45.1 (.int .i64 1) r45.2) fun r46 =>
    bnd (oMv r46.1 r46.2) fun r47 =>
    some (X.normal, (rput (rput (rput (rput (rput (rput (rput (rput (rput (rput (rput (rput (rput (rput R (some 12) r34.1) (some 13) r35.1) (some 14) r36.1) (some 15) r37.1) (some 18) r38.1) (some 19) r39.1) (some 20) r40.1) (some 21) r41.1) (some 22) r42.1) (some 23) r43.1) (some 3) r44.1) (some 16) r45.1) (some 17) r46.1) (some 4) r47.1), r47.2)) (
    some (X.exit 0, (rput (rput (rput (rput R (some 12) r34.1) (some 13) r35.1) (some 14) r36.1) (some 15) r37.1), r37.2))
noncomputable def slices_Minint64int64 (call : Eng.Callee) (x0 : Value) (W : AW) : Option (Value × AW) :=
  bnd (oMv (.int .i64 0) W) fun r1 =>
  bnd (oMv x0 r1.2) fun r2 =>
  bnd (oBuiltin Tryz.prog .len #[139] 3 #[false] [r2.1] r2.2) fun r3 =>
  bnd (oBin Tryz.prog .lss 3 false true r3.1 (.int .i64 1) r3.2) fun r4 =>
  vIf r4.1 (
    bnd (oMkIface Tryz.prog 9 (strV [115, 108, 105, 99, 101, 115, 46, 77, 105, 110, 58, 32, 101, 109, 112, 116, 121, 32, 108, 105, 115, 116]) r4.2) fun r5 =>
    bnd ((none : Option (Value × AW))) fun r6 =>
    bnd (oMv x0 r6.2) fun r7 =>
    bnd (ixS 1 r7.1 (.int .i64 0) r7.2) fun r8 =>
    bnd (ldC r8.1 r8.2) fun r9 =>
    bnd (oMv r9.1 r9.2) fun r10 =>
    bnd (oMv (.int .i64 1) r10.2) fun r11 =>
    bnd (loopO (slices_Minint64int64_L1 call) (rput (rput (rput (rput (rput (rput (rput (rput (rput (rput (argGo 0 [x0] PlanTab.blank) (some 2) r1.1) (some 5) r2.1) (some 6) r3.1) (some 7) r4.1) (some 8) r5.1) (some 9) r7.1) (some 10) r8.1) (some 11) r9.1) (some 3) r10.1) (some 4) r11.1) r11.2) fun r26 =>
    kExit 0 r26.1 (
      bnd (oMv (r26.2.1 3) r26.2.2) fun r27 =>
      bnd (oMv r27.1 r27.2) fun r28 =>
      oRes Tryz.prog [(r28.1, none)] r28.2) (none)) (
    bnd (oMv x0 r4.2) fun r29 =>
    bnd (ixS 1 r29.1 (.int .i64 0) r29.2) fun r30 =>
    bnd (ldC r30.1 r30.2) fun r31 =>
    bnd (oMv r31.1 r31.2) fun r32 =>
    bnd (oMv (.int .i64 1) r32.2) fun r33 =>
    bnd (loopO (slices_Minint64int64_L2 call) (rput (rput (rput (rput (rput (rput (rput (rput (rput (argGo 0 [x0] PlanTab.blank) (some 2) r1.1) (some 5) r2.1) (some 6) r3.1) (some 7) r4.1) (some 9) r29.1) (some 10) r30.1) (some 11) r31.1) (some 3) r32.1) (some 4) r33.1) r33.2) fun r48 =>
    kExit 0 r48.1 (
      bnd (oMv (r48.2.1 3) r48.2.2) fun r49 =>
      bnd (oMv r49.1 r49.2) fun r50 =>
      oRes Tryz.prog [(r50.1, none)] r50.2) (none))
theorem slices_Minint64int64_eq (call : Eng.Callee) (x0 : Value) (W : AW) : kFun Tryz.prog call 25 (cod 80) (rss 80) [x0] W = slices_Minint64int64 call x0 W := by kernel_rfl
theorem slices_Minint64int64_om {x0 : Value} {W : AW} {r : Value × AW} (h : slices_Minint64int64 omS x0 W = some r) : omS (.func (.func 80) #[] #[]) [x0] W = some (gc W r) := om_of (nt := 25) (n := 1) (by kernel_rfl) (by kernel_rfl) rfl ((slices_Minint64int64_eq omS x0 W).trans h)
noncomputable def heaps_pileapi_HoEntry_Len (call : Eng.Callee) (x0 : Value) (W : AW) : Option (Value × AW) :=
  bnd (oMv (.int .i64 0) W) fun r1 =>
  bnd (oMv x0 r1.2) fun r2 =>
  bnd (oNilCheck r2.1 r2.2) fun r3 =>
  bnd (faO 0 r3.1 r3.2) fun r4 =>
  bnd (ldC r4.1 r4.2) fun r5 =>
  bnd (oBuiltin Tryz.prog .len #[99] 3 #[false] [r5.1] r5.2) fun r6 =>
  bnd (oMv r6.1 r6.2) fun r7 =>
  oRes Tryz.prog [(r7.1, none)] r7.2
theorem heaps_pileapi_HoEntry_Len_eq (call : Eng.Callee) (x0 : Value) (W : AW) : kFun Tryz.prog call 8 (cod 116) (rss 116) [x0] W = heaps_pileapi_HoEntry_Len call x0 W := by kernel_rfl
theorem heaps_pileapi_HoEntry_Len_om {x0 : Value} {W : AW} {r : Value × AW} (h : heaps_pileapi_HoEntry_Len omS x0 W = some r) : omS (.func (.func 116) #[] #[]) [x0] W = some (gc W r) := om_of (nt := 8) (n := 1) (by kernel_rfl) (by kernel_rfl) rfl ((heaps_pileapi_HoEntry_Len_eq omS x0 W).trans h)
noncomputable def heaps_pileapi_HoEntry_Less (call : Eng.Callee) (x0 x1 x2 : Value) (W : AW) : Option (Value × AW) :=
  bnd (oMv (.bool false) W) fun r1 =>
  bnd (oMv x0 r1.2) fun r2 =>
  bnd (oMv x0 r2.2) fun r3 =>
  bnd (oNilCheck r3.1 r3.2) fun r4 =>
  bnd (faO 0 r4.1 r4.2) fun r5 =>
  bnd (ldC r5.1 r5.2) fun r6 =>
  bnd (oMv x1 r6.2) fun r7 =>
  bnd (ixS 1 r6.1 r7.1 r7.2) fun r8 =>
  bnd (ldC r8.1 r8.2) fun r9 =>
  bnd (oMv x0 r9.2) fun r10 =>
  bnd (oNilCheck r10.1 r10.2) fun r11 =>
  bnd (faO 0 r11.1 r11.2) fun r12 =>
  bnd (ldC r12.1 r12.2) fun r13 =>
  bnd (oMv x2 r13.2) fun r14 =>
  bnd (ixS 1 r13.1 r14.1 r14.2) fun r15 =>
  bnd (ldC r15.1 r15.2) fun r16 =>
  bnd (call (fnV 65) [r2.1, r9.1, r16.1] r16.2) fun r17 =>
  bnd (oMv r17.1 r17.2) fun r18 =>
  oRes Tryz.prog [(r18.1, none)] r18.2
theorem heaps_pileapi_HoEntry_Less_eq (call : Eng.Callee) (x0 x1 x2 : Value) (W : AW) : kFun Tryz.prog call 23 (cod 117) (rss 117) [x0, x1, x2] W = heaps_pileapi_HoEntry_Less call x0 x1 x2 W := by kernel_rfl
theorem heaps_pileapi_HoEntry_Less_om {x0 x1 x2 : Value} {W : AW} {r : Value × AW} (h : heaps_pileapi_HoEntry_Less omS x0 x1 x2 W = some r) : omS (.func (.func 117) #[] #[]) [x0, x1, x2] W = some (gc W r) := om_of (nt := 23) (n := 3) (by kernel_rfl) (by kernel_rfl) rfl ((heaps_pileapi_HoEntry_Less_eq omS x0 x1 x2 W).trans h)
noncomputable def heaps_pileapi_HoEntry_Pop (call : Eng.Callee) (x0 : Value) (W : AW) : Option (Value × AW) :=
  bnd (oMv .nilIface W) fun r1 =>
  bnd (oMv x0 r1.2) fun r2 =>
  bnd (oNilCheck r2.1 r2.2) fun r3 =>
  bnd (faO 0 r3.1 r3.2) fun r4 =>
  bnd (ldC r4.1 r4.2) fun r5 =>
  bnd (oBuiltin Tryz.prog .len #[99] 3 #[false] [r5.1] r5.2) fun r6 =>
  bnd (oBin Tryz.prog .sub 3 false true r6.1 (.int .i64 1) r6.2) fun r7 =>
  bnd (oMv r7.1 r7.2) fun r8 =>
  bnd (oMv x0 r8.2) fun r9 =>
  bnd (oNilCheck r9.1 r9.2) fun r10 =>
  bnd (faO 0 r10.1 r10.2) fun r11 =>
  bnd (ldC r11.1 r11.2) fun r12 =>
  bnd (oMv r8.1 r12.2) fun r13 =>
  bnd (ixS 1 r12.1 r13.1 r13.2) fun r14 =>
  bnd (ldC r14.1 r14.2) fun r15 =>
  bnd (oMv r15.1 r15.2) fun r16 =>
  bnd (oMv x0 r16.2) fun r17 =>
  bnd (oNilCheck r17.1 r17.2) fun r18 =>
  bnd (faO 0 r18.1 r18.2) fun r19 =>
  bnd (ldC r19.1 r19.2) fun r20 =>
  bnd (oMv r8.1 r20.2) fun r21 =>
  bnd (ixS 1 r20.1 r21.1 r21.2) fun r22 =>
  bnd (stV 1 r22.1 (.pointer none) r22.2) fun r23 =>
  bnd (oMv x0 r23.2) fun r24 =>
  bnd (oMv x0 r24.2) fun r25 =>
  bnd (oNilCheck r25.1 r25.2) fun r26 =>
  bnd (faO 0 r26.1 r26.2) fun r27 =>
  bnd (ldC r27.1 r27.2) fun r28 =>
  bnd (oMv r8.1 r28.2) fun r29 =>
  bnd (oSlice Tryz.prog 99 r28.1 none (some r29.1) none r29.2) fun r30 =>
  bnd (oNilCheck r24.1 r30.2) fun r31 =>
  bnd (faO 0 r31.1 r31.2) fun r32 =>
  bnd (stV 1 r32.1 r30.1 r32.2) fun r33 =>
  bnd (oMv r16.1 r33.2) fun r34 =>
  bnd (oMkIface Tryz.prog 106 r34.1 r34.2) fun r35 =>
  bnd (oMv r35.1 r35.2) fun r36 =>
  oRes Tryz.prog [(r36.1, none)] r36.2
theorem heaps_pileapi_HoEntry_Pop_eq (call : Eng.Callee) (x0 : Value) (W : AW) : kFun Tryz.prog call 35 (cod 118) (rss 118) [x0] W = heaps_pileapi_HoEntry_Pop call x0 W := by kernel_rfl
theorem heaps_pileapi_HoEntry_Pop_om {x0 : Value} {W : AW} {r : Value × AW} (h : heaps_pileapi_HoEntry_Pop omS x0 W = some r) : omS (.func (.func 118) #[] #[]) [x0] W = some (gc W r) := om_of (nt := 35) (n := 1) (by kernel_rfl) (by kernel_rfl) rfl ((heaps_pileapi_HoEntry_Pop_eq omS x0 W).trans h)
noncomputable def heaps_pileapi_HoEntry_Push (call : Eng.Callee) (x0 x1 : Value) (W : AW) : Option (Value × AW) :=
  bnd (oMv x1 W) fun r1 =>
  bnd (oAssert Tryz.prog r1.1 106 false r1.2) fun r2 =>
  bnd (oMv r2.1 r2.2) fun r3 =>
  bnd (oMv r3.1 r3.2) fun r4 =>
  bnd (oMv x0 r4.2) fun r5 =>
  bnd (oNilCheck r5.1 r5.2) fun r6 =>
  bnd (faO 0 r6.1 r6.2) fun r7 =>
  bnd (ldC r7.1 r7.2) fun r8 =>
  bnd (oBuiltin Tryz.prog .len #[99] 3 #[false] [r8.1] r8.2) fun r9 =>
  bnd (oNilCheck r4.1 r9.2) fun r10 =>
  bnd (faO 3 r10.1 r10.2) fun r11 =>
  bnd (stV 1 r11.1 r9.1 r11.2) fun r12 =>
  bnd (oMv x0 r12.2) fun r13 =>
  bnd (oMv x0 r13.2) fun r14 =>
  bnd (oNilCheck r14.1 r14.2) fun r15 =>
  bnd (faO 0 r15.1 r15.2) fun r16 =>
  bnd (ldC r16.1 r16.2) fun r17 =>
  bnd (oMv r3.1 r17.2) fun r18 =>
  bnd (oBuildSlice Tryz.prog 99 1 [(0, r18.1)] r18.2) fun r19 =>
  bnd (aAppend Tryz.prog r19.2 #[99, 99] r17.1 r19.1) fun r20 =>
  bnd (oNilCheck r13.1 r20.2) fun r21 =>
  bnd (faO 0 r21.1 r21.2) fun r22 =>
  bnd (stV 1 r22.1 r20.1 r22.2) fun r23 =>
  oRes Tryz.prog [] r23.2
theorem heaps_pileapi_HoEntry_Push_eq (call : Eng.Callee) (x0 x1 : Value) (W : AW) : kFun Tryz.prog call 25 (cod 119) (rss 119) [x0, x1] W = heaps_pileapi_HoEntry_Push call x0 x1 W := by kernel_rfl
theorem heaps_pileapi_HoEntry_Push_om {x0 x1 : Value} {W : AW} {r : Value × AW} (h : heaps_pileapi_HoEntry_Push omS x0 x1 W = some r) : omS (.func (.func 119) #[] #[]) [x0, x1] W = some (gc W r) := om_of (nt := 25) (n := 2) (by kernel_rfl) (by kernel_rfl) rfl ((heaps_pileapi_HoEntry_Push_eq omS x0 x1 W).trans h)
noncomputable def heaps_pileapi_HoEntry_Swap (call : Eng.Callee) (x0 x1 x2 : Value) (W : AW) : Option (Value × AW) :=
  bnd (oMv x0 W) fun r1 =>
  bnd (oNilCheck r1.1 r1.2) fun r2 =>
  bnd (faO 0 r2.1 r2.2) fun r3 =>
  bnd (ldC r3.1 r3.2) fun r4 =>
  bnd (oMv x1 r4.2) fun r5 =>
  bnd (oMv x0 r5.2) fun r6 =>
  bnd (oNilCheck r6.1 r6.2) fun r7 =>
  bnd (faO 0 r7.1 r7.2) fun r8 =>
  bnd (ldC r8.1 r8.2) fun r9 =>
  bnd (oMv x2 r9.2) fun r10 =>
  bnd (oMv x0 r10.2) fun r11 =>
  bnd (oNilCheck r11.1 r11.2) fun r12 =>
  bnd (faO 0 r12.1 r12.2) fun r13 =>
  bnd (ldC r13.1 r13.2) fun r14 =>
  bnd (oMv x2 r14.2) fun r15 =>
  bnd (ixS 1 r14.1 r15.1 r15.2) fun r16 =>
  bnd (ldC r16.1 r16.2) fun r17 =>
  bnd (oMv x0 r17.2) fun r18 =>
  bnd (oNilCheck r18.1 r18.2) fun r19 =>
  bnd (faO 0 r19.1 r19.2) fun r20 =>
  bnd (ldC r20.1 r20.2) fun r21 =>
  bnd (oMv x1 r21.2) fun r22 =>
  bnd (ixS 1 r21.1 r22.1 r22.2) fun r23 =>
  bnd (ldC r23.1 r23.2) fun r24 =>
  bnd (ixS 1 r4.1 r5.1 r24.2) fun r25 =>
  bnd (stV 1 r25.1 r17.1 r25.2) fun r26 =>
  bnd (ixS 1 r9.1 r10.1 r26.2) fun r27 =>
  bnd (stV 1 r27.1 r24.1 r27.2) fun r28 =>
  bnd (oMv x0 r28.2) fun r29 =>
  bnd (oNilCheck r29.1 r29.2) fun r30 =>
  bnd (faO 0 r30.1 r30.2) fun r31 =>
  bnd (ldC r31.1 r31.2) fun r32 =>
  bnd (oMv x1 r32.2) fun r33 =>
  bnd (ixS 1 r32.1 r33.1 r33.2) fun r34 =>
  bnd (ldC r34.1 r34.2) fun r35 =>
  bnd (oMv x0 r35.2) fun r36 =>
  bnd (oNilCheck r36.1 r36.2) fun r37 =>
  bnd (faO 0 r37.1 r37.2) fun r38 =>
  bnd (ldC r38.1 r38.2) fun r39 =>
  bnd (oMv x2 r39.2) fun r40 =>
  bnd (ixS 1 r39.1 r40.1 r40.2) fun r41 =>
  bnd (ldC r41.1 r41.2) fun r42 =>
  bnd (oMv x1 r42.2) fun r43 =>
  bnd (oMv x2 r43.2) fun r44 =>
  bnd (oNilCheck r35.1 r44.2) fun r45 =>
  bnd (faO 3 r45.1 r45.2) fun r46 =>
  bnd (stV 1 r46.1 r43.1 r46.2) fun r47 =>
  bnd (oNilCheck r42.1 r47.2) fun r48 =>
  bnd (faO 3 r48.1 r48.2) fun r49 =>
  bnd (stV 1 r49.1 r44.1 r49.2) fun r50 =>
  oRes Tryz.prog [] r50.2
theorem heaps_pileapi_HoEntry_Swap_eq (call : Eng.Callee) (x0 x1 x2 : Value) (W : AW) : kFun Tryz.prog call 52 (cod 120) (rss 120) [x0, x1, x2] W = heaps_pileapi_HoEntry_Swap call x0 x1 x2 W := by kernel_rfl
theorem heaps_pileapi_HoEntry_Swap_om {x0 x1 x2 : Value} {W : AW} {r : Value × AW} (h : heaps_pileapi_HoEntry_Swap omS x0 x1 x2 W = some r) : omS (.func (.func 120) #[] #[]) [x0, x1, x2] W = some (gc W r) := om_of (nt := 52) (n := 3) (by kernel_rfl) (by kernel_rfl) rfl ((heaps_pileapi_HoEntry_Swap_eq omS x0 x1 x2 W).trans h)
end Go.Proofs.YtkpgmabebjmahaaGreat
