/- Texts of the program told in continuations: written by a program, shown by the kernel. -/
import Derived.Test.YtfcfglpkgcheiaaGreatDoorSBase
import Derived.KernelRfl
namespace Go.Proofs.YtfcfglpkgcheiaaGreatDoor
open Go Go.Eng
set_option linter.unusedVariables false
set_option maxRecDepth 100000
noncomputable def law15_VenueSides (call : Eng.Callee) (x0 x1 x2 : Value) (W : AW) : Option (Value × AW) :=
  bnd (oBox x0 W) fun r1 =>
  bnd (oMv (.bool false) r1.2) fun r2 =>
  bnd (ldA 4 r1.1 r2.2) fun r3 =>
  bnd (call (fnV 11) [r3.1] r3.2) fun r4 =>
  bnd (oMv r4.1 r4.2) fun r5 =>
  bnd (bIf (wnt r5.1 false) (oMv x2 r5.2) (some (undef, r5.2))) fun r6 =>
  bnd (bIf (wnt r5.1 false) (oBuiltin Tryz.prog .len #[9] 3 #[false] [r6.1] r6.2) (some (undef, r6.2))) fun r7 =>
  bnd (bIf (wnt r5.1 false) (oBin Tryz.prog .gtr 3 false true r7.1 (.int .i64 100) r7.2) (some (undef, r7.2))) fun r8 =>
  bnd (oPick r5.1 (.bool true) r8.1 r8.2) fun r9 =>
  vIf r9.1 (
    bnd (call (fnV 6) [] r9.2) fun r10 =>
    bnd (oMv r10.1 r10.2) fun r11 =>
    oRes Tryz.prog [(r11.1, none)] r11.2) (
    bnd (ldA 4 r1.1 r9.2) fun r12 =>
    bnd (oMv x1 r12.2) fun r13 =>
    bnd (call (fnV 20) [r12.1, r13.1] r13.2) fun r14 =>
    bnd (oMv r14.1 r14.2) fun r15 =>
    bnd (oExtract r15.1 0 r15.2) fun r16 =>
    bnd (oExtract r15.1 1 r16.2) fun r17 =>
    bnd (oExtract r15.1 2 r17.2) fun r18 =>
    bnd (oMv r16.1 r18.2) fun r19 =>
    bnd (oMv r17.1 r19.2) fun r20 =>
    bnd (oMv r18.1 r20.2) fun r21 =>
    bnd (ldA 4 r1.1 r21.2) fun r22 =>
    bnd (oMv x1 r22.2) fun r23 =>
    bnd (call (fnV 21) [r22.1, r23.1] r23.2) fun r24 =>
    bnd (oMv r24.1 r24.2) fun r25 =>
    bnd (oExtract r25.1 0 r25.2) fun r26 =>
    bnd (oExtract r25.1 1 r26.2) fun r27 =>
    bnd (oExtract r25.1 2 r27.2) fun r28 =>
    bnd (oMv r26.1 r28.2) fun r29 =>
    bnd (oMv r27.1 r29.2) fun r30 =>
    bnd (oMv r28.1 r30.2) fun r31 =>
    bnd (ldA 4 r1.1 r31.2) fun r32 =>
    bnd (oMv x1 r32.2) fun r33 =>
    bnd (call (fnV 22) [r32.1, r33.1] r33.2) fun r34 =>
    bnd (oMv r34.1 r34.2) fun r35 =>
    bnd (oExtract r35.1 0 r35.2) fun r36 =>
    bnd (oExtract r35.1 1 r36.2) fun r37 =>
    bnd (oMv r36.1 r37.2) fun r38 =>
    bnd (oMv r37.1 r38.2) fun r39 =>
    bnd (ldA 4 r1.1 r39.2) fun r40 =>
    bnd (oMv x1 r40.2) fun r41 =>
    bnd (call (fnV 23) [r40.1, r41.1] r41.2) fun r42 =>
    bnd (oMv r42.1 r42.2) fun r43 =>
    bnd (oExtract r43.1 0 r43.2) fun r44 =>
    bnd (oExtract r43.1 1 r44.2) fun r45 =>
    bnd (oMv r44.1 r45.2) fun r46 =>
    bnd (oMv r45.1 r46.2) fun r47 =>
    bnd (oMv r19.1 r47.2) fun r48 =>
    bnd (oMv r29.1 r48.2) fun r49 =>
    bnd (oBin Tryz.prog .neq 3 false false r48.1 r49.1 r49.2) fun r50 =>
    bnd (oMv r50.1 r50.2) fun r51 =>
    bnd (bIf (wnt r51.1 false) (oMv r20.1 r51.2) (some (undef, r51.2))) fun r52 =>
    bnd (bIf (wnt r51.1 false) (oMv r30.1 r52.2) (some (undef, r52.2))) fun r53 =>
    bnd (bIf (wnt r51.1 false) (oBin Tryz.prog .neq 3 false false r52.1 r53.1 r53.2) (some (undef, r53.2))) fun r54 =>
    bnd (oPick r51.1 (.bool true) r54.1 r54.2) fun r55 =>
    bnd (oMv r55.1 r55.2) fun r56 =>
    bnd (bIf (wnt r56.1 false) (oMv r21.1 r56.2) (some (undef, r56.2))) fun r57 =>
    bnd (bIf (wnt r56.1 false) (oMv r31.1 r57.2) (some (undef, r57.2))) fun r58 =>
    bnd (bIf (wnt r56.1 false) (oBin Tryz.prog .neq 29 false false r57.1 r58.1 r58.2) (some (undef, r58.2))) fun r59 =>
    bnd (oPick r56.1 (.bool true) r59.1 r59.2) fun r60 =>
    bnd (oMv r60.1 r60.2) fun r61 =>
    bnd (bIf (wnt r61.1 false) (oMv r38.1 r61.2) (some (undef, r61.2))) fun r62 =>
    bnd (bIf (wnt r61.1 false) (oMv r46.1 r62.2) (some (undef, r62.2))) fun r63 =>
    bnd (bIf (wnt r61.1 false) (oBin Tryz.prog .neq 3 false false r62.1 r63.1 r63.2) (some (undef, r63.2))) fun r64 =>
    bnd (oPick r61.1 (.bool true) r64.1 r64.2) fun r65 =>
    bnd (oMv r65.1 r65.2) fun r66 =>
    bnd (bIf (wnt r66.1 false) (oMv r39.1 r66.2) (some (undef, r66.2))) fun r67 =>
    bnd (bIf (wnt r66.1 false) (oMv r47.1 r67.2) (some (undef, r67.2))) fun r68 =>
    bnd (bIf (wnt r66.1 false) (oBin Tryz.prog .neq 29 false false r67.1 r68.1 r68.2) (some (undef, r68.2))) fun r69 =>
    bnd (oPick r66.1 (.bool true) r69.1 r69.2) fun r70 =>
    vIf r70.1 (
      bnd (oMv (.bool false) r70.2) fun r71 =>
      oRes Tryz.prog [(r71.1, none)] r71.2) (
      bnd (ldA 4 r1.1 r70.2) fun r72 =>
      bnd (oMv x1 r72.2) fun r73 =>
      bnd (call (fnV 24) [r72.1, r73.1] r73.2) fun r74 =>
      bnd (oMv r74.1 r74.2) fun r75 =>
      bnd (oExtract r75.1 0 r75.2) fun r76 =>
      bnd (oExtract r75.1 1 r76.2) fun r77 =>
      bnd (oMv r76.1 r77.2) fun r78 =>
      bnd (oMv r77.1 r78.2) fun r79 =>
      bnd (ldA 4 r1.1 r79.2) fun r80 =>
      bnd (oMv x1 r80.2) fun r81 =>
      bnd (call (fnV 25) [r80.1, r81.1] r81.2) fun r82 =>
      bnd (oMv r82.1 r82.2) fun r83 =>
      bnd (oExtract r83.1 0 r83.2) fun r84 =>
      bnd (oExtract r83.1 1 r84.2) fun r85 =>
      bnd (oMv r84.1 r85.2) fun r86 =>
      bnd (oMv r85.1 r86.2) fun r87 =>
      bnd (ldA 4 r1.1 r87.2) fun r88 =>
      bnd (oMv x1 r88.2) fun r89 =>
      bnd (call (fnV 26) [r88.1, r89.1] r89.2) fun r90 =>
      bnd (oMv r90.1 r90.2) fun r91 =>
      bnd (oExtract r91.1 0 r91.2) fun r92 =>
      bnd (oExtract r91.1 1 r92.2) fun r93 =>
      bnd (oMv r92.1 r93.2) fun r94 =>
      bnd (oMv r93.1 r94.2) fun r95 =>
      bnd (ldA 4 r1.1 r95.2) fun r96 =>
      bnd (oMv x1 r96.2) fun r97 =>
      bnd (call (fnV 27) [r96.1, r97.1] r97.2) fun r98 =>
      bnd (oMv r98.1 r98.2) fun r99 =>
      bnd (oExtract r99.1 0 r99.2) fun r100 =>
      bnd (oExtract r99.1 1 r100.2) fun r101 =>
      bnd (oMv r100.1 r101.2) fun r102 =>
      bnd (oMv r101.1 r102.2) fun r103 =>
      bnd (ldA 4 r1.1 r103.2) fun r104 =>
      bnd (oMv x2 r104.2) fun r105 =>
      bnd (call (fnV 28) [r104.1, r105.1] r105.2) fun r106 =>
      bnd (oMv r106.1 r106.2) fun r107 =>
      bnd (oExtract r107.1 0 r107.2) fun r108 =>
      bnd (oExtract r107.1 1 r108.2) fun r109 =>
      bnd (oMv r108.1 r109.2) fun r110 =>
      bnd (oMv r109.1 r110.2) fun r111 =>
      bnd (ldA 4 r1.1 r111.2) fun r112 =>
      bnd (oMv x2 r112.2) fun r113 =>
      bnd (call (fnV 29) [r112.1, r113.1] r113.2) fun r114 =>
      bnd (oMv r114.1 r114.2) fun r115 =>
      bnd (oExtract r115.1 0 r115.2) fun r116 =>
      bnd (oExtract r115.1 1 r116.2) fun r117 =>
      bnd (oMv r116.1 r117.2) fun r118 =>
      bnd (oMv r117.1 r118.2) fun r119 =>
      bnd (oMv r78.1 r119.2) fun r120 =>
      bnd (oMv r86.1 r120.2) fun r121 =>
      bnd (call (fnV 30) [r120.1, r121.1] r121.2) fun r122 =>
      bnd (oMv r122.1 r122.2) fun r123 =>
      bnd (bIf (wnt r123.1 true) (oMv r79.1 r123.2) (some (undef, r123.2))) fun r124 =>
      bnd (bIf (wnt r123.1 true) (oMv r87.1 r124.2) (some (undef, r124.2))) fun r125 =>
      bnd (bIf (wnt r123.1 true) (oBin Tryz.prog .eql 29 false false r124.1 r125.1 r125.2) (some (undef, r125.2))) fun r126 =>
      bnd (oPick r123.1 r126.1 (.bool false) r126.2) fun r127 =>
      bnd (oMv r127.1 r127.2) fun r128 =>
      bnd (bIf (wnt r128.1 true) (oMv r94.1 r128.2) (some (undef, r128.2))) fun r129 =>
      bnd (bIf (wnt r128.1 true) (oMv r102.1 r129.2) (some (undef, r129.2))) fun r130 =>
      bnd (bIf (wnt r128.1 true) (oBin Tryz.prog .eql 3 false false r129.1 r130.1 r130.2) (some (undef, r130.2))) fun r131 =>
      bnd (oPick r128.1 r131.1 (.bool false) r131.2) fun r132 =>
      bnd (oMv r132.1 r132.2) fun r133 =>
      bnd (bIf (wnt r133.1 true) (oMv r95.1 r133.2) (some (undef, r133.2))) fun r134 =>
      bnd (bIf (wnt r133.1 true) (oMv r103.1 r134.2) (some (undef, r134.2))) fun r135 =>
      bnd (bIf (wnt r133.1 true) (oBin Tryz.prog .eql 29 false false r134.1 r135.1 r135.2) (some (undef, r135.2))) fun r136 =>
      bnd (oPick r133.1 r136.1 (.bool false) r136.2) fun r137 =>
      bnd (oMv r137.1 r137.2) fun r138 =>
      bnd (bIf (wnt r138.1 true) (oMv r110.1 r138.2) (some (undef, r138.2))) fun r139 =>
      bnd (bIf (wnt r138.1 true) (oMv r118.1 r139.2) (some (undef, r139.2))) fun r140 =>
      bnd (bIf (wnt r138.1 true) (oBin Tryz.prog .eql 3 false false r139.1 r140.1 r140.2) (some (undef, r140.2))) fun r141 =>
      bnd (oPick r138.1 r141.1 (.bool false) r141.2) fun r142 =>
      bnd (oMv r142.1 r142.2) fun r143 =>
      bnd (bIf (wnt r143.1 true) (oMv r111.1 r143.2) (some (undef, r143.2))) fun r144 =>
      bnd (bIf (wnt r143.1 true) (oMv r119.1 r144.2) (some (undef, r144.2))) fun r145 =>
      bnd (bIf (wnt r143.1 true) (oBin Tryz.prog .eql 29 false false r144.1 r145.1 r145.2) (some (undef, r145.2))) fun r146 =>
      bnd (oPick r143.1 r146.1 (.bool false) r146.2) fun r147 =>
      bnd (oMv r147.1 r147.2) fun r148 =>
      bnd (bIf (wnt r148.1 true) (call (fnV 6) [] r148.2) (some (undef, r148.2))) fun r149 =>
      bnd (oPick r148.1 r149.1 (.bool false) r149.2) fun r150 =>
      bnd (oMv r150.1 r150.2) fun r151 =>
      oRes Tryz.prog [(r151.1, none)] r151.2))
theorem law15_VenueSides_eq (call : Eng.Callee) (x0 x1 x2 : Value) (W : AW) : kFun Tryz.prog call 147 (cod 5) (rss 5) [x0, x1, x2] W = law15_VenueSides call x0 x1 x2 W := by kernel_rfl
theorem law15_VenueSides_om {x0 x1 x2 : Value} {W : AW} {r : Value × AW} (h : law15_VenueSides omS x0 x1 x2 W = some r) : omS (.func (.func 5) #[] #[]) [x0, x1, x2] W = some (gc W r) := om_of (nt := 147) (n := 3) (by kernel_rfl) (by kernel_rfl) rfl ((law15_VenueSides_eq omS x0 x1 x2 W).trans h)
noncomputable def venue_Check_L1_L2 (call : Eng.Callee) (R : Nat → Value) (W : AW) : Option LT :=
  bnd (oBin Tryz.prog .lss 3 false false (R 55) (R 54) W) fun r63 =>
  vIf r63.1 (
    bnd (ixS 1 (R 53) (R 55) r63.2) fun r64 =>
    bnd (ldC r64.1 r64.2) fun r65 =>
    bnd (oMv r65.1 r65.2) fun r66 =>
    bnd (oMv (R 4) r66.2) fun r67 =>
    bnd (oMv r66.1 r67.2) fun r68 =>
    bnd (oBin Tryz.prog .add 3 false false r67.1 r68.1 r68.2) fun r69 =>
    bnd (oMv r69.1 r69.2) fun r70 =>
    bnd (oBin Tryz.prog .add 3 false true (R 55) (.int .i64 1) r70.2) fun r71 =>
    bnd (oMv r71.1 r71.2) fun r72 =>
    some (X.normal, (rput (rput (rput (rput (rput (rput (rput (rput (rput (rput R (some 56) r63.1) (some 57) r64.1) (some 58) r65.1) (some 9) r66.1) (some 59) r67.1) (some 60) r68.1) (some 61) r69.1) (some 4) r70.1) (some 62) r71.1) (some 55) r72.1), r72.2)) (
    some (X.exit 3, (rput R (some 56) r63.1), r63.2))
noncomputable def venue_Check_L1 (call : Eng.Callee) (R : Nat → Value) (W : AW) : Option LT :=
  bnd (oBin Tryz.prog .lss 3 false false (R 37) (R 36) W) fun r39 =>
  vIf r39.1 (
    bnd (oMv (R 37) r39.2) fun r40 =>
    bnd (ixS 3 (R 35) (R 37) r40.2) fun r41 =>
    bnd (ldA 3 r41.1 r41.2) fun r42 =>
    bnd (oAlloc Tryz.prog 28 r42.2) fun r43 =>
    bnd (oMv r40.1 r43.2) fun r44 =>
    bnd (stV 3 r43.1 r42.1 r44.2) fun r45 =>
    bnd (ldA 3 r43.1 r45.2) fun r46 =>
    bnd (faO 3 (R 1) r46.2) fun r47 =>
    bnd (ldC r47.1 r47.2) fun r48 =>
    bnd (oMv r44.1 r48.2) fun r49 =>
    bnd (oSlice Tryz.prog 22 r48.1 none (some r49.1) none r49.2) fun r50 =>
    bnd (call (fnV 35) [r46.1, r50.1] r50.2) fun r51 =>
    bnd (oMv r51.1 r51.2) fun r52 =>
    bnd (oMv r52.1 r52.2) fun r53 =>
    bnd (oBin Tryz.prog .neq 29 false true r53.1 (.int .i64 0) r53.2) fun r54 =>
    vIf r54.1 (
      bnd (oMv r44.1 r54.2) fun r55 =>
      bnd (oMv r52.1 r55.2) fun r56 =>
      bnd (oMv r55.1 r56.2) fun r57 =>
      bnd (oMv r56.1 r57.2) fun r58 =>
      some (X.ret, (rput (rput (rput (rput (rput (rput (rput (rput (rput (rput (rput (rput (rput (rput (rput (rput (rput (rput (rput R (some 38) r39.1) (some 39) r40.1) (some 40) r41.1) (some 41) r42.1) (some 6) r43.1) (some 5) r44.1) (some 42) r46.1) (some 43) r47.1) (some 44) r48.1) (some 45) r49.1) (some 46) r50.1) (some 47) r51.1) (some 7) r52.1) (some 48) r53.1) (some 49) r54.1) (some 50) r55.1) (some 51) r56.1) (some 2) r57.1) (some 3) r58.1), r58.2)) (
      bnd (faO 1 r43.1 r54.2) fun r59 =>
      bnd (ldC r59.1 r59.2) fun r60 =>
      bnd (oBuiltin Tryz.prog .len #[26] 3 #[false] [r60.1] r60.2) fun r61 =>
      bnd (oMv (.int .i64 0) r61.2) fun r62 =>
      bnd (loopO (venue_Check_L1_L2 call) (rput (rput (rput (rput (rput (rput (rput (rput (rput (rput (rput (rput (rput (rput (rput (rput (rput (rput (rput R (some 38) r39.1) (some 39) r40.1) (some 40) r41.1) (some 41) r42.1) (some 6) r43.1) (some 5) r44.1) (some 42) r46.1) (some 43) r47.1) (some 44) r48.1) (some 45) r49.1) (some 46) r50.1) (some 47) r51.1) (some 7) r52.1) (some 48) r53.1) (some 49) r54.1) (some 52) r59.1) (some 53) r60.1) (some 54) r61.1) (some 55) r62.1) r62.2) fun r73 =>
      kExit 3 r73.1 (
        bnd (oBin Tryz.prog .add 3 false true (r73.2.1 37) (.int .i64 1) r73.2.2) fun r74 =>
        bnd (oMv r74.1 r74.2) fun r75 =>
        some (X.normal, (rput (rput r73.2.1 (some 63) r74.1) (some 37) r75.1), r75.2)) (none))) (
    some (X.exit 1, (rput R (some 38) r39.1), r39.2))
noncomputable def venue_Check (call : Eng.Callee) (x0 : Value) (W : AW) : Option (Value × AW) :=
  bnd (oBox x0 W) fun r1 =>
  bnd (oMv (.int .i64 0) r1.2) fun r2 =>
  bnd (oMv (.int .i64 0) r2.2) fun r3 =>
  bnd (faO 0 r1.1 r3.2) fun r4 =>
  bnd (ldC r4.1 r4.2) fun r5 =>
  bnd (call (fnV 33) [r5.1, (.int .i64 1), (.int .i64 16)] r5.2) fun r6 =>
  bnd (oMv r6.1 r6.2) fun r7 =>
  bnd (bIf (wnt r7.1 false) (faO 1 r1.1 r7.2) (some (undef, r7.2))) fun r8 =>
  bnd (bIf (wnt r7.1 false) (ldC r8.1 r8.2) (some (undef, r8.2))) fun r9 =>
  bnd (bIf (wnt r7.1 false) (call (fnV 34) [r9.1, (.int .i64 1), (.int .i64 1000000000)] r9.2) (some (undef, r9.2))) fun r10 =>
  bnd (oPick r7.1 (.bool true) r10.1 r10.2) fun r11 =>
  bnd (oMv r11.1 r11.2) fun r12 =>
  bnd (bIf (wnt r12.1 false) (faO 2 r1.1 r12.2) (some (undef, r12.2))) fun r13 =>
  bnd (bIf (wnt r12.1 false) (ldC r13.1 r13.2) (some (undef, r13.2))) fun r14 =>
  bnd (bIf (wnt r12.1 false) (call (fnV 34) [r14.1, (.int .i64 1), (.int .i64 1000000000)] r14.2) (some (undef, r14.2))) fun r15 =>
  bnd (oPick r12.1 (.bool true) r15.1 r15.2) fun r16 =>
  bnd (oMv r16.1 r16.2) fun r17 =>
  vIf r17.1 (
    bnd (oMv (.int .i64 (-1)) r17.2) fun r18 =>
    bnd (oMv (.int .i64 7) r18.2) fun r19 =>
    oRes Tryz.prog [(r18.1, none), (r19.1, none)] r19.2) (
    bnd (faO 3 r1.1 r17.2) fun r20 =>
    bnd (ldC r20.1 r20.2) fun r21 =>
    bnd (oBuiltin Tryz.prog .len #[22] 3 #[false] [r21.1] r21.2) fun r22 =>
    bnd (oBin Tryz.prog .eql 3 false true r22.1 (.int .i64 0) r22.2) fun r23 =>
    bnd (oMv r23.1 r23.2) fun r24 =>
    vIf r24.1 (
      bnd (oMv (.int .i64 (-1)) r24.2) fun r25 =>
      bnd (oMv (.int .i64 6) r25.2) fun r26 =>
      oRes Tryz.prog [(r25.1, none), (r26.1, none)] r26.2) (
      bnd (faO 3 r1.1 r24.2) fun r27 =>
      bnd (ldC r27.1 r27.2) fun r28 =>
      bnd (oBuiltin Tryz.prog .len #[22] 3 #[false] [r28.1] r28.2) fun r29 =>
      bnd (oBin Tryz.prog .gtr 3 false true r29.1 (.int .i64 8) r29.2) fun r30 =>
      bnd (oMv r30.1 r30.2) fun r31 =>
      vIf r31.1 (
        bnd (oMv (.int .i64 (-1)) r31.2) fun r32 =>
        bnd (oMv (.int .i64 3) r32.2) fun r33 =>
        oRes Tryz.prog [(r32.1, none), (r33.1, none)] r33.2) (
        bnd (oMv (.int .i64 0) r31.2) fun r34 =>
        bnd (faO 3 r1.1 r34.2) fun r35 =>
        bnd (ldC r35.1 r35.2) fun r36 =>
        bnd (oBuiltin Tryz.prog .len #[22] 3 #[false] [r36.1] r36.2) fun r37 =>
        bnd (oMv (.int .i64 0) r37.2) fun r38 =>
        bnd (loopO (venue_Check_L1 call) (rput (rput (rput (rput (rput (rput (rput (rput (rput (rput (rput (rput (rput (rput (rput (rput (rput (rput (rput (rput (rput (rput (rput (rput (rput (rput (rput (rput (rput (rput (rput (rput (argGo 0 [x0] PlanTab.blank) (some 1) r1.1) (some 2) r2.1) (some 3) r3.1) (some 11) r4.1) (some 12) r5.1) (some 13) r6.1) (some 14) r7.1) (some 15) r8.1) (some 16) r9.1) (some 17) r10.1) (some 18) r11.1) (some 19) r12.1) (some 20) r13.1) (some 21) r14.1) (some 22) r15.1) (some 23) r16.1) (some 10) r17.1) (some 25) r20.1) (some 26) r21.1) (some 27) r22.1) (some 28) r23.1) (some 24) r24.1) (some 30) r27.1) (some 31) r28.1) (some 32) r29.1) (some 33) r30.1) (some 29) r31.1) (some 4) r34.1) (some 34) r35.1) (some 35) r36.1) (some 36) r37.1) (some 37) r38.1) r38.2) fun r76 =>
        kExit 1 r76.1 (
          bnd (oMv (r76.2.1 4) r76.2.2) fun r77 =>
          bnd (oBin Tryz.prog .gtr 3 false true r77.1 (.int .i64 4096) r77.2) fun r78 =>
          vIf r78.1 (
            bnd (oMv (.int .i64 (-1)) r78.2) fun r79 =>
            bnd (oMv (.int .i64 3) r79.2) fun r80 =>
            oRes Tryz.prog [(r79.1, none), (r80.1, none)] r80.2) (
            bnd (oMv (.int .i64 0) r78.2) fun r81 =>
            bnd (oMv (.int .i64 0) r81.2) fun r82 =>
            oRes Tryz.prog [(r81.1, none), (r82.1, none)] r82.2)) (kRetX r76.1 (
          oRes Tryz.prog [((r76.2.1 2), none), ((r76.2.1 3), none)] r76.2.2)))))
theorem venue_Check_eq (call : Eng.Callee) (x0 : Value) (W : AW) : kFun Tryz.prog call 66 (cod 7) (rss 7) [x0] W = venue_Check call x0 W := by kernel_rfl
theorem venue_Check_om {x0 : Value} {W : AW} {r : Value × AW} (h : venue_Check omS x0 W = some r) : omS (.func (.func 7) #[] #[]) [x0] W = some (gc W r) := om_of (nt := 66) (n := 1) (by kernel_rfl) (by kernel_rfl) rfl ((venue_Check_eq omS x0 W).trans h)
noncomputable def ref15_Check_L1 (call : Eng.Callee) (R : Nat → Value) (W : AW) : Option LT :=
  bnd (oMv (R 4) W) fun r35 =>
  bnd (faO 3 (R 1) r35.2) fun r36 =>
  bnd (ldC r36.1 r36.2) fun r37 =>
  bnd (oBuiltin Tryz.prog .len #[22] 3 #[false] [r37.1] r37.2) fun r38 =>
  bnd (oBin Tryz.prog .lss 3 false false r35.1 r38.1 r38.2) fun r39 =>
  vIf r39.1 (
    bnd (ldA 4 (R 1) r39.2) fun r40 =>
    bnd (oMv (R 4) r40.2) fun r41 =>
    bnd (call (fnV 37) [r40.1, r41.1] r41.2) fun r42 =>
    bnd (oMv r42.1 r42.2) fun r43 =>
    bnd (oMv r43.1 r43.2) fun r44 =>
    bnd (oBin Tryz.prog .neq 29 false true r44.1 (.int .i64 0) r44.2) fun r45 =>
    vIf r45.1 (
      bnd (oMv (R 4) r45.2) fun r46 =>
      bnd (oMv r43.1 r46.2) fun r47 =>
      bnd (oMv r46.1 r47.2) fun r48 =>
      bnd (oMv r47.1 r48.2) fun r49 =>
      some (X.ret, (rput (rput (rput (rput (rput (rput (rput (rput (rput (rput (rput (rput (rput (rput (rput R (some 30) r35.1) (some 31) r36.1) (some 32) r37.1) (some 33) r38.1) (some 34) r39.1) (some 37) r40.1) (some 38) r41.1) (some 39) r42.1) (some 5) r43.1) (some 40) r44.1) (some 41) r45.1) (some 42) r46.1) (some 43) r47.1) (some 2) r48.1) (some 3) r49.1), r49.2)) (
      bnd (oMv (R 4) r45.2) fun r50 =>
      bnd (oBin Tryz.prog .add 3 false true r50.1 (.int .i64 1) r50.2) fun r51 =>
      bnd (oMv r51.1 r51.2) fun r52 =>
      some (X.normal, (rput (rput (rput (rput (rput (rput (rput (rput (rput (rput (rput (rput (rput (rput R (some 30) r35.1) (some 31) r36.1) (some 32) r37.1) (some 33) r38.1) (some 34) r39.1) (some 37) r40.1) (some 38) r41.1) (some 39) r42.1) (some 5) r43.1) (some 40) r44.1) (some 41) r45.1) (some 35) r50.1) (some 36) r51.1) (some 4) r52.1), r52.2))) (
    some (X.exit 0, (rput (rput (rput (rput (rput R (some 30) r35.1) (some 31) r36.1) (some 32) r37.1) (some 33) r38.1) (some 34) r39.1), r39.2))
noncomputable def ref15_Check (call : Eng.Callee) (x0 : Value) (W : AW) : Option (Value × AW) :=
  bnd (oBox x0 W) fun r1 =>
  bnd (oMv (.int .i64 0) r1.2) fun r2 =>
  bnd (oMv (.int .i64 0) r2.2) fun r3 =>
  bnd (faO 0 r1.1 r3.2) fun r4 =>
  bnd (ldC r4.1 r4.2) fun r5 =>
  bnd (call (fnV 36) [r5.1, (.int .i64 1), (.int .i64 16)] r5.2) fun r6 =>
  bnd (oUn Tryz.prog .not r6.1 r6.2) fun r7 =>
  bnd (oMv r7.1 r7.2) fun r8 =>
  bnd (bIf (wnt r8.1 false) (faO 1 r1.1 r8.2) (some (undef, r8.2))) fun r9 =>
  bnd (bIf (wnt r8.1 false) (ldC r9.1 r9.2) (some (undef, r9.2))) fun r10 =>
  bnd (bIf (wnt r8.1 false) (call (fnV 36) [r10.1, (.int .i64 1), (.int .i64 1000000000)] r10.2) (some (undef, r10.2))) fun r11 =>
  bnd (bIf (wnt r8.1 false) (oUn Tryz.prog .not r11.1 r11.2) (some (undef, r11.2))) fun r12 =>
  bnd (oPick r8.1 (.bool true) r12.1 r12.2) fun r13 =>
  bnd (oMv r13.1 r13.2) fun r14 =>
  bnd (bIf (wnt r14.1 false) (faO 2 r1.1 r14.2) (some (undef, r14.2))) fun r15 =>
  bnd (bIf (wnt r14.1 false) (ldC r15.1 r15.2) (some (undef, r15.2))) fun r16 =>
  bnd (bIf (wnt r14.1 false) (call (fnV 36) [r16.1, (.int .i64 1), (.int .i64 1000000000)] r16.2) (some (undef, r16.2))) fun r17 =>
  bnd (bIf (wnt r14.1 false) (oUn Tryz.prog .not r17.1 r17.2) (some (undef, r17.2))) fun r18 =>
  bnd (oPick r14.1 (.bool true) r18.1 r18.2) fun r19 =>
  vIf r19.1 (
    bnd (oMv (.int .i64 (-1)) r19.2) fun r20 =>
    bnd (oMv (.int .i64 7) r20.2) fun r21 =>
    oRes Tryz.prog [(r20.1, none), (r21.1, none)] r21.2) (
    bnd (faO 3 r1.1 r19.2) fun r22 =>
    bnd (ldC r22.1 r22.2) fun r23 =>
    bnd (oBuiltin Tryz.prog .len #[22] 3 #[false] [r23.1] r23.2) fun r24 =>
    bnd (oBin Tryz.prog .eql 3 false true r24.1 (.int .i64 0) r24.2) fun r25 =>
    vIf r25.1 (
      bnd (oMv (.int .i64 (-1)) r25.2) fun r26 =>
      bnd (oMv (.int .i64 6) r26.2) fun r27 =>
      oRes Tryz.prog [(r26.1, none), (r27.1, none)] r27.2) (
      bnd (faO 3 r1.1 r25.2) fun r28 =>
      bnd (ldC r28.1 r28.2) fun r29 =>
      bnd (oBuiltin Tryz.prog .len #[22] 3 #[false] [r29.1] r29.2) fun r30 =>
      bnd (oBin Tryz.prog .gtr 3 false true r30.1 (.int .i64 8) r30.2) fun r31 =>
      vIf r31.1 (
        bnd (oMv (.int .i64 (-1)) r31.2) fun r32 =>
        bnd (oMv (.int .i64 3) r32.2) fun r33 =>
        oRes Tryz.prog [(r32.1, none), (r33.1, none)] r33.2) (
        bnd (oMv (.int .i64 0) r31.2) fun r34 =>
        bnd (loopO (ref15_Check_L1 call) (rput (rput (rput (rput (rput (rput (rput (rput (rput (rput (rput (rput (rput (rput (rput (rput (rput (rput (rput (rput (rput (rput (rput (rput (rput (rput (rput (rput (argGo 0 [x0] PlanTab.blank) (some 1) r1.1) (some 2) r2.1) (some 3) r3.1) (some 6) r4.1) (some 7) r5.1) (some 8) r6.1) (some 9) r7.1) (some 10) r8.1) (some 11) r9.1) (some 12) r10.1) (some 13) r11.1) (some 14) r12.1) (some 15) r13.1) (some 16) r14.1) (some 17) r15.1) (some 18) r16.1) (some 19) r17.1) (some 20) r18.1) (some 21) r19.1) (some 22) r22.1) (some 23) r23.1) (some 24) r24.1) (some 25) r25.1) (some 26) r28.1) (some 27) r29.1) (some 28) r30.1) (some 29) r31.1) (some 4) r34.1) r34.2) fun r53 =>
        kExit 0 r53.1 (
          bnd (ldA 4 (r53.2.1 1) r53.2.2) fun r54 =>
          bnd (call (fnV 38) [r54.1] r54.2) fun r55 =>
          bnd (oBuiltin Tryz.prog .len #[55] 3 #[false] [r55.1] r55.2) fun r56 =>
          bnd (oBin Tryz.prog .gtr 3 false true r56.1 (.int .i64 4096) r56.2) fun r57 =>
          vIf r57.1 (
            bnd (oMv (.int .i64 (-1)) r57.2) fun r58 =>
            bnd (oMv (.int .i64 3) r58.2) fun r59 =>
            oRes Tryz.prog [(r58.1, none), (r59.1, none)] r59.2) (
            bnd (oMv (.int .i64 0) r57.2) fun r60 =>
            bnd (oMv (.int .i64 0) r60.2) fun r61 =>
            oRes Tryz.prog [(r60.1, none), (r61.1, none)] r61.2)) (kRetX r53.1 (
          oRes Tryz.prog [((r53.2.1 2), none), ((r53.2.1 3), none)] r53.2.2)))))
theorem ref15_Check_eq (call : Eng.Callee) (x0 : Value) (W : AW) : kFun Tryz.prog call 48 (cod 8) (rss 8) [x0] W = ref15_Check call x0 W := by kernel_rfl
theorem ref15_Check_om {x0 : Value} {W : AW} {r : Value × AW} (h : ref15_Check omS x0 W = some r) : omS (.func (.func 8) #[] #[]) [x0] W = some (gc W r) := om_of (nt := 48) (n := 1) (by kernel_rfl) (by kernel_rfl) rfl ((ref15_Check_eq omS x0 W).trans h)
noncomputable def ref15_Seats (call : Eng.Callee) (x0 : Value) (W : AW) : Option (Value × AW) :=
  bnd (oBox x0 W) fun r1 =>
  bnd (oMv (.int .i64 0) r1.2) fun r2 =>
  bnd (oMv (.int .i64 0) r2.2) fun r3 =>
  bnd (ldA 4 r1.1 r3.2) fun r4 =>
  bnd (call (fnV 8) [r4.1] r4.2) fun r5 =>
  bnd (oMv r5.1 r5.2) fun r6 =>
  bnd (oExtract r6.1 0 r6.2) fun r7 =>
  bnd (oExtract r6.1 1 r7.2) fun r8 =>
  bnd (oMv r7.1 r8.2) fun r9 =>
  bnd (oMv r8.1 r9.2) fun r10 =>
  bnd (oMv r10.1 r10.2) fun r11 =>
  bnd (oBin Tryz.prog .neq 29 false true r11.1 (.int .i64 0) r11.2) fun r12 =>
  vIf r12.1 (
    bnd (oMv r10.1 r12.2) fun r13 =>
    bnd (oMv (.int .i64 0) r13.2) fun r14 =>
    bnd (oMv r13.1 r14.2) fun r15 =>
    oRes Tryz.prog [(r14.1, none), (r15.1, none)] r15.2) (
    bnd (ldA 4 r1.1 r12.2) fun r16 =>
    bnd (call (fnV 38) [r16.1] r16.2) fun r17 =>
    bnd (oBuiltin Tryz.prog .len #[55] 3 #[false] [r17.1] r17.2) fun r18 =>
    bnd (oMv r18.1 r18.2) fun r19 =>
    bnd (oMv (.int .i64 0) r19.2) fun r20 =>
    oRes Tryz.prog [(r19.1, none), (r20.1, none)] r20.2)
theorem ref15_Seats_eq (call : Eng.Callee) (x0 : Value) (W : AW) : kFun Tryz.prog call 17 (cod 10) (rss 10) [x0] W = ref15_Seats call x0 W := by kernel_rfl
theorem ref15_Seats_om {x0 : Value} {W : AW} {r : Value × AW} (h : ref15_Seats omS x0 W = some r) : omS (.func (.func 10) #[] #[]) [x0] W = some (gc W r) := om_of (nt := 17) (n := 1) (by kernel_rfl) (by kernel_rfl) rfl ((ref15_Seats_eq omS x0 W).trans h)
noncomputable def law15_Far_L1_L2 (call : Eng.Callee) (R : Nat → Value) (W : AW) : Option LT :=
  bnd (oMv (R 6) W) fun r34 =>
  bnd (faO 1 (R 5) r34.2) fun r35 =>
  bnd (ldC r35.1 r35.2) fun r36 =>
  bnd (oBuiltin Tryz.prog .len #[26] 3 #[false] [r36.1] r36.2) fun r37 =>
  bnd (oBin Tryz.prog .lss 3 false false r34.1 r37.1 r37.2) fun r38 =>
  vIf r38.1 (
    bnd (faO 1 (R 5) r38.2) fun r39 =>
    bnd (ldC r39.1 r39.2) fun r40 =>
    bnd (oMv (R 6) r40.2) fun r41 =>
    bnd (ixS 1 r40.1 r41.1 r41.2) fun r42 =>
    bnd (ldC r42.1 r42.2) fun r43 =>
    bnd (oBin Tryz.prog .gtr 3 false true r43.1 (.int .i64 0) r43.2) fun r44 =>
    bnd (oMv r44.1 r44.2) fun r45 =>
    bnd (bIf (wnt r45.1 true) (faO 1 (R 5) r45.2) (some (undef, r45.2))) fun r46 =>
    bnd (bIf (wnt r45.1 true) (ldC r46.1 r46.2) (some (undef, r46.2))) fun r47 =>
    bnd (bIf (wnt r45.1 true) (oMv (R 6) r47.2) (some (undef, r47.2))) fun r48 =>
    bnd (bIf (wnt r45.1 true) (ixS 1 r47.1 r48.1 r48.2) (some (undef, r48.2))) fun r49 =>
    bnd (bIf (wnt r45.1 true) (ldC r49.1 r49.2) (some (undef, r49.2))) fun r50 =>
    bnd (bIf (wnt r45.1 true) (oBin Tryz.prog .leq 3 false true r50.1 (.int .i64 100) r50.2) (some (undef, r50.2))) fun r51 =>
    bnd (oPick r45.1 r51.1 (.bool false) r51.2) fun r52 =>
    vIf r52.1 (
      bnd (oMv (R 3) r52.2) fun r53 =>
      bnd (faO 1 (R 5) r53.2) fun r54 =>
      bnd (ldC r54.1 r54.2) fun r55 =>
      bnd (oMv (R 6) r55.2) fun r56 =>
      bnd (ixS 1 r55.1 r56.1 r56.2) fun r57 =>
      bnd (ldC r57.1 r57.2) fun r58 =>
      bnd (oBin Tryz.prog .add 3 false false r53.1 r58.1 r58.2) fun r59 =>
      bnd (oMv r59.1 r59.2) fun r60 =>
      bnd (oMv (R 6) r60.2) fun r61 =>
      bnd (oBin Tryz.prog .add 3 false true r61.1 (.int .i64 1) r61.2) fun r62 =>
      bnd (oMv r62.1 r62.2) fun r63 =>
      some (X.normal, (rput (rput (rput (rput (rput (rput (rput (rput (rput (rput (rput (rput (rput (rput (rput (rput (rput (rput (rput (rput (rput (rput (rput (rput (rput (rput (rput (rput (rput (rput R (some 33) r34.1) (some 34) r35.1) (some 35) r36.1) (some 36) r37.1) (some 37) r38.1) (some 40) r39.1) (some 41) r40.1) (some 42) r41.1) (some 43) r42.1) (some 44) r43.1) (some 45) r44.1) (some 46) r45.1) (some 47) r46.1) (some 48) r47.1) (some 49) r48.1) (some 50) r49.1) (some 51) r50.1) (some 52) r51.1) (some 53) r52.1) (some 54) r53.1) (some 55) r54.1) (some 56) r55.1) (some 57) r56.1) (some 58) r57.1) (some 59) r58.1) (some 60) r59.1) (some 3) r60.1) (some 38) r61.1) (some 39) r62.1) (some 6) r63.1), r63.2)) (
      bnd (oMv (R 6) r52.2) fun r64 =>
      bnd (oBin Tryz.prog .add 3 false true r64.1 (.int .i64 1) r64.2) fun r65 =>
      bnd (oMv r65.1 r65.2) fun r66 =>
      some (X.normal, (rput (rput (rput (rput (rput (rput (rput (rput (rput (rput (rput (rput (rput (rput (rput (rput (rput (rput (rput (rput (rput (rput R (some 33) r34.1) (some 34) r35.1) (some 35) r36.1) (some 36) r37.1) (some 37) r38.1) (some 40) r39.1) (some 41) r40.1) (some 42) r41.1) (some 43) r42.1) (some 44) r43.1) (some 45) r44.1) (some 46) r45.1) (some 47) r46.1) (some 48) r47.1) (some 49) r48.1) (some 50) r49.1) (some 51) r50.1) (some 52) r51.1) (some 53) r52.1) (some 38) r64.1) (some 39) r65.1) (some 6) r66.1), r66.2))) (
    some (X.exit 2, (rput (rput (rput (rput (rput R (some 33) r34.1) (some 34) r35.1) (some 35) r36.1) (some 36) r37.1) (some 37) r38.1), r38.2))
noncomputable def law15_Far_L1 (call : Eng.Callee) (R : Nat → Value) (W : AW) : Option LT :=
  bnd (oMv (R 4) W) fun r10 =>
  bnd (faO 3 (R 1) r10.2) fun r11 =>
  bnd (ldC r11.1 r11.2) fun r12 =>
  bnd (oBuiltin Tryz.prog .len #[22] 3 #[false] [r12.1] r12.2) fun r13 =>
  bnd (oBin Tryz.prog .lss 3 false false r10.1 r13.1 r13.2) fun r14 =>
  vIf r14.1 (
    bnd (faO 3 (R 1) r14.2) fun r15 =>
    bnd (ldC r15.1 r15.2) fun r16 =>
    bnd (oMv (R 4) r16.2) fun r17 =>
    bnd (ixS 3 r16.1 r17.1 r17.2) fun r18 =>
    bnd (ldA 3 r18.1 r18.2) fun r19 =>
    bnd (oAlloc Tryz.prog 28 r19.2) fun r20 =>
    bnd (stV 3 r20.1 r19.1 r20.2) fun r21 =>
    bnd (faO 1 r20.1 r21.2) fun r22 =>
    bnd (ldC r22.1 r22.2) fun r23 =>
    bnd (oBuiltin Tryz.prog .len #[26] 3 #[false] [r23.1] r23.2) fun r24 =>
    bnd (oBin Tryz.prog .gtr 3 false true r24.1 (.int .i64 20) r24.2) fun r25 =>
    bnd (oMv r25.1 r25.2) fun r26 =>
    bnd (bIf (wnt r26.1 false) (faO 0 r20.1 r26.2) (some (undef, r26.2))) fun r27 =>
    bnd (bIf (wnt r26.1 false) (ldC r27.1 r27.2) (some (undef, r27.2))) fun r28 =>
    bnd (bIf (wnt r26.1 false) (oBuiltin Tryz.prog .len #[9] 3 #[false] [r28.1] r28.2) (some (undef, r28.2))) fun r29 =>
    bnd (bIf (wnt r26.1 false) (oBin Tryz.prog .gtr 3 false true r29.1 (.int .i64 100) r29.2) (some (undef, r29.2))) fun r30 =>
    bnd (oPick r26.1 (.bool true) r30.1 r30.2) fun r31 =>
    vIf r31.1 (
      bnd (oMv (.bool true) r31.2) fun r32 =>
      some (X.ret, (rput (rput (rput (rput (rput (rput (rput (rput (rput (rput (rput (rput (rput (rput (rput (rput (rput (rput (rput (rput (rput (rput R (some 11) r10.1) (some 12) r11.1) (some 13) r12.1) (some 14) r13.1) (some 15) r14.1) (some 18) r15.1) (some 19) r16.1) (some 20) r17.1) (some 21) r18.1) (some 22) r19.1) (some 5) r20.1) (some 23) r22.1) (some 24) r23.1) (some 25) r24.1) (some 26) r25.1) (some 27) r26.1) (some 28) r27.1) (some 29) r28.1) (some 30) r29.1) (some 31) r30.1) (some 32) r31.1) (some 2) r32.1), r32.2)) (
      bnd (oMv (.int .i64 0) r31.2) fun r33 =>
      bnd (loopO (law15_Far_L1_L2 call) (rput (rput (rput (rput (rput (rput (rput (rput (rput (rput (rput (rput (rput (rput (rput (rput (rput (rput (rput (rput (rput (rput R (some 11) r10.1) (some 12) r11.1) (some 13) r12.1) (some 14) r13.1) (some 15) r14.1) (some 18) r15.1) (some 19) r16.1) (some 20) r17.1) (some 21) r18.1) (some 22) r19.1) (some 5) r20.1) (some 23) r22.1) (some 24) r23.1) (some 25) r24.1) (some 26) r25.1) (some 27) r26.1) (some 28) r27.1) (some 29) r28.1) (some 30) r29.1) (some 31) r30.1) (some 32) r31.1) (some 6) r33.1) r33.2) fun r67 =>
      kExit 2 r67.1 (
        bnd (oMv (r67.2.1 4) r67.2.2) fun r68 =>
        bnd (oBin Tryz.prog .add 3 false true r68.1 (.int .i64 1) r68.2) fun r69 =>
        bnd (oMv r69.1 r69.2) fun r70 =>
        some (X.normal, (rput (rput (rput r67.2.1 (some 16) r68.1) (some 17) r69.1) (some 4) r70.1), r70.2)) (none))) (
    some (X.exit 0, (rput (rput (rput (rput (rput R (some 11) r10.1) (some 12) r11.1) (some 13) r12.1) (some 14) r13.1) (some 15) r14.1), r14.2))
noncomputable def law15_Far (call : Eng.Callee) (x0 : Value) (W : AW) : Option (Value × AW) :=
  bnd (oBox x0 W) fun r1 =>
  bnd (oMv (.bool false) r1.2) fun r2 =>
  bnd (faO 3 r1.1 r2.2) fun r3 =>
  bnd (ldC r3.1 r3.2) fun r4 =>
  bnd (oBuiltin Tryz.prog .len #[22] 3 #[false] [r4.1] r4.2) fun r5 =>
  bnd (oBin Tryz.prog .gtr 3 false true r5.1 (.int .i64 10) r5.2) fun r6 =>
  vIf r6.1 (
    bnd (oMv (.bool true) r6.2) fun r7 =>
    oRes Tryz.prog [(r7.1, none)] r7.2) (
    bnd (oMv (.int .i64 0) r6.2) fun r8 =>
    bnd (oMv (.int .i64 0) r8.2) fun r9 =>
    bnd (loopO (law15_Far_L1 call) (rput (rput (rput (rput (rput (rput (rput (rput (argGo 0 [x0] PlanTab.blank) (some 1) r1.1) (some 2) r2.1) (some 7) r3.1) (some 8) r4.1) (some 9) r5.1) (some 10) r6.1) (some 3) r8.1) (some 4) r9.1) r9.2) fun r71 =>
    kExit 0 r71.1 (
      bnd (oMv (r71.2.1 3) r71.2.2) fun r72 =>
      bnd (oBin Tryz.prog .gtr 3 false true r72.1 (.int .i64 200) r72.2) fun r73 =>
      bnd (oMv r73.1 r73.2) fun r74 =>
      oRes Tryz.prog [(r74.1, none)] r74.2) (kRetX r71.1 (
      oRes Tryz.prog [((r71.2.1 2), none)] r71.2.2)))
theorem law15_Far_eq (call : Eng.Callee) (x0 : Value) (W : AW) : kFun Tryz.prog call 63 (cod 11) (rss 11) [x0] W = law15_Far call x0 W := by kernel_rfl
theorem law15_Far_om {x0 : Value} {W : AW} {r : Value × AW} (h : law15_Far omS x0 W = some r) : omS (.func (.func 11) #[] #[]) [x0] W = some (gc W r) := om_of (nt := 63) (n := 1) (by kernel_rfl) (by kernel_rfl) rfl ((law15_Far_eq omS x0 W).trans h)
noncomputable def ref15_Place (call : Eng.Callee) (x0 x1 : Value) (W : AW) : Option (Value × AW) :=
  bnd (oBox x0 W) fun r1 =>
  bnd (oAlloc Tryz.prog 34 r1.2) fun r2 =>
  bnd (oMv (.int .i64 0) r2.2) fun r3 =>
  bnd (ldA 4 r1.1 r3.2) fun r4 =>
  bnd (call (fnV 10) [r4.1] r4.2) fun r5 =>
  bnd (oMv r5.1 r5.2) fun r6 =>
  bnd (oExtract r6.1 0 r6.2) fun r7 =>
  bnd (oExtract r6.1 1 r7.2) fun r8 =>
  bnd (oMv r7.1 r8.2) fun r9 =>
  bnd (oMv r8.1 r9.2) fun r10 =>
  bnd (oMv r10.1 r10.2) fun r11 =>
  bnd (oBin Tryz.prog .eql 29 false true r11.1 (.int .i64 0) r11.2) fun r12 =>
  bnd (oMv r12.1 r12.2) fun r13 =>
  bnd (bIf (wnt r13.1 true) (oMv x1 r13.2) (some (undef, r13.2))) fun r14 =>
  bnd (bIf (wnt r13.1 true) (oBin Tryz.prog .lss 3 false true r14.1 (.int .i64 0) r14.2) (some (undef, r14.2))) fun r15 =>
  bnd (bIf (wnt r13.1 true) (oMv r15.1 r15.2) (some (undef, r15.2))) fun r16 =>
  bnd (bIf (wnt r16.1 false) (oMv x1 r16.2) (some (undef, r16.2))) fun r17 =>
  bnd (bIf (wnt r16.1 false) (oMv r9.1 r17.2) (some (undef, r17.2))) fun r18 =>
  bnd (bIf (wnt r16.1 false) (oBin Tryz.prog .geq 3 false false r17.1 r18.1 r18.2) (some (undef, r18.2))) fun r19 =>
  bnd (bIf (wnt r13.1 true) (oPick r16.1 (.bool true) r19.1 r19.2) (some (undef, r19.2))) fun r20 =>
  bnd (oPick r13.1 r20.1 (.bool false) r20.2) fun r21 =>
  vIf r21.1 (
    bnd (oMv (.int .i64 4) r21.2) fun r22 =>
    bnd (oMv r22.1 r22.2) fun r23 =>
    bnd (oBin Tryz.prog .neq 29 false true r23.1 (.int .i64 0) r23.2) fun r24 =>
    vIf r24.1 (
      bnd (oBuild Tryz.prog 34 [] r24.2) fun r25 =>
      bnd (oMv r22.1 r25.2) fun r26 =>
      bnd (stV 3 r2.1 r25.1 r26.2) fun r27 =>
      bnd (oMv r26.1 r27.2) fun r28 =>
      oRes Tryz.prog [(r2.1, some 34), (r28.1, none)] r28.2) (
      bnd (ldA 4 r1.1 r24.2) fun r29 =>
      bnd (call (fnV 38) [r29.1] r29.2) fun r30 =>
      bnd (oMv x1 r30.2) fun r31 =>
      bnd (ixS 3 r30.1 r31.1 r31.2) fun r32 =>
      bnd (ldA 3 r32.1 r32.2) fun r33 =>
      bnd (stV 3 r2.1 r33.1 r33.2) fun r34 =>
      bnd (oMv (.int .i64 0) r34.2) fun r35 =>
      oRes Tryz.prog [(r2.1, some 34), (r35.1, none)] r35.2)) (
    bnd (oMv r10.1 r21.2) fun r36 =>
    bnd (oBin Tryz.prog .neq 29 false true r36.1 (.int .i64 0) r36.2) fun r37 =>
    vIf r37.1 (
      bnd (oBuild Tryz.prog 34 [] r37.2) fun r38 =>
      bnd (oMv r10.1 r38.2) fun r39 =>
      bnd (stV 3 r2.1 r38.1 r39.2) fun r40 =>
      bnd (oMv r39.1 r40.2) fun r41 =>
      oRes Tryz.prog [(r2.1, some 34), (r41.1, none)] r41.2) (
      bnd (ldA 4 r1.1 r37.2) fun r42 =>
      bnd (call (fnV 38) [r42.1] r42.2) fun r43 =>
      bnd (oMv x1 r43.2) fun r44 =>
      bnd (ixS 3 r43.1 r44.1 r44.2) fun r45 =>
      bnd (ldA 3 r45.1 r45.2) fun r46 =>
      bnd (stV 3 r2.1 r46.1 r46.2) fun r47 =>
      bnd (oMv (.int .i64 0) r47.2) fun r48 =>
      oRes Tryz.prog [(r2.1, some 34), (r48.1, none)] r48.2))
theorem ref15_Place_eq (call : Eng.Callee) (x0 x1 : Value) (W : AW) : kFun Tryz.prog call 33 (cod 13) (rss 13) [x0, x1] W = ref15_Place call x0 x1 W := by kernel_rfl
theorem ref15_Place_om {x0 x1 : Value} {W : AW} {r : Value × AW} (h : ref15_Place omS x0 x1 W = some r) : omS (.func (.func 13) #[] #[]) [x0, x1] W = some (gc W r) := om_of (nt := 33) (n := 2) (by kernel_rfl) (by kernel_rfl) rfl ((ref15_Place_eq omS x0 x1 W).trans h)
noncomputable def venue_Of_Y1a (call : Eng.Callee) (R : Nat → Value) (W : AW) : Option LT :=
  bnd (oAlloc Tryz.prog 61 W) fun r21 =>
  bnd (stV 4 r21.1 (R 20) r21.2) fun r22 =>
  some (X.normal, (rput R (some 9) r21.1), r22.2)
theorem venue_Of_Y1a_eq (call : Eng.Callee) (R : Nat → Value) (W : AW) : kCode Tryz.prog call false 37 (cAt [1, 1, 0, 1, 0, 0] (cod 16)) LT R W ret3 = venue_Of_Y1a call R W := by kernel_rfl
noncomputable def venue_Of_Y1b (call : Eng.Callee) (R : Nat → Value) (W : AW) : Option LT :=
  bnd (faO 0 (R 9) W) fun r23 =>
  bnd (ldC r23.1 r23.2) fun r24 =>
  bnd (ldC (R 3) r24.2) fun r25 =>
  bnd (oBin Tryz.prog .neq 3 false false r24.1 r25.1 r25.2) fun r26 =>
  vIf r26.1 (
    some (X.normal, (rput (rput (rput (rput R (some 21) r23.1) (some 22) r24.1) (some 23) r25.1) (some 24) r26.1), r26.2)) (
    bnd (ldC (R 5) r26.2) fun r27 =>
    bnd (oBin Tryz.prog .eql 3 false true r27.1 (.int .i64 0) r27.2) fun r28 =>
    vIf r28.1 (
      bnd (faO 2 (R 9) r28.2) fun r29 =>
      bnd (ldC r29.1 r29.2) fun r30 =>
      bnd (stV 1 (R 4) r30.1 r30.2) fun r31 =>
      bnd (ldC (R 5) r31.2) fun r32 =>
      bnd (faO 3 (R 9) r32.2) fun r33 =>
      bnd (ldC r33.1 r33.2) fun r34 =>
      bnd (oBin Tryz.prog .add 3 false false r32.1 r34.1 r34.2) fun r35 =>
      bnd (stV 1 (R 5) r35.1 r35.2) fun r36 =>
      some (X.normal, (rput (rput (rput (rput (rput (rput (rput (rput (rput (rput (rput (rput R (some 21) r23.1) (some 22) r24.1) (some 23) r25.1) (some 24) r26.1) (some 25) r27.1) (some 26) r28.1) (some 27) r29.1) (some 28) r30.1) (some 29) r32.1) (some 30) r33.1) (some 31) r34.1) (some 32) r35.1), r36.2)) (
      bnd (ldC (R 5) r28.2) fun r37 =>
      bnd (faO 3 (R 9) r37.2) fun r38 =>
      bnd (ldC r38.1 r38.2) fun r39 =>
      bnd (oBin Tryz.prog .add 3 false false r37.1 r39.1 r39.2) fun r40 =>
      bnd (stV 1 (R 5) r40.1 r40.2) fun r41 =>
      some (X.normal, (rput (rput (rput (rput (rput (rput (rput (rput (rput (rput R (some 21) r23.1) (some 22) r24.1) (some 23) r25.1) (some 24) r26.1) (some 25) r27.1) (some 26) r28.1) (some 29) r37.1) (some 30) r38.1) (some 31) r39.1) (some 32) r40.1), r41.2)))
theorem venue_Of_Y1b_eq (call : Eng.Callee) (R : Nat → Value) (W : AW) : kCode Tryz.prog call false 37 (cAt [1, 1, 0, 1, 0, 1] (cod 16)) LT R W ret3 = venue_Of_Y1b call R W := by kernel_rfl
noncomputable def venue_Of (call : Eng.Callee) (x0 x1 : Value) (W : AW) : Option (Value × AW) :=
  bnd (oBox x0 W) fun r1 =>
  bnd (oBox x1 r1.2) fun r2 =>
  bnd (oAlloc Tryz.prog 3 r2.2) fun r3 =>
  bnd (oAlloc Tryz.prog 3 r3.2) fun r4 =>
  bnd (oMv (.int .i64 0) r4.2) fun r5 =>
  bnd (ldA 4 r1.1 r5.2) fun r6 =>
  bnd (call (fnV 7) [r6.1] r6.2) fun r7 =>
  bnd (oMv r7.1 r7.2) fun r8 =>
  bnd (oExtract r8.1 0 r8.2) fun r9 =>
  bnd (oExtract r8.1 1 r9.2) fun r10 =>
  bnd (oMv r9.1 r10.2) fun r11 =>
  bnd (oMv r10.1 r11.2) fun r12 =>
  bnd (oMv r12.1 r12.2) fun r13 =>
  bnd (oBin Tryz.prog .neq 29 false true r13.1 (.int .i64 0) r13.2) fun r14 =>
  vIf r14.1 (
    bnd (oMv r12.1 r14.2) fun r15 =>
    bnd (stV 1 r3.1 (.int .i64 0) r15.2) fun r16 =>
    bnd (stV 1 r4.1 (.int .i64 0) r16.2) fun r17 =>
    bnd (oMv r15.1 r17.2) fun r18 =>
    oRes Tryz.prog [(r3.1, some 3), (r4.1, some 3), (r18.1, none)] r18.2) (
    bnd (ldA 4 r1.1 r14.2) fun r19 =>
    bnd (call (fnV 39) [r19.1] r19.2) fun r20 =>
    bnd (oRange call r20.1 (.loop .ready none (rput (rput (rput (rput (rput (rput (rput (rput (rput (rput (rput (rput (rput (rput (rput (rput (argGo 0 [x0, x1] PlanTab.blank) (some 2) r1.1) (some 3) r2.1) (some 4) r3.1) (some 5) r4.1) (some 6) r5.1) (some 11) r6.1) (some 12) r7.1) (some 10) r8.1) (some 13) r9.1) (some 14) r10.1) (some 7) r11.1) (some 8) r12.1) (some 15) r13.1) (some 16) r14.1) (some 18) r19.1) (some 19) r20.1) 37 #[20] (cAt [1, 1, 0, 1, 0, 0] (cod 16)) (cAt [1, 1, 0, 1, 0, 1] (cod 16))) r20.2) fun r42 =>
    kNorm r42.1 (
      bnd (ldC r4.1 r42.2) fun r43 =>
      bnd (oBin Tryz.prog .eql 3 false true r43.1 (.int .i64 0) r43.2) fun r44 =>
      vIf r44.1 (
        bnd (stV 1 r3.1 (.int .i64 0) r44.2) fun r45 =>
        bnd (stV 1 r4.1 (.int .i64 0) r45.2) fun r46 =>
        bnd (oMv (.int .i64 4) r46.2) fun r47 =>
        oRes Tryz.prog [(r3.1, some 3), (r4.1, some 3), (r47.1, none)] r47.2) (
        bnd (ldC r3.1 r44.2) fun r48 =>
        bnd (ldC r4.1 r48.2) fun r49 =>
        bnd (stV 1 r3.1 r48.1 r49.2) fun r50 =>
        bIf (agV true (ldC r4.1 r50.2) r49.1 && true) (bnd (stV 1 r4.1 r49.1 r50.2) fun r51 =>
        bnd (oMv (.int .i64 0) r51.2) fun r52 =>
        oRes Tryz.prog [(r3.1, some 3), (r4.1, some 3), (r52.1, none)] r52.2) none)) (none))
theorem venue_Of_eq (call : Eng.Callee) (x0 x1 : Value) (W : AW) : kFun Tryz.prog call 37 (cod 16) (rss 16) [x0, x1] W = venue_Of call x0 x1 W := by kernel_rfl
theorem venue_Of_om {x0 x1 : Value} {W : AW} {r : Value × AW} (h : venue_Of omS x0 x1 W = some r) : omS (.func (.func 16) #[] #[]) [x0, x1] W = some (gc W r) := om_of (nt := 37) (n := 2) (by kernel_rfl) (by kernel_rfl) rfl ((venue_Of_eq omS x0 x1 W).trans h)
noncomputable def ref15_Of (call : Eng.Callee) (x0 x1 : Value) (W : AW) : Option (Value × AW) :=
  bnd (oBox x0 W) fun r1 =>
  bnd (oMv (.int .i64 0) r1.2) fun r2 =>
  bnd (oMv (.int .i64 0) r2.2) fun r3 =>
  bnd (oMv (.int .i64 0) r3.2) fun r4 =>
  bnd (ldA 4 r1.1 r4.2) fun r5 =>
  bnd (oMv x1 r5.2) fun r6 =>
  bnd (call (fnV 41) [r5.1, r6.1, (.int .i64 (-1))] r6.2) fun r7 =>
  bnd (oExtract r7.1 0 r7.2) fun r8 =>
  bnd (oExtract r7.1 1 r8.2) fun r9 =>
  bnd (oExtract r7.1 2 r9.2) fun r10 =>
  bnd (oMv r8.1 r10.2) fun r11 =>
  bnd (oMv r9.1 r11.2) fun r12 =>
  bnd (oMv r10.1 r12.2) fun r13 =>
  oRes Tryz.prog [(r11.1, none), (r12.1, none), (r13.1, none)] r13.2
theorem ref15_Of_eq (call : Eng.Callee) (x0 x1 : Value) (W : AW) : kFun Tryz.prog call 13 (cod 17) (rss 17) [x0, x1] W = ref15_Of call x0 x1 W := by kernel_rfl
theorem ref15_Of_om {x0 x1 : Value} {W : AW} {r : Value × AW} (h : ref15_Of omS x0 x1 W = some r) : omS (.func (.func 17) #[] #[]) [x0, x1] W = some (gc W r) := om_of (nt := 13) (n := 2) (by kernel_rfl) (by kernel_rfl) rfl ((ref15_Of_eq omS x0 x1 W).trans h)
noncomputable def venue_Sides (call : Eng.Callee) (x0 x1 : Value) (W : AW) : Option (Value × AW) :=
  bnd (oBox x0 W) fun r1 =>
  bnd (oMv (.int .i64 0) r1.2) fun r2 =>
  bnd (oMv (.int .i64 0) r2.2) fun r3 =>
  bnd (oMv (.int .i64 0) r3.2) fun r4 =>
  bnd (ldA 4 r1.1 r4.2) fun r5 =>
  bnd (oMv x1 r5.2) fun r6 =>
  bnd (call (fnV 40) [r5.1, r6.1] r6.2) fun r7 =>
  bnd (oMv r7.1 r7.2) fun r8 =>
  bnd (oExtract r8.1 0 r8.2) fun r9 =>
  bnd (oExtract r8.1 1 r9.2) fun r10 =>
  bnd (oAlloc Tryz.prog 61 r10.2) fun r11 =>
  bnd (stV 4 r11.1 r9.1 r11.2) fun r12 =>
  bnd (oMv r10.1 r12.2) fun r13 =>
  bnd (oMv r13.1 r13.2) fun r14 =>
  bnd (oBin Tryz.prog .neq 29 false true r14.1 (.int .i64 0) r14.2) fun r15 =>
  vIf r15.1 (
    bnd (oMv r13.1 r15.2) fun r16 =>
    bnd (oMv (.int .i64 0) r16.2) fun r17 =>
    bnd (oMv (.int .i64 0) r17.2) fun r18 =>
    bnd (oMv r16.1 r18.2) fun r19 =>
    oRes Tryz.prog [(r17.1, none), (r18.1, none), (r19.1, none)] r19.2) (
    bnd (oMv x1 r15.2) fun r20 =>
    bnd (oBin Tryz.prog .sub 3 false true r20.1 (.int .i64 1) r20.2) fun r21 =>
    bnd (oMv x1 r21.2) fun r22 =>
    bnd (oBin Tryz.prog .add 3 false true r22.1 (.int .i64 1) r22.2) fun r23 =>
    bnd (oMv r21.1 r23.2) fun r24 =>
    bnd (oMv r23.1 r24.2) fun r25 =>
    bnd (oMv r24.1 r25.2) fun r26 =>
    bnd (faO 2 r11.1 r26.2) fun r27 =>
    bnd (ldC r27.1 r27.2) fun r28 =>
    bnd (oBin Tryz.prog .lss 3 false false r26.1 r28.1 r28.2) fun r29 =>
    vIf r29.1 (
      bnd (oMv (.int .i64 (-1)) r29.2) fun r30 =>
      bnd (oMv r25.1 r30.2) fun r31 =>
      bnd (faO 2 r11.1 r31.2) fun r32 =>
      bnd (ldC r32.1 r32.2) fun r33 =>
      bnd (faO 3 r11.1 r33.2) fun r34 =>
      bnd (ldC r34.1 r34.2) fun r35 =>
      bnd (oBin Tryz.prog .add 3 false false r33.1 r35.1 r35.2) fun r36 =>
      bnd (oBin Tryz.prog .eql 3 false false r31.1 r36.1 r36.2) fun r37 =>
      vIf r37.1 (
        bnd (oMv (.int .i64 (-1)) r37.2) fun r38 =>
        bnd (oMv r30.1 r38.2) fun r39 =>
        bnd (oMv r38.1 r39.2) fun r40 =>
        bnd (oMv r39.1 r40.2) fun r41 =>
        bnd (oMv r40.1 r41.2) fun r42 =>
        bnd (oMv (.int .i64 0) r42.2) fun r43 =>
        oRes Tryz.prog [(r41.1, none), (r42.1, none), (r43.1, none)] r43.2) (
        bnd (oMv r30.1 r37.2) fun r44 =>
        bnd (oMv r25.1 r44.2) fun r45 =>
        bnd (oMv r44.1 r45.2) fun r46 =>
        bnd (oMv r45.1 r46.2) fun r47 =>
        bnd (oMv (.int .i64 0) r47.2) fun r48 =>
        oRes Tryz.prog [(r46.1, none), (r47.1, none), (r48.1, none)] r48.2)) (
      bnd (oMv r25.1 r29.2) fun r49 =>
      bnd (faO 2 r11.1 r49.2) fun r50 =>
      bnd (ldC r50.1 r50.2) fun r51 =>
      bnd (faO 3 r11.1 r51.2) fun r52 =>
      bnd (ldC r52.1 r52.2) fun r53 =>
      bnd (oBin Tryz.prog .add 3 false false r51.1 r53.1 r53.2) fun r54 =>
      bnd (oBin Tryz.prog .eql 3 false false r49.1 r54.1 r54.2) fun r55 =>
      vIf r55.1 (
        bnd (oMv (.int .i64 (-1)) r55.2) fun r56 =>
        bnd (oMv r24.1 r56.2) fun r57 =>
        bnd (oMv r56.1 r57.2) fun r58 =>
        bnd (oMv r57.1 r58.2) fun r59 =>
        bnd (oMv r58.1 r59.2) fun r60 =>
        bnd (oMv (.int .i64 0) r60.2) fun r61 =>
        oRes Tryz.prog [(r59.1, none), (r60.1, none), (r61.1, none)] r61.2) (
        bnd (oMv r24.1 r55.2) fun r62 =>
        bnd (oMv r25.1 r62.2) fun r63 =>
        bnd (oMv r62.1 r63.2) fun r64 =>
        bnd (oMv r63.1 r64.2) fun r65 =>
        bnd (oMv (.int .i64 0) r65.2) fun r66 =>
        oRes Tryz.prog [(r64.1, none), (r65.1, none), (r66.1, none)] r66.2)))
theorem venue_Sides_eq (call : Eng.Callee) (x0 x1 : Value) (W : AW) : kFun Tryz.prog call 34 (cod 20) (rss 20) [x0, x1] W = venue_Sides call x0 x1 W := by kernel_rfl
theorem venue_Sides_om {x0 x1 : Value} {W : AW} {r : Value × AW} (h : venue_Sides omS x0 x1 W = some r) : omS (.func (.func 20) #[] #[]) [x0, x1] W = some (gc W r) := om_of (nt := 34) (n := 2) (by kernel_rfl) (by kernel_rfl) rfl ((venue_Sides_eq omS x0 x1 W).trans h)
noncomputable def ref15_Sides (call : Eng.Callee) (x0 x1 : Value) (W : AW) : Option (Value × AW) :=
  bnd (oBox x0 W) fun r1 =>
  bnd (oMv (.int .i64 0) r1.2) fun r2 =>
  bnd (oMv (.int .i64 0) r2.2) fun r3 =>
  bnd (oMv (.int .i64 0) r3.2) fun r4 =>
  bnd (ldA 4 r1.1 r4.2) fun r5 =>
  bnd (oMv x1 r5.2) fun r6 =>
  bnd (call (fnV 13) [r5.1, r6.1] r6.2) fun r7 =>
  bnd (oMv r7.1 r7.2) fun r8 =>
  bnd (oExtract r8.1 0 r8.2) fun r9 =>
  bnd (oExtract r8.1 1 r9.2) fun r10 =>
  bnd (oAlloc Tryz.prog 34 r10.2) fun r11 =>
  bnd (stV 3 r11.1 r9.1 r11.2) fun r12 =>
  bnd (oMv r10.1 r12.2) fun r13 =>
  bnd (oMv r13.1 r13.2) fun r14 =>
  bnd (oBin Tryz.prog .neq 29 false true r14.1 (.int .i64 0) r14.2) fun r15 =>
  vIf r15.1 (
    bnd (oMv r13.1 r15.2) fun r16 =>
    bnd (oMv (.int .i64 0) r16.2) fun r17 =>
    bnd (oMv (.int .i64 0) r17.2) fun r18 =>
    bnd (oMv r16.1 r18.2) fun r19 =>
    oRes Tryz.prog [(r17.1, none), (r18.1, none), (r19.1, none)] r19.2) (
    bnd (oMv (.int .i64 (-1)) r15.2) fun r20 =>
    bnd (oMv (.int .i64 (-1)) r20.2) fun r21 =>
    bnd (faO 2 r11.1 r21.2) fun r22 =>
    bnd (ldC r22.1 r22.2) fun r23 =>
    bnd (oBin Tryz.prog .gtr 3 false true r23.1 (.int .i64 0) r23.2) fun r24 =>
    vIf r24.1 (
      bnd (oMv x1 r24.2) fun r25 =>
      bnd (oBin Tryz.prog .sub 3 false true r25.1 (.int .i64 1) r25.2) fun r26 =>
      bnd (oMv r26.1 r26.2) fun r27 =>
      bnd (faO 2 r11.1 r27.2) fun r28 =>
      bnd (ldC r28.1 r28.2) fun r29 =>
      bnd (oBin Tryz.prog .add 3 false true r29.1 (.int .i64 1) r29.2) fun r30 =>
      bnd (faO 3 r1.1 r30.2) fun r31 =>
      bnd (ldC r31.1 r31.2) fun r32 =>
      bnd (faO 0 r11.1 r32.2) fun r33 =>
      bnd (ldC r33.1 r33.2) fun r34 =>
      bnd (ixS 3 r32.1 r34.1 r34.2) fun r35 =>
      bnd (faO 1 r35.1 r35.2) fun r36 =>
      bnd (ldC r36.1 r36.2) fun r37 =>
      bnd (faO 1 r11.1 r37.2) fun r38 =>
      bnd (ldC r38.1 r38.2) fun r39 =>
      bnd (ixS 1 r37.1 r39.1 r39.2) fun r40 =>
      bnd (ldC r40.1 r40.2) fun r41 =>
      bnd (oBin Tryz.prog .lss 3 false false r30.1 r41.1 r41.2) fun r42 =>
      vIf r42.1 (
        bnd (oMv x1 r42.2) fun r43 =>
        bnd (oBin Tryz.prog .add 3 false true r43.1 (.int .i64 1) r43.2) fun r44 =>
        bnd (oMv r44.1 r44.2) fun r45 =>
        bnd (oMv r27.1 r45.2) fun r46 =>
        bnd (oMv r45.1 r46.2) fun r47 =>
        bnd (oMv r46.1 r47.2) fun r48 =>
        bnd (oMv r47.1 r48.2) fun r49 =>
        bnd (oMv (.int .i64 0) r49.2) fun r50 =>
        oRes Tryz.prog [(r48.1, none), (r49.1, none), (r50.1, none)] r50.2) (
        bnd (oMv r27.1 r42.2) fun r51 =>
        bnd (oMv r21.1 r51.2) fun r52 =>
        bnd (oMv r51.1 r52.2) fun r53 =>
        bnd (oMv r52.1 r53.2) fun r54 =>
        bnd (oMv (.int .i64 0) r54.2) fun r55 =>
        oRes Tryz.prog [(r53.1, none), (r54.1, none), (r55.1, none)] r55.2)) (
      bnd (faO 2 r11.1 r24.2) fun r56 =>
      bnd (ldC r56.1 r56.2) fun r57 =>
      bnd (oBin Tryz.prog .add 3 false true r57.1 (.int .i64 1) r57.2) fun r58 =>
      bnd (faO 3 r1.1 r58.2) fun r59 =>
      bnd (ldC r59.1 r59.2) fun r60 =>
      bnd (faO 0 r11.1 r60.2) fun r61 =>
      bnd (ldC r61.1 r61.2) fun r62 =>
      bnd (ixS 3 r60.1 r62.1 r62.2) fun r63 =>
      bnd (faO 1 r63.1 r63.2) fun r64 =>
      bnd (ldC r64.1 r64.2) fun r65 =>
      bnd (faO 1 r11.1 r65.2) fun r66 =>
      bnd (ldC r66.1 r66.2) fun r67 =>
      bnd (ixS 1 r65.1 r67.1 r67.2) fun r68 =>
      bnd (ldC r68.1 r68.2) fun r69 =>
      bnd (oBin Tryz.prog .lss 3 false false r58.1 r69.1 r69.2) fun r70 =>
      vIf r70.1 (
        bnd (oMv x1 r70.2) fun r71 =>
        bnd (oBin Tryz.prog .add 3 false true r71.1 (.int .i64 1) r71.2) fun r72 =>
        bnd (oMv r72.1 r72.2) fun r73 =>
        bnd (oMv r20.1 r73.2) fun r74 =>
        bnd (oMv r73.1 r74.2) fun r75 =>
        bnd (oMv r74.1 r75.2) fun r76 =>
        bnd (oMv r75.1 r76.2) fun r77 =>
        bnd (oMv (.int .i64 0) r77.2) fun r78 =>
        oRes Tryz.prog [(r76.1, none), (r77.1, none), (r78.1, none)] r78.2) (
        bnd (oMv r20.1 r70.2) fun r79 =>
        bnd (oMv r21.1 r79.2) fun r80 =>
        bnd (oMv r79.1 r80.2) fun r81 =>
        bnd (oMv r80.1 r81.2) fun r82 =>
        bnd (oMv (.int .i64 0) r82.2) fun r83 =>
        oRes Tryz.prog [(r81.1, none), (r82.1, none), (r83.1, none)] r83.2)))
theorem ref15_Sides_eq (call : Eng.Callee) (x0 x1 : Value) (W : AW) : kFun Tryz.prog call 44 (cod 21) (rss 21) [x0, x1] W = ref15_Sides call x0 x1 W := by kernel_rfl
theorem ref15_Sides_om {x0 x1 : Value} {W : AW} {r : Value × AW} (h : ref15_Sides omS x0 x1 W = some r) : omS (.func (.func 21) #[] #[]) [x0, x1] W = some (gc W r) := om_of (nt := 44) (n := 2) (by kernel_rfl) (by kernel_rfl) rfl ((ref15_Sides_eq omS x0 x1 W).trans h)
noncomputable def venue_Shard (call : Eng.Callee) (x0 x1 : Value) (W : AW) : Option (Value × AW) :=
  bnd (oBox x0 W) fun r1 =>
  bnd (oMv (.int .i64 0) r1.2) fun r2 =>
  bnd (oMv (.int .i64 0) r2.2) fun r3 =>
  bnd (ldA 4 r1.1 r3.2) fun r4 =>
  bnd (oMv x1 r4.2) fun r5 =>
  bnd (call (fnV 40) [r4.1, r5.1] r5.2) fun r6 =>
  bnd (oMv r6.1 r6.2) fun r7 =>
  bnd (oExtract r7.1 0 r7.2) fun r8 =>
  bnd (oExtract r7.1 1 r8.2) fun r9 =>
  bnd (oAlloc Tryz.prog 61 r9.2) fun r10 =>
  bnd (stV 4 r10.1 r8.1 r10.2) fun r11 =>
  bnd (oMv r9.1 r11.2) fun r12 =>
  bnd (oMv r12.1 r12.2) fun r13 =>
  bnd (oBin Tryz.prog .neq 29 false true r13.1 (.int .i64 0) r13.2) fun r14 =>
  vIf r14.1 (
    bnd (oMv r12.1 r14.2) fun r15 =>
    bnd (oMv (.int .i64 0) r15.2) fun r16 =>
    bnd (oMv r15.1 r16.2) fun r17 =>
    oRes Tryz.prog [(r16.1, none), (r17.1, none)] r17.2) (
    bnd (oMv x1 r14.2) fun r18 =>
    bnd (faO 0 r1.1 r18.2) fun r19 =>
    bnd (ldC r19.1 r19.2) fun r20 =>
    bnd (oBin Tryz.prog .rem 3 false false r18.1 r20.1 r20.2) fun r21 =>
    bnd (oMv r21.1 r21.2) fun r22 =>
    bnd (oMv (.int .i64 0) r22.2) fun r23 =>
    oRes Tryz.prog [(r22.1, none), (r23.1, none)] r23.2)
theorem venue_Shard_eq (call : Eng.Callee) (x0 x1 : Value) (W : AW) : kFun Tryz.prog call 21 (cod 22) (rss 22) [x0, x1] W = venue_Shard call x0 x1 W := by kernel_rfl
theorem venue_Shard_om {x0 x1 : Value} {W : AW} {r : Value × AW} (h : venue_Shard omS x0 x1 W = some r) : omS (.func (.func 22) #[] #[]) [x0, x1] W = some (gc W r) := om_of (nt := 21) (n := 2) (by kernel_rfl) (by kernel_rfl) rfl ((venue_Shard_eq omS x0 x1 W).trans h)
noncomputable def ref15_Shard (call : Eng.Callee) (x0 x1 : Value) (W : AW) : Option (Value × AW) :=
  bnd (oBox x0 W) fun r1 =>
  bnd (oMv (.int .i64 0) r1.2) fun r2 =>
  bnd (oMv (.int .i64 0) r2.2) fun r3 =>
  bnd (ldA 4 r1.1 r3.2) fun r4 =>
  bnd (oMv x1 r4.2) fun r5 =>
  bnd (call (fnV 13) [r4.1, r5.1] r5.2) fun r6 =>
  bnd (oMv r6.1 r6.2) fun r7 =>
  bnd (oExtract r7.1 0 r7.2) fun r8 =>
  bnd (oExtract r7.1 1 r8.2) fun r9 =>
  bnd (oAlloc Tryz.prog 34 r9.2) fun r10 =>
  bnd (stV 3 r10.1 r8.1 r10.2) fun r11 =>
  bnd (oMv r9.1 r11.2) fun r12 =>
  bnd (oMv r12.1 r12.2) fun r13 =>
  bnd (oBin Tryz.prog .neq 29 false true r13.1 (.int .i64 0) r13.2) fun r14 =>
  vIf r14.1 (
    bnd (oMv r12.1 r14.2) fun r15 =>
    bnd (oMv (.int .i64 0) r15.2) fun r16 =>
    bnd (oMv r15.1 r16.2) fun r17 =>
    oRes Tryz.prog [(r16.1, none), (r17.1, none)] r17.2) (
    bnd (oMv x1 r14.2) fun r18 =>
    bnd (faO 0 r1.1 r18.2) fun r19 =>
    bnd (ldC r19.1 r19.2) fun r20 =>
    bnd (oBin Tryz.prog .rem 3 false false r18.1 r20.1 r20.2) fun r21 =>
    bnd (oMv r21.1 r21.2) fun r22 =>
    bnd (oMv (.int .i64 0) r22.2) fun r23 =>
    oRes Tryz.prog [(r22.1, none), (r23.1, none)] r23.2)
theorem ref15_Shard_eq (call : Eng.Callee) (x0 x1 : Value) (W : AW) : kFun Tryz.prog call 21 (cod 23) (rss 23) [x0, x1] W = ref15_Shard call x0 x1 W := by kernel_rfl
theorem ref15_Shard_om {x0 x1 : Value} {W : AW} {r : Value × AW} (h : ref15_Shard omS x0 x1 W = some r) : omS (.func (.func 23) #[] #[]) [x0, x1] W = some (gc W r) := om_of (nt := 21) (n := 2) (by kernel_rfl) (by kernel_rfl) rfl ((ref15_Shard_eq omS x0 x1 W).trans h)
noncomputable def venue_Cover_L1 (call : Eng.Callee) (R : Nat → Value) (W : AW) : Option LT :=
  bnd (oBin Tryz.prog .lss 3 false false (R 25) (R 24) W) fun r25 =>
  vIf r25.1 (
    bnd (oMv (R 25) r25.2) fun r26 =>
    bnd (oMv r26.1 r26.2) fun r27 =>
    bnd (oMv (R 9) r27.2) fun r28 =>
    bnd (oMv (R 6) r28.2) fun r29 =>
    bnd (oMv r27.1 r29.2) fun r30 =>
    bnd (oBin Tryz.prog .add 3 false false r29.1 r30.1 r30.2) fun r31 =>
    bnd (faO 0 (R 2) r31.2) fun r32 =>
    bnd (ldC r32.1 r32.2) fun r33 =>
    bnd (oBin Tryz.prog .rem 3 false false r31.1 r33.1 r33.2) fun r34 =>
    bnd (oBuildSlice Tryz.prog 26 1 [(0, r34.1)] r34.2) fun r35 =>
    bnd (aAppend Tryz.prog r35.2 #[26, 26] r28.1 r35.1) fun r36 =>
    bnd (oMv r36.1 r36.2) fun r37 =>
    bnd (oBin Tryz.prog .add 3 false true (R 25) (.int .i64 1) r37.2) fun r38 =>
    bnd (oMv r38.1 r38.2) fun r39 =>
    some (X.normal, (rput (rput (rput (rput (rput (rput (rput (rput (rput (rput (rput (rput (rput (rput (rput R (some 26) r25.1) (some 27) r26.1) (some 10) r27.1) (some 28) r28.1) (some 29) r29.1) (some 30) r30.1) (some 31) r31.1) (some 32) r32.1) (some 33) r33.1) (some 34) r34.1) (some 35) r35.1) (some 36) r36.1) (some 9) r37.1) (some 37) r38.1) (some 25) r39.1), r39.2)) (
    some (X.exit 0, (rput R (some 26) r25.1), r25.2))
noncomputable def venue_Cover (call : Eng.Callee) (x0 x1 : Value) (W : AW) : Option (Value × AW) :=
  bnd (oBox x0 W) fun r1 =>
  bnd (oMv (.slice none 0 0) r1.2) fun r2 =>
  bnd (oMv (.int .i64 0) r2.2) fun r3 =>
  bnd (ldA 4 r1.1 r3.2) fun r4 =>
  bnd (oMv x1 r4.2) fun r5 =>
  bnd (call (fnV 16) [r4.1, r5.1] r5.2) fun r6 =>
  bnd (oMv r6.1 r6.2) fun r7 =>
  bnd (oExtract r7.1 0 r7.2) fun r8 =>
  bnd (oExtract r7.1 1 r8.2) fun r9 =>
  bnd (oExtract r7.1 2 r9.2) fun r10 =>
  bnd (oMv r8.1 r10.2) fun r11 =>
  bnd (oMv r9.1 r11.2) fun r12 =>
  bnd (oMv r10.1 r12.2) fun r13 =>
  bnd (oMv r13.1 r13.2) fun r14 =>
  bnd (oBin Tryz.prog .neq 29 false true r14.1 (.int .i64 0) r14.2) fun r15 =>
  vIf r15.1 (
    bnd (oMv r13.1 r15.2) fun r16 =>
    bnd (oMv (.slice none 0 0) r16.2) fun r17 =>
    bnd (oMv r16.1 r17.2) fun r18 =>
    oRes Tryz.prog [(r17.1, none), (r18.1, none)] r18.2) (
    bnd (oMv (.slice none 0 0) r15.2) fun r19 =>
    bnd (oMv r12.1 r19.2) fun r20 =>
    bnd (faO 0 r1.1 r20.2) fun r21 =>
    bnd (ldC r21.1 r21.2) fun r22 =>
    bnd (oBuiltin Tryz.prog .min #[3, 3] 3 #[false, false] [r20.1, r22.1] r22.2) fun r23 =>
    bnd (oMv (.int .i64 0) r23.2) fun r24 =>
    bnd (loopO (venue_Cover_L1 call) (rput (rput (rput (rput (rput (rput (rput (rput (rput (rput (rput (rput (rput (rput (rput (rput (rput (rput (rput (rput (rput (argGo 0 [x0, x1] PlanTab.blank) (some 2) r1.1) (some 4) r2.1) (some 5) r3.1) (some 12) r4.1) (some 13) r5.1) (some 14) r6.1) (some 11) r7.1) (some 15) r8.1) (some 16) r9.1) (some 17) r10.1) (some 6) r11.1) (some 7) r12.1) (some 8) r13.1) (some 18) r14.1) (some 19) r15.1) (some 9) r19.1) (some 21) r20.1) (some 22) r21.1) (some 23) r22.1) (some 24) r23.1) (some 25) r24.1) r24.2) fun r40 =>
    kExit 0 r40.1 (
      bnd (oMv (r40.2.1 9) r40.2.2) fun r41 =>
      bnd (call (fnV 42) [r41.1] r41.2) fun r42 =>
      bnd (oMv (r40.2.1 9) r42.2) fun r43 =>
      bnd (oMv r43.1 r43.2) fun r44 =>
      bnd (oMv (.int .i64 0) r44.2) fun r45 =>
      oRes Tryz.prog [(r44.1, none), (r45.1, none)] r45.2) (none))
theorem venue_Cover_eq (call : Eng.Callee) (x0 x1 : Value) (W : AW) : kFun Tryz.prog call 41 (cod 24) (rss 24) [x0, x1] W = venue_Cover call x0 x1 W := by kernel_rfl
theorem venue_Cover_om {x0 x1 : Value} {W : AW} {r : Value × AW} (h : venue_Cover omS x0 x1 W = some r) : omS (.func (.func 24) #[] #[]) [x0, x1] W = some (gc W r) := om_of (nt := 41) (n := 2) (by kernel_rfl) (by kernel_rfl) rfl ((venue_Cover_eq omS x0 x1 W).trans h)
noncomputable def ref15_Cover_L1_L2 (call : Eng.Callee) (R : Nat → Value) (W : AW) : Option LT :=
  bnd (oMv (R 12) W) fun r28 =>
  bnd (oMv (R 6) r28.2) fun r29 =>
  bnd (oMv (R 7) r29.2) fun r30 =>
  bnd (oBin Tryz.prog .add 3 false false r29.1 r30.1 r30.2) fun r31 =>
  bnd (oBin Tryz.prog .lss 3 false false r28.1 r31.1 r31.2) fun r32 =>
  vIf r32.1 (
    bnd (oMv (R 12) r32.2) fun r33 =>
    bnd (faO 0 (R 2) r33.2) fun r34 =>
    bnd (ldC r34.1 r34.2) fun r35 =>
    bnd (oBin Tryz.prog .rem 3 false false r33.1 r35.1 r35.2) fun r36 =>
    bnd (oMv (R 10) r36.2) fun r37 =>
    bnd (oBin Tryz.prog .eql 3 false false r36.1 r37.1 r37.2) fun r38 =>
    vIf r38.1 (
      bnd (oMv (.bool true) r38.2) fun r39 =>
      bnd (oMv (R 12) r39.2) fun r40 =>
      bnd (oBin Tryz.prog .add 3 false true r40.1 (.int .i64 1) r40.2) fun r41 =>
      bnd (oMv r41.1 r41.2) fun r42 =>
      some (X.normal, (rput (rput (rput (rput (rput (rput (rput (rput (rput (rput (rput (rput (rput (rput (rput R (some 30) r28.1) (some 31) r29.1) (some 32) r30.1) (some 33) r31.1) (some 34) r32.1) (some 37) r33.1) (some 38) r34.1) (some 39) r35.1) (some 40) r36.1) (some 41) r37.1) (some 42) r38.1) (some 11) r39.1) (some 35) r40.1) (some 36) r41.1) (some 12) r42.1), r42.2)) (
      bnd (oMv (R 12) r38.2) fun r43 =>
      bnd (oBin Tryz.prog .add 3 false true r43.1 (.int .i64 1) r43.2) fun r44 =>
      bnd (oMv r44.1 r44.2) fun r45 =>
      some (X.normal, (rput (rput (rput (rput (rput (rput (rput (rput (rput (rput (rput (rput (rput (rput R (some 30) r28.1) (some 31) r29.1) (some 32) r30.1) (some 33) r31.1) (some 34) r32.1) (some 37) r33.1) (some 38) r34.1) (some 39) r35.1) (some 40) r36.1) (some 41) r37.1) (some 42) r38.1) (some 35) r43.1) (some 36) r44.1) (some 12) r45.1), r45.2))) (
    some (X.exit 2, (rput (rput (rput (rput (rput R (some 30) r28.1) (some 31) r29.1) (some 32) r30.1) (some 33) r31.1) (some 34) r32.1), r32.2))
noncomputable def ref15_Cover_L1 (call : Eng.Callee) (R : Nat → Value) (W : AW) : Option LT :=
  bnd (oMv (R 10) W) fun r21 =>
  bnd (faO 0 (R 2) r21.2) fun r22 =>
  bnd (ldC r22.1 r22.2) fun r23 =>
  bnd (oBin Tryz.prog .lss 3 false false r21.1 r23.1 r23.2) fun r24 =>
  vIf r24.1 (
    bnd (oMv (.bool false) r24.2) fun r25 =>
    bnd (oMv (R 6) r25.2) fun r26 =>
    bnd (oMv r26.1 r26.2) fun r27 =>
    bnd (loopO (ref15_Cover_L1_L2 call) (rput (rput (rput (rput (rput (rput (rput R (some 23) r21.1) (some 24) r22.1) (some 25) r23.1) (some 26) r24.1) (some 11) r25.1) (some 29) r26.1) (some 12) r27.1) r27.2) fun r46 =>
    kExit 2 r46.1 (
      bnd (oMv (r46.2.1 11) r46.2.2) fun r47 =>
      vIf r47.1 (
        bnd (oMv (r46.2.1 9) r47.2) fun r48 =>
        bnd (oMv (r46.2.1 10) r48.2) fun r49 =>
        bnd (oBuildSlice Tryz.prog 26 1 [(0, r49.1)] r49.2) fun r50 =>
        bnd (aAppend Tryz.prog r50.2 #[26, 26] r48.1 r50.1) fun r51 =>
        bnd (oMv r51.1 r51.2) fun r52 =>
        bnd (oMv (r46.2.1 10) r52.2) fun r53 =>
        bnd (oBin Tryz.prog .add 3 false true r53.1 (.int .i64 1) r53.2) fun r54 =>
        bnd (oMv r54.1 r54.2) fun r55 =>
        some (X.normal, (rput (rput (rput (rput (rput (rput (rput (rput (rput r46.2.1 (some 43) r47.1) (some 44) r48.1) (some 45) r49.1) (some 46) r50.1) (some 47) r51.1) (some 9) r52.1) (some 27) r53.1) (some 28) r54.1) (some 10) r55.1), r55.2)) (
        bnd (oMv (r46.2.1 10) r47.2) fun r56 =>
        bnd (oBin Tryz.prog .add 3 false true r56.1 (.int .i64 1) r56.2) fun r57 =>
        bnd (oMv r57.1 r57.2) fun r58 =>
        some (X.normal, (rput (rput (rput (rput r46.2.1 (some 43) r47.1) (some 27) r56.1) (some 28) r57.1) (some 10) r58.1), r58.2))) (none)) (
    some (X.exit 0, (rput (rput (rput (rput R (some 23) r21.1) (some 24) r22.1) (some 25) r23.1) (some 26) r24.1), r24.2))
noncomputable def ref15_Cover (call : Eng.Callee) (x0 x1 : Value) (W : AW) : Option (Value × AW) :=
  bnd (oBox x0 W) fun r1 =>
  bnd (oMv (.slice none 0 0) r1.2) fun r2 =>
  bnd (oMv (.int .i64 0) r2.2) fun r3 =>
  bnd (ldA 4 r1.1 r3.2) fun r4 =>
  bnd (oMv x1 r4.2) fun r5 =>
  bnd (call (fnV 17) [r4.1, r5.1] r5.2) fun r6 =>
  bnd (oMv r6.1 r6.2) fun r7 =>
  bnd (oExtract r7.1 0 r7.2) fun r8 =>
  bnd (oExtract r7.1 1 r8.2) fun r9 =>
  bnd (oExtract r7.1 2 r9.2) fun r10 =>
  bnd (oMv r8.1 r10.2) fun r11 =>
  bnd (oMv r9.1 r11.2) fun r12 =>
  bnd (oMv r10.1 r12.2) fun r13 =>
  bnd (oMv r13.1 r13.2) fun r14 =>
  bnd (oBin Tryz.prog .neq 29 false true r14.1 (.int .i64 0) r14.2) fun r15 =>
  vIf r15.1 (
    bnd (oMv r13.1 r15.2) fun r16 =>
    bnd (oMv (.slice none 0 0) r16.2) fun r17 =>
    bnd (oMv r16.1 r17.2) fun r18 =>
    oRes Tryz.prog [(r17.1, none), (r18.1, none)] r18.2) (
    bnd (oMv (.slice none 0 0) r15.2) fun r19 =>
    bnd (oMv (.int .i64 0) r19.2) fun r20 =>
    bnd (loopO (ref15_Cover_L1 call) (rput (rput (rput (rput (rput (rput (rput (rput (rput (rput (rput (rput (rput (rput (rput (rput (rput (argGo 0 [x0, x1] PlanTab.blank) (some 2) r1.1) (some 4) r2.1) (some 5) r3.1) (some 14) r4.1) (some 15) r5.1) (some 16) r6.1) (some 13) r7.1) (some 17) r8.1) (some 18) r9.1) (some 19) r10.1) (some 6) r11.1) (some 7) r12.1) (some 8) r13.1) (some 20) r14.1) (some 21) r15.1) (some 9) r19.1) (some 10) r20.1) r20.2) fun r59 =>
    kExit 0 r59.1 (
      bnd (oMv (r59.2.1 9) r59.2.2) fun r60 =>
      bnd (oMv r60.1 r60.2) fun r61 =>
      bnd (oMv (.int .i64 0) r61.2) fun r62 =>
      oRes Tryz.prog [(r61.1, none), (r62.1, none)] r62.2) (none))
theorem ref15_Cover_eq (call : Eng.Callee) (x0 x1 : Value) (W : AW) : kFun Tryz.prog call 49 (cod 25) (rss 25) [x0, x1] W = ref15_Cover call x0 x1 W := by kernel_rfl
theorem ref15_Cover_om {x0 x1 : Value} {W : AW} {r : Value × AW} (h : ref15_Cover omS x0 x1 W = some r) : omS (.func (.func 25) #[] #[]) [x0, x1] W = some (gc W r) := om_of (nt := 49) (n := 2) (by kernel_rfl) (by kernel_rfl) rfl ((ref15_Cover_eq omS x0 x1 W).trans h)
noncomputable def venue_Lock (call : Eng.Callee) (x0 x1 : Value) (W : AW) : Option (Value × AW) :=
  bnd (oBox x0 W) fun r1 =>
  bnd (oMv (.int .i64 0) r1.2) fun r2 =>
  bnd (oMv (.int .i64 0) r2.2) fun r3 =>
  bnd (ldA 4 r1.1 r3.2) fun r4 =>
  bnd (oMv x1 r4.2) fun r5 =>
  bnd (call (fnV 16) [r4.1, r5.1] r5.2) fun r6 =>
  bnd (oMv r6.1 r6.2) fun r7 =>
  bnd (oExtract r7.1 0 r7.2) fun r8 =>
  bnd (oExtract r7.1 1 r8.2) fun r9 =>
  bnd (oExtract r7.1 2 r9.2) fun r10 =>
  bnd (oMv r8.1 r10.2) fun r11 =>
  bnd (oMv r9.1 r11.2) fun r12 =>
  bnd (oMv r10.1 r12.2) fun r13 =>
  bnd (oMv r13.1 r13.2) fun r14 =>
  bnd (oBin Tryz.prog .neq 29 false true r14.1 (.int .i64 0) r14.2) fun r15 =>
  vIf r15.1 (
    bnd (oMv r13.1 r15.2) fun r16 =>
    bnd (oMv (.int .i64 0) r16.2) fun r17 =>
    bnd (oMv r16.1 r17.2) fun r18 =>
    oRes Tryz.prog [(r17.1, none), (r18.1, none)] r18.2) (
    bnd (faO 0 r1.1 r15.2) fun r19 =>
    bnd (ldC r19.1 r19.2) fun r20 =>
    bnd (oMv x1 r20.2) fun r21 =>
    bnd (oBin Tryz.prog .add 3 false false r20.1 r21.1 r21.2) fun r22 =>
    bnd (oMv r22.1 r22.2) fun r23 =>
    bnd (oMv (.int .i64 0) r23.2) fun r24 =>
    oRes Tryz.prog [(r23.1, none), (r24.1, none)] r24.2)
theorem venue_Lock_eq (call : Eng.Callee) (x0 x1 : Value) (W : AW) : kFun Tryz.prog call 23 (cod 26) (rss 26) [x0, x1] W = venue_Lock call x0 x1 W := by kernel_rfl
theorem venue_Lock_om {x0 x1 : Value} {W : AW} {r : Value × AW} (h : venue_Lock omS x0 x1 W = some r) : omS (.func (.func 26) #[] #[]) [x0, x1] W = some (gc W r) := om_of (nt := 23) (n := 2) (by kernel_rfl) (by kernel_rfl) rfl ((venue_Lock_eq omS x0 x1 W).trans h)
noncomputable def ref15_Lock (call : Eng.Callee) (x0 x1 : Value) (W : AW) : Option (Value × AW) :=
  bnd (oBox x0 W) fun r1 =>
  bnd (oMv (.int .i64 0) r1.2) fun r2 =>
  bnd (oMv (.int .i64 0) r2.2) fun r3 =>
  bnd (ldA 4 r1.1 r3.2) fun r4 =>
  bnd (oMv x1 r4.2) fun r5 =>
  bnd (call (fnV 17) [r4.1, r5.1] r5.2) fun r6 =>
  bnd (oMv r6.1 r6.2) fun r7 =>
  bnd (oExtract r7.1 0 r7.2) fun r8 =>
  bnd (oExtract r7.1 1 r8.2) fun r9 =>
  bnd (oExtract r7.1 2 r9.2) fun r10 =>
  bnd (oMv r8.1 r10.2) fun r11 =>
  bnd (oMv r9.1 r11.2) fun r12 =>
  bnd (oMv r10.1 r12.2) fun r13 =>
  bnd (oMv r13.1 r13.2) fun r14 =>
  bnd (oBin Tryz.prog .neq 29 false true r14.1 (.int .i64 0) r14.2) fun r15 =>
  vIf r15.1 (
    bnd (oMv r13.1 r15.2) fun r16 =>
    bnd (oMv (.int .i64 0) r16.2) fun r17 =>
    bnd (oMv r16.1 r17.2) fun r18 =>
    oRes Tryz.prog [(r17.1, none), (r18.1, none)] r18.2) (
    bnd (faO 0 r1.1 r15.2) fun r19 =>
    bnd (ldC r19.1 r19.2) fun r20 =>
    bnd (oMv x1 r20.2) fun r21 =>
    bnd (oBin Tryz.prog .add 3 false false r20.1 r21.1 r21.2) fun r22 =>
    bnd (oMv r22.1 r22.2) fun r23 =>
    bnd (oMv (.int .i64 0) r23.2) fun r24 =>
    oRes Tryz.prog [(r23.1, none), (r24.1, none)] r24.2)
theorem ref15_Lock_eq (call : Eng.Callee) (x0 x1 : Value) (W : AW) : kFun Tryz.prog call 23 (cod 27) (rss 27) [x0, x1] W = ref15_Lock call x0 x1 W := by kernel_rfl
theorem ref15_Lock_om {x0 x1 : Value} {W : AW} {r : Value × AW} (h : ref15_Lock omS x0 x1 W = some r) : omS (.func (.func 27) #[] #[]) [x0, x1] W = some (gc W r) := om_of (nt := 23) (n := 2) (by kernel_rfl) (by kernel_rfl) rfl ((ref15_Lock_eq omS x0 x1 W).trans h)
noncomputable def venue_Find (call : Eng.Callee) (x0 x1 : Value) (W : AW) : Option (Value × AW) :=
  bnd (oBox x0 W) fun r1 =>
  bnd (oBox x1 r1.2) fun r2 =>
  bnd (oMv (.int .i64 0) r2.2) fun r3 =>
  bnd (oMv (.int .i64 0) r3.2) fun r4 =>
  bnd (ldA 4 r1.1 r4.2) fun r5 =>
  bnd (call (fnV 7) [r5.1] r5.2) fun r6 =>
  bnd (oMv r6.1 r6.2) fun r7 =>
  bnd (oExtract r7.1 0 r7.2) fun r8 =>
  bnd (oExtract r7.1 1 r8.2) fun r9 =>
  bnd (oMv r8.1 r9.2) fun r10 =>
  bnd (oMv r9.1 r10.2) fun r11 =>
  bnd (oMv r11.1 r11.2) fun r12 =>
  bnd (oBin Tryz.prog .neq 29 false true r12.1 (.int .i64 0) r12.2) fun r13 =>
  vIf r13.1 (
    bnd (oMv r11.1 r13.2) fun r14 =>
    bnd (oMv (.int .i64 0) r14.2) fun r15 =>
    bnd (oMv r14.1 r15.2) fun r16 =>
    oRes Tryz.prog [(r15.1, none), (r16.1, none)] r16.2) (
    bnd (faO 3 r1.1 r13.2) fun r17 =>
    bnd (ldC r17.1 r17.2) fun r18 =>
    bnd (oMkFunc (.func 44) #[] #[r2.1] r18.2) fun r19 =>
    bnd (call (fnV 43) [r18.1, r19.1] r19.2) fun r20 =>
    bnd (oMv r20.1 r20.2) fun r21 =>
    bnd (oMv r21.1 r21.2) fun r22 =>
    bnd (oBin Tryz.prog .lss 3 false true r22.1 (.int .i64 0) r22.2) fun r23 =>
    vIf r23.1 (
      bnd (oMv (.int .i64 0) r23.2) fun r24 =>
      bnd (oMv (.int .i64 4) r24.2) fun r25 =>
      oRes Tryz.prog [(r24.1, none), (r25.1, none)] r25.2) (
      bnd (oMv r21.1 r23.2) fun r26 =>
      bnd (oMv r26.1 r26.2) fun r27 =>
      bnd (oMv (.int .i64 0) r27.2) fun r28 =>
      oRes Tryz.prog [(r27.1, none), (r28.1, none)] r28.2))
theorem venue_Find_eq (call : Eng.Callee) (x0 x1 : Value) (W : AW) : kFun Tryz.prog call 24 (cod 28) (rss 28) [x0, x1] W = venue_Find call x0 x1 W := by kernel_rfl
theorem venue_Find_om {x0 x1 : Value} {W : AW} {r : Value × AW} (h : venue_Find omS x0 x1 W = some r) : omS (.func (.func 28) #[] #[]) [x0, x1] W = some (gc W r) := om_of (nt := 24) (n := 2) (by kernel_rfl) (by kernel_rfl) rfl ((venue_Find_eq omS x0 x1 W).trans h)
noncomputable def ref15_Find_L1 (call : Eng.Callee) (R : Nat → Value) (W : AW) : Option LT :=
  bnd (oMv (R 8) W) fun r17 =>
  bnd (faO 3 (R 2) r17.2) fun r18 =>
  bnd (ldC r18.1 r18.2) fun r19 =>
  bnd (oBuiltin Tryz.prog .len #[22] 3 #[false] [r19.1] r19.2) fun r20 =>
  bnd (oBin Tryz.prog .lss 3 false false r17.1 r20.1 r20.2) fun r21 =>
  vIf r21.1 (
    bnd (faO 3 (R 2) r21.2) fun r22 =>
    bnd (ldC r22.1 r22.2) fun r23 =>
    bnd (oMv (R 8) r23.2) fun r24 =>
    bnd (ixS 3 r23.1 r24.1 r24.2) fun r25 =>
    bnd (faO 0 r25.1 r25.2) fun r26 =>
    bnd (ldC r26.1 r26.2) fun r27 =>
    bnd (oMv (R 1) r27.2) fun r28 =>
    bnd (oBin Tryz.prog .eql 9 false false r27.1 r28.1 r28.2) fun r29 =>
    vIf r29.1 (
      bnd (oMv (R 8) r29.2) fun r30 =>
      bnd (oMv r30.1 r30.2) fun r31 =>
      bnd (oMv (.int .i64 0) r31.2) fun r32 =>
      some (X.ret, (rput (rput (rput (rput (rput (rput (rput (rput (rput (rput (rput (rput (rput (rput (rput (rput R (some 17) r17.1) (some 18) r18.1) (some 19) r19.1) (some 20) r20.1) (some 21) r21.1) (some 24) r22.1) (some 25) r23.1) (some 26) r24.1) (some 27) r25.1) (some 28) r26.1) (some 29) r27.1) (some 30) r28.1) (some 31) r29.1) (some 32) r30.1) (some 4) r31.1) (some 5) r32.1), r32.2)) (
      bnd (oMv (R 8) r29.2) fun r33 =>
      bnd (oBin Tryz.prog .add 3 false true r33.1 (.int .i64 1) r33.2) fun r34 =>
      bnd (oMv r34.1 r34.2) fun r35 =>
      some (X.normal, (rput (rput (rput (rput (rput (rput (rput (rput (rput (rput (rput (rput (rput (rput (rput (rput R (some 17) r17.1) (some 18) r18.1) (some 19) r19.1) (some 20) r20.1) (some 21) r21.1) (some 24) r22.1) (some 25) r23.1) (some 26) r24.1) (some 27) r25.1) (some 28) r26.1) (some 29) r27.1) (some 30) r28.1) (some 31) r29.1) (some 22) r33.1) (some 23) r34.1) (some 8) r35.1), r35.2))) (
    some (X.exit 0, (rput (rput (rput (rput (rput R (some 17) r17.1) (some 18) r18.1) (some 19) r19.1) (some 20) r20.1) (some 21) r21.1), r21.2))
noncomputable def ref15_Find (call : Eng.Callee) (x0 x1 : Value) (W : AW) : Option (Value × AW) :=
  bnd (oBox x0 W) fun r1 =>
  bnd (oMv (.int .i64 0) r1.2) fun r2 =>
  bnd (oMv (.int .i64 0) r2.2) fun r3 =>
  bnd (ldA 4 r1.1 r3.2) fun r4 =>
  bnd (call (fnV 8) [r4.1] r4.2) fun r5 =>
  bnd (oMv r5.1 r5.2) fun r6 =>
  bnd (oExtract r6.1 0 r6.2) fun r7 =>
  bnd (oExtract r6.1 1 r7.2) fun r8 =>
  bnd (oMv r7.1 r8.2) fun r9 =>
  bnd (oMv r8.1 r9.2) fun r10 =>
  bnd (oMv r10.1 r10.2) fun r11 =>
  bnd (oBin Tryz.prog .neq 29 false true r11.1 (.int .i64 0) r11.2) fun r12 =>
  vIf r12.1 (
    bnd (oMv r10.1 r12.2) fun r13 =>
    bnd (oMv (.int .i64 0) r13.2) fun r14 =>
    bnd (oMv r13.1 r14.2) fun r15 =>
    oRes Tryz.prog [(r14.1, none), (r15.1, none)] r15.2) (
    bnd (oMv (.int .i64 0) r12.2) fun r16 =>
    bnd (loopO (ref15_Find_L1 call) (rput (rput (rput (rput (rput (rput (rput (rput (rput (rput (rput (rput (rput (argGo 0 [x0, x1] PlanTab.blank) (some 2) r1.1) (some 4) r2.1) (some 5) r3.1) (some 10) r4.1) (some 11) r5.1) (some 9) r6.1) (some 12) r7.1) (some 13) r8.1) (some 6) r9.1) (some 7) r10.1) (some 14) r11.1) (some 15) r12.1) (some 8) r16.1) r16.2) fun r36 =>
    kExit 0 r36.1 (
      bnd (oMv (.int .i64 0) r36.2.2) fun r37 =>
      bnd (oMv (.int .i64 4) r37.2) fun r38 =>
      oRes Tryz.prog [(r37.1, none), (r38.1, none)] r38.2) (kRetX r36.1 (
      oRes Tryz.prog [((r36.2.1 4), none), ((r36.2.1 5), none)] r36.2.2)))
theorem ref15_Find_eq (call : Eng.Callee) (x0 x1 : Value) (W : AW) : kFun Tryz.prog call 33 (cod 29) (rss 29) [x0, x1] W = ref15_Find call x0 x1 W := by kernel_rfl
theorem ref15_Find_om {x0 x1 : Value} {W : AW} {r : Value × AW} (h : ref15_Find omS x0 x1 W = some r) : omS (.func (.func 29) #[] #[]) [x0, x1] W = some (gc W r) := om_of (nt := 33) (n := 2) (by kernel_rfl) (by kernel_rfl) rfl ((ref15_Find_eq omS x0 x1 W).trans h)
noncomputable def ref15_Ints_L1 (call : Eng.Callee) (R : Nat → Value) (W : AW) : Option LT :=
  bnd (oMv (R 5) W) fun r9 =>
  bnd (oMv (R 0) r9.2) fun r10 =>
  bnd (oBuiltin Tryz.prog .len #[26] 3 #[false] [r10.1] r10.2) fun r11 =>
  bnd (oBin Tryz.prog .lss 3 false false r9.1 r11.1 r11.2) fun r12 =>
  vIf r12.1 (
    bnd (oMv (R 0) r12.2) fun r13 =>
    bnd (oMv (R 5) r13.2) fun r14 =>
    bnd (ixS 1 r13.1 r14.1 r14.2) fun r15 =>
    bnd (ldC r15.1 r15.2) fun r16 =>
    bnd (oMv (R 1) r16.2) fun r17 =>
    bnd (oMv (R 5) r17.2) fun r18 =>
    bnd (ixS 1 r17.1 r18.1 r18.2) fun r19 =>
    bnd (ldC r19.1 r19.2) fun r20 =>
    bnd (oBin Tryz.prog .neq 3 false false r16.1 r20.1 r20.2) fun r21 =>
    vIf r21.1 (
      bnd (oMv (.bool false) r21.2) fun r22 =>
      some (X.ret, (rput (rput (rput (rput (rput (rput (rput (rput (rput (rput (rput (rput (rput (rput R (some 11) r9.1) (some 12) r10.1) (some 13) r11.1) (some 14) r12.1) (some 17) r13.1) (some 18) r14.1) (some 19) r15.1) (some 20) r16.1) (some 21) r17.1) (some 22) r18.1) (some 23) r19.1) (some 24) r20.1) (some 25) r21.1) (some 4) r22.1), r22.2)) (
      bnd (oMv (R 5) r21.2) fun r23 =>
      bnd (oBin Tryz.prog .add 3 false true r23.1 (.int .i64 1) r23.2) fun r24 =>
      bnd (oMv r24.1 r24.2) fun r25 =>
      some (X.normal, (rput (rput (rput (rput (rput (rput (rput (rput (rput (rput (rput (rput (rput (rput (rput (rput R (some 11) r9.1) (some 12) r10.1) (some 13) r11.1) (some 14) r12.1) (some 17) r13.1) (some 18) r14.1) (some 19) r15.1) (some 20) r16.1) (some 21) r17.1) (some 22) r18.1) (some 23) r19.1) (some 24) r20.1) (some 25) r21.1) (some 15) r23.1) (some 16) r24.1) (some 5) r25.1), r25.2))) (
    some (X.exit 0, (rput (rput (rput (rput R (some 11) r9.1) (some 12) r10.1) (some 13) r11.1) (some 14) r12.1), r12.2))
noncomputable def ref15_Ints (call : Eng.Callee) (x0 x1 : Value) (W : AW) : Option (Value × AW) :=
  bnd (oMv (.bool false) W) fun r1 =>
  bnd (oMv x0 r1.2) fun r2 =>
  bnd (oBuiltin Tryz.prog .len #[26] 3 #[false] [r2.1] r2.2) fun r3 =>
  bnd (oMv x1 r3.2) fun r4 =>
  bnd (oBuiltin Tryz.prog .len #[26] 3 #[false] [r4.1] r4.2) fun r5 =>
  bnd (oBin Tryz.prog .neq 3 false false r3.1 r5.1 r5.2) fun r6 =>
  vIf r6.1 (
    bnd (oMv (.bool false) r6.2) fun r7 =>
    oRes Tryz.prog [(r7.1, none)] r7.2) (
    bnd (oMv (.int .i64 0) r6.2) fun r8 =>
    bnd (loopO (ref15_Ints_L1 call) (rput (rput (rput (rput (rput (rput (rput (argGo 0 [x0, x1] PlanTab.blank) (some 4) r1.1) (some 6) r2.1) (some 7) r3.1) (some 8) r4.1) (some 9) r5.1) (some 10) r6.1) (some 5) r8.1) r8.2) fun r26 =>
    kExit 0 r26.1 (
      bnd (oMv (.bool true) r26.2.2) fun r27 =>
      oRes Tryz.prog [(r27.1, none)] r27.2) (kRetX r26.1 (
      oRes Tryz.prog [((r26.2.1 4), none)] r26.2.2)))
theorem ref15_Ints_eq (call : Eng.Callee) (x0 x1 : Value) (W : AW) : kFun Tryz.prog call 26 (cod 30) (rss 30) [x0, x1] W = ref15_Ints call x0 x1 W := by kernel_rfl
theorem ref15_Ints_om {x0 x1 : Value} {W : AW} {r : Value × AW} (h : ref15_Ints omS x0 x1 W = some r) : omS (.func (.func 30) #[] #[]) [x0, x1] W = some (gc W r) := om_of (nt := 26) (n := 2) (by kernel_rfl) (by kernel_rfl) rfl ((ref15_Ints_eq omS x0 x1 W).trans h)
noncomputable def venue_outsideint (call : Eng.Callee) (x0 x1 x2 : Value) (W : AW) : Option (Value × AW) :=
  bnd (oMv (.bool false) W) fun r1 =>
  bnd (oMv x0 r1.2) fun r2 =>
  bnd (oMv x1 r2.2) fun r3 =>
  bnd (oBin Tryz.prog .lss 3 false false r2.1 r3.1 r3.2) fun r4 =>
  bnd (oMv r4.1 r4.2) fun r5 =>
  bnd (bIf (wnt r5.1 false) (oMv x0 r5.2) (some (undef, r5.2))) fun r6 =>
  bnd (bIf (wnt r5.1 false) (oMv x2 r6.2) (some (undef, r6.2))) fun r7 =>
  bnd (bIf (wnt r5.1 false) (oBin Tryz.prog .gtr 3 false false r6.1 r7.1 r7.2) (some (undef, r7.2))) fun r8 =>
  bnd (oPick r5.1 (.bool true) r8.1 r8.2) fun r9 =>
  bnd (oMv r9.1 r9.2) fun r10 =>
  oRes Tryz.prog [(r10.1, none)] r10.2
theorem venue_outsideint_eq (call : Eng.Callee) (x0 x1 x2 : Value) (W : AW) : kFun Tryz.prog call 15 (cod 33) (rss 33) [x0, x1, x2] W = venue_outsideint call x0 x1 x2 W := by kernel_rfl
theorem venue_outsideint_om {x0 x1 x2 : Value} {W : AW} {r : Value × AW} (h : venue_outsideint omS x0 x1 x2 W = some r) : omS (.func (.func 33) #[] #[]) [x0, x1, x2] W = some (gc W r) := om_of (nt := 15) (n := 3) (by kernel_rfl) (by kernel_rfl) rfl ((venue_outsideint_eq omS x0 x1 x2 W).trans h)
noncomputable def venue_outsideint64 (call : Eng.Callee) (x0 x1 x2 : Value) (W : AW) : Option (Value × AW) :=
  bnd (oMv (.bool false) W) fun r1 =>
  bnd (oMv x0 r1.2) fun r2 =>
  bnd (oMv x1 r2.2) fun r3 =>
  bnd (oBin Tryz.prog .lss 2 false false r2.1 r3.1 r3.2) fun r4 =>
  bnd (oMv r4.1 r4.2) fun r5 =>
  bnd (bIf (wnt r5.1 false) (oMv x0 r5.2) (some (undef, r5.2))) fun r6 =>
  bnd (bIf (wnt r5.1 false) (oMv x2 r6.2) (some (undef, r6.2))) fun r7 =>
  bnd (bIf (wnt r5.1 false) (oBin Tryz.prog .gtr 2 false false r6.1 r7.1 r7.2) (some (undef, r7.2))) fun r8 =>
  bnd (oPick r5.1 (.bool true) r8.1 r8.2) fun r9 =>
  bnd (oMv r9.1 r9.2) fun r10 =>
  oRes Tryz.prog [(r10.1, none)] r10.2
theorem venue_outsideint64_eq (call : Eng.Callee) (x0 x1 x2 : Value) (W : AW) : kFun Tryz.prog call 15 (cod 34) (rss 34) [x0, x1, x2] W = venue_outsideint64 call x0 x1 x2 W := by kernel_rfl
theorem venue_outsideint64_om {x0 x1 x2 : Value} {W : AW} {r : Value × AW} (h : venue_outsideint64 omS x0 x1 x2 W = some r) : omS (.func (.func 34) #[] #[]) [x0, x1, x2] W = some (gc W r) := om_of (nt := 15) (n := 3) (by kernel_rfl) (by kernel_rfl) rfl ((venue_outsideint64_eq omS x0 x1 x2 W).trans h)
noncomputable def venue_check (call : Eng.Callee) (x0 x1 : Value) (W : AW) : Option (Value × AW) :=
  bnd (oBox x0 W) fun r1 =>
  bnd (oMv (.int .i64 0) r1.2) fun r2 =>
  bnd (faO 0 r1.1 r2.2) fun r3 =>
  bnd (ldC r3.1 r3.2) fun r4 =>
  bnd (call (fnV 51) [r4.1] r4.2) fun r5 =>
  bnd (oUn Tryz.prog .not r5.1 r5.2) fun r6 =>
  bnd (oMv r6.1 r6.2) fun r7 =>
  vIf r7.1 (
    bnd (oMv (.int .i64 6) r7.2) fun r8 =>
    oRes Tryz.prog [(r8.1, none)] r8.2) (
    bnd (oMv x1 r7.2) fun r9 =>
    bnd (oMkFunc (.func 53) #[] #[r1.1] r9.2) fun r10 =>
    bnd (call (fnV 52) [r9.1, r10.1] r10.2) fun r11 =>
    bnd (oMv r11.1 r11.2) fun r12 =>
    vIf r12.1 (
      bnd (oMv (.int .i64 8) r12.2) fun r13 =>
      oRes Tryz.prog [(r13.1, none)] r13.2) (
      bnd (faO 1 r1.1 r12.2) fun r14 =>
      bnd (ldC r14.1 r14.2) fun r15 =>
      bnd (oBuiltin Tryz.prog .len #[26] 3 #[false] [r15.1] r15.2) fun r16 =>
      bnd (oBin Tryz.prog .eql 3 false true r16.1 (.int .i64 0) r16.2) fun r17 =>
      bnd (oMv r17.1 r17.2) fun r18 =>
      vIf r18.1 (
        bnd (oMv (.int .i64 6) r18.2) fun r19 =>
        oRes Tryz.prog [(r19.1, none)] r19.2) (
        bnd (faO 1 r1.1 r18.2) fun r20 =>
        bnd (ldC r20.1 r20.2) fun r21 =>
        bnd (oBuiltin Tryz.prog .len #[26] 3 #[false] [r21.1] r21.2) fun r22 =>
        bnd (oBin Tryz.prog .gtr 3 false true r22.1 (.int .i64 16) r22.2) fun r23 =>
        bnd (oMv r23.1 r23.2) fun r24 =>
        vIf r24.1 (
          bnd (oMv (.int .i64 3) r24.2) fun r25 =>
          oRes Tryz.prog [(r25.1, none)] r25.2) (
          bnd (faO 1 r1.1 r24.2) fun r26 =>
          bnd (ldC r26.1 r26.2) fun r27 =>
          bnd (call (fnV 54) [r27.1, (fnV 55)] r27.2) fun r28 =>
          bnd (oMv r28.1 r28.2) fun r29 =>
          vIf r29.1 (
            bnd (oMv (.int .i64 7) r29.2) fun r30 =>
            oRes Tryz.prog [(r30.1, none)] r30.2) (
            bnd (faO 2 r1.1 r29.2) fun r31 =>
            bnd (ldC r31.1 r31.2) fun r32 =>
            bnd (call (fnV 33) [r32.1, (.int .i64 0), (.int .i64 64)] r32.2) fun r33 =>
            bnd (oMv r33.1 r33.2) fun r34 =>
            vIf r34.1 (
              bnd (oMv (.int .i64 7) r34.2) fun r35 =>
              oRes Tryz.prog [(r35.1, none)] r35.2) (
              bnd (oMv (.int .i64 0) r34.2) fun r36 =>
              oRes Tryz.prog [(r36.1, none)] r36.2))))))
theorem venue_check_eq (call : Eng.Callee) (x0 x1 : Value) (W : AW) : kFun Tryz.prog call 32 (cod 35) (rss 35) [x0, x1] W = venue_check call x0 x1 W := by kernel_rfl
theorem venue_check_om {x0 x1 : Value} {W : AW} {r : Value × AW} (h : venue_check omS x0 x1 W = some r) : omS (.func (.func 35) #[] #[]) [x0, x1] W = some (gc W r) := om_of (nt := 32) (n := 2) (by kernel_rfl) (by kernel_rfl) rfl ((venue_check_eq omS x0 x1 W).trans h)
noncomputable def ref15_within (call : Eng.Callee) (x0 x1 x2 : Value) (W : AW) : Option (Value × AW) :=
  bnd (oMv (.bool false) W) fun r1 =>
  bnd (oMv x0 r1.2) fun r2 =>
  bnd (oMv x1 r2.2) fun r3 =>
  bnd (oBin Tryz.prog .geq 2 false false r2.1 r3.1 r3.2) fun r4 =>
  bnd (oMv r4.1 r4.2) fun r5 =>
  bnd (bIf (wnt r5.1 true) (oMv x0 r5.2) (some (undef, r5.2))) fun r6 =>
  bnd (bIf (wnt r5.1 true) (oMv x2 r6.2) (some (undef, r6.2))) fun r7 =>
  bnd (bIf (wnt r5.1 true) (oBin Tryz.prog .leq 2 false false r6.1 r7.1 r7.2) (some (undef, r7.2))) fun r8 =>
  bnd (oPick r5.1 r8.1 (.bool false) r8.2) fun r9 =>
  bnd (oMv r9.1 r9.2) fun r10 =>
  oRes Tryz.prog [(r10.1, none)] r10.2
theorem ref15_within_eq (call : Eng.Callee) (x0 x1 x2 : Value) (W : AW) : kFun Tryz.prog call 15 (cod 36) (rss 36) [x0, x1, x2] W = ref15_within call x0 x1 x2 W := by kernel_rfl
theorem ref15_within_om {x0 x1 x2 : Value} {W : AW} {r : Value × AW} (h : ref15_within omS x0 x1 x2 W = some r) : omS (.func (.func 36) #[] #[]) [x0, x1, x2] W = some (gc W r) := om_of (nt := 15) (n := 3) (by kernel_rfl) (by kernel_rfl) rfl ((ref15_within_eq omS x0 x1 x2 W).trans h)
noncomputable def ref15_section_L1 (call : Eng.Callee) (R : Nat → Value) (W : AW) : Option LT :=
  bnd (oMv (R 6) W) fun r16 =>
  bnd (oMv (R 1) r16.2) fun r17 =>
  bnd (oBin Tryz.prog .lss 3 false false r16.1 r17.1 r17.2) fun r18 =>
  vIf r18.1 (
    bnd (faO 3 (R 2) r18.2) fun r19 =>
    bnd (ldC r19.1 r19.2) fun r20 =>
    bnd (oMv (R 6) r20.2) fun r21 =>
    bnd (ixS 3 r20.1 r21.1 r21.2) fun r22 =>
    bnd (faO 0 r22.1 r22.2) fun r23 =>
    bnd (ldC r23.1 r23.2) fun r24 =>
    bnd (faO 0 (R 5) r24.2) fun r25 =>
    bnd (ldC r25.1 r25.2) fun r26 =>
    bnd (oBin Tryz.prog .eql 9 false false r24.1 r26.1 r26.2) fun r27 =>
    vIf r27.1 (
      bnd (oMv (.int .i64 8) r27.2) fun r28 =>
      some (X.ret, (rput (rput (rput (rput (rput (rput (rput (rput (rput (rput (rput (rput (rput R (some 17) r16.1) (some 18) r17.1) (some 19) r18.1) (some 22) r19.1) (some 23) r20.1) (some 24) r21.1) (some 25) r22.1) (some 26) r23.1) (some 27) r24.1) (some 28) r25.1) (some 29) r26.1) (some 30) r27.1) (some 4) r28.1), r28.2)) (
      bnd (oMv (R 6) r27.2) fun r29 =>
      bnd (oBin Tryz.prog .add 3 false true r29.1 (.int .i64 1) r29.2) fun r30 =>
      bnd (oMv r30.1 r30.2) fun r31 =>
      some (X.normal, (rput (rput (rput (rput (rput (rput (rput (rput (rput (rput (rput (rput (rput (rput (rput R (some 17) r16.1) (some 18) r17.1) (some 19) r18.1) (some 22) r19.1) (some 23) r20.1) (some 24) r21.1) (some 25) r22.1) (some 26) r23.1) (some 27) r24.1) (some 28) r25.1) (some 29) r26.1) (some 30) r27.1) (some 20) r29.1) (some 21) r30.1) (some 6) r31.1), r31.2))) (
    some (X.exit 0, (rput (rput (rput R (some 17) r16.1) (some 18) r17.1) (some 19) r18.1), r18.2))
noncomputable def ref15_section_L2 (call : Eng.Callee) (R : Nat → Value) (W : AW) : Option LT :=
  bnd (oMv (R 7) W) fun r44 =>
  bnd (faO 1 (R 5) r44.2) fun r45 =>
  bnd (ldC r45.1 r45.2) fun r46 =>
  bnd (oBuiltin Tryz.prog .len #[26] 3 #[false] [r46.1] r46.2) fun r47 =>
  bnd (oBin Tryz.prog .lss 3 false false r44.1 r47.1 r47.2) fun r48 =>
  vIf r48.1 (
    bnd (faO 1 (R 5) r48.2) fun r49 =>
    bnd (ldC r49.1 r49.2) fun r50 =>
    bnd (oMv (R 7) r50.2) fun r51 =>
    bnd (ixS 1 r50.1 r51.1 r51.2) fun r52 =>
    bnd (ldC r52.1 r52.2) fun r53 =>
    bnd (call (fnV 36) [r53.1, (.int .i64 1), (.int .i64 64)] r53.2) fun r54 =>
    bnd (oUn Tryz.prog .not r54.1 r54.2) fun r55 =>
    vIf r55.1 (
      bnd (oMv (.int .i64 7) r55.2) fun r56 =>
      some (X.ret, (rput (rput (rput (rput (rput (rput (rput (rput (rput (rput (rput (rput (rput R (some 39) r44.1) (some 40) r45.1) (some 41) r46.1) (some 42) r47.1) (some 43) r48.1) (some 46) r49.1) (some 47) r50.1) (some 48) r51.1) (some 49) r52.1) (some 50) r53.1) (some 51) r54.1) (some 52) r55.1) (some 4) r56.1), r56.2)) (
      bnd (oMv (R 7) r55.2) fun r57 =>
      bnd (oBin Tryz.prog .add 3 false true r57.1 (.int .i64 1) r57.2) fun r58 =>
      bnd (oMv r58.1 r58.2) fun r59 =>
      some (X.normal, (rput (rput (rput (rput (rput (rput (rput (rput (rput (rput (rput (rput (rput (rput (rput R (some 39) r44.1) (some 40) r45.1) (some 41) r46.1) (some 42) r47.1) (some 43) r48.1) (some 46) r49.1) (some 47) r50.1) (some 48) r51.1) (some 49) r52.1) (some 50) r53.1) (some 51) r54.1) (some 52) r55.1) (some 44) r57.1) (some 45) r58.1) (some 7) r59.1), r59.2))) (
    some (X.exit 2, (rput (rput (rput (rput (rput R (some 39) r44.1) (some 40) r45.1) (some 41) r46.1) (some 42) r47.1) (some 43) r48.1), r48.2))
noncomputable def ref15_section (call : Eng.Callee) (x0 x1 : Value) (W : AW) : Option (Value × AW) :=
  bnd (oBox x0 W) fun r1 =>
  bnd (oMv (.int .i64 0) r1.2) fun r2 =>
  bnd (faO 3 r1.1 r2.2) fun r3 =>
  bnd (ldC r3.1 r3.2) fun r4 =>
  bnd (oMv x1 r4.2) fun r5 =>
  bnd (ixS 3 r4.1 r5.1 r5.2) fun r6 =>
  bnd (ldA 3 r6.1 r6.2) fun r7 =>
  bnd (oAlloc Tryz.prog 28 r7.2) fun r8 =>
  bnd (stV 3 r8.1 r7.1 r8.2) fun r9 =>
  bnd (faO 0 r8.1 r9.2) fun r10 =>
  bnd (ldC r10.1 r10.2) fun r11 =>
  bnd (call (fnV 56) [r11.1] r11.2) fun r12 =>
  bnd (oUn Tryz.prog .not r12.1 r12.2) fun r13 =>
  vIf r13.1 (
    bnd (oMv (.int .i64 6) r13.2) fun r14 =>
    oRes Tryz.prog [(r14.1, none)] r14.2) (
    bnd (oMv (.int .i64 0) r13.2) fun r15 =>
    bnd (loopO (ref15_section_L1 call) (rput (rput (rput (rput (rput (rput (rput (rput (rput (rput (rput (rput (rput (argGo 0 [x0, x1] PlanTab.blank) (some 2) r1.1) (some 4) r2.1) (some 8) r3.1) (some 9) r4.1) (some 10) r5.1) (some 11) r6.1) (some 12) r7.1) (some 5) r8.1) (some 13) r10.1) (some 14) r11.1) (some 15) r12.1) (some 16) r13.1) (some 6) r15.1) r15.2) fun r32 =>
    kExit 0 r32.1 (
      bnd (faO 1 (r32.2.1 5) r32.2.2) fun r33 =>
      bnd (ldC r33.1 r33.2) fun r34 =>
      bnd (oBuiltin Tryz.prog .len #[26] 3 #[false] [r34.1] r34.2) fun r35 =>
      bnd (oBin Tryz.prog .eql 3 false true r35.1 (.int .i64 0) r35.2) fun r36 =>
      vIf r36.1 (
        bnd (oMv (.int .i64 6) r36.2) fun r37 =>
        oRes Tryz.prog [(r37.1, none)] r37.2) (
        bnd (faO 1 (r32.2.1 5) r36.2) fun r38 =>
        bnd (ldC r38.1 r38.2) fun r39 =>
        bnd (oBuiltin Tryz.prog .len #[26] 3 #[false] [r39.1] r39.2) fun r40 =>
        bnd (oBin Tryz.prog .gtr 3 false true r40.1 (.int .i64 16) r40.2) fun r41 =>
        vIf r41.1 (
          bnd (oMv (.int .i64 3) r41.2) fun r42 =>
          oRes Tryz.prog [(r42.1, none)] r42.2) (
          bnd (oMv (.int .i64 0) r41.2) fun r43 =>
          bnd (loopO (ref15_section_L2 call) (rput (rput (rput (rput (rput (rput (rput (rput (rput r32.2.1 (some 31) r33.1) (some 32) r34.1) (some 33) r35.1) (some 34) r36.1) (some 35) r38.1) (some 36) r39.1) (some 37) r40.1) (some 38) r41.1) (some 7) r43.1) r43.2) fun r60 =>
          kExit 2 r60.1 (
            bnd (faO 2 (r60.2.1 5) r60.2.2) fun r61 =>
            bnd (ldC r61.1 r61.2) fun r62 =>
            bnd (call (fnV 36) [r62.1, (.int .i64 0), (.int .i64 64)] r62.2) fun r63 =>
            bnd (oUn Tryz.prog .not r63.1 r63.2) fun r64 =>
            vIf r64.1 (
              bnd (oMv (.int .i64 7) r64.2) fun r65 =>
              oRes Tryz.prog [(r65.1, none)] r65.2) (
              bnd (oMv (.int .i64 0) r64.2) fun r66 =>
              oRes Tryz.prog [(r66.1, none)] r66.2)) (kRetX r60.1 (
            oRes Tryz.prog [((r60.2.1 4), none)] r60.2.2))))) (kRetX r32.1 (
      oRes Tryz.prog [((r32.2.1 4), none)] r32.2.2)))
theorem ref15_section_eq (call : Eng.Callee) (x0 x1 : Value) (W : AW) : kFun Tryz.prog call 57 (cod 37) (rss 37) [x0, x1] W = ref15_section call x0 x1 W := by kernel_rfl
theorem ref15_section_om {x0 x1 : Value} {W : AW} {r : Value × AW} (h : ref15_section omS x0 x1 W = some r) : omS (.func (.func 37) #[] #[]) [x0, x1] W = some (gc W r) := om_of (nt := 57) (n := 2) (by kernel_rfl) (by kernel_rfl) rfl ((ref15_section_eq omS x0 x1 W).trans h)
noncomputable def ref15_Places_L1_L2_L3 (call : Eng.Callee) (R : Nat → Value) (W : AW) : Option LT :=
  bnd (oMv (R 6) W) fun r21 =>
  bnd (faO 3 (R 1) r21.2) fun r22 =>
  bnd (ldC r22.1 r22.2) fun r23 =>
  bnd (oMv (R 4) r23.2) fun r24 =>
  bnd (ixS 3 r23.1 r24.1 r24.2) fun r25 =>
  bnd (faO 1 r25.1 r25.2) fun r26 =>
  bnd (ldC r26.1 r26.2) fun r27 =>
  bnd (oMv (R 5) r27.2) fun r28 =>
  bnd (ixS 1 r27.1 r28.1 r28.2) fun r29 =>
  bnd (ldC r29.1 r29.2) fun r30 =>
  bnd (oBin Tryz.prog .lss 3 false false r21.1 r30.1 r30.2) fun r31 =>
  vIf r31.1 (
    bnd (oMv (R 3) r31.2) fun r32 =>
    bnd (oMv (R 4) r32.2) fun r33 =>
    bnd (oMv (R 5) r33.2) fun r34 =>
    bnd (oMv (R 6) r34.2) fun r35 =>
    bnd (oBuild Tryz.prog 34 [(0, r33.1), (1, r34.1), (2, r35.1)] r35.2) fun r36 =>
    bnd (oBuildSlice Tryz.prog 55 1 [(0, r36.1)] r36.2) fun r37 =>
    bnd (aAppend Tryz.prog r37.2 #[55, 55] r32.1 r37.1) fun r38 =>
    bnd (oMv r38.1 r38.2) fun r39 =>
    bnd (oMv (R 6) r39.2) fun r40 =>
    bnd (oBin Tryz.prog .add 3 false true r40.1 (.int .i64 1) r40.2) fun r41 =>
    bnd (oMv r41.1 r41.2) fun r42 =>
    some (X.normal, (rput (rput (rput (rput (rput (rput (rput (rput (rput (rput (rput (rput (rput (rput (rput (rput (rput (rput (rput (rput (rput (rput R (some 25) r21.1) (some 26) r22.1) (some 27) r23.1) (some 28) r24.1) (some 29) r25.1) (some 30) r26.1) (some 31) r27.1) (some 32) r28.1) (some 33) r29.1) (some 34) r30.1) (some 35) r31.1) (some 38) r32.1) (some 39) r33.1) (some 40) r34.1) (some 41) r35.1) (some 42) r36.1) (some 43) r37.1) (some 44) r38.1) (some 3) r39.1) (some 36) r40.1) (some 37) r41.1) (some 6) r42.1), r42.2)) (
    some (X.exit 4, (rput (rput (rput (rput (rput (rput (rput (rput (rput (rput (rput R (some 25) r21.1) (some 26) r22.1) (some 27) r23.1) (some 28) r24.1) (some 29) r25.1) (some 30) r26.1) (some 31) r27.1) (some 32) r28.1) (some 33) r29.1) (some 34) r30.1) (some 35) r31.1), r31.2))
noncomputable def ref15_Places_L1_L2 (call : Eng.Callee) (R : Nat → Value) (W : AW) : Option LT :=
  bnd (oMv (R 5) W) fun r11 =>
  bnd (faO 3 (R 1) r11.2) fun r12 =>
  bnd (ldC r12.1 r12.2) fun r13 =>
  bnd (oMv (R 4) r13.2) fun r14 =>
  bnd (ixS 3 r13.1 r14.1 r14.2) fun r15 =>
  bnd (faO 1 r15.1 r15.2) fun r16 =>
  bnd (ldC r16.1 r16.2) fun r17 =>
  bnd (oBuiltin Tryz.prog .len #[26] 3 #[false] [r17.1] r17.2) fun r18 =>
  bnd (oBin Tryz.prog .lss 3 false false r11.1 r18.1 r18.2) fun r19 =>
  vIf r19.1 (
    bnd (oMv (.int .i64 0) r19.2) fun r20 =>
    bnd (loopO (ref15_Places_L1_L2_L3 call) (rput (rput (rput (rput (rput (rput (rput (rput (rput (rput R (some 14) r11.1) (some 15) r12.1) (some 16) r13.1) (some 17) r14.1) (some 18) r15.1) (some 19) r16.1) (some 20) r17.1) (some 21) r18.1) (some 22) r19.1) (some 6) r20.1) r20.2) fun r43 =>
    kExit 4 r43.1 (
      bnd (oMv (r43.2.1 5) r43.2.2) fun r44 =>
      bnd (oBin Tryz.prog .add 3 false true r44.1 (.int .i64 1) r44.2) fun r45 =>
      bnd (oMv r45.1 r45.2) fun r46 =>
      some (X.normal, (rput (rput (rput r43.2.1 (some 23) r44.1) (some 24) r45.1) (some 5) r46.1), r46.2)) (none)) (
    some (X.exit 2, (rput (rput (rput (rput (rput (rput (rput (rput (rput R (some 14) r11.1) (some 15) r12.1) (some 16) r13.1) (some 17) r14.1) (some 18) r15.1) (some 19) r16.1) (some 20) r17.1) (some 21) r18.1) (some 22) r19.1), r19.2))
noncomputable def ref15_Places_L1 (call : Eng.Callee) (R : Nat → Value) (W : AW) : Option LT :=
  bnd (oMv (R 4) W) fun r5 =>
  bnd (faO 3 (R 1) r5.2) fun r6 =>
  bnd (ldC r6.1 r6.2) fun r7 =>
  bnd (oBuiltin Tryz.prog .len #[22] 3 #[false] [r7.1] r7.2) fun r8 =>
  bnd (oBin Tryz.prog .lss 3 false false r5.1 r8.1 r8.2) fun r9 =>
  vIf r9.1 (
    bnd (oMv (.int .i64 0) r9.2) fun r10 =>
    bnd (loopO (ref15_Places_L1_L2 call) (rput (rput (rput (rput (rput (rput R (some 7) r5.1) (some 8) r6.1) (some 9) r7.1) (some 10) r8.1) (some 11) r9.1) (some 5) r10.1) r10.2) fun r47 =>
    kExit 2 r47.1 (
      bnd (oMv (r47.2.1 4) r47.2.2) fun r48 =>
      bnd (oBin Tryz.prog .add 3 false true r48.1 (.int .i64 1) r48.2) fun r49 =>
      bnd (oMv r49.1 r49.2) fun r50 =>
      some (X.normal, (rput (rput (rput r47.2.1 (some 12) r48.1) (some 13) r49.1) (some 4) r50.1), r50.2)) (none)) (
    some (X.exit 0, (rput (rput (rput (rput (rput R (some 7) r5.1) (some 8) r6.1) (some 9) r7.1) (some 10) r8.1) (some 11) r9.1), r9.2))
noncomputable def ref15_Places (call : Eng.Callee) (x0 : Value) (W : AW) : Option (Value × AW) :=
  bnd (oBox x0 W) fun r1 =>
  bnd (oMv (.slice none 0 0) r1.2) fun r2 =>
  bnd (oMv (.slice none 0 0) r2.2) fun r3 =>
  bnd (oMv (.int .i64 0) r3.2) fun r4 =>
  bnd (loopO (ref15_Places_L1 call) (rput (rput (rput (rput (argGo 0 [x0] PlanTab.blank) (some 1) r1.1) (some 2) r2.1) (some 3) r3.1) (some 4) r4.1) r4.2) fun r51 =>
  kExit 0 r51.1 (
    bnd (oMv (r51.2.1 3) r51.2.2) fun r52 =>
    bnd (oMv r52.1 r52.2) fun r53 =>
    oRes Tryz.prog [(r53.1, none)] r53.2) (none)
theorem ref15_Places_eq (call : Eng.Callee) (x0 : Value) (W : AW) : kFun Tryz.prog call 46 (cod 38) (rss 38) [x0] W = ref15_Places call x0 W := by kernel_rfl
theorem ref15_Places_om {x0 : Value} {W : AW} {r : Value × AW} (h : ref15_Places omS x0 W = some r) : omS (.func (.func 38) #[] #[]) [x0] W = some (gc W r) := om_of (nt := 46) (n := 1) (by kernel_rfl) (by kernel_rfl) rfl ((ref15_Places_eq omS x0 W).trans h)
noncomputable def venue_rows (call : Eng.Callee) (x0 : Value) (W : AW) : Option (Value × AW) :=
  bnd (oBox x0 W) fun r1 =>
  bnd (oMv .nilFunc r1.2) fun r2 =>
  bnd (oMkFunc (.func 57) #[] #[r1.1] r2.2) fun r3 =>
  bnd (oMv r3.1 r3.2) fun r4 =>
  oRes Tryz.prog [(r4.1, none)] r4.2
theorem venue_rows_eq (call : Eng.Callee) (x0 : Value) (W : AW) : kFun Tryz.prog call 4 (cod 39) (rss 39) [x0] W = venue_rows call x0 W := by kernel_rfl
theorem venue_rows_om {x0 : Value} {W : AW} {r : Value × AW} (h : venue_rows omS x0 W = some r) : omS (.func (.func 39) #[] #[]) [x0] W = some (gc W r) := om_of (nt := 4) (n := 1) (by kernel_rfl) (by kernel_rfl) rfl ((venue_rows_eq omS x0 W).trans h)
noncomputable def venue_find_Y1a (call : Eng.Callee) (R : Nat → Value) (W : AW) : Option LT :=
  bnd (oAlloc Tryz.prog 61 W) fun r20 =>
  bnd (stV 4 r20.1 (R 20) r20.2) fun r21 =>
  some (X.normal, (rput R (some 8) r20.1), r21.2)
theorem venue_find_Y1a_eq (call : Eng.Callee) (R : Nat → Value) (W : AW) : kCode Tryz.prog call false 36 (cAt [1, 1, 0, 1, 0, 0] (cod 40)) LT R W ret3 = venue_find_Y1a call R W := by kernel_rfl
noncomputable def venue_find_Y1b (call : Eng.Callee) (R : Nat → Value) (W : AW) : Option LT :=
  bnd (ldC (R 3) W) fun r22 =>
  bnd (faO 2 (R 8) r22.2) fun r23 =>
  bnd (ldC r23.1 r23.2) fun r24 =>
  bnd (oBin Tryz.prog .geq 3 false false r22.1 r24.1 r24.2) fun r25 =>
  bnd (oMv r25.1 r25.2) fun r26 =>
  bnd (bIf (wnt r26.1 true) (ldC (R 3) r26.2) (some (undef, r26.2))) fun r27 =>
  bnd (bIf (wnt r26.1 true) (faO 2 (R 8) r27.2) (some (undef, r27.2))) fun r28 =>
  bnd (bIf (wnt r26.1 true) (ldC r28.1 r28.2) (some (undef, r28.2))) fun r29 =>
  bnd (bIf (wnt r26.1 true) (faO 3 (R 8) r29.2) (some (undef, r29.2))) fun r30 =>
  bnd (bIf (wnt r26.1 true) (ldC r30.1 r30.2) (some (undef, r30.2))) fun r31 =>
  bnd (bIf (wnt r26.1 true) (oBin Tryz.prog .add 3 false false r29.1 r31.1 r31.2) (some (undef, r31.2))) fun r32 =>
  bnd (bIf (wnt r26.1 true) (oBin Tryz.prog .lss 3 false false r27.1 r32.1 r32.2) (some (undef, r32.2))) fun r33 =>
  bnd (oPick r26.1 r33.1 (.bool false) r33.2) fun r34 =>
  vIf r34.1 (
    bnd (ldA 4 (R 8) r34.2) fun r35 =>
    bnd (stV 4 (R 4) r35.1 r35.2) fun r36 =>
    bnd (stV 1 (R 5) (.int .i64 0) r36.2) fun r37 =>
    some (X.ret, (rput (rput (rput (rput (rput (rput (rput (rput (rput (rput (rput (rput (rput (rput R (some 21) r22.1) (some 22) r23.1) (some 23) r24.1) (some 24) r25.1) (some 25) r26.1) (some 26) r27.1) (some 27) r28.1) (some 28) r29.1) (some 29) r30.1) (some 30) r31.1) (some 31) r32.1) (some 32) r33.1) (some 33) r34.1) (some 34) r35.1), r37.2)) (
    some (X.normal, (rput (rput (rput (rput (rput (rput (rput (rput (rput (rput (rput (rput (rput R (some 21) r22.1) (some 22) r23.1) (some 23) r24.1) (some 24) r25.1) (some 25) r26.1) (some 26) r27.1) (some 27) r28.1) (some 28) r29.1) (some 29) r30.1) (some 30) r31.1) (some 31) r32.1) (some 32) r33.1) (some 33) r34.1), r34.2))
theorem venue_find_Y1b_eq (call : Eng.Callee) (R : Nat → Value) (W : AW) : kCode Tryz.prog call false 36 (cAt [1, 1, 0, 1, 0, 1] (cod 40)) LT R W ret3 = venue_find_Y1b call R W := by kernel_rfl
noncomputable def venue_find (call : Eng.Callee) (x0 x1 : Value) (W : AW) : Option (Value × AW) :=
  bnd (oBox x0 W) fun r1 =>
  bnd (oBox x1 r1.2) fun r2 =>
  bnd (oAlloc Tryz.prog 61 r2.2) fun r3 =>
  bnd (oAlloc Tryz.prog 29 r3.2) fun r4 =>
  bnd (ldA 4 r1.1 r4.2) fun r5 =>
  bnd (call (fnV 7) [r5.1] r5.2) fun r6 =>
  bnd (oMv r6.1 r6.2) fun r7 =>
  bnd (oExtract r7.1 0 r7.2) fun r8 =>
  bnd (oExtract r7.1 1 r8.2) fun r9 =>
  bnd (oMv r8.1 r9.2) fun r10 =>
  bnd (oMv r9.1 r10.2) fun r11 =>
  bnd (oMv r11.1 r11.2) fun r12 =>
  bnd (oBin Tryz.prog .neq 29 false true r12.1 (.int .i64 0) r12.2) fun r13 =>
  vIf r13.1 (
    bnd (oBuild Tryz.prog 61 [] r13.2) fun r14 =>
    bnd (oMv r11.1 r14.2) fun r15 =>
    bnd (stV 4 r3.1 r14.1 r15.2) fun r16 =>
    bnd (stV 1 r4.1 r15.1 r16.2) fun r17 =>
    oRes Tryz.prog [(r3.1, some 61), (r4.1, some 29)] r17.2) (
    bnd (ldA 4 r1.1 r13.2) fun r18 =>
    bnd (call (fnV 39) [r18.1] r18.2) fun r19 =>
    bnd (oRange call r19.1 (.loop .ready none (rput (rput (rput (rput (rput (rput (rput (rput (rput (rput (rput (rput (rput (rput (rput (argGo 0 [x0, x1] PlanTab.blank) (some 2) r1.1) (some 3) r2.1) (some 4) r3.1) (some 5) r4.1) (some 10) r5.1) (some 11) r6.1) (some 9) r7.1) (some 12) r8.1) (some 13) r9.1) (some 6) r10.1) (some 7) r11.1) (some 14) r12.1) (some 15) r13.1) (some 18) r18.1) (some 19) r19.1) 36 #[20] (cAt [1, 1, 0, 1, 0, 0] (cod 40)) (cAt [1, 1, 0, 1, 0, 1] (cod 40))) r19.2) fun r38 =>
    kNorm r38.1 (
      bnd (oBuild Tryz.prog 61 [] r38.2) fun r39 =>
      bnd (stV 4 r3.1 r39.1 r39.2) fun r40 =>
      bnd (stV 1 r4.1 (.int .i64 4) r40.2) fun r41 =>
      oRes Tryz.prog [(r3.1, some 61), (r4.1, some 29)] r41.2) (kRetX r38.1 (
      oRes Tryz.prog [(r3.1, some 61), (r4.1, some 29)] r38.2)))
theorem venue_find_eq (call : Eng.Callee) (x0 x1 : Value) (W : AW) : kFun Tryz.prog call 36 (cod 40) (rss 40) [x0, x1] W = venue_find call x0 x1 W := by kernel_rfl
theorem venue_find_om {x0 x1 : Value} {W : AW} {r : Value × AW} (h : venue_find omS x0 x1 W = some r) : omS (.func (.func 40) #[] #[]) [x0, x1] W = some (gc W r) := om_of (nt := 36) (n := 2) (by kernel_rfl) (by kernel_rfl) rfl ((venue_find_eq omS x0 x1 W).trans h)
noncomputable def ref15_some_L1 (call : Eng.Callee) (R : Nat → Value) (W : AW) : Option LT :=
  bnd (oMv (R 14) W) fun r24 =>
  bnd (oMv (R 13) r24.2) fun r25 =>
  bnd (oBuiltin Tryz.prog .len #[55] 3 #[false] [r25.1] r25.2) fun r26 =>
  bnd (oBin Tryz.prog .lss 3 false false r24.1 r26.1 r26.2) fun r27 =>
  vIf r27.1 (
    bnd (oMv (R 13) r27.2) fun r28 =>
    bnd (oMv (R 14) r28.2) fun r29 =>
    bnd (ixS 3 r28.1 r29.1 r29.2) fun r30 =>
    bnd (faO 0 r30.1 r30.2) fun r31 =>
    bnd (ldC r31.1 r31.2) fun r32 =>
    bnd (oMv (R 1) r32.2) fun r33 =>
    bnd (oBin Tryz.prog .eql 3 false false r32.1 r33.1 r33.2) fun r34 =>
    bnd (oMv r34.1 r34.2) fun r35 =>
    bnd (bIf (wnt r35.1 true) (oMv (R 2) r35.2) (some (undef, r35.2))) fun r36 =>
    bnd (bIf (wnt r35.1 true) (oBin Tryz.prog .eql 3 false true r36.1 (.int .i64 (-1)) r36.2) (some (undef, r36.2))) fun r37 =>
    bnd (bIf (wnt r35.1 true) (oMv r37.1 r37.2) (some (undef, r37.2))) fun r38 =>
    bnd (bIf (wnt r38.1 false) (oMv (R 13) r38.2) (some (undef, r38.2))) fun r39 =>
    bnd (bIf (wnt r38.1 false) (oMv (R 14) r39.2) (some (undef, r39.2))) fun r40 =>
    bnd (bIf (wnt r38.1 false) (ixS 3 r39.1 r40.1 r40.2) (some (undef, r40.2))) fun r41 =>
    bnd (bIf (wnt r38.1 false) (faO 1 r41.1 r41.2) (some (undef, r41.2))) fun r42 =>
    bnd (bIf (wnt r38.1 false) (ldC r42.1 r42.2) (some (undef, r42.2))) fun r43 =>
    bnd (bIf (wnt r38.1 false) (oMv (R 2) r43.2) (some (undef, r43.2))) fun r44 =>
    bnd (bIf (wnt r38.1 false) (oBin Tryz.prog .eql 3 false false r43.1 r44.1 r44.2) (some (undef, r44.2))) fun r45 =>
    bnd (bIf (wnt r35.1 true) (oPick r38.1 (.bool true) r45.1 r45.2) (some (undef, r45.2))) fun r46 =>
    bnd (oPick r35.1 r46.1 (.bool false) r46.2) fun r47 =>
    vIf r47.1 (
      bnd (oMv (R 12) r47.2) fun r48 =>
      bnd (oBin Tryz.prog .eql 3 false true r48.1 (.int .i64 0) r48.2) fun r49 =>
      vIf r49.1 (
        bnd (oMv (R 14) r49.2) fun r50 =>
        bnd (oMv r50.1 r50.2) fun r51 =>
        bnd (oMv (R 12) r51.2) fun r52 =>
        bnd (oBin Tryz.prog .add 3 false true r52.1 (.int .i64 1) r52.2) fun r53 =>
        bnd (oMv r53.1 r53.2) fun r54 =>
        bnd (oMv (R 14) r54.2) fun r55 =>
        bnd (oBin Tryz.prog .add 3 false true r55.1 (.int .i64 1) r55.2) fun r56 =>
        bnd (oMv r56.1 r56.2) fun r57 =>
        some (X.normal, (rput (rput (rput (rput (rput (rput (rput (rput (rput (rput (rput (rput (rput (rput (rput (rput (rput (rput (rput (rput (rput (rput (rput (rput (rput (rput (rput (rput (rput (rput (rput (rput (rput (rput R (some 25) r24.1) (some 26) r25.1) (some 27) r26.1) (some 28) r27.1) (some 31) r28.1) (some 32) r29.1) (some 33) r30.1) (some 34) r31.1) (some 35) r32.1) (some 36) r33.1) (some 37) r34.1) (some 38) r35.1) (some 39) r36.1) (some 40) r37.1) (some 41) r38.1) (some 42) r39.1) (some 43) r40.1) (some 44) r41.1) (some 45) r42.1) (some 46) r43.1) (some 47) r44.1) (some 48) r45.1) (some 49) r46.1) (some 50) r47.1) (some 51) r48.1) (some 52) r49.1) (some 53) r50.1) (some 11) r51.1) (some 54) r52.1) (some 55) r53.1) (some 12) r54.1) (some 29) r55.1) (some 30) r56.1) (some 14) r57.1), r57.2)) (
        bnd (oMv (R 12) r49.2) fun r58 =>
        bnd (oBin Tryz.prog .add 3 false true r58.1 (.int .i64 1) r58.2) fun r59 =>
        bnd (oMv r59.1 r59.2) fun r60 =>
        bnd (oMv (R 14) r60.2) fun r61 =>
        bnd (oBin Tryz.prog .add 3 false true r61.1 (.int .i64 1) r61.2) fun r62 =>
        bnd (oMv r62.1 r62.2) fun r63 =>
        some (X.normal, (rput (rput (rput (rput (rput (rput (rput (rput (rput (rput (rput (rput (rput (rput (rput (rput (rput (rput (rput (rput (rput (rput (rput (rput (rput (rput (rput (rput (rput (rput (rput (rput R (some 25) r24.1) (some 26) r25.1) (some 27) r26.1) (some 28) r27.1) (some 31) r28.1) (some 32) r29.1) (some 33) r30.1) (some 34) r31.1) (some 35) r32.1) (some 36) r33.1) (some 37) r34.1) (some 38) r35.1) (some 39) r36.1) (some 40) r37.1) (some 41) r38.1) (some 42) r39.1) (some 43) r40.1) (some 44) r41.1) (some 45) r42.1) (some 46) r43.1) (some 47) r44.1) (some 48) r45.1) (some 49) r46.1) (some 50) r47.1) (some 51) r48.1) (some 52) r49.1) (some 54) r58.1) (some 55) r59.1) (some 12) r60.1) (some 29) r61.1) (some 30) r62.1) (some 14) r63.1), r63.2))) (
      bnd (oMv (R 14) r47.2) fun r64 =>
      bnd (oBin Tryz.prog .add 3 false true r64.1 (.int .i64 1) r64.2) fun r65 =>
      bnd (oMv r65.1 r65.2) fun r66 =>
      some (X.normal, (rput (rput (rput (rput (rput (rput (rput (rput (rput (rput (rput (rput (rput (rput (rput (rput (rput (rput (rput (rput (rput (rput (rput (rput (rput (rput (rput R (some 25) r24.1) (some 26) r25.1) (some 27) r26.1) (some 28) r27.1) (some 31) r28.1) (some 32) r29.1) (some 33) r30.1) (some 34) r31.1) (some 35) r32.1) (some 36) r33.1) (some 37) r34.1) (some 38) r35.1) (some 39) r36.1) (some 40) r37.1) (some 41) r38.1) (some 42) r39.1) (some 43) r40.1) (some 44) r41.1) (some 45) r42.1) (some 46) r43.1) (some 47) r44.1) (some 48) r45.1) (some 49) r46.1) (some 50) r47.1) (some 29) r64.1) (some 30) r65.1) (some 14) r66.1), r66.2))) (
    some (X.exit 0, (rput (rput (rput (rput R (some 25) r24.1) (some 26) r25.1) (some 27) r26.1) (some 28) r27.1), r27.2))
noncomputable def ref15_some (call : Eng.Callee) (x0 x1 x2 : Value) (W : AW) : Option (Value × AW) :=
  bnd (oBox x0 W) fun r1 =>
  bnd (oMv (.int .i64 0) r1.2) fun r2 =>
  bnd (oMv (.int .i64 0) r2.2) fun r3 =>
  bnd (oMv (.int .i64 0) r3.2) fun r4 =>
  bnd (ldA 4 r1.1 r4.2) fun r5 =>
  bnd (call (fnV 8) [r5.1] r5.2) fun r6 =>
  bnd (oMv r6.1 r6.2) fun r7 =>
  bnd (oExtract r7.1 0 r7.2) fun r8 =>
  bnd (oExtract r7.1 1 r8.2) fun r9 =>
  bnd (oMv r8.1 r9.2) fun r10 =>
  bnd (oMv r9.1 r10.2) fun r11 =>
  bnd (oMv r11.1 r11.2) fun r12 =>
  bnd (oBin Tryz.prog .neq 29 false true r12.1 (.int .i64 0) r12.2) fun r13 =>
  vIf r13.1 (
    bnd (oMv r11.1 r13.2) fun r14 =>
    bnd (oMv (.int .i64 0) r14.2) fun r15 =>
    bnd (oMv (.int .i64 0) r15.2) fun r16 =>
    bnd (oMv r14.1 r16.2) fun r17 =>
    oRes Tryz.prog [(r15.1, none), (r16.1, none), (r17.1, none)] r17.2) (
    bnd (oMv (.int .i64 0) r13.2) fun r18 =>
    bnd (oMv (.int .i64 0) r18.2) fun r19 =>
    bnd (ldA 4 r1.1 r19.2) fun r20 =>
    bnd (call (fnV 38) [r20.1] r20.2) fun r21 =>
    bnd (oMv r21.1 r21.2) fun r22 =>
    bnd (oMv (.int .i64 0) r22.2) fun r23 =>
    bnd (loopO (ref15_some_L1 call) (rput (rput (rput (rput (rput (rput (rput (rput (rput (rput (rput (rput (rput (rput (rput (rput (rput (rput (rput (argGo 0 [x0, x1, x2] PlanTab.blank) (some 3) r1.1) (some 6) r2.1) (some 7) r3.1) (some 8) r4.1) (some 16) r5.1) (some 17) r6.1) (some 15) r7.1) (some 18) r8.1) (some 19) r9.1) (some 9) r10.1) (some 10) r11.1) (some 20) r12.1) (some 21) r13.1) (some 11) r18.1) (some 12) r19.1) (some 23) r20.1) (some 24) r21.1) (some 13) r22.1) (some 14) r23.1) r23.2) fun r67 =>
    kExit 0 r67.1 (
      bnd (oMv (r67.2.1 12) r67.2.2) fun r68 =>
      bnd (oBin Tryz.prog .eql 3 false true r68.1 (.int .i64 0) r68.2) fun r69 =>
      vIf r69.1 (
        bnd (oMv (.int .i64 0) r69.2) fun r70 =>
        bnd (oMv (.int .i64 0) r70.2) fun r71 =>
        bnd (oMv (.int .i64 4) r71.2) fun r72 =>
        oRes Tryz.prog [(r70.1, none), (r71.1, none), (r72.1, none)] r72.2) (
        bnd (oMv (r67.2.1 11) r69.2) fun r73 =>
        bnd (oMv (r67.2.1 12) r73.2) fun r74 =>
        bnd (oMv r73.1 r74.2) fun r75 =>
        bnd (oMv r74.1 r75.2) fun r76 =>
        bnd (oMv (.int .i64 0) r76.2) fun r77 =>
        oRes Tryz.prog [(r75.1, none), (r76.1, none), (r77.1, none)] r77.2)) (none))
theorem ref15_some_eq (call : Eng.Callee) (x0 x1 x2 : Value) (W : AW) : kFun Tryz.prog call 60 (cod 41) (rss 41) [x0, x1, x2] W = ref15_some call x0 x1 x2 W := by kernel_rfl
theorem ref15_some_om {x0 x1 x2 : Value} {W : AW} {r : Value × AW} (h : ref15_some omS x0 x1 x2 W = some r) : omS (.func (.func 41) #[] #[]) [x0, x1, x2] W = some (gc W r) := om_of (nt := 60) (n := 3) (by kernel_rfl) (by kernel_rfl) rfl ((ref15_some_eq omS x0 x1 x2 W).trans h)
noncomputable def slices_IndexFuncapi_VnSectionapi_VnSection_L1 (call : Eng.Callee) (R : Nat → Value) (W : AW) : Option LT :=
  bnd (oBin Tryz.prog .lss 3 false false (R 8) (R 7) W) fun r5 =>
  vIf r5.1 (
    bnd (oMv (R 8) r5.2) fun r6 =>
    bnd (oMv r6.1 r6.2) fun r7 =>
    bnd (oMv (R 1) r7.2) fun r8 =>
    bnd (oMv (R 0) r8.2) fun r9 =>
    bnd (oMv r7.1 r9.2) fun r10 =>
    bnd (ixS 3 r9.1 r10.1 r10.2) fun r11 =>
    bnd (ldA 3 r11.1 r11.2) fun r12 =>
    bnd (call r8.1 [r12.1] r12.2) fun r13 =>
    vIf r13.1 (
      bnd (oMv r7.1 r13.2) fun r14 =>
      bnd (oMv r14.1 r14.2) fun r15 =>
      some (X.ret, (rput (rput (rput (rput (rput (rput (rput (rput (rput (rput (rput R (some 9) r5.1) (some 10) r6.1) (some 5) r7.1) (some 11) r8.1) (some 12) r9.1) (some 13) r10.1) (some 14) r11.1) (some 15) r12.1) (some 16) r13.1) (some 17) r14.1) (some 4) r15.1), r15.2)) (
      bnd (oBin Tryz.prog .add 3 false true (R 8) (.int .i64 1) r13.2) fun r16 =>
      bnd (oMv r16.1 r16.2) fun r17 =>
      some (X.normal, (rput (rput (rput (rput (rput (rput (rput (rput (rput (rput (rput R (some 9) r5.1) (some 10) r6.1) (some 5) r7.1) (some 11) r8.1) (some 12) r9.1) (some 13) r10.1) (some 14) r11.1) (some 15) r12.1) (some 16) r13.1) (some 18) r16.1) (some 8) r17.1), r17.2))) (
    some (X.exit 0, (rput R (some 9) r5.1), r5.2))
noncomputable def slices_IndexFuncapi_VnSectionapi_VnSection (call : Eng.Callee) (x0 x1 : Value) (W : AW) : Option (Value × AW) :=
  bnd (oMv (.int .i64 0) W) fun r1 =>
  bnd (oMv x0 r1.2) fun r2 =>
  bnd (oBuiltin Tryz.prog .len #[22] 3 #[false] [r2.1] r2.2) fun r3 =>
  bnd (oMv (.int .i64 0) r3.2) fun r4 =>
  bnd (loopO (slices_IndexFuncapi_VnSectionapi_VnSection_L1 call) (rput (rput (rput (rput (argGo 0 [x0, x1] PlanTab.blank) (some 4) r1.1) (some 6) r2.1) (some 7) r3.1) (some 8) r4.1) r4.2) fun r18 =>
  kExit 0 r18.1 (
    bnd (oMv (.int .i64 (-1)) r18.2.2) fun r19 =>
    oRes Tryz.prog [(r19.1, none)] r19.2) (kRetX r18.1 (
    oRes Tryz.prog [((r18.2.1 4), none)] r18.2.2))
theorem slices_IndexFuncapi_VnSectionapi_VnSection_eq (call : Eng.Callee) (x0 x1 : Value) (W : AW) : kFun Tryz.prog call 19 (cod 43) (rss 43) [x0, x1] W = slices_IndexFuncapi_VnSectionapi_VnSection call x0 x1 W := by kernel_rfl
theorem slices_IndexFuncapi_VnSectionapi_VnSection_om {x0 x1 : Value} {W : AW} {r : Value × AW} (h : slices_IndexFuncapi_VnSectionapi_VnSection omS x0 x1 W = some r) : omS (.func (.func 43) #[] #[]) [x0, x1] W = some (gc W r) := om_of (nt := 19) (n := 2) (by kernel_rfl) (by kernel_rfl) rfl ((slices_IndexFuncapi_VnSectionapi_VnSection_eq omS x0 x1 W).trans h)
noncomputable def venue_Find_1 (call : Eng.Callee) (x0 x1 : Value) (W : AW) : Option (Value × AW) :=
  bnd (oBox x0 W) fun r1 =>
  bnd (oMv (.bool false) r1.2) fun r2 =>
  bnd (faO 0 r1.1 r2.2) fun r3 =>
  bnd (ldC r3.1 r3.2) fun r4 =>
  bnd (ldC x1 r4.2) fun r5 =>
  bnd (oBin Tryz.prog .eql 9 false false r4.1 r5.1 r5.2) fun r6 =>
  bnd (oMv r6.1 r6.2) fun r7 =>
  oRes Tryz.prog [(r7.1, none)] r7.2
theorem venue_Find_1_eq (call : Eng.Callee) (x0 x1 : Value) (W : AW) : kFun Tryz.prog call 8 (cod 44) (rss 44) [x0, x1] W = venue_Find_1 call x0 x1 W := by kernel_rfl
theorem venue_Find_1_om {x0 x1 : Value} {W : AW} {r : Value × AW} (h : venue_Find_1 omS x0 x1 W = some r) : omS (.func (.func 44) #[] #[x1]) [x0] W = some (gc W r) := om_of (nt := 8) (n := 2) (by kernel_rfl) (by kernel_rfl) rfl ((venue_Find_1_eq omS x0 x1 W).trans h)
noncomputable def slices_ContainsFuncapi_VnSectionapi_VnSection (call : Eng.Callee) (x0 x1 : Value) (W : AW) : Option (Value × AW) :=
  bnd (oMv (.bool false) W) fun r1 =>
  bnd (oMv x0 r1.2) fun r2 =>
  bnd (oMv x1 r2.2) fun r3 =>
  bnd (call (fnV 43) [r2.1, r3.1] r3.2) fun r4 =>
  bnd (oBin Tryz.prog .geq 3 false true r4.1 (.int .i64 0) r4.2) fun r5 =>
  bnd (oMv r5.1 r5.2) fun r6 =>
  oRes Tryz.prog [(r6.1, none)] r6.2
theorem slices_ContainsFuncapi_VnSectionapi_VnSection_eq (call : Eng.Callee) (x0 x1 : Value) (W : AW) : kFun Tryz.prog call 9 (cod 52) (rss 52) [x0, x1] W = slices_ContainsFuncapi_VnSectionapi_VnSection call x0 x1 W := by kernel_rfl
theorem slices_ContainsFuncapi_VnSectionapi_VnSection_om {x0 x1 : Value} {W : AW} {r : Value × AW} (h : slices_ContainsFuncapi_VnSectionapi_VnSection omS x0 x1 W = some r) : omS (.func (.func 52) #[] #[]) [x0, x1] W = some (gc W r) := om_of (nt := 9) (n := 2) (by kernel_rfl) (by kernel_rfl) rfl ((slices_ContainsFuncapi_VnSectionapi_VnSection_eq omS x0 x1 W).trans h)
noncomputable def venue_check_1 (call : Eng.Callee) (x0 x1 : Value) (W : AW) : Option (Value × AW) :=
  bnd (oBox x0 W) fun r1 =>
  bnd (oMv (.bool false) r1.2) fun r2 =>
  bnd (faO 0 r1.1 r2.2) fun r3 =>
  bnd (ldC r3.1 r3.2) fun r4 =>
  bnd (faO 0 x1 r4.2) fun r5 =>
  bnd (ldC r5.1 r5.2) fun r6 =>
  bnd (oBin Tryz.prog .eql 9 false false r4.1 r6.1 r6.2) fun r7 =>
  bnd (oMv r7.1 r7.2) fun r8 =>
  oRes Tryz.prog [(r8.1, none)] r8.2
theorem venue_check_1_eq (call : Eng.Callee) (x0 x1 : Value) (W : AW) : kFun Tryz.prog call 9 (cod 53) (rss 53) [x0, x1] W = venue_check_1 call x0 x1 W := by kernel_rfl
theorem venue_check_1_om {x0 x1 : Value} {W : AW} {r : Value × AW} (h : venue_check_1 omS x0 x1 W = some r) : omS (.func (.func 53) #[] #[x1]) [x0] W = some (gc W r) := om_of (nt := 9) (n := 2) (by kernel_rfl) (by kernel_rfl) rfl ((venue_check_1_eq omS x0 x1 W).trans h)
noncomputable def slices_ContainsFuncintint (call : Eng.Callee) (x0 x1 : Value) (W : AW) : Option (Value × AW) :=
  bnd (oMv (.bool false) W) fun r1 =>
  bnd (oMv x0 r1.2) fun r2 =>
  bnd (oMv x1 r2.2) fun r3 =>
  bnd (call (fnV 65) [r2.1, r3.1] r3.2) fun r4 =>
  bnd (oBin Tryz.prog .geq 3 false true r4.1 (.int .i64 0) r4.2) fun r5 =>
  bnd (oMv r5.1 r5.2) fun r6 =>
  oRes Tryz.prog [(r6.1, none)] r6.2
theorem slices_ContainsFuncintint_eq (call : Eng.Callee) (x0 x1 : Value) (W : AW) : kFun Tryz.prog call 9 (cod 54) (rss 54) [x0, x1] W = slices_ContainsFuncintint call x0 x1 W := by kernel_rfl
theorem slices_ContainsFuncintint_om {x0 x1 : Value} {W : AW} {r : Value × AW} (h : slices_ContainsFuncintint omS x0 x1 W = some r) : omS (.func (.func 54) #[] #[]) [x0, x1] W = some (gc W r) := om_of (nt := 9) (n := 2) (by kernel_rfl) (by kernel_rfl) rfl ((slices_ContainsFuncintint_eq omS x0 x1 W).trans h)
noncomputable def venue_check_2 (call : Eng.Callee) (x0 : Value) (W : AW) : Option (Value × AW) :=
  bnd (oMv (.bool false) W) fun r1 =>
  bnd (oMv x0 r1.2) fun r2 =>
  bnd (call (fnV 33) [r2.1, (.int .i64 1), (.int .i64 64)] r2.2) fun r3 =>
  bnd (oMv r3.1 r3.2) fun r4 =>
  oRes Tryz.prog [(r4.1, none)] r4.2
theorem venue_check_2_eq (call : Eng.Callee) (x0 : Value) (W : AW) : kFun Tryz.prog call 5 (cod 55) (rss 55) [x0] W = venue_check_2 call x0 W := by kernel_rfl
theorem venue_check_2_om {x0 : Value} {W : AW} {r : Value × AW} (h : venue_check_2 omS x0 W = some r) : omS (.func (.func 55) #[] #[]) [x0] W = some (gc W r) := om_of (nt := 5) (n := 1) (by kernel_rfl) (by kernel_rfl) rfl ((venue_check_2_eq omS x0 W).trans h)
noncomputable def ref01_Name_L1 (call : Eng.Callee) (R : Nat → Value) (W : AW) : Option LT :=
  bnd (oMv (R 3) W) fun r18 =>
  bnd (oMv (R 0) r18.2) fun r19 =>
  bnd (oBuiltin Tryz.prog .len #[9] 3 #[false] [r19.1] r19.2) fun r20 =>
  bnd (oBin Tryz.prog .lss 3 false false r18.1 r20.1 r20.2) fun r21 =>
  vIf r21.1 (
    bnd (oMv (R 0) r21.2) fun r22 =>
    bnd (oMv (R 3) r22.2) fun r23 =>
    bnd (oIndex Tryz.prog 9 r22.1 r23.1 r23.2) fun r24 =>
    bnd (call (fnV 66) [r24.1] r24.2) fun r25 =>
    bnd (oUn Tryz.prog .not r25.1 r25.2) fun r26 =>
    bnd (oMv r26.1 r26.2) fun r27 =>
    bnd (bIf (wnt r27.1 true) (oMv (R 0) r27.2) (some (undef, r27.2))) fun r28 =>
    bnd (bIf (wnt r27.1 true) (oMv (R 3) r28.2) (some (undef, r28.2))) fun r29 =>
    bnd (bIf (wnt r27.1 true) (oIndex Tryz.prog 9 r28.1 r29.1 r29.2) (some (undef, r29.2))) fun r30 =>
    bnd (bIf (wnt r27.1 true) (call (fnV 67) [r30.1] r30.2) (some (undef, r30.2))) fun r31 =>
    bnd (bIf (wnt r27.1 true) (oUn Tryz.prog .not r31.1 r31.2) (some (undef, r31.2))) fun r32 =>
    bnd (oPick r27.1 r32.1 (.bool false) r32.2) fun r33 =>
    bnd (oMv r33.1 r33.2) fun r34 =>
    bnd (bIf (wnt r34.1 true) (oMv (R 0) r34.2) (some (undef, r34.2))) fun r35 =>
    bnd (bIf (wnt r34.1 true) (oMv (R 3) r35.2) (some (undef, r35.2))) fun r36 =>
    bnd (bIf (wnt r34.1 true) (oIndex Tryz.prog 9 r35.1 r36.1 r36.2) (some (undef, r36.2))) fun r37 =>
    bnd (bIf (wnt r34.1 true) (oBin Tryz.prog .neq 5 false true r37.1 (.int .u8 45) r37.2) (some (undef, r37.2))) fun r38 =>
    bnd (oPick r34.1 r38.1 (.bool false) r38.2) fun r39 =>
    vIf r39.1 (
      bnd (oMv (.bool false) r39.2) fun r40 =>
      some (X.ret, (rput (rput (rput (rput (rput (rput (rput (rput (rput (rput (rput (rput (rput (rput (rput (rput (rput (rput (rput (rput (rput (rput (rput R (some 18) r18.1) (some 19) r19.1) (some 20) r20.1) (some 21) r21.1) (some 24) r22.1) (some 25) r23.1) (some 26) r24.1) (some 27) r25.1) (some 28) r26.1) (some 29) r27.1) (some 30) r28.1) (some 31) r29.1) (some 32) r30.1) (some 33) r31.1) (some 34) r32.1) (some 35) r33.1) (some 36) r34.1) (some 37) r35.1) (some 38) r36.1) (some 39) r37.1) (some 40) r38.1) (some 41) r39.1) (some 2) r40.1), r40.2)) (
      bnd (oMv (R 3) r39.2) fun r41 =>
      bnd (oBin Tryz.prog .add 3 false true r41.1 (.int .i64 1) r41.2) fun r42 =>
      bnd (oMv r42.1 r42.2) fun r43 =>
      some (X.normal, (rput (rput (rput (rput (rput (rput (rput (rput (rput (rput (rput (rput (rput (rput (rput (rput (rput (rput (rput (rput (rput (rput (rput (rput (rput R (some 18) r18.1) (some 19) r19.1) (some 20) r20.1) (some 21) r21.1) (some 24) r22.1) (some 25) r23.1) (some 26) r24.1) (some 27) r25.1) (some 28) r26.1) (some 29) r27.1) (some 30) r28.1) (some 31) r29.1) (some 32) r30.1) (some 33) r31.1) (some 34) r32.1) (some 35) r33.1) (some 36) r34.1) (some 37) r35.1) (some 38) r36.1) (some 39) r37.1) (some 40) r38.1) (some 41) r39.1) (some 22) r41.1) (some 23) r42.1) (some 3) r43.1), r43.2))) (
    some (X.exit 0, (rput (rput (rput (rput R (some 18) r18.1) (some 19) r19.1) (some 20) r20.1) (some 21) r21.1), r21.2))
noncomputable def ref01_Name (call : Eng.Callee) (x0 : Value) (W : AW) : Option (Value × AW) :=
  bnd (oMv (.bool false) W) fun r1 =>
  bnd (oMv x0 r1.2) fun r2 =>
  bnd (oBuiltin Tryz.prog .len #[9] 3 #[false] [r2.1] r2.2) fun r3 =>
  bnd (oBin Tryz.prog .lss 3 false true r3.1 (.int .i64 1) r3.2) fun r4 =>
  bnd (oMv r4.1 r4.2) fun r5 =>
  bnd (bIf (wnt r5.1 false) (oMv x0 r5.2) (some (undef, r5.2))) fun r6 =>
  bnd (bIf (wnt r5.1 false) (oBuiltin Tryz.prog .len #[9] 3 #[false] [r6.1] r6.2) (some (undef, r6.2))) fun r7 =>
  bnd (bIf (wnt r5.1 false) (oBin Tryz.prog .gtr 3 false true r7.1 (.int .i64 16) r7.2) (some (undef, r7.2))) fun r8 =>
  bnd (oPick r5.1 (.bool true) r8.1 r8.2) fun r9 =>
  bnd (oMv r9.1 r9.2) fun r10 =>
  bnd (bIf (wnt r10.1 false) (oMv x0 r10.2) (some (undef, r10.2))) fun r11 =>
  bnd (bIf (wnt r10.1 false) (oIndex Tryz.prog 9 r11.1 (.int .i64 0) r11.2) (some (undef, r11.2))) fun r12 =>
  bnd (bIf (wnt r10.1 false) (call (fnV 66) [r12.1] r12.2) (some (undef, r12.2))) fun r13 =>
  bnd (bIf (wnt r10.1 false) (oUn Tryz.prog .not r13.1 r13.2) (some (undef, r13.2))) fun r14 =>
  bnd (oPick r10.1 (.bool true) r14.1 r14.2) fun r15 =>
  vIf r15.1 (
    bnd (oMv (.bool false) r15.2) fun r16 =>
    oRes Tryz.prog [(r16.1, none)] r16.2) (
    bnd (oMv (.int .i64 0) r15.2) fun r17 =>
    bnd (loopO (ref01_Name_L1 call) (rput (rput (rput (rput (rput (rput (rput (rput (rput (rput (rput (rput (rput (rput (rput (rput (argGo 0 [x0] PlanTab.blank) (some 2) r1.1) (some 4) r2.1) (some 5) r3.1) (some 6) r4.1) (some 7) r5.1) (some 8) r6.1) (some 9) r7.1) (some 10) r8.1) (some 11) r9.1) (some 12) r10.1) (some 13) r11.1) (some 14) r12.1) (some 15) r13.1) (some 16) r14.1) (some 17) r15.1) (some 3) r17.1) r17.2) fun r44 =>
    kExit 0 r44.1 (
      bnd (oMv (.bool true) r44.2.2) fun r45 =>
      oRes Tryz.prog [(r45.1, none)] r45.2) (kRetX r44.1 (
      oRes Tryz.prog [((r44.2.1 2), none)] r44.2.2)))
theorem ref01_Name_eq (call : Eng.Callee) (x0 : Value) (W : AW) : kFun Tryz.prog call 42 (cod 56) (rss 56) [x0] W = ref01_Name call x0 W := by kernel_rfl
theorem ref01_Name_om {x0 : Value} {W : AW} {r : Value × AW} (h : ref01_Name omS x0 W = some r) : omS (.func (.func 56) #[] #[]) [x0] W = some (gc W r) := om_of (nt := 42) (n := 1) (by kernel_rfl) (by kernel_rfl) rfl ((ref01_Name_eq omS x0 W).trans h)
noncomputable def venue_rows_1_L1_L2 (call : Eng.Callee) (R : Nat → Value) (W : AW) : Option LT :=
  bnd (oBin Tryz.prog .lss 3 false false (R 19) (R 18) W) fun r17 =>
  vIf r17.1 (
    bnd (oMv (R 19) r17.2) fun r18 =>
    bnd (ixS 1 (R 17) (R 19) r18.2) fun r19 =>
    bnd (ldC r19.1 r19.2) fun r20 =>
    bnd (oMv r18.1 r20.2) fun r21 =>
    bnd (oMv r20.1 r21.2) fun r22 =>
    bnd (oMv (R 0) r22.2) fun r23 =>
    bnd (oMv (R 4) r23.2) fun r24 =>
    bnd (oMv r21.1 r24.2) fun r25 =>
    bnd (oMv (R 3) r25.2) fun r26 =>
    bnd (oMv r22.1 r26.2) fun r27 =>
    bnd (oBuild Tryz.prog 61 [(0, r24.1), (1, r25.1), (2, r26.1), (3, r27.1)] r27.2) fun r28 =>
    bnd (call r23.1 [r28.1] r28.2) fun r29 =>
    bnd (oUn Tryz.prog .not r29.1 r29.2) fun r30 =>
    vIf r30.1 (
      some (X.ret, (rput (rput (rput (rput (rput (rput (rput (rput (rput (rput (rput (rput (rput (rput R (some 20) r17.1) (some 21) r18.1) (some 22) r19.1) (some 23) r20.1) (some 6) r21.1) (some 7) r22.1) (some 24) r23.1) (some 25) r24.1) (some 26) r25.1) (some 27) r26.1) (some 28) r27.1) (some 29) r28.1) (some 30) r29.1) (some 31) r30.1), r30.2)) (
      bnd (oMv (R 3) r30.2) fun r31 =>
      bnd (oMv r22.1 r31.2) fun r32 =>
      bnd (oBin Tryz.prog .add 3 false false r31.1 r32.1 r32.2) fun r33 =>
      bnd (oMv r33.1 r33.2) fun r34 =>
      bnd (oBin Tryz.prog .add 3 false true (R 19) (.int .i64 1) r34.2) fun r35 =>
      bnd (oMv r35.1 r35.2) fun r36 =>
      some (X.normal, (rput (rput (rput (rput (rput (rput (rput (rput (rput (rput (rput (rput (rput (rput (rput (rput (rput (rput (rput (rput R (some 20) r17.1) (some 21) r18.1) (some 22) r19.1) (some 23) r20.1) (some 6) r21.1) (some 7) r22.1) (some 24) r23.1) (some 25) r24.1) (some 26) r25.1) (some 27) r26.1) (some 28) r27.1) (some 29) r28.1) (some 30) r29.1) (some 31) r30.1) (some 32) r31.1) (some 33) r32.1) (some 34) r33.1) (some 3) r34.1) (some 35) r35.1) (some 19) r36.1), r36.2))) (
    some (X.exit 2, (rput R (some 20) r17.1), r17.2))
noncomputable def venue_rows_1_L1 (call : Eng.Callee) (R : Nat → Value) (W : AW) : Option LT :=
  bnd (oBin Tryz.prog .lss 3 false false (R 11) (R 10) W) fun r6 =>
  vIf r6.1 (
    bnd (oMv (R 11) r6.2) fun r7 =>
    bnd (ixS 3 (R 9) (R 11) r7.2) fun r8 =>
    bnd (ldA 3 r8.1 r8.2) fun r9 =>
    bnd (oAlloc Tryz.prog 28 r9.2) fun r10 =>
    bnd (oMv r7.1 r10.2) fun r11 =>
    bnd (stV 3 r10.1 r9.1 r11.2) fun r12 =>
    bnd (faO 1 r10.1 r12.2) fun r13 =>
    bnd (ldC r13.1 r13.2) fun r14 =>
    bnd (oBuiltin Tryz.prog .len #[26] 3 #[false] [r14.1] r14.2) fun r15 =>
    bnd (oMv (.int .i64 0) r15.2) fun r16 =>
    bnd (loopO (venue_rows_1_L1_L2 call) (rput (rput (rput (rput (rput (rput (rput (rput (rput (rput R (some 12) r6.1) (some 13) r7.1) (some 14) r8.1) (some 15) r9.1) (some 5) r10.1) (some 4) r11.1) (some 16) r13.1) (some 17) r14.1) (some 18) r15.1) (some 19) r16.1) r16.2) fun r37 =>
    kExit 2 r37.1 (
      bnd (oBin Tryz.prog .add 3 false true (r37.2.1 11) (.int .i64 1) r37.2.2) fun r38 =>
      bnd (oMv r38.1 r38.2) fun r39 =>
      some (X.normal, (rput (rput r37.2.1 (some 36) r38.1) (some 11) r39.1), r39.2)) (kRetX r37.1 (
      some (X.ret, r37.2.1, r37.2.2)))) (
    some (X.exit 0, (rput R (some 12) r6.1), r6.2))
noncomputable def venue_rows_1 (call : Eng.Callee) (x0 x1 : Value) (W : AW) : Option (Value × AW) :=
  bnd (oMv (.int .i64 0) W) fun r1 =>
  bnd (faO 3 x1 r1.2) fun r2 =>
  bnd (ldC r2.1 r2.2) fun r3 =>
  bnd (oBuiltin Tryz.prog .len #[22] 3 #[false] [r3.1] r3.2) fun r4 =>
  bnd (oMv (.int .i64 0) r4.2) fun r5 =>
  bnd (loopO (venue_rows_1_L1 call) (rput (rput (rput (rput (rput (argGo 0 [x0, x1] PlanTab.blank) (some 3) r1.1) (some 8) r2.1) (some 9) r3.1) (some 10) r4.1) (some 11) r5.1) r5.2) fun r40 =>
  kExit 0 r40.1 (
    oRes Tryz.prog [] r40.2.2) (kRetX r40.1 (
    oRes Tryz.prog [] r40.2.2))
theorem venue_rows_1_eq (call : Eng.Callee) (x0 x1 : Value) (W : AW) : kFun Tryz.prog call 37 (cod 57) (rss 57) [x0, x1] W = venue_rows_1 call x0 x1 W := by kernel_rfl
theorem venue_rows_1_om {x0 x1 : Value} {W : AW} {r : Value × AW} (h : venue_rows_1 omS x0 x1 W = some r) : omS (.func (.func 57) #[] #[x1]) [x0] W = some (gc W r) := om_of (nt := 37) (n := 2) (by kernel_rfl) (by kernel_rfl) rfl ((venue_rows_1_eq omS x0 x1 W).trans h)
noncomputable def slices_IndexFuncintint_L1 (call : Eng.Callee) (R : Nat → Value) (W : AW) : Option LT :=
  bnd (oBin Tryz.prog .lss 3 false false (R 8) (R 7) W) fun r5 =>
  vIf r5.1 (
    bnd (oMv (R 8) r5.2) fun r6 =>
    bnd (oMv r6.1 r6.2) fun r7 =>
    bnd (oMv (R 1) r7.2) fun r8 =>
    bnd (oMv (R 0) r8.2) fun r9 =>
    bnd (oMv r7.1 r9.2) fun r10 =>
    bnd (ixS 1 r9.1 r10.1 r10.2) fun r11 =>
    bnd (ldC r11.1 r11.2) fun r12 =>
    bnd (call r8.1 [r12.1] r12.2) fun r13 =>
    vIf r13.1 (
      bnd (oMv r7.1 r13.2) fun r14 =>
      bnd (oMv r14.1 r14.2) fun r15 =>
      some (X.ret, (rput (rput (rput (rput (rput (rput (rput (rput (rput (rput (rput R (some 9) r5.1) (some 10) r6.1) (some 5) r7.1) (some 11) r8.1) (some 12) r9.1) (some 13) r10.1) (some 14) r11.1) (some 15) r12.1) (some 16) r13.1) (some 17) r14.1) (some 4) r15.1), r15.2)) (
      bnd (oBin Tryz.prog .add 3 false true (R 8) (.int .i64 1) r13.2) fun r16 =>
      bnd (oMv r16.1 r16.2) fun r17 =>
      some (X.normal, (rput (rput (rput (rput (rput (rput (rput (rput (rput (rput (rput R (some 9) r5.1) (some 10) r6.1) (some 5) r7.1) (some 11) r8.1) (some 12) r9.1) (some 13) r10.1) (some 14) r11.1) (some 15) r12.1) (some 16) r13.1) (some 18) r16.1) (some 8) r17.1), r17.2))) (
    some (X.exit 0, (rput R (some 9) r5.1), r5.2))
noncomputable def slices_IndexFuncintint (call : Eng.Callee) (x0 x1 : Value) (W : AW) : Option (Value × AW) :=
  bnd (oMv (.int .i64 0) W) fun r1 =>
  bnd (oMv x0 r1.2) fun r2 =>
  bnd (oBuiltin Tryz.prog .len #[26] 3 #[false] [r2.1] r2.2) fun r3 =>
  bnd (oMv (.int .i64 0) r3.2) fun r4 =>
  bnd (loopO (slices_IndexFuncintint_L1 call) (rput (rput (rput (rput (argGo 0 [x0, x1] PlanTab.blank) (some 4) r1.1) (some 6) r2.1) (some 7) r3.1) (some 8) r4.1) r4.2) fun r18 =>
  kExit 0 r18.1 (
    bnd (oMv (.int .i64 (-1)) r18.2.2) fun r19 =>
    oRes Tryz.prog [(r19.1, none)] r19.2) (kRetX r18.1 (
    oRes Tryz.prog [((r18.2.1 4), none)] r18.2.2))
theorem slices_IndexFuncintint_eq (call : Eng.Callee) (x0 x1 : Value) (W : AW) : kFun Tryz.prog call 19 (cod 65) (rss 65) [x0, x1] W = slices_IndexFuncintint call x0 x1 W := by kernel_rfl
theorem slices_IndexFuncintint_om {x0 x1 : Value} {W : AW} {r : Value × AW} (h : slices_IndexFuncintint omS x0 x1 W = some r) : omS (.func (.func 65) #[] #[]) [x0, x1] W = some (gc W r) := om_of (nt := 19) (n := 2) (by kernel_rfl) (by kernel_rfl) rfl ((slices_IndexFuncintint_eq omS x0 x1 W).trans h)
noncomputable def ref01_lower (call : Eng.Callee) (x0 : Value) (W : AW) : Option (Value × AW) :=
  bnd (oMv (.bool false) W) fun r1 =>
  bnd (oMv x0 r1.2) fun r2 =>
  bnd (oBin Tryz.prog .geq 5 false true r2.1 (.int .u8 97) r2.2) fun r3 =>
  bnd (oMv r3.1 r3.2) fun r4 =>
  bnd (bIf (wnt r4.1 true) (oMv x0 r4.2) (some (undef, r4.2))) fun r5 =>
  bnd (bIf (wnt r4.1 true) (oBin Tryz.prog .leq 5 false true r5.1 (.int .u8 122) r5.2) (some (undef, r5.2))) fun r6 =>
  bnd (oPick r4.1 r6.1 (.bool false) r6.2) fun r7 =>
  bnd (oMv r7.1 r7.2) fun r8 =>
  oRes Tryz.prog [(r8.1, none)] r8.2
theorem ref01_lower_eq (call : Eng.Callee) (x0 : Value) (W : AW) : kFun Tryz.prog call 9 (cod 66) (rss 66) [x0] W = ref01_lower call x0 W := by kernel_rfl
theorem ref01_lower_om {x0 : Value} {W : AW} {r : Value × AW} (h : ref01_lower omS x0 W = some r) : omS (.func (.func 66) #[] #[]) [x0] W = some (gc W r) := om_of (nt := 9) (n := 1) (by kernel_rfl) (by kernel_rfl) rfl ((ref01_lower_eq omS x0 W).trans h)
noncomputable def ref01_digit (call : Eng.Callee) (x0 : Value) (W : AW) : Option (Value × AW) :=
  bnd (oMv (.bool false) W) fun r1 =>
  bnd (oMv x0 r1.2) fun r2 =>
  bnd (oBin Tryz.prog .geq 5 false true r2.1 (.int .u8 48) r2.2) fun r3 =>
  bnd (oMv r3.1 r3.2) fun r4 =>
  bnd (bIf (wnt r4.1 true) (oMv x0 r4.2) (some (undef, r4.2))) fun r5 =>
  bnd (bIf (wnt r4.1 true) (oBin Tryz.prog .leq 5 false true r5.1 (.int .u8 57) r5.2) (some (undef, r5.2))) fun r6 =>
  bnd (oPick r4.1 r6.1 (.bool false) r6.2) fun r7 =>
  bnd (oMv r7.1 r7.2) fun r8 =>
  oRes Tryz.prog [(r8.1, none)] r8.2
theorem ref01_digit_eq (call : Eng.Callee) (x0 : Value) (W : AW) : kFun Tryz.prog call 9 (cod 67) (rss 67) [x0] W = ref01_digit call x0 W := by kernel_rfl
theorem ref01_digit_om {x0 : Value} {W : AW} {r : Value × AW} (h : ref01_digit omS x0 W = some r) : omS (.func (.func 67) #[] #[]) [x0] W = some (gc W r) := om_of (nt := 9) (n := 1) (by kernel_rfl) (by kernel_rfl) rfl ((ref01_digit_eq omS x0 W).trans h)
noncomputable def words_Name (call : Eng.Callee) (x0 : Value) (W : AW) : Option (Value × AW) :=
  bnd (oMv (.bool false) W) fun r1 =>
  bnd (oMv x0 r1.2) fun r2 =>
  bnd (oBin Tryz.prog .eql 9 false true r2.1 (strV []) r2.2) fun r3 =>
  bnd (oMv r3.1 r3.2) fun r4 =>
  bnd (bIf (wnt r4.1 false) (oMv x0 r4.2) (some (undef, r4.2))) fun r5 =>
  bnd (bIf (wnt r4.1 false) (oBuiltin Tryz.prog .len #[9] 3 #[false] [r5.1] r5.2) (some (undef, r5.2))) fun r6 =>
  bnd (bIf (wnt r4.1 false) (oBin Tryz.prog .gtr 3 false true r6.1 (.int .i64 16) r6.2) (some (undef, r6.2))) fun r7 =>
  bnd (oPick r4.1 (.bool true) r7.1 r7.2) fun r8 =>
  bnd (oMv r8.1 r8.2) fun r9 =>
  bnd (bIf (wnt r9.1 false) (oMv x0 r9.2) (some (undef, r9.2))) fun r10 =>
  bnd (bIf (wnt r9.1 false) (oIndex Tryz.prog 9 r10.1 (.int .i64 0) r10.2) (some (undef, r10.2))) fun r11 =>
  bnd (bIf (wnt r9.1 false) (oBin Tryz.prog .lss 5 false true r11.1 (.int .u8 97) r11.2) (some (undef, r11.2))) fun r12 =>
  bnd (oPick r9.1 (.bool true) r12.1 r12.2) fun r13 =>
  bnd (oMv r13.1 r13.2) fun r14 =>
  bnd (bIf (wnt r14.1 false) (oMv x0 r14.2) (some (undef, r14.2))) fun r15 =>
  bnd (bIf (wnt r14.1 false) (oIndex Tryz.prog 9 r15.1 (.int .i64 0) r15.2) (some (undef, r15.2))) fun r16 =>
  bnd (bIf (wnt r14.1 false) (oBin Tryz.prog .gtr 5 false true r16.1 (.int .u8 122) r16.2) (some (undef, r16.2))) fun r17 =>
  bnd (oPick r14.1 (.bool true) r17.1 r17.2) fun r18 =>
  vIf r18.1 (
    bnd (oMv (.bool false) r18.2) fun r19 =>
    oRes Tryz.prog [(r19.1, none)] r19.2) (
    bnd (oMv x0 r18.2) fun r20 =>
    bnd (call (fnV 64) [r20.1, (strV [97, 98, 99, 100, 101, 102, 103, 104, 105, 106, 107, 108, 109, 110, 111, 112, 113, 114, 115, 116, 117, 118, 119, 120, 121, 122, 48, 49, 50, 51, 52, 53, 54, 55, 56, 57, 45])] r20.2) fun r21 =>
    bnd (oBin Tryz.prog .eql 9 false true r21.1 (strV []) r21.2) fun r22 =>
    bnd (oMv r22.1 r22.2) fun r23 =>
    oRes Tryz.prog [(r23.1, none)] r23.2)
theorem words_Name_eq (call : Eng.Callee) (x0 : Value) (W : AW) : kFun Tryz.prog call 23 (cod 51) (rss 51) [x0] W = words_Name call x0 W := by kernel_rfl
theorem words_Name_om {x0 : Value} {W : AW} {r : Value × AW} (h : words_Name omS x0 W = some r) : omS (.func (.func 51) #[] #[]) [x0] W = some (gc W r) := om_of (nt := 23) (n := 1) (by kernel_rfl) (by kernel_rfl) rfl ((words_Name_eq omS x0 W).trans h)
noncomputable def strings_Trim (call : Eng.Callee) (x0 x1 : Value) (W : AW) : Option (Value × AW) :=
  bnd (oMv (strV []) W) fun r1 =>
  bnd (oMv x0 r1.2) fun r2 =>
  bnd (oBin Tryz.prog .eql 9 false true r2.1 (strV []) r2.2) fun r3 =>
  bnd (oMv r3.1 r3.2) fun r4 =>
  bnd (bIf (wnt r4.1 false) (oMv x1 r4.2) (some (undef, r4.2))) fun r5 =>
  bnd (bIf (wnt r4.1 false) (oBin Tryz.prog .eql 9 false true r5.1 (strV []) r5.2) (some (undef, r5.2))) fun r6 =>
  bnd (oPick r4.1 (.bool true) r6.1 r6.2) fun r7 =>
  vIf r7.1 (
    bnd (oMv x0 r7.2) fun r8 =>
    bnd (oMv r8.1 r8.2) fun r9 =>
    oRes Tryz.prog [(r9.1, none)] r9.2) (
    bnd (oMv x1 r7.2) fun r10 =>
    bnd (oBuiltin Tryz.prog .len #[9] 3 #[false] [r10.1] r10.2) fun r11 =>
    bnd (oBin Tryz.prog .eql 3 false true r11.1 (.int .i64 1) r11.2) fun r12 =>
    bnd (oMv r12.1 r12.2) fun r13 =>
    bnd (bIf (wnt r13.1 true) (oMv x1 r13.2) (some (undef, r13.2))) fun r14 =>
    bnd (bIf (wnt r13.1 true) (oIndex Tryz.prog 9 r14.1 (.int .i64 0) r14.2) (some (undef, r14.2))) fun r15 =>
    bnd (bIf (wnt r13.1 true) (oBin Tryz.prog .lss 5 false true r15.1 (.int .u8 128) r15.2) (some (undef, r15.2))) fun r16 =>
    bnd (oPick r13.1 r16.1 (.bool false) r16.2) fun r17 =>
    vIf r17.1 (
      bnd (oMv x0 r17.2) fun r18 =>
      bnd (oMv x1 r18.2) fun r19 =>
      bnd (oIndex Tryz.prog 9 r19.1 (.int .i64 0) r19.2) fun r20 =>
      bnd (oMv x1 r20.2) fun r21 =>
      bnd (oIndex Tryz.prog 9 r21.1 (.int .i64 0) r21.2) fun r22 =>
      bnd (call (fnV 86) [r18.1, r20.1] r22.2) fun r23 =>
      bnd (call (fnV 85) [r23.1, r22.1] r23.2) fun r24 =>
      bnd (oMv r24.1 r24.2) fun r25 =>
      oRes Tryz.prog [(r25.1, none)] r25.2) (
      bnd (oMv x1 r17.2) fun r26 =>
      bnd (call (fnV 87) [r26.1] r26.2) fun r27 =>
      bnd (oMv r27.1 r27.2) fun r28 =>
      bnd (oExtract r28.1 0 r28.2) fun r29 =>
      bnd (oExtract r28.1 1 r29.2) fun r30 =>
      bnd (oAlloc Tryz.prog 115 r30.2) fun r31 =>
      bnd (stV 256 r31.1 r29.1 r31.2) fun r32 =>
      bnd (oMv r30.1 r32.2) fun r33 =>
      bnd (oMv r33.1 r33.2) fun r34 =>
      vIf r34.1 (
        bnd (oMv x0 r34.2) fun r35 =>
        bnd (call (fnV 89) [r35.1, r31.1] r35.2) fun r36 =>
        bnd (call (fnV 88) [r36.1, r31.1] r36.2) fun r37 =>
        bnd (oMv r37.1 r37.2) fun r38 =>
        oRes Tryz.prog [(r38.1, none)] r38.2) (
        bnd (oMv x0 r34.2) fun r39 =>
        bnd (oMv x1 r39.2) fun r40 =>
        bnd (call (fnV 91) [r39.1, r40.1] r40.2) fun r41 =>
        bnd (oMv x1 r41.2) fun r42 =>
        bnd (call (fnV 90) [r41.1, r42.1] r42.2) fun r43 =>
        bnd (oMv r43.1 r43.2) fun r44 =>
        oRes Tryz.prog [(r44.1, none)] r44.2)))
theorem strings_Trim_eq (call : Eng.Callee) (x0 x1 : Value) (W : AW) : kFun Tryz.prog call 43 (cod 64) (rss 64) [x0, x1] W = strings_Trim call x0 x1 W := by kernel_rfl
theorem strings_Trim_om {x0 x1 : Value} {W : AW} {r : Value × AW} (h : strings_Trim omS x0 x1 W = some r) : omS (.func (.func 64) #[] #[]) [x0, x1] W = some (gc W r) := om_of (nt := 43) (n := 2) (by kernel_rfl) (by kernel_rfl) rfl ((strings_Trim_eq omS x0 x1 W).trans h)
noncomputable def strings_makeASCIISet_L1 (call : Eng.Callee) (R : Nat → Value) (W : AW) : Option LT :=
  bnd (oMv (R 4) W) fun r4 =>
  bnd (oMv (R 0) r4.2) fun r5 =>
  bnd (oBuiltin Tryz.prog .len #[9] 3 #[false] [r5.1] r5.2) fun r6 =>
  bnd (oBin Tryz.prog .lss 3 false false r4.1 r6.1 r6.2) fun r7 =>
  vIf r7.1 (
    bnd (oMv (R 0) r7.2) fun r8 =>
    bnd (oMv (R 4) r8.2) fun r9 =>
    bnd (oIndex Tryz.prog 9 r8.1 r9.1 r9.2) fun r10 =>
    bnd (oMv r10.1 r10.2) fun r11 =>
    bnd (oMv r11.1 r11.2) fun r12 =>
    bnd (oBin Tryz.prog .geq 5 false true r12.1 (.int .u8 128) r12.2) fun r13 =>
    vIf r13.1 (
      bnd (ldA 256 (R 2) r13.2) fun r14 =>
      bnd (stV 256 (R 2) r14.1 r14.2) fun r15 =>
      bnd (oMv (.bool false) r15.2) fun r16 =>
      some (X.ret, (rput (rput (rput (rput (rput (rput (rput (rput (rput (rput (rput (rput R (some 6) r4.1) (some 7) r5.1) (some 8) r6.1) (some 9) r7.1) (some 12) r8.1) (some 13) r9.1) (some 14) r10.1) (some 5) r11.1) (some 15) r12.1) (some 16) r13.1) (some 17) r14.1) (some 3) r16.1), r16.2)) (
      bnd (oMv r11.1 r13.2) fun r17 =>
      bnd (ixA 256 1 (R 2) r17.1 r17.2) fun r18 =>
      bnd (stV 1 r18.1 (.bool true) r18.2) fun r19 =>
      bnd (oMv (R 4) r19.2) fun r20 =>
      bnd (oBin Tryz.prog .add 3 false true r20.1 (.int .i64 1) r20.2) fun r21 =>
      bnd (oMv r21.1 r21.2) fun r22 =>
      some (X.normal, (rput (rput (rput (rput (rput (rput (rput (rput (rput (rput (rput (rput (rput (rput (rput R (some 6) r4.1) (some 7) r5.1) (some 8) r6.1) (some 9) r7.1) (some 12) r8.1) (some 13) r9.1) (some 14) r10.1) (some 5) r11.1) (some 15) r12.1) (some 16) r13.1) (some 18) r17.1) (some 19) r18.1) (some 10) r20.1) (some 11) r21.1) (some 4) r22.1), r22.2))) (
    some (X.exit 0, (rput (rput (rput (rput R (some 6) r4.1) (some 7) r5.1) (some 8) r6.1) (some 9) r7.1), r7.2))
noncomputable def strings_makeASCIISet (call : Eng.Callee) (x0 : Value) (W : AW) : Option (Value × AW) :=
  bnd (oAlloc Tryz.prog 115 W) fun r1 =>
  bnd (oMv (.bool false) r1.2) fun r2 =>
  bnd (oMv (.int .i64 0) r2.2) fun r3 =>
  bnd (loopO (strings_makeASCIISet_L1 call) (rput (rput (rput (argGo 0 [x0] PlanTab.blank) (some 2) r1.1) (some 3) r2.1) (some 4) r3.1) r3.2) fun r23 =>
  kExit 0 r23.1 (
    bnd (ldA 256 (r23.2.1 2) r23.2.2) fun r24 =>
    bnd (stV 256 (r23.2.1 2) r24.1 r24.2) fun r25 =>
    bnd (oMv (.bool true) r25.2) fun r26 =>
    oRes Tryz.prog [((r23.2.1 2), some 115), (r26.1, none)] r26.2) (kRetX r23.1 (
    oRes Tryz.prog [((r23.2.1 2), some 115), ((r23.2.1 3), none)] r23.2.2))
theorem strings_makeASCIISet_eq (call : Eng.Callee) (x0 : Value) (W : AW) : kFun Tryz.prog call 21 (cod 87) (rss 87) [x0] W = strings_makeASCIISet call x0 W := by kernel_rfl
theorem strings_makeASCIISet_om {x0 : Value} {W : AW} {r : Value × AW} (h : strings_makeASCIISet omS x0 W = some r) : omS (.func (.func 87) #[] #[]) [x0] W = some (gc W r) := om_of (nt := 21) (n := 1) (by kernel_rfl) (by kernel_rfl) rfl ((strings_makeASCIISet_eq omS x0 W).trans h)
noncomputable def strings_trimLeftASCII_L1 (call : Eng.Callee) (R : Nat → Value) (W : AW) : Option LT :=
  bnd (oMv (R 0) W) fun r2 =>
  bnd (oBuiltin Tryz.prog .len #[9] 3 #[false] [r2.1] r2.2) fun r3 =>
  bnd (oBin Tryz.prog .gtr 3 false true r3.1 (.int .i64 0) r3.2) fun r4 =>
  vIf r4.1 (
    bnd (oMv (R 1) r4.2) fun r5 =>
    bnd (oMv (R 0) r5.2) fun r6 =>
    bnd (oIndex Tryz.prog 9 r6.1 (.int .i64 0) r6.2) fun r7 =>
    bnd (call (fnV 103) [r5.1, r7.1] r7.2) fun r8 =>
    bnd (oUn Tryz.prog .not r8.1 r8.2) fun r9 =>
    vIf r9.1 (
      some (X.exit 0, (rput (rput (rput (rput (rput (rput (rput (rput R (some 5) r2.1) (some 6) r3.1) (some 7) r4.1) (some 8) r5.1) (some 9) r6.1) (some 10) r7.1) (some 11) r8.1) (some 12) r9.1), r9.2)) (
      bnd (oMv (R 0) r9.2) fun r10 =>
      bnd (oSlice Tryz.prog 9 r10.1 (some (.int .i64 1)) none none r10.2) fun r11 =>
      bnd (oMv r11.1 r11.2) fun r12 =>
      some (X.normal, (rput (rput (rput (rput (rput (rput (rput (rput (rput (rput (rput R (some 5) r2.1) (some 6) r3.1) (some 7) r4.1) (some 8) r5.1) (some 9) r6.1) (some 10) r7.1) (some 11) r8.1) (some 12) r9.1) (some 13) r10.1) (some 14) r11.1) (some 0) r12.1), r12.2))) (
    some (X.exit 0, (rput (rput (rput R (some 5) r2.1) (some 6) r3.1) (some 7) r4.1), r4.2))
noncomputable def strings_trimLeftASCII (call : Eng.Callee) (x0 x1 : Value) (W : AW) : Option (Value × AW) :=
  bnd (oMv (strV []) W) fun r1 =>
  bnd (loopO (strings_trimLeftASCII_L1 call) (rput (argGo 0 [x0, x1] PlanTab.blank) (some 4) r1.1) r1.2) fun r13 =>
  kExit 0 r13.1 (
    bnd (oMv (r13.2.1 0) r13.2.2) fun r14 =>
    bnd (oMv r14.1 r14.2) fun r15 =>
    oRes Tryz.prog [(r15.1, none)] r15.2) (none)
theorem strings_trimLeftASCII_eq (call : Eng.Callee) (x0 x1 : Value) (W : AW) : kFun Tryz.prog call 16 (cod 88) (rss 88) [x0, x1] W = strings_trimLeftASCII call x0 x1 W := by kernel_rfl
theorem strings_trimLeftASCII_om {x0 x1 : Value} {W : AW} {r : Value × AW} (h : strings_trimLeftASCII omS x0 x1 W = some r) : omS (.func (.func 88) #[] #[]) [x0, x1] W = some (gc W r) := om_of (nt := 16) (n := 2) (by kernel_rfl) (by kernel_rfl) rfl ((strings_trimLeftASCII_eq omS x0 x1 W).trans h)
noncomputable def strings_trimRightASCII_L1 (call : Eng.Callee) (R : Nat → Value) (W : AW) : Option LT :=
  bnd (oMv (R 0) W) fun r2 =>
  bnd (oBuiltin Tryz.prog .len #[9] 3 #[false] [r2.1] r2.2) fun r3 =>
  bnd (oBin Tryz.prog .gtr 3 false true r3.1 (.int .i64 0) r3.2) fun r4 =>
  vIf r4.1 (
    bnd (oMv (R 1) r4.2) fun r5 =>
    bnd (oMv (R 0) r5.2) fun r6 =>
    bnd (oMv (R 0) r6.2) fun r7 =>
    bnd (oBuiltin Tryz.prog .len #[9] 3 #[false] [r7.1] r7.2) fun r8 =>
    bnd (oBin Tryz.prog .sub 3 false true r8.1 (.int .i64 1) r8.2) fun r9 =>
    bnd (oIndex Tryz.prog 9 r6.1 r9.1 r9.2) fun r10 =>
    bnd (call (fnV 103) [r5.1, r10.1] r10.2) fun r11 =>
    bnd (oUn Tryz.prog .not r11.1 r11.2) fun r12 =>
    vIf r12.1 (
      some (X.exit 0, (rput (rput (rput (rput (rput (rput (rput (rput (rput (rput (rput R (some 5) r2.1) (some 6) r3.1) (some 7) r4.1) (some 8) r5.1) (some 9) r6.1) (some 10) r7.1) (some 11) r8.1) (some 12) r9.1) (some 13) r10.1) (some 14) r11.1) (some 15) r12.1), r12.2)) (
      bnd (oMv (R 0) r12.2) fun r13 =>
      bnd (oMv (R 0) r13.2) fun r14 =>
      bnd (oBuiltin Tryz.prog .len #[9] 3 #[false] [r14.1] r14.2) fun r15 =>
      bnd (oBin Tryz.prog .sub 3 false true r15.1 (.int .i64 1) r15.2) fun r16 =>
      bnd (oSlice Tryz.prog 9 r13.1 none (some r16.1) none r16.2) fun r17 =>
      bnd (oMv r17.1 r17.2) fun r18 =>
      some (X.normal, (rput (rput (rput (rput (rput (rput (rput (rput (rput (rput (rput (rput (rput (rput (rput (rput (rput R (some 5) r2.1) (some 6) r3.1) (some 7) r4.1) (some 8) r5.1) (some 9) r6.1) (some 10) r7.1) (some 11) r8.1) (some 12) r9.1) (some 13) r10.1) (some 14) r11.1) (some 15) r12.1) (some 16) r13.1) (some 17) r14.1) (some 18) r15.1) (some 19) r16.1) (some 20) r17.1) (some 0) r18.1), r18.2))) (
    some (X.exit 0, (rput (rput (rput R (some 5) r2.1) (some 6) r3.1) (some 7) r4.1), r4.2))
noncomputable def strings_trimRightASCII (call : Eng.Callee) (x0 x1 : Value) (W : AW) : Option (Value × AW) :=
  bnd (oMv (strV []) W) fun r1 =>
  bnd (loopO (strings_trimRightASCII_L1 call) (rput (argGo 0 [x0, x1] PlanTab.blank) (some 4) r1.1) r1.2) fun r19 =>
  kExit 0 r19.1 (
    bnd (oMv (r19.2.1 0) r19.2.2) fun r20 =>
    bnd (oMv r20.1 r20.2) fun r21 =>
    oRes Tryz.prog [(r21.1, none)] r21.2) (none)
theorem strings_trimRightASCII_eq (call : Eng.Callee) (x0 x1 : Value) (W : AW) : kFun Tryz.prog call 22 (cod 89) (rss 89) [x0, x1] W = strings_trimRightASCII call x0 x1 W := by kernel_rfl
theorem strings_trimRightASCII_om {x0 x1 : Value} {W : AW} {r : Value × AW} (h : strings_trimRightASCII omS x0 x1 W = some r) : omS (.func (.func 89) #[] #[]) [x0, x1] W = some (gc W r) := om_of (nt := 22) (n := 2) (by kernel_rfl) (by kernel_rfl) rfl ((strings_trimRightASCII_eq omS x0 x1 W).trans h)
noncomputable def strings_asciiSet_contains (call : Eng.Callee) (x0 x1 : Value) (W : AW) : Option (Value × AW) :=
  bnd (oMv (.bool false) W) fun r1 =>
  bnd (oMv x0 r1.2) fun r2 =>
  bnd (oMv x1 r2.2) fun r3 =>
  bnd (oNilCheck r2.1 r3.2) fun r4 =>
  bnd (ixA 256 1 r4.1 r3.1 r4.2) fun r5 =>
  bnd (ldC r5.1 r5.2) fun r6 =>
  bnd (oMv r6.1 r6.2) fun r7 =>
  oRes Tryz.prog [(r7.1, none)] r7.2
theorem strings_asciiSet_contains_eq (call : Eng.Callee) (x0 x1 : Value) (W : AW) : kFun Tryz.prog call 10 (cod 103) (rss 103) [x0, x1] W = strings_asciiSet_contains call x0 x1 W := by kernel_rfl
theorem strings_asciiSet_contains_om {x0 x1 : Value} {W : AW} {r : Value × AW} (h : strings_asciiSet_contains omS x0 x1 W = some r) : omS (.func (.func 103) #[] #[]) [x0, x1] W = some (gc W r) := om_of (nt := 10) (n := 2) (by kernel_rfl) (by kernel_rfl) rfl ((strings_asciiSet_contains_eq omS x0 x1 W).trans h)
end Go.Proofs.YtfcfglpkgcheiaaGreatDoor
