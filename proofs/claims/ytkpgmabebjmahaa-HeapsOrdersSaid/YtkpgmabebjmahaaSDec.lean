/- Texts of the program told in continuations: written by a program, shown by the kernel. -/
import Derived.Test.YtkpgmabebjmahaaSBase
import Derived.KernelRfl
namespace Go.Proofs.Ytkpgmabebjmahaa
open Go Go.Eng
set_option linter.unusedVariables false
set_option maxRecDepth 100000
noncomputable def law06_HeapsOrders_L1_L2 (call : Eng.Callee) (R : Nat → Value) (W : AW) : Option LT :=
  bnd (oMv (R 8) W) fun r20 =>
  bnd (oMv (R 5) r20.2) fun r21 =>
  bnd (oBuiltin Try.prog .len #[22] 3 #[false] [r21.1] r21.2) fun r22 =>
  bnd (oBin Try.prog .lss 3 false false r20.1 r22.1 r22.2) fun r23 =>
  vIf r23.1 (
    bnd (oMv (R 7) r23.2) fun r24 =>
    bnd (oMv r24.1 r24.2) fun r25 =>
    bnd (bIf (wnt r25.1 false) (oMv (R 5) r25.2) (some (undef, r25.2))) fun r26 =>
    bnd (bIf (wnt r25.1 false) (oMv (R 8) r26.2) (some (undef, r26.2))) fun r27 =>
    bnd (bIf (wnt r25.1 false) (ixS 1 r26.1 r27.1 r27.2) (some (undef, r27.2))) fun r28 =>
    bnd (bIf (wnt r25.1 false) (ldC r28.1 r28.2) (some (undef, r28.2))) fun r29 =>
    bnd (bIf (wnt r25.1 false) (oMv (R 0) r29.2) (some (undef, r29.2))) fun r30 =>
    bnd (bIf (wnt r25.1 false) (oMv (R 6) r30.2) (some (undef, r30.2))) fun r31 =>
    bnd (bIf (wnt r25.1 false) (ixS 1 r30.1 r31.1 r31.2) (some (undef, r31.2))) fun r32 =>
    bnd (bIf (wnt r25.1 false) (ldC r32.1 r32.2) (some (undef, r32.2))) fun r33 =>
    bnd (bIf (wnt r25.1 false) (oBin Try.prog .eql 3 false false r29.1 r33.1 r33.2) (some (undef, r33.2))) fun r34 =>
    bnd (oPick r25.1 (.bool true) r34.1 r34.2) fun r35 =>
    bnd (oMv r35.1 r35.2) fun r36 =>
    bnd (oMv (R 8) r36.2) fun r37 =>
    bnd (oBin Try.prog .add 3 false true r37.1 (.int .i64 1) r37.2) fun r38 =>
    bnd (oMv r38.1 r38.2) fun r39 =>
    some (X.normal, (rput (rput (rput (rput (rput (rput (rput (rput (rput (rput (rput (rput (rput (rput (rput (rput (rput (rput (rput (rput R (some 46) r20.1) (some 47) r21.1) (some 48) r22.1) (some 49) r23.1) (some 52) r24.1) (some 53) r25.1) (some 54) r26.1) (some 55) r27.1) (some 56) r28.1) (some 57) r29.1) (some 58) r30.1) (some 59) r31.1) (some 60) r32.1) (some 61) r33.1) (some 62) r34.1) (some 63) r35.1) (some 7) r36.1) (some 50) r37.1) (some 51) r38.1) (some 8) r39.1), r39.2)) (
    some (X.exit 2, (rput (rput (rput (rput R (some 46) r20.1) (some 47) r21.1) (some 48) r22.1) (some 49) r23.1), r23.2))
noncomputable def law06_HeapsOrders_L1 (call : Eng.Callee) (R : Nat → Value) (W : AW) : Option LT :=
  bnd (oMv (R 6) W) fun r14 =>
  bnd (oMv (R 0) r14.2) fun r15 =>
  bnd (oBuiltin Try.prog .len #[22] 3 #[false] [r15.1] r15.2) fun r16 =>
  bnd (oBin Try.prog .lss 3 false false r14.1 r16.1 r16.2) fun r17 =>
  vIf r17.1 (
    bnd (oMv (.bool false) r17.2) fun r18 =>
    bnd (oMv (.int .i64 0) r18.2) fun r19 =>
    bnd (loopO (law06_HeapsOrders_L1_L2 call) (rput (rput (rput (rput (rput (rput R (some 40) r14.1) (some 41) r15.1) (some 42) r16.1) (some 43) r17.1) (some 7) r18.1) (some 8) r19.1) r19.2) fun r40 =>
    kExit 2 r40.1 (
      bnd (oMv (r40.2.1 7) r40.2.2) fun r41 =>
      bnd (oUn Try.prog .not r41.1 r41.2) fun r42 =>
      vIf r42.1 (
        bnd (oMv (r40.2.1 5) r42.2) fun r43 =>
        bnd (oMv (r40.2.1 0) r43.2) fun r44 =>
        bnd (oMv (r40.2.1 6) r44.2) fun r45 =>
        bnd (ixS 1 r44.1 r45.1 r45.2) fun r46 =>
        bnd (ldC r46.1 r46.2) fun r47 =>
        bnd (oBuildSlice Try.prog 22 1 [(0, r47.1)] r47.2) fun r48 =>
        bnd (aAppend Try.prog r48.2 #[22, 22] r43.1 r48.1) fun r49 =>
        bnd (oMv r49.1 r49.2) fun r50 =>
        bnd (oMv (r40.2.1 6) r50.2) fun r51 =>
        bnd (oBin Try.prog .add 3 false true r51.1 (.int .i64 1) r51.2) fun r52 =>
        bnd (oMv r52.1 r52.2) fun r53 =>
        some (X.normal, (rput (rput (rput (rput (rput (rput (rput (rput (rput (rput (rput (rput (rput r40.2.1 (some 64) r41.1) (some 65) r42.1) (some 66) r43.1) (some 67) r44.1) (some 68) r45.1) (some 69) r46.1) (some 70) r47.1) (some 71) r48.1) (some 72) r49.1) (some 5) r50.1) (some 44) r51.1) (some 45) r52.1) (some 6) r53.1), r53.2)) (
        bnd (oMv (r40.2.1 6) r42.2) fun r54 =>
        bnd (oBin Try.prog .add 3 false true r54.1 (.int .i64 1) r54.2) fun r55 =>
        bnd (oMv r55.1 r55.2) fun r56 =>
        some (X.normal, (rput (rput (rput (rput (rput r40.2.1 (some 64) r41.1) (some 65) r42.1) (some 44) r54.1) (some 45) r55.1) (some 6) r56.1), r56.2))) (none)) (
    some (X.exit 0, (rput (rput (rput (rput R (some 40) r14.1) (some 41) r15.1) (some 42) r16.1) (some 43) r17.1), r17.2))
noncomputable def law06_HeapsOrders_L3 (call : Eng.Callee) (R : Nat → Value) (W : AW) : Option LT :=
  bnd (oMv (R 11) W) fun r75 =>
  bnd (oBuiltin Try.prog .len #[22] 3 #[false] [r75.1] r75.2) fun r76 =>
  bnd (oBin Try.prog .gtr 3 false true r76.1 (.int .i64 0) r76.2) fun r77 =>
  vIf r77.1 (
    bnd (oMv (.int .i64 0) r77.2) fun r78 =>
    bnd (oMv (R 1) r78.2) fun r79 =>
    bnd (oBuiltin Try.prog .len #[47] 3 #[false] [r79.1] r79.2) fun r80 =>
    bnd (oBin Try.prog .gtr 3 false true r80.1 (.int .i64 0) r80.2) fun r81 =>
    vIf r81.1 (
      bnd (oMv (R 1) r81.2) fun r82 =>
      bnd (oMv (R 12) r82.2) fun r83 =>
      bnd (oMv (R 1) r83.2) fun r84 =>
      bnd (oBuiltin Try.prog .len #[47] 3 #[false] [r84.1] r84.2) fun r85 =>
      bnd (oBin Try.prog .rem 3 false false r83.1 r85.1 r85.2) fun r86 =>
      bnd (ixS 1 r82.1 r86.1 r86.2) fun r87 =>
      bnd (ldC r87.1 r87.2) fun r88 =>
      bnd (oConv Try.prog 5 3 r88.1 r88.2) fun r89 =>
      bnd (oMv (R 11) r89.2) fun r90 =>
      bnd (oBuiltin Try.prog .len #[22] 3 #[false] [r90.1] r90.2) fun r91 =>
      bnd (oBin Try.prog .rem 3 false false r89.1 r91.1 r91.2) fun r92 =>
      bnd (oMv r92.1 r92.2) fun r93 =>
      bnd (oMv (R 10) r93.2) fun r94 =>
      bnd (oMv (R 11) r94.2) fun r95 =>
      bnd (oMv r93.1 r95.2) fun r96 =>
      bnd (ixS 1 r95.1 r96.1 r96.2) fun r97 =>
      bnd (ldC r97.1 r97.2) fun r98 =>
      bnd (oBuild Try.prog 70 [(0, (strV [120])), (1, r98.1)] r98.2) fun r99 =>
      bnd (call (fnV 33) [r94.1, r99.1] r99.2) fun r100 =>
      bnd (oMv r100.1 r100.2) fun r101 =>
      bnd (oExtract r101.1 0 r101.2) fun r102 =>
      bnd (oExtract r101.1 1 r102.2) fun r103 =>
      bnd (oMv r102.1 r103.2) fun r104 =>
      bnd (oMv r103.1 r104.2) fun r105 =>
      bnd (oMv r105.1 r105.2) fun r106 =>
      bnd (oBin Try.prog .neq 29 false true r106.1 (.int .i64 0) r106.2) fun r107 =>
      vIf r107.1 (
        bnd (oMv (.bool false) r107.2) fun r108 =>
        some (X.ret, (rput (rput (rput (rput (rput (rput (rput (rput (rput (rput (rput (rput (rput (rput (rput (rput (rput (rput (rput (rput (rput (rput (rput (rput (rput (rput (rput (rput (rput (rput (rput (rput (rput (rput R (some 85) r75.1) (some 86) r76.1) (some 87) r77.1) (some 13) r78.1) (some 90) r79.1) (some 91) r80.1) (some 92) r81.1) (some 93) r82.1) (some 94) r83.1) (some 95) r84.1) (some 96) r85.1) (some 97) r86.1) (some 98) r87.1) (some 99) r88.1) (some 100) r89.1) (some 101) r90.1) (some 102) r91.1) (some 103) r92.1) (some 13) r93.1) (some 105) r94.1) (some 106) r95.1) (some 107) r96.1) (some 108) r97.1) (some 109) r98.1) (some 110) r99.1) (some 111) r100.1) (some 104) r101.1) (some 112) r102.1) (some 113) r103.1) (some 14) r104.1) (some 15) r105.1) (some 114) r106.1) (some 115) r107.1) (some 4) r108.1), r108.2)) (
        bnd (oMv (R 11) r107.2) fun r109 =>
        bnd (oMv r93.1 r109.2) fun r110 =>
        bnd (oMv r93.1 r110.2) fun r111 =>
        bnd (oSlice Try.prog 22 r109.1 none (some r110.1) (some r111.1) r111.2) fun r112 =>
        bnd (oMv (R 11) r112.2) fun r113 =>
        bnd (oMv r93.1 r113.2) fun r114 =>
        bnd (oBin Try.prog .add 3 false true r114.1 (.int .i64 1) r114.2) fun r115 =>
        bnd (oSlice Try.prog 22 r113.1 (some r115.1) none none r115.2) fun r116 =>
        bnd (aAppend Try.prog r116.2 #[22, 22] r112.1 r116.1) fun r117 =>
        bnd (oMv r117.1 r117.2) fun r118 =>
        bnd (oMv (R 12) r118.2) fun r119 =>
        bnd (oBin Try.prog .add 3 false true r119.1 (.int .i64 1) r119.2) fun r120 =>
        bnd (oMv r120.1 r120.2) fun r121 =>
        some (X.normal, (rput (rput (rput (rput (rput (rput (rput (rput (rput (rput (rput (rput (rput (rput (rput (rput (rput (rput (rput (rput (rput (rput (rput (rput (rput (rput (rput (rput (rput (rput (rput (rput (rput (rput (rput (rput (rput (rput (rput (rput (rput (rput (rput (rput (rput (rput R (some 85) r75.1) (some 86) r76.1) (some 87) r77.1) (some 13) r78.1) (some 90) r79.1) (some 91) r80.1) (some 92) r81.1) (some 93) r82.1) (some 94) r83.1) (some 95) r84.1) (some 96) r85.1) (some 97) r86.1) (some 98) r87.1) (some 99) r88.1) (some 100) r89.1) (some 101) r90.1) (some 102) r91.1) (some 103) r92.1) (some 13) r93.1) (some 105) r94.1) (some 106) r95.1) (some 107) r96.1) (some 108) r97.1) (some 109) r98.1) (some 110) r99.1) (some 111) r100.1) (some 104) r101.1) (some 112) r102.1) (some 113) r103.1) (some 14) r104.1) (some 15) r105.1) (some 114) r106.1) (some 115) r107.1) (some 116) r109.1) (some 117) r110.1) (some 118) r111.1) (some 119) r112.1) (some 120) r113.1) (some 121) r114.1) (some 122) r115.1) (some 123) r116.1) (some 124) r117.1) (some 11) r118.1) (some 88) r119.1) (some 89) r120.1) (some 12) r121.1), r121.2))) (
      bnd (oMv (R 10) r81.2) fun r122 =>
      bnd (oMv (R 11) r122.2) fun r123 =>
      bnd (oMv r78.1 r123.2) fun r124 =>
      bnd (ixS 1 r123.1 r124.1 r124.2) fun r125 =>
      bnd (ldC r125.1 r125.2) fun r126 =>
      bnd (oBuild Try.prog 70 [(0, (strV [120])), (1, r126.1)] r126.2) fun r127 =>
      bnd (call (fnV 33) [r122.1, r127.1] r127.2) fun r128 =>
      bnd (oMv r128.1 r128.2) fun r129 =>
      bnd (oExtract r129.1 0 r129.2) fun r130 =>
      bnd (oExtract r129.1 1 r130.2) fun r131 =>
      bnd (oMv r130.1 r131.2) fun r132 =>
      bnd (oMv r131.1 r132.2) fun r133 =>
      bnd (oMv r133.1 r133.2) fun r134 =>
      bnd (oBin Try.prog .neq 29 false true r134.1 (.int .i64 0) r134.2) fun r135 =>
      vIf r135.1 (
        bnd (oMv (.bool false) r135.2) fun r136 =>
        some (X.ret, (rput (rput (rput (rput (rput (rput (rput (rput (rput (rput (rput (rput (rput (rput (rput (rput (rput (rput (rput (rput (rput (rput R (some 85) r75.1) (some 86) r76.1) (some 87) r77.1) (some 13) r78.1) (some 90) r79.1) (some 91) r80.1) (some 92) r81.1) (some 105) r122.1) (some 106) r123.1) (some 107) r124.1) (some 108) r125.1) (some 109) r126.1) (some 110) r127.1) (some 111) r128.1) (some 104) r129.1) (some 112) r130.1) (some 113) r131.1) (some 14) r132.1) (some 15) r133.1) (some 114) r134.1) (some 115) r135.1) (some 4) r136.1), r136.2)) (
        bnd (oMv (R 11) r135.2) fun r137 =>
        bnd (oMv r78.1 r137.2) fun r138 =>
        bnd (oMv r78.1 r138.2) fun r139 =>
        bnd (oSlice Try.prog 22 r137.1 none (some r138.1) (some r139.1) r139.2) fun r140 =>
        bnd (oMv (R 11) r140.2) fun r141 =>
        bnd (oMv r78.1 r141.2) fun r142 =>
        bnd (oBin Try.prog .add 3 false true r142.1 (.int .i64 1) r142.2) fun r143 =>
        bnd (oSlice Try.prog 22 r141.1 (some r143.1) none none r143.2) fun r144 =>
        bnd (aAppend Try.prog r144.2 #[22, 22] r140.1 r144.1) fun r145 =>
        bnd (oMv r145.1 r145.2) fun r146 =>
        bnd (oMv (R 12) r146.2) fun r147 =>
        bnd (oBin Try.prog .add 3 false true r147.1 (.int .i64 1) r147.2) fun r148 =>
        bnd (oMv r148.1 r148.2) fun r149 =>
        some (X.normal, (rput (rput (rput (rput (rput (rput (rput (rput (rput (rput (rput (rput (rput (rput (rput (rput (rput (rput (rput (rput (rput (rput (rput (rput (rput (rput (rput (rput (rput (rput (rput (rput (rput (rput R (some 85) r75.1) (some 86) r76.1) (some 87) r77.1) (some 13) r78.1) (some 90) r79.1) (some 91) r80.1) (some 92) r81.1) (some 105) r122.1) (some 106) r123.1) (some 107) r124.1) (some 108) r125.1) (some 109) r126.1) (some 110) r127.1) (some 111) r128.1) (some 104) r129.1) (some 112) r130.1) (some 113) r131.1) (some 14) r132.1) (some 15) r133.1) (some 114) r134.1) (some 115) r135.1) (some 116) r137.1) (some 117) r138.1) (some 118) r139.1) (some 119) r140.1) (some 120) r141.1) (some 121) r142.1) (some 122) r143.1) (some 123) r144.1) (some 124) r145.1) (some 11) r146.1) (some 88) r147.1) (some 89) r148.1) (some 12) r149.1), r149.2)))) (
    some (X.exit 4, (rput (rput (rput R (some 85) r75.1) (some 86) r76.1) (some 87) r77.1), r77.2))
noncomputable def law06_HeapsOrders_L4 (call : Eng.Callee) (R : Nat → Value) (W : AW) : Option LT :=
  bnd (oMv (R 18) W) fun r163 =>
  bnd (oMv (R 5) r163.2) fun r164 =>
  bnd (oBuiltin Try.prog .len #[22] 3 #[false] [r164.1] r164.2) fun r165 =>
  bnd (oBin Try.prog .lss 3 false false r163.1 r165.1 r165.2) fun r166 =>
  vIf r166.1 (
    bnd (oMv (R 9) r166.2) fun r167 =>
    bnd (call (fnV 15) [r167.1] r167.2) fun r168 =>
    bnd (oMv r168.1 r168.2) fun r169 =>
    bnd (oExtract r169.1 0 r169.2) fun r170 =>
    bnd (oExtract r169.1 1 r170.2) fun r171 =>
    bnd (oExtract r169.1 2 r171.2) fun r172 =>
    bnd (oMv r170.1 r172.2) fun r173 =>
    bnd (oMv r171.1 r173.2) fun r174 =>
    bnd (oMv r172.1 r174.2) fun r175 =>
    bnd (oMv (R 10) r175.2) fun r176 =>
    bnd (call (fnV 36) [r176.1] r176.2) fun r177 =>
    bnd (oMv r177.1 r177.2) fun r178 =>
    bnd (oExtract r178.1 0 r178.2) fun r179 =>
    bnd (oExtract r178.1 1 r179.2) fun r180 =>
    bnd (oExtract r178.1 2 r180.2) fun r181 =>
    bnd (oAlloc Try.prog 70 r181.2) fun r182 =>
    bnd (oMv r179.1 r182.2) fun r183 =>
    bnd (stV 2 r182.1 r180.1 r183.2) fun r184 =>
    bnd (oMv r181.1 r184.2) fun r185 =>
    bnd (oMv (R 16) r185.2) fun r186 =>
    bnd (call (fnV 15) [r186.1] r186.2) fun r187 =>
    bnd (oMv r187.1 r187.2) fun r188 =>
    bnd (oExtract r188.1 0 r188.2) fun r189 =>
    bnd (oExtract r188.1 1 r189.2) fun r190 =>
    bnd (oExtract r188.1 2 r190.2) fun r191 =>
    bnd (oMv r189.1 r191.2) fun r192 =>
    bnd (oMv r190.1 r192.2) fun r193 =>
    bnd (oMv r191.1 r193.2) fun r194 =>
    bnd (oMv r175.1 r194.2) fun r195 =>
    bnd (oBin Try.prog .neq 29 false true r195.1 (.int .i64 0) r195.2) fun r196 =>
    bnd (oMv r196.1 r196.2) fun r197 =>
    bnd (bIf (wnt r197.1 false) (oMv r185.1 r197.2) (some (undef, r197.2))) fun r198 =>
    bnd (bIf (wnt r197.1 false) (oBin Try.prog .neq 29 false true r198.1 (.int .i64 0) r198.2) (some (undef, r198.2))) fun r199 =>
    bnd (oPick r197.1 (.bool true) r199.1 r199.2) fun r200 =>
    bnd (oMv r200.1 r200.2) fun r201 =>
    bnd (bIf (wnt r201.1 false) (oMv r194.1 r201.2) (some (undef, r201.2))) fun r202 =>
    bnd (bIf (wnt r201.1 false) (oBin Try.prog .neq 29 false true r202.1 (.int .i64 0) r202.2) (some (undef, r202.2))) fun r203 =>
    bnd (oPick r201.1 (.bool true) r203.1 r203.2) fun r204 =>
    bnd (oMv r204.1 r204.2) fun r205 =>
    bnd (bIf (wnt r205.1 false) (oMv r174.1 r205.2) (some (undef, r205.2))) fun r206 =>
    bnd (bIf (wnt r205.1 false) (faO 1 r182.1 r206.2) (some (undef, r206.2))) fun r207 =>
    bnd (bIf (wnt r205.1 false) (ldC r207.1 r207.2) (some (undef, r207.2))) fun r208 =>
    bnd (bIf (wnt r205.1 false) (oBin Try.prog .neq 3 false false r206.1 r208.1 r208.2) (some (undef, r208.2))) fun r209 =>
    bnd (oPick r205.1 (.bool true) r209.1 r209.2) fun r210 =>
    bnd (oMv r210.1 r210.2) fun r211 =>
    bnd (bIf (wnt r211.1 false) (faO 0 r182.1 r211.2) (some (undef, r211.2))) fun r212 =>
    bnd (bIf (wnt r211.1 false) (ldC r212.1 r212.2) (some (undef, r212.2))) fun r213 =>
    bnd (bIf (wnt r211.1 false) (oBin Try.prog .neq 9 false true r213.1 (strV [120]) r213.2) (some (undef, r213.2))) fun r214 =>
    bnd (oPick r211.1 (.bool true) r214.1 r214.2) fun r215 =>
    bnd (oMv r215.1 r215.2) fun r216 =>
    bnd (bIf (wnt r216.1 false) (oMv r174.1 r216.2) (some (undef, r216.2))) fun r217 =>
    bnd (bIf (wnt r216.1 false) (oMv r193.1 r217.2) (some (undef, r217.2))) fun r218 =>
    bnd (bIf (wnt r216.1 false) (oBin Try.prog .neq 3 false false r217.1 r218.1 r218.2) (some (undef, r218.2))) fun r219 =>
    bnd (oPick r216.1 (.bool true) r219.1 r219.2) fun r220 =>
    bnd (oMv r220.1 r220.2) fun r221 =>
    bnd (bIf (wnt r221.1 false) (oMv r173.1 r221.2) (some (undef, r221.2))) fun r222 =>
    bnd (bIf (wnt r221.1 false) (oMv r192.1 r222.2) (some (undef, r222.2))) fun r223 =>
    bnd (bIf (wnt r221.1 false) (oBin Try.prog .neq 2 false false r222.1 r223.1 r223.2) (some (undef, r223.2))) fun r224 =>
    bnd (oPick r221.1 (.bool true) r224.1 r224.2) fun r225 =>
    vIf r225.1 (
      bnd (oMv (.bool false) r225.2) fun r226 =>
      some (X.ret, (rput (rput (rput (rput (rput (rput (rput (rput (rput (rput (rput (rput (rput (rput (rput (rput (rput (rput (rput (rput (rput (rput (rput (rput (rput (rput (rput (rput (rput (rput (rput (rput (rput (rput (rput (rput (rput (rput (rput (rput (rput (rput (rput (rput (rput (rput (rput (rput (rput (rput (rput (rput (rput (rput (rput (rput (rput (rput (rput (rput (rput (rput (rput R (some 133) r163.1) (some 134) r164.1) (some 135) r165.1) (some 136) r166.1) (some 140) r167.1) (some 141) r168.1) (some 139) r169.1) (some 142) r170.1) (some 143) r171.1) (some 144) r172.1) (some 19) r173.1) (some 20) r174.1) (some 21) r175.1) (some 146) r176.1) (some 147) r177.1) (some 145) r178.1) (some 148) r179.1) (some 149) r180.1) (some 150) r181.1) (some 23) r182.1) (some 22) r183.1) (some 24) r185.1) (some 152) r186.1) (some 153) r187.1) (some 151) r188.1) (some 154) r189.1) (some 155) r190.1) (some 156) r191.1) (some 25) r192.1) (some 26) r193.1) (some 27) r194.1) (some 157) r195.1) (some 158) r196.1) (some 159) r197.1) (some 160) r198.1) (some 161) r199.1) (some 162) r200.1) (some 163) r201.1) (some 164) r202.1) (some 165) r203.1) (some 166) r204.1) (some 167) r205.1) (some 168) r206.1) (some 169) r207.1) (some 170) r208.1) (some 171) r209.1) (some 172) r210.1) (some 173) r211.1) (some 174) r212.1) (some 175) r213.1) (some 176) r214.1) (some 177) r215.1) (some 178) r216.1) (some 179) r217.1) (some 180) r218.1) (some 181) r219.1) (some 182) r220.1) (some 183) r221.1) (some 184) r222.1) (some 185) r223.1) (some 186) r224.1) (some 187) r225.1) (some 4) r226.1), r226.2)) (
      bnd (oMv (R 18) r225.2) fun r227 =>
      bnd (oBin Try.prog .add 3 false true r227.1 (.int .i64 1) r227.2) fun r228 =>
      bnd (oMv r228.1 r228.2) fun r229 =>
      some (X.normal, (rput (rput (rput (rput (rput (rput (rput (rput (rput (rput (rput (rput (rput (rput (rput (rput (rput (rput (rput (rput (rput (rput (rput (rput (rput (rput (rput (rput (rput (rput (rput (rput (rput (rput (rput (rput (rput (rput (rput (rput (rput (rput (rput (rput (rput (rput (rput (rput (rput (rput (rput (rput (rput (rput (rput (rput (rput (rput (rput (rput (rput (rput (rput (rput (rput R (some 133) r163.1) (some 134) r164.1) (some 135) r165.1) (some 136) r166.1) (some 140) r167.1) (some 141) r168.1) (some 139) r169.1) (some 142) r170.1) (some 143) r171.1) (some 144) r172.1) (some 19) r173.1) (some 20) r174.1) (some 21) r175.1) (some 146) r176.1) (some 147) r177.1) (some 145) r178.1) (some 148) r179.1) (some 149) r180.1) (some 150) r181.1) (some 23) r182.1) (some 22) r183.1) (some 24) r185.1) (some 152) r186.1) (some 153) r187.1) (some 151) r188.1) (some 154) r189.1) (some 155) r190.1) (some 156) r191.1) (some 25) r192.1) (some 26) r193.1) (some 27) r194.1) (some 157) r195.1) (some 158) r196.1) (some 159) r197.1) (some 160) r198.1) (some 161) r199.1) (some 162) r200.1) (some 163) r201.1) (some 164) r202.1) (some 165) r203.1) (some 166) r204.1) (some 167) r205.1) (some 168) r206.1) (some 169) r207.1) (some 170) r208.1) (some 171) r209.1) (some 172) r210.1) (some 173) r211.1) (some 174) r212.1) (some 175) r213.1) (some 176) r214.1) (some 177) r215.1) (some 178) r216.1) (some 179) r217.1) (some 180) r218.1) (some 181) r219.1) (some 182) r220.1) (some 183) r221.1) (some 184) r222.1) (some 185) r223.1) (some 186) r224.1) (some 187) r225.1) (some 137) r227.1) (some 138) r228.1) (some 18) r229.1), r229.2))) (
    some (X.exit 6, (rput (rput (rput (rput R (some 133) r163.1) (some 134) r164.1) (some 135) r165.1) (some 136) r166.1), r166.2))
noncomputable def law06_HeapsOrders (call : Eng.Callee) (x0 x1 : Value) (W : AW) : Option (Value × AW) :=
  bnd (oMv (.bool false) W) fun r1 =>
  bnd (oMv x0 r1.2) fun r2 =>
  bnd (oBuiltin Try.prog .len #[22] 3 #[false] [r2.1] r2.2) fun r3 =>
  bnd (oBin Try.prog .gtr 3 false true r3.1 (.int .i64 100) r3.2) fun r4 =>
  bnd (oMv r4.1 r4.2) fun r5 =>
  bnd (bIf (wnt r5.1 false) (oMv x1 r5.2) (some (undef, r5.2))) fun r6 =>
  bnd (bIf (wnt r5.1 false) (oBuiltin Try.prog .len #[47] 3 #[false] [r6.1] r6.2) (some (undef, r6.2))) fun r7 =>
  bnd (bIf (wnt r5.1 false) (oBin Try.prog .gtr 3 false true r7.1 (.int .i64 200) r7.2) (some (undef, r7.2))) fun r8 =>
  bnd (oPick r5.1 (.bool true) r8.1 r8.2) fun r9 =>
  vIf r9.1 (
    bnd (call (fnV 12) [] r9.2) fun r10 =>
    bnd (oMv r10.1 r10.2) fun r11 =>
    oRes Try.prog [(r11.1, none)] r11.2) (
    bnd (oMv (.slice none 0 0) r9.2) fun r12 =>
    bnd (oMv (.int .i64 0) r12.2) fun r13 =>
    bnd (loopO (law06_HeapsOrders_L1 call) (rput (rput (rput (rput (rput (rput (rput (rput (rput (rput (rput (argGo 0 [x0, x1] PlanTab.blank) (some 4) r1.1) (some 31) r2.1) (some 32) r3.1) (some 33) r4.1) (some 34) r5.1) (some 35) r6.1) (some 36) r7.1) (some 37) r8.1) (some 38) r9.1) (some 5) r12.1) (some 6) r13.1) r13.2) fun r57 =>
    kExit 0 r57.1 (
      bnd (oMv (r57.2.1 5) r57.2.2) fun r58 =>
      bnd (call (fnV 13) [(.int .u8 0), r58.1] r58.2) fun r59 =>
      bnd (oMv r59.1 r59.2) fun r60 =>
      bnd (call (fnV 31) [(fnV 32)] r60.2) fun r61 =>
      bnd (oMv r61.1 r61.2) fun r62 =>
      bnd (oMv r60.1 r62.2) fun r63 =>
      bnd (oBin Try.prog .eql 24 false true r63.1 (.pointer none) r63.2) fun r64 =>
      bnd (oMv r64.1 r64.2) fun r65 =>
      bnd (bIf (wnt r65.1 false) (oMv r62.1 r65.2) (some (undef, r65.2))) fun r66 =>
      bnd (bIf (wnt r65.1 false) (oBin Try.prog .eql 67 false true r66.1 (.pointer none) r66.2) (some (undef, r66.2))) fun r67 =>
      bnd (oPick r65.1 (.bool true) r67.1 r67.2) fun r68 =>
      vIf r68.1 (
        bnd (oMv (.bool false) r68.2) fun r69 =>
        oRes Try.prog [(r69.1, none)] r69.2) (
        bnd (oBuildSlice Try.prog 22 0 [] r68.2) fun r70 =>
        bnd (oMv (r57.2.1 5) r70.2) fun r71 =>
        bnd (aAppend Try.prog r71.2 #[22, 22] r70.1 r71.1) fun r72 =>
        bnd (oMv r72.1 r72.2) fun r73 =>
        bnd (oMv (.int .i64 0) r73.2) fun r74 =>
        bnd (loopO (law06_HeapsOrders_L3 call) (rput (rput (rput (rput (rput (rput (rput (rput (rput (rput (rput (rput (rput (rput (rput (rput r57.2.1 (some 73) r58.1) (some 74) r59.1) (some 9) r60.1) (some 75) r61.1) (some 10) r62.1) (some 76) r63.1) (some 77) r64.1) (some 78) r65.1) (some 79) r66.1) (some 80) r67.1) (some 81) r68.1) (some 82) r70.1) (some 83) r71.1) (some 84) r72.1) (some 11) r73.1) (some 12) r74.1) r74.2) fun r150 =>
        kExit 4 r150.1 (
          bnd (oMv (r150.2.1 9) r150.2.2) fun r151 =>
          bnd (call (fnV 27) [r151.1] r151.2) fun r152 =>
          bnd (call (fnV 34) [(fnV 35), r152.1] r152.2) fun r153 =>
          bnd (oMv r153.1 r153.2) fun r154 =>
          bnd (oExtract r154.1 0 r154.2) fun r155 =>
          bnd (oExtract r154.1 1 r155.2) fun r156 =>
          bnd (oMv r155.1 r156.2) fun r157 =>
          bnd (oMv r156.1 r157.2) fun r158 =>
          bnd (oMv r158.1 r158.2) fun r159 =>
          bnd (oBin Try.prog .neq 29 false true r159.1 (.int .i64 0) r159.2) fun r160 =>
          vIf r160.1 (
            bnd (oMv (.bool false) r160.2) fun r161 =>
            oRes Try.prog [(r161.1, none)] r161.2) (
            bnd (oMv (.int .i64 0) r160.2) fun r162 =>
            bnd (loopO (law06_HeapsOrders_L4 call) (rput (rput (rput (rput (rput (rput (rput (rput (rput (rput (rput r150.2.1 (some 126) r151.1) (some 127) r152.1) (some 128) r153.1) (some 125) r154.1) (some 129) r155.1) (some 130) r156.1) (some 16) r157.1) (some 17) r158.1) (some 131) r159.1) (some 132) r160.1) (some 18) r162.1) r162.2) fun r230 =>
            kExit 6 r230.1 (
              bnd (oMv (r230.2.1 9) r230.2.2) fun r231 =>
              bnd (call (fnV 25) [r231.1, (.int .i64 1)] r231.2) fun r232 =>
              bnd (oMv r232.1 r232.2) fun r233 =>
              bnd (oExtract r233.1 0 r233.2) fun r234 =>
              bnd (oExtract r233.1 1 r234.2) fun r235 =>
              bnd (oMv r234.1 r235.2) fun r236 =>
              bnd (oMv r235.1 r236.2) fun r237 =>
              bnd (oMv (r230.2.1 16) r237.2) fun r238 =>
              bnd (call (fnV 25) [r238.1, (.int .i64 1)] r238.2) fun r239 =>
              bnd (oMv r239.1 r239.2) fun r240 =>
              bnd (oExtract r240.1 0 r240.2) fun r241 =>
              bnd (oExtract r240.1 1 r241.2) fun r242 =>
              bnd (oMv r241.1 r242.2) fun r243 =>
              bnd (oMv r242.1 r243.2) fun r244 =>
              bnd (oMv r237.1 r244.2) fun r245 =>
              bnd (oBin Try.prog .eql 29 false true r245.1 (.int .i64 0) r245.2) fun r246 =>
              bnd (oMv r246.1 r246.2) fun r247 =>
              bnd (bIf (wnt r247.1 true) (oMv r244.1 r247.2) (some (undef, r247.2))) fun r248 =>
              bnd (bIf (wnt r247.1 true) (oBin Try.prog .eql 29 false true r248.1 (.int .i64 0) r248.2) (some (undef, r248.2))) fun r249 =>
              bnd (oPick r247.1 r249.1 (.bool false) r249.2) fun r250 =>
              bnd (oMv r250.1 r250.2) fun r251 =>
              bnd (bIf (wnt r251.1 true) (oMv r236.1 r251.2) (some (undef, r251.2))) fun r252 =>
              bnd (bIf (wnt r251.1 true) (oMv r243.1 r252.2) (some (undef, r252.2))) fun r253 =>
              bnd (bIf (wnt r251.1 true) (oBin Try.prog .eql 2 false false r252.1 r253.1 r253.2) (some (undef, r253.2))) fun r254 =>
              bnd (oPick r251.1 r254.1 (.bool false) r254.2) fun r255 =>
              bnd (oMv r255.1 r255.2) fun r256 =>
              bnd (bIf (wnt r256.1 true) (oMv (r230.2.1 10) r256.2) (some (undef, r256.2))) fun r257 =>
              bnd (bIf (wnt r256.1 true) (call (fnV 37) [r257.1] r257.2) (some (undef, r257.2))) fun r258 =>
              bnd (bIf (wnt r256.1 true) (oBin Try.prog .eql 3 false true r258.1 (.int .i64 0) r258.2) (some (undef, r258.2))) fun r259 =>
              bnd (oPick r256.1 r259.1 (.bool false) r259.2) fun r260 =>
              bnd (oMv r260.1 r260.2) fun r261 =>
              bnd (bIf (wnt r261.1 true) (call (fnV 12) [] r261.2) (some (undef, r261.2))) fun r262 =>
              bnd (oPick r261.1 r262.1 (.bool false) r262.2) fun r263 =>
              bnd (oMv r263.1 r263.2) fun r264 =>
              oRes Try.prog [(r264.1, none)] r264.2) (kRetX r230.1 (
              oRes Try.prog [((r230.2.1 4), none)] r230.2.2)))) (kRetX r150.1 (
          oRes Try.prog [((r150.2.1 4), none)] r150.2.2)))) (none))
theorem law06_HeapsOrders_eq (call : Eng.Callee) (x0 x1 : Value) (W : AW) : kFun Try.prog call 217 (cod 7) (rss 7) [x0, x1] W = law06_HeapsOrders call x0 x1 W := by kernel_rfl
theorem law06_HeapsOrders_om {x0 x1 : Value} {W : AW} {r : Value × AW} (h : law06_HeapsOrders omS x0 x1 W = some r) : omS (.func (.func 7) #[] #[]) [x0, x1] W = some (gc W r) := om_of (nt := 217) (n := 2) (by kernel_rfl) (by kernel_rfl) rfl ((law06_HeapsOrders_eq omS x0 x1 W).trans h)
noncomputable def law06_made_L1 (call : Eng.Callee) (R : Nat → Value) (W : AW) : Option LT :=
  bnd (oMv (R 6) W) fun r15 =>
  bnd (oMv (R 1) r15.2) fun r16 =>
  bnd (oBuiltin Try.prog .len #[22] 3 #[false] [r16.1] r16.2) fun r17 =>
  bnd (oBin Try.prog .lss 3 false false r15.1 r17.1 r17.2) fun r18 =>
  vIf r18.1 (
    bnd (oMv (R 5) r18.2) fun r19 =>
    bnd (oMv (R 1) r19.2) fun r20 =>
    bnd (oMv (R 6) r20.2) fun r21 =>
    bnd (ixS 1 r20.1 r21.1 r21.2) fun r22 =>
    bnd (ldC r22.1 r22.2) fun r23 =>
    bnd (call (fnV 25) [r19.1, r23.1] r23.2) fun r24 =>
    bnd (oMv r24.1 r24.2) fun r25 =>
    bnd (oExtract r25.1 0 r25.2) fun r26 =>
    bnd (oExtract r25.1 1 r26.2) fun r27 =>
    bnd (oMv r26.1 r27.2) fun r28 =>
    bnd (oMv r27.1 r28.2) fun r29 =>
    bnd (oMv r29.1 r29.2) fun r30 =>
    bnd (oBin Try.prog .neq 29 false true r30.1 (.int .i64 0) r30.2) fun r31 =>
    vIf r31.1 (
      bnd (oMv (.pointer none) r31.2) fun r32 =>
      some (X.ret, (rput (rput (rput (rput (rput (rput (rput (rput (rput (rput (rput (rput (rput (rput (rput (rput (rput (rput R (some 19) r15.1) (some 20) r16.1) (some 21) r17.1) (some 22) r18.1) (some 26) r19.1) (some 27) r20.1) (some 28) r21.1) (some 29) r22.1) (some 30) r23.1) (some 31) r24.1) (some 25) r25.1) (some 32) r26.1) (some 33) r27.1) (some 7) r28.1) (some 8) r29.1) (some 34) r30.1) (some 35) r31.1) (some 4) r32.1), r32.2)) (
      bnd (oMv (R 6) r31.2) fun r33 =>
      bnd (oBin Try.prog .add 3 false true r33.1 (.int .i64 1) r33.2) fun r34 =>
      bnd (oMv r34.1 r34.2) fun r35 =>
      some (X.normal, (rput (rput (rput (rput (rput (rput (rput (rput (rput (rput (rput (rput (rput (rput (rput (rput (rput (rput (rput (rput R (some 19) r15.1) (some 20) r16.1) (some 21) r17.1) (some 22) r18.1) (some 26) r19.1) (some 27) r20.1) (some 28) r21.1) (some 29) r22.1) (some 30) r23.1) (some 31) r24.1) (some 25) r25.1) (some 32) r26.1) (some 33) r27.1) (some 7) r28.1) (some 8) r29.1) (some 34) r30.1) (some 35) r31.1) (some 23) r33.1) (some 24) r34.1) (some 6) r35.1), r35.2))) (
    some (X.exit 0, (rput (rput (rput (rput R (some 19) r15.1) (some 20) r16.1) (some 21) r17.1) (some 22) r18.1), r18.2))
noncomputable def law06_made (call : Eng.Callee) (x0 x1 : Value) (W : AW) : Option (Value × AW) :=
  bnd (oMv (.pointer none) W) fun r1 =>
  bnd (oMv x0 r1.2) fun r2 =>
  bnd (call (fnV 14) [r2.1] r2.2) fun r3 =>
  bnd (call (fnV 38) [r3.1] r3.2) fun r4 =>
  bnd (oMv r4.1 r4.2) fun r5 =>
  bnd (oMv r5.1 r5.2) fun r6 =>
  bnd (oBin Try.prog .eql 24 false true r6.1 (.pointer none) r6.2) fun r7 =>
  bnd (oMv r7.1 r7.2) fun r8 =>
  bnd (bIf (wnt r8.1 false) (oMv x1 r8.2) (some (undef, r8.2))) fun r9 =>
  bnd (bIf (wnt r8.1 false) (oBuiltin Try.prog .len #[22] 3 #[false] [r9.1] r9.2) (some (undef, r9.2))) fun r10 =>
  bnd (bIf (wnt r8.1 false) (oBin Try.prog .gtr 3 false true r10.1 (.int .i64 300) r10.2) (some (undef, r10.2))) fun r11 =>
  bnd (oPick r8.1 (.bool true) r11.1 r11.2) fun r12 =>
  vIf r12.1 (
    bnd (oMv (.pointer none) r12.2) fun r13 =>
    oRes Try.prog [(r13.1, none)] r13.2) (
    bnd (oMv (.int .i64 0) r12.2) fun r14 =>
    bnd (loopO (law06_made_L1 call) (rput (rput (rput (rput (rput (rput (rput (rput (rput (rput (rput (rput (rput (argGo 0 [x0, x1] PlanTab.blank) (some 4) r1.1) (some 9) r2.1) (some 10) r3.1) (some 11) r4.1) (some 5) r5.1) (some 12) r6.1) (some 13) r7.1) (some 14) r8.1) (some 15) r9.1) (some 16) r10.1) (some 17) r11.1) (some 18) r12.1) (some 6) r14.1) r14.2) fun r36 =>
    kExit 0 r36.1 (
      bnd (oMv (r36.2.1 5) r36.2.2) fun r37 =>
      bnd (oMv r37.1 r37.2) fun r38 =>
      oRes Try.prog [(r38.1, none)] r38.2) (kRetX r36.1 (
      oRes Try.prog [((r36.2.1 4), none)] r36.2.2)))
theorem law06_made_eq (call : Eng.Callee) (x0 x1 : Value) (W : AW) : kFun Try.prog call 37 (cod 13) (rss 13) [x0, x1] W = law06_made call x0 x1 W := by kernel_rfl
theorem law06_made_om {x0 x1 : Value} {W : AW} {r : Value × AW} (h : law06_made omS x0 x1 W = some r) : omS (.func (.func 13) #[] #[]) [x0, x1] W = some (gc W r) := om_of (nt := 37) (n := 2) (by kernel_rfl) (by kernel_rfl) rfl ((law06_made_eq omS x0 x1 W).trans h)
noncomputable def law06_order (call : Eng.Callee) (x0 : Value) (W : AW) : Option (Value × AW) :=
  bnd (oMv .nilFunc W) fun r1 =>
  bnd (oMv x0 r1.2) fun r2 =>
  bnd (oBin Try.prog .rem 5 false true r2.1 (.int .u8 2) r2.2) fun r3 =>
  bnd (oBin Try.prog .eql 5 false true r3.1 (.int .u8 1) r3.2) fun r4 =>
  vIf r4.1 (
    bnd (oMv (fnV 52) r4.2) fun r5 =>
    oRes Try.prog [(r5.1, none)] r5.2) (
    bnd (oMv (fnV 35) r4.2) fun r6 =>
    oRes Try.prog [(r6.1, none)] r6.2)
theorem law06_order_eq (call : Eng.Callee) (x0 : Value) (W : AW) : kFun Try.prog call 6 (cod 14) (rss 14) [x0] W = law06_order call x0 W := by kernel_rfl
theorem law06_order_om {x0 : Value} {W : AW} {r : Value × AW} (h : law06_order omS x0 W = some r) : omS (.func (.func 14) #[] #[]) [x0] W = some (gc W r) := om_of (nt := 6) (n := 1) (by kernel_rfl) (by kernel_rfl) rfl ((law06_order_eq omS x0 W).trans h)
noncomputable def heaps_Queueint_Pop (call : Eng.Callee) (x0 : Value) (W : AW) : Option (Value × AW) :=
  bnd (oMv (.int .i64 0) W) fun r1 =>
  bnd (oMv (.int .i64 0) r1.2) fun r2 =>
  bnd (oMv (.int .i64 0) r2.2) fun r3 =>
  bnd (oMv x0 r3.2) fun r4 =>
  bnd (call (fnV 51) [r4.1] r4.2) fun r5 =>
  bnd (oMv r5.1 r5.2) fun r6 =>
  bnd (oExtract r6.1 0 r6.2) fun r7 =>
  bnd (oExtract r6.1 1 r7.2) fun r8 =>
  bnd (oExtract r6.1 2 r8.2) fun r9 =>
  bnd (oMv r7.1 r9.2) fun r10 =>
  bnd (oMv r8.1 r10.2) fun r11 =>
  bnd (oMv r9.1 r11.2) fun r12 =>
  bnd (oMv r12.1 r12.2) fun r13 =>
  bnd (oBin Try.prog .neq 29 false true r13.1 (.int .i64 0) r13.2) fun r14 =>
  vIf r14.1 (
    bnd (oMv r11.1 r14.2) fun r15 =>
    bnd (oMv r12.1 r15.2) fun r16 =>
    bnd (oMv (.int .i64 0) r16.2) fun r17 =>
    bnd (oMv r15.1 r17.2) fun r18 =>
    bnd (oMv r16.1 r18.2) fun r19 =>
    oRes Try.prog [(r17.1, none), (r18.1, none), (r19.1, none)] r19.2) (
    bnd (oMv x0 r14.2) fun r20 =>
    bnd (oNilCheck r20.1 r20.2) fun r21 =>
    bnd (faO 0 r21.1 r21.2) fun r22 =>
    bnd (oMkIface Try.prog 103 r22.1 r22.2) fun r23 =>
    bnd (call (fnV 53) [r23.1] r23.2) fun r24 =>
    bnd (oMv x0 r24.2) fun r25 =>
    bnd (oNilCheck r25.1 r25.2) fun r26 =>
    bnd (faO 2 r26.1 r26.2) fun r27 =>
    bnd (ldC r27.1 r27.2) fun r28 =>
    bnd (oMv r10.1 r28.2) fun r29 =>
    bnd (oBuiltin Try.prog .delete #[107, 2] 0 #[false, false] [r28.1, r29.1] r29.2) fun r30 =>
    bnd (oMv r10.1 r30.2) fun r31 =>
    bnd (oMv r11.1 r31.2) fun r32 =>
    bnd (oMv r31.1 r32.2) fun r33 =>
    bnd (oMv r32.1 r33.2) fun r34 =>
    bnd (oMv (.int .i64 0) r34.2) fun r35 =>
    oRes Try.prog [(r33.1, none), (r34.1, none), (r35.1, none)] r35.2)
theorem heaps_Queueint_Pop_eq (call : Eng.Callee) (x0 : Value) (W : AW) : kFun Try.prog call 27 (cod 15) (rss 15) [x0] W = heaps_Queueint_Pop call x0 W := by kernel_rfl
theorem heaps_Queueint_Pop_om {x0 : Value} {W : AW} {r : Value × AW} (h : heaps_Queueint_Pop omS x0 W = some r) : omS (.func (.func 15) #[] #[]) [x0] W = some (gc W r) := om_of (nt := 27) (n := 1) (by kernel_rfl) (by kernel_rfl) rfl ((heaps_Queueint_Pop_eq omS x0 W).trans h)
noncomputable def heaps_Queueint_Len (call : Eng.Callee) (x0 : Value) (W : AW) : Option (Value × AW) :=
  bnd (oMv (.int .i64 0) W) fun r1 =>
  bnd (oMv x0 r1.2) fun r2 =>
  bnd (call (fnV 54) [r2.1] r2.2) fun r3 =>
  bnd (oUn Try.prog .not r3.1 r3.2) fun r4 =>
  vIf r4.1 (
    bnd (oMv (.int .i64 0) r4.2) fun r5 =>
    oRes Try.prog [(r5.1, none)] r5.2) (
    bnd (oMv x0 r4.2) fun r6 =>
    bnd (oNilCheck r6.1 r6.2) fun r7 =>
    bnd (faO 0 r7.1 r7.2) fun r8 =>
    bnd (faO 0 r8.1 r8.2) fun r9 =>
    bnd (ldC r9.1 r9.2) fun r10 =>
    bnd (oBuiltin Try.prog .len #[104] 3 #[false] [r10.1] r10.2) fun r11 =>
    bnd (oMv r11.1 r11.2) fun r12 =>
    oRes Try.prog [(r12.1, none)] r12.2)
theorem heaps_Queueint_Len_eq (call : Eng.Callee) (x0 : Value) (W : AW) : kFun Try.prog call 12 (cod 16) (rss 16) [x0] W = heaps_Queueint_Len call x0 W := by kernel_rfl
theorem heaps_Queueint_Len_om {x0 : Value} {W : AW} {r : Value × AW} (h : heaps_Queueint_Len omS x0 W = some r) : omS (.func (.func 16) #[] #[]) [x0] W = some (gc W r) := om_of (nt := 12) (n := 1) (by kernel_rfl) (by kernel_rfl) rfl ((heaps_Queueint_Len_eq omS x0 W).trans h)
noncomputable def heaps_Queueint_Push (call : Eng.Callee) (x0 x1 : Value) (W : AW) : Option (Value × AW) :=
  bnd (oMv (.int .i64 0) W) fun r1 =>
  bnd (oMv (.int .i64 0) r1.2) fun r2 =>
  bnd (oMv x0 r2.2) fun r3 =>
  bnd (call (fnV 54) [r3.1] r3.2) fun r4 =>
  bnd (oUn Try.prog .not r4.1 r4.2) fun r5 =>
  bnd (oMv r5.1 r5.2) fun r6 =>
  vIf r6.1 (
    bnd (oMv (.int .i64 0) r6.2) fun r7 =>
    bnd (oMv (.int .i64 1) r7.2) fun r8 =>
    oRes Try.prog [(r7.1, none), (r8.1, none)] r8.2) (
    bnd (oMv x0 r6.2) fun r9 =>
    bnd (oNilCheck r9.1 r9.2) fun r10 =>
    bnd (faO 0 r10.1 r10.2) fun r11 =>
    bnd (faO 0 r11.1 r11.2) fun r12 =>
    bnd (ldC r12.1 r12.2) fun r13 =>
    bnd (oBuiltin Try.prog .len #[104] 3 #[false] [r13.1] r13.2) fun r14 =>
    bnd (oBin Try.prog .geq 3 false true r14.1 (.int .i64 5000) r14.2) fun r15 =>
    bnd (oMv r15.1 r15.2) fun r16 =>
    bnd (bIf (wnt r16.1 false) (oMv x0 r16.2) (some (undef, r16.2))) fun r17 =>
    bnd (bIf (wnt r16.1 false) (oNilCheck r17.1 r17.2) (some (undef, r17.2))) fun r18 =>
    bnd (bIf (wnt r16.1 false) (faO 3 r18.1 r18.2) (some (undef, r18.2))) fun r19 =>
    bnd (bIf (wnt r16.1 false) (ldC r19.1 r19.2) (some (undef, r19.2))) fun r20 =>
    bnd (bIf (wnt r16.1 false) (oBin Try.prog .geq 2 false true r20.1 (.int .i64 1000000000000000) r20.2) (some (undef, r20.2))) fun r21 =>
    bnd (oPick r16.1 (.bool true) r21.1 r21.2) fun r22 =>
    bnd (oMv r22.1 r22.2) fun r23 =>
    vIf r23.1 (
      bnd (oMv (.int .i64 0) r23.2) fun r24 =>
      bnd (oMv (.int .i64 5) r24.2) fun r25 =>
      oRes Try.prog [(r24.1, none), (r25.1, none)] r25.2) (
      bnd (oMv x0 r23.2) fun r26 =>
      bnd (oNilCheck r26.1 r26.2) fun r27 =>
      bnd (faO 3 r27.1 r27.2) fun r28 =>
      bnd (ldC r28.1 r28.2) fun r29 =>
      bnd (oMv x1 r29.2) fun r30 =>
      bnd (oBuild Try.prog 132 [(0, r29.1), (1, r30.1)] r30.2) fun r31 =>
      bnd (oBox r31.1 r31.2) fun r32 =>
      bnd (oMv r32.1 r32.2) fun r33 =>
      bnd (oMv x0 r33.2) fun r34 =>
      bnd (oNilCheck r34.1 r34.2) fun r35 =>
      bnd (faO 3 r35.1 r35.2) fun r36 =>
      bnd (ldC r36.1 r36.2) fun r37 =>
      bnd (oBin Try.prog .add 2 false true r37.1 (.int .i64 1) r37.2) fun r38 =>
      bnd (oNilCheck r34.1 r38.2) fun r39 =>
      bnd (faO 3 r39.1 r39.2) fun r40 =>
      bnd (stV 1 r40.1 r38.1 r40.2) fun r41 =>
      bnd (oMv x0 r41.2) fun r42 =>
      bnd (oNilCheck r42.1 r42.2) fun r43 =>
      bnd (faO 2 r43.1 r43.2) fun r44 =>
      bnd (ldC r44.1 r44.2) fun r45 =>
      bnd (oMv r33.1 r45.2) fun r46 =>
      bnd (oNilCheck r46.1 r46.2) fun r47 =>
      bnd (faO 0 r47.1 r47.2) fun r48 =>
      bnd (ldC r48.1 r48.2) fun r49 =>
      bnd (oMv r33.1 r49.2) fun r50 =>
      bnd (oMapUpdate Try.prog 107 r45.1 r49.1 r50.1 r50.2) fun r51 =>
      bnd (oMv x0 r51.2) fun r52 =>
      bnd (oNilCheck r52.1 r52.2) fun r53 =>
      bnd (faO 0 r53.1 r53.2) fun r54 =>
      bnd (oMkIface Try.prog 103 r54.1 r54.2) fun r55 =>
      bnd (oMv r33.1 r55.2) fun r56 =>
      bnd (oMkIface Try.prog 127 r56.1 r56.2) fun r57 =>
      bnd (call (fnV 70) [r55.1, r57.1] r57.2) fun r58 =>
      bnd (oMv r33.1 r58.2) fun r59 =>
      bnd (oNilCheck r59.1 r59.2) fun r60 =>
      bnd (faO 0 r60.1 r60.2) fun r61 =>
      bnd (ldC r61.1 r61.2) fun r62 =>
      bnd (oMv r62.1 r62.2) fun r63 =>
      bnd (oMv (.int .i64 0) r63.2) fun r64 =>
      oRes Try.prog [(r63.1, none), (r64.1, none)] r64.2))
theorem heaps_Queueint_Push_eq (call : Eng.Callee) (x0 x1 : Value) (W : AW) : kFun Try.prog call 60 (cod 25) (rss 25) [x0, x1] W = heaps_Queueint_Push call x0 x1 W := by kernel_rfl
theorem heaps_Queueint_Push_om {x0 x1 : Value} {W : AW} {r : Value × AW} (h : heaps_Queueint_Push omS x0 x1 W = some r) : omS (.func (.func 25) #[] #[]) [x0, x1] W = some (gc W r) := om_of (nt := 60) (n := 2) (by kernel_rfl) (by kernel_rfl) rfl ((heaps_Queueint_Push_eq omS x0 x1 W).trans h)
noncomputable def heaps_Queueint_Save (call : Eng.Callee) (x0 : Value) (W : AW) : Option (Value × AW) :=
  bnd (oAlloc Try.prog 60 W) fun r1 =>
  bnd (oMv x0 r1.2) fun r2 =>
  bnd (call (fnV 54) [r2.1] r2.2) fun r3 =>
  bnd (oUn Try.prog .not r3.1 r3.2) fun r4 =>
  vIf r4.1 (
    bnd (oBuild Try.prog 60 [] r4.2) fun r5 =>
    bnd (stV 2 r1.1 r5.1 r5.2) fun r6 =>
    oRes Try.prog [(r1.1, some 60)] r6.2) (
    bnd (oMv x0 r4.2) fun r7 =>
    bnd (oNilCheck r7.1 r7.2) fun r8 =>
    bnd (faO 3 r8.1 r8.2) fun r9 =>
    bnd (ldC r9.1 r9.2) fun r10 =>
    bnd (oMv x0 r10.2) fun r11 =>
    bnd (call (fnV 67) [r11.1] r11.2) fun r12 =>
    bIf (agV true (ldC r9.1 r12.2) r10.1 && true) (bnd (oBuild Try.prog 60 [(0, r10.1), (1, r12.1)] r12.2) fun r13 =>
    bnd (stV 2 r1.1 r13.1 r13.2) fun r14 =>
    oRes Try.prog [(r1.1, some 60)] r14.2) none)
theorem heaps_Queueint_Save_eq (call : Eng.Callee) (x0 : Value) (W : AW) : kFun Try.prog call 14 (cod 27) (rss 27) [x0] W = heaps_Queueint_Save call x0 W := by kernel_rfl
theorem heaps_Queueint_Save_om {x0 : Value} {W : AW} {r : Value × AW} (h : heaps_Queueint_Save omS x0 W = some r) : omS (.func (.func 27) #[] #[]) [x0] W = some (gc W r) := om_of (nt := 14) (n := 1) (by kernel_rfl) (by kernel_rfl) rfl ((heaps_Queueint_Save_eq omS x0 W).trans h)
noncomputable def heaps_Newlaw06_Name (call : Eng.Callee) (x0 : Value) (W : AW) : Option (Value × AW) :=
  bnd (oMv (.pointer none) W) fun r1 =>
  bnd (oMv x0 r1.2) fun r2 =>
  bnd (oBin Try.prog .eql 71 false true r2.1 .nilFunc r2.2) fun r3 =>
  vIf r3.1 (
    bnd (oMv (.pointer none) r3.2) fun r4 =>
    oRes Try.prog [(r4.1, none)] r4.2) (
    bnd (oMv x0 r3.2) fun r5 =>
    bnd (oBuild Try.prog 137 [(1, r5.1)] r5.2) fun r6 =>
    bnd (oMkMap Try.prog 138 none r6.2) fun r7 =>
    bnd (oBuild Try.prog 140 [(0, r6.1), (1, r7.1), (2, (.int .i64 1))] r7.2) fun r8 =>
    bnd (oBox r8.1 r8.2) fun r9 =>
    bnd (oMv r9.1 r9.2) fun r10 =>
    oRes Try.prog [(r10.1, none)] r10.2)
theorem heaps_Newlaw06_Name_eq (call : Eng.Callee) (x0 : Value) (W : AW) : kFun Try.prog call 10 (cod 31) (rss 31) [x0] W = heaps_Newlaw06_Name call x0 W := by kernel_rfl
theorem heaps_Newlaw06_Name_om {x0 : Value} {W : AW} {r : Value × AW} (h : heaps_Newlaw06_Name omS x0 W = some r) : omS (.func (.func 31) #[] #[]) [x0] W = some (gc W r) := om_of (nt := 10) (n := 1) (by kernel_rfl) (by kernel_rfl) rfl ((heaps_Newlaw06_Name_eq omS x0 W).trans h)
noncomputable def law06_HeapsOrders_1 (call : Eng.Callee) (x0 x1 : Value) (W : AW) : Option (Value × AW) :=
  bnd (oBox x0 W) fun r1 =>
  bnd (oBox x1 r1.2) fun r2 =>
  bnd (oMv (.bool false) r2.2) fun r3 =>
  bnd (faO 1 r1.1 r3.2) fun r4 =>
  bnd (ldC r4.1 r4.2) fun r5 =>
  bnd (faO 1 r2.1 r5.2) fun r6 =>
  bnd (ldC r6.1 r6.2) fun r7 =>
  bnd (oBin Try.prog .lss 3 false false r5.1 r7.1 r7.2) fun r8 =>
  bnd (oMv r8.1 r8.2) fun r9 =>
  oRes Try.prog [(r9.1, none)] r9.2
theorem law06_HeapsOrders_1_eq (call : Eng.Callee) (x0 x1 : Value) (W : AW) : kFun Try.prog call 10 (cod 32) (rss 32) [x0, x1] W = law06_HeapsOrders_1 call x0 x1 W := by kernel_rfl
theorem law06_HeapsOrders_1_om {x0 x1 : Value} {W : AW} {r : Value × AW} (h : law06_HeapsOrders_1 omS x0 x1 W = some r) : omS (.func (.func 32) #[] #[]) [x0, x1] W = some (gc W r) := om_of (nt := 10) (n := 2) (by kernel_rfl) (by kernel_rfl) rfl ((law06_HeapsOrders_1_eq omS x0 x1 W).trans h)
noncomputable def heaps_Queuelaw06_Name_Push (call : Eng.Callee) (x0 x1 : Value) (W : AW) : Option (Value × AW) :=
  bnd (oBox x1 W) fun r1 =>
  bnd (oMv (.int .i64 0) r1.2) fun r2 =>
  bnd (oMv (.int .i64 0) r2.2) fun r3 =>
  bnd (oMv x0 r3.2) fun r4 =>
  bnd (call (fnV 72) [r4.1] r4.2) fun r5 =>
  bnd (oUn Try.prog .not r5.1 r5.2) fun r6 =>
  bnd (oMv r6.1 r6.2) fun r7 =>
  vIf r7.1 (
    bnd (oMv (.int .i64 0) r7.2) fun r8 =>
    bnd (oMv (.int .i64 1) r8.2) fun r9 =>
    oRes Try.prog [(r8.1, none), (r9.1, none)] r9.2) (
    bnd (oMv x0 r7.2) fun r10 =>
    bnd (oNilCheck r10.1 r10.2) fun r11 =>
    bnd (faO 0 r11.1 r11.2) fun r12 =>
    bnd (faO 0 r12.1 r12.2) fun r13 =>
    bnd (ldC r13.1 r13.2) fun r14 =>
    bnd (oBuiltin Try.prog .len #[135] 3 #[false] [r14.1] r14.2) fun r15 =>
    bnd (oBin Try.prog .geq 3 false true r15.1 (.int .i64 5000) r15.2) fun r16 =>
    bnd (oMv r16.1 r16.2) fun r17 =>
    bnd (bIf (wnt r17.1 false) (oMv x0 r17.2) (some (undef, r17.2))) fun r18 =>
    bnd (bIf (wnt r17.1 false) (oNilCheck r18.1 r18.2) (some (undef, r18.2))) fun r19 =>
    bnd (bIf (wnt r17.1 false) (faO 3 r19.1 r19.2) (some (undef, r19.2))) fun r20 =>
    bnd (bIf (wnt r17.1 false) (ldC r20.1 r20.2) (some (undef, r20.2))) fun r21 =>
    bnd (bIf (wnt r17.1 false) (oBin Try.prog .geq 2 false true r21.1 (.int .i64 1000000000000000) r21.2) (some (undef, r21.2))) fun r22 =>
    bnd (oPick r17.1 (.bool true) r22.1 r22.2) fun r23 =>
    bnd (oMv r23.1 r23.2) fun r24 =>
    vIf r24.1 (
      bnd (oMv (.int .i64 0) r24.2) fun r25 =>
      bnd (oMv (.int .i64 5) r25.2) fun r26 =>
      oRes Try.prog [(r25.1, none), (r26.1, none)] r26.2) (
      bnd (oMv x0 r24.2) fun r27 =>
      bnd (oNilCheck r27.1 r27.2) fun r28 =>
      bnd (faO 3 r28.1 r28.2) fun r29 =>
      bnd (ldC r29.1 r29.2) fun r30 =>
      bnd (ldA 2 r1.1 r30.2) fun r31 =>
      bnd (oBuild Try.prog 143 [(0, r30.1), (1, r31.1)] r31.2) fun r32 =>
      bnd (oBox r32.1 r32.2) fun r33 =>
      bnd (oMv r33.1 r33.2) fun r34 =>
      bnd (oMv x0 r34.2) fun r35 =>
      bnd (oNilCheck r35.1 r35.2) fun r36 =>
      bnd (faO 3 r36.1 r36.2) fun r37 =>
      bnd (ldC r37.1 r37.2) fun r38 =>
      bnd (oBin Try.prog .add 2 false true r38.1 (.int .i64 1) r38.2) fun r39 =>
      bnd (oNilCheck r35.1 r39.2) fun r40 =>
      bnd (faO 3 r40.1 r40.2) fun r41 =>
      bnd (stV 1 r41.1 r39.1 r41.2) fun r42 =>
      bnd (oMv x0 r42.2) fun r43 =>
      bnd (oNilCheck r43.1 r43.2) fun r44 =>
      bnd (faO 2 r44.1 r44.2) fun r45 =>
      bnd (ldC r45.1 r45.2) fun r46 =>
      bnd (oMv r34.1 r46.2) fun r47 =>
      bnd (oNilCheck r47.1 r47.2) fun r48 =>
      bnd (faO 0 r48.1 r48.2) fun r49 =>
      bnd (ldC r49.1 r49.2) fun r50 =>
      bnd (oMv r34.1 r50.2) fun r51 =>
      bnd (oMapUpdate Try.prog 138 r46.1 r50.1 r51.1 r51.2) fun r52 =>
      bnd (oMv x0 r52.2) fun r53 =>
      bnd (oNilCheck r53.1 r53.2) fun r54 =>
      bnd (faO 0 r54.1 r54.2) fun r55 =>
      bnd (oMkIface Try.prog 144 r55.1 r55.2) fun r56 =>
      bnd (oMv r34.1 r56.2) fun r57 =>
      bnd (oMkIface Try.prog 141 r57.1 r57.2) fun r58 =>
      bnd (call (fnV 70) [r56.1, r58.1] r58.2) fun r59 =>
      bnd (oMv r34.1 r59.2) fun r60 =>
      bnd (oNilCheck r60.1 r60.2) fun r61 =>
      bnd (faO 0 r61.1 r61.2) fun r62 =>
      bnd (ldC r62.1 r62.2) fun r63 =>
      bnd (oMv r63.1 r63.2) fun r64 =>
      bnd (oMv (.int .i64 0) r64.2) fun r65 =>
      oRes Try.prog [(r64.1, none), (r65.1, none)] r65.2))
theorem heaps_Queuelaw06_Name_Push_eq (call : Eng.Callee) (x0 x1 : Value) (W : AW) : kFun Try.prog call 60 (cod 33) (rss 33) [x0, x1] W = heaps_Queuelaw06_Name_Push call x0 x1 W := by kernel_rfl
theorem heaps_Queuelaw06_Name_Push_om {x0 x1 : Value} {W : AW} {r : Value × AW} (h : heaps_Queuelaw06_Name_Push omS x0 x1 W = some r) : omS (.func (.func 33) #[] #[]) [x0, x1] W = some (gc W r) := om_of (nt := 60) (n := 2) (by kernel_rfl) (by kernel_rfl) rfl ((heaps_Queuelaw06_Name_Push_eq omS x0 x1 W).trans h)
noncomputable def heaps_Loadint_L1 (call : Eng.Callee) (R : Nat → Value) (W : AW) : Option LT :=
  bnd (oBin Try.prog .lss 3 false false (R 41) (R 40) W) fun r41 =>
  vIf r41.1 (
    bnd (oMv (R 41) r41.2) fun r42 =>
    bnd (ixS 2 (R 39) (R 41) r42.2) fun r43 =>
    bnd (ldA 2 r43.1 r43.2) fun r44 =>
    bnd (oAlloc Try.prog 65 r44.2) fun r45 =>
    bnd (oMv r42.1 r45.2) fun r46 =>
    bnd (stV 2 r45.1 r44.1 r46.2) fun r47 =>
    bnd (faO 0 r45.1 r47.2) fun r48 =>
    bnd (ldC r48.1 r48.2) fun r49 =>
    bnd (oBin Try.prog .lss 2 false true r49.1 (.int .i64 1) r49.2) fun r50 =>
    bnd (oMv r50.1 r50.2) fun r51 =>
    bnd (bIf (wnt r51.1 false) (faO 0 r45.1 r51.2) (some (undef, r51.2))) fun r52 =>
    bnd (bIf (wnt r51.1 false) (ldC r52.1 r52.2) (some (undef, r52.2))) fun r53 =>
    bnd (bIf (wnt r51.1 false) (faO 0 (R 3) r53.2) (some (undef, r53.2))) fun r54 =>
    bnd (bIf (wnt r51.1 false) (ldC r54.1 r54.2) (some (undef, r54.2))) fun r55 =>
    bnd (bIf (wnt r51.1 false) (oBin Try.prog .geq 2 false false r53.1 r55.1 r55.2) (some (undef, r55.2))) fun r56 =>
    bnd (oPick r51.1 (.bool true) r56.1 r56.2) fun r57 =>
    vIf r57.1 (
      bnd (oMv (.pointer none) r57.2) fun r58 =>
      bnd (oMv (.int .i64 7) r58.2) fun r59 =>
      some (X.ret, (rput (rput (rput (rput (rput (rput (rput (rput (rput (rput (rput (rput (rput (rput (rput (rput (rput (rput R (some 42) r41.1) (some 43) r42.1) (some 44) r43.1) (some 45) r44.1) (some 9) r45.1) (some 8) r46.1) (some 46) r48.1) (some 47) r49.1) (some 48) r50.1) (some 49) r51.1) (some 50) r52.1) (some 51) r53.1) (some 52) r54.1) (some 53) r55.1) (some 54) r56.1) (some 55) r57.1) (some 4) r58.1) (some 5) r59.1), r59.2)) (
      bnd (oMv (R 6) r57.2) fun r60 =>
      bnd (oNilCheck r60.1 r60.2) fun r61 =>
      bnd (faO 2 r61.1 r61.2) fun r62 =>
      bnd (ldC r62.1 r62.2) fun r63 =>
      bnd (faO 0 r45.1 r63.2) fun r64 =>
      bnd (ldC r64.1 r64.2) fun r65 =>
      bnd (oLookup Try.prog 107 r63.1 r65.1 true r65.2) fun r66 =>
      bnd (oMv r66.1 r66.2) fun r67 =>
      bnd (oExtract r67.1 0 r67.2) fun r68 =>
      bnd (oExtract r67.1 1 r68.2) fun r69 =>
      bnd (oMv r68.1 r69.2) fun r70 =>
      bnd (oMv r69.1 r70.2) fun r71 =>
      bnd (oMv r71.1 r71.2) fun r72 =>
      vIf r72.1 (
        bnd (oMv (.bool true) r72.2) fun r73 =>
        bnd (faO 0 r45.1 r73.2) fun r74 =>
        bnd (ldC r74.1 r74.2) fun r75 =>
        bnd (faO 1 r45.1 r75.2) fun r76 =>
        bnd (ldC r76.1 r76.2) fun r77 =>
        bnd (oMv r46.1 r77.2) fun r78 =>
        bnd (oBuild Try.prog 132 [(0, r75.1), (1, r77.1), (2, r78.1)] r78.2) fun r79 =>
        bnd (oBox r79.1 r79.2) fun r80 =>
        bnd (oMv r80.1 r80.2) fun r81 =>
        bnd (oMv (R 6) r81.2) fun r82 =>
        bnd (oNilCheck r82.1 r82.2) fun r83 =>
        bnd (faO 2 r83.1 r83.2) fun r84 =>
        bnd (ldC r84.1 r84.2) fun r85 =>
        bnd (faO 0 r45.1 r85.2) fun r86 =>
        bnd (ldC r86.1 r86.2) fun r87 =>
        bnd (oMv r81.1 r87.2) fun r88 =>
        bnd (oMapUpdate Try.prog 107 r85.1 r87.1 r88.1 r88.2) fun r89 =>
        bnd (oMv (R 6) r89.2) fun r90 =>
        bnd (oMv (R 6) r90.2) fun r91 =>
        bnd (oNilCheck r91.1 r91.2) fun r92 =>
        bnd (faO 0 r92.1 r92.2) fun r93 =>
        bnd (faO 0 r93.1 r93.2) fun r94 =>
        bnd (ldC r94.1 r94.2) fun r95 =>
        bnd (oMv r81.1 r95.2) fun r96 =>
        bnd (oBuildSlice Try.prog 104 1 [(0, r96.1)] r96.2) fun r97 =>
        bnd (aAppend Try.prog r97.2 #[104, 104] r95.1 r97.1) fun r98 =>
        bnd (oNilCheck r90.1 r98.2) fun r99 =>
        bnd (faO 0 r99.1 r99.2) fun r100 =>
        bnd (faO 0 r100.1 r100.2) fun r101 =>
        bnd (stV 1 r101.1 r98.1 r101.2) fun r102 =>
        bnd (oBin Try.prog .add 3 false true (R 41) (.int .i64 1) r102.2) fun r103 =>
        bnd (oMv r103.1 r103.2) fun r104 =>
        some (X.normal, (rput (rput (rput (rput (rput (rput (rput (rput (rput (rput (rput (rput (rput (rput (rput (rput (rput (rput (rput (rput (rput (rput (rput (rput (rput (rput (rput (rput (rput (rput (rput (rput (rput (rput (rput (rput (rput (rput (rput (rput (rput (rput (rput (rput (rput (rput (rput (rput (rput (rput (rput (rput (rput (rput (rput (rput (rput (rput (rput R (some 42) r41.1) (some 43) r42.1) (some 44) r43.1) (some 45) r44.1) (some 9) r45.1) (some 8) r46.1) (some 46) r48.1) (some 47) r49.1) (some 48) r50.1) (some 49) r51.1) (some 50) r52.1) (some 51) r53.1) (some 52) r54.1) (some 53) r55.1) (some 54) r56.1) (some 55) r57.1) (some 57) r60.1) (some 58) r61.1) (some 59) r62.1) (some 60) r63.1) (some 61) r64.1) (some 62) r65.1) (some 63) r66.1) (some 56) r67.1) (some 64) r68.1) (some 65) r69.1) (some 10) r70.1) (some 11) r71.1) (some 66) r72.1) (some 7) r73.1) (some 67) r74.1) (some 68) r75.1) (some 69) r76.1) (some 70) r77.1) (some 71) r78.1) (some 72) r79.1) (some 73) r80.1) (some 12) r81.1) (some 74) r82.1) (some 75) r83.1) (some 76) r84.1) (some 77) r85.1) (some 78) r86.1) (some 79) r87.1) (some 80) r88.1) (some 81) r90.1) (some 82) r91.1) (some 83) r92.1) (some 84) r93.1) (some 85) r94.1) (some 86) r95.1) (some 87) r96.1) (some 88) r97.1) (some 89) r98.1) (some 90) r99.1) (some 91) r100.1) (some 92) r101.1) (some 93) r103.1) (some 41) r104.1), r104.2)) (
        bnd (faO 0 r45.1 r72.2) fun r105 =>
        bnd (ldC r105.1 r105.2) fun r106 =>
        bnd (faO 1 r45.1 r106.2) fun r107 =>
        bnd (ldC r107.1 r107.2) fun r108 =>
        bnd (oMv r46.1 r108.2) fun r109 =>
        bnd (oBuild Try.prog 132 [(0, r106.1), (1, r108.1), (2, r109.1)] r109.2) fun r110 =>
        bnd (oBox r110.1 r110.2) fun r111 =>
        bnd (oMv r111.1 r111.2) fun r112 =>
        bnd (oMv (R 6) r112.2) fun r113 =>
        bnd (oNilCheck r113.1 r113.2) fun r114 =>
        bnd (faO 2 r114.1 r114.2) fun r115 =>
        bnd (ldC r115.1 r115.2) fun r116 =>
        bnd (faO 0 r45.1 r116.2) fun r117 =>
        bnd (ldC r117.1 r117.2) fun r118 =>
        bnd (oMv r112.1 r118.2) fun r119 =>
        bnd (oMapUpdate Try.prog 107 r116.1 r118.1 r119.1 r119.2) fun r120 =>
        bnd (oMv (R 6) r120.2) fun r121 =>
        bnd (oMv (R 6) r121.2) fun r122 =>
        bnd (oNilCheck r122.1 r122.2) fun r123 =>
        bnd (faO 0 r123.1 r123.2) fun r124 =>
        bnd (faO 0 r124.1 r124.2) fun r125 =>
        bnd (ldC r125.1 r125.2) fun r126 =>
        bnd (oMv r112.1 r126.2) fun r127 =>
        bnd (oBuildSlice Try.prog 104 1 [(0, r127.1)] r127.2) fun r128 =>
        bnd (aAppend Try.prog r128.2 #[104, 104] r126.1 r128.1) fun r129 =>
        bnd (oNilCheck r121.1 r129.2) fun r130 =>
        bnd (faO 0 r130.1 r130.2) fun r131 =>
        bnd (faO 0 r131.1 r131.2) fun r132 =>
        bnd (stV 1 r132.1 r129.1 r132.2) fun r133 =>
        bnd (oBin Try.prog .add 3 false true (R 41) (.int .i64 1) r133.2) fun r134 =>
        bnd (oMv r134.1 r134.2) fun r135 =>
        some (X.normal, (rput (rput (rput (rput (rput (rput (rput (rput (rput (rput (rput (rput (rput (rput (rput (rput (rput (rput (rput (rput (rput (rput (rput (rput (rput (rput (rput (rput (rput (rput (rput (rput (rput (rput (rput (rput (rput (rput (rput (rput (rput (rput (rput (rput (rput (rput (rput (rput (rput (rput (rput (rput (rput (rput (rput (rput (rput (rput R (some 42) r41.1) (some 43) r42.1) (some 44) r43.1) (some 45) r44.1) (some 9) r45.1) (some 8) r46.1) (some 46) r48.1) (some 47) r49.1) (some 48) r50.1) (some 49) r51.1) (some 50) r52.1) (some 51) r53.1) (some 52) r54.1) (some 53) r55.1) (some 54) r56.1) (some 55) r57.1) (some 57) r60.1) (some 58) r61.1) (some 59) r62.1) (some 60) r63.1) (some 61) r64.1) (some 62) r65.1) (some 63) r66.1) (some 56) r67.1) (some 64) r68.1) (some 65) r69.1) (some 10) r70.1) (some 11) r71.1) (some 66) r72.1) (some 67) r105.1) (some 68) r106.1) (some 69) r107.1) (some 70) r108.1) (some 71) r109.1) (some 72) r110.1) (some 73) r111.1) (some 12) r112.1) (some 74) r113.1) (some 75) r114.1) (some 76) r115.1) (some 77) r116.1) (some 78) r117.1) (some 79) r118.1) (some 80) r119.1) (some 81) r121.1) (some 82) r122.1) (some 83) r123.1) (some 84) r124.1) (some 85) r125.1) (some 86) r126.1) (some 87) r127.1) (some 88) r128.1) (some 89) r129.1) (some 90) r130.1) (some 91) r131.1) (some 92) r132.1) (some 93) r134.1) (some 41) r135.1), r135.2)))) (
    some (X.exit 1, (rput R (some 42) r41.1), r41.2))
noncomputable def heaps_Loadint_L2 (call : Eng.Callee) (R : Nat → Value) (W : AW) : Option LT :=
  bnd (oMv (R 13) W) fun r141 =>
  bnd (oMv (R 6) r141.2) fun r142 =>
  bnd (oNilCheck r142.1 r142.2) fun r143 =>
  bnd (faO 0 r143.1 r143.2) fun r144 =>
  bnd (faO 0 r144.1 r144.2) fun r145 =>
  bnd (ldC r145.1 r145.2) fun r146 =>
  bnd (oBuiltin Try.prog .len #[104] 3 #[false] [r146.1] r146.2) fun r147 =>
  bnd (oBin Try.prog .lss 3 false false r141.1 r147.1 r147.2) fun r148 =>
  vIf r148.1 (
    bnd (oMv (R 6) r148.2) fun r149 =>
    bnd (oNilCheck r149.1 r149.2) fun r150 =>
    bnd (faO 0 r150.1 r150.2) fun r151 =>
    bnd (oMv (R 13) r151.2) fun r152 =>
    bnd (oBin Try.prog .sub 3 false true r152.1 (.int .i64 1) r152.2) fun r153 =>
    bnd (oMv (R 13) r153.2) fun r154 =>
    bnd (call (fnV 73) [r151.1, r153.1, r154.1] r154.2) fun r155 =>
    bnd (oUn Try.prog .not r155.1 r155.2) fun r156 =>
    vIf r156.1 (
      bnd (oMv (.pointer none) r156.2) fun r157 =>
      bnd (oMv (.int .i64 6) r157.2) fun r158 =>
      some (X.ret, (rput (rput (rput (rput (rput (rput (rput (rput (rput (rput (rput (rput (rput (rput (rput (rput (rput (rput R (some 95) r141.1) (some 96) r142.1) (some 97) r143.1) (some 98) r144.1) (some 99) r145.1) (some 100) r146.1) (some 101) r147.1) (some 102) r148.1) (some 105) r149.1) (some 106) r150.1) (some 107) r151.1) (some 108) r152.1) (some 109) r153.1) (some 110) r154.1) (some 111) r155.1) (some 112) r156.1) (some 4) r157.1) (some 5) r158.1), r158.2)) (
      bnd (oMv (R 13) r156.2) fun r159 =>
      bnd (oBin Try.prog .add 3 false true r159.1 (.int .i64 1) r159.2) fun r160 =>
      bnd (oMv r160.1 r160.2) fun r161 =>
      some (X.normal, (rput (rput (rput (rput (rput (rput (rput (rput (rput (rput (rput (rput (rput (rput (rput (rput (rput (rput (rput R (some 95) r141.1) (some 96) r142.1) (some 97) r143.1) (some 98) r144.1) (some 99) r145.1) (some 100) r146.1) (some 101) r147.1) (some 102) r148.1) (some 105) r149.1) (some 106) r150.1) (some 107) r151.1) (some 108) r152.1) (some 109) r153.1) (some 110) r154.1) (some 111) r155.1) (some 112) r156.1) (some 103) r159.1) (some 104) r160.1) (some 13) r161.1), r161.2))) (
    some (X.exit 3, (rput (rput (rput (rput (rput (rput (rput (rput R (some 95) r141.1) (some 96) r142.1) (some 97) r143.1) (some 98) r144.1) (some 99) r145.1) (some 100) r146.1) (some 101) r147.1) (some 102) r148.1), r148.2))
noncomputable def heaps_Loadint (call : Eng.Callee) (x0 x1 : Value) (W : AW) : Option (Value × AW) :=
  bnd (oBox x1 W) fun r1 =>
  bnd (oMv (.pointer none) r1.2) fun r2 =>
  bnd (oMv (.int .i64 0) r2.2) fun r3 =>
  bnd (oMv x0 r3.2) fun r4 =>
  bnd (call (fnV 38) [r4.1] r4.2) fun r5 =>
  bnd (oMv r5.1 r5.2) fun r6 =>
  bnd (oMv r6.1 r6.2) fun r7 =>
  bnd (oBin Try.prog .eql 24 false true r7.1 (.pointer none) r7.2) fun r8 =>
  bnd (oMv r8.1 r8.2) fun r9 =>
  vIf r9.1 (
    bnd (oMv (.pointer none) r9.2) fun r10 =>
    bnd (oMv (.int .i64 1) r10.2) fun r11 =>
    oRes Try.prog [(r10.1, none), (r11.1, none)] r11.2) (
    bnd (faO 1 r1.1 r9.2) fun r12 =>
    bnd (ldC r12.1 r12.2) fun r13 =>
    bnd (oBuiltin Try.prog .len #[58] 3 #[false] [r13.1] r13.2) fun r14 =>
    bnd (oBin Try.prog .gtr 3 false true r14.1 (.int .i64 5000) r14.2) fun r15 =>
    bnd (oMv r15.1 r15.2) fun r16 =>
    vIf r16.1 (
      bnd (oMv (.pointer none) r16.2) fun r17 =>
      bnd (oMv (.int .i64 3) r17.2) fun r18 =>
      oRes Try.prog [(r17.1, none), (r18.1, none)] r18.2) (
      bnd (faO 0 r1.1 r16.2) fun r19 =>
      bnd (ldC r19.1 r19.2) fun r20 =>
      bnd (oBin Try.prog .lss 2 false true r20.1 (.int .i64 1) r20.2) fun r21 =>
      bnd (oMv r21.1 r21.2) fun r22 =>
      bnd (bIf (wnt r22.1 false) (faO 0 r1.1 r22.2) (some (undef, r22.2))) fun r23 =>
      bnd (bIf (wnt r22.1 false) (ldC r23.1 r23.2) (some (undef, r23.2))) fun r24 =>
      bnd (bIf (wnt r22.1 false) (oBin Try.prog .gtr 2 false true r24.1 (.int .i64 1000000000000000) r24.2) (some (undef, r24.2))) fun r25 =>
      bnd (oPick r22.1 (.bool true) r25.1 r25.2) fun r26 =>
      bnd (oMv r26.1 r26.2) fun r27 =>
      vIf r27.1 (
        bnd (oMv (.pointer none) r27.2) fun r28 =>
        bnd (oMv (.int .i64 7) r28.2) fun r29 =>
        oRes Try.prog [(r28.1, none), (r29.1, none)] r29.2) (
        bnd (oMv r6.1 r27.2) fun r30 =>
        bnd (faO 0 r1.1 r30.2) fun r31 =>
        bnd (ldC r31.1 r31.2) fun r32 =>
        bnd (oNilCheck r30.1 r32.2) fun r33 =>
        bnd (faO 3 r33.1 r33.2) fun r34 =>
        bnd (stV 1 r34.1 r32.1 r34.2) fun r35 =>
        bnd (oMv (.bool false) r35.2) fun r36 =>
        bnd (faO 1 r1.1 r36.2) fun r37 =>
        bnd (ldC r37.1 r37.2) fun r38 =>
        bnd (oBuiltin Try.prog .len #[58] 3 #[false] [r38.1] r38.2) fun r39 =>
        bnd (oMv (.int .i64 0) r39.2) fun r40 =>
        bnd (loopO (heaps_Loadint_L1 call) (rput (rput (rput (rput (rput (rput (rput (rput (rput (rput (rput (rput (rput (rput (rput (rput (rput (rput (rput (rput (rput (rput (rput (rput (rput (rput (rput (rput (rput (rput (rput (rput (rput (argGo 0 [x0, x1] PlanTab.blank) (some 3) r1.1) (some 4) r2.1) (some 5) r3.1) (some 14) r4.1) (some 15) r5.1) (some 6) r6.1) (some 17) r7.1) (some 18) r8.1) (some 16) r9.1) (some 20) r12.1) (some 21) r13.1) (some 22) r14.1) (some 23) r15.1) (some 19) r16.1) (some 25) r19.1) (some 26) r20.1) (some 27) r21.1) (some 28) r22.1) (some 29) r23.1) (some 30) r24.1) (some 31) r25.1) (some 32) r26.1) (some 24) r27.1) (some 33) r30.1) (some 34) r31.1) (some 35) r32.1) (some 36) r33.1) (some 37) r34.1) (some 7) r36.1) (some 38) r37.1) (some 39) r38.1) (some 40) r39.1) (some 41) r40.1) r40.2) fun r136 =>
        kExit 1 r136.1 (
          bnd (oMv (r136.2.1 7) r136.2.2) fun r137 =>
          vIf r137.1 (
            bnd (oMv (.pointer none) r137.2) fun r138 =>
            bnd (oMv (.int .i64 8) r138.2) fun r139 =>
            oRes Try.prog [(r138.1, none), (r139.1, none)] r139.2) (
            bnd (oMv (.int .i64 1) r137.2) fun r140 =>
            bnd (loopO (heaps_Loadint_L2 call) (rput (rput r136.2.1 (some 94) r137.1) (some 13) r140.1) r140.2) fun r162 =>
            kExit 3 r162.1 (
              bnd (oMv (r162.2.1 6) r162.2.2) fun r163 =>
              bnd (oMv r163.1 r163.2) fun r164 =>
              bnd (oMv (.int .i64 0) r164.2) fun r165 =>
              oRes Try.prog [(r164.1, none), (r165.1, none)] r165.2) (kRetX r162.1 (
              oRes Try.prog [((r162.2.1 4), none), ((r162.2.1 5), none)] r162.2.2)))) (kRetX r136.1 (
          oRes Try.prog [((r136.2.1 4), none), ((r136.2.1 5), none)] r136.2.2)))))
theorem heaps_Loadint_eq (call : Eng.Callee) (x0 x1 : Value) (W : AW) : kFun Try.prog call 114 (cod 34) (rss 34) [x0, x1] W = heaps_Loadint call x0 x1 W := by kernel_rfl
theorem heaps_Loadint_om {x0 x1 : Value} {W : AW} {r : Value × AW} (h : heaps_Loadint omS x0 x1 W = some r) : omS (.func (.func 34) #[] #[]) [x0, x1] W = some (gc W r) := om_of (nt := 114) (n := 2) (by kernel_rfl) (by kernel_rfl) rfl ((heaps_Loadint_eq omS x0 x1 W).trans h)
noncomputable def law06_less (call : Eng.Callee) (x0 x1 : Value) (W : AW) : Option (Value × AW) :=
  bnd (oMv (.bool false) W) fun r1 =>
  bnd (oMv x0 r1.2) fun r2 =>
  bnd (oMv x1 r2.2) fun r3 =>
  bnd (oBin Try.prog .lss 3 false false r2.1 r3.1 r3.2) fun r4 =>
  bnd (oMv r4.1 r4.2) fun r5 =>
  oRes Try.prog [(r5.1, none)] r5.2
theorem law06_less_eq (call : Eng.Callee) (x0 x1 : Value) (W : AW) : kFun Try.prog call 8 (cod 35) (rss 35) [x0, x1] W = law06_less call x0 x1 W := by kernel_rfl
theorem law06_less_om {x0 x1 : Value} {W : AW} {r : Value × AW} (h : law06_less omS x0 x1 W = some r) : omS (.func (.func 35) #[] #[]) [x0, x1] W = some (gc W r) := om_of (nt := 8) (n := 2) (by kernel_rfl) (by kernel_rfl) rfl ((law06_less_eq omS x0 x1 W).trans h)
theorem law06_less_om1 {x0 x1 : Value} {W : AW} {r : Value × AW} (h : law06_less om1 x0 x1 W = some r) : om1 (.func (.func 35) #[] #[]) [x0, x1] W = some (gc W r) := om_of (nt := 8) (n := 2) (by kernel_rfl) (by kernel_rfl) rfl ((law06_less_eq om1 x0 x1 W).trans h)
noncomputable def heaps_Queuelaw06_Name_Pop (call : Eng.Callee) (x0 : Value) (W : AW) : Option (Value × AW) :=
  bnd (oMv (.int .i64 0) W) fun r1 =>
  bnd (oAlloc Try.prog 70 r1.2) fun r2 =>
  bnd (oMv (.int .i64 0) r2.2) fun r3 =>
  bnd (oMv x0 r3.2) fun r4 =>
  bnd (call (fnV 74) [r4.1] r4.2) fun r5 =>
  bnd (oMv r5.1 r5.2) fun r6 =>
  bnd (oExtract r6.1 0 r6.2) fun r7 =>
  bnd (oExtract r6.1 1 r7.2) fun r8 =>
  bnd (oExtract r6.1 2 r8.2) fun r9 =>
  bnd (oMv r7.1 r9.2) fun r10 =>
  bnd (stV 2 r2.1 r8.1 r10.2) fun r11 =>
  bnd (oMv r9.1 r11.2) fun r12 =>
  bnd (oMv r12.1 r12.2) fun r13 =>
  bnd (oBin Try.prog .neq 29 false true r13.1 (.int .i64 0) r13.2) fun r14 =>
  vIf r14.1 (
    bnd (ldA 2 r2.1 r14.2) fun r15 =>
    bnd (oMv r12.1 r15.2) fun r16 =>
    bnd (oMv (.int .i64 0) r16.2) fun r17 =>
    bnd (stV 2 r2.1 r15.1 r17.2) fun r18 =>
    bnd (oMv r16.1 r18.2) fun r19 =>
    oRes Try.prog [(r17.1, none), (r2.1, some 70), (r19.1, none)] r19.2) (
    bnd (oMv x0 r14.2) fun r20 =>
    bnd (oNilCheck r20.1 r20.2) fun r21 =>
    bnd (faO 0 r21.1 r21.2) fun r22 =>
    bnd (oMkIface Try.prog 144 r22.1 r22.2) fun r23 =>
    bnd (call (fnV 53) [r23.1] r23.2) fun r24 =>
    bnd (oMv x0 r24.2) fun r25 =>
    bnd (oNilCheck r25.1 r25.2) fun r26 =>
    bnd (faO 2 r26.1 r26.2) fun r27 =>
    bnd (ldC r27.1 r27.2) fun r28 =>
    bnd (oMv r10.1 r28.2) fun r29 =>
    bnd (oBuiltin Try.prog .delete #[138, 2] 0 #[false, false] [r28.1, r29.1] r29.2) fun r30 =>
    bnd (oMv r10.1 r30.2) fun r31 =>
    bnd (ldA 2 r2.1 r31.2) fun r32 =>
    bnd (oMv r31.1 r32.2) fun r33 =>
    bIf (agV true (ldA 2 r2.1 r33.2) r32.1 && true) (bnd (stV 2 r2.1 r32.1 r33.2) fun r34 =>
    bnd (oMv (.int .i64 0) r34.2) fun r35 =>
    oRes Try.prog [(r33.1, none), (r2.1, some 70), (r35.1, none)] r35.2) none)
theorem heaps_Queuelaw06_Name_Pop_eq (call : Eng.Callee) (x0 : Value) (W : AW) : kFun Try.prog call 27 (cod 36) (rss 36) [x0] W = heaps_Queuelaw06_Name_Pop call x0 W := by kernel_rfl
theorem heaps_Queuelaw06_Name_Pop_om {x0 : Value} {W : AW} {r : Value × AW} (h : heaps_Queuelaw06_Name_Pop omS x0 W = some r) : omS (.func (.func 36) #[] #[]) [x0] W = some (gc W r) := om_of (nt := 27) (n := 1) (by kernel_rfl) (by kernel_rfl) rfl ((heaps_Queuelaw06_Name_Pop_eq omS x0 W).trans h)
noncomputable def heaps_Queuelaw06_Name_Len (call : Eng.Callee) (x0 : Value) (W : AW) : Option (Value × AW) :=
  bnd (oMv (.int .i64 0) W) fun r1 =>
  bnd (oMv x0 r1.2) fun r2 =>
  bnd (call (fnV 72) [r2.1] r2.2) fun r3 =>
  bnd (oUn Try.prog .not r3.1 r3.2) fun r4 =>
  vIf r4.1 (
    bnd (oMv (.int .i64 0) r4.2) fun r5 =>
    oRes Try.prog [(r5.1, none)] r5.2) (
    bnd (oMv x0 r4.2) fun r6 =>
    bnd (oNilCheck r6.1 r6.2) fun r7 =>
    bnd (faO 0 r7.1 r7.2) fun r8 =>
    bnd (faO 0 r8.1 r8.2) fun r9 =>
    bnd (ldC r9.1 r9.2) fun r10 =>
    bnd (oBuiltin Try.prog .len #[135] 3 #[false] [r10.1] r10.2) fun r11 =>
    bnd (oMv r11.1 r11.2) fun r12 =>
    oRes Try.prog [(r12.1, none)] r12.2)
theorem heaps_Queuelaw06_Name_Len_eq (call : Eng.Callee) (x0 : Value) (W : AW) : kFun Try.prog call 12 (cod 37) (rss 37) [x0] W = heaps_Queuelaw06_Name_Len call x0 W := by kernel_rfl
theorem heaps_Queuelaw06_Name_Len_om {x0 : Value} {W : AW} {r : Value × AW} (h : heaps_Queuelaw06_Name_Len omS x0 W = some r) : omS (.func (.func 37) #[] #[]) [x0] W = some (gc W r) := om_of (nt := 12) (n := 1) (by kernel_rfl) (by kernel_rfl) rfl ((heaps_Queuelaw06_Name_Len_eq omS x0 W).trans h)
noncomputable def heaps_Newint (call : Eng.Callee) (x0 : Value) (W : AW) : Option (Value × AW) :=
  bnd (oMv (.pointer none) W) fun r1 =>
  bnd (oMv x0 r1.2) fun r2 =>
  bnd (oBin Try.prog .eql 26 false true r2.1 .nilFunc r2.2) fun r3 =>
  vIf r3.1 (
    bnd (oMv (.pointer none) r3.2) fun r4 =>
    oRes Try.prog [(r4.1, none)] r4.2) (
    bnd (oMv x0 r3.2) fun r5 =>
    bnd (oBuild Try.prog 106 [(1, r5.1)] r5.2) fun r6 =>
    bnd (oMkMap Try.prog 107 none r6.2) fun r7 =>
    bnd (oBuild Try.prog 109 [(0, r6.1), (1, r7.1), (2, (.int .i64 1))] r7.2) fun r8 =>
    bnd (oBox r8.1 r8.2) fun r9 =>
    bnd (oMv r9.1 r9.2) fun r10 =>
    oRes Try.prog [(r10.1, none)] r10.2)
theorem heaps_Newint_eq (call : Eng.Callee) (x0 : Value) (W : AW) : kFun Try.prog call 10 (cod 38) (rss 38) [x0] W = heaps_Newint call x0 W := by kernel_rfl
theorem heaps_Newint_om {x0 : Value} {W : AW} {r : Value × AW} (h : heaps_Newint omS x0 W = some r) : omS (.func (.func 38) #[] #[]) [x0] W = some (gc W r) := om_of (nt := 10) (n := 1) (by kernel_rfl) (by kernel_rfl) rfl ((heaps_Newint_eq omS x0 W).trans h)
noncomputable def heaps_Queueint_Peek (call : Eng.Callee) (x0 : Value) (W : AW) : Option (Value × AW) :=
  bnd (oMv (.int .i64 0) W) fun r1 =>
  bnd (oMv (.int .i64 0) r1.2) fun r2 =>
  bnd (oMv (.int .i64 0) r2.2) fun r3 =>
  bnd (oMv x0 r3.2) fun r4 =>
  bnd (call (fnV 54) [r4.1] r4.2) fun r5 =>
  bnd (oUn Try.prog .not r5.1 r5.2) fun r6 =>
  bnd (oMv r6.1 r6.2) fun r7 =>
  vIf r7.1 (
    bnd (oMv r2.1 r7.2) fun r8 =>
    bnd (oMv (.int .i64 0) r8.2) fun r9 =>
    bnd (oMv r8.1 r9.2) fun r10 =>
    bnd (oMv (.int .i64 1) r10.2) fun r11 =>
    oRes Try.prog [(r9.1, none), (r10.1, none), (r11.1, none)] r11.2) (
    bnd (oMv x0 r7.2) fun r12 =>
    bnd (oNilCheck r12.1 r12.2) fun r13 =>
    bnd (faO 0 r13.1 r13.2) fun r14 =>
    bnd (faO 0 r14.1 r14.2) fun r15 =>
    bnd (ldC r15.1 r15.2) fun r16 =>
    bnd (oBuiltin Try.prog .len #[104] 3 #[false] [r16.1] r16.2) fun r17 =>
    bnd (oBin Try.prog .eql 3 false true r17.1 (.int .i64 0) r17.2) fun r18 =>
    bnd (oMv r18.1 r18.2) fun r19 =>
    vIf r19.1 (
      bnd (oMv r2.1 r19.2) fun r20 =>
      bnd (oMv (.int .i64 0) r20.2) fun r21 =>
      bnd (oMv r20.1 r21.2) fun r22 =>
      bnd (oMv (.int .i64 4) r22.2) fun r23 =>
      oRes Try.prog [(r21.1, none), (r22.1, none), (r23.1, none)] r23.2) (
      bnd (oMv x0 r19.2) fun r24 =>
      bnd (oNilCheck r24.1 r24.2) fun r25 =>
      bnd (faO 0 r25.1 r25.2) fun r26 =>
      bnd (faO 0 r26.1 r26.2) fun r27 =>
      bnd (ldC r27.1 r27.2) fun r28 =>
      bnd (ixS 1 r28.1 (.int .i64 0) r28.2) fun r29 =>
      bnd (ldC r29.1 r29.2) fun r30 =>
      bnd (oMv r30.1 r30.2) fun r31 =>
      bnd (oMv r31.1 r31.2) fun r32 =>
      bnd (oNilCheck r32.1 r32.2) fun r33 =>
      bnd (faO 0 r33.1 r33.2) fun r34 =>
      bnd (ldC r34.1 r34.2) fun r35 =>
      bnd (oMv r31.1 r35.2) fun r36 =>
      bnd (oNilCheck r36.1 r36.2) fun r37 =>
      bnd (faO 1 r37.1 r37.2) fun r38 =>
      bnd (ldC r38.1 r38.2) fun r39 =>
      bnd (oMv r35.1 r39.2) fun r40 =>
      bnd (oMv r39.1 r40.2) fun r41 =>
      bnd (oMv (.int .i64 0) r41.2) fun r42 =>
      oRes Try.prog [(r40.1, none), (r41.1, none), (r42.1, none)] r42.2))
theorem heaps_Queueint_Peek_eq (call : Eng.Callee) (x0 : Value) (W : AW) : kFun Try.prog call 35 (cod 51) (rss 51) [x0] W = heaps_Queueint_Peek call x0 W := by kernel_rfl
theorem heaps_Queueint_Peek_om {x0 : Value} {W : AW} {r : Value × AW} (h : heaps_Queueint_Peek omS x0 W = some r) : omS (.func (.func 51) #[] #[]) [x0] W = some (gc W r) := om_of (nt := 35) (n := 1) (by kernel_rfl) (by kernel_rfl) rfl ((heaps_Queueint_Peek_eq omS x0 W).trans h)
noncomputable def law06_tens (call : Eng.Callee) (x0 x1 : Value) (W : AW) : Option (Value × AW) :=
  bnd (oMv (.bool false) W) fun r1 =>
  bnd (oMv x0 r1.2) fun r2 =>
  bnd (oBuiltin Try.prog .max #[3, 3] 3 #[false, true] [r2.1, (.int .i64 0)] r2.2) fun r3 =>
  bnd (oBin Try.prog .rem 3 false true r3.1 (.int .i64 10) r3.2) fun r4 =>
  bnd (oMv x1 r4.2) fun r5 =>
  bnd (oBuiltin Try.prog .max #[3, 3] 3 #[false, true] [r5.1, (.int .i64 0)] r5.2) fun r6 =>
  bnd (oBin Try.prog .rem 3 false true r6.1 (.int .i64 10) r6.2) fun r7 =>
  bnd (oBin Try.prog .gtr 3 false false r4.1 r7.1 r7.2) fun r8 =>
  bnd (oMv r8.1 r8.2) fun r9 =>
  oRes Try.prog [(r9.1, none)] r9.2
theorem law06_tens_eq (call : Eng.Callee) (x0 x1 : Value) (W : AW) : kFun Try.prog call 12 (cod 52) (rss 52) [x0, x1] W = law06_tens call x0 x1 W := by kernel_rfl
theorem law06_tens_om {x0 x1 : Value} {W : AW} {r : Value × AW} (h : law06_tens omS x0 x1 W = some r) : omS (.func (.func 52) #[] #[]) [x0, x1] W = some (gc W r) := om_of (nt := 12) (n := 2) (by kernel_rfl) (by kernel_rfl) rfl ((law06_tens_eq omS x0 x1 W).trans h)
theorem law06_tens_om1 {x0 x1 : Value} {W : AW} {r : Value × AW} (h : law06_tens om1 x0 x1 W = some r) : om1 (.func (.func 52) #[] #[]) [x0, x1] W = some (gc W r) := om_of (nt := 12) (n := 2) (by kernel_rfl) (by kernel_rfl) rfl ((law06_tens_eq om1 x0 x1 W).trans h)
noncomputable def containerheap_Pop (call : Eng.Callee) (x0 : Value) (W : AW) : Option (Value × AW) :=
  bnd (oMv .nilIface W) fun r1 =>
  bnd (oMv x0 r1.2) fun r2 =>
  bnd (oInvoke Try.prog call r2.1 "Len" [] r2.2) fun r3 =>
  bnd (oBin Try.prog .sub 3 false true r3.1 (.int .i64 1) r3.2) fun r4 =>
  bnd (oMv r4.1 r4.2) fun r5 =>
  bnd (oMv x0 r5.2) fun r6 =>
  bnd (oMv r5.1 r6.2) fun r7 =>
  bnd (oInvoke Try.prog call r6.1 "Swap" [(.int .i64 0), r7.1] r7.2) fun r8 =>
  bnd (oMv x0 r8.2) fun r9 =>
  bnd (oMv r5.1 r9.2) fun r10 =>
  bnd (call (fnV 94) [r9.1, (.int .i64 0), r10.1] r10.2) fun r11 =>
  bnd (oMv x0 r11.2) fun r12 =>
  bnd (oInvoke Try.prog call r12.1 "Pop" [] r12.2) fun r13 =>
  bnd (oMv r13.1 r13.2) fun r14 =>
  oRes Try.prog [(r14.1, none)] r14.2
theorem containerheap_Pop_eq (call : Eng.Callee) (x0 : Value) (W : AW) : kFun Try.prog call 15 (cod 53) (rss 53) [x0] W = containerheap_Pop call x0 W := by kernel_rfl
theorem containerheap_Pop_om {x0 : Value} {W : AW} {r : Value × AW} (h : containerheap_Pop omS x0 W = some r) : omS (.func (.func 53) #[] #[]) [x0] W = some (gc W r) := om_of (nt := 15) (n := 1) (by kernel_rfl) (by kernel_rfl) rfl ((containerheap_Pop_eq omS x0 W).trans h)
noncomputable def heaps_Queueint_made (call : Eng.Callee) (x0 : Value) (W : AW) : Option (Value × AW) :=
  bnd (oMv (.bool false) W) fun r1 =>
  bnd (oMv x0 r1.2) fun r2 =>
  bnd (oBin Try.prog .neq 24 false true r2.1 (.pointer none) r2.2) fun r3 =>
  bnd (oMv r3.1 r3.2) fun r4 =>
  bnd (bIf (wnt r4.1 true) (oMv x0 r4.2) (some (undef, r4.2))) fun r5 =>
  bnd (bIf (wnt r4.1 true) (oNilCheck r5.1 r5.2) (some (undef, r5.2))) fun r6 =>
  bnd (bIf (wnt r4.1 true) (faO 2 r6.1 r6.2) (some (undef, r6.2))) fun r7 =>
  bnd (bIf (wnt r4.1 true) (ldC r7.1 r7.2) (some (undef, r7.2))) fun r8 =>
  bnd (bIf (wnt r4.1 true) (oBin Try.prog .neq 107 false true r8.1 (.map none) r8.2) (some (undef, r8.2))) fun r9 =>
  bnd (oPick r4.1 r9.1 (.bool false) r9.2) fun r10 =>
  bnd (oMv r10.1 r10.2) fun r11 =>
  oRes Try.prog [(r11.1, none)] r11.2
theorem heaps_Queueint_made_eq (call : Eng.Callee) (x0 : Value) (W : AW) : kFun Try.prog call 12 (cod 54) (rss 54) [x0] W = heaps_Queueint_made call x0 W := by kernel_rfl
theorem heaps_Queueint_made_om {x0 : Value} {W : AW} {r : Value × AW} (h : heaps_Queueint_made omS x0 W = some r) : omS (.func (.func 54) #[] #[]) [x0] W = some (gc W r) := om_of (nt := 12) (n := 1) (by kernel_rfl) (by kernel_rfl) rfl ((heaps_Queueint_made_eq omS x0 W).trans h)
noncomputable def heaps_Queueint_sorted_L1 (call : Eng.Callee) (R : Nat → Value) (W : AW) : Option LT :=
  bnd (oBin Try.prog .lss 3 false false (R 18) (R 17) W) fun r17 =>
  vIf r17.1 (
    bnd (ixS 1 (R 16) (R 18) r17.2) fun r18 =>
    bnd (ldC r18.1 r18.2) fun r19 =>
    bnd (oMv r19.1 r19.2) fun r20 =>
    bnd (oMv (R 4) r20.2) fun r21 =>
    bnd (oMv r20.1 r21.2) fun r22 =>
    bnd (oNilCheck r22.1 r22.2) fun r23 =>
    bnd (faO 0 r23.1 r23.2) fun r24 =>
    bnd (ldC r24.1 r24.2) fun r25 =>
    bnd (oMv r20.1 r25.2) fun r26 =>
    bnd (oNilCheck r26.1 r26.2) fun r27 =>
    bnd (faO 1 r27.1 r27.2) fun r28 =>
    bnd (ldC r28.1 r28.2) fun r29 =>
    bnd (oBuild Try.prog 65 [(0, r25.1), (1, r29.1)] r29.2) fun r30 =>
    bnd (oBuildSlice Try.prog 58 1 [(0, r30.1)] r30.2) fun r31 =>
    bnd (aAppend Try.prog r31.2 #[58, 58] r21.1 r31.1) fun r32 =>
    bnd (oMv r32.1 r32.2) fun r33 =>
    bnd (oBin Try.prog .add 3 false true (R 18) (.int .i64 1) r33.2) fun r34 =>
    bnd (oMv r34.1 r34.2) fun r35 =>
    some (X.normal, (rput (rput (rput (rput (rput (rput (rput (rput (rput (rput (rput (rput (rput (rput (rput (rput (rput (rput (rput R (some 19) r17.1) (some 20) r18.1) (some 21) r19.1) (some 6) r20.1) (some 22) r21.1) (some 23) r22.1) (some 24) r23.1) (some 25) r24.1) (some 26) r25.1) (some 27) r26.1) (some 28) r27.1) (some 29) r28.1) (some 30) r29.1) (some 31) r30.1) (some 32) r31.1) (some 33) r32.1) (some 4) r33.1) (some 34) r34.1) (some 18) r35.1), r35.2)) (
    some (X.exit 0, (rput R (some 19) r17.1), r17.2))
noncomputable def heaps_Queueint_sorted (call : Eng.Callee) (x0 : Value) (W : AW) : Option (Value × AW) :=
  bnd (oBox x0 W) fun r1 =>
  bnd (oMv (.slice none 0 0) r1.2) fun r2 =>
  bnd (ldC r1.1 r2.2) fun r3 =>
  bnd (oNilCheck r3.1 r3.2) fun r4 =>
  bnd (faO 0 r4.1 r4.2) fun r5 =>
  bnd (faO 0 r5.1 r5.2) fun r6 =>
  bnd (ldC r6.1 r6.2) fun r7 =>
  bnd (call (fnV 100) [r7.1] r7.2) fun r8 =>
  bnd (oMv r8.1 r8.2) fun r9 =>
  bnd (oMv r9.1 r9.2) fun r10 =>
  bnd (oMkFunc (.func 102) #[] #[r1.1] r10.2) fun r11 =>
  bnd (call (fnV 101) [r10.1, r11.1] r11.2) fun r12 =>
  bnd (oMv (.slice none 0 0) r12.2) fun r13 =>
  bnd (oMv r9.1 r13.2) fun r14 =>
  bnd (oBuiltin Try.prog .len #[104] 3 #[false] [r14.1] r14.2) fun r15 =>
  bnd (oMv (.int .i64 0) r15.2) fun r16 =>
  bnd (loopO (heaps_Queueint_sorted_L1 call) (rput (rput (rput (rput (rput (rput (rput (rput (rput (rput (rput (rput (rput (rput (rput (rput (argGo 0 [x0] PlanTab.blank) (some 1) r1.1) (some 2) r2.1) (some 7) r3.1) (some 8) r4.1) (some 9) r5.1) (some 10) r6.1) (some 11) r7.1) (some 12) r8.1) (some 3) r9.1) (some 13) r10.1) (some 14) r11.1) (some 15) r12.1) (some 4) r13.1) (some 16) r14.1) (some 17) r15.1) (some 18) r16.1) r16.2) fun r36 =>
  kExit 0 r36.1 (
    bnd (oMv (r36.2.1 4) r36.2.2) fun r37 =>
    bnd (oMv r37.1 r37.2) fun r38 =>
    oRes Try.prog [(r38.1, none)] r38.2) (none)
theorem heaps_Queueint_sorted_eq (call : Eng.Callee) (x0 : Value) (W : AW) : kFun Try.prog call 36 (cod 67) (rss 67) [x0] W = heaps_Queueint_sorted call x0 W := by kernel_rfl
theorem heaps_Queueint_sorted_om {x0 : Value} {W : AW} {r : Value × AW} (h : heaps_Queueint_sorted omS x0 W = some r) : omS (.func (.func 67) #[] #[]) [x0] W = some (gc W r) := om_of (nt := 36) (n := 1) (by kernel_rfl) (by kernel_rfl) rfl ((heaps_Queueint_sorted_eq omS x0 W).trans h)
noncomputable def containerheap_Push (call : Eng.Callee) (x0 x1 : Value) (W : AW) : Option (Value × AW) :=
  bnd (oMv x0 W) fun r1 =>
  bnd (oMv x1 r1.2) fun r2 =>
  bnd (oInvoke Try.prog call r1.1 "Push" [r2.1] r2.2) fun r3 =>
  bnd (oMv x0 r3.2) fun r4 =>
  bnd (oMv x0 r4.2) fun r5 =>
  bnd (oInvoke Try.prog call r5.1 "Len" [] r5.2) fun r6 =>
  bnd (oBin Try.prog .sub 3 false true r6.1 (.int .i64 1) r6.2) fun r7 =>
  bnd (call (fnV 104) [r4.1, r7.1] r7.2) fun r8 =>
  oRes Try.prog [] r8.2
theorem containerheap_Push_eq (call : Eng.Callee) (x0 x1 : Value) (W : AW) : kFun Try.prog call 12 (cod 70) (rss 70) [x0, x1] W = containerheap_Push call x0 x1 W := by kernel_rfl
theorem containerheap_Push_om {x0 x1 : Value} {W : AW} {r : Value × AW} (h : containerheap_Push omS x0 x1 W = some r) : omS (.func (.func 70) #[] #[]) [x0, x1] W = some (gc W r) := om_of (nt := 12) (n := 2) (by kernel_rfl) (by kernel_rfl) rfl ((containerheap_Push_eq omS x0 x1 W).trans h)
noncomputable def heaps_Queuelaw06_Name_made (call : Eng.Callee) (x0 : Value) (W : AW) : Option (Value × AW) :=
  bnd (oMv (.bool false) W) fun r1 =>
  bnd (oMv x0 r1.2) fun r2 =>
  bnd (oBin Try.prog .neq 67 false true r2.1 (.pointer none) r2.2) fun r3 =>
  bnd (oMv r3.1 r3.2) fun r4 =>
  bnd (bIf (wnt r4.1 true) (oMv x0 r4.2) (some (undef, r4.2))) fun r5 =>
  bnd (bIf (wnt r4.1 true) (oNilCheck r5.1 r5.2) (some (undef, r5.2))) fun r6 =>
  bnd (bIf (wnt r4.1 true) (faO 2 r6.1 r6.2) (some (undef, r6.2))) fun r7 =>
  bnd (bIf (wnt r4.1 true) (ldC r7.1 r7.2) (some (undef, r7.2))) fun r8 =>
  bnd (bIf (wnt r4.1 true) (oBin Try.prog .neq 138 false true r8.1 (.map none) r8.2) (some (undef, r8.2))) fun r9 =>
  bnd (oPick r4.1 r9.1 (.bool false) r9.2) fun r10 =>
  bnd (oMv r10.1 r10.2) fun r11 =>
  oRes Try.prog [(r11.1, none)] r11.2
theorem heaps_Queuelaw06_Name_made_eq (call : Eng.Callee) (x0 : Value) (W : AW) : kFun Try.prog call 12 (cod 72) (rss 72) [x0] W = heaps_Queuelaw06_Name_made call x0 W := by kernel_rfl
theorem heaps_Queuelaw06_Name_made_om {x0 : Value} {W : AW} {r : Value × AW} (h : heaps_Queuelaw06_Name_made omS x0 W = some r) : omS (.func (.func 72) #[] #[]) [x0] W = some (gc W r) := om_of (nt := 12) (n := 1) (by kernel_rfl) (by kernel_rfl) rfl ((heaps_Queuelaw06_Name_made_eq omS x0 W).trans h)
noncomputable def heaps_pileint_Less (call : Eng.Callee) (x0 x1 x2 : Value) (W : AW) : Option (Value × AW) :=
  bnd (oMv (.bool false) W) fun r1 =>
  bnd (oMv x0 r1.2) fun r2 =>
  bnd (oMv x0 r2.2) fun r3 =>
  bnd (oNilCheck r3.1 r3.2) fun r4 =>
  bnd (faO 0 r4.1 r4.2) fun r5 =>
  bnd (ldC r5.1 r5.2) fun r6 =>
  bnd (oMv x1 r6.2) fun r7 =>
  bnd (ixS 1 r6.1 r7.1 r7.2) fun r8 =>
  bnd (ldC r8.1 r8.2) fun r9 =>
  bnd (oMv x0 r9.2) fun r10 =>
  bnd (oNilCheck r10.1 r10.2) fun r11 =>
  bnd (faO 0 r11.1 r11.2) fun r12 =>
  bnd (ldC r12.1 r12.2) fun r13 =>
  bnd (oMv x2 r13.2) fun r14 =>
  bnd (ixS 1 r13.1 r14.1 r14.2) fun r15 =>
  bnd (ldC r15.1 r15.2) fun r16 =>
  bnd (call (fnV 103) [r2.1, r9.1, r16.1] r16.2) fun r17 =>
  bnd (oMv r17.1 r17.2) fun r18 =>
  oRes Try.prog [(r18.1, none)] r18.2
theorem heaps_pileint_Less_eq (call : Eng.Callee) (x0 x1 x2 : Value) (W : AW) : kFun Try.prog call 23 (cod 73) (rss 73) [x0, x1, x2] W = heaps_pileint_Less call x0 x1 x2 W := by kernel_rfl
theorem heaps_pileint_Less_om {x0 x1 x2 : Value} {W : AW} {r : Value × AW} (h : heaps_pileint_Less omS x0 x1 x2 W = some r) : omS (.func (.func 73) #[] #[]) [x0, x1, x2] W = some (gc W r) := om_of (nt := 23) (n := 3) (by kernel_rfl) (by kernel_rfl) rfl ((heaps_pileint_Less_eq omS x0 x1 x2 W).trans h)
noncomputable def heaps_Queuelaw06_Name_Peek (call : Eng.Callee) (x0 : Value) (W : AW) : Option (Value × AW) :=
  bnd (oMv (.int .i64 0) W) fun r1 =>
  bnd (oAlloc Try.prog 70 r1.2) fun r2 =>
  bnd (oMv (.int .i64 0) r2.2) fun r3 =>
  bnd (oMv x0 r3.2) fun r4 =>
  bnd (call (fnV 72) [r4.1] r4.2) fun r5 =>
  bnd (oUn Try.prog .not r5.1 r5.2) fun r6 =>
  bnd (oMv r6.1 r6.2) fun r7 =>
  vIf r7.1 (
    bnd (ldA 2 r2.1 r7.2) fun r8 =>
    bnd (oMv (.int .i64 0) r8.2) fun r9 =>
    bnd (stV 2 r2.1 r8.1 r9.2) fun r10 =>
    bnd (oMv (.int .i64 1) r10.2) fun r11 =>
    oRes Try.prog [(r9.1, none), (r2.1, some 70), (r11.1, none)] r11.2) (
    bnd (oMv x0 r7.2) fun r12 =>
    bnd (oNilCheck r12.1 r12.2) fun r13 =>
    bnd (faO 0 r13.1 r13.2) fun r14 =>
    bnd (faO 0 r14.1 r14.2) fun r15 =>
    bnd (ldC r15.1 r15.2) fun r16 =>
    bnd (oBuiltin Try.prog .len #[135] 3 #[false] [r16.1] r16.2) fun r17 =>
    bnd (oBin Try.prog .eql 3 false true r17.1 (.int .i64 0) r17.2) fun r18 =>
    bnd (oMv r18.1 r18.2) fun r19 =>
    vIf r19.1 (
      bnd (ldA 2 r2.1 r19.2) fun r20 =>
      bnd (oMv (.int .i64 0) r20.2) fun r21 =>
      bnd (stV 2 r2.1 r20.1 r21.2) fun r22 =>
      bnd (oMv (.int .i64 4) r22.2) fun r23 =>
      oRes Try.prog [(r21.1, none), (r2.1, some 70), (r23.1, none)] r23.2) (
      bnd (oMv x0 r19.2) fun r24 =>
      bnd (oNilCheck r24.1 r24.2) fun r25 =>
      bnd (faO 0 r25.1 r25.2) fun r26 =>
      bnd (faO 0 r26.1 r26.2) fun r27 =>
      bnd (ldC r27.1 r27.2) fun r28 =>
      bnd (ixS 1 r28.1 (.int .i64 0) r28.2) fun r29 =>
      bnd (ldC r29.1 r29.2) fun r30 =>
      bnd (oMv r30.1 r30.2) fun r31 =>
      bnd (oMv r31.1 r31.2) fun r32 =>
      bnd (oNilCheck r32.1 r32.2) fun r33 =>
      bnd (faO 0 r33.1 r33.2) fun r34 =>
      bnd (ldC r34.1 r34.2) fun r35 =>
      bnd (oMv r31.1 r35.2) fun r36 =>
      bnd (oNilCheck r36.1 r36.2) fun r37 =>
      bnd (faO 1 r37.1 r37.2) fun r38 =>
      bnd (ldA 2 r38.1 r38.2) fun r39 =>
      bnd (oMv r35.1 r39.2) fun r40 =>
      bnd (stV 2 r2.1 r39.1 r40.2) fun r41 =>
      bnd (oMv (.int .i64 0) r41.2) fun r42 =>
      oRes Try.prog [(r40.1, none), (r2.1, some 70), (r42.1, none)] r42.2))
theorem heaps_Queuelaw06_Name_Peek_eq (call : Eng.Callee) (x0 : Value) (W : AW) : kFun Try.prog call 35 (cod 74) (rss 74) [x0] W = heaps_Queuelaw06_Name_Peek call x0 W := by kernel_rfl
theorem heaps_Queuelaw06_Name_Peek_om {x0 : Value} {W : AW} {r : Value × AW} (h : heaps_Queuelaw06_Name_Peek omS x0 W = some r) : omS (.func (.func 74) #[] #[]) [x0] W = some (gc W r) := om_of (nt := 35) (n := 1) (by kernel_rfl) (by kernel_rfl) rfl ((heaps_Queuelaw06_Name_Peek_eq omS x0 W).trans h)
noncomputable def containerheap_down_L1 (call : Eng.Callee) (R : Nat → Value) (W : AW) : Option LT :=
  bnd (oMv (R 7) W) fun r4 =>
  bnd (oBin Try.prog .mul 3 true false (.int .i64 2) r4.1 r4.2) fun r5 =>
  bnd (oBin Try.prog .add 3 false true r5.1 (.int .i64 1) r5.2) fun r6 =>
  bnd (oMv r6.1 r6.2) fun r7 =>
  bnd (oMv r7.1 r7.2) fun r8 =>
  bnd (oMv (R 2) r8.2) fun r9 =>
  bnd (oBin Try.prog .geq 3 false false r8.1 r9.1 r9.2) fun r10 =>
  bnd (oMv r10.1 r10.2) fun r11 =>
  bnd (bIf (wnt r11.1 false) (oMv r7.1 r11.2) (some (undef, r11.2))) fun r12 =>
  bnd (bIf (wnt r11.1 false) (oBin Try.prog .lss 3 false true r12.1 (.int .i64 0) r12.2) (some (undef, r12.2))) fun r13 =>
  bnd (oPick r11.1 (.bool true) r13.1 r13.2) fun r14 =>
  vIf r14.1 (
    some (X.exit 0, (rput (rput (rput (rput (rput (rput (rput (rput (rput (rput (rput R (some 12) r4.1) (some 13) r5.1) (some 14) r6.1) (some 8) r7.1) (some 15) r8.1) (some 16) r9.1) (some 17) r10.1) (some 18) r11.1) (some 19) r12.1) (some 20) r13.1) (some 21) r14.1), r14.2)) (
    bnd (oMv r7.1 r14.2) fun r15 =>
    bnd (oMv r15.1 r15.2) fun r16 =>
    bnd (oMv r7.1 r16.2) fun r17 =>
    bnd (oBin Try.prog .add 3 false true r17.1 (.int .i64 1) r17.2) fun r18 =>
    bnd (oMv r18.1 r18.2) fun r19 =>
    bnd (oMv r19.1 r19.2) fun r20 =>
    bnd (oMv (R 2) r20.2) fun r21 =>
    bnd (oBin Try.prog .lss 3 false false r20.1 r21.1 r21.2) fun r22 =>
    bnd (oMv r22.1 r22.2) fun r23 =>
    bnd (bIf (wnt r23.1 true) (oMv (R 0) r23.2) (some (undef, r23.2))) fun r24 =>
    bnd (bIf (wnt r23.1 true) (oMv r19.1 r24.2) (some (undef, r24.2))) fun r25 =>
    bnd (bIf (wnt r23.1 true) (oMv r7.1 r25.2) (some (undef, r25.2))) fun r26 =>
    bnd (bIf (wnt r23.1 true) (oInvoke Try.prog call r24.1 "Less" [r25.1, r26.1] r26.2) (some (undef, r26.2))) fun r27 =>
    bnd (oPick r23.1 r27.1 (.bool false) r27.2) fun r28 =>
    vIf r28.1 (
      bnd (oMv r19.1 r28.2) fun r29 =>
      bnd (oMv r29.1 r29.2) fun r30 =>
      bnd (oMv (R 0) r30.2) fun r31 =>
      bnd (oMv r30.1 r31.2) fun r32 =>
      bnd (oMv (R 7) r32.2) fun r33 =>
      bnd (oInvoke Try.prog call r31.1 "Less" [r32.1, r33.1] r33.2) fun r34 =>
      bnd (oUn Try.prog .not r34.1 r34.2) fun r35 =>
      vIf r35.1 (
        some (X.exit 0, (rput (rput (rput (rput (rput (rput (rput (rput (rput (rput (rput (rput (rput (rput (rput (rput (rput (rput (rput (rput (rput (rput (rput (rput (rput (rput (rput (rput (rput (rput (rput (rput R (some 12) r4.1) (some 13) r5.1) (some 14) r6.1) (some 8) r7.1) (some 15) r8.1) (some 16) r9.1) (some 17) r10.1) (some 18) r11.1) (some 19) r12.1) (some 20) r13.1) (some 21) r14.1) (some 22) r15.1) (some 9) r16.1) (some 23) r17.1) (some 24) r18.1) (some 10) r19.1) (some 25) r20.1) (some 26) r21.1) (some 27) r22.1) (some 28) r23.1) (some 29) r24.1) (some 30) r25.1) (some 31) r26.1) (some 32) r27.1) (some 33) r28.1) (some 34) r29.1) (some 9) r30.1) (some 35) r31.1) (some 36) r32.1) (some 37) r33.1) (some 38) r34.1) (some 39) r35.1), r35.2)) (
        bnd (oMv (R 0) r35.2) fun r36 =>
        bnd (oMv (R 7) r36.2) fun r37 =>
        bnd (oMv r30.1 r37.2) fun r38 =>
        bnd (oInvoke Try.prog call r36.1 "Swap" [r37.1, r38.1] r38.2) fun r39 =>
        bnd (oMv r30.1 r39.2) fun r40 =>
        bnd (oMv r40.1 r40.2) fun r41 =>
        some (X.normal, (rput (rput (rput (rput (rput (rput (rput (rput (rput (rput (rput (rput (rput (rput (rput (rput (rput (rput (rput (rput (rput (rput (rput (rput (rput (rput (rput (rput (rput (rput (rput (rput (rput (rput (rput (rput (rput (rput R (some 12) r4.1) (some 13) r5.1) (some 14) r6.1) (some 8) r7.1) (some 15) r8.1) (some 16) r9.1) (some 17) r10.1) (some 18) r11.1) (some 19) r12.1) (some 20) r13.1) (some 21) r14.1) (some 22) r15.1) (some 9) r16.1) (some 23) r17.1) (some 24) r18.1) (some 10) r19.1) (some 25) r20.1) (some 26) r21.1) (some 27) r22.1) (some 28) r23.1) (some 29) r24.1) (some 30) r25.1) (some 31) r26.1) (some 32) r27.1) (some 33) r28.1) (some 34) r29.1) (some 9) r30.1) (some 35) r31.1) (some 36) r32.1) (some 37) r33.1) (some 38) r34.1) (some 39) r35.1) (some 40) r36.1) (some 41) r37.1) (some 42) r38.1) (some 43) r39.1) (some 44) r40.1) (some 7) r41.1), r41.2))) (
      bnd (oMv (R 0) r28.2) fun r42 =>
      bnd (oMv r16.1 r42.2) fun r43 =>
      bnd (oMv (R 7) r43.2) fun r44 =>
      bnd (oInvoke Try.prog call r42.1 "Less" [r43.1, r44.1] r44.2) fun r45 =>
      bnd (oUn Try.prog .not r45.1 r45.2) fun r46 =>
      vIf r46.1 (
        some (X.exit 0, (rput (rput (rput (rput (rput (rput (rput (rput (rput (rput (rput (rput (rput (rput (rput (rput (rput (rput (rput (rput (rput (rput (rput (rput (rput (rput (rput (rput (rput (rput R (some 12) r4.1) (some 13) r5.1) (some 14) r6.1) (some 8) r7.1) (some 15) r8.1) (some 16) r9.1) (some 17) r10.1) (some 18) r11.1) (some 19) r12.1) (some 20) r13.1) (some 21) r14.1) (some 22) r15.1) (some 9) r16.1) (some 23) r17.1) (some 24) r18.1) (some 10) r19.1) (some 25) r20.1) (some 26) r21.1) (some 27) r22.1) (some 28) r23.1) (some 29) r24.1) (some 30) r25.1) (some 31) r26.1) (some 32) r27.1) (some 33) r28.1) (some 35) r42.1) (some 36) r43.1) (some 37) r44.1) (some 38) r45.1) (some 39) r46.1), r46.2)) (
        bnd (oMv (R 0) r46.2) fun r47 =>
        bnd (oMv (R 7) r47.2) fun r48 =>
        bnd (oMv r16.1 r48.2) fun r49 =>
        bnd (oInvoke Try.prog call r47.1 "Swap" [r48.1, r49.1] r49.2) fun r50 =>
        bnd (oMv r16.1 r50.2) fun r51 =>
        bnd (oMv r51.1 r51.2) fun r52 =>
        some (X.normal, (rput (rput (rput (rput (rput (rput (rput (rput (rput (rput (rput (rput (rput (rput (rput (rput (rput (rput (rput (rput (rput (rput (rput (rput (rput (rput (rput (rput (rput (rput (rput (rput (rput (rput (rput (rput R (some 12) r4.1) (some 13) r5.1) (some 14) r6.1) (some 8) r7.1) (some 15) r8.1) (some 16) r9.1) (some 17) r10.1) (some 18) r11.1) (some 19) r12.1) (some 20) r13.1) (some 21) r14.1) (some 22) r15.1) (some 9) r16.1) (some 23) r17.1) (some 24) r18.1) (some 10) r19.1) (some 25) r20.1) (some 26) r21.1) (some 27) r22.1) (some 28) r23.1) (some 29) r24.1) (some 30) r25.1) (some 31) r26.1) (some 32) r27.1) (some 33) r28.1) (some 35) r42.1) (some 36) r43.1) (some 37) r44.1) (some 38) r45.1) (some 39) r46.1) (some 40) r47.1) (some 41) r48.1) (some 42) r49.1) (some 43) r50.1) (some 44) r51.1) (some 7) r52.1), r52.2))))
noncomputable def containerheap_down (call : Eng.Callee) (x0 x1 x2 : Value) (W : AW) : Option (Value × AW) :=
  bnd (oMv (.bool false) W) fun r1 =>
  bnd (oMv x1 r1.2) fun r2 =>
  bnd (oMv r2.1 r2.2) fun r3 =>
  bnd (loopO (containerheap_down_L1 call) (rput (rput (rput (argGo 0 [x0, x1, x2] PlanTab.blank) (some 6) r1.1) (some 11) r2.1) (some 7) r3.1) r3.2) fun r53 =>
  kExit 0 r53.1 (
    bnd (oMv (r53.2.1 7) r53.2.2) fun r54 =>
    bnd (oMv (r53.2.1 1) r54.2) fun r55 =>
    bnd (oBin Try.prog .gtr 3 false false r54.1 r55.1 r55.2) fun r56 =>
    bnd (oMv r56.1 r56.2) fun r57 =>
    oRes Try.prog [(r57.1, none)] r57.2) (none)
theorem containerheap_down_eq (call : Eng.Callee) (x0 x1 x2 : Value) (W : AW) : kFun Try.prog call 48 (cod 94) (rss 94) [x0, x1, x2] W = containerheap_down call x0 x1 x2 W := by kernel_rfl
theorem containerheap_down_om {x0 x1 x2 : Value} {W : AW} {r : Value × AW} (h : containerheap_down omS x0 x1 x2 W = some r) : omS (.func (.func 94) #[] #[]) [x0, x1, x2] W = some (gc W r) := om_of (nt := 48) (n := 3) (by kernel_rfl) (by kernel_rfl) rfl ((containerheap_down_eq omS x0 x1 x2 W).trans h)
noncomputable def slices_Cloneheaps_entryintheaps_entryint (call : Eng.Callee) (x0 : Value) (W : AW) : Option (Value × AW) :=
  bnd (oMv (.slice none 0 0) W) fun r1 =>
  bnd (oMv x0 r1.2) fun r2 =>
  bnd (oBin Try.prog .eql 104 false true r2.1 (.slice none 0 0) r2.2) fun r3 =>
  vIf r3.1 (
    bnd (oMv (.slice none 0 0) r3.2) fun r4 =>
    oRes Try.prog [(r4.1, none)] r4.2) (
    bnd (oBuildSlice Try.prog 104 0 [] r3.2) fun r5 =>
    bnd (oMv x0 r5.2) fun r6 =>
    bnd (aAppend Try.prog r6.2 #[104, 104] r5.1 r6.1) fun r7 =>
    bnd (oMv r7.1 r7.2) fun r8 =>
    oRes Try.prog [(r8.1, none)] r8.2)
theorem slices_Cloneheaps_entryintheaps_entryint_eq (call : Eng.Callee) (x0 : Value) (W : AW) : kFun Try.prog call 8 (cod 100) (rss 100) [x0] W = slices_Cloneheaps_entryintheaps_entryint call x0 W := by kernel_rfl
theorem slices_Cloneheaps_entryintheaps_entryint_om {x0 : Value} {W : AW} {r : Value × AW} (h : slices_Cloneheaps_entryintheaps_entryint omS x0 W = some r) : omS (.func (.func 100) #[] #[]) [x0] W = some (gc W r) := om_of (nt := 8) (n := 1) (by kernel_rfl) (by kernel_rfl) rfl ((slices_Cloneheaps_entryintheaps_entryint_eq omS x0 W).trans h)
noncomputable def heaps_pileint_before (call : Eng.Callee) (x0 x1 x2 : Value) (W : AW) : Option (Value × AW) :=
  bnd (oMv (.bool false) W) fun r1 =>
  bnd (oMv x0 r1.2) fun r2 =>
  bnd (oNilCheck r2.1 r2.2) fun r3 =>
  bnd (faO 1 r3.1 r3.2) fun r4 =>
  bnd (ldC r4.1 r4.2) fun r5 =>
  bnd (oMv x1 r5.2) fun r6 =>
  bnd (oNilCheck r6.1 r6.2) fun r7 =>
  bnd (faO 1 r7.1 r7.2) fun r8 =>
  bnd (ldC r8.1 r8.2) fun r9 =>
  bnd (oMv x2 r9.2) fun r10 =>
  bnd (oNilCheck r10.1 r10.2) fun r11 =>
  bnd (faO 1 r11.1 r11.2) fun r12 =>
  bnd (ldC r12.1 r12.2) fun r13 =>
  bnd (call r5.1 [r9.1, r13.1] r13.2) fun r14 =>
  bnd (oMv r14.1 r14.2) fun r15 =>
  vIf r15.1 (
    bnd (oMv (.bool true) r15.2) fun r16 =>
    oRes Try.prog [(r16.1, none)] r16.2) (
    bnd (oMv x0 r15.2) fun r17 =>
    bnd (oNilCheck r17.1 r17.2) fun r18 =>
    bnd (faO 1 r18.1 r18.2) fun r19 =>
    bnd (ldC r19.1 r19.2) fun r20 =>
    bnd (oMv x2 r20.2) fun r21 =>
    bnd (oNilCheck r21.1 r21.2) fun r22 =>
    bnd (faO 1 r22.1 r22.2) fun r23 =>
    bnd (ldC r23.1 r23.2) fun r24 =>
    bnd (oMv x1 r24.2) fun r25 =>
    bnd (oNilCheck r25.1 r25.2) fun r26 =>
    bnd (faO 1 r26.1 r26.2) fun r27 =>
    bnd (ldC r27.1 r27.2) fun r28 =>
    bnd (call r20.1 [r24.1, r28.1] r28.2) fun r29 =>
    bnd (oMv r29.1 r29.2) fun r30 =>
    vIf r30.1 (
      bnd (oMv (.bool false) r30.2) fun r31 =>
      oRes Try.prog [(r31.1, none)] r31.2) (
      bnd (oMv x1 r30.2) fun r32 =>
      bnd (oNilCheck r32.1 r32.2) fun r33 =>
      bnd (faO 0 r33.1 r33.2) fun r34 =>
      bnd (ldC r34.1 r34.2) fun r35 =>
      bnd (oMv x2 r35.2) fun r36 =>
      bnd (oNilCheck r36.1 r36.2) fun r37 =>
      bnd (faO 0 r37.1 r37.2) fun r38 =>
      bnd (ldC r38.1 r38.2) fun r39 =>
      bnd (oBin Try.prog .lss 2 false false r35.1 r39.1 r39.2) fun r40 =>
      bnd (oMv r40.1 r40.2) fun r41 =>
      oRes Try.prog [(r41.1, none)] r41.2))
theorem heaps_pileint_before_eq (call : Eng.Callee) (x0 x1 x2 : Value) (W : AW) : kFun Try.prog call 44 (cod 103) (rss 103) [x0, x1, x2] W = heaps_pileint_before call x0 x1 x2 W := by kernel_rfl
theorem heaps_pileint_before_om {x0 x1 x2 : Value} {W : AW} {r : Value × AW} (h : heaps_pileint_before omS x0 x1 x2 W = some r) : omS (.func (.func 103) #[] #[]) [x0, x1, x2] W = some (gc W r) := om_of (nt := 44) (n := 3) (by kernel_rfl) (by kernel_rfl) rfl ((heaps_pileint_before_eq omS x0 x1 x2 W).trans h)
theorem heaps_pileint_before_om1 {x0 x1 x2 : Value} {W : AW} {r : Value × AW} (h : heaps_pileint_before om1 x0 x1 x2 W = some r) : om1 (.func (.func 103) #[] #[]) [x0, x1, x2] W = some (gc W r) := om_of (nt := 44) (n := 3) (by kernel_rfl) (by kernel_rfl) rfl ((heaps_pileint_before_eq om1 x0 x1 x2 W).trans h)
noncomputable def containerheap_up_L1 (call : Eng.Callee) (R : Nat → Value) (W : AW) : Option LT :=
  bnd (oMv (R 1) W) fun r1 =>
  bnd (oBin Try.prog .sub 3 false true r1.1 (.int .i64 1) r1.2) fun r2 =>
  bnd (oBin Try.prog .quo 3 false true r2.1 (.int .i64 2) r2.2) fun r3 =>
  bnd (oMv r3.1 r3.2) fun r4 =>
  bnd (oMv r4.1 r4.2) fun r5 =>
  bnd (oMv (R 1) r5.2) fun r6 =>
  bnd (oBin Try.prog .eql 3 false false r5.1 r6.1 r6.2) fun r7 =>
  bnd (oMv r7.1 r7.2) fun r8 =>
  bnd (bIf (wnt r8.1 false) (oMv (R 0) r8.2) (some (undef, r8.2))) fun r9 =>
  bnd (bIf (wnt r8.1 false) (oMv (R 1) r9.2) (some (undef, r9.2))) fun r10 =>
  bnd (bIf (wnt r8.1 false) (oMv r4.1 r10.2) (some (undef, r10.2))) fun r11 =>
  bnd (bIf (wnt r8.1 false) (oInvoke Try.prog call r9.1 "Less" [r10.1, r11.1] r11.2) (some (undef, r11.2))) fun r12 =>
  bnd (bIf (wnt r8.1 false) (oUn Try.prog .not r12.1 r12.2) (some (undef, r12.2))) fun r13 =>
  bnd (oPick r8.1 (.bool true) r13.1 r13.2) fun r14 =>
  vIf r14.1 (
    some (X.exit 0, (rput (rput (rput (rput (rput (rput (rput (rput (rput (rput (rput (rput (rput (rput R (some 5) r1.1) (some 6) r2.1) (some 7) r3.1) (some 4) r4.1) (some 8) r5.1) (some 9) r6.1) (some 10) r7.1) (some 11) r8.1) (some 12) r9.1) (some 13) r10.1) (some 14) r11.1) (some 15) r12.1) (some 16) r13.1) (some 17) r14.1), r14.2)) (
    bnd (oMv (R 0) r14.2) fun r15 =>
    bnd (oMv r4.1 r15.2) fun r16 =>
    bnd (oMv (R 1) r16.2) fun r17 =>
    bnd (oInvoke Try.prog call r15.1 "Swap" [r16.1, r17.1] r17.2) fun r18 =>
    bnd (oMv r4.1 r18.2) fun r19 =>
    bnd (oMv r19.1 r19.2) fun r20 =>
    some (X.normal, (rput (rput (rput (rput (rput (rput (rput (rput (rput (rput (rput (rput (rput (rput (rput (rput (rput (rput (rput (rput R (some 5) r1.1) (some 6) r2.1) (some 7) r3.1) (some 4) r4.1) (some 8) r5.1) (some 9) r6.1) (some 10) r7.1) (some 11) r8.1) (some 12) r9.1) (some 13) r10.1) (some 14) r11.1) (some 15) r12.1) (some 16) r13.1) (some 17) r14.1) (some 18) r15.1) (some 19) r16.1) (some 20) r17.1) (some 21) r18.1) (some 22) r19.1) (some 1) r20.1), r20.2))
noncomputable def containerheap_up (call : Eng.Callee) (x0 x1 : Value) (W : AW) : Option (Value × AW) :=
  bnd (loopO (containerheap_up_L1 call) (argGo 0 [x0, x1] PlanTab.blank) W) fun r21 =>
  kExit 0 r21.1 (
    oRes Try.prog [] r21.2.2) (none)
theorem containerheap_up_eq (call : Eng.Callee) (x0 x1 : Value) (W : AW) : kFun Try.prog call 23 (cod 104) (rss 104) [x0, x1] W = containerheap_up call x0 x1 W := by kernel_rfl
theorem containerheap_up_om {x0 x1 : Value} {W : AW} {r : Value × AW} (h : containerheap_up omS x0 x1 W = some r) : omS (.func (.func 104) #[] #[]) [x0, x1] W = some (gc W r) := om_of (nt := 23) (n := 2) (by kernel_rfl) (by kernel_rfl) rfl ((containerheap_up_eq omS x0 x1 W).trans h)
noncomputable def heaps_pileint_Len (call : Eng.Callee) (x0 : Value) (W : AW) : Option (Value × AW) :=
  bnd (oMv (.int .i64 0) W) fun r1 =>
  bnd (oMv x0 r1.2) fun r2 =>
  bnd (oNilCheck r2.1 r2.2) fun r3 =>
  bnd (faO 0 r3.1 r3.2) fun r4 =>
  bnd (ldC r4.1 r4.2) fun r5 =>
  bnd (oBuiltin Try.prog .len #[104] 3 #[false] [r5.1] r5.2) fun r6 =>
  bnd (oMv r6.1 r6.2) fun r7 =>
  oRes Try.prog [(r7.1, none)] r7.2
theorem heaps_pileint_Len_eq (call : Eng.Callee) (x0 : Value) (W : AW) : kFun Try.prog call 8 (cod 190) (rss 190) [x0] W = heaps_pileint_Len call x0 W := by kernel_rfl
theorem heaps_pileint_Len_om {x0 : Value} {W : AW} {r : Value × AW} (h : heaps_pileint_Len omS x0 W = some r) : omS (.func (.func 190) #[] #[]) [x0] W = some (gc W r) := om_of (nt := 8) (n := 1) (by kernel_rfl) (by kernel_rfl) rfl ((heaps_pileint_Len_eq omS x0 W).trans h)
noncomputable def heaps_pileint_Pop (call : Eng.Callee) (x0 : Value) (W : AW) : Option (Value × AW) :=
  bnd (oMv .nilIface W) fun r1 =>
  bnd (oMv x0 r1.2) fun r2 =>
  bnd (oNilCheck r2.1 r2.2) fun r3 =>
  bnd (faO 0 r3.1 r3.2) fun r4 =>
  bnd (ldC r4.1 r4.2) fun r5 =>
  bnd (oBuiltin Try.prog .len #[104] 3 #[false] [r5.1] r5.2) fun r6 =>
  bnd (oBin Try.prog .sub 3 false true r6.1 (.int .i64 1) r6.2) fun r7 =>
  bnd (oMv r7.1 r7.2) fun r8 =>
  bnd (oMv x0 r8.2) fun r9 =>
  bnd (oNilCheck r9.1 r9.2) fun r10 =>
  bnd (faO 0 r10.1 r10.2) fun r11 =>
  bnd (ldC r11.1 r11.2) fun r12 =>
  bnd (oMv r8.1 r12.2) fun r13 =>
  bnd (ixS 1 r12.1 r13.1 r13.2) fun r14 =>
  bnd (ldC r14.1 r14.2) fun r15 =>
  bnd (oMv r15.1 r15.2) fun r16 =>
  bnd (oMv x0 r16.2) fun r17 =>
  bnd (oNilCheck r17.1 r17.2) fun r18 =>
  bnd (faO 0 r18.1 r18.2) fun r19 =>
  bnd (ldC r19.1 r19.2) fun r20 =>
  bnd (oMv r8.1 r20.2) fun r21 =>
  bnd (ixS 1 r20.1 r21.1 r21.2) fun r22 =>
  bnd (stV 1 r22.1 (.pointer none) r22.2) fun r23 =>
  bnd (oMv x0 r23.2) fun r24 =>
  bnd (oMv x0 r24.2) fun r25 =>
  bnd (oNilCheck r25.1 r25.2) fun r26 =>
  bnd (faO 0 r26.1 r26.2) fun r27 =>
  bnd (ldC r27.1 r27.2) fun r28 =>
  bnd (oMv r8.1 r28.2) fun r29 =>
  bnd (oSlice Try.prog 104 r28.1 none (some r29.1) none r29.2) fun r30 =>
  bnd (oNilCheck r24.1 r30.2) fun r31 =>
  bnd (faO 0 r31.1 r31.2) fun r32 =>
  bnd (stV 1 r32.1 r30.1 r32.2) fun r33 =>
  bnd (oMv r16.1 r33.2) fun r34 =>
  bnd (oMkIface Try.prog 127 r34.1 r34.2) fun r35 =>
  bnd (oMv r35.1 r35.2) fun r36 =>
  oRes Try.prog [(r36.1, none)] r36.2
theorem heaps_pileint_Pop_eq (call : Eng.Callee) (x0 : Value) (W : AW) : kFun Try.prog call 35 (cod 191) (rss 191) [x0] W = heaps_pileint_Pop call x0 W := by kernel_rfl
theorem heaps_pileint_Pop_om {x0 : Value} {W : AW} {r : Value × AW} (h : heaps_pileint_Pop omS x0 W = some r) : omS (.func (.func 191) #[] #[]) [x0] W = some (gc W r) := om_of (nt := 35) (n := 1) (by kernel_rfl) (by kernel_rfl) rfl ((heaps_pileint_Pop_eq omS x0 W).trans h)
noncomputable def heaps_pileint_Push (call : Eng.Callee) (x0 x1 : Value) (W : AW) : Option (Value × AW) :=
  bnd (oMv x1 W) fun r1 =>
  bnd (oAssert Try.prog r1.1 127 false r1.2) fun r2 =>
  bnd (oMv r2.1 r2.2) fun r3 =>
  bnd (oMv r3.1 r3.2) fun r4 =>
  bnd (oMv x0 r4.2) fun r5 =>
  bnd (oNilCheck r5.1 r5.2) fun r6 =>
  bnd (faO 0 r6.1 r6.2) fun r7 =>
  bnd (ldC r7.1 r7.2) fun r8 =>
  bnd (oBuiltin Try.prog .len #[104] 3 #[false] [r8.1] r8.2) fun r9 =>
  bnd (oNilCheck r4.1 r9.2) fun r10 =>
  bnd (faO 2 r10.1 r10.2) fun r11 =>
  bnd (stV 1 r11.1 r9.1 r11.2) fun r12 =>
  bnd (oMv x0 r12.2) fun r13 =>
  bnd (oMv x0 r13.2) fun r14 =>
  bnd (oNilCheck r14.1 r14.2) fun r15 =>
  bnd (faO 0 r15.1 r15.2) fun r16 =>
  bnd (ldC r16.1 r16.2) fun r17 =>
  bnd (oMv r3.1 r17.2) fun r18 =>
  bnd (oBuildSlice Try.prog 104 1 [(0, r18.1)] r18.2) fun r19 =>
  bnd (aAppend Try.prog r19.2 #[104, 104] r17.1 r19.1) fun r20 =>
  bnd (oNilCheck r13.1 r20.2) fun r21 =>
  bnd (faO 0 r21.1 r21.2) fun r22 =>
  bnd (stV 1 r22.1 r20.1 r22.2) fun r23 =>
  oRes Try.prog [] r23.2
theorem heaps_pileint_Push_eq (call : Eng.Callee) (x0 x1 : Value) (W : AW) : kFun Try.prog call 25 (cod 192) (rss 192) [x0, x1] W = heaps_pileint_Push call x0 x1 W := by kernel_rfl
theorem heaps_pileint_Push_om {x0 x1 : Value} {W : AW} {r : Value × AW} (h : heaps_pileint_Push omS x0 x1 W = some r) : omS (.func (.func 192) #[] #[]) [x0, x1] W = some (gc W r) := om_of (nt := 25) (n := 2) (by kernel_rfl) (by kernel_rfl) rfl ((heaps_pileint_Push_eq omS x0 x1 W).trans h)
noncomputable def heaps_pileint_Swap (call : Eng.Callee) (x0 x1 x2 : Value) (W : AW) : Option (Value × AW) :=
  bnd (oMv x0 W) fun r1 =>
  bnd (oNilCheck r1.1 r1.2) fun r2 =>
  bnd (faO 0 r2.1 r2.2) fun r3 =>
  bnd (ldC r3.1 r3.2) fun r4 =>
  bnd (oMv x1 r4.2) fun r5 =>
  bnd (oMv x0 r5.2) fun r6 =>
  bnd (oNilCheck r6.1 r6.2) fun r7 =>
  bnd (faO 0 r7.1 r7.2) fun r8 =>
  bnd (ldC r8.1 r8.2) fun r9 =>
  bnd (oMv x2 r9.2) fun r10 =>
  bnd (oMv x0 r10.2) fun r11 =>
  bnd (oNilCheck r11.1 r11.2) fun r12 =>
  bnd (faO 0 r12.1 r12.2) fun r13 =>
  bnd (ldC r13.1 r13.2) fun r14 =>
  bnd (oMv x2 r14.2) fun r15 =>
  bnd (ixS 1 r14.1 r15.1 r15.2) fun r16 =>
  bnd (ldC r16.1 r16.2) fun r17 =>
  bnd (oMv x0 r17.2) fun r18 =>
  bnd (oNilCheck r18.1 r18.2) fun r19 =>
  bnd (faO 0 r19.1 r19.2) fun r20 =>
  bnd (ldC r20.1 r20.2) fun r21 =>
  bnd (oMv x1 r21.2) fun r22 =>
  bnd (ixS 1 r21.1 r22.1 r22.2) fun r23 =>
  bnd (ldC r23.1 r23.2) fun r24 =>
  bnd (ixS 1 r4.1 r5.1 r24.2) fun r25 =>
  bnd (stV 1 r25.1 r17.1 r25.2) fun r26 =>
  bnd (ixS 1 r9.1 r10.1 r26.2) fun r27 =>
  bnd (stV 1 r27.1 r24.1 r27.2) fun r28 =>
  bnd (oMv x0 r28.2) fun r29 =>
  bnd (oNilCheck r29.1 r29.2) fun r30 =>
  bnd (faO 0 r30.1 r30.2) fun r31 =>
  bnd (ldC r31.1 r31.2) fun r32 =>
  bnd (oMv x1 r32.2) fun r33 =>
  bnd (ixS 1 r32.1 r33.1 r33.2) fun r34 =>
  bnd (ldC r34.1 r34.2) fun r35 =>
  bnd (oMv x0 r35.2) fun r36 =>
  bnd (oNilCheck r36.1 r36.2) fun r37 =>
  bnd (faO 0 r37.1 r37.2) fun r38 =>
  bnd (ldC r38.1 r38.2) fun r39 =>
  bnd (oMv x2 r39.2) fun r40 =>
  bnd (ixS 1 r39.1 r40.1 r40.2) fun r41 =>
  bnd (ldC r41.1 r41.2) fun r42 =>
  bnd (oMv x1 r42.2) fun r43 =>
  bnd (oMv x2 r43.2) fun r44 =>
  bnd (oNilCheck r35.1 r44.2) fun r45 =>
  bnd (faO 2 r45.1 r45.2) fun r46 =>
  bnd (stV 1 r46.1 r43.1 r46.2) fun r47 =>
  bnd (oNilCheck r42.1 r47.2) fun r48 =>
  bnd (faO 2 r48.1 r48.2) fun r49 =>
  bnd (stV 1 r49.1 r44.1 r49.2) fun r50 =>
  oRes Try.prog [] r50.2
theorem heaps_pileint_Swap_eq (call : Eng.Callee) (x0 x1 x2 : Value) (W : AW) : kFun Try.prog call 52 (cod 193) (rss 193) [x0, x1, x2] W = heaps_pileint_Swap call x0 x1 x2 W := by kernel_rfl
theorem heaps_pileint_Swap_om {x0 x1 x2 : Value} {W : AW} {r : Value × AW} (h : heaps_pileint_Swap omS x0 x1 x2 W = some r) : omS (.func (.func 193) #[] #[]) [x0, x1, x2] W = some (gc W r) := om_of (nt := 52) (n := 3) (by kernel_rfl) (by kernel_rfl) rfl ((heaps_pileint_Swap_eq omS x0 x1 x2 W).trans h)
noncomputable def heaps_pilelaw06_Name_Len (call : Eng.Callee) (x0 : Value) (W : AW) : Option (Value × AW) :=
  bnd (oMv (.int .i64 0) W) fun r1 =>
  bnd (oMv x0 r1.2) fun r2 =>
  bnd (oNilCheck r2.1 r2.2) fun r3 =>
  bnd (faO 0 r3.1 r3.2) fun r4 =>
  bnd (ldC r4.1 r4.2) fun r5 =>
  bnd (oBuiltin Try.prog .len #[135] 3 #[false] [r5.1] r5.2) fun r6 =>
  bnd (oMv r6.1 r6.2) fun r7 =>
  oRes Try.prog [(r7.1, none)] r7.2
theorem heaps_pilelaw06_Name_Len_eq (call : Eng.Callee) (x0 : Value) (W : AW) : kFun Try.prog call 8 (cod 195) (rss 195) [x0] W = heaps_pilelaw06_Name_Len call x0 W := by kernel_rfl
theorem heaps_pilelaw06_Name_Len_om {x0 : Value} {W : AW} {r : Value × AW} (h : heaps_pilelaw06_Name_Len omS x0 W = some r) : omS (.func (.func 195) #[] #[]) [x0] W = some (gc W r) := om_of (nt := 8) (n := 1) (by kernel_rfl) (by kernel_rfl) rfl ((heaps_pilelaw06_Name_Len_eq omS x0 W).trans h)
noncomputable def heaps_pilelaw06_Name_Less (call : Eng.Callee) (x0 x1 x2 : Value) (W : AW) : Option (Value × AW) :=
  bnd (oMv (.bool false) W) fun r1 =>
  bnd (oMv x0 r1.2) fun r2 =>
  bnd (oMv x0 r2.2) fun r3 =>
  bnd (oNilCheck r3.1 r3.2) fun r4 =>
  bnd (faO 0 r4.1 r4.2) fun r5 =>
  bnd (ldC r5.1 r5.2) fun r6 =>
  bnd (oMv x1 r6.2) fun r7 =>
  bnd (ixS 1 r6.1 r7.1 r7.2) fun r8 =>
  bnd (ldC r8.1 r8.2) fun r9 =>
  bnd (oMv x0 r9.2) fun r10 =>
  bnd (oNilCheck r10.1 r10.2) fun r11 =>
  bnd (faO 0 r11.1 r11.2) fun r12 =>
  bnd (ldC r12.1 r12.2) fun r13 =>
  bnd (oMv x2 r13.2) fun r14 =>
  bnd (ixS 1 r13.1 r14.1 r14.2) fun r15 =>
  bnd (ldC r15.1 r15.2) fun r16 =>
  bnd (call (fnV 200) [r2.1, r9.1, r16.1] r16.2) fun r17 =>
  bnd (oMv r17.1 r17.2) fun r18 =>
  oRes Try.prog [(r18.1, none)] r18.2
theorem heaps_pilelaw06_Name_Less_eq (call : Eng.Callee) (x0 x1 x2 : Value) (W : AW) : kFun Try.prog call 23 (cod 196) (rss 196) [x0, x1, x2] W = heaps_pilelaw06_Name_Less call x0 x1 x2 W := by kernel_rfl
theorem heaps_pilelaw06_Name_Less_om {x0 x1 x2 : Value} {W : AW} {r : Value × AW} (h : heaps_pilelaw06_Name_Less omS x0 x1 x2 W = some r) : omS (.func (.func 196) #[] #[]) [x0, x1, x2] W = some (gc W r) := om_of (nt := 23) (n := 3) (by kernel_rfl) (by kernel_rfl) rfl ((heaps_pilelaw06_Name_Less_eq omS x0 x1 x2 W).trans h)
noncomputable def heaps_pilelaw06_Name_Pop (call : Eng.Callee) (x0 : Value) (W : AW) : Option (Value × AW) :=
  bnd (oMv .nilIface W) fun r1 =>
  bnd (oMv x0 r1.2) fun r2 =>
  bnd (oNilCheck r2.1 r2.2) fun r3 =>
  bnd (faO 0 r3.1 r3.2) fun r4 =>
  bnd (ldC r4.1 r4.2) fun r5 =>
  bnd (oBuiltin Try.prog .len #[135] 3 #[false] [r5.1] r5.2) fun r6 =>
  bnd (oBin Try.prog .sub 3 false true r6.1 (.int .i64 1) r6.2) fun r7 =>
  bnd (oMv r7.1 r7.2) fun r8 =>
  bnd (oMv x0 r8.2) fun r9 =>
  bnd (oNilCheck r9.1 r9.2) fun r10 =>
  bnd (faO 0 r10.1 r10.2) fun r11 =>
  bnd (ldC r11.1 r11.2) fun r12 =>
  bnd (oMv r8.1 r12.2) fun r13 =>
  bnd (ixS 1 r12.1 r13.1 r13.2) fun r14 =>
  bnd (ldC r14.1 r14.2) fun r15 =>
  bnd (oMv r15.1 r15.2) fun r16 =>
  bnd (oMv x0 r16.2) fun r17 =>
  bnd (oNilCheck r17.1 r17.2) fun r18 =>
  bnd (faO 0 r18.1 r18.2) fun r19 =>
  bnd (ldC r19.1 r19.2) fun r20 =>
  bnd (oMv r8.1 r20.2) fun r21 =>
  bnd (ixS 1 r20.1 r21.1 r21.2) fun r22 =>
  bnd (stV 1 r22.1 (.pointer none) r22.2) fun r23 =>
  bnd (oMv x0 r23.2) fun r24 =>
  bnd (oMv x0 r24.2) fun r25 =>
  bnd (oNilCheck r25.1 r25.2) fun r26 =>
  bnd (faO 0 r26.1 r26.2) fun r27 =>
  bnd (ldC r27.1 r27.2) fun r28 =>
  bnd (oMv r8.1 r28.2) fun r29 =>
  bnd (oSlice Try.prog 135 r28.1 none (some r29.1) none r29.2) fun r30 =>
  bnd (oNilCheck r24.1 r30.2) fun r31 =>
  bnd (faO 0 r31.1 r31.2) fun r32 =>
  bnd (stV 1 r32.1 r30.1 r32.2) fun r33 =>
  bnd (oMv r16.1 r33.2) fun r34 =>
  bnd (oMkIface Try.prog 141 r34.1 r34.2) fun r35 =>
  bnd (oMv r35.1 r35.2) fun r36 =>
  oRes Try.prog [(r36.1, none)] r36.2
theorem heaps_pilelaw06_Name_Pop_eq (call : Eng.Callee) (x0 : Value) (W : AW) : kFun Try.prog call 35 (cod 197) (rss 197) [x0] W = heaps_pilelaw06_Name_Pop call x0 W := by kernel_rfl
theorem heaps_pilelaw06_Name_Pop_om {x0 : Value} {W : AW} {r : Value × AW} (h : heaps_pilelaw06_Name_Pop omS x0 W = some r) : omS (.func (.func 197) #[] #[]) [x0] W = some (gc W r) := om_of (nt := 35) (n := 1) (by kernel_rfl) (by kernel_rfl) rfl ((heaps_pilelaw06_Name_Pop_eq omS x0 W).trans h)
noncomputable def heaps_pilelaw06_Name_Push (call : Eng.Callee) (x0 x1 : Value) (W : AW) : Option (Value × AW) :=
  bnd (oMv x1 W) fun r1 =>
  bnd (oAssert Try.prog r1.1 141 false r1.2) fun r2 =>
  bnd (oMv r2.1 r2.2) fun r3 =>
  bnd (oMv r3.1 r3.2) fun r4 =>
  bnd (oMv x0 r4.2) fun r5 =>
  bnd (oNilCheck r5.1 r5.2) fun r6 =>
  bnd (faO 0 r6.1 r6.2) fun r7 =>
  bnd (ldC r7.1 r7.2) fun r8 =>
  bnd (oBuiltin Try.prog .len #[135] 3 #[false] [r8.1] r8.2) fun r9 =>
  bnd (oNilCheck r4.1 r9.2) fun r10 =>
  bnd (faO 3 r10.1 r10.2) fun r11 =>
  bnd (stV 1 r11.1 r9.1 r11.2) fun r12 =>
  bnd (oMv x0 r12.2) fun r13 =>
  bnd (oMv x0 r13.2) fun r14 =>
  bnd (oNilCheck r14.1 r14.2) fun r15 =>
  bnd (faO 0 r15.1 r15.2) fun r16 =>
  bnd (ldC r16.1 r16.2) fun r17 =>
  bnd (oMv r3.1 r17.2) fun r18 =>
  bnd (oBuildSlice Try.prog 135 1 [(0, r18.1)] r18.2) fun r19 =>
  bnd (aAppend Try.prog r19.2 #[135, 135] r17.1 r19.1) fun r20 =>
  bnd (oNilCheck r13.1 r20.2) fun r21 =>
  bnd (faO 0 r21.1 r21.2) fun r22 =>
  bnd (stV 1 r22.1 r20.1 r22.2) fun r23 =>
  oRes Try.prog [] r23.2
theorem heaps_pilelaw06_Name_Push_eq (call : Eng.Callee) (x0 x1 : Value) (W : AW) : kFun Try.prog call 25 (cod 198) (rss 198) [x0, x1] W = heaps_pilelaw06_Name_Push call x0 x1 W := by kernel_rfl
theorem heaps_pilelaw06_Name_Push_om {x0 x1 : Value} {W : AW} {r : Value × AW} (h : heaps_pilelaw06_Name_Push omS x0 x1 W = some r) : omS (.func (.func 198) #[] #[]) [x0, x1] W = some (gc W r) := om_of (nt := 25) (n := 2) (by kernel_rfl) (by kernel_rfl) rfl ((heaps_pilelaw06_Name_Push_eq omS x0 x1 W).trans h)
noncomputable def heaps_pilelaw06_Name_Swap (call : Eng.Callee) (x0 x1 x2 : Value) (W : AW) : Option (Value × AW) :=
  bnd (oMv x0 W) fun r1 =>
  bnd (oNilCheck r1.1 r1.2) fun r2 =>
  bnd (faO 0 r2.1 r2.2) fun r3 =>
  bnd (ldC r3.1 r3.2) fun r4 =>
  bnd (oMv x1 r4.2) fun r5 =>
  bnd (oMv x0 r5.2) fun r6 =>
  bnd (oNilCheck r6.1 r6.2) fun r7 =>
  bnd (faO 0 r7.1 r7.2) fun r8 =>
  bnd (ldC r8.1 r8.2) fun r9 =>
  bnd (oMv x2 r9.2) fun r10 =>
  bnd (oMv x0 r10.2) fun r11 =>
  bnd (oNilCheck r11.1 r11.2) fun r12 =>
  bnd (faO 0 r12.1 r12.2) fun r13 =>
  bnd (ldC r13.1 r13.2) fun r14 =>
  bnd (oMv x2 r14.2) fun r15 =>
  bnd (ixS 1 r14.1 r15.1 r15.2) fun r16 =>
  bnd (ldC r16.1 r16.2) fun r17 =>
  bnd (oMv x0 r17.2) fun r18 =>
  bnd (oNilCheck r18.1 r18.2) fun r19 =>
  bnd (faO 0 r19.1 r19.2) fun r20 =>
  bnd (ldC r20.1 r20.2) fun r21 =>
  bnd (oMv x1 r21.2) fun r22 =>
  bnd (ixS 1 r21.1 r22.1 r22.2) fun r23 =>
  bnd (ldC r23.1 r23.2) fun r24 =>
  bnd (ixS 1 r4.1 r5.1 r24.2) fun r25 =>
  bnd (stV 1 r25.1 r17.1 r25.2) fun r26 =>
  bnd (ixS 1 r9.1 r10.1 r26.2) fun r27 =>
  bnd (stV 1 r27.1 r24.1 r27.2) fun r28 =>
  bnd (oMv x0 r28.2) fun r29 =>
  bnd (oNilCheck r29.1 r29.2) fun r30 =>
  bnd (faO 0 r30.1 r30.2) fun r31 =>
  bnd (ldC r31.1 r31.2) fun r32 =>
  bnd (oMv x1 r32.2) fun r33 =>
  bnd (ixS 1 r32.1 r33.1 r33.2) fun r34 =>
  bnd (ldC r34.1 r34.2) fun r35 =>
  bnd (oMv x0 r35.2) fun r36 =>
  bnd (oNilCheck r36.1 r36.2) fun r37 =>
  bnd (faO 0 r37.1 r37.2) fun r38 =>
  bnd (ldC r38.1 r38.2) fun r39 =>
  bnd (oMv x2 r39.2) fun r40 =>
  bnd (ixS 1 r39.1 r40.1 r40.2) fun r41 =>
  bnd (ldC r41.1 r41.2) fun r42 =>
  bnd (oMv x1 r42.2) fun r43 =>
  bnd (oMv x2 r43.2) fun r44 =>
  bnd (oNilCheck r35.1 r44.2) fun r45 =>
  bnd (faO 3 r45.1 r45.2) fun r46 =>
  bnd (stV 1 r46.1 r43.1 r46.2) fun r47 =>
  bnd (oNilCheck r42.1 r47.2) fun r48 =>
  bnd (faO 3 r48.1 r48.2) fun r49 =>
  bnd (stV 1 r49.1 r44.1 r49.2) fun r50 =>
  oRes Try.prog [] r50.2
theorem heaps_pilelaw06_Name_Swap_eq (call : Eng.Callee) (x0 x1 x2 : Value) (W : AW) : kFun Try.prog call 52 (cod 199) (rss 199) [x0, x1, x2] W = heaps_pilelaw06_Name_Swap call x0 x1 x2 W := by kernel_rfl
theorem heaps_pilelaw06_Name_Swap_om {x0 x1 x2 : Value} {W : AW} {r : Value × AW} (h : heaps_pilelaw06_Name_Swap omS x0 x1 x2 W = some r) : omS (.func (.func 199) #[] #[]) [x0, x1, x2] W = some (gc W r) := om_of (nt := 52) (n := 3) (by kernel_rfl) (by kernel_rfl) rfl ((heaps_pilelaw06_Name_Swap_eq omS x0 x1 x2 W).trans h)
noncomputable def heaps_pilelaw06_Name_before (call : Eng.Callee) (x0 x1 x2 : Value) (W : AW) : Option (Value × AW) :=
  bnd (oMv (.bool false) W) fun r1 =>
  bnd (oMv x0 r1.2) fun r2 =>
  bnd (oNilCheck r2.1 r2.2) fun r3 =>
  bnd (faO 1 r3.1 r3.2) fun r4 =>
  bnd (ldC r4.1 r4.2) fun r5 =>
  bnd (oMv x1 r5.2) fun r6 =>
  bnd (oNilCheck r6.1 r6.2) fun r7 =>
  bnd (faO 1 r7.1 r7.2) fun r8 =>
  bnd (ldA 2 r8.1 r8.2) fun r9 =>
  bnd (oMv x2 r9.2) fun r10 =>
  bnd (oNilCheck r10.1 r10.2) fun r11 =>
  bnd (faO 1 r11.1 r11.2) fun r12 =>
  bnd (ldA 2 r12.1 r12.2) fun r13 =>
  bnd (call r5.1 [r9.1, r13.1] r13.2) fun r14 =>
  bnd (oMv r14.1 r14.2) fun r15 =>
  vIf r15.1 (
    bnd (oMv (.bool true) r15.2) fun r16 =>
    oRes Try.prog [(r16.1, none)] r16.2) (
    bnd (oMv x0 r15.2) fun r17 =>
    bnd (oNilCheck r17.1 r17.2) fun r18 =>
    bnd (faO 1 r18.1 r18.2) fun r19 =>
    bnd (ldC r19.1 r19.2) fun r20 =>
    bnd (oMv x2 r20.2) fun r21 =>
    bnd (oNilCheck r21.1 r21.2) fun r22 =>
    bnd (faO 1 r22.1 r22.2) fun r23 =>
    bnd (ldA 2 r23.1 r23.2) fun r24 =>
    bnd (oMv x1 r24.2) fun r25 =>
    bnd (oNilCheck r25.1 r25.2) fun r26 =>
    bnd (faO 1 r26.1 r26.2) fun r27 =>
    bnd (ldA 2 r27.1 r27.2) fun r28 =>
    bnd (call r20.1 [r24.1, r28.1] r28.2) fun r29 =>
    bnd (oMv r29.1 r29.2) fun r30 =>
    vIf r30.1 (
      bnd (oMv (.bool false) r30.2) fun r31 =>
      oRes Try.prog [(r31.1, none)] r31.2) (
      bnd (oMv x1 r30.2) fun r32 =>
      bnd (oNilCheck r32.1 r32.2) fun r33 =>
      bnd (faO 0 r33.1 r33.2) fun r34 =>
      bnd (ldC r34.1 r34.2) fun r35 =>
      bnd (oMv x2 r35.2) fun r36 =>
      bnd (oNilCheck r36.1 r36.2) fun r37 =>
      bnd (faO 0 r37.1 r37.2) fun r38 =>
      bnd (ldC r38.1 r38.2) fun r39 =>
      bnd (oBin Try.prog .lss 2 false false r35.1 r39.1 r39.2) fun r40 =>
      bnd (oMv r40.1 r40.2) fun r41 =>
      oRes Try.prog [(r41.1, none)] r41.2))
theorem heaps_pilelaw06_Name_before_eq (call : Eng.Callee) (x0 x1 x2 : Value) (W : AW) : kFun Try.prog call 44 (cod 200) (rss 200) [x0, x1, x2] W = heaps_pilelaw06_Name_before call x0 x1 x2 W := by kernel_rfl
theorem heaps_pilelaw06_Name_before_om {x0 x1 x2 : Value} {W : AW} {r : Value × AW} (h : heaps_pilelaw06_Name_before omS x0 x1 x2 W = some r) : omS (.func (.func 200) #[] #[]) [x0, x1, x2] W = some (gc W r) := om_of (nt := 44) (n := 3) (by kernel_rfl) (by kernel_rfl) rfl ((heaps_pilelaw06_Name_before_eq omS x0 x1 x2 W).trans h)
end Go.Proofs.Ytkpgmabebjmahaa
